import Derived.Test.YtjlfgmhmalbiiaaGreatDoorX38
set_option linter.all false
set_option maxHeartbeats 16000000
open Array renaming toList → Ac
open Bool renaming false_and → Ai, not_false → Aj, not_true → Ak, true_and → Al
open List renaming mem_singleton → Aa, length_map → Ae, getElem?_eq_some_iff → Af, take_of_length_le → Ag
open Nat renaming reduceAdd → Ab, le_trans → Ad, le_refl → Am, zero_le → An
open Rat renaming intCast_inj → Ah
namespace Go.Proofs.Vx
open Go Go.Sx Go.Proofs Tryz
attribute [local irreducible] fnT CallOK CallFr AW aK callV aL aJ aI aM gcaseP hid callY XOK
theorem c4x:zeT prog 184=some [.lit (.nilFunc)]:=by kernel_rfl
attribute [go_sem] c4x
def sgL (i:Nat):Nat:=if i=0 then 9 else if i=1 then 8 else i
def tuL (i:Nat):Nat:=if i=9 then 0 else if i=8 then 1 else i
abbrev kV (k0:Int) (N:List TN) (x:Pt) (L:Nat) (lp:AV) (s a:Bool):List (Nat × AV):=[(9,.blk [.clo 172 [.fp (eTr k0 N),.loc 8 0,.fp (eP x),.loc 9 0]]),(8,.blk [.lit (.func (.yield L) #[] #[])]),(4,lp),(5,.blk [.lit (.bool s)]),(6,.blk [.lit (.bool a)])]
abbrev argM (k0:Int) (N:List TN) (x:Pt) (k n:Int):List AV:=[.lit (.int .i64 k),.lit (.int .i64 n),.fp (eTr k0 N),.loc 8 0,.fp (eP x),.loc 9 0]
theorem tpL (k0:Int) (N:List TN) (x:Pt) (L:Nat) (lp:AV) (hlt:g7 (fun i=>i∈[0,1,4,5,6]) lp) (s a:Bool):∀ p∈iY k0 N x L lp s a,g7 (fun i=>i∈[0,1,4,5,6]) p.2:=by
 intro p hp
 simp only[zM,or_false]at hp
 rcases hp with rfl|rfl|rfl|rfl|rfl
 ·intro c hc
  obtain rfl:=Aa.1 hc
  intro y hy
  simp only[zM,or_false]at hy
  rcases hy with rfl|rfl|rfl|rfl
  ·exact cJ _ _
  ·simp[fU]
  ·exact mK _
  ·simp[fU]
 ·intro c hc
  obtain rfl:=Aa.1 hc
  exact .lit _
 ·exact hlt
 ·intro c hc
  obtain rfl:=Aa.1 hc
  exact .lit _
 ·intro c hc
  obtain rfl:=Aa.1 hc
  exact .lit _
theorem renM {k0:Int} {N:List TN} {x:Pt} {k n:Int} {L:Nat} {lp:AV} (hlt:g7 (fun i=>i∈[0,1,4,5,6]) lp) (hrn:rnC sgL lp=lp) {s a s' a':Bool} (h:CallOK prog 172 (argL k0 N x k n) (iY k0 N x L lp s a) (.lit (.bool true)) (iY k0 N x L lp s' a')):CallOK prog 172 (argM k0 N x k n) (kV k0 N x L lp s a) (.lit (.bool true)) (kV k0 N x L lp s' a'):=by
 have:=h.renG sgL tuL (fun p hp=>by
  simp only[zM,or_false]at hp
  rcases hp with rfl|rfl|rfl|rfl|rfl<;>rfl) (fun p hp=>tpL k0 N x L lp hlt s a p hp) (fun p hp=>by
  refine⟨?_,tpL k0 N x L lp hlt s' a' p hp⟩
  simp only[zM,or_false]at hp
  rcases hp with rfl|rfl|rfl|rfl|rfl<;>simp) (.lit _) (fun y hy=>by
  simp only[zM,or_false]at hy
  rcases hy with rfl|rfl|rfl|rfl|rfl|rfl
  ·exact .lit _
  ·exact .lit _
  ·exact cJ _ _
  ·show (1:Nat)∈[0,1,4,5,6];decide
  ·exact mK _
  ·show (0:Nat)∈[0,1,4,5,6];decide)
 have e1:∀ s a,rnL sgL (iY k0 N x L lp s a)=kV k0 N x L lp s a:=fun s a=>by
  show [_,_,(4,rnC sgL lp),_,_]=_
  rw[hrn];rfl
 rw[e1,e1]at this
 exact this
theorem obM (k0:Int) (N:List TN) (x:Pt) (L:Nat) (lp:AV) (hlp:InC (fun i=>i∈[9,8,4,5,6]) lp) (s a s' a':Bool):∀ p∈kV k0 N x L lp s' a',p.1∈(kV k0 N x L lp s a).map (·.1)∧InC (fun i=>i∈(kV k0 N x L lp s a).map (·.1)) p.2:=by
 intro p hp
 simp only[zM,or_false]at hp
 rcases hp with rfl|rfl|rfl|rfl|rfl
 ·refine⟨by simp,fun c hc=>?_⟩
  obtain rfl:=Aa.1 hc
  refine .clo _ _ fun x hx=>?_
  simp only[zM,or_false]at hx
  rcases hx with rfl|rfl|rfl|rfl
  ·exact cJ _ _
  ·exact .loc _ _ (by simp)
  ·exact mK _
  ·exact .loc _ _ (by simp)
 ·refine⟨by simp,fun c hc=>?_⟩
  obtain rfl:=Aa.1 hc
  exact .lit _
 ·exact⟨by simp,hlp⟩
 ·refine⟨by simp,fun c hc=>?_⟩
  obtain rfl:=Aa.1 hc
  exact .lit _
 ·refine⟨by simp,fun c hc=>?_⟩
  obtain rfl:=Aa.1 hc
  exact .lit _
theorem callM {k0:Int} {N:List TN} {x:Pt} {k n:Int} {L:Nat} {lp:AV} (hlp:InC (fun i=>i∈[9,8,4,5,6]) lp) (hll:lp.live=true) {s a s' a':Bool} {i:Nat} {ob:Nat→AV} {E:Eff→Prop} (hf:fnT prog 172=true) (hc:CallOK prog 172 (argM k0 N x k n) (kV k0 N x L lp s a) (.lit (.bool true)) (kV k0 N x L lp s' a')) (hob:∀ p∈kV k0 N x L lp s a,ob p.1=p.2) (h:E ⟨.lit (.bool true),kV k0 N x L lp s' a',[9,8,4,5,6]⟩):callV prog 172 (argM k0 N x k n) i ob E :=
 lI _ _ _ hf hc hob (by
  intro y hy
  simp only[zM,or_false]at hy
  rcases hy with rfl|rfl|rfl|rfl|rfl|rfl
  ·exact .lit _
  ·exact .lit _
  ·exact cJ _ _
  ·exact .loc _ _ (by simp)
  ·exact mK _
  ·exact .loc _ _ (by simp)) (fun p hp=>(obM k0 N x L lp hlp s a s a p hp).2) (show ([9,8,4,5,6]:List Nat).Nodup by decide) (.lit _) (obM k0 N x L lp hlp s a s' a') rfl (by
  intro p hp
  simp only[zM,or_false]at hp
  rcases hp with rfl|rfl|rfl|rfl|rfl<;>first|rfl|exact hll) h
set_option maxRecDepth 20000 in
theorem c171 (k0 : Int) (N : List TN) (hN : N.length ≤ 14) (hP : ∀ n ∈ N, BPl 6 n.1) (x : Pt) (hx : BPt 268435456 x) (L : Nat) (lp : AV) (hlp3 : InC (fun i => i ∈ [4, 5, 6]) lp) (hlp : InC (fun i => i ∈ [0, 1, 4, 5, 6]) lp) (hlm : InC (fun i => i ∈ [9, 8, 4, 5, 6]) lp) (hlt : g7 (fun i => i ∈ [0, 1, 4, 5, 6]) lp) (hrn : rnC sgL lp = lp) (hll : lp.live = true)
  (hy:∀ (k:Int) (s a:Bool),k=-1∨k=0→XOK prog (MY prog L) [.lit (.int .i64 k)] (fV lp s a) (.lit (.bool true)) (fV lp (s||decide (k=-1)) (a&&decide (k=-1)))) (T:BT) (hr:Rep N T k0) (hh:T.ht≤N.length) (s a:Bool) :
  CallOK prog 171 [.lit (.func (.yield L) #[] #[]),.fp (eTr k0 N),.fp (eP x)] (fV lp s a) (.tup []) (fV lp (fS s (T.leaves x)) (fA a (T.leaves x))):=by
 have hl:(eTS N).length=N.length:=jU N
 have cw:=renM hlt hrn (c172 k0 N hN hP x hx L lp hlp hlp3 hll hy T k0 N.length s a hr hh hN)
 clear hy hr hh hP hx
 generalize fS s (T.leaves x)=s' at *
 generalize fA a (T.leaves x)=a' at *
 refine fL func171 rfl 13 rfl rfl (by simp) (.tup _ (by simp)) (by
  intro p hp
  simp only[zM,or_false]at hp
  rcases hp with rfl|rfl|rfl
  ·exact⟨by simp,hlp3⟩
  ·refine⟨by simp,fun c hc=>?_⟩
   obtain rfl:=Aa.1 hc
   exact .lit _
  ·refine⟨by simp,fun c hc=>?_⟩
   obtain rfl:=Aa.1 hc
   exact .lit _) [] (congrArg Ac results171) ?_
 simp only[aD,Ab]
 repeat'(first|refine zk ?_|(refine zu ?_ ?_<;>intro hc)|(refine AW.nil (b9 ?_ (by intro p hp;simp only[zM,or_false]at hp;rcases hp with rfl|rfl|rfl<;>rfl))<;>simp -dsimp (disch:=try exact zo)only[go_sem])|(refine callM hlm hll lW cw (by intro p hp;simp only[zM,or_false]at hp;rcases hp with rfl|rfl|rfl|rfl|rfl<;>rfl) ?_)|(refine zv ?_ ?_<;>intro hg)|omega|simp -dsimp (disch:=try exact zo)only[go_sem,hl]|contradiction|rfl)
set_option maxRecDepth 20000 in
theorem c107 (k0:Int) (N:List TN) (x:Pt):CallOK prog 107 [.agg (eTr k0 N),.agg (eP x)] [] (.clo 171 [.fp (eTr k0 N),.fp (eP x)]) []:=by
 refine fF func107 rfl 6 rfl rfl (.clo _ _ (by
  intro y hy
  simp only[zM,or_false]at hy
  rcases hy with rfl|rfl
  ·exact cJ _ _
  ·exact mK _)) [.tmp 4] (congrArg Ac results107) ?_
 simp only[aD,Ab]
 exact z1
end Go.Proofs.Vx
namespace Go.Proofs.Vx
open Go Go.Sx Go.Proofs Tryz
attribute [local irreducible] fnT CallOK CallFr AW aK callV aL aJ aI aM gcaseP hid callY XOK
def pE (T:BT) (x:Pt):Int:=if rZ x<0 then -1 else if fS false (T.leaves x)=false then -1 else if fA true (T.leaves x)=true∧0<rZ x then 1 else 0
abbrev tsI:List AV:=[.any,.any,.any,.any,.any,.any,.loc 5 0,.loc 6 0]
abbrev tsO:List AV:=[.any,.any,.any,.any,.any,.any,.loc 16 0,.loc 17 0]
theorem a1t {K:Nat→Prop} (h5:K 5) (h6:K 6):∀ c∈tsI,In K c:=by
 intro c hc
 simp only[zM,or_false]at hc
 rcases hc with rfl|rfl|rfl|rfl|rfl|rfl|rfl|rfl
 ·exact .any
 ·exact .any
 ·exact .any
 ·exact .any
 ·exact .any
 ·exact .any
 ·exact .loc _ _ h5
 ·exact .loc _ _ h6
theorem c9t {K:Nat→Prop} (h5:K 16) (h6:K 17):∀ c∈tsO,In K c:=by
 intro c hc
 simp only[zM,or_false]at hc
 rcases hc with rfl|rfl|rfl|rfl|rfl|rfl|rfl|rfl
 ·exact .any
 ·exact .any
 ·exact .any
 ·exact .any
 ·exact .any
 ·exact .any
 ·exact .loc _ _ h5
 ·exact .loc _ _ h6
theorem a8r {K:Nat→Prop} (h5:K 5) (h6:K 6):∀ c∈tsI,iJ K c:=by
 intro c hc
 simp only[zM,or_false]at hc
 rcases hc with rfl|rfl|rfl|rfl|rfl|rfl|rfl|rfl
 ·exact .any
 ·exact .any
 ·exact .any
 ·exact .any
 ·exact .any
 ·exact .any
 ·exact h5
 ·exact h6
abbrev preZ (r:Nat) (lp:AV) (s a:Bool):List (Nat × AV):=[(r,lp),(16,.blk [.lit (.bool s)]),(17,.blk [.lit (.bool a)])]
theorem renZ {k0:Int} {N:List TN} {x:Pt} {L fn nt r:Nat} {ps:List Nat} {asg body:Code} (hr:17<r) {s a s' a':Bool} (h:CallOK prog 171 [.lit (.func (.yield L) #[] #[]),.fp (eTr k0 N),.fp (eP x)] (fV (.lpo L fn nt ps asg body tsI) s a) (.tup []) (fV (.lpo L fn nt ps asg body tsI) s' a')):CallOK prog 171 [.lit (.func (.yield L) #[] #[]),.fp (eTr k0 N),.fp (eP x)] (preZ r (.lpo L fn nt ps asg body tsO) s a) (.tup []) (preZ r (.lpo L fn nt ps asg body tsO) s' a'):=by
 have tp:∀ s a,∀ p∈fV (.lpo L fn nt ps asg body tsI) s a,g7 (fun i=>i∈[4,5,6]) p.2:=fun s a p hp=>by
  simp only[zM,or_false]at hp
  rcases hp with rfl|rfl|rfl
  ·exact a8r (by simp) (by simp)
  ·intro c hc
   obtain rfl:=Aa.1 hc
   exact .lit _
  ·intro c hc
   obtain rfl:=Aa.1 hc
   exact .lit _
 have:=h.renG (fun i=>if i=4 then r else if i=5 then 16 else 17) (fun i=>if i=16 then 5 else if i=17 then 6 else 4) (fun p hp=>by
  simp only[zM,or_false]at hp
  rcases hp with rfl|rfl|rfl
  ·show (if r=16 then 5 else if r=17 then 6 else 4)=4
   rw[if_neg (by omega),if_neg (by omega)]
  ·rfl
  ·rfl) (fun p hp=>tp s a p hp) (fun p hp=>by
  refine⟨?_,tp s' a' p hp⟩
  simp only[zM,or_false]at hp
  rcases hp with rfl|rfl|rfl<;>simp) (.tup _ (by simp)) (fun y hy=>by
  simp only[zM,or_false]at hy
  rcases hy with rfl|rfl|rfl
  ·exact .lit _
  ·exact cJ _ _
  ·exact mK _)
 exact this
theorem c171z {k0 : Int} {N : List TN} (hN : N.length ≤ 14) (hP : ∀ n ∈ N, BPl 6 n.1) {x : Pt} (hx : BPt 268435456 x) {L fn nt : Nat} {ps : List Nat} {asg body : Code} (hy : ∀ (k : Int) (s a : Bool), k = -1 ∨ k = 0 → XOK prog (MY prog L) [.lit (.int .i64 k)] (fV (.lpo L fn nt ps asg body tsI) s a) (.lit (.bool true)) (fV (.lpo L fn nt ps asg body tsI) (s || decide (k = -1)) (a && decide (k = -1)))) {T : BT} (hr : Rep N T k0) (hh : T.ht ≤ N.length) (s a : Bool) :
  CallOK prog 171 [.lit (.func (.yield L) #[] #[]),.fp (eTr k0 N),.fp (eP x)] (fV (.lpo L fn nt ps asg body tsI) s a) (.tup []) (fV (.lpo L fn nt ps asg body tsI) (fS s (T.leaves x)) (fA a (T.leaves x))) :=
 c171 k0 N hN hP x hx L (.lpo L fn nt ps asg body tsI) (a1t (by simp) (by simp)) (a1t (by simp) (by simp)) (a1t (by simp) (by simp)) (a8r (by simp) (by simp)) rfl rfl hy T hr hh s a
theorem b2n (k0:Int) (N:List TN) (x:Pt) {K:Nat→Prop}:∀ y∈[AV.fp (eTr k0 N),AV.fp (eP x)],In K y:=by
 intro y hy
 simp only[zM,or_false]at hy
 rcases hy with rfl|rfl
 ·exact cJ _ _
 ·exact mK _
set_option maxRecDepth 20000 in
theorem c42 (k0:Int) (N:List TN) (T:BT) (h:TrB N k0 T) (x:Pt) (hx:BPt 268435456 x):CallOK prog 42 [.agg (eTr k0 N),.agg (eP x)] [] (.lit (.int .i64 (pE T x))) []:=by
 refine zs func42 36 [.tmp 4] results42 ?_
 simp only[aD,Ab]
 have ce:=c106 x hx
 have cl:=c107 k0 N x
 have hP:∀ n∈N,BPl 6 n.1:=fun n hn=>(h.b n hn).mono (by decide)
 have hh:T.ht≤N.length:=by have:=b2o T;rw[h.len]at this;exact this
 have hN:=h.n
 have hr:=h.rep
 clear h
 unfold pE
 have hec:=b0a x▸b8x x.w [x.x,x.y,x.z]
 generalize rZ x=e at *
 by_cases q:e<0
 ·have k1:(e<0)=True:=eq_true q
  rw[if_pos q]
  clear hr hh hP hx hec
  exact z1
 ·have k1:(e<0)=False:=eq_false q
  rw[if_neg q]
  replace hP:=Hid.mk hP
  repeat'(first|refine zk ?_|(refine zu ?_ ?_<;>intro hc)|(refine zq ce ?_)|(refine zp cl (by simp -dsimp (disch:=try exact zo)only[go_sem]) (.clo _ _ (b2n k0 N x)) ?_)|(refine zv ?_ ?_<;>intro hg)|omega|simp -dsimp (disch:=try exact zo)only[go_sem,k1]|contradiction|rfl)
  refine b9r (pre:=[(16,.blk [.lit (.bool false)]),(17,.blk [.lit (.bool true)])]) (post:=[(16,.blk [.lit (.bool (fS false (T.leaves x)))]),(17,.blk [.lit (.bool (fA true (T.leaves x)))])]) tsO (f:=171) (caps:=[.fp (eTr k0 N),.fp (eP x)]) ?_ ?_ ?_ ?_ ?_ ?_ ?_ ?_ ?_ ?_ ?_ ?_ ?_ ?_
  ·kernel_rfl
  ·rfl
  ·exact fun t=>match t with
    | 0=>.inl rfl
    | 1=>.inl rfl
    | 2=>.inl rfl
    | 3=>.inl rfl
    | 4=>.inl rfl
    | 5=>.inl rfl
    | 6=>.inr rfl
    | 7=>.inr rfl
    | _+8=>.inl rfl
  ·intro L fn
   refine renZ (by dsimp only;omega) (c171z hN hP.out hx (fun k s a hk=>?_) hr hh false true)
   refine c0s (pre:=[(5,.blk [.lit (.bool s)]),(6,.blk [.lit (.bool a)])]) (post:=[(5,.blk [.lit (.bool (s||decide (k=-1)))]),(6,.blk [.lit (.bool (a&&decide (k=-1)))])]) (by simp) (by decide) (by simp) rfl (by simp) (by
    intro p hp
    simp only[zM,or_false]at hp
    rcases hp with rfl|rfl
    ·refine⟨by simp,fun c hc=>?_⟩
     obtain rfl:=Aa.1 hc
     exact .lit _
    ·refine⟨by simp,fun c hc=>?_⟩
     obtain rfl:=Aa.1 hc
     exact .lit _) ?_
   simp only[aD,Ab,r9]
   clear hr hh hP hx hec ce cl
   rcases hk with rfl|rfl<;>cases s<;>cases a
   all_goals repeat'(first|refine AW.stop ?_|refine zk ?_|(refine zu ?_ ?_<;>intro hc)|(refine zv ?_ ?_<;>intro hg)|omega|simp -dsimp (disch:=try exact zo)only[go_sem]|contradiction|rfl)
   all_goals
    intro p hp
    simp only[zM,or_false]at hp
    rcases hp with rfl|rfl<;>rfl
  ·intro p hp
   simp only[zM,or_false]at hp
   rcases hp with rfl|rfl<;>rfl
  ·exact b2n k0 N x
  ·intro p hp
   simp only[zM,or_false]at hp
   rcases hp with rfl|rfl<;>intro c hc<;>obtain rfl:=Aa.1 hc<;>exact .lit _
  ·exact c9t (by simp) (by simp)
  ·show ([16,17]:List Nat).Nodup
   decide
  ·intro p hp
   simp only[zM,or_false]at hp
   rcases hp with rfl|rfl
   ·dsimp only;omega
   ·dsimp only;omega
  ·intro p hp
   simp only[zM,or_false]at hp
   rcases hp with rfl|rfl<;>refine⟨by simp,fun c hc=>?_⟩<;>obtain rfl:=Aa.1 hc<;>exact .lit _
  ·rfl
  ·intro p hp
   simp only[zM,or_false]at hp
   rcases hp with rfl|rfl<;>rfl
  ·clear hr hh hP hx ce cl
   generalize fS false (T.leaves x)=s at *
   generalize fA true (T.leaves x)=a at *
   dsimp only[List.cons_append,List.nil_append]
   have k2:(0<e)=(e=1):=propext (by omega)
   cases s
   ·rw[if_pos rfl]
    exact z1
   ·rw[if_neg (by decide)]
    cases a
    ·rw[if_neg (by simp)]
     exact z1
    ·by_cases q2:0<e
     ·have k2:(0<e)=True:=eq_true q2
      rw[if_pos ⟨rfl,q2⟩]
      exact z1
     ·have k2:(0<e)=False:=eq_false q2
      rw[if_neg (fun h=>q2 h.2)]
      exact z1
end Go.Proofs.Vx
namespace Go.Proofs.Vx
open Go Go.Sx Go.Proofs Tryz
attribute [local irreducible] fnT CallOK CallFr AW aK callV aL aJ aI aM gcaseP hid
theorem c9i:plT prog 79=some [(0,8),(8,1),(9,1)]:=by kernel_rfl
attribute [go_sem] c9i
def iV (p:Pl):Int:=if (aQ p aO).1=[]then 0 else if (aQ p aO).2=[]then -1 else 1
def iU (p:Pl):List TN:=if (aQ p aO).1=[]then []else if (aQ p aO).2=[]then []else [(p,-1,0)]
set_option maxRecDepth 20000 in
theorem c46 (p:Pl) (hp:BPl 100000 p):CallOK prog 46 [.agg (eH p)] [] (.agg (eTr (iV p) (iU p))) []:=by
 have hml:maxLen=9223372036854775807:=rfl
 have w0:=c57
 have hw:BdC aO:=a0a.mono (by decide) (by decide) (by decide)
 have sp:=c21x aO p (.inr pO) hw hp
 have hs:=a6u (.inr pO) a0a hp (by decide)
 have e1:=c103 (aQ p aO).1 (Ad hs.1.n (by decide))
 have e2:=c103 (aQ p aO).2 (Ad hs.2.n (by decide))
 have hz:eTS []=[]:=rfl
 have hone:eTS [(p,-1,0)]=[[.lit (.bool (Zn p.a)),.lit (.string (Zm p.a)),.lit (.bool (Zn p.b)),.lit (.string (Zm p.b)),.lit (.bool (Zn p.c)),.lit (.string (Zm p.c)),.lit (.bool (Zn p.d)),.lit (.string (Zm p.d)),.lit (.int .i64 (-1)),.lit (.int .i64 0)]]:=rfl
 unfold iV iU
 clear hs hw hp
 generalize (aQ p aO).1=A at *
 generalize (aQ p aO).2=B at *
 generalize aO=W at *
 simp only[eH,e4]at sp ⊢
 by_cases qA:A=[]
 ·rw[if_pos qA,if_pos qA]
  have:A.isEmpty=true:=by subst qA;rfl
  rw[this]at e1
  clear this qA
  refine CallOK.wk (r:=.agg [.lit (.int .i64 0),.lit (.slice none 0 0)]) ?_ (fun g v=>a8y)
  (refine fF func46 rfl 23 rfl rfl (.agg _ (by intro c hc;simp only[zM,or_false]at hc;rcases hc with rfl|rfl<;>exact .lit _)) [.cell 2 64] (congrArg Ac results46) ?_;simp only[aD,Ab])
  have zh0:=c49
  exact z1
 ·rw[if_neg qA,if_neg qA]
  have:A.isEmpty=false:=by simpa using qA
  rw[this]at e1
  clear this qA
  by_cases qB:B=[]
  ·rw[if_pos qB,if_pos qB]
   have:B.isEmpty=true:=by subst qB;rfl
   rw[this]at e2
   clear this qB
   (refine fF func46 rfl 23 rfl rfl (pA _ _) [.cell 2 64] (congrArg Ac results46) ?_;simp only[aD,Ab])
   have zh0:=c49
   exact z1
  ·rw[if_neg qB,if_neg qB]
   have:B.isEmpty=false:=by simpa using qB
   rw[this]at e2
   clear this qB
   (refine fF func46 rfl 23 rfl rfl (pA _ _) [.cell 2 64] (congrArg Ac results46) ?_;simp only[aD,Ab])
   have zh0:=c49
   exact z1
end Go.Proofs.Vx
namespace Go.Proofs.Vx
open Go Go.Sx Go.Proofs Tryz
attribute [local irreducible] fnT CallOK CallFr AW aK callV aL aJ aI aM gcaseP hid
set_option maxRecDepth 20000 in
theorem c105 (k0:Int) (N:List TN) (hN:N.length≤14) (hP:∀ n∈N,BPl 6 n.1) (T:BT):∀ (k:Int) (c e:aE) (d:Nat),Rep N T k→d+T.ht≤64→CellOK c→RC c e→SmC d e→CallOK prog 105 [.agg (eTr k0 N),.lit (.int .i64 k),.agg [.sl (eS c)]] [] (.lit (.bool (T.chkR c))) []:=by
 have hl:(eTS N).length=N.length:=jU N
 induction T with
 | lf b0 =>
  intro k c e d hk _ _ _ _
  have hk0:k<1:=by have:=x8 b0;rw[show k=lfv b0 from hk];omega
  have k1:(k<1)=True:=eq_true hk0
  have k5:True:=trivial
  have es1:True:=trivial
  have e1:True:=trivial
  have e2:True:=trivial
  have sp:True:=trivial
  have il:True:=trivial
  have ir:True:=trivial
  simp only[BT.chkR]
  clear hk
  (refine zs func105 47 [.tmp 6] results105 ?_;simp only[aD,Ab])
  exact z1
 | nd j p l r ihl ihr =>
  intro k c e d hk hd hc hrc hsm
  obtain⟨rfl,n,hn1,rfl,hn3,hn4⟩:=hk
  have hj:=(Af.1 hn1).1
  have hje:=(Af.1 hn1).2
  have es1:=oE N j hj
  rw[hje]at es1
  have hpn:=hP n (List.mem_of_getElem? hn1)
  simp only[BT.ht]at hd
  have k1:((j:Int)+1<1)=False:=eq_false (by omega)
  have k5:((j:Int)+1 - 1)=(j:Int):=by omega
  have hb:=RC.bd hrc (hsm.bd.mono (S':=64) (M':=64) (K':=22) (by omega) (by omega) (Am _))
  have sp:=c95 c n.1 hc (hpn.mono (by decide)) (Ad hb.n (by decide)) (fun s hs=>⟨Ad (hb.m s hs) (by decide),fun v hv=>(hb.k s hs v hv).mono (by decide)⟩)
  obtain⟨r1,r2⟩:=hrc.spl hc hsm.toCellOK n.1
  have o1:=a8u (b:=n.1) hc
  have o2:=wY (b:=n.1) hsm hpn
  have hlen:∀ x y:aE,RC x y→(y=[]∨SmC (d+1) y)→x.length≤1048576:=fun x y h1 h2=>by
   rw[h1.length]
   rcases h2 with rfl|h2
   ·exact An _
   ·have:=h2.n;omega
  have e1:=c110 (cY n.1 c).1 (hlen _ _ r1 o2.1)
  have e2:=c110 (cY n.1 c).2 (hlen _ _ r2 o2.2)
  have il:=fun (h:(cY n.1 c).1≠[])=>ihl n.2.1 (cY n.1 c).1 (aQ n.1 e).1 (d+1) hn3 (by omega) (o1.1.resolve_left h) r1 (o2.1.resolve_left fun q=>h (r1.nil_iff.2 q))
  have ir:=fun (h:(cY n.1 c).2≠[])=>ihr n.2.2 (cY n.1 c).2 (aQ n.1 e).2 (d+1) hn4 (by omega) (o1.2.resolve_left h) r2 (o2.2.resolve_left fun q=>h (r2.nil_iff.2 q))
  simp only[BT.chkR]
  clear ihl ihr hlen r1 r2 o1 o2 hb hrc hsm hc hje hn1 hn3 hn4 hpn
  generalize (cY n.1 c).1=A at *
  generalize (cY n.1 c).2=B at *
  have hA:A.isEmpty=true∨(A.isEmpty=false∧A≠[]):=by cases A<;>simp
  have hB:B.isEmpty=true∨(B.isEmpty=false∧B≠[]):=by cases B<;>simp
  obtain⟨p,x,y⟩:=n
  dsimp only[eN]at es1 sp il ir
  simp only[eH,e4]at sp
  rcases hA with hA|⟨hA,hA2⟩
  ·rw[hA]at e1 ⊢
   simp only[Ak,Ai]
   clear il ir hB e2
   have il:True:=trivial
   have ir:True:=trivial
   have e2:True:=trivial
   (refine zs func105 47 [.tmp 6] results105 ?_;simp only[aD,Ab])
   exact z1
  ·rw[hA]at e1 ⊢
   replace il:=il hA2
   rcases hB with hB|⟨hB,hB2⟩
   ·rw[hB]at e2 ⊢
    simp only[Ak,Aj,Ai,Al]
    clear il ir
    have il:True:=trivial
    have ir:True:=trivial
    (refine zs func105 47 [.tmp 6] results105 ?_;simp only[aD,Ab])
    exact z1
   ·rw[hB]at e2 ⊢
    replace ir:=ir hB2
    simp only[Aj,Al]
    generalize l.chkR A=u at *
    generalize r.chkR B=v at *
    (refine zs func105 47 [.tmp 6] results105 ?_;simp only[aD,Ab])
    cases u
    all_goals exact z1
end Go.Proofs.Vx
namespace Go.Proofs.Vx
open Go Go.Sx Go.Proofs Tryz
attribute [local irreducible] fnT CallOK CallFr AW aK callV aL aJ aI aM gcaseP hid
set_option maxRecDepth 20000 in
theorem c39a (k0:Int) (N:List RN) (hs:CallOK prog 104 [.agg (bV k0 N)] [] (.lit (.bool false)) []):CallOK prog 39 [.agg (bV k0 N)] [] (.lit (.int .i64 3)) []:=by
 refine zs func39 12 [.tmp 2] results39 ?_
 simp only[aD,Ab]
 have cp:True:=trivial
 have w0:True:=trivial
 exact z1
set_option maxRecDepth 20000 in
theorem c39b (k0:Int) (N:List TN) (T:BT) (h:TrB N k0 T) (hs:CallOK prog 104 [.agg (eTr k0 N)] [] (.lit (.bool true)) []):CallOK prog 39 [.agg (eTr k0 N)] [] (.lit (.int .i64 (if T.chk aO=true then 0 else 1))) []:=by
 refine zs func39 12 [.tmp 2] results39 ?_
 simp only[aD,Ab]
 have hh:=h.ht
 have cp:=c105 k0 N h.n (fun n hn=>(h.b n hn).mono (by decide)) T k0 dB aO 6 h.rep (by omega) a3r a6m wT
 have he:T.chkR dB=T.chk aO:=by
  have:=c8p (T:=T) a3r pO a6m
  cases u:T.chkR dB<;>cases v:T.chk aO<;>simp[u,v]at this ⊢
 rw[he]at cp
 have w0:=c94
 clear h hh he
 generalize T.chk aO=u at *
 generalize dB=W at *
 cases u
 ·rw[if_neg (by decide)]
  exact z1
 ·rw[if_pos rfl]
  exact z1
end Go.Proofs.Vx
namespace Go.Proofs.Vx
open Go Go.Sx Go.Proofs Tryz
attribute [local irreducible] fnT CallOK CallFr AW aK callV aL aJ aI aM gcaseP hid
theorem c9p:byT prog 79=some 112:=by kernel_rfl
attribute [go_sem] c9p
theorem c116 (k:Int) (h:-1≤k):CallOK prog 116 [.lit (.int .i64 k)] [] (.lit (.int .i64 (jL k))) []:=by
 refine zs func116 8 [.tmp 2] results116 ?_
 simp only[aD,Ab]
 unfold jL
 by_cases q:k<1
 ·have k1:(k<1)=True:=eq_true q
  rw[if_pos q]
  exact z1
 ·have k1:(k<1)=False:=eq_false q
  rw[if_neg q]
  exact z1
set_option maxRecDepth 20000 in
theorem c54 (k0:Int) (N:List TN) (hn:N.length≤14) (h0:-1≤k0) (hk:∀ n∈N,-1≤n.2.1∧-1≤n.2.2):CallOK prog 54 [.agg (eTr k0 N)] [] (.agg (eTr (jL k0) (N.map fW))) []:=by
 have hml:maxLen=9223372036854775807:=rfl
 have hl:(eTS N).length=N.length:=jU N
 have o0:=c116 k0 h0
 have o1:True:=trivial
 have o2:True:=trivial
 have hz:eTS []=[]:=rfl
 have hst:True:=trivial
 replace hk:=Hid.mk hk
 refine fF func54 rfl 37 rfl rfl (pA _ _) [.cell 2 64] (congrArg Ac results54) ?_
 simp only[aD,Ab]
 repeat'(first|refine zk ?_|(refine zu ?_ ?_<;>intro hc)|(first|refine zf o0 ?_|refine zf o1 ?_|refine zf o2 ?_)|(refine zv ?_ ?_<;>intro hg)|omega|simp -dsimp (disch:=try exact zo)only[go_sem,hl]|contradiction|rfl)
 all_goals refine AW.weak (jQ 14 1 10 [.lit (.int .i64 (jL k0)),.lit (.slice none 0 0)] (by decide) rfl (by show 1<2;decide) rfl (by dsimp only;omega)) ?_
 refine AW.loop (fun z:{i:Nat // i≤N.length}=>⟨[(4,.lit (.int .i64 z.1)),(1,.loc 8 0),(2,.loc 9 0),(3,.loc 14 0)],[(8,.blk (eTr k0 N)),(9,.blk [.lit (.int .i64 0),.lit (.slice none 0 0)]),(14,.blk [.lit (.int .i64 (jL k0)),.ref 17 0 z.1 z.1]),(17,.vec 10 (eTS ((N.map fW).take z.1)))],60⟩) (fun z=>N.length - z.1) ⟨0,An _⟩ zw ?_
 rintro⟨i,hi⟩
 dsimp only
 have hvl:(eTS ((N.map fW).take i)).length=i:=by rw[jU,List.length_take,Ae];omega
 by_cases hlt:i<N.length
 ·have es1:=oE N i hlt
  have hki:=hk.out _ (List.getElem_mem hlt)
  clear hst o0 o1 o2
  have hst:eTS ((N.map fW).take (i+1))=eTS ((N.map fW).take i)++[eN (fW N[i])]:=by
   rw[List.take_succ_eq_append_getElem (by rw[Ae];exact hlt),List.getElem_map]
   unfold eTS
   rw[List.map_append];rfl
  have o1:=c116 N[i].2.1 hki.1
  have o2:=c116 N[i].2.2 hki.2
  have o0:True:=trivial
  clear hk
  generalize N[i]=nd at *
  generalize (N.map fW).take i=X0 at *
  obtain⟨p,a,b⟩:=nd
  dsimp only[eN,fW]at es1 o1 o2 hst
  repeat'(first|refine zk ?_|(refine zu ?_ ?_<;>intro hc)|(first|refine zf o0 ?_|refine zf o1 ?_|refine zf o2 ?_)|(refine zv ?_ ?_<;>intro hg)|omega|simp -dsimp (disch:=try exact zo)only[go_sem,hl,es1,hvl,hst,ZT]|contradiction|rfl)
  all_goals exact AW.stop ⟨⟨i+1,by omega⟩,(aR (by refine⟨?_,?_,?_,?_⟩<;>first|(simp -dsimp (disch:=try exact zo)only[go_sem,ZC];done)|(simp -dsimp (disch:=try exact zo)only[go_sem,hst,ZC];done))),by dsimp only;omega⟩
 ·have hil:i=N.length:=by omega
  subst hil
  have hfull:(N.map fW).take N.length=N.map fW:=Ag (by rw[Ae];exact Am _)
  rw[hfull]at hvl
  have hcb:(if 0<N.length then AV.sl (List.take N.length (eTS (N.map fW)))else if N.length=0 then AV.sl []else AV.any)=AV.sl (eTS (N.map fW)):=by
   by_cases q:0<N.length
   ·rw[if_pos q,Ag (Nat.le_of_eq hvl)]
   ·have q0:N=[]:=List.eq_nil_of_length_eq_zero (by omega)
    subst q0;rfl
  repeat'(first|refine zk ?_|(refine zu ?_ ?_<;>intro hc)|(refine zv ?_ ?_<;>intro hg)|omega|simp -dsimp (disch:=try exact zo)only[go_sem,hl,hvl,hfull,hcb]|rfl)
end Go.Proofs.Vx
namespace Go.Proofs.Vx
open Go Go.Sx Go.Proofs Tryz
attribute [local irreducible] fnT CallOK CallFr AW aK callV aL aJ aI aM gcaseP hid
def fT (p:Pl):BT:=if (aQ p aO).1=[]then .lf false else if (aQ p aO).2=[]then .lf true else .nd 0 p (.lf true) (.lf false)
theorem z8:aO≠[]:=pO.ne
theorem d2c {p:Pl} (h:CanH p):(tH p).n≠⟨0,0,0⟩:=by
 intro e
 refine h.ne ?_
 have ex:=congrArg Geo.V.x e
 have ey:=congrArg Geo.V.y e
 have ez:=congrArg Geo.V.z e
 unfold tH at ex ey ez
 simp only at ex ey ez
 exact⟨Ah.1 ex,Ah.1 ey,Ah.1 ez⟩
theorem TrB.nz {N:List TN} {k:Int} {T:BT} (h:TrB N k T):T.nz:=fun p hp=>by
 obtain⟨n,hn,rfl⟩:=a8x h.rep p hp
 exact d2c (h.can n hn)
theorem TrB.pl {N:List TN} {k:Int} {T:BT} (h:TrB N k T):∀ p∈T.pls,BPl 6 p∧CanH p:=fun p hp=>by
 obtain⟨n,hn,rfl⟩:=a8x h.rep p hp
 exact⟨(h.b n hn).mono (by decide),h.can n hn⟩
theorem TrB.turn {N:List TN} {k:Int} {T:BT} (h:TrB N k T):TrB (N.map fW) (jL k) T.turn:=by
 refine⟨h.toTrOK.turn,fun n hn=>?_,by rw[Ae];exact h.n,fun n hn=>?_⟩
 all_goals obtain⟨m,hm,rfl⟩:=List.mem_map.1 hn
 ·exact h.can m hm
 ·exact h.b m hm
theorem b8m (p:Pl):(fT p).chk aO=true:=by
 unfold fT
 split
 ·simp[BT.chk,z8]
 ·split
  ·simp[BT.chk,z8]
  ·rename_i h1 h2
   exact BT.chk_nd.2 ⟨z8,by simp[BT.chk,h1],by simp[BT.chk,h2]⟩
theorem c3f {p:Pl} (hc:CanH p) (hb:BPl 6 p):TrB (iU p) (iV p) (fT p):=by
 unfold iU iV fT
 by_cases h1:(aQ p aO).1=[]
 ·rw[if_pos h1,if_pos h1,if_pos h1]
  exact⟨⟨rfl,.refl _⟩,by simp,by decide,by simp⟩
 ·rw[if_neg h1,if_neg h1,if_neg h1]
  by_cases h2:(aQ p aO).2=[]
  ·rw[if_pos h2,if_pos h2,if_pos h2]
   exact⟨⟨rfl,.refl _⟩,by simp,by decide,by simp⟩
  ·rw[if_neg h2,if_neg h2,if_neg h2]
   refine⟨⟨⟨rfl,(p,-1,0),rfl,rfl,rfl,rfl⟩,.refl _⟩,fun n hn=>?_,by simp,fun n hn=>?_⟩
   all_goals obtain rfl:=Aa.1 hn
   ·exact hc
   ·exact hb
theorem c4i {T:BT} (hc:T.chk aO=true):T.turn.chk aO=true:=by rw[BT.turn_chk];exact hc
theorem c7n {N:List TN} {k:Int} {T:BT} (h:TrB N k T) (hc:T.chk aO=true):BT.vols (T.cells aO++T.turn.cells aO)=dM aO:=by
 rw[BT.vols_app];exact BT.cells_vol pO h.nz hc
theorem c7o {N:List TN} {k:Int} {T:BT} (h:TrB N k T):(T.cells aO++T.turn.cells aO).length=N.length+1:=by
 rw[List.length_append,BT.cells_len,BT.cells_len,BT.tl_turn,h.len]
end Go.Proofs.Vx
namespace Go.Proofs.Vx
open Go Go.Sx Go.Proofs Tryz
attribute [local irreducible] fnT CallOK CallFr AW aK callV aL aJ aI aM gcaseP hid
theorem b5y (z:Int):Rat.divInt z 1=(z:Rat):=by rw[Rat.divInt_eq_div];simp;grind
theorem c65 (z:Int) (h1:-1073741824≤z) (h2:z<4611686018427387904):CallOK prog 65 [.lit (.int .i64 z)] [] (.agg (eQ (z:Rat))) []:=by
 refine zs func65 13 [.cell 2 41] results65 ?_
 simp only[aD,Ab]
 have hs:(Zm z).size≤268435456:=Ad ((bX z 8).2 (by omega)) (by decide)
 have c1:=c87 z (by omega) (by omega)
 have c2:=lB z 1 hs (Ad ((bX 1 1).2 (by decide)) (by decide)) (by decide)
 rw[b5y]at c2
 generalize (z:Rat)=q at *
 clear hs
 have zh0:=sP
 exact z1
end Go.Proofs.Vx
