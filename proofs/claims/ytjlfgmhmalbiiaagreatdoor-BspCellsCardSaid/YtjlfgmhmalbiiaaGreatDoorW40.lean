import Derived.Test.YtjlfgmhmalbiiaaGreatDoorW39
set_option linter.all false
set_option maxHeartbeats 16000000
open Array renaming toList → Ac
open Bool renaming true_and → Ag, false_and → Ai, not_false → Aj, not_true → Ak
open List renaming mem_singleton → Aa, getElem?_eq_some_iff → Ad, mem_of_getElem? → Af, foldl_append → Ah
open Nat renaming reduceAdd → Ab, le_trans → Ae
namespace Go.Proofs.Vx
open Go Go.Sx Go.Proofs Tryz
attribute [local irreducible] fnT CallOK CallFr AW aI callV aL aJ aH aK gcaseP hid
theorem c7l:zeT prog 38=some [.lit (.slice none 0 0)]:=by kernel_rfl
attribute [go_sem] c7l
theorem tpF (out:List aC) (m:Nat):∀ p∈g7 0 1 2 out m,gP (fun i=>i∈[0,1,2]) p.2:=by
 intro p hp
 simp only[zM,or_false]at hp
 rcases hp with rfl|rfl|rfl
 ·intro c hc
  obtain rfl:=Aa.1 hc
  simp[g6,fK]
 ·exact fun e he c hc=>of_eq_true (lW _) e he c hc
 ·intro c hc
  obtain rfl:=Aa.1 hc
  exact .lit _
theorem renF {k0:Int} {N:List TN} {k:Int} {c:aC} {out out':List aC} {m m':Nat} (h:CallOK prog 101 (uX 0 2 k0 N k c) (g7 0 1 2 out m) (.tup []) (g7 0 1 2 out' m')):CallOK prog 101 (uX 10 11 k0 N k c) (g7 10 13 11 out m) (.tup []) (g7 10 13 11 out' m'):=by
 have:=h.renG (fun i=>if i=0 then 10 else if i=1 then 13 else 11) (fun i=>if i=10 then 0 else if i=13 then 1 else 2) (fun p hp=>by
  simp only[zM,or_false]at hp
  rcases hp with rfl|rfl|rfl<;>rfl) (fun p hp=>tpF out m p hp) (fun p hp=>by
  refine⟨?_,tpF out' m' p hp⟩
  simp only[zM,or_false]at hp
  rcases hp with rfl|rfl|rfl<;>simp) (.tup _ (by simp)) (fun x hx=>by
  simp only[zM,or_false]at hx
  rcases hx with rfl|rfl|rfl|rfl
  ·exact rQ _ _
  ·exact .lit _
  ·exact fG _
  ·intro x hx
   simp only[zM,or_false]at hx
   rcases hx with rfl|rfl|rfl
   ·show (0:Nat)∈[0,1,2];decide
   ·show (2:Nat)∈[0,1,2];decide
   ·exact cF _ _)
 exact this
theorem callF {k0:Int} {N:List TN} {k:Int} {c:aC} {out out':List aC} {m m':Nat} {i:Nat} {ob:Nat→AV} {E:Eff→Prop} (hf:fnT prog 101=true) (hc:CallOK prog 101 (uX 10 11 k0 N k c) (g7 10 13 11 out m) (.tup []) (g7 10 13 11 out' m')) (hob:∀ p∈g7 10 13 11 out m,ob p.1=p.2) (h:E ⟨.tup [],g7 10 13 11 out' m',[10,13,11]⟩):callV prog 101 (uX 10 11 k0 N k c) i ob E :=
 kP _ _ _ hf hc hob (by
  intro x hx
  simp only[zM,or_false]at hx
  rcases hx with rfl|rfl|rfl|rfl
  ·exact rQ _ _
  ·exact .lit _
  ·exact fG _
  ·refine .clo _ _ fun x hx=>?_
   simp only[zM,or_false]at hx
   rcases hx with rfl|rfl|rfl
   ·exact .loc _ _ (by simp)
   ·exact .loc _ _ (by simp)
   ·exact cF _ _) (fun p hp=>(obF 10 13 11 out out m m p hp).2) (show ([10,13,11]:List Nat).Nodup by decide) (.tup _ (by simp)) (obF 10 13 11 out out' m m') rfl (by
  intro p hp
  simp only[zM,or_false]at hp
  rcases hp with rfl|rfl|rfl<;>rfl) h
theorem inCs (out:List aC):In (fun _=>False) (.sl (cL out)):=.sl _ (of_eq_true (lW out))
set_option maxRecDepth 20000 in
theorem c52v (k0:Int) (N:List TN) (T:BT) (h:TrB N k0 T):CallVc prog 52 [.agg (eTr k0 N)] 1 (cL (T.cells aN)):=by
 refine CallVc.flat func52 rfl 12 rfl rfl (of_eq_true (lW _)) [.tmp 2] (congrArg Ac results52) ?_
 simp only[aD,Ab]
 have hh:=h.ht
 have cw:=renF (c101c k0 N h.n (fun n hn=>(h.b n hn).mono (by decide)) T k0 aN 6 h.rep (by omega) (.inr wF) (Nat.le_of_eq h.len))
 have w0:=c57
 clear h hh
 generalize T.cells aN=out at *
 generalize 2*T.ids.length+1=m at *
 generalize aN=W at *
 have hcl:(cL out).length=out.length:=xP out
 repeat'(first|refine a0w 3 rfl ?_|refine zk ?_|(refine zu ?_ ?_<;>intro hc)|(refine zv ?_ ?_<;>intro hg)|omega|simp -dsimp (disch:=try exact zo)only[go_sem]|contradiction|rfl)
 refine Hold.out ?_
 refine AW.weak (jT 10 0 1 [.lit (.slice none 0 0)] (by decide) rfl (by decide) rfl (by show 10<13;decide)) ?_
 refine AW.weak (yN 8 (t:=[(1,.fp (eTr k0 N)),(3,.loc 10 0),(4,.loc 11 0)]) (o:=[(10,.blk [.ref 13 0 0 0]),(13,.vec 1 (cL [])),(11,.blk [.lit (.int .i64 0)])]) (by
  intro p hp
  simp only[zM,or_false]at hp
  rcases hp with rfl|rfl|rfl<;>first|exact .inl rfl|exact .inr rfl) (by
  intro p hp
  simp only[zM,or_false]at hp
  rcases hp with rfl|rfl|rfl<;>exact⟨by simp,rfl⟩)) ?_
 repeat'(first|refine zj ?_|(refine zu ?_ ?_<;>intro hc)|(refine AW.ret (qF ?_);simp -dsimp (disch:=try exact zo)only[go_sem,hcl]<;>try (exact⟨_,rfl,rfl⟩))|(refine zq w0 ?_)|(refine callF a0a cw (by intro p hp;simp only[zM,or_false]at hp;rcases hp with rfl|rfl|rfl<;>rfl) ?_)|(refine zv ?_ ?_<;>intro hg)|omega|simp -dsimp (disch:=try exact zo)only[go_sem,hcl]|contradiction)
theorem c52 (k0:Int) (N:List TN) (T:BT) (h:TrB N k0 T):CallOK prog 52 [.agg (eTr k0 N)] [] (.sl (cL (T.cells aN))) []:=(c52v k0 N T h).ok
end Go.Proofs.Vx
namespace Go.Proofs.Vx
open Go Go.Sx Go.Proofs Tryz
attribute [local irreducible] fnT CallOK CallFr AW aI callV aL aJ aH aK gcaseP hid callY XOK
theorem b5e:agT prog 183=some false∧agT prog 184=some false∧szT prog 183=some 1∧szT prog 184=some 1:=by and_intros<;>kernel_rfl
attribute [go_sem] b5e
theorem lB:fnT prog 172=true:=by kernel_rfl
abbrev fL (lp:AV) (s a:Bool):List (Nat × AV):=[(4,lp),(5,.blk [.lit (.bool s)]),(6,.blk [.lit (.bool a)])]
abbrev selfY (k0:Int) (N:List TN) (x:Pt):AV:=.clo 172 [.fp (eTr k0 N),.loc 1 0,.fp (eP x),.loc 0 0]
abbrev iM (k0:Int) (N:List TN) (x:Pt) (L:Nat) (lp:AV) (s a:Bool):List (Nat × AV):=[(0,.blk [selfY k0 N x]),(1,.blk [.lit (.func (.yield L) #[] #[])]),(4,lp),(5,.blk [.lit (.bool s)]),(6,.blk [.lit (.bool a)])]
abbrev argL (k0:Int) (N:List TN) (x:Pt) (k n:Int):List AV:=[.lit (.int .i64 k),.lit (.int .i64 n),.fp (eTr k0 N),.loc 1 0,.fp (eP x),.loc 0 0]
theorem l7 {K:Nat→Prop} (x:Pt):In K (.fp (eP x)):=.fp _ (by
 intro c hc
 simp only[eP,e4,List.mem_cons,List.not_mem_nil,or_false]at hc
 rcases hc with rfl|rfl|rfl|rfl|rfl|rfl|rfl|rfl<;>exact .lit _)
theorem obL (k0:Int) (N:List TN) (x:Pt) (L:Nat) (lp:AV) (hlp:InC (fun i=>i∈[0,1,4,5,6]) lp) (s a s' a':Bool):∀ p∈iM k0 N x L lp s' a',p.1∈(iM k0 N x L lp s a).map (·.1)∧InC (fun i=>i∈(iM k0 N x L lp s a).map (·.1)) p.2:=by
 intro p hp
 simp only[zM,or_false]at hp
 rcases hp with rfl|rfl|rfl|rfl|rfl
 ·refine⟨by simp,fun c hc=>?_⟩
  obtain rfl:=Aa.1 hc
  refine .clo _ _ fun x hx=>?_
  simp only[zM,or_false]at hx
  rcases hx with rfl|rfl|rfl|rfl
  ·exact cF _ _
  ·exact .loc _ _ (by simp)
  ·exact l7 _
  ·exact .loc _ _ (by simp)
 ·refine⟨by simp,fun c hc=>?_⟩
  obtain rfl:=Aa.1 hc
  exact .lit _
 ·exact⟨by simp,hlp⟩
 ·refine⟨by simp,fun c hc=>?_⟩
  obtain rfl:=Aa.1 hc
  exact .lit _
 ·refine⟨by simp,fun c hc=>?_⟩
  obtain rfl:=Aa.1 hc
  exact .lit _
theorem nE {k0:Int} {N:List TN} {x:Pt} {k n:Int} {L:Nat} {lp:AV} (hlp:InC (fun i=>i∈[0,1,4,5,6]) lp) (hll:lp.live=true) {s a s' a':Bool} {i:Nat} {ob:Nat→AV} {E:Eff→Prop} (hf:fnT prog 172=true) (hc:CallOK prog 172 (argL k0 N x k n) (iM k0 N x L lp s a) (.lit (.bool true)) (iM k0 N x L lp s' a')) (hob:∀ p∈iM k0 N x L lp s a,ob p.1=p.2) (h:E ⟨.lit (.bool true),iM k0 N x L lp s' a',[0,1,4,5,6]⟩):callV prog 172 (argL k0 N x k n) i ob E :=
 kP _ _ _ hf hc hob (by
  intro y hy
  simp only[zM,or_false]at hy
  rcases hy with rfl|rfl|rfl|rfl|rfl|rfl
  ·exact .lit _
  ·exact .lit _
  ·exact cF _ _
  ·exact .loc _ _ (by simp)
  ·exact l7 _
  ·exact .loc _ _ (by simp)) (fun p hp=>(obL k0 N x L lp hlp s a s a p hp).2) (show ([0,1,4,5,6]:List Nat).Nodup by decide) (.lit _) (obL k0 N x L lp hlp s a s' a') rfl (by
  intro p hp
  simp only[zM,or_false]at hp
  rcases hp with rfl|rfl|rfl|rfl|rfl<;>first|rfl|exact hll) h
theorem xO {L:Nat} {lp:AV} (hlp:InC (fun i=>i∈[4,5,6]) lp) (hll:lp.live=true) {k:Int} {s a s' a':Bool} {ob:Nat→AV} {E:Eff→Prop} (hc:XOK prog (MY prog L) [.lit (.int .i64 k)] (fL lp s a) (.lit (.bool true)) (fL lp s' a')) (hob:∀ p∈fL lp s a,ob p.1=p.2) (h:E ⟨.lit (.bool true),fL lp s' a',[4,5,6]⟩):callY prog L [.lit (.int .i64 k)] ob fun e=>(∀ l∈e.rd,(ob l).live=true)∧E e:=by
 have hb:∀ s1 a1,∀ p∈fL lp s1 a1,p.1∈[4,5,6]∧InC (fun i=>i∈[4,5,6]) p.2:=fun s1 a1 p hp=>by
  simp only[zM,or_false]at hp
  rcases hp with rfl|rfl|rfl
  ·exact⟨by simp,hlp⟩
  ·refine⟨by simp,fun c hc=>?_⟩
   obtain rfl:=Aa.1 hc
   exact .lit _
  ·refine⟨by simp,fun c hc=>?_⟩
   obtain rfl:=Aa.1 hc
   exact .lit _
 exact b3q _ _ _ hc hob (fun y hy=>by obtain rfl:=Aa.1 hy;exact .lit _) (fun p hp=>(hb s a p hp).2) (show ([4,5,6]:List Nat).Nodup by decide) (.lit _) (hb s' a') rfl (by
  intro p hp
  simp only[zM,or_false]at hp
  rcases hp with rfl|rfl|rfl<;>first|rfl|exact hll) h
def fS (s:Bool) (ks:List Int):Bool:=ks.foldl (fun s k=>s||decide (k=-1)) s
def fA (a:Bool) (ks:List Int):Bool:=ks.foldl (fun a k=>a&&decide (k=-1)) a
theorem d0c (s:Bool) (l r:List Int):fS s (l++r)=fS (fS s l) r:=Ah ..
theorem d0e (s:Bool) (l r:List Int):fA s (l++r)=fA (fA s l) r:=Ah ..
set_option maxRecDepth 20000 in
theorem c172 (k0 : Int) (N : List TN) (hN : N.length ≤ 14) (hP : ∀ n ∈ N, BPl 6 n.1) (x : Pt) (hx : BPt 268435456 x) (L : Nat) (lp : AV) (hlp : InC (fun i => i ∈ [0, 1, 4, 5, 6]) lp) (hlp3 : InC (fun i => i ∈ [4, 5, 6]) lp) (hll : lp.live = true)
  (hy:∀ (k:Int) (s a:Bool),k=-1∨k=0→XOK prog (MY prog L) [.lit (.int .i64 k)] (fL lp s a) (.lit (.bool true)) (fL lp (s||decide (k=-1)) (a&&decide (k=-1)))) (T:BT) :
  ∀ (k:Int) (n:Nat) (s a:Bool),Rep N T k→T.ht≤n→n≤14→CallOK prog 172 (argL k0 N x k n) (iM k0 N x L lp s a) (.lit (.bool true)) (iM k0 N x L lp (fS s (T.leaves x)) (fA a (T.leaves x))):=by
 have hl:(eTS N).length=N.length:=p9 N
 induction T with
 | lf b0 =>
  intro k n s a hk _ hn
  have hk0:k≤0:=by rw[show k=lfv b0 from hk];exact xL b0
  have k1:(k≤0)=True:=eq_true hk0
  have k2:True:=trivial
  have k3:True:=trivial
  have k5:True:=trivial
  have k6:True:=trivial
  have g1:True:=trivial
  have g2:True:=trivial
  have es1:True:=trivial
  have cs:True:=trivial
  have il:True:=trivial
  have ir:True:=trivial
  have cy:=hy k s a (by rw[show k=lfv b0 from hk];exact yZ b0)
  have e1:fS s (BT.leaves x (.lf b0))=(s||decide (k=-1)):=by rw[show k=lfv b0 from hk];rfl
  have e2:fA a (BT.leaves x (.lf b0))=(a&&decide (k=-1)):=by rw[show k=lfv b0 from hk];rfl
  rw[e1,e2]
  clear hk e1 e2 hy
  generalize (s||decide (k=-1))=s' at *
  generalize (a&&decide (k=-1))=a' at *
  refine fC func172 rfl 59 rfl rfl (by simp) (.lit _) (obL k0 N x L lp hlp s a s' a') [.tmp 8] (congrArg Ac results172) ?_
  simp only[aD,Ab]
  repeat'(first|refine zk ?_|(refine zu ?_ ?_<;>intro hc)|(refine xO hlp3 hll cy (by intro p hp;simp only[zM,or_false]at hp;rcases hp with rfl|rfl|rfl<;>rfl) ?_)|(refine AW.ret (bW ?_ (by intro p hp;simp only[zM,or_false]at hp;rcases hp with rfl|rfl|rfl|rfl|rfl<;>rfl))<;>simp -dsimp (disch:=try exact zo)only[go_sem])|(first|refine nE hlp hll lB il (by intro p hp;simp only[zM,or_false]at hp;rcases hp with rfl|rfl|rfl|rfl|rfl<;>rfl) ?_|refine nE hlp hll lB ir (by intro p hp;simp only[zM,or_false]at hp;rcases hp with rfl|rfl|rfl|rfl|rfl<;>rfl) ?_)|(refine zq cs ?_)|(refine zv ?_ ?_<;>intro hg)|omega|simp -dsimp (disch:=try exact zo)only[go_sem,hl,es1,k1,k2,k3,k5,k6,g1,g2,ZT]|contradiction|rfl)
 | nd j p l r ihl ihr =>
  intro k n s a hk hd hn
  obtain⟨rfl,nd,hn1,rfl,hn3,hn4⟩:=hk
  have hj:=(Ad.1 hn1).1
  have hje:=(Ad.1 hn1).2
  have es1:=wM N j hj
  rw[hje]at es1
  have hpn:=hP nd (Af hn1)
  simp only[BT.ht]at hd
  obtain⟨n',rfl⟩:∃ n',n=n'+1:=⟨n - 1,by omega⟩
  have k1:((j:Int)+1≤0)=False:=eq_false (by omega)
  have k2:((N.length:Int)<(j:Int)+1)=False:=eq_false (by omega)
  have k3:(((n'+1:Nat):Int)=0)=False:=eq_false (by omega)
  have k5:((j:Int)+1 - 1)=(j:Int):=by omega
  have k6:(((n'+1:Nat):Int) - 1)=(n':Int):=by omega
  have cs:=c34 nd.1 x (hpn.mono (by decide)) (hx.mono (by decide))
  have cy:True:=trivial
  simp only[BT.leaves,d0c,d0e]
  have il:=ihl nd.2.1 n' s a hn3 (by omega) (by omega)
  have ir:=fun s a=>ihr nd.2.2 n' s a hn4 (by omega) (by omega)
  clear ihl ihr hje hn1 hn3 hn4 hpn hy
  generalize aB nd.1 x=sd at *
  obtain⟨p,y,z⟩:=nd
  dsimp only[eN]at es1 cs il ir
  simp only[eH,e4]at cs
  by_cases q1:0<sd
  ·have g1:(0<sd)=True:=eq_true q1
   have g2:(sd<0)=False:=eq_false (by omega)
   rw[if_pos q1,if_neg (by omega)]
   replace ir:=ir s a
   have e0:fS s []=s:=rfl
   have e1:fA a []=a:=rfl
   rw[e0,e1]
   clear il
   have il:True:=trivial
   generalize fS s (r.leaves x)=s' at *
   generalize fA a (r.leaves x)=a' at *
   refine fC func172 rfl 59 rfl rfl (by simp) (.lit _) (obL k0 N x L lp hlp s a s' a') [.tmp 8] (congrArg Ac results172) ?_
   simp only[aD,Ab]
   repeat'(first|refine zk ?_|(refine zu ?_ ?_<;>intro hc)|(refine xO hlp3 hll cy (by intro p hp;simp only[zM,or_false]at hp;rcases hp with rfl|rfl|rfl<;>rfl) ?_)|(refine AW.ret (bW ?_ (by intro p hp;simp only[zM,or_false]at hp;rcases hp with rfl|rfl|rfl|rfl|rfl<;>rfl))<;>simp -dsimp (disch:=try exact zo)only[go_sem])|(first|refine nE hlp hll lB il (by intro p hp;simp only[zM,or_false]at hp;rcases hp with rfl|rfl|rfl|rfl|rfl<;>rfl) ?_|refine nE hlp hll lB ir (by intro p hp;simp only[zM,or_false]at hp;rcases hp with rfl|rfl|rfl|rfl|rfl<;>rfl) ?_)|(refine zq cs ?_)|(refine zv ?_ ?_<;>intro hg)|omega|simp -dsimp (disch:=try exact zo)only[go_sem,hl,es1,k1,k2,k3,k5,k6,g1,g2,ZT]|contradiction|rfl)
  ·have g1:(0<sd)=False:=eq_false q1
   rw[if_neg q1]
   by_cases q2:sd<0
   ·have g2:(sd<0)=True:=eq_true q2
    rw[if_pos q2]
    clear ir
    have ir:True:=trivial
    generalize fS s (l.leaves x)=s' at *
    generalize fA a (l.leaves x)=a' at *
    have e0:fS s' []=s':=rfl
    have e1:fA a' []=a':=rfl
    rw[e0,e1]
    refine fC func172 rfl 59 rfl rfl (by simp) (.lit _) (obL k0 N x L lp hlp s a s' a') [.tmp 8] (congrArg Ac results172) ?_
    simp only[aD,Ab]
    repeat'(first|refine zk ?_|(refine zu ?_ ?_<;>intro hc)|(refine xO hlp3 hll cy (by intro p hp;simp only[zM,or_false]at hp;rcases hp with rfl|rfl|rfl<;>rfl) ?_)|(refine AW.ret (bW ?_ (by intro p hp;simp only[zM,or_false]at hp;rcases hp with rfl|rfl|rfl|rfl|rfl<;>rfl))<;>simp -dsimp (disch:=try exact zo)only[go_sem])|(first|refine nE hlp hll lB il (by intro p hp;simp only[zM,or_false]at hp;rcases hp with rfl|rfl|rfl|rfl|rfl<;>rfl) ?_|refine nE hlp hll lB ir (by intro p hp;simp only[zM,or_false]at hp;rcases hp with rfl|rfl|rfl|rfl|rfl<;>rfl) ?_)|(refine zq cs ?_)|(refine zv ?_ ?_<;>intro hg)|omega|simp -dsimp (disch:=try exact zo)only[go_sem,hl,es1,k1,k2,k3,k5,k6,g1,g2,ZT]|contradiction|rfl)
   ·have g2:(sd<0)=False:=eq_false q2
    rw[if_neg q2]
    replace ir:=ir (fS s (l.leaves x)) (fA a (l.leaves x))
    generalize fS (fS s (l.leaves x)) (r.leaves x)=s2 at *
    generalize fA (fA a (l.leaves x)) (r.leaves x)=a2 at *
    generalize fS s (l.leaves x)=s' at *
    generalize fA a (l.leaves x)=a' at *
    refine fC func172 rfl 59 rfl rfl (by simp) (.lit _) (obL k0 N x L lp hlp s a s2 a2) [.tmp 8] (congrArg Ac results172) ?_
    simp only[aD,Ab]
    repeat'(first|refine zk ?_|(refine zu ?_ ?_<;>intro hc)|(refine xO hlp3 hll cy (by intro p hp;simp only[zM,or_false]at hp;rcases hp with rfl|rfl|rfl<;>rfl) ?_)|(refine AW.ret (bW ?_ (by intro p hp;simp only[zM,or_false]at hp;rcases hp with rfl|rfl|rfl|rfl|rfl<;>rfl))<;>simp -dsimp (disch:=try exact zo)only[go_sem])|(first|refine nE hlp hll lB il (by intro p hp;simp only[zM,or_false]at hp;rcases hp with rfl|rfl|rfl|rfl|rfl<;>rfl) ?_|refine nE hlp hll lB ir (by intro p hp;simp only[zM,or_false]at hp;rcases hp with rfl|rfl|rfl|rfl|rfl<;>rfl) ?_)|(refine zq cs ?_)|(refine zv ?_ ?_<;>intro hg)|omega|simp -dsimp (disch:=try exact zo)only[go_sem,hl,es1,k1,k2,k3,k5,k6,g1,g2,ZT]|contradiction|rfl)
end Go.Proofs.Vx
namespace Go.Proofs.Vx
open Go Go.Sx Go.Proofs Tryz
attribute [local irreducible] fnT CallOK CallFr AW aI callV aL aJ aH aK gcaseP hid callY XOK
theorem c3j:zeT prog 184=some [.lit (.nilFunc)]:=by kernel_rfl
attribute [go_sem] c3j
def sgL (i:Nat):Nat:=if i=0 then 9 else if i=1 then 8 else i
def tuL (i:Nat):Nat:=if i=9 then 0 else if i=8 then 1 else i
abbrev kE (k0:Int) (N:List TN) (x:Pt) (L:Nat) (lp:AV) (s a:Bool):List (Nat × AV):=[(9,.blk [.clo 172 [.fp (eTr k0 N),.loc 8 0,.fp (eP x),.loc 9 0]]),(8,.blk [.lit (.func (.yield L) #[] #[])]),(4,lp),(5,.blk [.lit (.bool s)]),(6,.blk [.lit (.bool a)])]
abbrev argM (k0:Int) (N:List TN) (x:Pt) (k n:Int):List AV:=[.lit (.int .i64 k),.lit (.int .i64 n),.fp (eTr k0 N),.loc 8 0,.fp (eP x),.loc 9 0]
theorem tpL (k0:Int) (N:List TN) (x:Pt) (L:Nat) (lp:AV) (hlt:gP (fun i=>i∈[0,1,4,5,6]) lp) (s a:Bool):∀ p∈iM k0 N x L lp s a,gP (fun i=>i∈[0,1,4,5,6]) p.2:=by
 intro p hp
 simp only[zM,or_false]at hp
 rcases hp with rfl|rfl|rfl|rfl|rfl
 ·intro c hc
  obtain rfl:=Aa.1 hc
  intro y hy
  simp only[zM,or_false]at hy
  rcases hy with rfl|rfl|rfl|rfl
  ·exact cF _ _
  ·simp[fK]
  ·exact l7 _
  ·simp[fK]
 ·intro c hc
  obtain rfl:=Aa.1 hc
  exact .lit _
 ·exact hlt
 ·intro c hc
  obtain rfl:=Aa.1 hc
  exact .lit _
 ·intro c hc
  obtain rfl:=Aa.1 hc
  exact .lit _
theorem renM {k0:Int} {N:List TN} {x:Pt} {k n:Int} {L:Nat} {lp:AV} (hlt:gP (fun i=>i∈[0,1,4,5,6]) lp) (hrn:rnC sgL lp=lp) {s a s' a':Bool} (h:CallOK prog 172 (argL k0 N x k n) (iM k0 N x L lp s a) (.lit (.bool true)) (iM k0 N x L lp s' a')):CallOK prog 172 (argM k0 N x k n) (kE k0 N x L lp s a) (.lit (.bool true)) (kE k0 N x L lp s' a'):=by
 have:=h.renG sgL tuL (fun p hp=>by
  simp only[zM,or_false]at hp
  rcases hp with rfl|rfl|rfl|rfl|rfl<;>rfl) (fun p hp=>tpL k0 N x L lp hlt s a p hp) (fun p hp=>by
  refine⟨?_,tpL k0 N x L lp hlt s' a' p hp⟩
  simp only[zM,or_false]at hp
  rcases hp with rfl|rfl|rfl|rfl|rfl<;>simp) (.lit _) (fun y hy=>by
  simp only[zM,or_false]at hy
  rcases hy with rfl|rfl|rfl|rfl|rfl|rfl
  ·exact .lit _
  ·exact .lit _
  ·exact cF _ _
  ·show (1:Nat)∈[0,1,4,5,6];decide
  ·exact l7 _
  ·show (0:Nat)∈[0,1,4,5,6];decide)
 have e1:∀ s a,rnL sgL (iM k0 N x L lp s a)=kE k0 N x L lp s a:=fun s a=>by
  show [_,_,(4,rnC sgL lp),_,_]=_
  rw[hrn];rfl
 rw[e1,e1]at this
 exact this
theorem obM (k0:Int) (N:List TN) (x:Pt) (L:Nat) (lp:AV) (hlp:InC (fun i=>i∈[9,8,4,5,6]) lp) (s a s' a':Bool):∀ p∈kE k0 N x L lp s' a',p.1∈(kE k0 N x L lp s a).map (·.1)∧InC (fun i=>i∈(kE k0 N x L lp s a).map (·.1)) p.2:=by
 intro p hp
 simp only[zM,or_false]at hp
 rcases hp with rfl|rfl|rfl|rfl|rfl
 ·refine⟨by simp,fun c hc=>?_⟩
  obtain rfl:=Aa.1 hc
  refine .clo _ _ fun x hx=>?_
  simp only[zM,or_false]at hx
  rcases hx with rfl|rfl|rfl|rfl
  ·exact cF _ _
  ·exact .loc _ _ (by simp)
  ·exact l7 _
  ·exact .loc _ _ (by simp)
 ·refine⟨by simp,fun c hc=>?_⟩
  obtain rfl:=Aa.1 hc
  exact .lit _
 ·exact⟨by simp,hlp⟩
 ·refine⟨by simp,fun c hc=>?_⟩
  obtain rfl:=Aa.1 hc
  exact .lit _
 ·refine⟨by simp,fun c hc=>?_⟩
  obtain rfl:=Aa.1 hc
  exact .lit _
theorem callM {k0:Int} {N:List TN} {x:Pt} {k n:Int} {L:Nat} {lp:AV} (hlp:InC (fun i=>i∈[9,8,4,5,6]) lp) (hll:lp.live=true) {s a s' a':Bool} {i:Nat} {ob:Nat→AV} {E:Eff→Prop} (hf:fnT prog 172=true) (hc:CallOK prog 172 (argM k0 N x k n) (kE k0 N x L lp s a) (.lit (.bool true)) (kE k0 N x L lp s' a')) (hob:∀ p∈kE k0 N x L lp s a,ob p.1=p.2) (h:E ⟨.lit (.bool true),kE k0 N x L lp s' a',[9,8,4,5,6]⟩):callV prog 172 (argM k0 N x k n) i ob E :=
 kP _ _ _ hf hc hob (by
  intro y hy
  simp only[zM,or_false]at hy
  rcases hy with rfl|rfl|rfl|rfl|rfl|rfl
  ·exact .lit _
  ·exact .lit _
  ·exact cF _ _
  ·exact .loc _ _ (by simp)
  ·exact l7 _
  ·exact .loc _ _ (by simp)) (fun p hp=>(obM k0 N x L lp hlp s a s a p hp).2) (show ([9,8,4,5,6]:List Nat).Nodup by decide) (.lit _) (obM k0 N x L lp hlp s a s' a') rfl (by
  intro p hp
  simp only[zM,or_false]at hp
  rcases hp with rfl|rfl|rfl|rfl|rfl<;>first|rfl|exact hll) h
set_option maxRecDepth 20000 in
theorem c171 (k0 : Int) (N : List TN) (hN : N.length ≤ 14) (hP : ∀ n ∈ N, BPl 6 n.1) (x : Pt) (hx : BPt 268435456 x) (L : Nat) (lp : AV) (hlp3 : InC (fun i => i ∈ [4, 5, 6]) lp) (hlp : InC (fun i => i ∈ [0, 1, 4, 5, 6]) lp) (hlm : InC (fun i => i ∈ [9, 8, 4, 5, 6]) lp) (hlt : gP (fun i => i ∈ [0, 1, 4, 5, 6]) lp) (hrn : rnC sgL lp = lp) (hll : lp.live = true)
  (hy:∀ (k:Int) (s a:Bool),k=-1∨k=0→XOK prog (MY prog L) [.lit (.int .i64 k)] (fL lp s a) (.lit (.bool true)) (fL lp (s||decide (k=-1)) (a&&decide (k=-1)))) (T:BT) (hr:Rep N T k0) (hh:T.ht≤N.length) (s a:Bool) :
  CallOK prog 171 [.lit (.func (.yield L) #[] #[]),.fp (eTr k0 N),.fp (eP x)] (fL lp s a) (.tup []) (fL lp (fS s (T.leaves x)) (fA a (T.leaves x))):=by
 have hl:(eTS N).length=N.length:=p9 N
 have cw:=renM hlt hrn (c172 k0 N hN hP x hx L lp hlp hlp3 hll hy T k0 N.length s a hr hh hN)
 clear hy hr hh hP hx
 generalize fS s (T.leaves x)=s' at *
 generalize fA a (T.leaves x)=a' at *
 refine fC func171 rfl 13 rfl rfl (by simp) (.tup _ (by simp)) (by
  intro p hp
  simp only[zM,or_false]at hp
  rcases hp with rfl|rfl|rfl
  ·exact⟨by simp,hlp3⟩
  ·refine⟨by simp,fun c hc=>?_⟩
   obtain rfl:=Aa.1 hc
   exact .lit _
  ·refine⟨by simp,fun c hc=>?_⟩
   obtain rfl:=Aa.1 hc
   exact .lit _) [] (congrArg Ac results171) ?_
 simp only[aD,Ab]
 repeat'(first|refine zk ?_|(refine zu ?_ ?_<;>intro hc)|(refine AW.nil (bW ?_ (by intro p hp;simp only[zM,or_false]at hp;rcases hp with rfl|rfl|rfl<;>rfl))<;>simp -dsimp (disch:=try exact zo)only[go_sem])|(refine callM hlm hll lB cw (by intro p hp;simp only[zM,or_false]at hp;rcases hp with rfl|rfl|rfl|rfl|rfl<;>rfl) ?_)|(refine zv ?_ ?_<;>intro hg)|omega|simp -dsimp (disch:=try exact zo)only[go_sem,hl]|contradiction|rfl)
set_option maxRecDepth 20000 in
theorem c107 (k0:Int) (N:List TN) (x:Pt):CallOK prog 107 [.agg (eTr k0 N),.agg (eP x)] [] (.clo 171 [.fp (eTr k0 N),.fp (eP x)]) []:=by
 refine fV func107 rfl 6 rfl rfl (.clo _ _ (by
  intro y hy
  simp only[zM,or_false]at hy
  rcases hy with rfl|rfl
  ·exact cF _ _
  ·exact l7 _)) [.tmp 4] (congrArg Ac results107) ?_
 simp only[aD,Ab]
 exact z1
end Go.Proofs.Vx
namespace Go.Proofs.Vx
open Go Go.Sx Go.Proofs Tryz
attribute [local irreducible] fnT CallOK CallFr AW aI callV aL aJ aH aK gcaseP hid callY XOK
def iP (T:BT) (x:Pt):Int:=if cD x<0 then -1 else if fS false (T.leaves x)=false then -1 else if fA true (T.leaves x)=true∧0<cD x then 1 else 0
abbrev tsI:List AV:=[.any,.any,.any,.any,.any,.any,.loc 5 0,.loc 6 0]
abbrev tsO:List AV:=[.any,.any,.any,.any,.any,.any,.loc 16 0,.loc 17 0]
theorem a1b {K:Nat→Prop} (h5:K 5) (h6:K 6):∀ c∈tsI,In K c:=by
 intro c hc
 simp only[zM,or_false]at hc
 rcases hc with rfl|rfl|rfl|rfl|rfl|rfl|rfl|rfl
 ·exact .any
 ·exact .any
 ·exact .any
 ·exact .any
 ·exact .any
 ·exact .any
 ·exact .loc _ _ h5
 ·exact .loc _ _ h6
theorem c7w {K:Nat→Prop} (h5:K 16) (h6:K 17):∀ c∈tsO,In K c:=by
 intro c hc
 simp only[zM,or_false]at hc
 rcases hc with rfl|rfl|rfl|rfl|rfl|rfl|rfl|rfl
 ·exact .any
 ·exact .any
 ·exact .any
 ·exact .any
 ·exact .any
 ·exact .any
 ·exact .loc _ _ h5
 ·exact .loc _ _ h6
theorem a7c {K:Nat→Prop} (h5:K 5) (h6:K 6):∀ c∈tsI,g6 K c:=by
 intro c hc
 simp only[zM,or_false]at hc
 rcases hc with rfl|rfl|rfl|rfl|rfl|rfl|rfl|rfl
 ·exact .any
 ·exact .any
 ·exact .any
 ·exact .any
 ·exact .any
 ·exact .any
 ·exact h5
 ·exact h6
abbrev preZ (r:Nat) (lp:AV) (s a:Bool):List (Nat × AV):=[(r,lp),(16,.blk [.lit (.bool s)]),(17,.blk [.lit (.bool a)])]
theorem renZ {k0:Int} {N:List TN} {x:Pt} {L fn nt r:Nat} {ps:List Nat} {asg body:Code} (hr:17<r) {s a s' a':Bool} (h:CallOK prog 171 [.lit (.func (.yield L) #[] #[]),.fp (eTr k0 N),.fp (eP x)] (fL (.lpo L fn nt ps asg body tsI) s a) (.tup []) (fL (.lpo L fn nt ps asg body tsI) s' a')):CallOK prog 171 [.lit (.func (.yield L) #[] #[]),.fp (eTr k0 N),.fp (eP x)] (preZ r (.lpo L fn nt ps asg body tsO) s a) (.tup []) (preZ r (.lpo L fn nt ps asg body tsO) s' a'):=by
 have tp:∀ s a,∀ p∈fL (.lpo L fn nt ps asg body tsI) s a,gP (fun i=>i∈[4,5,6]) p.2:=fun s a p hp=>by
  simp only[zM,or_false]at hp
  rcases hp with rfl|rfl|rfl
  ·exact a7c (by simp) (by simp)
  ·intro c hc
   obtain rfl:=Aa.1 hc
   exact .lit _
  ·intro c hc
   obtain rfl:=Aa.1 hc
   exact .lit _
 have:=h.renG (fun i=>if i=4 then r else if i=5 then 16 else 17) (fun i=>if i=16 then 5 else if i=17 then 6 else 4) (fun p hp=>by
  simp only[zM,or_false]at hp
  rcases hp with rfl|rfl|rfl
  ·show (if r=16 then 5 else if r=17 then 6 else 4)=4
   rw[if_neg (by omega),if_neg (by omega)]
  ·rfl
  ·rfl) (fun p hp=>tp s a p hp) (fun p hp=>by
  refine⟨?_,tp s' a' p hp⟩
  simp only[zM,or_false]at hp
  rcases hp with rfl|rfl|rfl<;>simp) (.tup _ (by simp)) (fun y hy=>by
  simp only[zM,or_false]at hy
  rcases hy with rfl|rfl|rfl
  ·exact .lit _
  ·exact cF _ _
  ·exact l7 _)
 exact this
theorem c171z {k0 : Int} {N : List TN} (hN : N.length ≤ 14) (hP : ∀ n ∈ N, BPl 6 n.1) {x : Pt} (hx : BPt 268435456 x) {L fn nt : Nat} {ps : List Nat} {asg body : Code} (hy : ∀ (k : Int) (s a : Bool), k = -1 ∨ k = 0 → XOK prog (MY prog L) [.lit (.int .i64 k)] (fL (.lpo L fn nt ps asg body tsI) s a) (.lit (.bool true)) (fL (.lpo L fn nt ps asg body tsI) (s || decide (k = -1)) (a && decide (k = -1)))) {T : BT} (hr : Rep N T k0) (hh : T.ht ≤ N.length) (s a : Bool) :
  CallOK prog 171 [.lit (.func (.yield L) #[] #[]),.fp (eTr k0 N),.fp (eP x)] (fL (.lpo L fn nt ps asg body tsI) s a) (.tup []) (fL (.lpo L fn nt ps asg body tsI) (fS s (T.leaves x)) (fA a (T.leaves x))) :=
 c171 k0 N hN hP x hx L (.lpo L fn nt ps asg body tsI) (a1b (by simp) (by simp)) (a1b (by simp) (by simp)) (a1b (by simp) (by simp)) (a7c (by simp) (by simp)) rfl rfl hy T hr hh s a
theorem b1o (k0:Int) (N:List TN) (x:Pt) {K:Nat→Prop}:∀ y∈[AV.fp (eTr k0 N),AV.fp (eP x)],In K y:=by
 intro y hy
 simp only[zM,or_false]at hy
 rcases hy with rfl|rfl
 ·exact cF _ _
 ·exact l7 _
set_option maxRecDepth 20000 in
theorem c42 (k0:Int) (N:List TN) (T:BT) (h:TrB N k0 T) (x:Pt) (hx:BPt 268435456 x):CallOK prog 42 [.agg (eTr k0 N),.agg (eP x)] [] (.lit (.int .i64 (iP T x))) []:=by
 refine zs func42 36 [.tmp 4] results42 ?_
 simp only[aD,Ab]
 have ce:=c106 x hx
 have cl:=c107 k0 N x
 have hP:∀ n∈N,BPl 6 n.1:=fun n hn=>(h.b n hn).mono (by decide)
 have hh:T.ht≤N.length:=by have:=b1q T;rw[h.len]at this;exact this
 have hN:=h.n
 have hr:=h.rep
 clear h
 unfold iP
 have hec:=a8l x▸b7n x.w [x.x,x.y,x.z]
 generalize cD x=e at *
 by_cases q:e<0
 ·have k1:(e<0)=True:=eq_true q
  rw[if_pos q]
  clear hr hh hP hx hec
  exact z1
 ·have k1:(e<0)=False:=eq_false q
  rw[if_neg q]
  replace hP:=Hid.mk hP
  repeat'(first|refine zk ?_|(refine zu ?_ ?_<;>intro hc)|(refine zq ce ?_)|(refine zp cl (by simp -dsimp (disch:=try exact zo)only[go_sem]) (.clo _ _ (b1o k0 N x)) ?_)|(refine zv ?_ ?_<;>intro hg)|omega|simp -dsimp (disch:=try exact zo)only[go_sem,k1]|contradiction|rfl)
  refine b8f (pre:=[(16,.blk [.lit (.bool false)]),(17,.blk [.lit (.bool true)])]) (post:=[(16,.blk [.lit (.bool (fS false (T.leaves x)))]),(17,.blk [.lit (.bool (fA true (T.leaves x)))])]) tsO (f:=171) (caps:=[.fp (eTr k0 N),.fp (eP x)]) ?_ ?_ ?_ ?_ ?_ ?_ ?_ ?_ ?_ ?_ ?_ ?_ ?_ ?_
  ·kernel_rfl
  ·rfl
  ·exact fun t=>match t with
    | 0=>.inl rfl
    | 1=>.inl rfl
    | 2=>.inl rfl
    | 3=>.inl rfl
    | 4=>.inl rfl
    | 5=>.inl rfl
    | 6=>.inr rfl
    | 7=>.inr rfl
    | _+8=>.inl rfl
  ·intro L fn
   refine renZ (by dsimp only;omega) (c171z hN hP.out hx (fun k s a hk=>?_) hr hh false true)
   refine b9f (pre:=[(5,.blk [.lit (.bool s)]),(6,.blk [.lit (.bool a)])]) (post:=[(5,.blk [.lit (.bool (s||decide (k=-1)))]),(6,.blk [.lit (.bool (a&&decide (k=-1)))])]) (by simp) (by decide) (by simp) rfl (by simp) (by
    intro p hp
    simp only[zM,or_false]at hp
    rcases hp with rfl|rfl
    ·refine⟨by simp,fun c hc=>?_⟩
     obtain rfl:=Aa.1 hc
     exact .lit _
    ·refine⟨by simp,fun c hc=>?_⟩
     obtain rfl:=Aa.1 hc
     exact .lit _) ?_
   simp only[aD,Ab,rK]
   clear hr hh hP hx hec ce cl
   rcases hk with rfl|rfl<;>cases s<;>cases a
   all_goals repeat'(first|refine AW.stop ?_|refine zk ?_|(refine zu ?_ ?_<;>intro hc)|(refine zv ?_ ?_<;>intro hg)|omega|simp -dsimp (disch:=try exact zo)only[go_sem]|contradiction|rfl)
   all_goals
    intro p hp
    simp only[zM,or_false]at hp
    rcases hp with rfl|rfl<;>rfl
  ·intro p hp
   simp only[zM,or_false]at hp
   rcases hp with rfl|rfl<;>rfl
  ·exact b1o k0 N x
  ·intro p hp
   simp only[zM,or_false]at hp
   rcases hp with rfl|rfl<;>intro c hc<;>obtain rfl:=Aa.1 hc<;>exact .lit _
  ·exact c7w (by simp) (by simp)
  ·show ([16,17]:List Nat).Nodup
   decide
  ·intro p hp
   simp only[zM,or_false]at hp
   rcases hp with rfl|rfl
   ·dsimp only;omega
   ·dsimp only;omega
  ·intro p hp
   simp only[zM,or_false]at hp
   rcases hp with rfl|rfl<;>refine⟨by simp,fun c hc=>?_⟩<;>obtain rfl:=Aa.1 hc<;>exact .lit _
  ·rfl
  ·intro p hp
   simp only[zM,or_false]at hp
   rcases hp with rfl|rfl<;>rfl
  ·clear hr hh hP hx ce cl
   generalize fS false (T.leaves x)=s at *
   generalize fA true (T.leaves x)=a at *
   dsimp only[List.cons_append,List.nil_append]
   have k2:(0<e)=(e=1):=propext (by omega)
   cases s
   ·rw[if_pos rfl]
    exact z1
   ·rw[if_neg (by decide)]
    cases a
    ·rw[if_neg (by simp)]
     exact z1
    ·by_cases q2:0<e
     ·have k2:(0<e)=True:=eq_true q2
      rw[if_pos ⟨rfl,q2⟩]
      exact z1
     ·have k2:(0<e)=False:=eq_false q2
      rw[if_neg (fun h=>q2 h.2)]
      exact z1
end Go.Proofs.Vx
namespace Go.Proofs.Vx
open Go Go.Sx Go.Proofs Tryz
attribute [local irreducible] fnT CallOK CallFr AW aI callV aL aJ aH aK gcaseP hid
theorem c7n:plT prog 79=some [(0,8),(8,1),(9,1)]:=by kernel_rfl
attribute [go_sem] c7n
def iJ (p:Pl):Int:=if (aP p aN).1=[]then 0 else if (aP p aN).2=[]then -1 else 1
def iI (p:Pl):List TN:=if (aP p aN).1=[]then []else if (aP p aN).2=[]then []else [(p,-1,0)]
set_option maxRecDepth 20000 in
theorem c46 (p:Pl) (hp:BPl 100000 p):CallOK prog 46 [.agg (eH p)] [] (.agg (eTr (iJ p) (iI p))) []:=by
 have hml:maxLen=9223372036854775807:=rfl
 have w0:=c57
 have hw:BdC aN:=zD.mono (by decide) (by decide) (by decide)
 have sp:=c21x aN p (.inr jD) hw hp
 have hs:=a5j (.inr jD) zD hp (by decide)
 have e1:=c103 (aP p aN).1 (Ae hs.1.n (by decide))
 have e2:=c103 (aP p aN).2 (Ae hs.2.n (by decide))
 have hz:eTS []=[]:=rfl
 have hone:eTS [(p,-1,0)]=[[.lit (.bool (Zn p.a)),.lit (.string (Zm p.a)),.lit (.bool (Zn p.b)),.lit (.string (Zm p.b)),.lit (.bool (Zn p.c)),.lit (.string (Zm p.c)),.lit (.bool (Zn p.d)),.lit (.string (Zm p.d)),.lit (.int .i64 (-1)),.lit (.int .i64 0)]]:=rfl
 unfold iJ iI
 clear hs hw hp
 generalize (aP p aN).1=A at *
 generalize (aP p aN).2=B at *
 generalize aN=W at *
 simp only[eH,e4]at sp ⊢
 by_cases qA:A=[]
 ·rw[if_pos qA,if_pos qA]
  have:A.isEmpty=true:=by subst qA;rfl
  rw[this]at e1
  clear this qA
  refine CallOK.wk (r:=.agg [.lit (.int .i64 0),.lit (.slice none 0 0)]) ?_ (fun g v=>a7g)
  (refine fV func46 rfl 23 rfl rfl (.agg _ (by intro c hc;simp only[zM,or_false]at hc;rcases hc with rfl|rfl<;>exact .lit _)) [.cell 2 64] (congrArg Ac results46) ?_;simp only[aD,Ab])
  have zh0:=c49
  exact z1
 ·rw[if_neg qA,if_neg qA]
  have:A.isEmpty=false:=by simpa using qA
  rw[this]at e1
  clear this qA
  by_cases qB:B=[]
  ·rw[if_pos qB,if_pos qB]
   have:B.isEmpty=true:=by subst qB;rfl
   rw[this]at e2
   clear this qB
   (refine fV func46 rfl 23 rfl rfl (rQ _ _) [.cell 2 64] (congrArg Ac results46) ?_;simp only[aD,Ab])
   have zh0:=c49
   exact z1
  ·rw[if_neg qB,if_neg qB]
   have:B.isEmpty=false:=by simpa using qB
   rw[this]at e2
   clear this qB
   (refine fV func46 rfl 23 rfl rfl (rQ _ _) [.cell 2 64] (congrArg Ac results46) ?_;simp only[aD,Ab])
   have zh0:=c49
   exact z1
end Go.Proofs.Vx
namespace Go.Proofs.Vx
open Go Go.Sx Go.Proofs Tryz
attribute [local irreducible] fnT CallOK CallFr AW aI callV aL aJ aH aK gcaseP hid
set_option maxRecDepth 20000 in
theorem c105 (k0:Int) (N:List TN) (hN:N.length≤14) (hP:∀ n∈N,BPl 6 n.1) (T:BT):∀ (k:Int) (c e:aC) (d:Nat),Rep N T k→d+T.ht≤64→CellOK c→RC c e→SmC d e→CallOK prog 105 [.agg (eTr k0 N),.lit (.int .i64 k),.agg [.sl (eS c)]] [] (.lit (.bool (T.chkR c))) []:=by
 have hl:(eTS N).length=N.length:=p9 N
 induction T with
 | lf b0 =>
  intro k c e d hk _ _ _ _
  have hk0:k<1:=by have:=xL b0;rw[show k=lfv b0 from hk];omega
  have k1:(k<1)=True:=eq_true hk0
  have k5:True:=trivial
  have es1:True:=trivial
  have e1:True:=trivial
  have e2:True:=trivial
  have sp:True:=trivial
  have il:True:=trivial
  have ir:True:=trivial
  simp only[BT.chkR]
  clear hk
  (refine zs func105 47 [.tmp 6] results105 ?_;simp only[aD,Ab])
  exact z1
 | nd j p l r ihl ihr =>
  intro k c e d hk hd hc hrc hsm
  obtain⟨rfl,n,hn1,rfl,hn3,hn4⟩:=hk
  have hj:=(Ad.1 hn1).1
  have hje:=(Ad.1 hn1).2
  have es1:=wM N j hj
  rw[hje]at es1
  have hpn:=hP n (Af hn1)
  simp only[BT.ht]at hd
  have k1:((j:Int)+1<1)=False:=eq_false (by omega)
  have k5:((j:Int)+1 - 1)=(j:Int):=by omega
  have hb:=RC.bd hrc (hsm.bd.mono (S':=64) (M':=64) (K':=22) (by omega) (by omega) (Nat.le_refl _))
  have sp:=c95 c n.1 hc (hpn.mono (by decide)) (Ae hb.n (by decide)) (fun s hs=>⟨Ae (hb.m s hs) (by decide),fun v hv=>(hb.k s hs v hv).mono (by decide)⟩)
  obtain⟨r1,r2⟩:=hrc.spl hc hsm.toCellOK n.1
  have o1:=a7d (b:=n.1) hc
  have o2:=wH (b:=n.1) hsm hpn
  have hlen:∀ x y:aC,RC x y→(y=[]∨SmC (d+1) y)→x.length≤1048576:=fun x y h1 h2=>by
   rw[h1.length]
   rcases h2 with rfl|h2
   ·exact Nat.zero_le _
   ·have:=h2.n;omega
  have e1:=c110 (cP n.1 c).1 (hlen _ _ r1 o2.1)
  have e2:=c110 (cP n.1 c).2 (hlen _ _ r2 o2.2)
  have il:=fun (h:(cP n.1 c).1≠[])=>ihl n.2.1 (cP n.1 c).1 (aP n.1 e).1 (d+1) hn3 (by omega) (o1.1.resolve_left h) r1 (o2.1.resolve_left fun q=>h (r1.nil_iff.2 q))
  have ir:=fun (h:(cP n.1 c).2≠[])=>ihr n.2.2 (cP n.1 c).2 (aP n.1 e).2 (d+1) hn4 (by omega) (o1.2.resolve_left h) r2 (o2.2.resolve_left fun q=>h (r2.nil_iff.2 q))
  simp only[BT.chkR]
  clear ihl ihr hlen r1 r2 o1 o2 hb hrc hsm hc hje hn1 hn3 hn4 hpn
  generalize (cP n.1 c).1=A at *
  generalize (cP n.1 c).2=B at *
  have hA:A.isEmpty=true∨(A.isEmpty=false∧A≠[]):=by cases A<;>simp
  have hB:B.isEmpty=true∨(B.isEmpty=false∧B≠[]):=by cases B<;>simp
  obtain⟨p,x,y⟩:=n
  dsimp only[eN]at es1 sp il ir
  simp only[eH,e4]at sp
  rcases hA with hA|⟨hA,hA2⟩
  ·rw[hA]at e1 ⊢
   simp only[Ak,Ai]
   clear il ir hB e2
   have il:True:=trivial
   have ir:True:=trivial
   have e2:True:=trivial
   (refine zs func105 47 [.tmp 6] results105 ?_;simp only[aD,Ab])
   exact z1
  ·rw[hA]at e1 ⊢
   replace il:=il hA2
   rcases hB with hB|⟨hB,hB2⟩
   ·rw[hB]at e2 ⊢
    simp only[Ak,Aj,Ai,Ag]
    clear il ir
    have il:True:=trivial
    have ir:True:=trivial
    (refine zs func105 47 [.tmp 6] results105 ?_;simp only[aD,Ab])
    exact z1
   ·rw[hB]at e2 ⊢
    replace ir:=ir hB2
    simp only[Aj,Ag]
    generalize l.chkR A=u at *
    generalize r.chkR B=v at *
    (refine zs func105 47 [.tmp 6] results105 ?_;simp only[aD,Ab])
    cases u
    all_goals exact z1
end Go.Proofs.Vx
namespace Go.Proofs.Vx
open Go Go.Sx Go.Proofs Tryz
attribute [local irreducible] fnT CallOK CallFr AW aI callV aL aJ aH aK gcaseP hid
set_option maxRecDepth 20000 in
theorem c39a (k0:Int) (N:List RN) (hs:CallOK prog 104 [.agg (b5 k0 N)] [] (.lit (.bool false)) []):CallOK prog 39 [.agg (b5 k0 N)] [] (.lit (.int .i64 3)) []:=by
 refine zs func39 12 [.tmp 2] results39 ?_
 simp only[aD,Ab]
 have cp:True:=trivial
 have w0:True:=trivial
 exact z1
set_option maxRecDepth 20000 in
theorem c39b (k0:Int) (N:List TN) (T:BT) (h:TrB N k0 T) (hs:CallOK prog 104 [.agg (eTr k0 N)] [] (.lit (.bool true)) []):CallOK prog 39 [.agg (eTr k0 N)] [] (.lit (.int .i64 (if T.chk aN=true then 0 else 1))) []:=by
 refine zs func39 12 [.tmp 2] results39 ?_
 simp only[aD,Ab]
 have hh:=h.ht
 have cp:=c105 k0 N h.n (fun n hn=>(h.b n hn).mono (by decide)) T k0 c6 aN 6 h.rep (by omega) a2s a5e wF
 have he:T.chkR c6=T.chk aN:=by
  have:=c6r (T:=T) a2s jD a5e
  cases u:T.chkR c6<;>cases v:T.chk aN<;>simp[u,v]at this ⊢
 rw[he]at cp
 have w0:=c94
 clear h hh he
 generalize T.chk aN=u at *
 generalize c6=W at *
 cases u
 ·rw[if_neg (by decide)]
  exact z1
 ·rw[if_pos rfl]
  exact z1
end Go.Proofs.Vx
namespace Go.Proofs.Vx
open Go Go.Sx Go.Proofs Tryz
attribute [local irreducible] fnT CallOK CallFr AW aI callV aL aJ aH aK gcaseP hid
def mL (T:BT) (x:Pt) (v:Int):Bool:=decide (v∈T.leaves x)
end Go.Proofs.Vx
namespace Go.Proofs.Vx
open Go Go.Sx Go.Proofs Tryz
attribute [local irreducible] fnT CallOK CallFr AW aI callV aL aJ aH aK gcaseP hid
theorem d0b (ks:List Int):∀ s,fS s ks=(s||decide (-1∈ks)):=by
 induction ks with
 | nil=>intro s;simp[fS]
 | cons k ks ih =>
  intro s
  show fS (s||decide (k=-1)) ks=_
  rw[ih]
  by_cases q:k=-1
  ·simp[q]
  ·have q':¬ (-1:Int)=k:=fun e=>q e.symm
   simp[q,q']
theorem d0d (ks:List Int):∀ a,fA a ks=(a&&decide (∀ k∈ks,k=-1)):=by
 induction ks with
 | nil=>intro a;simp[fA]
 | cons k ks ih =>
  intro a
  show fA (a&&decide (k=-1)) ks=_
  rw[ih]
  by_cases q:k=-1<;>simp[q]
theorem b0h (T:BT) (x:Pt):iP T x=if cD x<0∨mL T x (-1)=false then -1 else if mL T x 0=true∨cD x=0 then 0 else 1:=by
 unfold iP
 have h1:fS false (T.leaves x)=mL T x (-1):=by rw[d0b];simp[mL]
 have h2:fA true (T.leaves x)=true↔mL T x 0=false:=by
  rw[d0d]
  simp only[Ag,decide_eq_true_eq,mL,decide_eq_false_iff_not]
  constructor
  ·intro h h0;have:=h 0 h0;omega
  ·intro h k hk
   rcases BT.leaves_two T x k hk with e|e
   ·exact e
   ·subst e;exact absurd hk h
 rw[h1]
 by_cases q:cD x<0
 ·rw[if_pos q,if_pos (.inl q)]
 ·rw[if_neg q]
  cases u:mL T x (-1)
  ·rw[if_pos rfl,if_pos (.inr rfl)]
  ·rw[if_neg (show ¬ (true=false) by decide),if_neg (show ¬ (cD x<0∨true=false)from fun h=>h.elim q (fun h=>absurd h (by decide)))]
   cases v:mL T x 0
   ·have ha:=h2.2 v
    by_cases q0:cD x=0
    ·rw[if_neg (show ¬ (fA true (T.leaves x)=true∧0<cD x)from fun h=>by have:=h.2;omega),if_pos (show false=true∨cD x=0 from .inr q0)]
    ·rw[if_pos (show fA true (T.leaves x)=true∧0<cD x from⟨ha,by omega⟩),if_neg (show ¬ (false=true∨cD x=0)from fun h=>h.elim (fun h=>absurd h (by decide)) q0)]
   ·have ha:¬ fA true (T.leaves x)=true:=fun h=>by have:=h2.1 h;rw[v]at this;cases this
    rw[if_neg (show ¬ (fA true (T.leaves x)=true∧0<cD x)from fun h=>ha h.1),if_pos (show true=true∨cD x=0 from .inl rfl)]
end Go.Proofs.Vx
