import Derived.Test.YtjlfgmhmalbiiaaGreatDoorW38
set_option linter.all false
set_option maxHeartbeats 8000000
open Array renaming toList → Ad
open Bool renaming not_false → Ae, not_true → Ag, true_and → Al
open List renaming mem_singleton → Aa, getElem?_eq_some_iff → Ac, length_append → Af, mem_of_getElem? → Ah, mem_map → Ai, length_map → Aj, length_nil → Ak, map_map → Am
open Nat renaming reduceAdd → Ab, zero_add → An, zero_le → Ao
namespace Go.Proofs.Vx
open Go Go.Sx Go.Proofs Tryz
attribute [local irreducible] fnT CallOK CallFr AW aI callV aL aJ aH aK gcaseP hid
theorem b5g:agT prog 124=some false∧agT prog 182=some false∧szT prog 124=some 1∧szT prog 182=some 1:=by and_intros<;>kernel_rfl
attribute [go_sem] b5g
theorem z8:fnT prog 102=true:=by kernel_rfl
theorem iV:fnT prog 170=true:=by kernel_rfl
theorem c102 (k:Int) (c:aC) (b r:Bool) (hr:(b&&!c.isEmpty)=r) (hn:c.length≤1048576):CallOK prog 102 [.lit (.int .i64 k),.agg [.sl (eS c)],.loc 2 0] [(2,.blk [.lit (.bool b)])] (.lit (.bool r)) [(2,.blk [.lit (.bool r)])]:=by
 refine fC func102 rfl 13 rfl rfl (by simp) (.lit _) (by
  intro q hq
  obtain rfl:=Aa.1 hq
  refine⟨by simp,fun c hc=>?_⟩
  obtain rfl:=Aa.1 hc
  exact .lit _) [.tmp 5] (congrArg Ad results102) ?_
 simp only[aD,Ab]
 have hml:maxLen=9223372036854775807:=rfl
 have cn:=c103 c hn
 subst hr
 generalize c.isEmpty=e at *
 cases b<;>cases e<;>simp only[Bool.and_true,Bool.and_false,Ag,Ae]
 all_goals repeat'(first|refine zk ?_|(refine zu ?_ ?_<;>intro hc)|(refine AW.ret (bW ?_ ?_)<;>simp -dsimp (disch:=try exact zo)only[go_sem])|(refine AW.nil (bW ?_ ?_)<;>simp -dsimp (disch:=try exact zo)only[go_sem])|(refine zq cn ?_)|(refine zv ?_ ?_<;>intro hg)|omega|simp -dsimp (disch:=try exact zo)only[go_sem,Ag,Ae]|contradiction|rfl)
abbrev gV (k0:Int) (N:List TN) (b:Bool):List (Nat × AV):=[(0,.blk [.clo 170 [.loc 1 0,.fp (eTr k0 N),.loc 0 0]]),(1,.blk [.clo 102 [.loc 2 0]]),(2,.blk [.lit (.bool b)])]
abbrev uG (k0:Int) (N:List TN) (k:Int) (c:aC):List AV:=[.lit (.int .i64 k),.agg [.sl (eS c)],.loc 1 0,.fp (eTr k0 N),.loc 0 0]
theorem cF {K:Nat→Prop} (k:Int) (N:List TN):In K (.fp (eTr k N)):=.fp _ (by
 intro c hc
 simp only[zM,or_false]at hc
 rcases hc with rfl|rfl
 ·exact .lit _
 ·exact .sl _ (of_eq_true (uF N)))
theorem in170 (k0:Int) (N:List TN) (k:Int) (c:aC) (b:Bool):∀ x∈uG k0 N k c,In (fun i=>i∈(gV k0 N b).map (·.1)) x:=by
 intro x hx
 simp only[zM,or_false]at hx
 rcases hx with rfl|rfl|rfl|rfl|rfl
 ·exact .lit _
 ·exact fG _
 ·exact .loc _ _ (by simp)
 ·exact cF _ _
 ·exact .loc _ _ (by simp)
theorem uM (k0:Int) (N:List TN) (b b':Bool):∀ p∈gV k0 N b',p.1∈(gV k0 N b).map (·.1)∧InC (fun i=>i∈(gV k0 N b).map (·.1)) p.2:=by
 intro p hp
 simp only[zM,or_false]at hp
 rcases hp with rfl|rfl|rfl<;>refine⟨by simp,fun c hc=>?_⟩<;>obtain rfl:=Aa.1 hc
 ·refine .clo _ _ fun x hx=>?_
  simp only[zM,or_false]at hx
  rcases hx with rfl|rfl|rfl
  ·exact .loc _ _ (by simp)
  ·exact cF _ _
  ·exact .loc _ _ (by simp)
 ·refine .clo _ _ fun x hx=>?_
  obtain rfl:=Aa.1 hx
  exact .loc _ _ (by simp)
 ·exact .lit _
theorem lv170 (k0:Int) (N:List TN) (b:Bool):∀ p∈gV k0 N b,p.2.live=true:=by
 intro p hp
 simp only[zM,or_false]at hp
 rcases hp with rfl|rfl|rfl<;>rfl
theorem qD {k0:Int} {N:List TN} {k:Int} {c:aC} {b b':Bool} {i:Nat} {ob:Nat→AV} {E:Eff→Prop} (hf:fnT prog 170=true) (hc:CallOK prog 170 (uG k0 N k c) (gV k0 N b) (.tup []) (gV k0 N b')) (hob:∀ p∈gV k0 N b,ob p.1=p.2) (h:E ⟨.tup [],gV k0 N b',[0,1,2]⟩):callV prog 170 (uG k0 N k c) i ob E :=
 kP _ _ _ hf hc hob (in170 k0 N k c b) (fun p hp=>(uM k0 N b b p hp).2) (show ([0,1,2]:List Nat).Nodup by decide) (.tup _ (by simp)) (uM k0 N b b') rfl (lv170 k0 N b) h
theorem a0q {k:Int} {c:aC} {b r:Bool} {i:Nat} {ob:Nat→AV} {E:Eff→Prop} (hf:fnT prog 102=true) (hc:CallOK prog 102 [.lit (.int .i64 k),.agg [.sl (eS c)],.loc 2 0] [(2,.blk [.lit (.bool b)])] (.lit (.bool r)) [(2,.blk [.lit (.bool r)])]) (hob:ob 2=.blk [.lit (.bool b)]) (h:E ⟨.lit (.bool r),[(2,.blk [.lit (.bool r)])],[2]⟩):callV prog 102 [.lit (.int .i64 k),.agg [.sl (eS c)],.loc 2 0] i ob E:=by
 refine mH 2 _ _ _ hf hc hob (fun x hx=>?_) (fun c hc=>?_) (fun c hc=>?_) (.lit _) rfl h
 ·simp only[zM,or_false]at hx
  rcases hx with rfl|rfl|rfl
  ·exact .lit _
  ·exact fG _
  ·exact .loc _ _ rfl
 ·obtain rfl:=Aa.1 hc;exact .lit _
 ·obtain rfl:=Aa.1 hc;exact .lit _
theorem xL (b:Bool):lfv b≤0:=by cases b<;>decide
set_option maxRecDepth 20000 in
theorem c170 (k0:Int) (N:List TN) (hN:N.length≤14) (hP:∀ n∈N,BPl 6 n.1) (T:BT):∀ (k:Int) (c:aC) (d:Nat) (b:Bool),Rep N T k→d+T.ht≤64→(c=[]∨SmC d c)→CallOK prog 170 (uG k0 N k c) (gV k0 N b) (.tup []) (gV k0 N (b&&T.chk c)):=by
 have hl:(eTS N).length=N.length:=p9 N
 induction T with
 | lf b0 =>
  intro k c d b hk _ hc
  have hk0:k≤0:=by rw[show k=lfv b0 from hk];exact xL b0
  have hn:c.length≤1048576:=by
   rcases hc with rfl|h
   ·exact Ao _
   ·have:=h.n;omega
  simp only[BT.chk]
  have cv:=c102 k c b _ rfl hn
  generalize (b&&!c.isEmpty)=r at *
  have k1:(k≤0)=True:=eq_true hk0
  have k2:True:=trivial
  have k5:True:=trivial
  have es1:True:=trivial
  refine fC func170 rfl 49 rfl rfl (by simp) (.tup _ (by simp)) (uM k0 N b r) [] (congrArg Ad results170) ?_
  simp only[aD,Ab]
  clear hk hc
  cases r
  all_goals repeat'(first|refine zg ?_|(refine zc ?_ ?_<;>intro hc<;>first|simp only[NM]at hc|omega|skip)|refine zr ?_|(refine AW.ret (bW ?_ (by intro p hp;simp only[zM,or_false]at hp;rcases hp with rfl|rfl|rfl<;>rfl))<;>simp -dsimp (disch:=try exact zo)only[go_sem])|(refine AW.nil (bW ?_ (by intro p hp;simp only[zM,or_false]at hp;rcases hp with rfl|rfl|rfl<;>rfl))<;>simp -dsimp (disch:=try exact zo)only[go_sem])|(refine a0q z8 cv rfl ?_)|(first|refine qD iV il (by intro p hp;simp only[zM,or_false]at hp;rcases hp with rfl|rfl|rfl<;>rfl) ?_|refine qD iV ir (by intro p hp;simp only[zM,or_false]at hp;rcases hp with rfl|rfl|rfl<;>rfl) ?_)|(refine zq sp ?_)|refine⟨by omega,?_⟩|(refine zb ?_ ?_<;>intro hg<;>(try rw[hg])<;>try simp only[NM]at hg)|omega|simp -dsimp (disch:=try exact zo)only[go_sem,hl,es1,k1,k2,k5,ZT]|contradiction|rfl)
 | nd j p l r ihl ihr =>
  intro k c d b hk hd hc
  obtain⟨rfl,n,hn1,rfl,hn3,hn4⟩:=hk
  have hj:=(Ac.1 hn1).1
  have hje:=(Ac.1 hn1).2
  have es1:=wM N j hj
  rw[hje]at es1
  have hpn:=hP n (Ah hn1)
  have hn:c.length≤1048576:=by
   rcases hc with rfl|h
   ·exact Ao _
   ·have:=h.n;simp only[BT.ht]at hd;omega
  have cv:=c102 ((j:Int)+1) c b _ rfl hn
  have k1:((j:Int)+1≤0)=False:=eq_false (by omega)
  have k2:((N.length:Int)<(j:Int)+1)=False:=eq_false (by omega)
  have k5:((j:Int)+1 - 1)=(j:Int):=by omega
  have hchk:(b&&(BT.nd j n.1 l r).chk c)=((b&&!c.isEmpty)&&l.chk (aP n.1 c).1&&r.chk (aP n.1 c).2):=by simp only[BT.chk,Bool.and_assoc]
  rw[hchk]
  cases hr:(b&&!c.isEmpty)
  ·rw[hr]at cv
   simp only[Bool.false_and]
   refine fC func170 rfl 49 rfl rfl (by simp) (.tup _ (by simp)) (uM k0 N b false) [] (congrArg Ad results170) ?_
   simp only[aD,Ab]
   clear ihl ihr hr hchk
   have sp:True:=trivial
   have il:True:=trivial
   have ir:True:=trivial
   repeat'(first|refine zg ?_|(refine zc ?_ ?_<;>intro hc<;>first|simp only[NM]at hc|omega|skip)|refine zr ?_|(refine AW.ret (bW ?_ (by intro p hp;simp only[zM,or_false]at hp;rcases hp with rfl|rfl|rfl<;>rfl))<;>simp -dsimp (disch:=try exact zo)only[go_sem])|(refine AW.nil (bW ?_ (by intro p hp;simp only[zM,or_false]at hp;rcases hp with rfl|rfl|rfl<;>rfl))<;>simp -dsimp (disch:=try exact zo)only[go_sem])|(refine a0q z8 cv rfl ?_)|(first|refine qD iV il (by intro p hp;simp only[zM,or_false]at hp;rcases hp with rfl|rfl|rfl<;>rfl) ?_|refine qD iV ir (by intro p hp;simp only[zM,or_false]at hp;rcases hp with rfl|rfl|rfl<;>rfl) ?_)|(refine zq sp ?_)|refine⟨by omega,?_⟩|(refine zb ?_ ?_<;>intro hg<;>(try rw[hg])<;>try simp only[NM]at hg)|omega|simp -dsimp (disch:=try exact zo)only[go_sem,hl,es1,k1,k2,k5,ZT]|contradiction|rfl)
  ·rw[hr]at cv
   have hc':SmC d c:=by
    rcases hc with rfl|h
    ·simp at hr
    ·exact h
   have hsm:=wH (b:=n.1) hc' hpn
   have sp:=c21x c n.1 (.inr hc'.toCellOK) (hc'.bd.mono (by simp only[BT.ht]at hd;omega) (by simp only[BT.ht]at hd;omega) (by decide)) (hpn.mono (by decide))
   have il:=ihl n.2.1 (aP n.1 c).1 (d+1) true hn3 (by simp only[BT.ht]at hd;omega) hsm.1
   have ir:=ihr n.2.2 (aP n.1 c).2 (d+1) (true&&l.chk (aP n.1 c).1) hn4 (by simp only[BT.ht]at hd;omega) hsm.2
   simp only[Al]at il ir ⊢
   clear ihl ihr hr hchk hc hc' hsm hje hn1 hn3 hn4 hpn
   generalize l.chk (aP n.1 c).1=u at *
   generalize r.chk (aP n.1 c).2=v at *
   generalize (aP n.1 c).1=A at *
   generalize (aP n.1 c).2=B at *
   obtain⟨p,x,y⟩:=n
   dsimp only[eN]at es1 sp il ir
   simp only[eH,e4]at sp
   refine fC func170 rfl 49 rfl rfl (by simp) (.tup _ (by simp)) (uM k0 N b (u&&v)) [] (congrArg Ad results170) ?_
   simp only[aD,Ab]
   repeat'(first|refine zg ?_|(refine zc ?_ ?_<;>intro hc<;>first|simp only[NM]at hc|omega|skip)|refine zr ?_|(refine AW.ret (bW ?_ (by intro p hp;simp only[zM,or_false]at hp;rcases hp with rfl|rfl|rfl<;>rfl))<;>simp -dsimp (disch:=try exact zo)only[go_sem])|(refine AW.nil (bW ?_ (by intro p hp;simp only[zM,or_false]at hp;rcases hp with rfl|rfl|rfl<;>rfl))<;>simp -dsimp (disch:=try exact zo)only[go_sem])|(refine a0q z8 cv rfl ?_)|(first|refine qD iV il (by intro p hp;simp only[zM,or_false]at hp;rcases hp with rfl|rfl|rfl<;>rfl) ?_|refine qD iV ir (by intro p hp;simp only[zM,or_false]at hp;rcases hp with rfl|rfl|rfl<;>rfl) ?_)|(refine zq sp ?_)|refine⟨by omega,?_⟩|(refine zb ?_ ?_<;>intro hg<;>(try rw[hg])<;>try simp only[NM]at hg)|omega|simp -dsimp (disch:=try exact zo)only[go_sem,hl,es1,k1,k2,k5,ZT]|contradiction|rfl)
end Go.Proofs.Vx
namespace Go.Proofs.Vx
open Go Go.Sx Go.Proofs Tryz
attribute [local irreducible] fnT CallOK CallFr AW aI callV aL aJ aH aK gcaseP hid
theorem c3k:zeT prog 182=some [.lit (.nilFunc)]:=by kernel_rfl
attribute [go_sem] c3k
def sg170 (i:Nat):Nat:=if i=0 then 11 else if i=1 then 10 else 0
def tu170 (i:Nat):Nat:=if i=11 then 0 else if i=10 then 1 else 2
abbrev kD (k0:Int) (N:List TN) (b:Bool):List (Nat × AV):=[(11,.blk [.clo 170 [.loc 10 0,.fp (eTr k0 N),.loc 11 0]]),(10,.blk [.clo 102 [.loc 0 0]]),(0,.blk [.lit (.bool b)])]
abbrev argW (k0:Int) (N:List TN) (k:Int) (c:aC):List AV:=[.lit (.int .i64 k),.agg [.sl (eS c)],.loc 10 0,.fp (eTr k0 N),.loc 11 0]
theorem b0w (k0:Int) (N:List TN) (b:Bool):∀ p∈gV k0 N b,gP (fun i=>i∈[0,1,2]) p.2:=by
 intro p hp
 simp only[zM,or_false]at hp
 rcases hp with rfl|rfl|rfl
 ·intro c hc
  obtain rfl:=Aa.1 hc
  intro x hx
  simp only[zM,or_false]at hx
  rcases hx with rfl|rfl|rfl
  ·simp[fK]
  ·exact cF _ _
  ·simp[fK]
 ·intro c hc
  obtain rfl:=Aa.1 hc
  intro x hx
  obtain rfl:=Aa.1 hx
  simp[fK]
 ·intro c hc
  obtain rfl:=Aa.1 hc
  exact .lit _
theorem renW {k0:Int} {N:List TN} {k:Int} {c:aC} {b b':Bool} (h:CallOK prog 170 (uG k0 N k c) (gV k0 N b) (.tup []) (gV k0 N b')):CallOK prog 170 (argW k0 N k c) (kD k0 N b) (.tup []) (kD k0 N b'):=by
 have:=h.renG sg170 tu170 (fun p hp=>by
  simp only[zM,or_false]at hp
  rcases hp with rfl|rfl|rfl<;>rfl) (fun p hp=>b0w k0 N b p hp) (fun p hp=>by
  refine⟨?_,b0w k0 N b' p hp⟩
  simp only[zM,or_false]at hp
  rcases hp with rfl|rfl|rfl<;>simp) (.tup _ (by simp)) (fun x hx=>by
  simp only[zM,or_false]at hx
  rcases hx with rfl|rfl|rfl|rfl|rfl
  ·exact .lit _
  ·exact fG _
  ·show (1:Nat)∈[0,1,2];decide
  ·exact cF _ _
  ·show (0:Nat)∈[0,1,2];decide)
 exact this
theorem obW (k0:Int) (N:List TN) (b b':Bool):∀ p∈kD k0 N b',p.1∈(kD k0 N b).map (·.1)∧InC (fun i=>i∈(kD k0 N b).map (·.1)) p.2:=by
 intro p hp
 simp only[zM,or_false]at hp
 rcases hp with rfl|rfl|rfl<;>refine⟨by simp,fun c hc=>?_⟩<;>obtain rfl:=Aa.1 hc
 ·refine .clo _ _ fun x hx=>?_
  simp only[zM,or_false]at hx
  rcases hx with rfl|rfl|rfl
  ·exact .loc _ _ (by simp)
  ·exact cF _ _
  ·exact .loc _ _ (by simp)
 ·refine .clo _ _ fun x hx=>?_
  obtain rfl:=Aa.1 hx
  exact .loc _ _ (by simp)
 ·exact .lit _
theorem lvW (k0:Int) (N:List TN) (b:Bool):∀ p∈kD k0 N b,p.2.live=true:=by
 intro p hp
 simp only[zM,or_false]at hp
 rcases hp with rfl|rfl|rfl<;>rfl
theorem callW {k0:Int} {N:List TN} {k:Int} {c:aC} {b b':Bool} {i:Nat} {ob:Nat→AV} {E:Eff→Prop} (hf:fnT prog 170=true) (hc:CallOK prog 170 (argW k0 N k c) (kD k0 N b) (.tup []) (kD k0 N b')) (hob:∀ p∈kD k0 N b,ob p.1=p.2) (h:E ⟨.tup [],kD k0 N b',[11,10,0]⟩):callV prog 170 (argW k0 N k c) i ob E :=
 kP _ _ _ hf hc hob (by
  intro x hx
  simp only[zM,or_false]at hx
  rcases hx with rfl|rfl|rfl|rfl|rfl
  ·exact .lit _
  ·exact fG _
  ·exact .loc _ _ (by simp)
  ·exact cF _ _
  ·exact .loc _ _ (by simp)) (fun p hp=>(obW k0 N b b p hp).2) (show ([11,10,0]:List Nat).Nodup by decide) (.tup _ (by simp)) (obW k0 N b b') rfl (lvW k0 N b) h
set_option maxRecDepth 20000 in
theorem c101 (k0:Int) (N:List TN) (hN:N.length≤14) (hP:∀ n∈N,BPl 6 n.1) (T:BT) (k:Int) (c:aC) (d:Nat) (b:Bool) (hr:Rep N T k) (hd:d+T.ht≤64) (hc:c=[]∨SmC d c):CallOK prog 101 [.agg (eTr k0 N),.lit (.int .i64 k),.agg [.sl (eS c)],.clo 102 [.loc 0 0]] [(0,.blk [.lit (.bool b)])] (.tup []) [(0,.blk [.lit (.bool (b&&T.chk c))])]:=by
 have cw:=renW (c170 k0 N hN hP T k c d b hr hd hc)
 generalize (b&&T.chk c)=b' at *
 clear hr hd hc hP
 refine fC func101 rfl 14 rfl rfl (by simp) (.tup _ (by simp)) (by
  intro q hq
  obtain rfl:=Aa.1 hq
  refine⟨by simp,fun c hc=>?_⟩
  obtain rfl:=Aa.1 hc
  exact .lit _) [] (congrArg Ad results101) ?_
 simp only[aD,Ab]
 repeat'(first|refine a0w 2 rfl ?_|refine zk ?_|(refine zu ?_ ?_<;>intro hc)|(refine zv ?_ ?_<;>intro hg)|omega|simp -dsimp (disch:=try exact zo)only[go_sem]|contradiction|rfl)
 refine Hold.out ?_
 refine AW.weak (yN 8 (t:=[(1,.lit (.int .i64 k)),(4,.fp (eTr k0 N)),(6,.loc 9 0),(7,.loc 10 0),(8,.loc 11 0)]) (o:=[(0,.blk [.lit (.bool b)]),(9,.blk [.sl (eS c)]),(10,.blk [.clo 102 [.loc 0 0]]),(11,.blk [.lit .nilFunc])]) (by
  intro p hp
  simp only[zM,or_false]at hp
  rcases hp with rfl|rfl|rfl|rfl|rfl<;>first|exact .inl rfl|exact .inr rfl) (by
  intro p hp
  simp only[zM,or_false]at hp
  rcases hp with rfl|rfl|rfl|rfl<;>exact⟨by simp,rfl⟩)) ?_
 repeat'(first|refine zk ?_|(refine zu ?_ ?_<;>intro hc)|(refine AW.nil (bW ?_ (by intro p hp;obtain rfl:=Aa.1 hp;rfl))<;>simp -dsimp (disch:=try exact zo)only[go_sem])|(refine callW iV cw (by intro p hp;simp only[zM,or_false]at hp;rcases hp with rfl|rfl|rfl<;>rfl) ?_)|(refine zv ?_ ?_<;>intro hg)|omega|simp -dsimp (disch:=try exact zo)only[go_sem]|contradiction|rfl)
end Go.Proofs.Vx
namespace Go.Proofs.Vx
open Go Go.Sx Go.Proofs Tryz
attribute [local irreducible] fnT CallOK CallFr AW aI callV aL aJ aH aK gcaseP hid
theorem a0a:fnT prog 101=true:=by kernel_rfl
def uQ (p:Pl):RP:=⟨Zn p.a,Zm p.a,Zn p.b,Zm p.b,Zn p.c,Zm p.c,Zn p.d,Zm p.d⟩
theorem a7k {p:Pl} (h:CanH p):j8 (uQ p)∧eY (uQ p)=p:=by
 have e:eY (uQ p)=p:=by
  show i5 (iv (Zn p.a) (Zm p.a)) (iv (Zn p.b) (Zm p.b)) (iv (Zn p.c) (Zm p.c)) (iv (Zn p.d) (Zm p.d))=p
  rw[bA,bA,bA,bA];exact h.nrm
 refine⟨⟨fun k=>h.ne ?_,by rw[e];rfl⟩,e⟩
 have k':iv (Zn p.a) (Zm p.a)=0∧iv (Zn p.b) (Zm p.b)=0∧iv (Zn p.c) (Zm p.c)=0:=k
 rwa [bA,bA,bA]at k'
def iL (N:List TN):List RN:=N.map fun n=>(uQ n.1,n.2.1,n.2.2)
theorem a9q (N:List TN):eRT (iL N)=eTS N:=by
 unfold eRT iL eTS
 rw[Am];rfl
theorem b9y {N:List TN} (h:∀ n∈N,CanH n.1):bZ (iL N)=N:=by
 unfold bZ iL
 rw[Am]
 conv=>rhs;rw[← List.map_id N]
 exact List.map_congr_left fun n hn=>by
  show (eY (uQ n.1),n.2.1,n.2.2)=n
  rw[(a7k (h n hn)).2]
structure TrB (N:List TN) (k:Int) (T:BT):Prop extends TrOK N k T where
 can:∀ n∈N,CanH n.1
 n:N.length≤14
 b:∀ n∈N,BPl 6 n.1
theorem TrB.raw {N:List TN} {k:Int} {T:BT} (h:TrB N k T):true=true↔bV (bZ (iL N)) [k] []∧iR (iL N):=by
 refine⟨fun _=>⟨?_,fun n hn=>?_⟩,fun _=>rfl⟩
 ·rw[b9y h.can];exact a3v.2 ⟨T,h.rep,h.perm⟩
 ·obtain⟨m,hm,rfl⟩:=Ai.1 hn
  exact (a7k (h.can m hm)).1
theorem TrB.small {N:List TN} {k:Int} {T:BT} (h:TrB N k T):oM (iL N):=fun n hn=>by
 obtain⟨m,hm,rfl⟩:=Ai.1 hn
 have:=(h.b m hm).out
 exact⟨this.a,this.b,this.c,this.d⟩
theorem TrB.ht {N:List TN} {k:Int} {T:BT} (h:TrB N k T):T.ht≤14:=by
 have h1:=b1q T
 have h2:=h.len
 have h3:=h.n
 omega
theorem c100t {N:List TN} {k:Int} {T:BT} (h:TrB N k T):CallOK prog 100 [.agg (eTr k N)] [] (.lit (.bool true)) []:=by
 have:CallOK prog 100 [.agg [.lit (.int .i64 k),.sl (eRT (iL N))]] [] (.lit (.bool true)) []:=c100 k (iL N) (by unfold iL;rw[Aj];exact h.n) h.small true h.raw
 rw[a9q]at this
 exact this
set_option maxRecDepth 20000 in
theorem c38a (k0:Int) (N:List RN) (hn:N.length≤14) (hs:oM N) (hb:¬ (bV (bZ N) [k0] []∧iR N)):CallOK prog 38 [.agg (b5 k0 N)] [] (.lit (.int .i64 3)) []:=by
 refine zs func38 15 [.tmp 2] results38 ?_
 simp only[aD,Ab]
 have hml:maxLen=9223372036854775807:=rfl
 have cf:=c100 k0 N hn hs false ⟨fun h=>(Bool.false_ne_true h).elim,fun h=>absurd h hb⟩
 clear hb hs hn
 exact z1
theorem c101n {k0 k:Int} {N:List TN} {c:aC} {b b':Bool} (h:CallOK prog 101 [.agg (eTr k0 N),.lit (.int .i64 k),.agg [.sl (eS c)],.clo 102 [.loc 0 0]] [(0,.blk [.lit (.bool b)])] (.tup []) [(0,.blk [.lit (.bool b')])]):CallOK prog 101 [.agg (eTr k0 N),.lit (.int .i64 k),.agg [.sl (eS c)],.clo 102 [.loc 13 0]] [(13,.blk [.lit (.bool b)])] (.tup []) [(13,.blk [.lit (.bool b')])]:=by
 have tp:∀ b:Bool,gP (fun i=>i∈[0]) (.blk [.lit (.bool b)]):=fun b c hc=>by obtain rfl:=Aa.1 hc;exact .lit _
 have:=h.renG (fun _=>13) (fun _=>0) (fun p hp=>by obtain rfl:=Aa.1 hp;rfl) (fun p hp=>by obtain rfl:=Aa.1 hp;exact tp b) (fun p hp=>by obtain rfl:=Aa.1 hp;exact⟨by simp,tp b'⟩) (.tup _ (by simp)) (fun x hx=>by
  simp only[zM,or_false]at hx
  rcases hx with rfl|rfl|rfl|rfl
  ·exact rQ _ _
  ·exact .lit _
  ·exact fG _
  ·intro x hx
   obtain rfl:=Aa.1 hx
   show (0:Nat)∈[0];decide)
 exact this
theorem a8r {k0 k:Int} {N:List TN} {c:aC} {b b':Bool} {i:Nat} {ob:Nat→AV} {E:Eff→Prop} (hf:fnT prog 101=true) (hc:CallOK prog 101 [.agg (eTr k0 N),.lit (.int .i64 k),.agg [.sl (eS c)],.clo 102 [.loc 13 0]] [(13,.blk [.lit (.bool b)])] (.tup []) [(13,.blk [.lit (.bool b')])]) (hob:ob 13=.blk [.lit (.bool b)]) (h:E ⟨.tup [],[(13,.blk [.lit (.bool b')])],[13]⟩):callV prog 101 [.agg (eTr k0 N),.lit (.int .i64 k),.agg [.sl (eS c)],.clo 102 [.loc 13 0]] i ob E:=by
 refine mH 13 _ _ _ hf hc hob (fun x hx=>?_) (fun c hc=>?_) (fun c hc=>?_) (.tup _ (by simp)) rfl h
 ·simp only[zM,or_false]at hx
  rcases hx with rfl|rfl|rfl|rfl
  ·exact rQ _ _
  ·exact .lit _
  ·exact fG _
  ·refine .clo _ _ fun x hx=>?_
   obtain rfl:=Aa.1 hx
   exact .loc _ _ rfl
 ·obtain rfl:=Aa.1 hc;exact .lit _
 ·obtain rfl:=Aa.1 hc;exact .lit _
set_option maxRecDepth 20000 in
theorem c38b (k0:Int) (N:List TN) (T:BT) (h:TrB N k0 T):CallOK prog 38 [.agg (eTr k0 N)] [] (.lit (.int .i64 (if T.chk aN=true then 0 else 1))) []:=by
 refine zs func38 15 [.tmp 2] results38 ?_
 simp only[aD,Ab]
 have hml:maxLen=9223372036854775807:=rfl
 have cf:=c100t h
 have hh:=h.ht
 have cw:=c101n (c101 k0 N h.n (fun n hn=>(h.b n hn).mono (by decide)) T k0 aN 6 true h.rep (by omega) (.inr wF))
 simp only[Al]at cw
 have w0:=c57
 clear h hh
 generalize T.chk aN=u at *
 generalize aN=W at *
 cases u
 ·rw[if_neg (by decide)]
  repeat'(first|refine zk ?_|(refine zu ?_ ?_<;>intro hc)|(refine zq cf ?_)|(refine a8r a0a cw rfl ?_)|(refine zq w0 ?_)|(refine zv ?_ ?_<;>intro hg)|omega|simp -dsimp (disch:=try exact zo)only[go_sem,Ag,Ae]|contradiction|rfl)
 ·rw[if_pos rfl]
  repeat'(first|refine zk ?_|(refine zu ?_ ?_<;>intro hc)|(refine zq cf ?_)|(refine a8r a0a cw rfl ?_)|(refine zq w0 ?_)|(refine zv ?_ ?_<;>intro hg)|omega|simp -dsimp (disch:=try exact zo)only[go_sem,Ag,Ae]|contradiction|rfl)
end Go.Proofs.Vx
namespace Go.Proofs.Vx
open Go Go.Sx Go.Proofs Tryz
attribute [local irreducible] fnT CallOK CallFr AW aI callV aL aJ aH aK gcaseP hid
theorem b5f:agT prog 38=some false∧byT prog 33=some 24∧szT prog 38=some 1:=by and_intros<;>kernel_rfl
attribute [go_sem] b5f
def cL (out:List aC):List (List AV):=out.map fun c=>[.sl (eS c)]
theorem xP (out:List aC):(cL out).length=out.length:=Aj _
theorem lW {K:Nat→Prop} (out:List aC):(∀ e∈cL out,∀ c∈e,In K c)=True:=eq_true fun e he c hc=>by
 obtain⟨n,_,rfl⟩:=Ai.1 he
 obtain rfl:=Aa.1 hc
 exact .sl _ (of_eq_true (lS _))
abbrev l5 (out:List aC) (m:Int):List (Nat × AV):=[(2,.blk [.ref 4 0 out.length out.length]),(4,.vec 1 (cL out)),(3,.blk [.lit (.int .i64 m)])]
abbrev argC (k0:Int) (N:List TN) (k:Int) (c:aC):List AV:=[.lit (.int .i64 k),.agg [.sl (eS c)],.loc 2 0,.loc 3 0,.fp (eTr k0 N)]
theorem obC (out out':List aC) (m m':Int):∀ p∈l5 out' m',p.1∈(l5 out m).map (·.1)∧InC (fun i=>i∈(l5 out m).map (·.1)) p.2:=by
 intro p hp
 simp only[zM,or_false]at hp
 rcases hp with rfl|rfl|rfl
 ·refine⟨by simp,fun c hc=>?_⟩
  obtain rfl:=Aa.1 hc
  exact .ref _ _ _ _ (by simp)
 ·exact⟨by simp,fun e he c hc=>of_eq_true (lW _) e he c hc⟩
 ·refine⟨by simp,fun c hc=>?_⟩
  obtain rfl:=Aa.1 hc
  exact .lit _
theorem callC {k0:Int} {N:List TN} {k:Int} {c:aC} {out out':List aC} {m m':Int} {r:Bool} {i:Nat} {ob:Nat→AV} {E:Eff→Prop} (hf:fnT prog 115=true) (hc:CallOK prog 115 (argC k0 N k c) (l5 out m) (.lit (.bool r)) (l5 out' m')) (hob:∀ p∈l5 out m,ob p.1=p.2) (h:E ⟨.lit (.bool r),l5 out' m',[2,4,3]⟩):callV prog 115 (argC k0 N k c) i ob E :=
 kP _ _ _ hf hc hob (by
  intro x hx
  simp only[zM,or_false]at hx
  rcases hx with rfl|rfl|rfl|rfl|rfl
  ·exact .lit _
  ·exact fG _
  ·exact .loc _ _ (by simp)
  ·exact .loc _ _ (by simp)
  ·exact cF _ _) (fun p hp=>(obC out out m m p hp).2) (show ([2,4,3]:List Nat).Nodup by decide) (.lit _) (obC out out' m m') rfl (by
  intro p hp
  simp only[zM,or_false]at hp
  rcases hp with rfl|rfl|rfl<;>rfl) h
attribute [go_sem] lW
set_option maxRecDepth 20000 in
theorem c115 (k0:Int) (N:List TN) (hN:N.length≤14) (k:Int) (c:aC) (out out':List aC) (m:Nat) (ho:out'=if k=-1 then out++[c]else out) (hn:out.length≤4096) (hm:m≤4096) (r:Bool) (hr:r=decide (m+1≤2*N.length+1)):CallOK prog 115 (argC k0 N k c) (l5 out m) (.lit (.bool r)) (l5 out' (m+1:Nat)):=by
 refine fC func115 rfl 23 rfl rfl (by simp) (.lit _) (obC out out' m _) [.tmp 7] (congrArg Ad results115) ?_
 simp only[aD,Ab]
 have hml:maxLen=9223372036854775807:=rfl
 have hl:(eTS N).length=N.length:=p9 N
 have hcl:(cL out).length=out.length:=xP out
 have k3:decide (((m:Int)+1)≤2*(N.length:Int)+1)=r:=by rw[hr];congr 1;apply propext;omega
 have hm1:((m+1:Nat):Int)=(m:Int)+1:=by omega
 rw[hm1]
 by_cases q:k=-1
 ·rw[if_pos q]at ho
  have he1:out'.length=out.length+1:=by rw[ho,Af];rfl
  have he2:cL out'=cL out++[[.sl (eS c)]]:=by rw[ho];unfold cL;rw[List.map_append];rfl
  have k1:(k=-1)=True:=eq_true q
  clear ho
  repeat'(first|refine zk ?_|(refine zu ?_ ?_<;>intro hc)|(refine AW.ret (bW ?_ ?_)<;>simp -dsimp (disch:=try exact zo)only[go_sem,he1,he2,k3])|(refine zv ?_ ?_<;>intro hg)|omega|simp -dsimp (disch:=try exact zo)only[go_sem,hl,k1,k3,he1,he2,hcl]|contradiction|rfl)
 ·rw[if_neg q]at ho
  have he1:out'.length=out.length:=by rw[ho]
  have he2:cL out'=cL out:=by rw[ho]
  have k1:(k=-1)=False:=eq_false q
  clear ho
  repeat'(first|refine zk ?_|(refine zu ?_ ?_<;>intro hc)|(refine AW.ret (bW ?_ ?_)<;>simp -dsimp (disch:=try exact zo)only[go_sem,he1,he2,k3])|(refine zv ?_ ?_<;>intro hg)|omega|simp -dsimp (disch:=try exact zo)only[go_sem,hl,k1,k3,he1,he2,hcl]|contradiction|rfl)
end Go.Proofs.Vx
namespace Go.Proofs.Vx
open Go Go.Sx Go.Proofs Tryz
attribute [local irreducible] fnT CallOK CallFr AW aI callV aL aJ aH aK gcaseP hid
theorem a6z:fnT prog 115=true:=by kernel_rfl
abbrev iN (k0:Int) (N:List TN) (out:List aC) (m:Nat):List (Nat × AV):=[(0,.blk [.clo 170 [.loc 1 0,.fp (eTr k0 N),.loc 0 0]]),(1,.blk [.clo 115 [.loc 2 0,.loc 3 0,.fp (eTr k0 N)]]),(2,.blk [.ref 4 0 out.length out.length]),(4,.vec 1 (cL out)),(3,.blk [.lit (.int .i64 (m:Int))])]
abbrev argD (k0:Int) (N:List TN) (k:Int) (c:aC):List AV:=[.lit (.int .i64 k),.agg [.sl (eS c)],.loc 1 0,.fp (eTr k0 N),.loc 0 0]
theorem obD (k0:Int) (N:List TN) (out out':List aC) (m m':Nat):∀ p∈iN k0 N out' m',p.1∈(iN k0 N out m).map (·.1)∧InC (fun i=>i∈(iN k0 N out m).map (·.1)) p.2:=by
 intro p hp
 simp only[zM,or_false]at hp
 rcases hp with rfl|rfl|rfl|rfl|rfl
 ·refine⟨by simp,fun c hc=>?_⟩
  obtain rfl:=Aa.1 hc
  refine .clo _ _ fun x hx=>?_
  simp only[zM,or_false]at hx
  rcases hx with rfl|rfl|rfl
  ·exact .loc _ _ (by simp)
  ·exact cF _ _
  ·exact .loc _ _ (by simp)
 ·refine⟨by simp,fun c hc=>?_⟩
  obtain rfl:=Aa.1 hc
  refine .clo _ _ fun x hx=>?_
  simp only[zM,or_false]at hx
  rcases hx with rfl|rfl|rfl
  ·exact .loc _ _ (by simp)
  ·exact .loc _ _ (by simp)
  ·exact cF _ _
 ·refine⟨by simp,fun c hc=>?_⟩
  obtain rfl:=Aa.1 hc
  exact .ref _ _ _ _ (by simp)
 ·exact⟨by simp,fun e he c hc=>of_eq_true (lW _) e he c hc⟩
 ·refine⟨by simp,fun c hc=>?_⟩
  obtain rfl:=Aa.1 hc
  exact .lit _
theorem lvD (k0:Int) (N:List TN) (out:List aC) (m:Nat):∀ p∈iN k0 N out m,p.2.live=true:=by
 intro p hp
 simp only[zM,or_false]at hp
 rcases hp with rfl|rfl|rfl|rfl|rfl<;>rfl
theorem callD {k0:Int} {N:List TN} {k:Int} {c:aC} {out out':List aC} {m m':Nat} {i:Nat} {ob:Nat→AV} {E:Eff→Prop} (hf:fnT prog 170=true) (hc:CallOK prog 170 (argD k0 N k c) (iN k0 N out m) (.tup []) (iN k0 N out' m')) (hob:∀ p∈iN k0 N out m,ob p.1=p.2) (h:E ⟨.tup [],iN k0 N out' m',[0,1,2,4,3]⟩):callV prog 170 (argD k0 N k c) i ob E :=
 kP _ _ _ hf hc hob (by
  intro x hx
  simp only[zM,or_false]at hx
  rcases hx with rfl|rfl|rfl|rfl|rfl
  ·exact .lit _
  ·exact fG _
  ·exact .loc _ _ (by simp)
  ·exact cF _ _
  ·exact .loc _ _ (by simp)) (fun p hp=>(obD k0 N out out m m p hp).2) (show ([0,1,2,4,3]:List Nat).Nodup by decide) (.tup _ (by simp)) (obD k0 N out out' m m') rfl (lvD k0 N out m) h
theorem c2u (T:BT) (c:aC):(T.cells c).length≤T.ids.length+1:=by
 rw[BT.cells_len]
 have:=BT.tl_turn T
 omega
set_option maxRecDepth 20000 in
theorem c170c (k0:Int) (N:List TN) (hN:N.length≤14) (hP:∀ n∈N,BPl 6 n.1) (T:BT):∀ (k:Int) (c:aC) (d:Nat) (out:List aC) (m:Nat),Rep N T k→d+T.ht≤64→(c=[]∨SmC d c)→m+(2*T.ids.length+1)≤2*N.length+1→out.length+(T.ids.length+1)≤4096→CallOK prog 170 (argD k0 N k c) (iN k0 N out m) (.tup []) (iN k0 N (out++T.cells c) (m+(2*T.ids.length+1))):=by
 have hl:(eTS N).length=N.length:=p9 N
 induction T with
 | lf b0 =>
  intro k c d out m hk _ _ hm ho
  have hk0:k≤0:=by rw[show k=lfv b0 from hk];exact xL b0
  simp only[BT.ids,Ak,Nat.mul_zero,An]at hm ho ⊢
  have hcs:out++BT.cells (.lf b0) c=if k=-1 then out++[c]else out:=by
   rw[show k=lfv b0 from hk]
   cases b0<;>simp[BT.cells,lfv]
  have cv:=c115 k0 N hN k c out (out++BT.cells (.lf b0) c) m hcs (by omega) (by omega) true (by rw[decide_eq_true (by omega)])
  generalize out++BT.cells (.lf b0) c=out' at *
  have k1:(k≤0)=True:=eq_true hk0
  have k2:True:=trivial
  have k5:True:=trivial
  have es1:True:=trivial
  have sp:True:=trivial
  have il:True:=trivial
  have ir:True:=trivial
  refine fC func170 rfl 49 rfl rfl (by simp) (.tup _ (by simp)) (obD k0 N out out' m (m+1)) [] (congrArg Ad results170) ?_
  simp only[aD,Ab]
  clear hk hcs
  repeat'(first|refine zg ?_|(refine zc ?_ ?_<;>intro hc<;>first|simp only[NM]at hc|omega|skip)|refine zr ?_|(refine AW.ret (bW ?_ (by intro p hp;simp only[zM,or_false]at hp;rcases hp with rfl|rfl|rfl|rfl|rfl<;>rfl))<;>simp -dsimp (disch:=try exact zo)only[go_sem])|(refine AW.nil (bW ?_ (by intro p hp;simp only[zM,or_false]at hp;rcases hp with rfl|rfl|rfl|rfl|rfl<;>rfl))<;>simp -dsimp (disch:=try exact zo)only[go_sem])|(refine callC a6z cv (by intro p hp;simp only[zM,or_false]at hp;rcases hp with rfl|rfl|rfl<;>rfl) ?_)|(first|refine callD iV il (by intro p hp;simp only[zM,or_false]at hp;rcases hp with rfl|rfl|rfl|rfl|rfl<;>rfl) ?_|refine callD iV ir (by intro p hp;simp only[zM,or_false]at hp;rcases hp with rfl|rfl|rfl|rfl|rfl<;>rfl) ?_)|(refine zq sp ?_)|refine⟨by omega,?_⟩|(refine zb ?_ ?_<;>intro hg<;>(try rw[hg])<;>try simp only[NM]at hg)|omega|simp -dsimp (disch:=try exact zo)only[go_sem,hl,es1,k1,k2,k5,ZT]|contradiction|rfl)
 | nd j p l r ihl ihr =>
  intro k c d out m hk hd hc hm ho
  obtain⟨rfl,n,hn1,rfl,hn3,hn4⟩:=hk
  have hj:=(Ac.1 hn1).1
  have hje:=(Ac.1 hn1).2
  have es1:=wM N j hj
  rw[hje]at es1
  have hpn:=hP n (Ah hn1)
  simp only[BT.ht]at hd
  simp only[BT.ids,List.length_cons,Af]at hm ho ⊢
  have cv:=c115 k0 N hN ((j:Int)+1) c out out m (by rw[if_neg (by omega)]) (by omega) (by omega) true (by rw[decide_eq_true (by omega)])
  have k1:((j:Int)+1≤0)=False:=eq_false (by omega)
  have k2:((N.length:Int)<(j:Int)+1)=False:=eq_false (by omega)
  have k5:((j:Int)+1 - 1)=(j:Int):=by omega
  have hsm:((aP n.1 c).1=[]∨SmC (d+1) (aP n.1 c).1)∧((aP n.1 c).2=[]∨SmC (d+1) (aP n.1 c).2):=by
   rcases hc with rfl|h
   ·exact⟨.inl (by rw[a4g]),.inl (by rw[a4g])⟩
   ·exact wH h hpn
  have hb:BdC c:=by
   rcases hc with rfl|h
   ·exact Bd.nil
   ·exact h.bd.mono (by omega) (by omega) (by decide)
  have sp:=c21x c n.1 (hc.imp id SmC.toCellOK) hb (hpn.mono (by decide))
  have e1:=c2u l (aP n.1 c).1
  have il:=ihl n.2.1 (aP n.1 c).1 (d+1) out (m+1) hn3 (by omega) hsm.1 (by omega) (by omega)
  have ir:=ihr n.2.2 (aP n.1 c).2 (d+1) (out++l.cells (aP n.1 c).1) (m+1+(2*l.ids.length+1)) hn4 (by omega) hsm.2 (by omega) (by rw[Af];omega)
  have ho':out++(BT.nd j n.1 l r).cells c=(out++l.cells (aP n.1 c).1)++r.cells (aP n.1 c).2:=by simp only[BT.cells,List.append_assoc]
  have hm':m+(2*(l.ids.length+r.ids.length+1)+1)=m+1+(2*l.ids.length+1)+(2*r.ids.length+1):=by omega
  rw[ho',hm']
  clear ihl ihr hc hsm hje hn1 hn3 hn4 hpn ho' hm' hb e1
  generalize (out++l.cells (aP n.1 c).1)++r.cells (aP n.1 c).2=o3 at *
  generalize out++l.cells (aP n.1 c).1=o2 at *
  generalize m+1+(2*l.ids.length+1)+(2*r.ids.length+1)=m3 at *
  generalize m+1+(2*l.ids.length+1)=m2 at *
  generalize (aP n.1 c).1=A at *
  generalize (aP n.1 c).2=B at *
  obtain⟨p,x,y⟩:=n
  dsimp only[eN]at es1 sp il ir
  simp only[eH,e4]at sp
  refine fC func170 rfl 49 rfl rfl (by simp) (.tup _ (by simp)) (obD k0 N out o3 m m3) [] (congrArg Ad results170) ?_
  simp only[aD,Ab]
  repeat'(first|refine zg ?_|(refine zc ?_ ?_<;>intro hc<;>first|simp only[NM]at hc|omega|skip)|refine zr ?_|(refine AW.ret (bW ?_ (by intro p hp;simp only[zM,or_false]at hp;rcases hp with rfl|rfl|rfl|rfl|rfl<;>rfl))<;>simp -dsimp (disch:=try exact zo)only[go_sem])|(refine AW.nil (bW ?_ (by intro p hp;simp only[zM,or_false]at hp;rcases hp with rfl|rfl|rfl|rfl|rfl<;>rfl))<;>simp -dsimp (disch:=try exact zo)only[go_sem])|(refine callC a6z cv (by intro p hp;simp only[zM,or_false]at hp;rcases hp with rfl|rfl|rfl<;>rfl) ?_)|(first|refine callD iV il (by intro p hp;simp only[zM,or_false]at hp;rcases hp with rfl|rfl|rfl|rfl|rfl<;>rfl) ?_|refine callD iV ir (by intro p hp;simp only[zM,or_false]at hp;rcases hp with rfl|rfl|rfl|rfl|rfl<;>rfl) ?_)|(refine zq sp ?_)|refine⟨by omega,?_⟩|(refine zb ?_ ?_<;>intro hg<;>(try rw[hg])<;>try simp only[NM]at hg)|omega|simp -dsimp (disch:=try exact zo)only[go_sem,hl,es1,k1,k2,k5,ZT]|contradiction|rfl)
end Go.Proofs.Vx
namespace Go.Proofs.Vx
open Go Go.Sx Go.Proofs Tryz
attribute [local irreducible] fnT CallOK CallFr AW aI callV aL aJ aH aK gcaseP hid
abbrev kF (k0:Int) (N:List TN) (out:List aC) (m:Nat):List (Nat × AV):=[(11,.blk [.clo 170 [.loc 10 0,.fp (eTr k0 N),.loc 11 0]]),(10,.blk [.clo 115 [.loc 0 0,.loc 2 0,.fp (eTr k0 N)]]),(0,.blk [.ref 1 0 out.length out.length]),(1,.vec 1 (cL out)),(2,.blk [.lit (.int .i64 (m:Int))])]
abbrev argE (k0:Int) (N:List TN) (k:Int) (c:aC):List AV:=[.lit (.int .i64 k),.agg [.sl (eS c)],.loc 10 0,.fp (eTr k0 N),.loc 11 0]
theorem obE (k0:Int) (N:List TN) (out out':List aC) (m m':Nat):∀ p∈kF k0 N out' m',p.1∈(kF k0 N out m).map (·.1)∧InC (fun i=>i∈(kF k0 N out m).map (·.1)) p.2:=by
 intro p hp
 simp only[zM,or_false]at hp
 rcases hp with rfl|rfl|rfl|rfl|rfl
 ·refine⟨by simp,fun c hc=>?_⟩
  obtain rfl:=Aa.1 hc
  refine .clo _ _ fun x hx=>?_
  simp only[zM,or_false]at hx
  rcases hx with rfl|rfl|rfl
  ·exact .loc _ _ (by simp)
  ·exact cF _ _
  ·exact .loc _ _ (by simp)
 ·refine⟨by simp,fun c hc=>?_⟩
  obtain rfl:=Aa.1 hc
  refine .clo _ _ fun x hx=>?_
  simp only[zM,or_false]at hx
  rcases hx with rfl|rfl|rfl
  ·exact .loc _ _ (by simp)
  ·exact .loc _ _ (by simp)
  ·exact cF _ _
 ·refine⟨by simp,fun c hc=>?_⟩
  obtain rfl:=Aa.1 hc
  exact .ref _ _ _ _ (by simp)
 ·exact⟨by simp,fun e he c hc=>of_eq_true (lW _) e he c hc⟩
 ·refine⟨by simp,fun c hc=>?_⟩
  obtain rfl:=Aa.1 hc
  exact .lit _
theorem lvE (k0:Int) (N:List TN) (out:List aC) (m:Nat):∀ p∈kF k0 N out m,p.2.live=true:=by
 intro p hp
 simp only[zM,or_false]at hp
 rcases hp with rfl|rfl|rfl|rfl|rfl<;>rfl
theorem callE {k0:Int} {N:List TN} {k:Int} {c:aC} {out out':List aC} {m m':Nat} {i:Nat} {ob:Nat→AV} {E:Eff→Prop} (hf:fnT prog 170=true) (hc:CallOK prog 170 (argE k0 N k c) (kF k0 N out m) (.tup []) (kF k0 N out' m')) (hob:∀ p∈kF k0 N out m,ob p.1=p.2) (h:E ⟨.tup [],kF k0 N out' m',[11,10,0,1,2]⟩):callV prog 170 (argE k0 N k c) i ob E :=
 kP _ _ _ hf hc hob (by
  intro x hx
  simp only[zM,or_false]at hx
  rcases hx with rfl|rfl|rfl|rfl|rfl
  ·exact .lit _
  ·exact fG _
  ·exact .loc _ _ (by simp)
  ·exact cF _ _
  ·exact .loc _ _ (by simp)) (fun p hp=>(obE k0 N out out m m p hp).2) (show ([11,10,0,1,2]:List Nat).Nodup by decide) (.tup _ (by simp)) (obE k0 N out out' m m') rfl (lvE k0 N out m) h
def sgE (i:Nat):Nat:=if i=0 then 11 else if i=1 then 10 else if i=2 then 0 else if i=4 then 1 else 2
def tuE (i:Nat):Nat:=if i=11 then 0 else if i=10 then 1 else if i=0 then 2 else if i=1 then 4 else 3
theorem tpD (k0:Int) (N:List TN) (out:List aC) (m:Nat):∀ p∈iN k0 N out m,gP (fun i=>i∈[0,1,2,4,3]) p.2:=by
 intro p hp
 simp only[zM,or_false]at hp
 rcases hp with rfl|rfl|rfl|rfl|rfl
 ·intro c hc
  obtain rfl:=Aa.1 hc
  intro x hx
  simp only[zM,or_false]at hx
  rcases hx with rfl|rfl|rfl
  ·simp[fK]
  ·exact cF _ _
  ·simp[fK]
 ·intro c hc
  obtain rfl:=Aa.1 hc
  intro x hx
  simp only[zM,or_false]at hx
  rcases hx with rfl|rfl|rfl
  ·simp[fK]
  ·simp[fK]
  ·exact cF _ _
 ·intro c hc
  obtain rfl:=Aa.1 hc
  simp[g6,fK]
 ·exact fun e he c hc=>of_eq_true (lW _) e he c hc
 ·intro c hc
  obtain rfl:=Aa.1 hc
  exact .lit _
theorem renE {k0:Int} {N:List TN} {k:Int} {c:aC} {out out':List aC} {m m':Nat} (h:CallOK prog 170 (argD k0 N k c) (iN k0 N out m) (.tup []) (iN k0 N out' m')):CallOK prog 170 (argE k0 N k c) (kF k0 N out m) (.tup []) (kF k0 N out' m'):=by
 have:=h.renG sgE tuE (fun p hp=>by
  simp only[zM,or_false]at hp
  rcases hp with rfl|rfl|rfl|rfl|rfl<;>rfl) (fun p hp=>tpD k0 N out m p hp) (fun p hp=>by
  refine⟨?_,tpD k0 N out' m' p hp⟩
  simp only[zM,or_false]at hp
  rcases hp with rfl|rfl|rfl|rfl|rfl<;>simp) (.tup _ (by simp)) (fun x hx=>by
  simp only[zM,or_false]at hx
  rcases hx with rfl|rfl|rfl|rfl|rfl
  ·exact .lit _
  ·exact fG _
  ·show (1:Nat)∈[0,1,2,4,3];decide
  ·exact cF _ _
  ·show (0:Nat)∈[0,1,2,4,3];decide)
 exact this
abbrev g7 (a v q:Nat) (out:List aC) (m:Nat):List (Nat × AV):=[(a,.blk [.ref v 0 out.length out.length]),(v,.vec 1 (cL out)),(q,.blk [.lit (.int .i64 (m:Int))])]
abbrev uX (a q:Nat) (k0:Int) (N:List TN) (k:Int) (c:aC):List AV:=[.agg (eTr k0 N),.lit (.int .i64 k),.agg [.sl (eS c)],.clo 115 [.loc a 0,.loc q 0,.fp (eTr k0 N)]]
theorem obF (a v q:Nat) (out out':List aC) (m m':Nat):∀ p∈g7 a v q out' m',p.1∈(g7 a v q out m).map (·.1)∧InC (fun i=>i∈(g7 a v q out m).map (·.1)) p.2:=by
 intro p hp
 simp only[zM,or_false]at hp
 rcases hp with rfl|rfl|rfl
 ·refine⟨by simp,fun c hc=>?_⟩
  obtain rfl:=Aa.1 hc
  exact .ref _ _ _ _ (by simp)
 ·exact⟨by simp,fun e he c hc=>of_eq_true (lW _) e he c hc⟩
 ·refine⟨by simp,fun c hc=>?_⟩
  obtain rfl:=Aa.1 hc
  exact .lit _
set_option maxRecDepth 20000 in
theorem c101c (k0:Int) (N:List TN) (hN:N.length≤14) (hP:∀ n∈N,BPl 6 n.1) (T:BT) (k:Int) (c:aC) (d:Nat) (hr:Rep N T k) (hd:d+T.ht≤64) (hc:c=[]∨SmC d c) (hi:T.ids.length≤N.length):CallOK prog 101 (uX 0 2 k0 N k c) (g7 0 1 2 [] 0) (.tup []) (g7 0 1 2 (T.cells c) (2*T.ids.length+1)):=by
 have cw:=renE (c170c k0 N hN hP T k c d [] 0 hr hd hc (by omega) (by simp only[Ak];omega))
 rw[List.nil_append,An]at cw
 generalize T.cells c=out at *
 generalize 2*T.ids.length+1=m at *
 clear hr hd hc hP
 refine fC func101 rfl 14 rfl rfl (by simp) (.tup _ (by simp)) (obF 0 1 2 [] out 0 m) [] (congrArg Ad results101) ?_
 simp only[aD,Ab]
 repeat'(first|refine a0w 2 rfl ?_|refine zk ?_|(refine zu ?_ ?_<;>intro hc)|(refine zv ?_ ?_<;>intro hg)|omega|simp -dsimp (disch:=try exact zo)only[go_sem]|contradiction|rfl)
 refine Hold.out ?_
 refine AW.weak (yN 8 (t:=[(1,.lit (.int .i64 k)),(4,.fp (eTr k0 N)),(6,.loc 9 0),(7,.loc 10 0),(8,.loc 11 0)]) (o:=[(0,.blk [.ref 1 0 0 0]),(1,.vec 1 (cL [])),(2,.blk [.lit (.int .i64 0)]),(9,.blk [.sl (eS c)]),(10,.blk [.clo 115 [.loc 0 0,.loc 2 0,.fp (eTr k0 N)]]),(11,.blk [.lit .nilFunc])]) (by
  intro p hp
  simp only[zM,or_false]at hp
  rcases hp with rfl|rfl|rfl|rfl|rfl<;>first|exact .inl rfl|exact .inr rfl) (by
  intro p hp
  simp only[zM,or_false]at hp
  rcases hp with rfl|rfl|rfl|rfl|rfl|rfl<;>exact⟨by simp,rfl⟩)) ?_
 repeat'(first|refine zk ?_|(refine zu ?_ ?_<;>intro hc)|(refine AW.nil (bW ?_ (by intro p hp;simp only[zM,or_false]at hp;rcases hp with rfl|rfl|rfl<;>rfl))<;>simp -dsimp (disch:=try exact zo)only[go_sem])|(refine callE iV cw (by intro p hp;simp only[zM,or_false]at hp;rcases hp with rfl|rfl|rfl|rfl|rfl<;>rfl) ?_)|(refine zv ?_ ?_<;>intro hg)|omega|simp -dsimp (disch:=try exact zo)only[go_sem]|contradiction|rfl)
end Go.Proofs.Vx
