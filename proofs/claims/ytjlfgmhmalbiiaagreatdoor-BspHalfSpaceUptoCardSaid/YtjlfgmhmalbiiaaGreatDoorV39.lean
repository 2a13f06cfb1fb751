import Derived.Test.YtjlfgmhmalbiiaaGreatDoorV38
set_option linter.all false
set_option maxHeartbeats 16000000
namespace Go.Proofs.Vx
open Go Go.Sx Go.Proofs Tryz
attribute [local irreducible] fnT CallOK CallFr AW aJ callV aL aI aH aM gcaseP hid
theorem c6t:byT prog 79=some 112:=by kernel_rfl
attribute [go_sem] c6t
theorem c116 (k:Int) (h:-1≤k):CallOK prog 116 [.lit (.int .i64 k)] [] (.lit (.int .i64 (i5 k))) []:=by
 refine zs func116 8 [.tmp 2] results116 ?_
 simp only[aC,Nat.reduceAdd]
 unfold i5
 by_cases q:k<1
 ·have k1:(k<1)=True:=eq_true q
  rw[if_pos q]
  exact z1
 ·have k1:(k<1)=False:=eq_false q
  rw[if_neg q]
  exact z1
set_option maxRecDepth 20000 in
theorem c54 (k0:Int) (N:List TN) (hn:N.length≤14) (h0:-1≤k0) (hk:∀ n∈N,-1≤n.2.1∧-1≤n.2.2):CallOK prog 54 [.agg (eTr k0 N)] [] (.agg (eTr (i5 k0) (N.map fL))) []:=by
 have hml:maxLen=9223372036854775807:=rfl
 have hl:(eTS N).length=N.length:=jG N
 have o0:=c116 k0 h0
 have o1:True:=trivial
 have o2:True:=trivial
 have hz:eTS []=[]:=rfl
 have hst:True:=trivial
 replace hk:=Hid.mk hk
 refine eA func54 rfl 37 rfl rfl (l5 _ _) [.cell 2 64] (congrArg Array.toList results54) ?_
 simp only[aC,Nat.reduceAdd]
 repeat'(first|refine zk ?_|(refine zu ?_ ?_<;>intro hc)|(first|refine zf o0 ?_|refine zf o1 ?_|refine zf o2 ?_)|(refine zv ?_ ?_<;>intro hg)|omega|simp -dsimp (disch:=try exact zo)only[go_sem,hl]|contradiction|rfl)
 all_goals refine AW.weak (iP 14 1 10 [.lit (.int .i64 (i5 k0)),.lit (.slice none 0 0)] (by decide) rfl (by show 1<2;decide) rfl (by dsimp only;omega)) ?_
 refine AW.loop (fun z:{i:Nat // i≤N.length}=>⟨[(4,.lit (.int .i64 z.1)),(1,.loc 8 0),(2,.loc 9 0),(3,.loc 14 0)],[(8,.blk (eTr k0 N)),(9,.blk [.lit (.int .i64 0),.lit (.slice none 0 0)]),(14,.blk [.lit (.int .i64 (i5 k0)),.ref 17 0 z.1 z.1]),(17,.vec 10 (eTS ((N.map fL).take z.1)))],60⟩) (fun z=>N.length - z.1) ⟨0,Nat.zero_le _⟩ zw ?_
 rintro⟨i,hi⟩
 dsimp only
 have hvl:(eTS ((N.map fL).take i)).length=i:=by rw[jG,List.length_take,List.length_map];omega
 by_cases hlt:i<N.length
 ·have es1:=nX N i hlt
  have hki:=hk.out _ (List.getElem_mem hlt)
  clear hst o0 o1 o2
  have hst:eTS ((N.map fL).take (i+1))=eTS ((N.map fL).take i)++[eN (fL N[i])]:=by
   rw[List.take_succ_eq_append_getElem (by rw[List.length_map];exact hlt),List.getElem_map]
   unfold eTS
   rw[List.map_append];rfl
  have o1:=c116 N[i].2.1 hki.1
  have o2:=c116 N[i].2.2 hki.2
  have o0:True:=trivial
  clear hk
  generalize N[i]=nd at *
  generalize (N.map fL).take i=X0 at *
  obtain⟨p,a,b⟩:=nd
  dsimp only[eN,fL]at es1 o1 o2 hst
  repeat'(first|refine zk ?_|(refine zu ?_ ?_<;>intro hc)|(first|refine zf o0 ?_|refine zf o1 ?_|refine zf o2 ?_)|(refine zv ?_ ?_<;>intro hg)|omega|simp -dsimp (disch:=try exact zo)only[go_sem,hl,es1,hvl,hst,ZT]|contradiction|rfl)
  all_goals exact AW.stop ⟨⟨i+1,by omega⟩,(aR (by refine⟨?_,?_,?_,?_⟩<;>first|(simp -dsimp (disch:=try exact zo)only[go_sem,ZC];done)|(simp -dsimp (disch:=try exact zo)only[go_sem,hst,ZC];done))),by dsimp only;omega⟩
 ·have hil:i=N.length:=by omega
  subst hil
  have hfull:(N.map fL).take N.length=N.map fL:=List.take_of_length_le (by rw[List.length_map];exact Nat.le_refl _)
  rw[hfull]at hvl
  have hcb:(if 0<N.length then AV.sl (List.take N.length (eTS (N.map fL)))else if N.length=0 then AV.sl []else AV.any)=AV.sl (eTS (N.map fL)):=by
   by_cases q:0<N.length
   ·rw[if_pos q,List.take_of_length_le (Nat.le_of_eq hvl)]
   ·have q0:N=[]:=List.eq_nil_of_length_eq_zero (by omega)
    subst q0;rfl
  repeat'(first|refine zk ?_|(refine zu ?_ ?_<;>intro hc)|(refine zv ?_ ?_<;>intro hg)|omega|simp -dsimp (disch:=try exact zo)only[go_sem,hl,hvl,hfull,hcb]|rfl)
end Go.Proofs.Vx
namespace Go.Proofs.Vx
open Go Go.Sx Go.Proofs Tryz
attribute [local irreducible] fnT CallOK CallFr AW aJ callV aL aI aH aM gcaseP hid
def mL (T:BT) (x:Pt) (v:Int):Bool:=decide (v∈T.leaves x)
theorem b0s (k:Nat) (p:Pl) (l r:BT) (x:Pt) (v:Int):mL (.nd k p l r) x v=((if 0<aB p x then false else mL l x v)||(if aB p x<0 then false else mL r x v)):=by
 unfold mL
 simp only[BT.leaves,List.mem_append,Bool.decide_or]
 congr 1<;>split<;>simp
theorem in2 {K:Nat→Prop} (u v:Bool):In K (.tup [.lit (.bool u),.lit (.bool v)]):=.tup _ (by
 intro c hc
 simp only[zM,or_false]at hc
 rcases hc with rfl|rfl<;>exact .lit _)
set_option maxRecDepth 20000 in
theorem c108 (k0:Int) (N:List TN) (hN:N.length≤14) (hP:∀ n∈N,BPl 6 n.1) (x:Pt) (hx:BPt 268435456 x) (T:BT):∀ (k:Int),Rep N T k→CallOK prog 108 [.agg (eTr k0 N),.lit (.int .i64 k),.agg (eP x)] [] (.tup [.lit (.bool (mL T x (-1))),.lit (.bool (mL T x 0))]) []:=by
 have hl:(eTS N).length=N.length:=jG N
 induction T with
 | lf b0 =>
  intro k hk
  have hk0:k<1:=by have:=tS b0;rw[show k=lfv b0 from hk];omega
  have k1:(k<1)=True:=eq_true hk0
  have k5:True:=trivial
  have g1:True:=trivial
  have g2:True:=trivial
  have es1:True:=trivial
  have cs:True:=trivial
  have il:True:=trivial
  have ir:True:=trivial
  have k7:decide (k=-1)=mL (.lf b0) x (-1):=by rw[show k=lfv b0 from hk];cases b0<;>simp[mL,BT.leaves,lfv]
  have k8:decide (k=0)=mL (.lf b0) x 0:=by rw[show k=lfv b0 from hk];cases b0<;>simp[mL,BT.leaves,lfv]
  clear hk
  generalize mL (.lf b0) x (-1)=u at *
  generalize mL (.lf b0) x 0=v at *
  (refine zs func108 70 [.tmp 6,.tmp 7] results108 ?_;simp only[aC,Nat.reduceAdd])
  exact z1
 | nd j p l r ihl ihr =>
  intro k hk
  obtain⟨rfl,nd,hn1,rfl,hn3,hn4⟩:=hk
  have hj:=(List.getElem?_eq_some_iff.1 hn1).1
  have hje:=(List.getElem?_eq_some_iff.1 hn1).2
  have es1:=nX N j hj
  rw[hje]at es1
  have hpn:=hP nd (List.mem_of_getElem? hn1)
  have k1:((j:Int)+1<1)=False:=eq_false (by omega)
  have k5:((j:Int)+1 - 1)=(j:Int):=by omega
  have k7:True:=trivial
  have k8:True:=trivial
  have cs:=c50 nd.1 x (hpn.mono (by decide)) (hx.mono (by decide))
  rw[b0s,b0s]
  have il:=ihl nd.2.1 hn3
  have ir:=ihr nd.2.2 hn4
  clear ihl ihr hje hn1 hn3 hn4 hpn hP hx
  generalize aB nd.1 x=sd at *
  generalize mL l x (-1)=u1 at *
  generalize mL l x 0=v1 at *
  generalize mL r x (-1)=u2 at *
  generalize mL r x 0=v2 at *
  obtain⟨p,y,z⟩:=nd
  dsimp only[eN]at es1 cs il ir
  simp only[eH,e4]at cs
  by_cases q1:0<sd
  ·have g1:(sd≤0)=False:=eq_false (by omega)
   have g2:(0≤sd)=True:=eq_true (by omega)
   rw[if_pos q1,if_pos q1,if_neg (by omega),if_neg (by omega),Bool.false_or,Bool.false_or]
   clear il
   have il:True:=trivial
   (refine zs func108 70 [.tmp 6,.tmp 7] results108 ?_;simp only[aC,Nat.reduceAdd])
   exact z1
  ·have g1:(sd≤0)=True:=eq_true (by omega)
   rw[if_neg q1,if_neg q1]
   by_cases q2:sd<0
   ·have g2:(0≤sd)=False:=eq_false (by omega)
    rw[if_pos q2,if_pos q2,Bool.or_false,Bool.or_false]
    clear ir
    have ir:True:=trivial
    (refine zs func108 70 [.tmp 6,.tmp 7] results108 ?_;simp only[aC,Nat.reduceAdd])
    exact z1
   ·have g2:(0≤sd)=True:=eq_true (by omega)
    rw[if_neg q2,if_neg q2]
    cases u1<;>cases v1<;>simp only[Bool.true_or,Bool.false_or]
    all_goals (refine zs func108 70 [.tmp 6,.tmp 7] results108 ?_;simp only[aC,Nat.reduceAdd])
    all_goals exact z1
end Go.Proofs.Vx
namespace Go.Proofs.Vx
open Go Go.Sx Go.Proofs Tryz
attribute [local irreducible] fnT CallOK CallFr AW aJ callV aL aI aH aM gcaseP hid
theorem c9d (ks:List Int):∀ s,fS s ks=(s||decide (-1∈ks)):=by
 induction ks with
 | nil=>intro s;simp[fS]
 | cons k ks ih =>
  intro s
  show fS (s||decide (k=-1)) ks=_
  rw[ih]
  by_cases q:k=-1
  ·simp[q]
  ·have q':¬ (-1:Int)=k:=fun e=>q e.symm
   simp[q,q']
theorem c9f (ks:List Int):∀ a,fA a ks=(a&&decide (∀ k∈ks,k=-1)):=by
 induction ks with
 | nil=>intro a;simp[fA]
 | cons k ks ih =>
  intro a
  show fA (a&&decide (k=-1)) ks=_
  rw[ih]
  by_cases q:k=-1<;>simp[q]
theorem m8 (T:BT) (x:Pt):cO T x=if bN x<0∨mL T x (-1)=false then -1 else if mL T x 0=true∨bN x=0 then 0 else 1:=by
 unfold cO
 have h1:fS false (T.leaves x)=mL T x (-1):=by rw[c9d];simp[mL]
 have h2:fA true (T.leaves x)=true↔mL T x 0=false:=by
  rw[c9f]
  simp only[Bool.true_and,decide_eq_true_eq,mL,decide_eq_false_iff_not]
  constructor
  ·intro h h0;have:=h 0 h0;omega
  ·intro h k hk
   rcases BT.leaves_two T x k hk with e|e
   ·exact e
   ·subst e;exact absurd hk h
 rw[h1]
 by_cases q:bN x<0
 ·rw[if_pos q,if_pos (.inl q)]
 ·rw[if_neg q]
  cases u:mL T x (-1)
  ·rw[if_pos rfl,if_pos (.inr rfl)]
  ·rw[if_neg (show ¬ (true=false) by decide),if_neg (show ¬ (bN x<0∨true=false)from fun h=>h.elim q (fun h=>absurd h (by decide)))]
   cases v:mL T x 0
   ·have ha:=h2.2 v
    by_cases q0:bN x=0
    ·rw[if_neg (show ¬ (fA true (T.leaves x)=true∧0<bN x)from fun h=>by have:=h.2;omega),if_pos (show false=true∨bN x=0 from .inr q0)]
    ·rw[if_pos (show fA true (T.leaves x)=true∧0<bN x from⟨ha,by omega⟩),if_neg (show ¬ (false=true∨bN x=0)from fun h=>h.elim (fun h=>absurd h (by decide)) q0)]
   ·have ha:¬ fA true (T.leaves x)=true:=fun h=>by have:=h2.1 h;rw[v]at this;cases this
    rw[if_neg (show ¬ (fA true (T.leaves x)=true∧0<bN x)from fun h=>ha h.1),if_pos (show true=true∨bN x=0 from .inl rfl)]
set_option maxRecDepth 20000 in
theorem c43 (k0:Int) (N:List TN) (T:BT) (h:TrB N k0 T) (x:Pt) (hx:BPt 268435456 x):CallOK prog 43 [.agg (eTr k0 N),.agg (eP x)] [] (.lit (.int .i64 (cO T x))) []:=by
 refine zs func43 29 [.tmp 4] results43 ?_
 simp only[aC,Nat.reduceAdd]
 have ce:=c48 x hx
 have cl:=c108 k0 N h.n (fun n hn=>(h.b n hn).mono (by decide)) x hx T k0 h.rep
 rw[m8]
 clear h hx
 generalize bN x=e at *
 generalize mL T x (-1)=u at *
 generalize mL T x 0=v at *
 by_cases q:e<0
 ·have k1:(e<0)=True:=eq_true q
  have k2:True:=trivial
  rw[if_pos (.inl q)]
  exact z1
 ·have k1:(e<0)=False:=eq_false q
  cases u
  ·have k2:True:=trivial
   rw[if_pos (.inr rfl)]
   exact z1
  ·rw[if_neg (by simp[q])]
   by_cases q0:e=0
   ·have k2:(e=0)=True:=eq_true q0
    rw[if_pos (.inr q0)]
    clear q0
    cases v
    all_goals exact z1
   ·have k2:(e=0)=False:=eq_false q0
    cases v
    ·rw[if_neg (by simp[q0])]
     exact z1
    ·rw[if_pos (.inl rfl)]
     exact z1
end Go.Proofs.Vx
namespace Go.Proofs.Vx
open Go Go.Sx Go.Proofs Tryz
attribute [local irreducible] fnT CallOK CallFr AW aJ callV aL aI aH aM gcaseP hid
def dY (p:Pl):BT:=if (aO p aK).1=[]then .lf false else if (aO p aK).2=[]then .lf true else .nd 0 p (.lf true) (.lf false)
theorem pI:aK≠[]:=gU.ne
theorem a9r {p:Pl} (h:CanH p):(tH p).n≠⟨0,0,0⟩:=by
 intro e
 refine h.ne ?_
 have ex:=congrArg Geo.V.x e
 have ey:=congrArg Geo.V.y e
 have ez:=congrArg Geo.V.z e
 unfold tH at ex ey ez
 simp only at ex ey ez
 exact⟨Rat.intCast_inj.1 ex,Rat.intCast_inj.1 ey,Rat.intCast_inj.1 ez⟩
theorem TrB.nz {N:List TN} {k:Int} {T:BT} (h:TrB N k T):T.nz:=fun p hp=>by
 obtain⟨n,hn,rfl⟩:=a6y h.rep p hp
 exact a9r (h.can n hn)
theorem TrB.pl {N:List TN} {k:Int} {T:BT} (h:TrB N k T):∀ p∈T.pls,BPl 6 p∧CanH p:=fun p hp=>by
 obtain⟨n,hn,rfl⟩:=a6y h.rep p hp
 exact⟨(h.b n hn).mono (by decide),h.can n hn⟩
theorem TrB.turn {N:List TN} {k:Int} {T:BT} (h:TrB N k T):TrB (N.map fL) (i5 k) T.turn:=by
 refine⟨h.toTrOK.turn,fun n hn=>?_,by rw[List.length_map];exact h.n,fun n hn=>?_⟩
 all_goals obtain⟨m,hm,rfl⟩:=List.mem_map.1 hn
 ·exact h.can m hm
 ·exact h.b m hm
theorem TrB.flip {N:List TN} {k:Int} {T:BT} (h:TrB N k T):TrB (N.map flN) k T.flip:=by
 refine⟨h.toTrOK.flip,fun n hn=>?_,by rw[List.length_map];exact h.n,fun n hn=>?_⟩
 all_goals obtain⟨m,hm,rfl⟩:=List.mem_map.1 hn
 ·exact c1x (h.can m hm)
 ·exact (h.b m hm).neg
theorem a4w (p:Pl):(dY p).chk aK=true:=by
 unfold dY
 split
 ·simp[BT.chk,pI]
 ·split
  ·simp[BT.chk,pI]
  ·rename_i h1 h2
   exact BT.chk_nd.2 ⟨pI,by simp[BT.chk,h1],by simp[BT.chk,h2]⟩
theorem a5v {p:Pl} (hc:CanH p) (hb:BPl 6 p):TrB (gB p) (gC p) (dY p):=by
 unfold gB gC dY
 by_cases h1:(aO p aK).1=[]
 ·rw[if_pos h1,if_pos h1,if_pos h1]
  exact⟨⟨rfl,.refl _⟩,by simp,by decide,by simp⟩
 ·rw[if_neg h1,if_neg h1,if_neg h1]
  by_cases h2:(aO p aK).2=[]
  ·rw[if_pos h2,if_pos h2,if_pos h2]
   exact⟨⟨rfl,.refl _⟩,by simp,by decide,by simp⟩
  ·rw[if_neg h2,if_neg h2,if_neg h2]
   refine⟨⟨⟨rfl,(p,-1,0),rfl,rfl,rfl,rfl⟩,.refl _⟩,fun n hn=>?_,by simp,fun n hn=>?_⟩
   all_goals obtain rfl:=List.mem_singleton.1 hn
   ·exact hc
   ·exact hb
theorem nV (T:BT) {x:Pt} (hw:0<x.w) (b:Bool):mL T x (lfv b)=true↔T.reach b (tv x):=by
 unfold mL
 rw[decide_eq_true_eq]
 exact BT.leaves_iff T hw b
theorem tA {x:Pt} (hw:0<x.w):(bN x=-1↔¬ Geo.Cl (sds aK) (tv x))∧(bN x=1↔Geo.Inn (sds aK) (tv x))∧(bN x=-1∨bN x=0∨bN x=1):=by
 rw[← c0z];exact a0l gU hw
theorem b6q (x:Pt):cO (.lf true) x=bN x:=by
 rw[m8]
 have h1:mL (.lf true) x (-1)=true:=by simp[mL,BT.leaves,lfv]
 have h2:mL (.lf true) x 0=false:=by simp[mL,BT.leaves,lfv]
 rw[h1,h2]
 rcases a4y x.w [x.x,x.y,x.z]with e|e|e<;>rw[← wZ]at e<;>rw[e]<;>decide
theorem vL (p:Pl) (x:Pt):aB p x=-1∨aB p x=0∨aB p x=1:=by
 unfold aB
 rcases fW (abv p x)with⟨e,_⟩|⟨e,_⟩|⟨e,_⟩<;>simp[e]
theorem c1q {p:Pl} (hn:(tH p).n≠⟨0,0,0⟩) {x:Pt} (hx:0<x.w) (he:bN x=1):cO (dY p) x=- aB p x:=by
 have hi:InnP aK (tv x):=⟨pI,(tA hx).2.1.1 he⟩
 have key:∀ q:Pl,(tH q).n≠⟨0,0,0⟩→beh q aK=aK→(tH q).at (tv x)<0:=fun q hq e =>
  ((a0o (.inr gU) hq (tv x)).1 (by rw[e];exact hi)).2
 have hall:∀ {a b:aD},aO p aK=(a,b)→(a=[]→b=aK)∧(b=[]→a=aK):=by
  intro a b e
  unfold aO at e
  split at e
  ·injection e with e1 e2;exact⟨fun h=>absurd (e1.trans h) pI,fun _=>e1.symm⟩
  ·split at e
   ·injection e with e1 e2;exact⟨fun _=>e2.symm,fun h=>absurd (e2.trans h) pI⟩
   ·injection e with e1 e2
    exact⟨fun h=>absurd (e1.trans h) (by unfold g9;simp),fun h=>absurd (e2.trans h) (by unfold g9;simp)⟩
 have h12:=hall (a:=(aO p aK).1) (b:=(aO p aK).2) rfl
 have hfb:=y5 (.inr gU) hn
 rw[m8,he]
 unfold dY
 by_cases h1:(aO p aK).1=[]
 ·rw[if_pos h1]
  have h3:=key _ (BT.nz_neg hn) (hfb.symm.trans (h12.1 h1))
  rw[BT.at_negP]at h3
  have h4:0<aB p x:=mX.2 ((kA p hx).1 (by grind))
  have:aB p x=1:=by rcases vL p x with e|e|e<;>omega
  rw[this]
  simp[mL,BT.leaves,lfv]
 ·rw[if_neg h1]
  by_cases h2:(aO p aK).2=[]
  ·rw[if_pos h2]
   have h3:=key _ hn (h12.2 h2)
   have h4:aB p x<0:=j3.2 ((lQ p hx).1 h3)
   have:aB p x=-1:=by rcases vL p x with e|e|e<;>omega
   rw[this]
   simp[mL,BT.leaves,lfv]
  ·rw[if_neg h2]
   rcases vL p x with e|e|e<;>rw[e]<;>simp[mL,BT.leaves,lfv,e]
theorem c1s {T U:BT} {x:Pt} (h:∀ b,mL T x (lfv b)=mL U x (lfv b)):cO T x=cO U x:=by
 rw[m8,m8,show mL T x (-1)=mL U x (-1)from h true,show mL T x 0=mL U x 0 from h false]
theorem c1r (T:BT) {x:Pt} (hx:0<x.w):cO T.flip x=cO T x:=c1s fun b=>by
 rw[Bool.eq_iff_iff,nV _ hx,nV _ hx,BT.flip_reach]
theorem c1t {N:List TN} {k:Int} {T:BT} (h:TrB N k T) (hc:T.chk aK=true):T.flip.chk aK=true:=BT.flip_chk gU gU (fun _=>Iff.rfl) h.nz hc
def jN (l:List aD) (x:Pt):Bool:=l.any fun c=>decide (eY c x≠-1)
theorem a4l {N:List TN} {k:Int} {T:BT} (h:TrB N k T) (hc:T.chk aK=true) {x:Pt} (hx:0<x.w):jN (T.cells aK) x=true↔mL T x (-1)=true∧bN x≠-1:=by
 have hcl:=BT.cells_cl (tv x) gU h.nz hc
 have ho:=BT.cells_ok gU h.nz hc
 rw[show mL T x (-1)=mL T x (lfv true)from rfl,nV T hx true]
 have he:bN x≠-1↔Geo.Cl (sds aK) (tv x):=by
  have:=(tA hx).1
  constructor
  ·intro q;exact Classical.byContradiction fun k=>q (this.2 k)
  ·intro q k;exact this.1 k q
 rw[he,hcl]
 unfold jN
 rw[List.any_eq_true]
 constructor
 ·rintro⟨c,hc,hd⟩
  refine⟨c,hc,Classical.byContradiction fun q=>(of_decide_eq_true hd) ((a0l (ho c hc) hx).1.2 q)⟩
 ·rintro⟨c,hc,hd⟩
  exact⟨c,hc,decide_eq_true fun q=>(a0l (ho c hc) hx).1.1 q hd⟩
theorem a7p (T:BT) {x:Pt} (hx:0<x.w) (b:Bool):mL T.turn x (lfv b)=mL T x (lfv (!b)):=by
 rw[Bool.eq_iff_iff,nV _ hx,nV _ hx,BT.turn_reach]
theorem a6j {T:BT} (hc:T.chk aK=true):T.turn.chk aK=true:=by rw[BT.turn_chk];exact hc
theorem c4v {N : List TN} {k : Int} {T : BT} (h : TrB N k T) (hc : T.chk aK = true) {x : Pt} (hx : 0 < x.w) :
  (cO T x=0↔(jN (T.cells aK) x=true∧(jN (T.turn.cells aK) x=true∨bN x=0)))∧(bN x<1∨cO T.turn x=- cO T x):=by
 have m1:=a4l h hc hx
 have m2:=a4l h.turn (a6j hc) hx
 have t1:mL T.turn x (-1)=mL T x 0:=a7p T hx true
 have t2:mL T.turn x 0=mL T x (-1):=a7p T hx false
 rw[m1,m2,m8,m8,t1,t2]
 have hany:mL T x (-1)=true∨mL T x 0=true:=by
  rw[show mL T x (-1)=mL T x (lfv true)from rfl,show mL T x 0=mL T x (lfv false)from rfl,nV _ hx,nV _ hx]
  exact BT.reach_any T (tv x)
 rcases (tA hx).2.2 with e|e|e<;>rw[e]<;>cases u:mL T x (-1)<;>cases v:mL T x 0<;>simp[u,v]at hany ⊢
theorem c0p (T:BT):(T.flip.cells aK).length=(T.cells aK).length:=by rw[BT.cells_len,BT.cells_len,BT.tl_flip]
end Go.Proofs.Vx
