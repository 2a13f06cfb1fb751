import Derived.Test.YtjlfgmhmalbiiaaGreatDoorV38
set_option linter.all false
set_option maxHeartbeats 16000000
namespace Go.Proofs.Vx
open Go Go.Sx Go.Proofs Tryz
attribute [local irreducible] fnT CallOK CallFr AW aO callV aP aN aM aQ gcaseP hid
set_option maxRecDepth 20000 in
theorem c39a (k0:Int) (N:List RN) (hs:CallOK prog 104 [.agg (dH k0 N)] [] (.lit (.bool false)) []):CallOK prog 39 [.agg (dH k0 N)] [] (.lit (.int .i64 3)) []:=by
 refine zs func39 12 [.tmp 2] results39 ?_
 simp only[aD,Nat.reduceAdd]
 have cp:True:=trivial
 have w0:True:=trivial
 repeat'(first|refine zg ?_|(refine zc ?_ ?_<;>intro hc<;>first|simp only[NM]at hc|omega|skip)|refine zr ?_|(refine zp hs (by simp -dsimp (disch:=try exact zo)only[go_sem,aV,aL]) (.lit _) ?_)|(refine zp cp (by simp -dsimp (disch:=try exact zo)only[go_sem,aL,aG]) (.lit _) ?_)|(refine zp w0 (by simp) (bV _) ?_)|refine⟨by omega,?_⟩|(refine zb ?_ ?_<;>intro hg<;>(try rw[hg])<;>try simp only[NM]at hg)|omega|simp -dsimp (disch:=try exact zo)only[go_sem,aV,aL,aG,Bool.not_true,Bool.not_false]|contradiction|rfl)
set_option maxRecDepth 20000 in
theorem c39b (k0:Int) (N:List TN) (T:BT) (h:TrB N k0 T) (hs:CallOK prog 104 [.agg (eTr k0 N)] [] (.lit (.bool true)) []):CallOK prog 39 [.agg (eTr k0 N)] [] (.lit (.int .i64 (if T.chk aX=true then 0 else 1))) []:=by
 refine zs func39 12 [.tmp 2] results39 ?_
 simp only[aD,Nat.reduceAdd]
 have hh:=h.ht
 have cp:=c105 k0 N h.n (fun n hn=>(h.b n hn).mono (by decide)) T k0 cZ aX 6 h.rep (by omega) a0k a2w xP
 have he:T.chkR cZ=T.chk aX:=by
  have:=c2o (T:=T) a0k rN a2w
  cases u:T.chkR cZ<;>cases v:T.chk aX<;>simp[u,v]at this ⊢
 rw[he]at cp
 have w0:=c94
 clear h hh he
 generalize T.chk aX=u at *
 generalize cZ=W at *
 cases u
 ·rw[if_neg (by decide)]
  repeat'(first|refine zg ?_|(refine zc ?_ ?_<;>intro hc<;>first|simp only[NM]at hc|omega|skip)|refine zr ?_|(refine zp hs (by simp -dsimp (disch:=try exact zo)only[go_sem,aV,aL]) (.lit _) ?_)|(refine zp cp (by simp -dsimp (disch:=try exact zo)only[go_sem,aL,aG]) (.lit _) ?_)|(refine zp w0 (by simp) (bV _) ?_)|refine⟨by omega,?_⟩|(refine zb ?_ ?_<;>intro hg<;>(try rw[hg])<;>try simp only[NM]at hg)|omega|simp -dsimp (disch:=try exact zo)only[go_sem,aV,aL,aG,Bool.not_true,Bool.not_false]|contradiction|rfl)
 ·rw[if_pos rfl]
  repeat'(first|refine zg ?_|(refine zc ?_ ?_<;>intro hc<;>first|simp only[NM]at hc|omega|skip)|refine zr ?_|(refine zp hs (by simp -dsimp (disch:=try exact zo)only[go_sem,aV,aL]) (.lit _) ?_)|(refine zp cp (by simp -dsimp (disch:=try exact zo)only[go_sem,aL,aG]) (.lit _) ?_)|(refine zp w0 (by simp) (bV _) ?_)|refine⟨by omega,?_⟩|(refine zb ?_ ?_<;>intro hg<;>(try rw[hg])<;>try simp only[NM]at hg)|omega|simp -dsimp (disch:=try exact zo)only[go_sem,aV,aL,aG,Bool.not_true,Bool.not_false]|contradiction|rfl)
end Go.Proofs.Vx
namespace Go.Proofs.Vx
open Go Go.Sx Go.Proofs Tryz
attribute [local irreducible] fnT CallOK CallFr AW aO callV aP aN aM aQ gcaseP hid
def mL (T:BT) (x:Pt) (v:Int):Bool:=decide (v∈T.leaves x)
theorem a8g (k:Nat) (p:Pl) (l r:BT) (x:Pt) (v:Int):mL (.nd k p l r) x v=((if 0<aB p x then false else mL l x v)||(if aB p x<0 then false else mL r x v)):=by
 unfold mL
 simp only[BT.leaves,List.mem_append,Bool.decide_or]
 congr 1<;>split<;>simp
theorem in2 {K:Nat→Prop} (u v:Bool):In K (.tup [.lit (.bool u),.lit (.bool v)]):=.tup _ (by
 intro c hc
 simp only[zM,or_false]at hc
 rcases hc with rfl|rfl<;>exact .lit _)
set_option maxRecDepth 20000 in
theorem c108 (k0:Int) (N:List TN) (hN:N.length≤14) (hP:∀ n∈N,BPl 6 n.1) (x:Pt) (hx:BPt 268435456 x) (T:BT):∀ (k:Int),Rep N T k→CallOK prog 108 [.agg (eTr k0 N),.lit (.int .i64 k),.agg (eP x)] [] (.tup [.lit (.bool (mL T x (-1))),.lit (.bool (mL T x 0))]) []:=by
 have hl:(eTS N).length=N.length:=nJ N
 induction T with
 | lf b0 =>
  intro k hk
  have hk0:k<1:=by have:=sV b0;rw[show k=lfv b0 from hk];omega
  have k1:(k<1)=True:=eq_true hk0
  have k5:True:=trivial
  have g1:True:=trivial
  have g2:True:=trivial
  have es1:True:=trivial
  have cs:True:=trivial
  have il:True:=trivial
  have ir:True:=trivial
  have k7:decide (k=-1)=mL (.lf b0) x (-1):=by rw[show k=lfv b0 from hk];cases b0<;>simp[mL,BT.leaves,lfv]
  have k8:decide (k=0)=mL (.lf b0) x 0:=by rw[show k=lfv b0 from hk];cases b0<;>simp[mL,BT.leaves,lfv]
  clear hk
  generalize mL (.lf b0) x (-1)=u at *
  generalize mL (.lf b0) x 0=v at *
  (refine zs func108 70 [.tmp 6,.tmp 7] results108 ?_;simp only[aD,Nat.reduceAdd])
  repeat'(first|refine zg ?_|(refine zc ?_ ?_<;>intro hc<;>first|simp only[NM]at hc|omega|skip)|refine zr ?_|(refine zp cs (by simp -dsimp (disch:=try exact zo)only[go_sem,aC]) (.lit _) ?_)|(first|refine zp il (by simp -dsimp (disch:=try exact zo)only[go_sem,aC,aL]) (in2 _ _) ?_|refine zp ir (by simp -dsimp (disch:=try exact zo)only[go_sem,aC,aL]) (in2 _ _) ?_)|refine⟨by omega,?_⟩|(refine zb ?_ ?_<;>intro hg<;>(try rw[hg])<;>try simp only[NM]at hg)|omega|simp -dsimp (disch:=try exact zo)only[go_sem,hl,es1,k1,k5,g1,g2,k7,k8,aL,aC,ZT]|contradiction|rfl)
 | nd j p l r ihl ihr =>
  intro k hk
  obtain⟨rfl,nd,hn1,rfl,hn3,hn4⟩:=hk
  have hj:=(List.getElem?_eq_some_iff.1 hn1).1
  have hje:=(List.getElem?_eq_some_iff.1 hn1).2
  have es1:=sE N j hj
  rw[hje]at es1
  have hpn:=hP nd (List.mem_of_getElem? hn1)
  have k1:((j:Int)+1<1)=False:=eq_false (by omega)
  have k5:((j:Int)+1 - 1)=(j:Int):=by omega
  have k7:True:=trivial
  have k8:True:=trivial
  have cs:=c50 nd.1 x (hpn.mono (by decide)) (hx.mono (by decide))
  rw[a8g,a8g]
  have il:=ihl nd.2.1 hn3
  have ir:=ihr nd.2.2 hn4
  clear ihl ihr hje hn1 hn3 hn4 hpn hP hx
  generalize aB nd.1 x=sd at *
  generalize mL l x (-1)=u1 at *
  generalize mL l x 0=v1 at *
  generalize mL r x (-1)=u2 at *
  generalize mL r x 0=v2 at *
  obtain⟨p,y,z⟩:=nd
  dsimp only[eN]at es1 cs il ir
  simp only[eH,e4]at cs
  by_cases q1:0<sd
  ·have g1:(sd≤0)=False:=eq_false (by omega)
   have g2:(0≤sd)=True:=eq_true (by omega)
   rw[if_pos q1,if_pos q1,if_neg (by omega),if_neg (by omega),Bool.false_or,Bool.false_or]
   clear il
   have il:True:=trivial
   (refine zs func108 70 [.tmp 6,.tmp 7] results108 ?_;simp only[aD,Nat.reduceAdd])
   repeat'(first|refine zg ?_|(refine zc ?_ ?_<;>intro hc<;>first|simp only[NM]at hc|omega|skip)|refine zr ?_|(refine zp cs (by simp -dsimp (disch:=try exact zo)only[go_sem,aC]) (.lit _) ?_)|(first|refine zp il (by simp -dsimp (disch:=try exact zo)only[go_sem,aC,aL]) (in2 _ _) ?_|refine zp ir (by simp -dsimp (disch:=try exact zo)only[go_sem,aC,aL]) (in2 _ _) ?_)|refine⟨by omega,?_⟩|(refine zb ?_ ?_<;>intro hg<;>(try rw[hg])<;>try simp only[NM]at hg)|omega|simp -dsimp (disch:=try exact zo)only[go_sem,hl,es1,k1,k5,g1,g2,k7,k8,aL,aC,ZT]|contradiction|rfl)
  ·have g1:(sd≤0)=True:=eq_true (by omega)
   rw[if_neg q1,if_neg q1]
   by_cases q2:sd<0
   ·have g2:(0≤sd)=False:=eq_false (by omega)
    rw[if_pos q2,if_pos q2,Bool.or_false,Bool.or_false]
    clear ir
    have ir:True:=trivial
    (refine zs func108 70 [.tmp 6,.tmp 7] results108 ?_;simp only[aD,Nat.reduceAdd])
    repeat'(first|refine zg ?_|(refine zc ?_ ?_<;>intro hc<;>first|simp only[NM]at hc|omega|skip)|refine zr ?_|(refine zp cs (by simp -dsimp (disch:=try exact zo)only[go_sem,aC]) (.lit _) ?_)|(first|refine zp il (by simp -dsimp (disch:=try exact zo)only[go_sem,aC,aL]) (in2 _ _) ?_|refine zp ir (by simp -dsimp (disch:=try exact zo)only[go_sem,aC,aL]) (in2 _ _) ?_)|refine⟨by omega,?_⟩|(refine zb ?_ ?_<;>intro hg<;>(try rw[hg])<;>try simp only[NM]at hg)|omega|simp -dsimp (disch:=try exact zo)only[go_sem,hl,es1,k1,k5,g1,g2,k7,k8,aL,aC,ZT]|contradiction|rfl)
   ·have g2:(0≤sd)=True:=eq_true (by omega)
    rw[if_neg q2,if_neg q2]
    cases u1<;>cases v1<;>simp only[Bool.true_or,Bool.false_or]
    all_goals (refine zs func108 70 [.tmp 6,.tmp 7] results108 ?_;simp only[aD,Nat.reduceAdd])
    all_goals repeat'(first|refine zg ?_|(refine zc ?_ ?_<;>intro hc<;>first|simp only[NM]at hc|omega|skip)|refine zr ?_|(refine zp cs (by simp -dsimp (disch:=try exact zo)only[go_sem,aC]) (.lit _) ?_)|(first|refine zp il (by simp -dsimp (disch:=try exact zo)only[go_sem,aC,aL]) (in2 _ _) ?_|refine zp ir (by simp -dsimp (disch:=try exact zo)only[go_sem,aC,aL]) (in2 _ _) ?_)|refine⟨by omega,?_⟩|(refine zb ?_ ?_<;>intro hg<;>(try rw[hg])<;>try simp only[NM]at hg)|omega|simp -dsimp (disch:=try exact zo)only[go_sem,hl,es1,k1,k5,g1,g2,k7,k8,aL,aC,ZT]|contradiction|rfl)
end Go.Proofs.Vx
namespace Go.Proofs.Vx
open Go Go.Sx Go.Proofs Tryz
attribute [local irreducible] fnT CallOK CallFr AW aO callV aP aN aM aQ gcaseP hid
theorem c5s (ks:List Int):∀ s,fS s ks=(s||decide (-1∈ks)):=by
 induction ks with
 | nil=>intro s;simp[fS]
 | cons k ks ih =>
  intro s
  show fS (s||decide (k=-1)) ks=_
  rw[ih]
  by_cases q:k=-1
  ·simp[q]
  ·have q':¬ (-1:Int)=k:=fun e=>q e.symm
   simp[q,q']
theorem c5u (ks:List Int):∀ a,fA a ks=(a&&decide (∀ k∈ks,k=-1)):=by
 induction ks with
 | nil=>intro a;simp[fA]
 | cons k ks ih =>
  intro a
  show fA (a&&decide (k=-1)) ks=_
  rw[ih]
  by_cases q:k=-1<;>simp[q]
theorem c5y (T:BT) (x:Pt):jH T x=if eW x<0∨mL T x (-1)=false then -1 else if mL T x 0=true∨eW x=0 then 0 else 1:=by
 unfold jH
 have h1:fS false (T.leaves x)=mL T x (-1):=by rw[c5s];simp[mL]
 have h2:fA true (T.leaves x)=true↔mL T x 0=false:=by
  rw[c5u]
  simp only[Bool.true_and,decide_eq_true_eq,mL,decide_eq_false_iff_not]
  constructor
  ·intro h h0;have:=h 0 h0;omega
  ·intro h k hk
   rcases BT.leaves_two T x k hk with e|e
   ·exact e
   ·subst e;exact absurd hk h
 rw[h1]
 by_cases q:eW x<0
 ·rw[if_pos q,if_pos (.inl q)]
 ·rw[if_neg q]
  cases u:mL T x (-1)
  ·rw[if_pos rfl,if_pos (.inr rfl)]
  ·rw[if_neg (show ¬ (true=false) by decide),if_neg (show ¬ (eW x<0∨true=false)from fun h=>h.elim q (fun h=>absurd h (by decide)))]
   cases v:mL T x 0
   ·have ha:=h2.2 v
    by_cases q0:eW x=0
    ·rw[if_neg (show ¬ (fA true (T.leaves x)=true∧0<eW x)from fun h=>by have:=h.2;omega),if_pos (show false=true∨eW x=0 from .inr q0)]
    ·rw[if_pos (show fA true (T.leaves x)=true∧0<eW x from⟨ha,by omega⟩),if_neg (show ¬ (false=true∨eW x=0)from fun h=>h.elim (fun h=>absurd h (by decide)) q0)]
   ·have ha:¬ fA true (T.leaves x)=true:=fun h=>by have:=h2.1 h;rw[v]at this;cases this
    rw[if_neg (show ¬ (fA true (T.leaves x)=true∧0<eW x)from fun h=>ha h.1),if_pos (show true=true∨eW x=0 from .inl rfl)]
set_option maxRecDepth 20000 in
theorem c43 (k0:Int) (N:List TN) (T:BT) (h:TrB N k0 T) (x:Pt) (hx:BPt 268435456 x):CallOK prog 43 [.agg (eTr k0 N),.agg (eP x)] [] (.lit (.int .i64 (jH T x))) []:=by
 refine zs func43 29 [.tmp 4] results43 ?_
 simp only[aD,Nat.reduceAdd]
 have ce:=c48 x hx
 have cl:=c108 k0 N h.n (fun n hn=>(h.b n hn).mono (by decide)) x hx T k0 h.rep
 rw[c5y]
 clear h hx
 generalize eW x=e at *
 generalize mL T x (-1)=u at *
 generalize mL T x 0=v at *
 by_cases q:e<0
 ·have k1:(e<0)=True:=eq_true q
  have k2:True:=trivial
  rw[if_pos (.inl q)]
  repeat'(first|refine zg ?_|(refine zc ?_ ?_<;>intro hc<;>first|simp only[NM]at hc|omega|skip)|refine zr ?_|(refine zp ce (by simp -dsimp (disch:=try exact zo)only[go_sem,aC]) (.lit _) ?_)|(refine zp cl (by simp -dsimp (disch:=try exact zo)only[go_sem,aC,aL]) (in2 _ _) ?_)|refine⟨by omega,?_⟩|(refine zb ?_ ?_<;>intro hg<;>(try rw[hg])<;>try simp only[NM]at hg)|omega|simp -dsimp (disch:=try exact zo)only[go_sem,k1,k2,aL,aC]|contradiction|rfl)
 ·have k1:(e<0)=False:=eq_false q
  cases u
  ·have k2:True:=trivial
   rw[if_pos (.inr rfl)]
   repeat'(first|refine zg ?_|(refine zc ?_ ?_<;>intro hc<;>first|simp only[NM]at hc|omega|skip)|refine zr ?_|(refine zp ce (by simp -dsimp (disch:=try exact zo)only[go_sem,aC]) (.lit _) ?_)|(refine zp cl (by simp -dsimp (disch:=try exact zo)only[go_sem,aC,aL]) (in2 _ _) ?_)|refine⟨by omega,?_⟩|(refine zb ?_ ?_<;>intro hg<;>(try rw[hg])<;>try simp only[NM]at hg)|omega|simp -dsimp (disch:=try exact zo)only[go_sem,k1,k2,aL,aC]|contradiction|rfl)
  ·rw[if_neg (by simp[q])]
   by_cases q0:e=0
   ·have k2:(e=0)=True:=eq_true q0
    rw[if_pos (.inr q0)]
    clear q0
    cases v
    all_goals repeat'(first|refine zg ?_|(refine zc ?_ ?_<;>intro hc<;>first|simp only[NM]at hc|omega|skip)|refine zr ?_|(refine zp ce (by simp -dsimp (disch:=try exact zo)only[go_sem,aC]) (.lit _) ?_)|(refine zp cl (by simp -dsimp (disch:=try exact zo)only[go_sem,aC,aL]) (in2 _ _) ?_)|refine⟨by omega,?_⟩|(refine zb ?_ ?_<;>intro hg<;>(try rw[hg])<;>try simp only[NM]at hg)|omega|simp -dsimp (disch:=try exact zo)only[go_sem,k1,k2,aL,aC]|contradiction|rfl)
   ·have k2:(e=0)=False:=eq_false q0
    cases v
    ·rw[if_neg (by simp[q0])]
     repeat'(first|refine zg ?_|(refine zc ?_ ?_<;>intro hc<;>first|simp only[NM]at hc|omega|skip)|refine zr ?_|(refine zp ce (by simp -dsimp (disch:=try exact zo)only[go_sem,aC]) (.lit _) ?_)|(refine zp cl (by simp -dsimp (disch:=try exact zo)only[go_sem,aC,aL]) (in2 _ _) ?_)|refine⟨by omega,?_⟩|(refine zb ?_ ?_<;>intro hg<;>(try rw[hg])<;>try simp only[NM]at hg)|omega|simp -dsimp (disch:=try exact zo)only[go_sem,k1,k2,aL,aC]|contradiction|rfl)
    ·rw[if_pos (.inl rfl)]
     repeat'(first|refine zg ?_|(refine zc ?_ ?_<;>intro hc<;>first|simp only[NM]at hc|omega|skip)|refine zr ?_|(refine zp ce (by simp -dsimp (disch:=try exact zo)only[go_sem,aC]) (.lit _) ?_)|(refine zp cl (by simp -dsimp (disch:=try exact zo)only[go_sem,aC,aL]) (in2 _ _) ?_)|refine⟨by omega,?_⟩|(refine zb ?_ ?_<;>intro hg<;>(try rw[hg])<;>try simp only[NM]at hg)|omega|simp -dsimp (disch:=try exact zo)only[go_sem,k1,k2,aL,aC]|contradiction|rfl)
end Go.Proofs.Vx
namespace Go.Proofs.Vx
open Go Go.Sx Go.Proofs Tryz
attribute [local irreducible] fnT CallOK CallFr AW aO callV aP aN aM aQ gcaseP hid
def fG (p:Pl):BT:=if (aS p aX).1=[]then .lf false else if (aS p aX).2=[]then .lf true else .nd 0 p (.lf true) (.lf false)
theorem xQ:aX≠[]:=rN.ne
theorem b3u (p:Pl):(fG p).chk aX=true:=by
 unfold fG
 split
 ·simp[BT.chk,xQ]
 ·split
  ·simp[BT.chk,xQ]
  ·rename_i h1 h2
   exact BT.chk_nd.2 ⟨xQ,by simp[BT.chk,h1],by simp[BT.chk,h2]⟩
theorem b7w {p:Pl} (hc:CanH p) (hb:BPl 6 p):TrB (iA p) (iB p) (fG p):=by
 unfold iA iB fG
 by_cases h1:(aS p aX).1=[]
 ·rw[if_pos h1,if_pos h1,if_pos h1]
  exact⟨⟨rfl,.refl _⟩,by simp,by decide,by simp⟩
 ·rw[if_neg h1,if_neg h1,if_neg h1]
  by_cases h2:(aS p aX).2=[]
  ·rw[if_pos h2,if_pos h2,if_pos h2]
   exact⟨⟨rfl,.refl _⟩,by simp,by decide,by simp⟩
  ·rw[if_neg h2,if_neg h2,if_neg h2]
   refine⟨⟨⟨rfl,(p,-1,0),rfl,rfl,rfl,rfl⟩,.refl _⟩,fun n hn=>?_,by simp,fun n hn=>?_⟩
   all_goals obtain rfl:=List.mem_singleton.1 hn
   ·exact hc
   ·exact hb
end Go.Proofs.Vx
