import Derived.Test.YtjlfgmhmalbiiaaGreatDoorV15
set_option linter.all false
set_option maxHeartbeats 8000000
namespace Go.Sx
set_option linter.unusedVariables false
structure Pt where
 x:Int
 y:Int
 z:Int
 w:Int
deriving DecidableEq
structure Pl where
 a:Int
 b:Int
 c:Int
 d:Int
deriving DecidableEq
abbrev e4 (a b c d:Int):List AV:=[.lit (.bool (Zn a)),.lit (.string (Zm a)),.lit (.bool (Zn b)),.lit (.string (Zm b)),.lit (.bool (Zn c)),.lit (.string (Zm c)),.lit (.bool (Zn d)),.lit (.string (Zm d))]
abbrev eP (p:Pt):List AV:=e4 p.x p.y p.z p.w
abbrev eH (p:Pl):List AV:=e4 p.a p.b p.c p.d
abbrev eV (a b c:Rat):List AV:=[.lit (.bool (Zn a.num)),.lit (.string (Zm a.num)),.lit (.string (Qd a)),.lit (.bool (Zn b.num)),.lit (.string (Zm b.num)),.lit (.string (Qd b)),.lit (.bool (Zn c.num)),.lit (.string (Zm c.num)),.lit (.string (Qd c))]
def g4 (x y z w:Int):Nat:=Nat.gcd (Nat.gcd (Nat.gcd x.natAbs y.natAbs) z.natAbs) w.natAbs
def nz (w:Int):Int:=if w=0 then 1 else w
def turn (w q:Int):Int:=if w<0 then -q else q
def nrm (x y z w:Int):Pt :=
 ⟨turn (nz w) (x / (g4 x y z (nz w):Int)),turn (nz w) (y / (g4 x y z (nz w):Int)),turn (nz w) (z / (g4 x y z (nz w):Int)),turn (nz w) (nz w / (g4 x y z (nz w):Int))⟩
theorem qC (w:Int):nz w≠0:=by unfold nz;split<;>omega
theorem sX {x y z w:Int} (h:w≠0):0<g4 x y z w:=by
 unfold g4
 exact Nat.gcd_pos_of_pos_right _ (by omega)
theorem kV (x y z w:Int):(g4 x y z w:Int)∣x∧(g4 x y z w:Int)∣y∧(g4 x y z w:Int)∣z∧(g4 x y z w:Int)∣w:=by
 unfold g4
 have h1:=Nat.gcd_dvd_left (Nat.gcd (Nat.gcd x.natAbs y.natAbs) z.natAbs) w.natAbs
 have h2:=Nat.gcd_dvd_right (Nat.gcd (Nat.gcd x.natAbs y.natAbs) z.natAbs) w.natAbs
 have h3:=Nat.gcd_dvd_left (Nat.gcd x.natAbs y.natAbs) z.natAbs
 have h4:=Nat.gcd_dvd_right (Nat.gcd x.natAbs y.natAbs) z.natAbs
 have h5:=Nat.gcd_dvd_left x.natAbs y.natAbs
 have h6:=Nat.gcd_dvd_right x.natAbs y.natAbs
 refine⟨?_,?_,?_,?_⟩<;>rw[Int.ofNat_dvd_left]
 ·exact Nat.dvd_trans h1 (Nat.dvd_trans h3 h5)
 ·exact Nat.dvd_trans h1 (Nat.dvd_trans h3 h6)
 ·exact Nat.dvd_trans h1 h4
 ·exact h2
theorem b9k (w q:Int):(Zm (turn w q)).size=(Zm q).size:=by unfold turn;split<;>simp[iN]
theorem uI (x:Int) (g:Nat):(Zm (x / (g:Int))).size≤(Zm x).size+1:=l7 x g
theorem zP {w:Int} {k:Nat} (h:(Zm w).size≤k) (hk:1≤k):(Zm (nz w)).size≤k:=by
 unfold nz
 split
 ·rw[cI]
  exact Nat.lt_of_lt_of_le (by decide) (Nat.pow_le_pow_right (by decide) hk)
 ·exact h
structure Bs (k:Nat) (a b c d:Int):Prop where
 a:(Zm a).size≤k
 b:(Zm b).size≤k
 c:(Zm c).size≤k
 d:(Zm d).size≤k
theorem l4 {x:Int} {g:Nat} (h:(g:Int)∣x) (hg:0<g):(Zm (x / (g:Int))).size≤(Zm x).size:=by
 apply g9
 rw[Int.natAbs_ediv_of_dvd h,Int.natAbs_natCast]
 exact Nat.div_le_self _ _
theorem a7b {x y z w:Int} {k:Nat} (h:Bs k x y z w) (hk:1≤k):Bs k (nrm x y z w).x (nrm x y z w).y (nrm x y z w).z (nrm x y z w).w:=by
 have hp:=sX (x:=x) (y:=y) (z:=z) (qC w)
 obtain⟨d1,d2,d3,d4⟩:=kV x y z (nz w)
 refine⟨?_,?_,?_,?_⟩<;>simp only[nrm,b9k]
 ·exact Nat.le_trans (l4 d1 hp) h.a
 ·exact Nat.le_trans (l4 d2 hp) h.b
 ·exact Nat.le_trans (l4 d3 hp) h.c
 ·exact Nat.le_trans (l4 d4 hp) (zP h.d hk)
def j4 (a b c d:Int):Pl:=⟨a / (g4 a b c d:Int),b / (g4 a b c d:Int),c / (g4 a b c d:Int),d / (g4 a b c d:Int)⟩
structure CanP (p:Pt):Prop where
 w:0<p.w
 g:g4 p.x p.y p.z p.w=1
theorem a5d {p:Pt} (h:CanP p):nrm p.x p.y p.z p.w=p:=by
 have hw:=h.w
 have hz:nz p.w=p.w:=if_neg (by omega)
 have ht:∀ q,turn p.w q=q:=fun q=>if_neg (by omega)
 unfold nrm
 rw[hz,h.g]
 simp only[ht]
 cases p
 simp
theorem vH (k x y z w:Int):g4 (k*x) (k*y) (k*z) (k*w)=k.natAbs*g4 x y z w:=by
 unfold g4
 rw[Int.natAbs_mul,Int.natAbs_mul,Int.natAbs_mul,Int.natAbs_mul,Nat.gcd_mul_left,Nat.gcd_mul_left,Nat.gcd_mul_left]
theorem c1x (w x y z v:Int):g4 (turn w x) (turn w y) (turn w z) (turn w v)=g4 x y z v:=by
 unfold turn
 split
 ·unfold g4;simp
 ·rfl
theorem xH (x y z w:Int):CanP (nrm x y z w):=by
 have hp:=sX (x:=x) (y:=y) (z:=z) (qC w)
 obtain⟨d1,d2,d3,d4⟩:=kV x y z (nz w)
 obtain⟨x',hx⟩:=d1
 obtain⟨y',hy⟩:=d2
 obtain⟨z',hz⟩:=d3
 obtain⟨w',hw⟩:=d4
 have hnz:=qC w
 have hg:=vH (g4 x y z (nz w):Int) x' y' z' w'
 rw[← hx,← hy,← hz,← hw,Int.natAbs_natCast]at hg
 have h1:g4 x' y' z' w'=1:=by
  have:g4 x y z (nz w)*g4 x' y' z' w'=g4 x y z (nz w)*1:=by omega
  exact Nat.eq_of_mul_eq_mul_left hp this
 have hg0:(g4 x y z (nz w):Int)≠0:=by omega
 have ex:x / (g4 x y z (nz w):Int)=x':=by (conv=>lhs;lhs;rw[hx]);exact Int.mul_ediv_cancel_left _ hg0
 have ey:y / (g4 x y z (nz w):Int)=y':=by (conv=>lhs;lhs;rw[hy]);exact Int.mul_ediv_cancel_left _ hg0
 have ez:z / (g4 x y z (nz w):Int)=z':=by (conv=>lhs;lhs;rw[hz]);exact Int.mul_ediv_cancel_left _ hg0
 have ew:nz w / (g4 x y z (nz w):Int)=w':=by (conv=>lhs;lhs;rw[hw]);exact Int.mul_ediv_cancel_left _ hg0
 refine⟨?_,?_⟩
 ·simp only[nrm,ew]
  have hGp:(0:Int)<(g4 x y z (nz w):Int):=by omega
  generalize (g4 x y z (nz w):Int)=G at *
  unfold turn
  split
  ·rename_i hlt
   rw[hw]at hlt
   have:¬ 0≤w':=fun h=>by have:=Int.mul_nonneg (Int.le_of_lt hGp) h;omega
   omega
  ·rename_i hlt
   rw[hw]at hlt hnz
   have:¬ w'<0:=fun h=>by have:=Int.mul_neg_of_pos_of_neg hGp h;omega
   have:w'≠0:=fun h=>by rw[h]at hnz;simp at hnz
   omega
 ·simp only[nrm,ex,ey,ez,ew]
  rw[c1x,h1]
def qW (a b:Pt):Int :=
 if sg (a.x*b.w - b.x*a.w)≠0 then sg (a.x*b.w - b.x*a.w)
 else if sg (a.y*b.w - b.y*a.w)≠0 then sg (a.y*b.w - b.y*a.w)
 else sg (a.z*b.w - b.z*a.w)
def mkP (a b c:Rat):Pt :=
 nrm (a.num*(1*(a.den:Int)*(b.den:Int)*(c.den:Int) / (a.den:Int))) (b.num*(1*(a.den:Int)*(b.den:Int)*(c.den:Int) / (b.den:Int))) (c.num*(1*(a.den:Int)*(b.den:Int)*(c.den:Int) / (c.den:Int))) (1*(a.den:Int)*(b.den:Int)*(c.den:Int))
end Go.Sx
namespace Go.Proofs.Vx
open Go Go.Sx Go.Proofs Tryz
attribute [local irreducible] fnT CallOK CallFr AW aO callV aP aN aM aQ gcaseP hid
theorem b5r:agT prog 51=some true∧agT prog 95=some true∧arT prog 95=some (4,2,true)∧fdT prog 51 0=some (0,2,true)∧fdT prog 51 1=some (2,2,true)∧fdT prog 51 2=some (4,2,true)∧fdT prog 51 3=some (6,2,true)∧plT prog 51=some [(0,2),(2,2),(4,2),(6,2)]∧plT prog 95=some [(0,2),(2,2),(4,2),(6,2)]∧slT prog 95=none∧bM prog 95=false∧szT prog 51=some 8∧szT prog 95=some 8∧zeT prog 51=some [.lit (.bool false),.lit (.string ⟨#[]⟩),.lit (.bool false),.lit (.string ⟨#[]⟩),.lit (.bool false),.lit (.string ⟨#[]⟩),.lit (.bool false),.lit (.string ⟨#[]⟩)]∧zeT prog 95=some [.lit (.bool false),.lit (.string ⟨#[]⟩),.lit (.bool false),.lit (.string ⟨#[]⟩),.lit (.bool false),.lit (.string ⟨#[]⟩),.lit (.bool false),.lit (.string ⟨#[]⟩)]:=by and_intros<;>kernel_rfl
attribute [go_sem] b5r
theorem y6:fnT prog 67=true:=by kernel_rfl
theorem nH:fnT prog 167=true:=by kernel_rfl
theorem c1z (x y z w:Int):iW [(Zn x,Zm x),(Zn y,Zm y),(Zn z,Zm z),(Zn w,Zm w)]=g4 x y z w:=by
 simp only[iW,List.foldl_cons,List.foldl_nil,aT,Nat.gcd_zero_left,g4]
theorem c167z (x y z w : Int) (hx : (Zm x).size < 68719476736) (hy : (Zm y).size < 68719476736) (hz : (Zm z).size < 68719476736) (hw : (Zm w).size < 68719476736) :
  CallOK prog 167 [.sl [[.lit (.bool (Zn x)),.lit (.string (Zm x))],[.lit (.bool (Zn y)),.lit (.string (Zm y))],[.lit (.bool (Zn z)),.lit (.string (Zm z))],[.lit (.bool (Zn w)),.lit (.string (Zm w))]]] [] (.agg (eZ (g4 x y z w:Int))) []:=by
 have:=c167 [(Zn x,Zm x),(Zn y,Zm y),(Zn z,Zm z),(Zn w,Zm w)] (by simp only[List.forall_mem_cons];exact⟨hx,hy,hz,hw,by simp⟩) (by simp)
 rw[c1z]at this
 exact this
theorem c98 (n1:Bool) (m1:ByteArray) (n2:Bool) (m2:ByteArray) (n3:Bool) (m3:ByteArray) (n4:Bool) (m4:ByteArray) (h1:m1.size<17179869184) (h2:m2.size<17179869184) (h3:m3.size<17179869184) (h4:m4.size<17179869184):CallOK prog 98 [.agg [.lit (.bool n1),.lit (.string m1),.lit (.bool n2),.lit (.string m2),.lit (.bool n3),.lit (.string m3),.lit (.bool n4),.lit (.string m4)]] [] (.agg (eP (nrm (iv n1 m1) (iv n2 m2) (iv n3 m3) (iv n4 m4)))) []:=by
 refine zs func98 61 [.cell 2 51] results98 ?_
 simp only[aD,Nat.reduceAdd]
 have s1:=dL n1 m1
 have s2:=dL n2 m2
 have s3:=dL n3 m3
 have s4:=dL n4 m4
 generalize hx:iv n1 m1=x at *
 generalize hy:iv n2 m2=y at *
 generalize hz:iv n3 m3=z at *
 generalize hw:iv n4 m4=w at *
 have s5:(Zm (nz w)).size≤17179869184:=zP (by omega) (by omega)
 have cg:=c167z x y z (nz w) (by omega) (by omega) (by omega) (by omega)
 have hgp:=sX (x:=x) (y:=y) (z:=z) (qC w)
 have hg0:(g4 x y z (nz w):Int)≠0:=by omega
 have s6:(Zm (g4 x y z (nz w):Int)).size≤17179869184:=by
  obtain⟨_,_,_,d4⟩:=kV x y z (nz w)
  refine Nat.le_trans (g9 ?_) s5
  exact Nat.le_of_dvd (by have:=qC w;omega) (Int.natAbs_dvd_natAbs.2 d4)
 have s7:=l7 x (g4 x y z (nz w):Int)
 have s8:=l7 y (g4 x y z (nz w):Int)
 have s9:=l7 z (g4 x y z (nz w):Int)
 have s10:=l7 (nz w) (g4 x y z (nz w):Int)
 unfold nrm turn
 by_cases hw0:w=0
 ·have e67:eZ 1=eZ (nz w):=by unfold nz;rw[if_pos hw0]
  have hs4:(sg w=0)=True:=eq_true (fT.2 hw0)
  have hn1:¬ nz w<0:=by unfold nz;rw[if_pos hw0];omega
  have hsw:(sg (nz w)<0)=False:=eq_false fun h=>hn1 (mD.1 h)
  simp only[if_neg hn1]
  clear hw0
  have hw0:True:=trivial
  repeat'(first|refine zg ?_|refine bQ 6 ?_|(refine zc ?_ ?_<;>intro hc<;>try simp only[NM]at hc)|refine zr ?_|(first|refine callV.flat (.agg (eZ x)) bP (hx▸bN n1 m1 (by omega)) rfl rfl ?_|refine callV.flat (.agg (eZ y)) bP (hy▸bN n2 m2 (by omega)) rfl rfl ?_|refine callV.flat (.agg (eZ z)) bP (hz▸bN n3 m3 (by omega)) rfl rfl ?_|refine callV.flat (.agg (eZ w)) bP (hw▸bN n4 m4 (by omega)) rfl rfl ?_)|(first|refine zf (fK w (by omega)) ?_|refine zf (fK (nz w) (by omega)) ?_)|(refine callV.flat (.agg (eZ (nz w))) y6 (e67▸c67 1 (by omega)) rfl rfl ?_)|(refine dB (.agg (eZ (g4 x y z (nz w):Int))) nH (by simp -dsimp (disch:=try exact zo)only[go_sem];exact cg) (by simp -dsimp (disch:=try exact zo)only[go_sem]) (.agg _ (by simp;exact⟨.lit _,.lit _⟩)) ?_)|(first|refine zf (gI x (g4 x y z (nz w):Int) (by omega) (by omega) hg0) ?_|refine zf (gI y (g4 x y z (nz w):Int) (by omega) (by omega) hg0) ?_|refine zf (gI z (g4 x y z (nz w):Int) (by omega) (by omega) hg0) ?_|refine zf (gI (nz w) (g4 x y z (nz w):Int) (by omega) (by omega) hg0) ?_)|(first|refine zf (f7 (x / (g4 x y z (nz w):Int)) (by omega)) ?_|refine zf (f7 (y / (g4 x y z (nz w):Int)) (by omega)) ?_|refine zf (f7 (z / (g4 x y z (nz w):Int)) (by omega)) ?_|refine zf (f7 (nz w / (g4 x y z (nz w):Int)) (by omega)) ?_)|refine⟨by omega,?_⟩|(refine zb ?_ ?_<;>intro hg<;>(try rw[hg])<;>try simp only[NM]at hg)|omega|simp -dsimp (disch:=try exact zo)only[go_sem,hsw,hs4,hw0]|contradiction|rfl)
 ·have e67:True:=trivial
  have hs4:(sg w=0)=False:=eq_false fun h=>hw0 (fT.1 h)
  have hwn:nz w=w:=if_neg hw0
  simp only[hwn]at cg hgp hg0 s5 s6 s7 s8 s9 s10 ⊢
  by_cases hn1:w<0
  ·have hsw:(sg w<0)=True:=eq_true (mD.2 hn1)
   simp only[if_pos hn1]
   clear hw0
   have hw0:True:=trivial
   repeat'(first|refine zg ?_|refine bQ 6 ?_|(refine zc ?_ ?_<;>intro hc<;>try simp only[NM]at hc)|refine zr ?_|(first|refine callV.flat (.agg (eZ x)) bP (hx▸bN n1 m1 (by omega)) rfl rfl ?_|refine callV.flat (.agg (eZ y)) bP (hy▸bN n2 m2 (by omega)) rfl rfl ?_|refine callV.flat (.agg (eZ z)) bP (hz▸bN n3 m3 (by omega)) rfl rfl ?_|refine callV.flat (.agg (eZ w)) bP (hw▸bN n4 m4 (by omega)) rfl rfl ?_)|(first|refine zf (fK w (by omega)) ?_|refine zf (fK w (by omega)) ?_)|(refine callV.flat (.agg (eZ w)) y6 (e67▸c67 1 (by omega)) rfl rfl ?_)|(refine dB (.agg (eZ (g4 x y z w:Int))) nH (by simp -dsimp (disch:=try exact zo)only[go_sem];exact cg) (by simp -dsimp (disch:=try exact zo)only[go_sem]) (.agg _ (by simp;exact⟨.lit _,.lit _⟩)) ?_)|(first|refine zf (gI x (g4 x y z w:Int) (by omega) (by omega) hg0) ?_|refine zf (gI y (g4 x y z w:Int) (by omega) (by omega) hg0) ?_|refine zf (gI z (g4 x y z w:Int) (by omega) (by omega) hg0) ?_|refine zf (gI w (g4 x y z w:Int) (by omega) (by omega) hg0) ?_)|(first|refine zf (f7 (x / (g4 x y z w:Int)) (by omega)) ?_|refine zf (f7 (y / (g4 x y z w:Int)) (by omega)) ?_|refine zf (f7 (z / (g4 x y z w:Int)) (by omega)) ?_|refine zf (f7 (w / (g4 x y z w:Int)) (by omega)) ?_)|refine⟨by omega,?_⟩|(refine zb ?_ ?_<;>intro hg<;>(try rw[hg])<;>try simp only[NM]at hg)|omega|simp -dsimp (disch:=try exact zo)only[go_sem,hsw,hs4,hw0]|contradiction|rfl)
  ·have hsw:(sg w<0)=False:=eq_false fun h=>hn1 (mD.1 h)
   simp only[if_neg hn1]
   clear hw0
   have hw0:True:=trivial
   repeat'(first|refine zg ?_|refine bQ 6 ?_|(refine zc ?_ ?_<;>intro hc<;>try simp only[NM]at hc)|refine zr ?_|(first|refine callV.flat (.agg (eZ x)) bP (hx▸bN n1 m1 (by omega)) rfl rfl ?_|refine callV.flat (.agg (eZ y)) bP (hy▸bN n2 m2 (by omega)) rfl rfl ?_|refine callV.flat (.agg (eZ z)) bP (hz▸bN n3 m3 (by omega)) rfl rfl ?_|refine callV.flat (.agg (eZ w)) bP (hw▸bN n4 m4 (by omega)) rfl rfl ?_)|(first|refine zf (fK w (by omega)) ?_|refine zf (fK w (by omega)) ?_)|(refine callV.flat (.agg (eZ w)) y6 (e67▸c67 1 (by omega)) rfl rfl ?_)|(refine dB (.agg (eZ (g4 x y z w:Int))) nH (by simp -dsimp (disch:=try exact zo)only[go_sem];exact cg) (by simp -dsimp (disch:=try exact zo)only[go_sem]) (.agg _ (by simp;exact⟨.lit _,.lit _⟩)) ?_)|(first|refine zf (gI x (g4 x y z w:Int) (by omega) (by omega) hg0) ?_|refine zf (gI y (g4 x y z w:Int) (by omega) (by omega) hg0) ?_|refine zf (gI z (g4 x y z w:Int) (by omega) (by omega) hg0) ?_|refine zf (gI w (g4 x y z w:Int) (by omega) (by omega) hg0) ?_)|(first|refine zf (f7 (x / (g4 x y z w:Int)) (by omega)) ?_|refine zf (f7 (y / (g4 x y z w:Int)) (by omega)) ?_|refine zf (f7 (z / (g4 x y z w:Int)) (by omega)) ?_|refine zf (f7 (w / (g4 x y z w:Int)) (by omega)) ?_)|refine⟨by omega,?_⟩|(refine zb ?_ ?_<;>intro hg<;>(try rw[hg])<;>try simp only[NM]at hg)|omega|simp -dsimp (disch:=try exact zo)only[go_sem,hsw,hs4,hw0]|contradiction|rfl)
end Go.Proofs.Vx
namespace Go.Proofs.Vx
open Go Go.Sx Go.Proofs Tryz
attribute [local irreducible] fnT CallOK CallFr AW aO callV aP aN aM aQ gcaseP hid
theorem b5q:agT prog 103=some true∧agT prog 121=some true∧arT prog 103=some (3,3,true)∧arT prog 121=some (3,2,true)∧plT prog 121=some [(0,2),(2,2),(4,2)]∧slT prog 103=none∧slT prog 121=none∧bM prog 121=false∧szT prog 103=some 9∧szT prog 121=some 6∧zeT prog 103=some [.lit (.bool false),.lit (.string ⟨#[]⟩),.lit (.string ⟨#[]⟩),.lit (.bool false),.lit (.string ⟨#[]⟩),.lit (.string ⟨#[]⟩),.lit (.bool false),.lit (.string ⟨#[]⟩),.lit (.string ⟨#[]⟩)]∧zeT prog 121=some [.lit (.bool false),.lit (.string ⟨#[]⟩),.lit (.bool false),.lit (.string ⟨#[]⟩),.lit (.bool false),.lit (.string ⟨#[]⟩)]:=by and_intros<;>kernel_rfl
attribute [go_sem] b5q
theorem c98z (x y z w:Int) (h:Bs 17179869183 x y z w):CallOK prog 98 [.agg (e4 x y z w)] [] (.agg (eP (nrm x y z w))) []:=by
 have:=c98 (Zn x) (Zm x) (Zn y) (Zm y) (Zn z) (Zm z) (Zn w) (Zm w) (by have:=h.a;omega) (by have:=h.b;omega) (by have:=h.c;omega) (by have:=h.d;omega)
 rwa [bB,bB,bB,bB]at this
theorem lG (p:Pt) (hc:CanP p) (h:Bs 17179869183 p.x p.y p.z p.w):CallOK prog 98 [.agg (eP p)] [] (.agg (eP p)) []:=by
 have:=c98z p.x p.y p.z p.w h
 rwa [a5d hc]at this
theorem c77 (p:Pt) (hcp:CanP p) (hp:Bs 17179869183 p.x p.y p.z p.w):CallOK prog 77 [.agg (eP p)] [] (.agg (eV (Rat.divInt p.x p.w) (Rat.divInt p.y p.w) (Rat.divInt p.z p.w))) []:=by
 refine zs func77 30 [.cell 2 103] results77 ?_
 simp only[aD,Nat.reduceAdd]
 have sp1:=hp.a
 have sp2:=hp.b
 have sp3:=hp.c
 have sp4:=hp.d
 have hw:=hcp.w
 repeat'(first|refine zg ?_|refine bQ 6 ?_|(refine zc ?_ ?_<;>intro hc<;>try simp only[NM]at hc)|refine zr ?_|(first|refine zf (lG p hcp hp) ?_)|(first|refine zf (wG p.x p.w (by omega) (by omega) (by omega)) ?_|refine zf (wG p.y p.w (by omega) (by omega) (by omega)) ?_|refine zf (wG p.z p.w (by omega) (by omega) (by omega)) ?_)|refine⟨by omega,?_⟩|(refine zb ?_ ?_<;>intro hg<;>(try rw[hg])<;>try simp only[NM]at hg)|omega|simp -dsimp (disch:=try exact zo)only[go_sem]|contradiction|rfl)
theorem c35 (a b:Pt) (hca:CanP a) (hcb:CanP b) (ha:Bs 8589934591 a.x a.y a.z a.w) (hb:Bs 8589934591 b.x b.y b.z b.w):CallOK prog 35 [.agg (eP a),.agg (eP b)] [] (.lit (.int .i64 (qW a b))) []:=by
 refine zs func35 48 [.tmp 4] results35 ?_
 simp only[aD,Nat.reduceAdd]
 have sa1:=ha.a
 have sa2:=ha.b
 have sa3:=ha.c
 have sa4:=ha.d
 have sb1:=hb.a
 have sb2:=hb.b
 have sb3:=hb.c
 have sb4:=hb.d
 have tx1:=aR a.x b.w sa1 sb4
 have tx2:=aR b.x a.w sb1 sa4
 have ty1:=aR a.y b.w sa2 sb4
 have ty2:=aR b.y a.w sb2 sa4
 have tz1:=aR a.z b.w sa3 sb4
 have tz2:=aR b.z a.w sb3 sa4
 have ha:Bs 17179869183 a.x a.y a.z a.w:=⟨by omega,by omega,by omega,by omega⟩
 have hb:Bs 17179869183 b.x b.y b.z b.w:=⟨by omega,by omega,by omega,by omega⟩
 unfold qW
 by_cases q1:sg (a.x*b.w - b.x*a.w)=0
 ·have k1:=eq_true q1
  rw[if_neg (by simp[q1])]
  by_cases q2:sg (a.y*b.w - b.y*a.w)=0
  ·have k2:=eq_true q2
   rw[if_neg (by simp[q2])]
   by_cases q3:sg (a.z*b.w - b.z*a.w)=0
   ·have k3:=eq_true q3
    rw[q3]
    repeat'(first|refine zg ?_|refine bQ 6 ?_|(refine zc ?_ ?_<;>intro hc<;>try simp only[NM]at hc)|refine zr ?_|(first|refine zf (lG a hca ha) ?_|refine zf (lG b hcb hb) ?_)|(first|refine zf (bE a.x b.w (by omega) (by omega)) ?_|refine zf (bE b.x a.w (by omega) (by omega)) ?_|refine zf (bE a.y b.w (by omega) (by omega)) ?_|refine zf (bE b.y a.w (by omega) (by omega)) ?_|refine zf (bE a.z b.w (by omega) (by omega)) ?_|refine zf (bE b.z a.w (by omega) (by omega)) ?_)|(first|refine zf (fZ (a.x*b.w) (b.x*a.w) (by omega) (by omega)) ?_|refine zf (fZ (a.y*b.w) (b.y*a.w) (by omega) (by omega)) ?_|refine zf (fZ (a.z*b.w) (b.z*a.w) (by omega) (by omega)) ?_)|refine⟨by omega,?_⟩|(refine zb ?_ ?_<;>intro hg<;>(try rw[hg])<;>try simp only[NM]at hg)|omega|simp -dsimp (disch:=try exact zo)only[go_sem,k1,k2,k3]|contradiction|rfl)
   ·have k3:=eq_false q3
    repeat'(first|refine zg ?_|refine bQ 6 ?_|(refine zc ?_ ?_<;>intro hc<;>try simp only[NM]at hc)|refine zr ?_|(first|refine zf (lG a hca ha) ?_|refine zf (lG b hcb hb) ?_)|(first|refine zf (bE a.x b.w (by omega) (by omega)) ?_|refine zf (bE b.x a.w (by omega) (by omega)) ?_|refine zf (bE a.y b.w (by omega) (by omega)) ?_|refine zf (bE b.y a.w (by omega) (by omega)) ?_|refine zf (bE a.z b.w (by omega) (by omega)) ?_|refine zf (bE b.z a.w (by omega) (by omega)) ?_)|(first|refine zf (fZ (a.x*b.w) (b.x*a.w) (by omega) (by omega)) ?_|refine zf (fZ (a.y*b.w) (b.y*a.w) (by omega) (by omega)) ?_|refine zf (fZ (a.z*b.w) (b.z*a.w) (by omega) (by omega)) ?_)|refine⟨by omega,?_⟩|(refine zb ?_ ?_<;>intro hg<;>(try rw[hg])<;>try simp only[NM]at hg)|omega|simp -dsimp (disch:=try exact zo)only[go_sem,k1,k2,k3]|contradiction|rfl)
  ·have k2:=eq_false q2
   rw[if_pos q2]
   have k3:True:=trivial
   repeat'(first|refine zg ?_|refine bQ 6 ?_|(refine zc ?_ ?_<;>intro hc<;>try simp only[NM]at hc)|refine zr ?_|(first|refine zf (lG a hca ha) ?_|refine zf (lG b hcb hb) ?_)|(first|refine zf (bE a.x b.w (by omega) (by omega)) ?_|refine zf (bE b.x a.w (by omega) (by omega)) ?_|refine zf (bE a.y b.w (by omega) (by omega)) ?_|refine zf (bE b.y a.w (by omega) (by omega)) ?_|refine zf (bE a.z b.w (by omega) (by omega)) ?_|refine zf (bE b.z a.w (by omega) (by omega)) ?_)|(first|refine zf (fZ (a.x*b.w) (b.x*a.w) (by omega) (by omega)) ?_|refine zf (fZ (a.y*b.w) (b.y*a.w) (by omega) (by omega)) ?_|refine zf (fZ (a.z*b.w) (b.z*a.w) (by omega) (by omega)) ?_)|refine⟨by omega,?_⟩|(refine zb ?_ ?_<;>intro hg<;>(try rw[hg])<;>try simp only[NM]at hg)|omega|simp -dsimp (disch:=try exact zo)only[go_sem,k1,k2,k3]|contradiction|rfl)
 ·have k1:=eq_false q1
  rw[if_pos q1]
  have k2:True:=trivial
  have k3:True:=trivial
  repeat'(first|refine zg ?_|refine bQ 6 ?_|(refine zc ?_ ?_<;>intro hc<;>try simp only[NM]at hc)|refine zr ?_|(first|refine zf (lG a hca ha) ?_|refine zf (lG b hcb hb) ?_)|(first|refine zf (bE a.x b.w (by omega) (by omega)) ?_|refine zf (bE b.x a.w (by omega) (by omega)) ?_|refine zf (bE a.y b.w (by omega) (by omega)) ?_|refine zf (bE b.y a.w (by omega) (by omega)) ?_|refine zf (bE a.z b.w (by omega) (by omega)) ?_|refine zf (bE b.z a.w (by omega) (by omega)) ?_)|(first|refine zf (fZ (a.x*b.w) (b.x*a.w) (by omega) (by omega)) ?_|refine zf (fZ (a.y*b.w) (b.y*a.w) (by omega) (by omega)) ?_|refine zf (fZ (a.z*b.w) (b.z*a.w) (by omega) (by omega)) ?_)|refine⟨by omega,?_⟩|(refine zb ?_ ?_<;>intro hg<;>(try rw[hg])<;>try simp only[NM]at hg)|omega|simp -dsimp (disch:=try exact zo)only[go_sem,k1,k2,k3]|contradiction|rfl)
end Go.Proofs.Vx
namespace Go.Proofs.Vx
open Go Go.Sx Go.Proofs Tryz
attribute [local irreducible] fnT CallOK CallFr AW aO callV aP aN aM aQ gcaseP hid
theorem b5p:agT prog 26=some true∧fdT prog 26 0=some (0,2,true)∧fdT prog 26 1=some (2,2,true)∧fdT prog 26 2=some (4,2,true)∧fdT prog 26 3=some (6,2,true)∧plT prog 26=some [(0,2),(2,2),(4,2),(6,2)]∧bM prog 103=false∧szT prog 26=some 8∧zeT prog 26=some [.lit (.bool false),.lit (.string ⟨#[]⟩),.lit (.bool false),.lit (.string ⟨#[]⟩),.lit (.bool false),.lit (.string ⟨#[]⟩),.lit (.bool false),.lit (.string ⟨#[]⟩)]:=by and_intros<;>kernel_rfl
attribute [go_sem] b5p
theorem c96 (a b c:Rat) (ka:Qs 1073741824 a) (kb:Qs 1073741824 b) (kc:Qs 1073741824 c):CallOK prog 96 [.agg (eV a b c)] [] (.agg (eP (mkP a b c))) []:=by
 refine zs func96 63 [.cell 2 51] results96 ?_
 simp only[aD,Nat.reduceAdd]
 have na:=ka.num
 have da:=ka.den'
 have nb:=kb.num
 have db:=kb.den'
 have nc:=kc.num
 have dc:=kc.den'
 have z1:(Zm 1).size≤1:=by rw[cI];decide
 have w1:=aR 1 (a.den:Int) z1 da
 have w2:=aR (1*(a.den:Int)) (b.den:Int) w1 db
 have w3:=aR (1*(a.den:Int)*(b.den:Int)) (c.den:Int) w2 dc
 have qa:=Nat.le_trans (l7 (1*(a.den:Int)*(b.den:Int)*(c.den:Int)) (a.den:Int)) (Nat.succ_le_succ w3)
 have ra:=aR a.num ((1*(a.den:Int)*(b.den:Int)*(c.den:Int)) / (a.den:Int)) na qa
 have qb:=Nat.le_trans (l7 (1*(a.den:Int)*(b.den:Int)*(c.den:Int)) (b.den:Int)) (Nat.succ_le_succ w3)
 have rb:=aR b.num ((1*(a.den:Int)*(b.den:Int)*(c.den:Int)) / (b.den:Int)) nb qb
 have qc:=Nat.le_trans (l7 (1*(a.den:Int)*(b.den:Int)*(c.den:Int)) (c.den:Int)) (Nat.succ_le_succ w3)
 have rc:=aR c.num ((1*(a.den:Int)*(b.den:Int)*(c.den:Int)) / (c.den:Int)) nc qc
 have hbs:Bs 17179869183 (a.num*((1*(a.den:Int)*(b.den:Int)*(c.den:Int)) / (a.den:Int))) (b.num*((1*(a.den:Int)*(b.den:Int)*(c.den:Int)) / (b.den:Int))) (c.num*((1*(a.den:Int)*(b.den:Int)*(c.den:Int)) / (c.den:Int))) (1*(a.den:Int)*(b.den:Int)*(c.den:Int)):=⟨by omega,by omega,by omega,by omega⟩
 repeat'(first|refine zg ?_|refine bQ 6 ?_|(refine zc ?_ ?_<;>intro hc<;>try simp only[NM]at hc)|refine zr ?_|(refine zf (c67 1 (by omega)) ?_)|(first|refine zf (c164 a (Qs.mono ka (by omega))) ?_|refine zf (c164 b (Qs.mono kb (by omega))) ?_|refine zf (c164 c (Qs.mono kc (by omega))) ?_)|(first|refine zf (bE (1) ((a.den:Int)) (by omega) (by omega)) ?_|refine zf (bE (1*(a.den:Int)) ((b.den:Int)) (by omega) (by omega)) ?_|refine zf (bE (1*(a.den:Int)*(b.den:Int)) ((c.den:Int)) (by omega) (by omega)) ?_|refine zf (bE (a.num) ((1*(a.den:Int)*(b.den:Int)*(c.den:Int)) / (a.den:Int)) (by omega) (by omega)) ?_|refine zf (bE (b.num) ((1*(a.den:Int)*(b.den:Int)*(c.den:Int)) / (b.den:Int)) (by omega) (by omega)) ?_|refine zf (bE (c.num) ((1*(a.den:Int)*(b.den:Int)*(c.den:Int)) / (c.den:Int)) (by omega) (by omega)) ?_)|(first|refine zf (gI (1*(a.den:Int)*(b.den:Int)*(c.den:Int)) (a.den:Int) (by omega) (by omega) (fW a)) ?_|refine zf (gI (1*(a.den:Int)*(b.den:Int)*(c.den:Int)) (b.den:Int) (by omega) (by omega) (fW b)) ?_|refine zf (gI (1*(a.den:Int)*(b.den:Int)*(c.den:Int)) (c.den:Int) (by omega) (by omega) (fW c)) ?_)|(refine zf (c98z _ _ _ _ hbs) ?_)|refine⟨by omega,?_⟩|(refine zb ?_ ?_<;>intro hg<;>(try rw[hg])<;>try simp only[NM]at hg)|omega|simp -dsimp (disch:=try exact zo)only[go_sem]|contradiction|rfl)
theorem c72 (n1:Bool) (m1:ByteArray) (n2:Bool) (m2:ByteArray) (n3:Bool) (m3:ByteArray) (n4:Bool) (m4:ByteArray):CallOK prog 72 [.agg [.lit (.bool n1),.lit (.string m1),.lit (.bool n2),.lit (.string m2),.lit (.bool n3),.lit (.string m3),.lit (.bool n4),.lit (.string m4)]] [] (.agg [.lit (.bool n1),.lit (.string m1),.lit (.bool n2),.lit (.string m2),.lit (.bool n3),.lit (.string m3),.lit (.bool n4),.lit (.string m4)]) []:=by
 refine zs func72 12 [.cell 2 95] results72 ?_
 simp only[aD,Nat.reduceAdd]
 repeat'(first|refine zg ?_|(refine zc ?_ ?_<;>intro hc<;>try simp only[NM]at hc)|refine zr ?_|refine⟨by omega,?_⟩|(refine zb ?_ ?_<;>intro hg<;>(try rw[hg])<;>try simp only[NM]at hg)|omega|simp -dsimp (disch:=try exact zo)only[go_sem]|contradiction|rfl)
theorem c74 (n1:Bool) (m1:ByteArray) (n2:Bool) (m2:ByteArray) (n3:Bool) (m3:ByteArray) (n4:Bool) (m4:ByteArray):CallOK prog 74 [.agg [.lit (.bool n1),.lit (.string m1),.lit (.bool n2),.lit (.string m2),.lit (.bool n3),.lit (.string m3),.lit (.bool n4),.lit (.string m4)]] [] (.agg [.lit (.bool n1),.lit (.string m1),.lit (.bool n2),.lit (.string m2),.lit (.bool n3),.lit (.string m3),.lit (.bool n4),.lit (.string m4)]) []:=by
 refine zs func74 12 [.cell 2 26] results74 ?_
 simp only[aD,Nat.reduceAdd]
 repeat'(first|refine zg ?_|(refine zc ?_ ?_<;>intro hc<;>try simp only[NM]at hc)|refine zr ?_|refine⟨by omega,?_⟩|(refine zb ?_ ?_<;>intro hg<;>(try rw[hg])<;>try simp only[NM]at hg)|omega|simp -dsimp (disch:=try exact zo)only[go_sem]|contradiction|rfl)
def g3 (x y z:Int):Nat:=Nat.gcd (Nat.gcd x.natAbs y.natAbs) z.natAbs
theorem sK {x y z:Int}:g3 x y z=0↔x=0∧y=0∧z=0:=by
 unfold g3
 rw[Nat.gcd_eq_zero_iff,Nat.gcd_eq_zero_iff]
 omega
theorem a8m (x y z w:Int):g4 x y z w=Nat.gcd (g3 x y z) w.natAbs:=rfl
theorem rV (n:Bool) (m:ByteArray):(iv n m).natAbs=nv m:=by unfold iv;cases n<;>simp
theorem mM (n:Bool) (m:ByteArray) (b:Int) (ha:m.size<68719476736) (hb:(Zm b).size<68719476736) (h:b≠0):CallOK prog 165 [.agg (eI n m),.agg (eZ b)] [] (.tup [.agg (eZ (iv n m / b)),.agg (eZ (iv n m % b)),.lit (.bool true)]) []:=by
 have:=c165 n m (Zn b) (Zm b) ha hb
 rwa [bB,if_neg h]at this
theorem a8v (l:List RI) (k:Nat) (hk:iW l=k) (h:∀ p∈l,p.2.size<68719476736) (hn:l.length<1099511627776):CallOK prog 167 [.sl (ris l)] [] (.agg (eZ (k:Int))) []:=by
 subst hk;exact c167 l h hn
theorem c168 (n1:Bool) (m1:ByteArray) (n2:Bool) (m2:ByteArray) (n3:Bool) (m3:ByteArray) (n4:Bool) (m4:ByteArray) (h1:m1.size<17179869184) (h2:m2.size<17179869184) (h3:m3.size<17179869184) (h4:m4.size<17179869184):CallOK prog 168 [.agg [.lit (.bool n1),.lit (.string m1),.lit (.bool n2),.lit (.string m2),.lit (.bool n3),.lit (.string m3),.lit (.bool n4),.lit (.string m4)]] [] (if iv n1 m1=0∧iv n2 m2=0∧iv n3 m3=0 then .tup [.agg (eH ⟨0,0,0,0⟩),.lit (.bool false)]else .tup [.agg (eH (j4 (iv n1 m1) (iv n2 m2) (iv n3 m3) (iv n4 m4))),.lit (.bool true)]) []:=by
 refine CallOK.flat func168 rfl 33 rfl rfl (by split<;>rfl) [.cell 2 26,.tmp 3] (congrArg Array.toList results168) ?_
 simp only[aD,Nat.reduceAdd]
 have cg3:=a8v [(n1,m1),(n2,m2),(n3,m3)] (g3 (iv n1 m1) (iv n2 m2) (iv n3 m3)) (by simp only[iW,List.foldl_cons,List.foldl_nil,Nat.gcd_zero_left,g3,rV]) (by simp only[List.forall_mem_cons];exact⟨by omega,by omega,by omega,by simp⟩) (by simp)
 have cg4:=a8v [(n1,m1),(n2,m2),(n3,m3),(n4,m4)] (g4 (iv n1 m1) (iv n2 m2) (iv n3 m3) (iv n4 m4)) (by simp only[iW,List.foldl_cons,List.foldl_nil,Nat.gcd_zero_left,g4,rV]) (by simp only[List.forall_mem_cons];exact⟨by omega,by omega,by omega,by omega,by simp⟩) (by simp)
 simp only[ris,List.map_cons,List.map_nil]at cg3 cg4
 have t1:=dL n1 m1
 have t2:=dL n2 m2
 have t3:=dL n3 m3
 generalize hx:iv n1 m1=x at *
 generalize hy:iv n2 m2=y at *
 generalize hz:iv n3 m3=z at *
 generalize hw:iv n4 m4=w at *
 have hle:(Zm (g3 x y z:Int)).size≤17179869184:=by
  by_cases h0:g3 x y z=0
  ·rw[h0];rw[show ((0:Nat):Int)=0 from rfl,eD];exact Nat.zero_le _
  ·have hd:g3 x y z∣x.natAbs:=Nat.dvd_trans (Nat.gcd_dvd_left _ _) (Nat.gcd_dvd_left _ _)
   have hd2:g3 x y z∣y.natAbs:=Nat.dvd_trans (Nat.gcd_dvd_left _ _) (Nat.gcd_dvd_right _ _)
   have hd3:g3 x y z∣z.natAbs:=Nat.gcd_dvd_right _ _
   by_cases hx0:x=0
   ·by_cases hy0:y=0
    ·have hz0:z≠0:=fun h=>h0 (sK.2 ⟨hx0,hy0,h⟩)
     have:(Zm (g3 x y z:Int)).size≤(Zm z).size:=g9 (by rw[Int.natAbs_natCast];exact Nat.le_of_dvd (by omega) hd3)
     omega
    ·have:(Zm (g3 x y z:Int)).size≤(Zm y).size:=g9 (by rw[Int.natAbs_natCast];exact Nat.le_of_dvd (by omega) hd2)
     omega
   ·have:(Zm (g3 x y z:Int)).size≤(Zm x).size:=g9 (by rw[Int.natAbs_natCast];exact Nat.le_of_dvd (by omega) hd)
    omega
 by_cases h0:x=0∧y=0∧z=0
 ·rw[if_pos h0]
  have hs3:(sg (g3 x y z:Int)=0)=True:=eq_true (fT.2 (by rw[sK.2 h0];rfl))
  have ez:eH ⟨0,0,0,0⟩=[.lit (.bool false),.lit (.string ⟨#[]⟩),.lit (.bool false),.lit (.string ⟨#[]⟩),.lit (.bool false),.lit (.string ⟨#[]⟩),.lit (.bool false),.lit (.string ⟨#[]⟩)]:=by simp[eH,Zn,Zm,dG]
  have hg0:True:=trivial
  rw[ez]
  clear h0
  repeat'(first|refine zg ?_|refine bQ 6 ?_|(refine zc ?_ ?_<;>intro hc<;>try simp only[NM]at hc)|refine zr ?_|(refine zf (c72 n1 m1 n2 m2 n3 m3 n4 m4) ?_)|(first|refine dB (.agg (eZ (g3 x y z:Int))) nH (by simp -dsimp (disch:=try exact zo)only[go_sem];exact cg3) (by simp -dsimp (disch:=try exact zo)only[go_sem]) (.agg _ (by simp;exact⟨.lit _,.lit _⟩)) ?_|refine dB (.agg (eZ (g4 x y z w:Int))) nH (by simp -dsimp (disch:=try exact zo)only[go_sem];exact cg4) (by simp -dsimp (disch:=try exact zo)only[go_sem]) (.agg _ (by simp;exact⟨.lit _,.lit _⟩)) ?_)|(refine zf (fK (g3 x y z:Int) (by omega)) ?_)|(first|refine zf (hx▸mM n1 m1 (g4 x y z w:Int) (by omega) (by omega) hg0) ?_|refine zf (hy▸mM n2 m2 (g4 x y z w:Int) (by omega) (by omega) hg0) ?_|refine zf (hz▸mM n3 m3 (g4 x y z w:Int) (by omega) (by omega) hg0) ?_|refine zf (hw▸mM n4 m4 (g4 x y z w:Int) (by omega) (by omega) hg0) ?_)|(refine zf (c74 _ _ _ _ _ _ _ _) ?_)|refine⟨by omega,?_⟩|(refine zb ?_ ?_<;>intro hg<;>(try rw[hg])<;>try simp only[NM]at hg)|omega|simp -dsimp (disch:=try exact zo)only[go_sem,hs3]|contradiction|rfl)
 ·rw[if_neg h0]
  have hs3:(sg (g3 x y z:Int)=0)=False:=eq_false fun h=>h0 (sK.1 (by have:=fT.1 h;omega))
  have hgp:0<g4 x y z w:=by
   rw[a8m]
   exact Nat.gcd_pos_of_pos_left _ (Nat.pos_of_ne_zero fun h=>h0 (sK.1 h))
  have hg0:(g4 x y z w:Int)≠0:=by omega
  have s6:(Zm (g4 x y z w:Int)).size≤17179869184:=by
   refine Nat.le_trans (g9 ?_) hle
   rw[Int.natAbs_natCast,Int.natAbs_natCast,a8m]
   exact Nat.le_of_dvd (Nat.pos_of_ne_zero fun h=>h0 (sK.1 h)) (Nat.gcd_dvd_left _ _)
  unfold j4
  clear h0
  repeat'(first|refine zg ?_|refine bQ 6 ?_|(refine zc ?_ ?_<;>intro hc<;>try simp only[NM]at hc)|refine zr ?_|(refine zf (c72 n1 m1 n2 m2 n3 m3 n4 m4) ?_)|(first|refine dB (.agg (eZ (g3 x y z:Int))) nH (by simp -dsimp (disch:=try exact zo)only[go_sem];exact cg3) (by simp -dsimp (disch:=try exact zo)only[go_sem]) (.agg _ (by simp;exact⟨.lit _,.lit _⟩)) ?_|refine dB (.agg (eZ (g4 x y z w:Int))) nH (by simp -dsimp (disch:=try exact zo)only[go_sem];exact cg4) (by simp -dsimp (disch:=try exact zo)only[go_sem]) (.agg _ (by simp;exact⟨.lit _,.lit _⟩)) ?_)|(refine zf (fK (g3 x y z:Int) (by omega)) ?_)|(first|refine zf (hx▸mM n1 m1 (g4 x y z w:Int) (by omega) (by omega) hg0) ?_|refine zf (hy▸mM n2 m2 (g4 x y z w:Int) (by omega) (by omega) hg0) ?_|refine zf (hz▸mM n3 m3 (g4 x y z w:Int) (by omega) (by omega) hg0) ?_|refine zf (hw▸mM n4 m4 (g4 x y z w:Int) (by omega) (by omega) hg0) ?_)|(refine zf (c74 _ _ _ _ _ _ _ _) ?_)|refine⟨by omega,?_⟩|(refine zb ?_ ?_<;>intro hg<;>(try rw[hg])<;>try simp only[NM]at hg)|omega|simp -dsimp (disch:=try exact zo)only[go_sem,hs3]|contradiction|rfl)
end Go.Proofs.Vx
namespace Go.Sx
set_option linter.unusedVariables false
theorem wH (a b:Int):decide (Zn a=Zn b∧Zm a=Zm b)=decide (a=b):=by
 by_cases h:a=b
 ·subst h;simp
 ·have:¬ (Zn a=Zn b∧Zm a=Zm b):=fun h'=>h (pU h'.1 h'.2)
  simp[h,this]
theorem eq4 (a b c d a' b' c' d' : Int) : iY [.lit (.bool (Zn a)), .lit (.string (Zm a)), .lit (.bool (Zn b)), .lit (.string (Zm b)), .lit (.bool (Zn c)), .lit (.string (Zm c)), .lit (.bool (Zn d)), .lit (.string (Zm d))]
  [.lit (.bool (Zn a')),.lit (.string (Zm a')),.lit (.bool (Zn b')),.lit (.string (Zm b')),.lit (.bool (Zn c')),.lit (.string (Zm c')),.lit (.bool (Zn d')),.lit (.string (Zm d'))]=decide (a=a'∧b=b'∧c=c'∧d=d'):=by
 have h1:=wH a a'
 have h2:=wH b b'
 have h3:=wH c c'
 have h4:=wH d d'
 simp only[iY,ceq,Bool.and_true]
 simp only[decide_eq_decide]at h1 h2 h3 h4
 rw[Bool.eq_iff_iff]
 simp only[Bool.and_eq_true,beq_iff_eq,decide_eq_true_eq]
 constructor
 ·rintro⟨q1,q2,q3,q4,q5,q6,q7,q8⟩
  exact⟨h1.1 ⟨q1,q2⟩,h2.1 ⟨q3,q4⟩,h3.1 ⟨q5,q6⟩,h4.1 ⟨q7,q8⟩⟩
 ·rintro⟨rfl,rfl,rfl,rfl⟩
  simp
attribute [go_sem ↓] eq4
def abv (p:Pl) (x:Pt):Int:=p.a*x.x+p.b*x.y+p.c*x.z - p.d*x.w
def aB (p:Pl) (x:Pt):Int:=sg (abv p x)
def bH (p:Pl):Pl:=⟨-p.a,-p.b,-p.c,-p.d⟩
theorem yZ (p:Pl) (x:Pt):abv (bH p) x=- abv p x:=by unfold abv bH;simp only[Int.neg_mul];omega
def bW (p:Pl) (a b:Pt):Pt:=nrm (a.x*abv p b - b.x*abv p a) (a.y*abv p b - b.y*abv p a) (a.z*abv p b - b.z*abv p a) (a.w*abv p b - b.w*abv p a)
structure BPt (k:Nat) (p:Pt):Prop where
 out:Bs k p.x p.y p.z p.w
structure BPl (k:Nat) (p:Pl):Prop where
 out:Bs k p.a p.b p.c p.d
theorem BPt.mono {k l:Nat} {p:Pt} (h:BPt k p) (hl:k≤l):BPt l p:=⟨⟨Nat.le_trans h.out.a hl,Nat.le_trans h.out.b hl,Nat.le_trans h.out.c hl,Nat.le_trans h.out.d hl⟩⟩
theorem BPl.mono {k l:Nat} {p:Pl} (h:BPl k p) (hl:k≤l):BPl l p:=⟨⟨Nat.le_trans h.out.a hl,Nat.le_trans h.out.b hl,Nat.le_trans h.out.c hl,Nat.le_trans h.out.d hl⟩⟩
theorem vL {p:Pl} {x:Pt} {k l:Nat} (hp:BPl k p) (hx:BPt l x):(Zm (abv p x)).size≤k+l+3:=by
 have h1:=aR p.a x.x hp.out.a hx.out.a
 have h2:=aR p.b x.y hp.out.b hx.out.b
 have h3:=aR p.c x.z hp.out.c hx.out.c
 have h4:=aR p.d x.w hp.out.d hx.out.d
 exact zs_sub _ _ (gH _ _ (gH _ _ h1 h2) (by omega)) (by omega)
theorem BPl.neg {k:Nat} {p:Pl} (h:BPl k p):BPl k (bH p):=⟨⟨by simpa [bH,iN]using h.out.a,by simpa [bH,iN]using h.out.b,by simpa [bH,iN]using h.out.c,by simpa [bH,iN]using h.out.d⟩⟩
theorem c1o {p:Pl} {a b:Pt} {k l:Nat} (hp:BPl k p) (ha:BPt l a) (hb:BPt l b):BPt (k+2*l+4) (bW p a b):=by
 have h1:=vL hp ha
 have h2:=vL hp hb
 have key:∀ x y:Int,(Zm x).size≤l→(Zm y).size≤l→(Zm (x*abv p b - y*abv p a)).size≤k+2*l+4:=fun x y hx hy =>
  Nat.le_trans (zs_sub _ _ (aR x _ hx h2) (aR y _ hy h1)) (by omega)
 exact⟨a7b ⟨key _ _ ha.out.a hb.out.a,key _ _ ha.out.b hb.out.b,key _ _ ha.out.c hb.out.c,key _ _ ha.out.d hb.out.d⟩ (by omega)⟩
theorem a3l (p:Pl) (a b:Pt):CanP (bW p a b):=xH _ _ _ _
end Go.Sx
