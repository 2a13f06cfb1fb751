import Derived.Test.YtjlfgmhmalbiiaaGreatDoorW16
set_option linter.all false
set_option maxHeartbeats 8000000
open Int renaming mul_ediv_cancel_left → Ac, natAbs_mul → Ah, natAbs_natCast → Ak
open Nat renaming reduceAdd → Ab, gcd_dvd_left → Ad, dvd_trans → Ae, gcd → Af, le_trans → Ag, gcd_dvd_right → Ai, gcd_mul_left → Aj, le_of_dvd → Al
open Rat renaming divInt → Aa
namespace Go.Proofs.Vx
open Go Go.Sx Go.Proofs Tryz
attribute [local irreducible] fnT CallOK CallFr AW aI callV aL aJ aH aK gcaseP hid
theorem b9c:agT prog 41=some true∧fdT prog 41 0=some (0,1,false)∧fdT prog 41 1=some (1,1,false)∧fdT prog 41 2=some (2,1,false)∧plT prog 41=some [(0,1),(1,1),(2,1)]∧szT prog 41=some 3∧zeT prog 41=some [.lit (.bool false),.lit (.string ⟨#[]⟩),.lit (.string ⟨#[]⟩)]∧zeT prog 9=some [.lit (.string ⟨#[]⟩)]:=by and_intros<;>kernel_rfl
attribute [go_sem] b9c
theorem a8z:fnT prog 81=true:=by kernel_rfl
theorem wV:fnT prog 189=true:=by kernel_rfl
theorem mU:fnT prog 190=true:=by kernel_rfl
theorem b1c (z:Int):Rat.divInt z 1=(z:Rat):=by rw[show (1:Int)=((1:Nat):Int)from rfl,Rat.divInt_ofNat];exact Rat.mkRat_self (z:Rat)
theorem d0v (k:Nat):Zn (k:Int)=false:=kZ (by omega)
theorem oP (k:Nat):eZ (k:Int)=[.lit (.bool false),.lit (.string (nb k))]:=by simp[eZ,d0v,iX]
theorem nQ (m g:ByteArray) (hm:m.size<68719476736) (hg:g.size<68719476736):CallOK prog 190 [.lit (.string m),.fp [.lit (.string g)]] [] (.lit (.string (nb (nv m / nv g)))) []:=by
 refine zs func190 15 [.tmp 3] results190 ?_
 simp only[aD,Ab]
 try have zh0:=(c191 m g (by omega) (by omega))
 exact z1
theorem c144 (n d:Int) (hn:(Zm n).size<68719476736) (hd:(Zm d).size<68719476736):CallOK prog 144 [.agg (eZ n),.agg (eZ d)] [] (if d=0 then .tup [.agg (eQ 0),.lit (.bool false)]else .tup [.agg (eQ (Aa n d)),.lit (.bool true)]) []:=by
 refine CallOK.flat func144 rfl 42 rfl rfl (by split<;>rfl) [.cell 4 41,.tmp 5] (congrArg Array.toList results144) ?_
 simp only[aD,Ab]
 by_cases h0:d=0
 ·rw[if_pos h0,a0p]
  have hs1:(sg d=0)=True:=eq_true (fZ.2 h0)
  have hs2:True:=trivial
  have hd1:True:=trivial
  have e3:True:=trivial
  repeat'(first|refine zk ?_|(refine zu ?_ ?_<;>intro hc)|(first|refine zf (e9 d (by omega)) ?_|refine zf (e9 n (by omega)) ?_)|(refine callV.flat (.lit (.string (nb G))) wV (hG▸uU (Zm n) (Zm d) (by omega) (by omega)) rfl rfl ?_)|(first|refine bU (.lit (.string (Zm (Aa n d).num))) mU (by simp -dsimp (disch:=try exact zo)only[go_sem];exact e1▸nQ (Zm n) (nb G) (by omega) (by omega)) (by simp -dsimp (disch:=try exact zo)only[go_sem]) (.lit _) ?_|refine bU (.lit (.string (nb (Aa n d).den))) mU (by simp -dsimp (disch:=try exact zo)only[go_sem];exact e2▸nQ (Zm d) (nb G) (by omega) (by omega)) (by simp -dsimp (disch:=try exact zo)only[go_sem]) (.lit _) ?_)|(refine zv ?_ ?_<;>intro hg)|omega|simp -dsimp (disch:=try exact zo)only[go_sem,hs1,hs2,hd1,e3]|contradiction|rfl)
 ·rw[if_neg h0]
  have hs1:(sg d=0)=False:=eq_false fun h=>h0 (fZ.1 h)
  by_cases hn0:n=0
  ·have e0:Aa n d=0:=by rw[hn0,Rat.zero_divInt]
   rw[e0,a0p]
   have hs2:(sg n=0)=True:=eq_true (fZ.2 hn0)
   have hd1:True:=trivial
   have e3:True:=trivial
   repeat'(first|refine zk ?_|(refine zu ?_ ?_<;>intro hc)|(first|refine zf (e9 d (by omega)) ?_|refine zf (e9 n (by omega)) ?_)|(refine callV.flat (.lit (.string (nb G))) wV (hG▸uU (Zm n) (Zm d) (by omega) (by omega)) rfl rfl ?_)|(first|refine bU (.lit (.string (Zm (Aa n d).num))) mU (by simp -dsimp (disch:=try exact zo)only[go_sem];exact e1▸nQ (Zm n) (nb G) (by omega) (by omega)) (by simp -dsimp (disch:=try exact zo)only[go_sem]) (.lit _) ?_|refine bU (.lit (.string (nb (Aa n d).den))) mU (by simp -dsimp (disch:=try exact zo)only[go_sem];exact e2▸nQ (Zm d) (nb G) (by omega) (by omega)) (by simp -dsimp (disch:=try exact zo)only[go_sem]) (.lit _) ?_)|(refine zv ?_ ?_<;>intro hg)|omega|simp -dsimp (disch:=try exact zo)only[go_sem,hs1,hs2,hd1,e3]|contradiction|rfl)
  ·have hs2:(sg n=0)=False:=eq_false fun h=>hn0 (fZ.1 h)
   generalize hG:Af (nv (Zm n)) (nv (Zm d))=G
   have hGp:(nb G).size≤(Zm n).size:=by
    rw[b9]
    rw[aR,aR]at hG
    have:=sD n
    have h2:G≤n.natAbs:=by rw[← hG];exact Al (by omega) (Ad _ _)
    omega
   have e1:nb (nv (Zm n) / nv (nb G))=Zm (Aa n d).num:=by
    rw[aU,← hG,aR,aR,xK h0];rfl
   have e2:nb (nv (Zm d) / nv (nb G))=nb (Aa n d).den:=by
    rw[aU,← hG,aR,aR,a1k h0]
   have e3:(!(Zn n == Zn d))=Zn (Aa n d).num:=by have:=a9x hn0 h0;rwa [← Bool.beq_eq_decide_eq]at this
   by_cases h1:(Aa n d).den=1
   ·have hd1:(nb (Aa n d).den=⟨#[1]⟩)=True:=eq_true ((a4n _).2 h1)
    have hq:eQ (Aa n d)=[.lit (.bool (Zn (Aa n d).num)),.lit (.string (Zm (Aa n d).num)),.lit (.string (⟨#[]⟩))]:=by show [_,_,_]=_;rw[show Qd (Aa n d)=⟨#[]⟩from if_pos h1]
    rw[hq]
    repeat'(first|refine zk ?_|(refine zu ?_ ?_<;>intro hc)|(first|refine zf (e9 d (by omega)) ?_|refine zf (e9 n (by omega)) ?_)|(refine callV.flat (.lit (.string (nb G))) wV (hG▸uU (Zm n) (Zm d) (by omega) (by omega)) rfl rfl ?_)|(first|refine bU (.lit (.string (Zm (Aa n d).num))) mU (by simp -dsimp (disch:=try exact zo)only[go_sem];exact e1▸nQ (Zm n) (nb G) (by omega) (by omega)) (by simp -dsimp (disch:=try exact zo)only[go_sem]) (.lit _) ?_|refine bU (.lit (.string (nb (Aa n d).den))) mU (by simp -dsimp (disch:=try exact zo)only[go_sem];exact e2▸nQ (Zm d) (nb G) (by omega) (by omega)) (by simp -dsimp (disch:=try exact zo)only[go_sem]) (.lit _) ?_)|(refine zv ?_ ?_<;>intro hg)|omega|simp -dsimp (disch:=try exact zo)only[go_sem,hs1,hs2,hd1,e3]|contradiction|rfl)
   ·have hd1:(nb (Aa n d).den=⟨#[1]⟩)=False:=eq_false fun h=>h1 ((a4n _).1 h)
    have hq:eQ (Aa n d)=[.lit (.bool (Zn (Aa n d).num)),.lit (.string (Zm (Aa n d).num)),.lit (.string (nb (Aa n d).den))]:=by show [_,_,_]=_;rw[show Qd (Aa n d)=nb (Aa n d).den from if_neg h1]
    rw[hq]
    repeat'(first|refine zk ?_|(refine zu ?_ ?_<;>intro hc)|(first|refine zf (e9 d (by omega)) ?_|refine zf (e9 n (by omega)) ?_)|(refine callV.flat (.lit (.string (nb G))) wV (hG▸uU (Zm n) (Zm d) (by omega) (by omega)) rfl rfl ?_)|(first|refine bU (.lit (.string (Zm (Aa n d).num))) mU (by simp -dsimp (disch:=try exact zo)only[go_sem];exact e1▸nQ (Zm n) (nb G) (by omega) (by omega)) (by simp -dsimp (disch:=try exact zo)only[go_sem]) (.lit _) ?_|refine bU (.lit (.string (nb (Aa n d).den))) mU (by simp -dsimp (disch:=try exact zo)only[go_sem];exact e2▸nQ (Zm d) (nb G) (by omega) (by omega)) (by simp -dsimp (disch:=try exact zo)only[go_sem]) (.lit _) ?_)|(refine zv ?_ ?_<;>intro hg)|omega|simp -dsimp (disch:=try exact zo)only[go_sem,hs1,hs2,hd1,e3]|contradiction|rfl)
theorem x5 (n d:Int) (hn:(Zm n).size<68719476736) (hd:(Zm d).size<68719476736) (h:d≠0):CallOK prog 144 [.agg (eZ n),.agg (eZ d)] [] (.tup [.agg (eQ (Aa n d)),.lit (.bool true)]) []:=by
 have:=c144 n d hn hd
 rwa [if_neg h]at this
theorem c75 (q:Rat) (h:Qs 68719476735 q):CallOK prog 75 [.agg (eQ q)] [] (.tup [.agg (eZ q.num),.agg (eZ (q.den:Int))]) []:=by
 refine zs func75 20 [.cell 2 24,.cell 3 24] results75 ?_
 simp only[aD,Ab]
 have h1:=h.num
 have h2:=h.den
 rw[oP]
 have e142:iv (Zn q.num) (Zm q.num)=q.num:=bA _
 by_cases hd:q.den=1
 ·have hq:Qd q=⟨#[]⟩:=if_pos hd
  have e:nb (nv (Qd q))=⟨#[]⟩:=by rw[hq,← dJ,aU]
  have e67:eZ 1=[.lit (.bool false),.lit (.string (nb q.den))]:=by rw[hd];simp[eZ,Zn,Zm]
  have eT:True:=trivial
  have qs:(Qd q).size=0:=by rw[hq];rfl
  repeat'(first|refine zk ?_|(refine zu ?_ ?_<;>intro hc)|(refine zf (e▸fB (Qd q) (by omega)) ?_)|(refine zf (e67▸c67 1 (by omega)) ?_)|(refine callV.flat (.agg (eZ q.num)) bK (b2b q.num (by omega)) rfl rfl ?_)|(refine zv ?_ ?_<;>intro hg)|omega|simp -dsimp (disch:=try exact zo)only[go_sem,eT]|contradiction|rfl)
 ·have hq:Qd q=nb q.den:=if_neg hd
  have e:nb (nv (Qd q))=nb q.den:=by rw[hq,aU]
  have eT:(nb q.den=⟨#[]⟩)=False:=eq_false fun h=>q.den_nz ((fW _).1 h)
  have qs:(Qd q).size≤68719476735:=by rw[hq];exact h2
  have e67:True:=trivial
  repeat'(first|refine zk ?_|(refine zu ?_ ?_<;>intro hc)|(refine zf (e▸fB (Qd q) (by omega)) ?_)|(refine zf (e67▸c67 1 (by omega)) ?_)|(refine callV.flat (.agg (eZ q.num)) bK (b2b q.num (by omega)) rfl rfl ?_)|(refine zv ?_ ?_<;>intro hg)|omega|simp -dsimp (disch:=try exact zo)only[go_sem,eT]|contradiction|rfl)
theorem c81 (n d:Int) (hn:(Zm n).size<68719476736) (hd:(Zm d).size<68719476736) (h:d≠0):CallOK prog 81 [.agg (eZ n),.agg (eZ d)] [] (.agg (eQ (Aa n d))) []:=by
 refine zs func81 14 [.cell 4 41] results81 ?_
 simp only[aD,Ab]
 try have zh0:=(x5 (n) (d) (by omega) (by omega) h)
 exact z1
theorem gC (q:Rat):(q.den:Int)≠0:=by have:=q.den_nz;omega
theorem a8n (a b:Rat):(a.den:Int)*(b.den:Int)≠0:=Int.mul_ne_zero (gC a) (gC b)
theorem _root_.Go.Sx.Qs.den' {k:Nat} {q:Rat} (h:Qs k q):(Zm (q.den:Int)).size≤k:=by rw[iX];exact h.den
theorem c215 (a:Rat) (hsa:Qs 68719476735 a):CallOK prog 215 [.agg (eQ a)] [] (.agg (eQ a)) []:=by
 refine zs func215 8 [.cell 2 41] results215 ?_
 simp only[aD,Ab]
 have s1:=hsa.num
 have s2:=hsa.den'
 repeat'(first|refine zk ?_|(refine zu ?_ ?_<;>intro hc)|(first|refine zf (c75 a (by first|exact hsa|exact Qs.mono hsa (by omega))) ?_)|(refine callV.flat (.agg (eQ a)) a8z (by have:=c81 a.num (a.den:Int) (by omega) (by omega) (gC a);rw[a9r]at this;exact this) rfl rfl ?_)|(refine zv ?_ ?_<;>intro hg)|omega|simp -dsimp (disch:=try exact zo)only[go_sem]|contradiction|rfl)
theorem c164 (a:Rat) (hsa:Qs 68719476735 a):CallOK prog 164 [.agg (eQ a)] [] (.tup [.agg (eZ a.num),.agg (eZ (a.den:Int))]) []:=by
 refine zs func164 9 [.cell 2 24,.cell 3 24] results164 ?_
 simp only[aD,Ab]
 try have zh0:=(c215 a hsa)
 try have zh1:=(c75 a (by first|exact hsa|exact Qs.mono hsa (by omega)))
 exact z1
theorem c68 (z:Int) (h:-9223372036854775808≤z∧z<9223372036854775808):CallOK prog 68 [.lit (.int .i64 z)] [] (.agg (eQ (z:Rat))) []:=by
 refine zs func68 7 [.cell 2 41] results68 ?_
 simp only[aD,Ab]
 have s1:(Zm z).size≤8:=by rw[cO];omega
 have s2:(Zm 1).size≤8:=by rw[cO];decide
 repeat'(first|refine zk ?_|(refine zu ?_ ?_<;>intro hc)|(first|refine zf (c67 z (by omega)) ?_|refine zf (c67 1 (by omega)) ?_)|(refine callV.flat (.agg (eQ ((z:Rat)))) a8z (b1c z▸c81 (z) (1) (by omega) (by omega) (by omega)) rfl rfl ?_)|(refine zv ?_ ?_<;>intro hg)|omega|simp -dsimp (disch:=try exact zo)only[go_sem]|contradiction|rfl)
end Go.Proofs.Vx
namespace Go.Sx
set_option linter.unusedVariables false
structure Pt where
 x:Int
 y:Int
 z:Int
 w:Int
deriving DecidableEq
structure Pl where
 a:Int
 b:Int
 c:Int
 d:Int
deriving DecidableEq
abbrev e4 (a b c d:Int):List AV:=[.lit (.bool (Zn a)),.lit (.string (Zm a)),.lit (.bool (Zn b)),.lit (.string (Zm b)),.lit (.bool (Zn c)),.lit (.string (Zm c)),.lit (.bool (Zn d)),.lit (.string (Zm d))]
abbrev eP (p:Pt):List AV:=e4 p.x p.y p.z p.w
abbrev eH (p:Pl):List AV:=e4 p.a p.b p.c p.d
abbrev eV (a b c:Rat):List AV:=[.lit (.bool (Zn a.num)),.lit (.string (Zm a.num)),.lit (.string (Qd a)),.lit (.bool (Zn b.num)),.lit (.string (Zm b.num)),.lit (.string (Qd b)),.lit (.bool (Zn c.num)),.lit (.string (Zm c.num)),.lit (.string (Qd c))]
def g4 (x y z w:Int):Nat:=Af (Af (Af x.natAbs y.natAbs) z.natAbs) w.natAbs
def nz (w:Int):Int:=if w=0 then 1 else w
def turn (w q:Int):Int:=if w<0 then -q else q
def nrm (x y z w:Int):Pt :=
 ⟨turn (nz w) (x / (g4 x y z (nz w):Int)),turn (nz w) (y / (g4 x y z (nz w):Int)),turn (nz w) (z / (g4 x y z (nz w):Int)),turn (nz w) (nz w / (g4 x y z (nz w):Int))⟩
theorem rC (w:Int):nz w≠0:=by unfold nz;split<;>omega
theorem uD {x y z w:Int} (h:w≠0):0<g4 x y z w:=by
 unfold g4
 exact Nat.gcd_pos_of_pos_right _ (by omega)
theorem j4 (x y z w:Int):(g4 x y z w:Int)∣x∧(g4 x y z w:Int)∣y∧(g4 x y z w:Int)∣z∧(g4 x y z w:Int)∣w:=by
 unfold g4
 have h1:=Ad (Af (Af x.natAbs y.natAbs) z.natAbs) w.natAbs
 have h2:=Ai (Af (Af x.natAbs y.natAbs) z.natAbs) w.natAbs
 have h3:=Ad (Af x.natAbs y.natAbs) z.natAbs
 have h4:=Ai (Af x.natAbs y.natAbs) z.natAbs
 have h5:=Ad x.natAbs y.natAbs
 have h6:=Ai x.natAbs y.natAbs
 refine⟨?_,?_,?_,?_⟩<;>rw[Int.ofNat_dvd_left]
 ·exact Ae h1 (Ae h3 h5)
 ·exact Ae h1 (Ae h3 h6)
 ·exact Ae h1 h4
 ·exact h2
theorem c3h (w q:Int):(Zm (turn w q)).size=(Zm q).size:=by unfold turn;split<;>simp[jK]
theorem vP (x:Int) (g:Nat):(Zm (x / (g:Int))).size≤(Zm x).size+1:=mT x g
theorem a1t {w:Int} {k:Nat} (h:(Zm w).size≤k) (hk:1≤k):(Zm (nz w)).size≤k:=by
 unfold nz
 split
 ·rw[cO]
  exact Nat.lt_of_lt_of_le (by decide) (Nat.pow_le_pow_right (by decide) hk)
 ·exact h
structure Bs (k:Nat) (a b c d:Int):Prop where
 a:(Zm a).size≤k
 b:(Zm b).size≤k
 c:(Zm c).size≤k
 d:(Zm d).size≤k
theorem mR {x:Int} {g:Nat} (h:(g:Int)∣x) (hg:0<g):(Zm (x / (g:Int))).size≤(Zm x).size:=by
 apply iG
 rw[Int.natAbs_ediv_of_dvd h,Ak]
 exact Nat.div_le_self _ _
theorem a9u {x y z w:Int} {k:Nat} (h:Bs k x y z w) (hk:1≤k):Bs k (nrm x y z w).x (nrm x y z w).y (nrm x y z w).z (nrm x y z w).w:=by
 have hp:=uD (x:=x) (y:=y) (z:=z) (rC w)
 obtain⟨d1,d2,d3,d4⟩:=j4 x y z (nz w)
 refine⟨?_,?_,?_,?_⟩<;>simp only[nrm,c3h]
 ·exact Ag (mR d1 hp) h.a
 ·exact Ag (mR d2 hp) h.b
 ·exact Ag (mR d3 hp) h.c
 ·exact Ag (mR d4 hp) (a1t h.d hk)
def i5 (a b c d:Int):Pl:=⟨a / (g4 a b c d:Int),b / (g4 a b c d:Int),c / (g4 a b c d:Int),d / (g4 a b c d:Int)⟩
structure CanP (p:Pt):Prop where
 w:0<p.w
 g:g4 p.x p.y p.z p.w=1
theorem a7q {p:Pt} (h:CanP p):nrm p.x p.y p.z p.w=p:=by
 have hw:=h.w
 have hz:nz p.w=p.w:=if_neg (by omega)
 have ht:∀ q,turn p.w q=q:=fun q=>if_neg (by omega)
 unfold nrm
 rw[hz,h.g]
 simp only[ht]
 cases p
 simp
theorem w7 (k x y z w:Int):g4 (k*x) (k*y) (k*z) (k*w)=k.natAbs*g4 x y z w:=by
 unfold g4
 rw[Ah,Ah,Ah,Ah,Aj,Aj,Aj]
theorem c6b (w x y z v:Int):g4 (turn w x) (turn w y) (turn w z) (turn w v)=g4 x y z v:=by
 unfold turn
 split
 ·unfold g4;simp
 ·rfl
theorem vU (x y z w:Int):CanP (nrm x y z w):=by
 have hp:=uD (x:=x) (y:=y) (z:=z) (rC w)
 obtain⟨d1,d2,d3,d4⟩:=j4 x y z (nz w)
 obtain⟨x',hx⟩:=d1
 obtain⟨y',hy⟩:=d2
 obtain⟨z',hz⟩:=d3
 obtain⟨w',hw⟩:=d4
 have hnz:=rC w
 have hg:=w7 (g4 x y z (nz w):Int) x' y' z' w'
 rw[← hx,← hy,← hz,← hw,Ak]at hg
 have h1:g4 x' y' z' w'=1:=by
  have:g4 x y z (nz w)*g4 x' y' z' w'=g4 x y z (nz w)*1:=by omega
  exact Nat.eq_of_mul_eq_mul_left hp this
 have hg0:(g4 x y z (nz w):Int)≠0:=by omega
 have ex:x / (g4 x y z (nz w):Int)=x':=by (conv=>lhs;lhs;rw[hx]);exact Ac _ hg0
 have ey:y / (g4 x y z (nz w):Int)=y':=by (conv=>lhs;lhs;rw[hy]);exact Ac _ hg0
 have ez:z / (g4 x y z (nz w):Int)=z':=by (conv=>lhs;lhs;rw[hz]);exact Ac _ hg0
 have ew:nz w / (g4 x y z (nz w):Int)=w':=by (conv=>lhs;lhs;rw[hw]);exact Ac _ hg0
 refine⟨?_,?_⟩
 ·simp only[nrm,ew]
  have hGp:(0:Int)<(g4 x y z (nz w):Int):=by omega
  generalize (g4 x y z (nz w):Int)=G at *
  unfold turn
  split
  ·rename_i hlt
   rw[hw]at hlt
   have:¬ 0≤w':=fun h=>by have:=Int.mul_nonneg (Int.le_of_lt hGp) h;omega
   omega
  ·rename_i hlt
   rw[hw]at hlt hnz
   have:¬ w'<0:=fun h=>by have:=Int.mul_neg_of_pos_of_neg hGp h;omega
   have:w'≠0:=fun h=>by rw[h]at hnz;simp at hnz
   omega
 ·simp only[nrm,ex,ey,ez,ew]
  rw[c6b,h1]
def rU (a b:Pt):Int :=
 if sg (a.x*b.w - b.x*a.w)≠0 then sg (a.x*b.w - b.x*a.w)
 else if sg (a.y*b.w - b.y*a.w)≠0 then sg (a.y*b.w - b.y*a.w)
 else sg (a.z*b.w - b.z*a.w)
def mkP (a b c:Rat):Pt :=
 nrm (a.num*(1*(a.den:Int)*(b.den:Int)*(c.den:Int) / (a.den:Int))) (b.num*(1*(a.den:Int)*(b.den:Int)*(c.den:Int) / (b.den:Int))) (c.num*(1*(a.den:Int)*(b.den:Int)*(c.den:Int) / (c.den:Int))) (1*(a.den:Int)*(b.den:Int)*(c.den:Int))
end Go.Sx
namespace Go.Proofs.Vx
open Go Go.Sx Go.Proofs Tryz
attribute [local irreducible] fnT CallOK CallFr AW aI callV aL aJ aH aK gcaseP hid
theorem b9b:agT prog 51=some true∧agT prog 95=some true∧arT prog 95=some (4,2,true)∧fdT prog 51 0=some (0,2,true)∧fdT prog 51 1=some (2,2,true)∧fdT prog 51 2=some (4,2,true)∧fdT prog 51 3=some (6,2,true)∧plT prog 51=some [(0,2),(2,2),(4,2),(6,2)]∧plT prog 95=some [(0,2),(2,2),(4,2),(6,2)]∧slT prog 95=none∧bH prog 95=false∧szT prog 51=some 8∧szT prog 95=some 8∧zeT prog 51=some [.lit (.bool false),.lit (.string ⟨#[]⟩),.lit (.bool false),.lit (.string ⟨#[]⟩),.lit (.bool false),.lit (.string ⟨#[]⟩),.lit (.bool false),.lit (.string ⟨#[]⟩)]∧zeT prog 95=some [.lit (.bool false),.lit (.string ⟨#[]⟩),.lit (.bool false),.lit (.string ⟨#[]⟩),.lit (.bool false),.lit (.string ⟨#[]⟩),.lit (.bool false),.lit (.string ⟨#[]⟩)]:=by and_intros<;>kernel_rfl
attribute [go_sem] b9b
theorem a0x:fnT prog 67=true:=by kernel_rfl
theorem oB:fnT prog 167=true:=by kernel_rfl
theorem c6d (x y z w:Int):i8 [(Zn x,Zm x),(Zn y,Zm y),(Zn z,Zm z),(Zn w,Zm w)]=g4 x y z w:=by
 simp only[i8,List.foldl_cons,List.foldl_nil,aR,Nat.gcd_zero_left,g4]
theorem c167z (x y z w : Int) (hx : (Zm x).size < 68719476736) (hy : (Zm y).size < 68719476736) (hz : (Zm z).size < 68719476736) (hw : (Zm w).size < 68719476736) :
  CallOK prog 167 [.sl [[.lit (.bool (Zn x)),.lit (.string (Zm x))],[.lit (.bool (Zn y)),.lit (.string (Zm y))],[.lit (.bool (Zn z)),.lit (.string (Zm z))],[.lit (.bool (Zn w)),.lit (.string (Zm w))]]] [] (.agg (eZ (g4 x y z w:Int))) []:=by
 have:=c167 [(Zn x,Zm x),(Zn y,Zm y),(Zn z,Zm z),(Zn w,Zm w)] (by simp only[List.forall_mem_cons];exact⟨hx,hy,hz,hw,by simp⟩) (by simp)
 rw[c6d]at this
 exact this
theorem c98 (n1:Bool) (m1:ByteArray) (n2:Bool) (m2:ByteArray) (n3:Bool) (m3:ByteArray) (n4:Bool) (m4:ByteArray) (h1:m1.size<17179869184) (h2:m2.size<17179869184) (h3:m3.size<17179869184) (h4:m4.size<17179869184):CallOK prog 98 [.agg [.lit (.bool n1),.lit (.string m1),.lit (.bool n2),.lit (.string m2),.lit (.bool n3),.lit (.string m3),.lit (.bool n4),.lit (.string m4)]] [] (.agg (eP (nrm (iv n1 m1) (iv n2 m2) (iv n3 m3) (iv n4 m4)))) []:=by
 refine zs func98 61 [.cell 2 51] results98 ?_
 simp only[aD,Ab]
 have s1:=eA n1 m1
 have s2:=eA n2 m2
 have s3:=eA n3 m3
 have s4:=eA n4 m4
 generalize hx:iv n1 m1=x at *
 generalize hy:iv n2 m2=y at *
 generalize hz:iv n3 m3=z at *
 generalize hw:iv n4 m4=w at *
 have s5:(Zm (nz w)).size≤17179869184:=a1t (by omega) (by omega)
 have cg:=c167z x y z (nz w) (by omega) (by omega) (by omega) (by omega)
 have hgp:=uD (x:=x) (y:=y) (z:=z) (rC w)
 have hg0:(g4 x y z (nz w):Int)≠0:=by omega
 have s6:(Zm (g4 x y z (nz w):Int)).size≤17179869184:=by
  obtain⟨_,_,_,d4⟩:=j4 x y z (nz w)
  refine Ag (iG ?_) s5
  exact Al (by have:=rC w;omega) (Int.natAbs_dvd_natAbs.2 d4)
 have s7:=mT x (g4 x y z (nz w):Int)
 have s8:=mT y (g4 x y z (nz w):Int)
 have s9:=mT z (g4 x y z (nz w):Int)
 have s10:=mT (nz w) (g4 x y z (nz w):Int)
 unfold nrm turn
 by_cases hw0:w=0
 ·have e67:eZ 1=eZ (nz w):=by unfold nz;rw[if_pos hw0]
  have hs4:(sg w=0)=True:=eq_true (fZ.2 hw0)
  have hn1:¬ nz w<0:=by unfold nz;rw[if_pos hw0];omega
  have hsw:(sg (nz w)<0)=False:=eq_false fun h=>hn1 (lM.1 h)
  simp only[if_neg hn1]
  clear hw0
  have hw0:True:=trivial
  repeat'(first|refine zg ?_|refine dG 6 ?_|(refine zc ?_ ?_<;>intro hc<;>try simp only[NM]at hc)|refine zr ?_|(first|refine callV.flat (.agg (eZ x)) bK (hx▸bI n1 m1 (by omega)) rfl rfl ?_|refine callV.flat (.agg (eZ y)) bK (hy▸bI n2 m2 (by omega)) rfl rfl ?_|refine callV.flat (.agg (eZ z)) bK (hz▸bI n3 m3 (by omega)) rfl rfl ?_|refine callV.flat (.agg (eZ w)) bK (hw▸bI n4 m4 (by omega)) rfl rfl ?_)|(first|refine zf (e9 w (by omega)) ?_|refine zf (e9 (nz w) (by omega)) ?_)|(refine callV.flat (.agg (eZ (nz w))) a0x (e67▸c67 1 (by omega)) rfl rfl ?_)|(refine bU (.agg (eZ (g4 x y z (nz w):Int))) oB (by simp -dsimp (disch:=try exact zo)only[go_sem];exact cg) (by simp -dsimp (disch:=try exact zo)only[go_sem]) (.agg _ (by simp;exact⟨.lit _,.lit _⟩)) ?_)|(first|refine zf (gL x (g4 x y z (nz w):Int) (by omega) (by omega) hg0) ?_|refine zf (gL y (g4 x y z (nz w):Int) (by omega) (by omega) hg0) ?_|refine zf (gL z (g4 x y z (nz w):Int) (by omega) (by omega) hg0) ?_|refine zf (gL (nz w) (g4 x y z (nz w):Int) (by omega) (by omega) hg0) ?_)|(first|refine zf (gE (x / (g4 x y z (nz w):Int)) (by omega)) ?_|refine zf (gE (y / (g4 x y z (nz w):Int)) (by omega)) ?_|refine zf (gE (z / (g4 x y z (nz w):Int)) (by omega)) ?_|refine zf (gE (nz w / (g4 x y z (nz w):Int)) (by omega)) ?_)|refine⟨by omega,?_⟩|(refine zb ?_ ?_<;>intro hg<;>(try rw[hg])<;>try simp only[NM]at hg)|omega|simp -dsimp (disch:=try exact zo)only[go_sem,hsw,hs4,hw0]|contradiction|rfl)
 ·have e67:True:=trivial
  have hs4:(sg w=0)=False:=eq_false fun h=>hw0 (fZ.1 h)
  have hwn:nz w=w:=if_neg hw0
  simp only[hwn]at cg hgp hg0 s5 s6 s7 s8 s9 s10 ⊢
  by_cases hn1:w<0
  ·have hsw:(sg w<0)=True:=eq_true (lM.2 hn1)
   simp only[if_pos hn1]
   clear hw0
   have hw0:True:=trivial
   repeat'(first|refine zg ?_|refine dG 6 ?_|(refine zc ?_ ?_<;>intro hc<;>try simp only[NM]at hc)|refine zr ?_|(first|refine callV.flat (.agg (eZ x)) bK (hx▸bI n1 m1 (by omega)) rfl rfl ?_|refine callV.flat (.agg (eZ y)) bK (hy▸bI n2 m2 (by omega)) rfl rfl ?_|refine callV.flat (.agg (eZ z)) bK (hz▸bI n3 m3 (by omega)) rfl rfl ?_|refine callV.flat (.agg (eZ w)) bK (hw▸bI n4 m4 (by omega)) rfl rfl ?_)|(first|refine zf (e9 w (by omega)) ?_|refine zf (e9 w (by omega)) ?_)|(refine callV.flat (.agg (eZ w)) a0x (e67▸c67 1 (by omega)) rfl rfl ?_)|(refine bU (.agg (eZ (g4 x y z w:Int))) oB (by simp -dsimp (disch:=try exact zo)only[go_sem];exact cg) (by simp -dsimp (disch:=try exact zo)only[go_sem]) (.agg _ (by simp;exact⟨.lit _,.lit _⟩)) ?_)|(first|refine zf (gL x (g4 x y z w:Int) (by omega) (by omega) hg0) ?_|refine zf (gL y (g4 x y z w:Int) (by omega) (by omega) hg0) ?_|refine zf (gL z (g4 x y z w:Int) (by omega) (by omega) hg0) ?_|refine zf (gL w (g4 x y z w:Int) (by omega) (by omega) hg0) ?_)|(first|refine zf (gE (x / (g4 x y z w:Int)) (by omega)) ?_|refine zf (gE (y / (g4 x y z w:Int)) (by omega)) ?_|refine zf (gE (z / (g4 x y z w:Int)) (by omega)) ?_|refine zf (gE (w / (g4 x y z w:Int)) (by omega)) ?_)|refine⟨by omega,?_⟩|(refine zb ?_ ?_<;>intro hg<;>(try rw[hg])<;>try simp only[NM]at hg)|omega|simp -dsimp (disch:=try exact zo)only[go_sem,hsw,hs4,hw0]|contradiction|rfl)
  ·have hsw:(sg w<0)=False:=eq_false fun h=>hn1 (lM.1 h)
   simp only[if_neg hn1]
   clear hw0
   have hw0:True:=trivial
   repeat'(first|refine zg ?_|refine dG 6 ?_|(refine zc ?_ ?_<;>intro hc<;>try simp only[NM]at hc)|refine zr ?_|(first|refine callV.flat (.agg (eZ x)) bK (hx▸bI n1 m1 (by omega)) rfl rfl ?_|refine callV.flat (.agg (eZ y)) bK (hy▸bI n2 m2 (by omega)) rfl rfl ?_|refine callV.flat (.agg (eZ z)) bK (hz▸bI n3 m3 (by omega)) rfl rfl ?_|refine callV.flat (.agg (eZ w)) bK (hw▸bI n4 m4 (by omega)) rfl rfl ?_)|(first|refine zf (e9 w (by omega)) ?_|refine zf (e9 w (by omega)) ?_)|(refine callV.flat (.agg (eZ w)) a0x (e67▸c67 1 (by omega)) rfl rfl ?_)|(refine bU (.agg (eZ (g4 x y z w:Int))) oB (by simp -dsimp (disch:=try exact zo)only[go_sem];exact cg) (by simp -dsimp (disch:=try exact zo)only[go_sem]) (.agg _ (by simp;exact⟨.lit _,.lit _⟩)) ?_)|(first|refine zf (gL x (g4 x y z w:Int) (by omega) (by omega) hg0) ?_|refine zf (gL y (g4 x y z w:Int) (by omega) (by omega) hg0) ?_|refine zf (gL z (g4 x y z w:Int) (by omega) (by omega) hg0) ?_|refine zf (gL w (g4 x y z w:Int) (by omega) (by omega) hg0) ?_)|(first|refine zf (gE (x / (g4 x y z w:Int)) (by omega)) ?_|refine zf (gE (y / (g4 x y z w:Int)) (by omega)) ?_|refine zf (gE (z / (g4 x y z w:Int)) (by omega)) ?_|refine zf (gE (w / (g4 x y z w:Int)) (by omega)) ?_)|refine⟨by omega,?_⟩|(refine zb ?_ ?_<;>intro hg<;>(try rw[hg])<;>try simp only[NM]at hg)|omega|simp -dsimp (disch:=try exact zo)only[go_sem,hsw,hs4,hw0]|contradiction|rfl)
end Go.Proofs.Vx
namespace Go.Proofs.Vx
open Go Go.Sx Go.Proofs Tryz
attribute [local irreducible] fnT CallOK CallFr AW aI callV aL aJ aH aK gcaseP hid
theorem b9a:agT prog 103=some true∧agT prog 121=some true∧arT prog 103=some (3,3,true)∧arT prog 121=some (3,2,true)∧plT prog 121=some [(0,2),(2,2),(4,2)]∧slT prog 103=none∧slT prog 121=none∧bH prog 121=false∧szT prog 103=some 9∧szT prog 121=some 6∧zeT prog 103=some [.lit (.bool false),.lit (.string ⟨#[]⟩),.lit (.string ⟨#[]⟩),.lit (.bool false),.lit (.string ⟨#[]⟩),.lit (.string ⟨#[]⟩),.lit (.bool false),.lit (.string ⟨#[]⟩),.lit (.string ⟨#[]⟩)]∧zeT prog 121=some [.lit (.bool false),.lit (.string ⟨#[]⟩),.lit (.bool false),.lit (.string ⟨#[]⟩),.lit (.bool false),.lit (.string ⟨#[]⟩)]:=by and_intros<;>kernel_rfl
attribute [go_sem] b9a
theorem c98z (x y z w:Int) (h:Bs 17179869183 x y z w):CallOK prog 98 [.agg (e4 x y z w)] [] (.agg (eP (nrm x y z w))) []:=by
 have:=c98 (Zn x) (Zm x) (Zn y) (Zm y) (Zn z) (Zm z) (Zn w) (Zm w) (by have:=h.a;omega) (by have:=h.b;omega) (by have:=h.c;omega) (by have:=h.d;omega)
 rwa [bA,bA,bA,bA]at this
theorem kH (p:Pt) (hc:CanP p) (h:Bs 17179869183 p.x p.y p.z p.w):CallOK prog 98 [.agg (eP p)] [] (.agg (eP p)) []:=by
 have:=c98z p.x p.y p.z p.w h
 rwa [a7q hc]at this
theorem c77 (p:Pt) (hcp:CanP p) (hp:Bs 17179869183 p.x p.y p.z p.w):CallOK prog 77 [.agg (eP p)] [] (.agg (eV (Aa p.x p.w) (Aa p.y p.w) (Aa p.z p.w))) []:=by
 refine zs func77 30 [.cell 2 103] results77 ?_
 simp only[aD,Ab]
 have sp1:=hp.a
 have sp2:=hp.b
 have sp3:=hp.c
 have sp4:=hp.d
 have hw:=hcp.w
 try have zh0:=(kH p hcp hp)
 try have zh1:=(x5 p.x p.w (by omega) (by omega) (by omega))
 try have zh2:=(x5 p.y p.w (by omega) (by omega) (by omega))
 try have zh3:=(x5 p.z p.w (by omega) (by omega) (by omega))
 exact z1f
theorem c35 (a b:Pt) (hca:CanP a) (hcb:CanP b) (ha:Bs 8589934591 a.x a.y a.z a.w) (hb:Bs 8589934591 b.x b.y b.z b.w):CallOK prog 35 [.agg (eP a),.agg (eP b)] [] (.lit (.int .i64 (rU a b))) []:=by
 refine zs func35 48 [.tmp 4] results35 ?_
 simp only[aD,Ab]
 have sa1:=ha.a
 have sa2:=ha.b
 have sa3:=ha.c
 have sa4:=ha.d
 have sb1:=hb.a
 have sb2:=hb.b
 have sb3:=hb.c
 have sb4:=hb.d
 have tx1:=aO a.x b.w sa1 sb4
 have tx2:=aO b.x a.w sb1 sa4
 have ty1:=aO a.y b.w sa2 sb4
 have ty2:=aO b.y a.w sb2 sa4
 have tz1:=aO a.z b.w sa3 sb4
 have tz2:=aO b.z a.w sb3 sa4
 have ha:Bs 17179869183 a.x a.y a.z a.w:=⟨by omega,by omega,by omega,by omega⟩
 have hb:Bs 17179869183 b.x b.y b.z b.w:=⟨by omega,by omega,by omega,by omega⟩
 unfold rU
 by_cases q1:sg (a.x*b.w - b.x*a.w)=0
 ·have k1:=eq_true q1
  rw[if_neg (by simp[q1])]
  by_cases q2:sg (a.y*b.w - b.y*a.w)=0
  ·have k2:=eq_true q2
   rw[if_neg (by simp[q2])]
   by_cases q3:sg (a.z*b.w - b.z*a.w)=0
   ·have k3:=eq_true q3
    rw[q3]
    try have zh0:=(kH a hca ha)
    try have zh1:=(kH b hcb hb)
    try have zh2:=(aX a.x b.w (by omega) (by omega))
    try have zh3:=(aX b.x a.w (by omega) (by omega))
    try have zh4:=(aX a.y b.w (by omega) (by omega))
    try have zh5:=(aX b.y a.w (by omega) (by omega))
    try have zh6:=(aX a.z b.w (by omega) (by omega))
    try have zh7:=(aX b.z a.w (by omega) (by omega))
    try have zh8:=(gD (a.x*b.w) (b.x*a.w) (by omega) (by omega))
    try have zh9:=(gD (a.y*b.w) (b.y*a.w) (by omega) (by omega))
    try have zh10:=(gD (a.z*b.w) (b.z*a.w) (by omega) (by omega))
    exact z1f
   ·have k3:=eq_false q3
    try have zh0:=(kH a hca ha)
    try have zh1:=(kH b hcb hb)
    try have zh2:=(aX a.x b.w (by omega) (by omega))
    try have zh3:=(aX b.x a.w (by omega) (by omega))
    try have zh4:=(aX a.y b.w (by omega) (by omega))
    try have zh5:=(aX b.y a.w (by omega) (by omega))
    try have zh6:=(aX a.z b.w (by omega) (by omega))
    try have zh7:=(aX b.z a.w (by omega) (by omega))
    try have zh8:=(gD (a.x*b.w) (b.x*a.w) (by omega) (by omega))
    try have zh9:=(gD (a.y*b.w) (b.y*a.w) (by omega) (by omega))
    try have zh10:=(gD (a.z*b.w) (b.z*a.w) (by omega) (by omega))
    exact z1f
  ·have k2:=eq_false q2
   rw[if_pos q2]
   have k3:True:=trivial
   try have zh0:=(kH a hca ha)
   try have zh1:=(kH b hcb hb)
   try have zh2:=(aX a.x b.w (by omega) (by omega))
   try have zh3:=(aX b.x a.w (by omega) (by omega))
   try have zh4:=(aX a.y b.w (by omega) (by omega))
   try have zh5:=(aX b.y a.w (by omega) (by omega))
   try have zh6:=(aX a.z b.w (by omega) (by omega))
   try have zh7:=(aX b.z a.w (by omega) (by omega))
   try have zh8:=(gD (a.x*b.w) (b.x*a.w) (by omega) (by omega))
   try have zh9:=(gD (a.y*b.w) (b.y*a.w) (by omega) (by omega))
   try have zh10:=(gD (a.z*b.w) (b.z*a.w) (by omega) (by omega))
   exact z1f
 ·have k1:=eq_false q1
  rw[if_pos q1]
  have k2:True:=trivial
  have k3:True:=trivial
  try have zh0:=(kH a hca ha)
  try have zh1:=(kH b hcb hb)
  try have zh2:=(aX a.x b.w (by omega) (by omega))
  try have zh3:=(aX b.x a.w (by omega) (by omega))
  try have zh4:=(aX a.y b.w (by omega) (by omega))
  try have zh5:=(aX b.y a.w (by omega) (by omega))
  try have zh6:=(aX a.z b.w (by omega) (by omega))
  try have zh7:=(aX b.z a.w (by omega) (by omega))
  try have zh8:=(gD (a.x*b.w) (b.x*a.w) (by omega) (by omega))
  try have zh9:=(gD (a.y*b.w) (b.y*a.w) (by omega) (by omega))
  try have zh10:=(gD (a.z*b.w) (b.z*a.w) (by omega) (by omega))
  exact z1f
end Go.Proofs.Vx
