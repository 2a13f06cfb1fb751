import Derived.Test.YtjlfgmhmalbiiaaGreatDoorW31
set_option linter.all false
set_option maxHeartbeats 16000000
open Int renaming le_of_lt → Ad, mul_ne_zero → Ae, natAbs_mul → An
open Nat renaming reduceAdd → Aa, le_succ_of_le → Ac, le_trans → Ah, gcd_dvd_left → Aj, gcd → Am, le_refl → Ao, pow_pos → Ap, sub_le → Ar
open Rat renaming divInt → Ab, intCast_natCast → Af, mul_inv_cancel → Ag, mul_comm → Ai, zero_divInt → Ak, num_eq_zero → Al, div_def → Aq
namespace Go.Proofs.Vx
open Go Go.Sx Go.Proofs Tryz
attribute [local irreducible] fnT CallOK CallFr AW aI callV aL aJ aH aK gcaseP hid
theorem b8i:boT prog 24=false∧Tryz.prog.eqGuardType Tryz.prog.depth 24=false∧lfT prog 30 24=some [.b,.s]:=by and_intros<;>kernel_rfl
attribute [go_sem] b8i
theorem c7t:fnT prog 64=true:=by kernel_rfl
theorem pW:fnT prog 134=true:=by kernel_rfl
theorem jY:fnT prog 152=true:=by kernel_rfl
theorem j9 (n:Bool) (k:Nat) (z:Int) (hk:(nb k).size<4611686018427387904) (h:z=if n then -(k:Int)else k):CallOK prog 152 [.lit (.bool n),.lit (.string (nb k))] [] (.agg (eZ z)) []:=by
 have:=nR n (nb k) hk
 have e:iv n (nb k)=z:=by rw[h];unfold iv;rw[aU]
 rwa [e]at this
theorem mulS (x y:Int):x*y=if (!(Zn x == Zn y))=true then -((nv (Zm x)*nv (Zm y):Nat):Int)else ((nv (Zm x)*nv (Zm y):Nat):Int):=by
 have h1:((nv (Zm x)*nv (Zm y):Nat):Int)=((x*y).natAbs:Int):=by rw[aR,aR,An]
 rw[h1]
 unfold Zn
 by_cases h:x<0<;>by_cases h':y<0<;>simp[h,h']
 ·have:=Int.mul_nonneg_of_nonpos_of_nonpos (Ad h) (Ad h');omega
 ·have:=Int.mul_nonpos_of_nonpos_of_nonneg (Ad h) (show 0≤y by omega);omega
 ·have:=Int.mul_nonpos_of_nonneg_of_nonpos (show 0≤x by omega) (Ad h');omega
 ·have:=Int.mul_nonneg (show 0≤x by omega) (show 0≤y by omega);omega
theorem nbm (x y:Int):(nb (nv (Zm x)*nv (Zm y))).size≤(Zm x).size+(Zm y).size:=by
 have:=aO x y (Ao _) (Ao _)
 have e:nv (Zm x)*nv (Zm y)=(x*y).natAbs:=by rw[aR,aR,An]
 rw[e];exact this
theorem cK (x y:Int) (hx:(Zm x).size<549755813888) (hy:(Zm y).size<549755813888):CallOK prog 112 [.agg (eZ x),.agg (eZ y)] [] (.agg (eZ (x*y))) []:=by
 refine zs func112 16 [.cell 4 24] results112 ?_
 simp only[aD,Aa]
 have hs:=nbm x y
 repeat'(first|refine zk ?_|(refine zu ?_ ?_<;>intro hc)|(refine zf (c173 (Zm x) (Zm y) (by omega) (by omega)) ?_)|(refine callV.flat (.agg (eZ (x*y))) jY (j9 _ _ _ (by omega) (mulS x y)) rfl rfl ?_)|(refine zv ?_ ?_<;>intro hg)|omega|simp -dsimp (disch:=try exact zo)only[go_sem]|contradiction|rfl)
theorem c175f (a b:ByteArray) (ha:a.size<1099511627776) (hb:b.size<1099511627776) (hle:nv a<nv b):CallOK prog 175 [.lit (.string a),.lit (.string b)] [] (.tup [.lit (.string ⟨#[]⟩),.lit (.bool false)]) []:=by
 refine zs func175 42 [.tmp 4,.tmp 5] results175 ?_
 simp only[aD,Aa]
 have c207x:=c207 a b ha hb
 have hc0:bN (nv a) (nv b)<0:=by unfold bN;rw[if_pos hle];decide
 generalize bN (nv a) (nv b)=cm at *
 have k0:(cm<0)=True:=eq_true hc0
 exact z1
theorem c114 (x y:Int) (hx:(Zm x).size<549755813888) (hy:(Zm y).size<549755813888):CallOK prog 114 [.agg (eZ x),.agg (eZ y)] [] (.agg (eZ (x+y))) []:=by
 refine zs func114 45 [.cell 4 24] results114 ?_
 simp only[aD,Aa]
 have n1:(nb (nv (Zm x)+nv (Zm y))).size≤(Zm x).size+(Zm y).size+1:=by
  rw[b9,aR,aR,Nat.pow_succ,Nat.pow_add]
  have h1:=sD x
  have h2:=sD y
  have h3:1≤256 ^ (Zm x).size:=Ap (by decide)
  have h4:1≤256 ^ (Zm y).size:=Ap (by decide)
  have h5:=Nat.mul_le_mul_left (256 ^ (Zm x).size) h4
  have h6:=Nat.mul_le_mul_right (256 ^ (Zm y).size) h3
  omega
 have n2:(nb (nv (Zm x) - nv (Zm y))).size≤(Zm x).size:=Ah (pZ (Ar _ _)) (dH _)
 have n3:(nb (nv (Zm y) - nv (Zm x))).size≤(Zm y).size:=Ah (pZ (Ar _ _)) (dH _)
 by_cases hs:Zn x=Zn y
 ·have hT:=eq_true hs
  repeat'(first|refine zk ?_|(refine zu ?_ ?_<;>intro hc)|(refine zf (c174 (Zm x) (Zm y) (by omega) (by omega)) ?_)|(first|refine zf ca ?_|refine zf cb ?_)|(first|refine callV.flat (.agg (eZ (x+y))) jY (j9 (Zn x) _ _ (by omega) (qZ hs)) rfl rfl ?_|refine callV.flat (.agg (eZ (x+y))) jY (j9 (Zn x) _ _ (by omega) (qY hs hle)) rfl rfl ?_|refine callV.flat (.agg (eZ (x+y))) jY (j9 (Zn y) _ _ (by omega) (qX hs hle)) rfl rfl ?_)|(refine zv ?_ ?_<;>intro hg)|omega|simp -dsimp (disch:=try exact zo)only[go_sem,hT]|contradiction|rfl)
 ·have hT:=eq_false hs
  by_cases hle:y.natAbs≤x.natAbs
  ·have ca:=c175 (Zm x) (Zm y) (by omega) (by omega) (by rw[aR,aR];exact hle)
   have cb:True:=trivial
   repeat'(first|refine zk ?_|(refine zu ?_ ?_<;>intro hc)|(refine zf (c174 (Zm x) (Zm y) (by omega) (by omega)) ?_)|(first|refine zf ca ?_|refine zf cb ?_)|(first|refine callV.flat (.agg (eZ (x+y))) jY (j9 (Zn x) _ _ (by omega) (qZ hs)) rfl rfl ?_|refine callV.flat (.agg (eZ (x+y))) jY (j9 (Zn x) _ _ (by omega) (qY hs hle)) rfl rfl ?_|refine callV.flat (.agg (eZ (x+y))) jY (j9 (Zn y) _ _ (by omega) (qX hs hle)) rfl rfl ?_)|(refine zv ?_ ?_<;>intro hg)|omega|simp -dsimp (disch:=try exact zo)only[go_sem,hT]|contradiction|rfl)
  ·have ca:=c175f (Zm x) (Zm y) (by omega) (by omega) (by rw[aR,aR];omega)
   have cb:=c175 (Zm y) (Zm x) (by omega) (by omega) (by rw[aR,aR];omega)
   repeat'(first|refine zk ?_|(refine zu ?_ ?_<;>intro hc)|(refine zf (c174 (Zm x) (Zm y) (by omega) (by omega)) ?_)|(first|refine zf ca ?_|refine zf cb ?_)|(first|refine callV.flat (.agg (eZ (x+y))) jY (j9 (Zn x) _ _ (by omega) (qZ hs)) rfl rfl ?_|refine callV.flat (.agg (eZ (x+y))) jY (j9 (Zn x) _ _ (by omega) (qY hs hle)) rfl rfl ?_|refine callV.flat (.agg (eZ (x+y))) jY (j9 (Zn y) _ _ (by omega) (qX hs hle)) rfl rfl ?_)|(refine zv ?_ ?_<;>intro hg)|omega|simp -dsimp (disch:=try exact zo)only[go_sem,hT]|contradiction|rfl)
theorem rW (z:Int) (h:(Zm z).size<4611686018427387904):CallOK prog 89 [.agg (eZ z)] [] (.agg (eZ (-z))) []:=by
 have:=c89 (Zn z) (Zm z) (by omega)
 rw[bA]at this
 exact this
theorem c86w (z:Int) (h:(Zm z).size<4611686018427387904):CallOK prog 86 [.agg (eZ z)] [] (.lit (.int .i64 (sg z))) []:=by
 have:=c86 (Zn z) (Zm z) (by omega)
 rw[bA]at this
 exact this
theorem l8 (z:Int) (h:(Zm z).size<4611686018427387904):CallOK prog 85 [.agg (eZ z)] [] (.agg (eZ z)) []:=by
 have:=c85 (Zn z) (Zm z) (by omega)
 rw[bA]at this
 exact this
theorem kJ (q:Rat) (h:Qs 4294967296 q):CallOK prog 133 [.agg (eQ q)] [] (.agg (eZ q.num)) []:=by
 refine zs func133 9 [.cell 2 24] results133 ?_
 simp only[aD,Aa]
 have h1:=h.num
 try have zh0:=(l8 q.num (by omega))
 exact z1
theorem uV  : CallOK prog 136 [] [] (.agg (eZ 1)) []:=by
 refine zs func136 2 [.cell 0 24] results136 ?_
 simp only[aD,Aa]
 try have zh0:=(c87 1 (by decide) (by decide))
 exact z1
theorem mA (q:Rat) (h:Qs 4294967296 q):CallOK prog 135 [.agg (eQ q)] [] (.agg (eZ (q.den:Int))) []:=by
 refine zs func135 13 [.cell 2 24] results135 ?_
 simp only[aD,Aa]
 have h2:=h.den
 rw[oP]
 by_cases hd:q.den=1
 ·have hq:Qd q=⟨#[]⟩:=if_pos hd
  have e:nb (nv (Qd q))=⟨#[]⟩:=by rw[hq,← dJ,aU]
  have e1:eZ 1=[.lit (.bool false),.lit (.string (nb q.den))]:=by rw[hd];simp[eZ,Zn,Zm]
  have eT:True:=trivial
  have qs:(Qd q).size=0:=by rw[hq];rfl
  have c85q:=c85 false (Qd q) (by omega)
  have ez:iv false (Qd q)=((nv (Qd q):Nat):Int):=rfl
  rw[ez,oP,e]at c85q
  have c136v:=uV
  rw[e1]at c136v
  repeat'(first|refine zk ?_|(refine zu ?_ ?_<;>intro hc)|(refine zf c85q ?_)|(refine zf c136v ?_)|(refine zv ?_ ?_<;>intro hg)|omega|simp -dsimp (disch:=try exact zo)only[go_sem,eT]|contradiction|rfl)
 ·have hq:Qd q=nb q.den:=if_neg hd
  have e:nb (nv (Qd q))=nb q.den:=by rw[hq,aU]
  have eT:(nb q.den=⟨#[]⟩)=False:=eq_false fun h=>q.den_nz ((fW _).1 h)
  have qs:(Qd q).size≤4294967296:=by rw[hq];exact h2
  have c85q:=c85 false (Qd q) (by omega)
  have ez:iv false (Qd q)=((nv (Qd q):Nat):Int):=rfl
  rw[ez,oP,e]at c85q
  have c136v:True:=trivial
  repeat'(first|refine zk ?_|(refine zu ?_ ?_<;>intro hc)|(refine zf c85q ?_)|(refine zf c136v ?_)|(refine zv ?_ ?_<;>intro hg)|omega|simp -dsimp (disch:=try exact zo)only[go_sem,eT]|contradiction|rfl)
theorem b3m {n d:Int} (h0:d≠0):(Ab n d).num=0↔n=0:=by
 constructor
 ·intro e
  have h1:=xK (n:=n) h0
  rw[e]at h1
  have h2:=Nat.div_mul_cancel (Aj n.natAbs d.natAbs)
  rw[h1]at h2
  have:n.natAbs=0:=by rw[← h2];exact Nat.zero_mul _
  omega
 ·rintro rfl
  rw[Ak];rfl
theorem c88y (n d:Int) (hn:(Zm n).size≤268435456) (hd:(Zm d).size≤268435456):CallOK prog 88 [.sl [[.lit (.bool false),.lit (.string (Zm n))],[.lit (.bool false),.lit (.string (Zm d))]]] [] (.agg [.lit (.bool false),.lit (.string (nb (Am n.natAbs d.natAbs)))]) []:=by
 have:=c88 [(false,Zm n),(false,Zm d)] (by simp) (fun r hr=>by simp at hr;rcases hr with rfl|rfl<;>assumption)
 have e:gT [(false,Zm n),(false,Zm d)] 2=Am n.natAbs d.natAbs:=by
  unfold gT
  simp[aR]
 rw[show [(false,Zm n),(false,Zm d)].length=2 from rfl,e,oP]at this
 exact this
theorem c90y (n:Int) (k g:Nat) (hg:0<g) (hd:g∣n.natAbs) (e:n.natAbs / g=k) (h:(Zm n).size≤268435456) (hgs:(nb g).size≤268435456):CallOK prog 90 [.agg [.lit (.bool false),.lit (.string (Zm n))],.agg [.lit (.bool false),.lit (.string (nb g))]] [] (.tup [.agg [.lit (.bool false),.lit (.string (nb k))],.agg (eZ 0),.lit (.bool true)]) []:=by
 have:=c90 false (Zm n) g hg (by rw[aR];exact hd) h hgs
 have e1:iv false (Zm n) / (g:Int)=((k:Nat):Int):=by
  show ((nv (Zm n):Nat):Int) / (g:Int)=_
  rw[aR,← e,Int.natCast_ediv]
 rw[e1,oP]at this
 exact this
theorem mB (n d:Int) (hn:(Zm n).size≤268435456) (hd:(Zm d).size≤268435456) (h0:d≠0):CallOK prog 134 [.agg (eZ n),.agg (eZ d)] [] (.tup [.agg (eQ (Ab n d)),.lit (.bool true)]) []:=by
 refine zs func134 57 [.cell 4 41,.tmp 5] results134 ?_
 simp only[aD,Aa]
 have k0:(Zm d=⟨#[]⟩)=False:=eq_false fun h=>h0 (zX.1 h)
 have cg:=c88y n d hn hd
 have hG:0<Am n.natAbs d.natAbs:=Nat.gcd_pos_of_pos_right _ (by omega)
 have hGs:(nb (Am n.natAbs d.natAbs)).size≤268435456:=Ah (pZ (Nat.gcd_le_right _ (by omega))) hd
 have d1:=c90y n (Ab n d).num.natAbs _ hG (Aj _ _) (xK h0) hn hGs
 have d2:=c90y d (Ab n d).den _ hG (Nat.gcd_dvd_right _ _) (a1k h0) hd hGs
 have e1:nb (Ab n d).num.natAbs=Zm (Ab n d).num:=rfl
 have k1:(Zm (Ab n d).num=⟨#[]⟩)=(n=0):=by rw[zX];exact propext (b3m h0)
 have k3:n≠0→(!(Zn n == Zn d))=Zn (Ab n d).num:=fun hn0=>by have:=a9x (n:=n) (d:=d) hn0 h0;rwa [← Bool.beq_eq_decide_eq]at this
 have hQ:eQ (Ab n d)=[.lit (.bool (Zn (Ab n d).num)),.lit (.string (Zm (Ab n d).num)),.lit (.string (Qd (Ab n d)))]:=rfl
 have k4:n=0→Zn (Ab n d).num=false:=fun hn0=>by rw[hn0,Ak];rfl
 have k5:(Ab n d).den=1→Qd (Ab n d)=⟨#[]⟩:=fun h=>if_pos h
 have k6:(Ab n d).den≠1→Qd (Ab n d)=nb (Ab n d).den:=fun h=>if_neg h
 have zn1:Zn 1=false:=rfl
 have zm1:Zm 1=nb 1:=rfl
 rw[e1]at d1
 rw[hQ]
 clear hQ e1 hG h0
 generalize Am n.natAbs d.natAbs=G at *
 generalize (Ab n d).num=qn at *
 generalize Qd (Ab n d)=qd at *
 generalize (Ab n d).den=qe at *
 by_cases hn0:n=0
 ·rw[eq_true hn0]at k1
  have k3:=(k4 hn0)
  rw[k3]
  by_cases h1:qe=1
  ·have k2:(nb qe=nb 1)=True:=eq_true (by rw[h1])
   rw[k5 h1]
   clear k4 k5 k6 hn0
   have k3:True:=trivial
   repeat'(first|refine zk ?_|(refine zu ?_ ?_<;>intro hc)|(first|refine zf (l8 n (by omega)) ?_|refine zf (l8 d (by omega)) ?_)|(refine iA _ j1 cg rfl rfl (by simp -dsimp (disch:=try exact zo)only[go_sem]) (.agg _ (by intro c hc;simp only[zM,or_false]at hc;rcases hc with rfl|rfl<;>exact .lit _)) ?_)|(first|refine zf d1 ?_|refine zf d2 ?_)|(refine zf uV ?_)|(refine zv ?_ ?_<;>intro hg)|omega|simp -dsimp (disch:=try exact zo)only[go_sem,k0,k1,k2,k3,zn1,zm1,and_self,true_and]|contradiction|rfl)
  ·have k2:(nb qe=nb 1)=False:=eq_false fun h=>h1 (qO h)
   rw[k6 h1]
   clear k4 k5 k6 hn0
   have k3:True:=trivial
   repeat'(first|refine zk ?_|(refine zu ?_ ?_<;>intro hc)|(first|refine zf (l8 n (by omega)) ?_|refine zf (l8 d (by omega)) ?_)|(refine iA _ j1 cg rfl rfl (by simp -dsimp (disch:=try exact zo)only[go_sem]) (.agg _ (by intro c hc;simp only[zM,or_false]at hc;rcases hc with rfl|rfl<;>exact .lit _)) ?_)|(first|refine zf d1 ?_|refine zf d2 ?_)|(refine zf uV ?_)|(refine zv ?_ ?_<;>intro hg)|omega|simp -dsimp (disch:=try exact zo)only[go_sem,k0,k1,k2,k3,zn1,zm1,and_self,true_and]|contradiction|rfl)
 ·rw[eq_false hn0]at k1
  have k3:=k3 hn0
  by_cases h1:qe=1
  ·have k2:(nb qe=nb 1)=True:=eq_true (by rw[h1])
   rw[k5 h1]
   clear k4 k5 k6 hn0
   repeat'(first|refine zk ?_|(refine zu ?_ ?_<;>intro hc)|(first|refine zf (l8 n (by omega)) ?_|refine zf (l8 d (by omega)) ?_)|(refine iA _ j1 cg rfl rfl (by simp -dsimp (disch:=try exact zo)only[go_sem]) (.agg _ (by intro c hc;simp only[zM,or_false]at hc;rcases hc with rfl|rfl<;>exact .lit _)) ?_)|(first|refine zf d1 ?_|refine zf d2 ?_)|(refine zf uV ?_)|(refine zv ?_ ?_<;>intro hg)|omega|simp -dsimp (disch:=try exact zo)only[go_sem,k0,k1,k2,k3,zn1,zm1,and_self,true_and]|contradiction|rfl)
  ·have k2:(nb qe=nb 1)=False:=eq_false fun h=>h1 (qO h)
   rw[k6 h1]
   clear k4 k5 k6 hn0
   repeat'(first|refine zk ?_|(refine zu ?_ ?_<;>intro hc)|(first|refine zf (l8 n (by omega)) ?_|refine zf (l8 d (by omega)) ?_)|(refine iA _ j1 cg rfl rfl (by simp -dsimp (disch:=try exact zo)only[go_sem]) (.agg _ (by intro c hc;simp only[zM,or_false]at hc;rcases hc with rfl|rfl<;>exact .lit _)) ?_)|(first|refine zf d1 ?_|refine zf d2 ?_)|(refine zf uV ?_)|(refine zv ?_ ?_<;>intro hg)|omega|simp -dsimp (disch:=try exact zo)only[go_sem,k0,k1,k2,k3,zn1,zm1,and_self,true_and]|contradiction|rfl)
theorem c64 (a:Rat) (hsa:Qs 67108864 a) (b:Rat) (hsb:Qs 67108864 b):CallOK prog 64 [.agg (eQ a),.agg (eQ b)] [] (.agg (eQ (a+b))) []:=by
 refine zs func64 28 [.cell 4 41] results64 ?_
 simp only[aD,Aa]
 have s1:=hsa.num
 have s2:=hsa.den'
 have s3:=hsb.num
 have s4:=hsb.den'
 have s5:=aO a.num (b.den:Int) s1 s4
 have s6:=aO b.num (a.den:Int) s3 s2
 have s7:=aO (a.den:Int) (b.den:Int) s2 s4
 have s8:=fO _ _ s5 s6
 repeat'(first|refine zk ?_|(refine zu ?_ ?_<;>intro hc)|(first|refine zf (kJ a (Qs.mono hsa (by omega))) ?_|refine zf (kJ b (Qs.mono hsb (by omega))) ?_)|(first|refine zf (mA a (Qs.mono hsa (by omega))) ?_|refine zf (mA b (Qs.mono hsb (by omega))) ?_)|(first|refine zf (cK (a.num) ((b.den:Int)) (by omega) (by omega)) ?_|refine zf (cK (b.num) ((a.den:Int)) (by omega) (by omega)) ?_|refine zf (cK ((a.den:Int)) ((b.den:Int)) (by omega) (by omega)) ?_)|(refine zf (c114 (a.num*(b.den:Int)) (b.num*(a.den:Int)) (by omega) (by omega)) ?_)|(refine callV.flat (.tup [.agg (eQ (a+b)),.lit (.bool true)]) pW (by have:=mB (a.num*(b.den:Int)+b.num*(a.den:Int)) ((a.den:Int)*(b.den:Int)) (by omega) (by omega) (a8n a b);rw[b1e a b]at this;exact this) rfl rfl ?_)|(refine zv ?_ ?_<;>intro hg)|omega|simp -dsimp (disch:=try exact zo)only[go_sem]|contradiction|rfl)
theorem c231 (a:Rat) (hsa:Qs 67108864 a):CallOK prog 231 [.agg (eQ a)] [] (.agg (eQ (-a))) []:=by
 refine zs func231 15 [.cell 2 41] results231 ?_
 simp only[aD,Aa]
 have s1:=hsa.num
 have s2:=hsa.den'
 have s3:(Zm (-a.num)).size≤67108864:=by rw[jK];exact s1
 repeat'(first|refine zk ?_|(refine zu ?_ ?_<;>intro hc)|(refine zf (kJ a (Qs.mono hsa (by omega))) ?_)|(refine zf (mA a (Qs.mono hsa (by omega))) ?_)|(refine zf (rW a.num (by omega)) ?_)|(refine callV.flat (.tup [.agg (eQ (-a)),.lit (.bool true)]) pW (by have:=mB (-a.num) ((a.den:Int)) (by omega) (by omega) (gC a);rw[q_neg a]at this;exact this) rfl rfl ?_)|(refine zv ?_ ?_<;>intro hg)|omega|simp -dsimp (disch:=try exact zo)only[go_sem]|contradiction|rfl)
theorem rY (a:Rat) (hsa:Qs 67108864 a) (b:Rat) (hsb:Qs 67108864 b):CallOK prog 183 [.agg (eQ a),.agg (eQ b)] [] (.agg (eQ (a - b))) []:=by
 refine zs func183 9 [.cell 4 41] results183 ?_
 simp only[aD,Aa]
 repeat'(first|refine zk ?_|(refine zu ?_ ?_<;>intro hc)|(refine zf (c231 b hsb) ?_)|(refine callV.flat (.agg (eQ (a - b))) c7t (by have:=c64 a hsa (-b) hsb.neg;rw[← Rat.sub_eq_add_neg]at this;exact this) rfl rfl ?_)|(refine zv ?_ ?_<;>intro hg)|omega|simp -dsimp (disch:=try exact zo)only[go_sem]|contradiction|rfl)
theorem rZ (a:Rat) (hsa:Qs 67108864 a) (b:Rat) (hsb:Qs 67108864 b):CallOK prog 182 [.agg (eQ a),.agg (eQ b)] [] (.agg (eQ (a*b))) []:=by
 refine zs func182 22 [.cell 4 41] results182 ?_
 simp only[aD,Aa]
 have s1:=hsa.num
 have s2:=hsa.den'
 have s3:=hsb.num
 have s4:=hsb.den'
 have s5:=aO a.num b.num s1 s3
 have s7:=aO (a.den:Int) (b.den:Int) s2 s4
 repeat'(first|refine zk ?_|(refine zu ?_ ?_<;>intro hc)|(first|refine zf (kJ a (Qs.mono hsa (by omega))) ?_|refine zf (kJ b (Qs.mono hsb (by omega))) ?_)|(first|refine zf (mA a (Qs.mono hsa (by omega))) ?_|refine zf (mA b (Qs.mono hsb (by omega))) ?_)|(first|refine zf (cK (a.num) (b.num) (by omega) (by omega)) ?_|refine zf (cK ((a.den:Int)) ((b.den:Int)) (by omega) (by omega)) ?_)|(refine callV.flat (.tup [.agg (eQ (a*b)),.lit (.bool true)]) pW (by have:=mB (a.num*b.num) ((a.den:Int)*(b.den:Int)) (by omega) (by omega) (a8n a b);rw[b1b a b]at this;exact this) rfl rfl ?_)|(refine zv ?_ ?_<;>intro hg)|omega|simp -dsimp (disch:=try exact zo)only[go_sem]|contradiction|rfl)
theorem c129 (a:Rat) (hsa:Qs 67108864 a) (b:Rat) (hsb:Qs 67108864 b) (h0:b≠0):CallOK prog 129 [.agg (eQ a),.agg (eQ b)] [] (.tup [.agg (eQ (a / b)),.lit (.bool true)]) []:=by
 refine zs func129 19 [.cell 4 41,.tmp 5] results129 ?_
 simp only[aD,Aa]
 have s1:=hsa.num
 have s2:=hsa.den'
 have s3:=hsb.num
 have s4:=hsb.den'
 have s5:=aO a.num (b.den:Int) s1 s4
 have s7:=aO (a.den:Int) b.num s2 s3
 have hne:(a.den:Int)*b.num≠0:=Ae (gC a) (fun h=>h0 (Al.1 h))
 repeat'(first|refine zk ?_|(refine zu ?_ ?_<;>intro hc)|(first|refine zf (kJ a (Qs.mono hsa (by omega))) ?_|refine zf (kJ b (Qs.mono hsb (by omega))) ?_)|(first|refine zf (mA a (Qs.mono hsa (by omega))) ?_|refine zf (mA b (Qs.mono hsb (by omega))) ?_)|(first|refine zf (cK (a.num) ((b.den:Int)) (by omega) (by omega)) ?_|refine zf (cK ((a.den:Int)) (b.num) (by omega) (by omega)) ?_)|(refine callV.flat (.tup [.agg (eQ (a / b)),.lit (.bool true)]) pW (by have:=mB (a.num*(b.den:Int)) ((a.den:Int)*b.num) (by omega) (by omega) hne;rw[b1d a b]at this;exact this) rfl rfl ?_)|(refine zv ?_ ?_<;>intro hg)|omega|simp -dsimp (disch:=try exact zo)only[go_sem]|contradiction|rfl)
theorem c63 (a:Rat) (hsa:Qs 67108864 a):CallOK prog 63 [.agg (eQ a)] [] (.lit (.int .i64 (sg a.num))) []:=by
 refine zs func63 6 [.tmp 2] results63 ?_
 simp only[aD,Aa]
 have s1:=hsa.num
 have s2:=hsa.den'
 try have zh0:=(kJ a (Qs.mono hsa (by omega)))
 try have zh1:=(c86w a.num (by omega))
 exact z1
theorem c230 (a:Rat) (hsa:Qs 67108864 a):CallOK prog 230 [.agg (eQ a)] [] (.agg (eQ a)) []:=by
 refine zs func230 14 [.cell 2 41] results230 ?_
 simp only[aD,Aa]
 have s1:=hsa.num
 have s2:=hsa.den'
 repeat'(first|refine zk ?_|(refine zu ?_ ?_<;>intro hc)|(refine zf (kJ a (Qs.mono hsa (by omega))) ?_)|(refine zf (mA a (Qs.mono hsa (by omega))) ?_)|(refine callV.flat (.tup [.agg (eQ (a)),.lit (.bool true)]) pW (by have:=mB (a.num) ((a.den:Int)) (by omega) (by omega) (gC a);rw[a9r a]at this;exact this) rfl rfl ?_)|(refine zv ?_ ?_<;>intro hg)|omega|simp -dsimp (disch:=try exact zo)only[go_sem]|contradiction|rfl)
theorem o9 (a:Rat) (hsa:Qs 67108864 a):CallOK prog 181 [.agg (eQ a)] [] (.tup [.agg (eZ a.num),.agg (eZ (a.den:Int))]) []:=by
 refine zs func181 11 [.cell 2 24,.cell 3 24] results181 ?_
 simp only[aD,Aa]
 try have zh0:=(c230 a hsa)
 try have zh1:=(kJ a (Qs.mono hsa (by omega)))
 try have zh2:=(mA a (Qs.mono hsa (by omega)))
 exact z1
end Go.Proofs.Vx
namespace Go.Proofs.Vx
open Go Go.Sx Go.Proofs Tryz
attribute [local irreducible] fnT CallOK CallFr AW aI callV aL aJ aH aK gcaseP hid
theorem c3p:plT prog 103=some [(0,3),(3,3),(6,3)]:=by kernel_rfl
attribute [go_sem] c3p
theorem c29z (p:Pt) (h:BPt 268435456 p):CallOK prog 29 [.agg (eP p)] [] (.agg (eP (nrm p.x p.y p.z p.w))) []:=by
 have:=c29 (Zn p.x) (Zn p.y) (Zn p.z) (Zn p.w) (Zm p.x) (Zm p.y) (Zm p.z) (Zm p.w) h.out.a h.out.b h.out.c h.out.d
 rwa [bA,bA,bA,bA]at this
theorem c29c (p:Pt) (hc:CanP p) (h:BPt 268435456 p):CallOK prog 29 [.agg (eP p)] [] (.agg (eP p)) []:=by
 have:=c29z p h
 rwa [a7q hc]at this
theorem c44z (x y z w:Int) (h:Bs 268435456 x y z w) (h0:¬ (x=0∧y=0∧z=0)):CallOK prog 44 [.agg (e4 x y z w)] [] (.tup [.agg (eH (i5 x y z w)),.lit (.bool true)]) []:=by
 have:=c44a (Zn x) (Zn y) (Zn z) (Zn w) (Zm x) (Zm y) (Zm z) (Zm w) h.a h.b h.c h.d (by rw[bA,bA,bA];exact h0)
 rwa [bA,bA,bA,bA]at this
theorem xG {z:Int} {k:Nat} (h:(Zm z).size≤k) (hk:1≤k):Qs k (z:Rat):=⟨h,by show (nb 1).size≤_;rw[uB];exact hk⟩
theorem uT:CallOK prog 87 [.lit (.int .i64 1)] [] (.agg (eZ 1)) []:=c87 1 (by decide) (by decide)
theorem a1o {a b:Geo.V} {k l:Nat} (ha:QV k a) (hb:QV l b):Qs (3*(k+l)+2) (Geo.dot a b):=(((ha.x.mul hb.x).add (ha.y.mul hb.y)).add (ha.z.mul hb.z)).mono (by omega)
theorem c4n {a:Geo.V} {t:Rat} {k l:Nat} (ha:QV k a) (ht:Qs l t):QV (k+l) (t*a):=⟨by rw[show (t*a:Geo.V).x=a.x*t from Ai _ _];exact ha.x.mul ht,by rw[show (t*a:Geo.V).y=a.y*t from Ai _ _];exact ha.y.mul ht,by rw[show (t*a:Geo.V).z=a.z*t from Ai _ _];exact ha.z.mul ht⟩
theorem a1h (a:Rat):(a.num:Rat) / (a.den:Rat)=a:=by
 have:=Rat.divInt_eq_div a.num (a.den:Int)
 rw[Rat.num_divInt_den,Af]at this
 exact this.symm
theorem mkR (a b c:Rat):nrm (a.num*((b.den:Int)*(c.den:Int))) (b.num*((a.den:Int)*(c.den:Int))) (c.num*((a.den:Int)*(b.den:Int))) ((a.den:Int)*(b.den:Int)*(c.den:Int))=mkP a b c:=by
 have ha:=gC a
 have hb:=gC b
 have hc:=gC c
 refine iE (vU _ _ _ _) (a0m _ _ _) ?_
 rw[a1a,a0z (Ae (Ae ha hb) hc)]
 have qa:(a.den:Rat)≠0:=by have:=a.den_nz;exact_mod_cast this
 have qb:(b.den:Rat)≠0:=by have:=b.den_nz;exact_mod_cast this
 have qc:(c.den:Rat)≠0:=by have:=c.den_nz;exact_mod_cast this
 have ea:=a1h a
 have eb:=a1h b
 have ec:=a1h c
 generalize (a.num:Int)=an at *
 generalize (b.num:Int)=bn at *
 generalize (c.num:Int)=cn at *
 apply Geo.V.ext<;>simp only[Rat.intCast_mul,Af]
 ·conv=>rhs;rw[← ea]
  grind
 ·conv=>rhs;rw[← eb]
  grind
 ·conv=>rhs;rw[← ec]
  grind
theorem r6 (p:Pt) (hc:CanP p) (hb:BPt 268435456 p):CallOK prog 128 [.agg (eP p)] [] (.agg (eV (tv p).x (tv p).y (tv p).z)) []:=by
 refine zs func128 40 [.cell 2 103] results128 ?_
 simp only[aD,Aa]
 have c29v:=c29c p hc hb
 have hw:=hc.w
 have hx:=mB p.x p.w hb.out.a hb.out.d (by omega)
 have hy:=mB p.y p.w hb.out.b hb.out.d (by omega)
 have hz:=mB p.z p.w hb.out.c hb.out.d (by omega)
 rw[(qH p).1]at hx
 rw[(qH p).2.1]at hy
 rw[(qH p).2.2]at hz
 clear hc hb hw
 generalize tv p=t at *
 exact z1
theorem c130 (a b c:Rat) (ha:Qs 67108864 a) (hb:Qs 67108864 b) (hc:Qs 67108864 c):CallOK prog 130 [.agg (eV a b c)] [] (.agg (eP (mkP a b c))) []:=by
 refine zs func130 49 [.cell 2 51] results130 ?_
 simp only[aD,Aa]
 have s1:=ha.num
 have s2:=ha.den'
 have s3:=hb.num
 have s4:=hb.den'
 have s5:=hc.num
 have s6:=hc.den'
 have t1:=aO _ _ s4 s6
 have t2:=aO _ _ s2 s6
 have t3:=aO _ _ s2 s4
 have u1:=aO _ _ s1 t1
 have u2:=aO _ _ s3 t2
 have u3:=aO _ _ s5 t3
 have u4:=aO _ _ t3 s6
 have c29v:=c29z ⟨a.num*((b.den:Int)*(c.den:Int)),b.num*((a.den:Int)*(c.den:Int)),c.num*((a.den:Int)*(b.den:Int)),(a.den:Int)*(b.den:Int)*(c.den:Int)⟩ ⟨⟨by dsimp only;omega,by dsimp only;omega,by dsimp only;omega,by dsimp only;omega⟩⟩
 dsimp only at c29v
 rw[mkR]at c29v
 try have zh0:=(o9 a ha)
 try have zh1:=(o9 b hb)
 try have zh2:=(o9 c hc)
 try have zh3:=(cK ((b.den:Int)) ((c.den:Int)) (by omega) (by omega))
 try have zh4:=(cK ((a.den:Int)) ((c.den:Int)) (by omega) (by omega))
 try have zh5:=(cK ((a.den:Int)) ((b.den:Int)) (by omega) (by omega))
 try have zh6:=(cK (a.num) ((b.den:Int)*(c.den:Int)) (by omega) (by omega))
 try have zh7:=(cK (b.num) ((a.den:Int)*(c.den:Int)) (by omega) (by omega))
 try have zh8:=(cK (c.num) ((a.den:Int)*(b.den:Int)) (by omega) (by omega))
 try have zh9:=(cK ((a.den:Int)*(b.den:Int)) ((c.den:Int)) (by omega) (by omega))
 exact z1
theorem c270 (z:Int) (h:(Zm z).size≤268435456):CallOK prog 270 [.agg (eZ z)] [] (.agg (eQ (z:Rat))) []:=by
 refine zs func270 12 [.cell 2 41] results270 ?_
 simp only[aD,Aa]
 have s2:(Zm 1).size≤8:=by rw[cO];decide
 repeat'(first|refine zk ?_|(refine zu ?_ ?_<;>intro hc)|(refine zf uT ?_)|(refine callV.flat (.tup [.agg (eQ (z:Rat)),.lit (.bool true)]) pW (by have:=mB z 1 (by omega) (by omega) (by decide);rw[b1c z]at this;exact this) rfl rfl ?_)|(refine zv ?_ ?_<;>intro hg)|omega|simp -dsimp (disch:=try exact zo)only[go_sem]|contradiction|rfl)
theorem c211 (u v:Geo.V) (hu:QV 33554432 u) (hv:QV 33554432 v):CallOK prog 211 [.agg (eV u.x u.y u.z),.agg (eV v.x v.y v.z)] [] (.agg (eV (u.x - v.x) (u.y - v.y) (u.z - v.z))) []:=by
 refine zs func211 21 [.cell 4 103] results211 ?_
 simp only[aD,Aa]
 obtain⟨u1,u2,u3⟩:=hu.mono (show 33554432≤67108864 by decide)
 obtain⟨v1,v2,v3⟩:=hv.mono (show 33554432≤67108864 by decide)
 clear hu hv
 repeat'(first|refine zk ?_|(refine zu ?_ ?_<;>intro hc)|(refine zf (rY _ (by assumption) _ (by assumption)) ?_)|(refine zv ?_ ?_<;>intro hg)|omega|simp -dsimp (disch:=try exact zo)only[go_sem]|contradiction|rfl)
theorem c263 (u v:Geo.V) (hu:QV 33554432 u) (hv:QV 33554432 v):CallOK prog 263 [.agg (eV u.x u.y u.z),.agg (eV v.x v.y v.z)] [] (.agg (eV (u.x+v.x) (u.y+v.y) (u.z+v.z))) []:=by
 refine zs func263 21 [.cell 4 103] results263 ?_
 simp only[aD,Aa]
 obtain⟨u1,u2,u3⟩:=hu.mono (show 33554432≤67108864 by decide)
 obtain⟨v1,v2,v3⟩:=hv.mono (show 33554432≤67108864 by decide)
 clear hu hv
 repeat'(first|refine zk ?_|(refine zu ?_ ?_<;>intro hc)|(refine zf (c64 _ (by assumption) _ (by assumption)) ?_)|(refine zv ?_ ?_<;>intro hg)|omega|simp -dsimp (disch:=try exact zo)only[go_sem]|contradiction|rfl)
theorem c264 (u:Geo.V) (t:Rat) (hu:QV 33554432 u) (ht:Qs 33554432 t):CallOK prog 264 [.agg (eV u.x u.y u.z),.agg (eQ t)] [] (.agg (eV (u.x*t) (u.y*t) (u.z*t))) []:=by
 refine zs func264 18 [.cell 4 103] results264 ?_
 simp only[aD,Aa]
 obtain⟨u1,u2,u3⟩:=hu.mono (show 33554432≤67108864 by decide)
 have h2:=ht.mono (show 33554432≤67108864 by decide)
 clear hu ht
 repeat'(first|refine zk ?_|(refine zu ?_ ?_<;>intro hc)|(refine zf (rZ _ (by assumption) _ (by assumption)) ?_)|(refine zv ?_ ?_<;>intro hg)|omega|simp -dsimp (disch:=try exact zo)only[go_sem]|contradiction|rfl)
theorem c262 (p q:Pt) (hp:CanP p) (hq:CanP q) (bp:BPt 33554432 p) (bq:BPt 33554432 q):CallOK prog 262 [.agg (eP p),.agg (eP q)] [] (.agg (eV (tv p - tv q).x (tv p - tv q).y (tv p - tv q).z)) []:=by
 refine zs func262 27 [.cell 4 103] results262 ?_
 simp only[aD,Aa]
 have cp:=r6 p hp (bp.mono (by decide))
 have cq:=r6 q hq (bq.mono (by decide))
 obtain⟨u1,u2,u3⟩:=(oQ hp bp).mono (show 33554432≤67108864 by decide)
 obtain⟨v1,v2,v3⟩:=(oQ hq bq).mono (show 33554432≤67108864 by decide)
 simp only[Geo.dM,Geo.dL,Geo.dK]
 clear hp hq bp bq
 generalize tv p=s at *
 generalize tv q=t at *
 repeat'(first|refine zk ?_|(refine zu ?_ ?_<;>intro hc)|(first|refine zf cp ?_|refine zf cq ?_)|(refine zf (rY _ (by assumption) _ (by assumption)) ?_)|(refine zv ?_ ?_<;>intro hg)|omega|simp -dsimp (disch:=try exact zo)only[go_sem]|contradiction|rfl)
theorem c131 (u v:Geo.V) (hu:QV 8388608 u) (hv:QV 8388608 v):CallOK prog 131 [.agg (eV u.x u.y u.z),.agg (eV v.x v.y v.z)] [] (.agg (eQ (Geo.dot u v))) []:=by
 refine zs func131 22 [.cell 4 41] results131 ?_
 simp only[aD,Aa]
 obtain⟨u1,u2,u3⟩:=hu.mono (show 8388608≤67108864 by decide)
 obtain⟨v1,v2,v3⟩:=hv.mono (show 8388608≤67108864 by decide)
 have p1:=(hu.x.mul hv.x).mono (show 8388608+8388608≤67108864 by decide)
 have p2:=(hu.y.mul hv.y).mono (show 8388608+8388608≤67108864 by decide)
 have p3:=(hu.z.mul hv.z).mono (show 8388608+8388608≤67108864 by decide)
 have q1:=((hu.x.mul hv.x).add (hu.y.mul hv.y)).mono (show 8388608+8388608+(8388608+8388608)+1≤67108864 by decide)
 unfold Geo.dot
 clear hu hv
 repeat'(first|refine zk ?_|(refine zu ?_ ?_<;>intro hc)|(refine zf (rZ _ (by assumption) _ (by assumption)) ?_)|(refine zf (c64 _ (by assumption) _ (by assumption)) ?_)|(refine zv ?_ ?_<;>intro hg)|omega|simp -dsimp (disch:=try exact zo)only[go_sem]|contradiction|rfl)
theorem c261 (p:Pl) (hp:BPl 268435456 p):CallOK prog 261 [.agg (eH p)] [] (.tup [.agg (eV (tH p).n.x (tH p).n.y (tH p).n.z),.agg (eQ (tH p).d)]) []:=by
 refine zs func261 17 [.cell 2 103,.cell 3 41] results261 ?_
 simp only[aD,Aa]
 obtain⟨⟨ha,hb,hc,hd⟩⟩:=hp
 unfold tH
 try have zh0:=(c270 p.a ha)
 try have zh1:=(c270 p.b hb)
 try have zh2:=(c270 p.c hc)
 try have zh3:=(c270 p.d hd)
 exact z1
theorem pl_qs {p:Pl} {k:Nat} (h:BPl k p) (hk:1≤k):QV k (tH p).n∧Qs k (tH p).d:=⟨⟨xG h.out.a hk,xG h.out.b hk,xG h.out.c hk⟩,xG h.out.d hk⟩
theorem meetR {p : Pl} {a b : Pt} (ha : CanP a) (hb : CanP b) (h : aB p a * aB p b < 0) :
  Geo.dot (tH p).n (tv b - tv a)≠0∧mkP ((tv a).x+(tv b - tv a).x*(((tH p).d - Geo.dot (tH p).n (tv a)) / Geo.dot (tH p).n (tv b - tv a))) ((tv a).y+(tv b - tv a).y*(((tH p).d - Geo.dot (tH p).n (tv a)) / Geo.dot (tH p).n (tv b - tv a))) ((tv a).z+(tv b - tv a).z*(((tH p).d - Geo.dot (tH p).n (tv a)) / Geo.dot (tH p).n (tv b - tv a)))=bO p a b:=by
 have h1:=(a0i ha.w hb.w).1 h
 have e1:Geo.dot (tH p).n (tv b - tv a)=(tH p).at (tv b) - (tH p).at (tv a):=Geo.bE _ _ _
 have e2:(tH p).d - Geo.dot (tH p).n (tv a)=- (tH p).at (tv a):=by unfold Geo.H.at;grind
 have hne:(tH p).at (tv b) - (tH p).at (tv a)≠0:=by
  intro e
  have e3:(tH p).at (tv b)=(tH p).at (tv a):=by grind
  rw[e3]at h1
  have:=Geo.jS ((tH p).at (tv a))
  grind
 refine⟨by rw[e1];exact hne,?_⟩
 refine iE (a0m _ _ _) (a5u _ _ _) ?_
 rw[a1a,a7x ha.w hb.w h,e1,e2]
 unfold Geo.X
 have e4:-(tH p).at (tv a) / ((tH p).at (tv b) - (tH p).at (tv a))=(tH p).at (tv a) / ((tH p).at (tv a) - (tH p).at (tv b)):=by
  generalize (tH p).at (tv a)=x at *
  generalize (tH p).at (tv b)=y at *
  have:x - y≠0:=by grind
  rw[Aq,Aq]
  have k1:=Ag _ hne
  have k2:=Ag _ this
  grind
 rw[e4]
 apply Geo.V.ext<;>simp only[Geo.bP,Geo.gO,Geo.gN,Geo.gM,Geo.c9,Geo.c8,Geo.c7]<;>grind
theorem c247 (p:Pl) (a b:Pt) (hp:BPl 1048576 p) (ha:CanP a) (hb:CanP b) (ba:BPt 1048576 a) (bb:BPt 1048576 b) (h:aB p a*aB p b<0):CallOK prog 247 [.agg (eH p),.agg (eP a),.agg (eP b)] [] (.tup [.agg (eP (bO p a b)),.lit (.bool true)]) []:=by
 refine zs func247 47 [.cell 6 51,.tmp 7] results247 ?_
 simp only[aD,Aa]
 obtain⟨hne,hm⟩:=meetR ha hb h
 have cn:=c261 p (hp.mono (by decide))
 have ca:=r6 a ha (ba.mono (by decide))
 have cw:=c262 b a hb ha (bb.mono (by decide)) (ba.mono (by decide))
 obtain⟨qn,qd⟩:=pl_qs hp (by decide)
 have qa:=oQ ha ba
 have qw:=a1d (oQ hb bb) qa
 have c1:=c131 (tH p).n (tv b - tv a) (qn.mono (by decide)) (qw.mono (by decide))
 have c2:=c131 (tH p).n (tv a) (qn.mono (by decide)) (qa.mono (by decide))
 have q1:=a1o qn qw
 have q2:=a1o qn qa
 have q3:=qd.sub q2
 have q4:=q3.div q1 hne
 have q5:=c4n qw q4
 have cs:=c63 _ (q1.mono (show _≤67108864 by decide))
 have cd:=rY (tH p).d (qd.mono (by decide)) _ (q2.mono (show _≤67108864 by decide))
 have ct:=c129 _ (q3.mono (show _≤67108864 by decide)) _ (q1.mono (show _≤67108864 by decide)) hne
 have cm:=c264 (tv b - tv a) _ (qw.mono (by decide)) (q4.mono (show _≤33554432 by decide))
 have q6:QV 33554432 ⟨(tv b - tv a).x*(((tH p).d - Geo.dot (tH p).n (tv a)) / Geo.dot (tH p).n (tv b - tv a)),(tv b - tv a).y*(((tH p).d - Geo.dot (tH p).n (tv a)) / Geo.dot (tH p).n (tv b - tv a)),(tv b - tv a).z*(((tH p).d - Geo.dot (tH p).n (tv a)) / Geo.dot (tH p).n (tv b - tv a))⟩:=⟨(qw.x.mul q4).mono (by decide),(qw.y.mul q4).mono (by decide),(qw.z.mul q4).mono (by decide)⟩
 have cp:=c263 (tv a) _ (qa.mono (by decide)) q6
 have q7:=d0u qa q6
 have co:=c130 _ _ _ (q7.x.mono (show _≤67108864 by decide)) (q7.y.mono (show _≤67108864 by decide)) (q7.z.mono (show _≤67108864 by decide))
 simp only[Geo.gO,Geo.gN,Geo.gM]at co
 rw[hm]at co
 dsimp only at cp
 have k0:(sg (Geo.dot (tH p).n (tv b - tv a)).num=0)=False:=eq_false fun e=>hne (Al.1 (fZ.1 e))
 clear q1 q2 q3 q4 q5 q6 q7 qn qd qa qw hne hm ha hb ba bb hp h
 generalize ((tH p).d - Geo.dot (tH p).n (tv a)) / Geo.dot (tH p).n (tv b - tv a)=T at *
 generalize (tH p).d - Geo.dot (tH p).n (tv a)=D at *
 generalize Geo.dot (tH p).n (tv b - tv a)=B at *
 generalize Geo.dot (tH p).n (tv a)=E at *
 generalize tv b - tv a=W at *
 generalize tv a=A at *
 generalize tH p=H at *
 generalize bO p a b=M at *
 exact z1
theorem c50 (p:Pl) (x:Pt) (hp:BPl 268435456 p) (hx:BPt 268435456 x):CallOK prog 50 [.agg (eH p),.agg (eP x)] [] (.lit (.int .i64 (aB p x))) []:=by
 refine zs func50 35 [.tmp 4] results50 ?_
 simp only[aD,Aa]
 obtain⟨⟨s1,s2,s3,s4⟩⟩:=hp
 obtain⟨⟨r1,r2,r3,r4⟩⟩:=hx
 have t1:=aO p.d x.w s4 r4
 have t2:=aO p.a x.x s1 r1
 have t3:=aO p.b x.y s2 r2
 have t4:=aO p.c x.z s3 r3
 rw[← jK (p.d*x.w)]at t1
 have u1:=fO _ _ t1 t2
 have u2:=fO _ _ u1 (Ac t3)
 have u3:=fO _ _ u2 (Ac (Ac t4))
 have t0:(Zm (p.d*x.w)).size≤536870912:=by rw[← jK];exact t1
 have e:aB p x=sg (-(p.d*x.w)+p.a*x.x+p.b*x.y+p.c*x.z):=by
  unfold aB abv
  congr 1
  omega
 rw[e]
 try have zh0:=(cK (p.d) (x.w) (by omega) (by omega))
 try have zh1:=(cK (p.a) (x.x) (by omega) (by omega))
 try have zh2:=(cK (p.b) (x.y) (by omega) (by omega))
 try have zh3:=(cK (p.c) (x.z) (by omega) (by omega))
 try have zh4:=(rW (p.d*x.w) (by omega))
 try have zh5:=(c114 (-(p.d*x.w)) (p.a*x.x) (by omega) (by omega))
 try have zh6:=(c114 (-(p.d*x.w)+p.a*x.x) (p.b*x.y) (by omega) (by omega))
 try have zh7:=(c114 (-(p.d*x.w)+p.a*x.x+p.b*x.y) (p.c*x.z) (by omega) (by omega))
 try have zh8:=(c86w (-(p.d*x.w)+p.a*x.x+p.b*x.y+p.c*x.z) (by omega))
 exact z1
theorem c51 (p:Pl) (hp:BPl 268435456 p):CallOK prog 51 [.agg (eH p)] [] (.agg (eH (aW p))) []:=by
 refine zs func51 16 [.cell 2 26] results51 ?_
 simp only[aD,Aa]
 obtain⟨⟨s1,s2,s3,s4⟩⟩:=hp
 unfold aW
 try have zh0:=(rW p.a (by omega))
 try have zh1:=(rW p.b (by omega))
 try have zh2:=(rW p.c (by omega))
 try have zh3:=(rW p.d (by omega))
 exact z1
end Go.Proofs.Vx
