import Derived.Test.YtjlfgmhmalbiiaaGreatDoorW15
set_option linter.all false
set_option maxHeartbeats 8000000
open Bool renaming false_eq_true → Aa
open Int renaming le_of_lt → Ah, sign_eq_neg_one_of_neg → Ai, sign_eq_one_of_pos → Am, ediv_emod_unique → Ao, not_lt → Ap, gcd_dvd_right → Aq, neg_mul → At, mul_neg → Au, natCast_add → Av, natAbs_mul → Aw, mul_nonneg → Ax, mul_add → A3, mul_pos → A4
open List renaming getD_eq_getElem?_getD → Ac, getElem?_eq_getElem → Ak
open Nat renaming reduceAdd → Ab, lt_of_le_of_lt → Ae, le_of_lt → Af, mod_lt → Ag, gcd → Al, div_le_self → An, le_trans → Ar, gcd_comm → Az
open Rat renaming divInt → Ad, num_divInt_den → Aj, divInt_ofNat → As, num_divInt → Ay
namespace Go.Proofs.Vx
open Go Go.Sx Go.Proofs Tryz
attribute [local irreducible] fnT CallOK CallFr AW aI callV aL aJ aH aK gcaseP hid
theorem b9e:agT prog 2=some false∧agT prog 24=some true∧agT prog 4=some false∧boT prog 2=false∧boT prog 4=true∧fdT prog 24 0=some (0,1,false)∧fdT prog 24 1=some (1,1,false)∧kiT prog 2=some .i64∧plT prog 24=some [(0,1),(1,1)]∧slT prog 2=none∧bH prog 2=false∧szT prog 24=some 2∧szT prog 4=some 1∧szT prog 9=some 1∧zeT prog 24=some [.lit (.bool false),.lit (.string ⟨#[]⟩)]:=by and_intros<;>kernel_rfl
attribute [go_sem] b9e
theorem c7q:fnT prog 82=true:=by kernel_rfl
theorem b8:fnT prog 137=true:=by kernel_rfl
theorem bK:fnT prog 142=true:=by kernel_rfl
theorem c5m (x y:Int):x*y=if (!decide (Zn x=Zn y))=true then -((nv (Zm x)*nv (Zm y):Nat):Int)else ((nv (Zm x)*nv (Zm y):Nat):Int):=by
 rw[aR,aR,← Aw]
 unfold Zn
 by_cases hx:x<0<;>by_cases hy:y<0<;>simp[hx,hy]
 ·have:=Int.mul_pos_of_neg_of_neg hx hy;omega
 ·have:=Int.mul_nonpos_of_nonpos_of_nonneg (Ah hx) (Ap.1 hy);omega
 ·have:=Int.mul_nonpos_of_nonneg_of_nonpos (Ap.1 hx) (Ah hy);omega
 ·have:=Ax (Ap.1 hx) (Ap.1 hy);omega
theorem c137 (n:Bool) (m:ByteArray):CallOK prog 137 [.lit (.bool n),.lit (.string m)] [] (.agg [.lit (.bool (n&&!decide (m=⟨#[]⟩))),.lit (.string m)]) []:=by
 refine zs func137 12 [.cell 4 24] results137 ?_
 simp only[aD,Ab]
 repeat'(first|refine zk ?_|(refine zu ?_ ?_<;>intro hc)|(refine zv ?_ ?_<;>intro hg)|omega|simp -dsimp (disch:=try exact zo)only[go_sem]|contradiction|rfl)
 all_goals (cases n<;>simp_all)
theorem cE (n:Bool) (k:Nat) (z:Int) (h:z=if n then -(k:Int)else k):CallOK prog 137 [.lit (.bool n),.lit (.string (nb k))] [] (.agg (eZ z)) []:=by
 rw[← b1s n k h];exact c137 n (nb k)
theorem bI (n:Bool) (m:ByteArray) (hm:m.size<4611686018427387904):CallOK prog 142 [.agg (eI n m)] [] (.agg (eZ (iv n m))) []:=by
 refine zs func142 9 [.cell 2 24] results142 ?_
 simp only[aD,Ab]
 repeat'(first|refine zk ?_|(refine zu ?_ ?_<;>intro hc)|(refine zf (fB _ (by omega)) ?_)|(refine callV.flat (.agg (eZ (iv n m))) b8 (cE _ (nv m) (iv n m) (rfl)) rfl rfl ?_)|(refine zv ?_ ?_<;>intro hg)|omega|simp -dsimp (disch:=try exact zo)only[go_sem]|contradiction|rfl)
theorem b2b (a:Int) (ha:(Zm a).size<4611686018427387904):CallOK prog 142 [.agg (eZ a)] [] (.agg (eZ a)) []:=by
 have:=bI (Zn a) (Zm a) ha
 rwa [bA]at this
theorem c67 (z:Int) (h:-9223372036854775808≤z∧z<9223372036854775808):CallOK prog 67 [.lit (.int .i64 z)] [] (.agg (eZ z)) []:=by
 refine zs func67 16 [.cell 2 24] results67 ?_
 simp only[aD,Ab]
 repeat'(first|refine zk ?_|(refine zu ?_ ?_<;>intro hc)|(first|refine callV.flat (.lit (.string (nb (-z).toNat))) lF (by have:=kI (0 - (z+1)+1) (by omega);rw[show (0 - (z+1)+1:Int)=-z by omega]at this ⊢;exact this) rfl rfl ?_|refine zf (kI z (by omega)) ?_)|(first|refine callV.flat (.agg (eZ z)) b8 (cE true (-z).toNat z (by simp only[reduceIte];omega)) rfl rfl ?_|refine callV.flat (.agg (eZ z)) b8 (cE false z.toNat z (by simp only[Aa,reduceIte];omega)) rfl rfl ?_)|(refine zv ?_ ?_<;>intro hg)|omega|simp -dsimp (disch:=try exact zo)only[go_sem]|contradiction|rfl)
theorem c76 (n:Bool) (m:ByteArray) (hm:m.size<4611686018427387904):CallOK prog 76 [.agg (eI n m)] [] (.lit (.int .i64 (sg (iv n m)))) []:=by
 refine zs func76 12 [.tmp 2] results76 ?_
 simp only[aD,Ab]
 repeat'(first|refine zk ?_|(refine zu ?_ ?_<;>intro hc)|(refine zf (bI _ _ (by omega)) ?_)|(refine zv ?_ ?_<;>intro hg)|omega|simp -dsimp (disch:=try exact zo)only[go_sem]|contradiction|rfl)
 all_goals (unfold sg Zn at *;simp_all[zX])
theorem c73 (n:Bool) (m:ByteArray) (hm:m.size<4611686018427387904):CallOK prog 73 [.agg (eI n m)] [] (.agg (eZ (-iv n m))) []:=by
 refine zs func73 11 [.cell 2 24] results73 ?_
 simp only[aD,Ab]
 repeat'(first|refine zk ?_|(refine zu ?_ ?_<;>intro hc)|(refine zf (bI _ _ (by omega)) ?_)|(refine callV.flat (.agg (eZ (-iv n m))) b8 (cE _ ((iv n m).natAbs) (-iv n m) (by unfold Zn;by_cases h:iv n m<0<;>simp[h]<;>omega)) rfl rfl ?_)|(refine zv ?_ ?_<;>intro hg)|omega|simp -dsimp (disch:=try exact zo)only[go_sem]|contradiction|rfl)
theorem e9 (a:Int) (ha:(Zm a).size<4611686018427387904):CallOK prog 76 [.agg (eZ a)] [] (.lit (.int .i64 (sg a))) []:=by
 have:=c76 (Zn a) (Zm a) ha
 rwa [bA]at this
theorem gE (a:Int) (ha:(Zm a).size<4611686018427387904):CallOK prog 73 [.agg (eZ a)] [] (.agg (eZ (-a))) []:=by
 have:=c73 (Zn a) (Zm a) ha
 rwa [bA]at this
theorem c83 (n:Bool) (m:ByteArray) (n':Bool) (m':ByteArray) (hm:m.size<68719476736) (hm':m'.size<68719476736):CallOK prog 83 [.agg (eI n m),.agg (eI n' m')] [] (.agg (eZ (iv n m*iv n' m'))) []:=by
 refine zs func83 20 [.cell 4 24] results83 ?_
 simp only[aD,Ab]
 have sx:=eA n m
 have sy:=eA n' m'
 generalize hx:iv n m=x at *
 generalize hy:iv n' m'=y at *
 repeat'(first|refine zk ?_|(refine zu ?_ ?_<;>intro hc)|(first|refine callV.flat (.agg (eZ x)) bK (hx▸bI n m (by omega)) rfl rfl ?_|refine callV.flat (.agg (eZ y)) bK (hy▸bI n' m' (by omega)) rfl rfl ?_)|(refine zf (c149 _ _ (by omega) (by omega)) ?_)|(refine callV.flat (.agg (eZ (x*y))) b8 (cE _ (nv (Zm x)*nv (Zm y)) (x*y) (c5m x y)) rfl rfl ?_)|(refine zv ?_ ?_<;>intro hg)|omega|simp -dsimp (disch:=try exact zo)only[go_sem]|contradiction|rfl)
theorem lY (a b:ByteArray) (ha:a.size<274877906944) (hb:b.size<274877906944) (h:nv b≤nv a):CallOK prog 148 [.lit (.string a),.lit (.string b)] [] (.tup [.lit (.string (nb (nv a - nv b))),.lit (.bool true)]) []:=by
 have:=c148 a b ha hb
 rwa [if_neg (by omega),decide_eq_true h]at this
theorem a2c (a b:ByteArray) (ha:a.size<274877906944) (hb:b.size<274877906944) (h:nv a<nv b):CallOK prog 148 [.lit (.string a),.lit (.string b)] [] (.tup [.lit (.string ⟨#[]⟩),.lit (.bool false)]) []:=by
 have:=c148 a b ha hb
 rwa [if_pos h,decide_eq_false (by omega)]at this
theorem qZ {x y:Int} (hs:Zn x=Zn y):x+y=if Zn x=true then -((nv (Zm x)+nv (Zm y):Nat):Int)else ((nv (Zm x)+nv (Zm y):Nat):Int):=by
 simp only[aR]
 unfold Zn at hs ⊢
 by_cases h:x<0<;>by_cases h':y<0<;>simp[h,h']at hs ⊢<;>omega
theorem qY {x y:Int} (hs:¬ Zn x=Zn y) (hle:y.natAbs≤x.natAbs):x+y=if Zn x=true then -((nv (Zm x) - nv (Zm y):Nat):Int)else ((nv (Zm x) - nv (Zm y):Nat):Int):=by
 simp only[aR]
 unfold Zn at hs ⊢
 by_cases h:x<0<;>by_cases h':y<0<;>simp only[h,h',decide_true,decide_false,reduceIte,not_true_eq_false,Aa]at hs ⊢<;>omega
theorem qX {x y:Int} (hs:¬ Zn x=Zn y) (hle:¬ y.natAbs≤x.natAbs):x+y=if Zn y=true then -((nv (Zm y) - nv (Zm x):Nat):Int)else ((nv (Zm y) - nv (Zm x):Nat):Int):=by
 simp only[aR]
 unfold Zn at hs ⊢
 by_cases h:x<0<;>by_cases h':y<0<;>simp only[h,h',decide_true,decide_false,reduceIte,not_true_eq_false,Aa]at hs ⊢<;>omega
theorem c82 (n:Bool) (m:ByteArray) (n':Bool) (m':ByteArray) (hm:m.size<68719476736) (hm':m'.size<68719476736):CallOK prog 82 [.agg (eI n m),.agg (eI n' m')] [] (.agg (eZ (iv n m+iv n' m'))) []:=by
 refine zs func82 51 [.cell 4 24] results82 ?_
 simp only[aD,Ab]
 have sx:=eA n m
 have sy:=eA n' m'
 generalize hx:iv n m=x at *
 generalize hy:iv n' m'=y at *
 by_cases hs:Zn x=Zn y
 ·have hT:=eq_true hs
  repeat'(first|refine zk ?_|(refine zu ?_ ?_<;>intro hc)|(first|refine callV.flat (.agg (eZ x)) bK (hx▸bI n m (by omega)) rfl rfl ?_|refine callV.flat (.agg (eZ y)) bK (hy▸bI n' m' (by omega)) rfl rfl ?_)|(refine zf (l9 _ _ (by omega) (by omega)) ?_)|(first|refine zf (lY _ _ (by omega) (by omega) (by simp only[aR];omega)) ?_|refine zf (a2c _ _ (by omega) (by omega) (by simp only[aR];omega)) ?_)|(first|refine callV.flat (.agg (eZ (x+y))) b8 (cE (Zn x) _ _ (qZ hs)) rfl rfl ?_|refine callV.flat (.agg (eZ (x+y))) b8 (cE (Zn x) _ _ (qY hs hle)) rfl rfl ?_|refine callV.flat (.agg (eZ (x+y))) b8 (cE (Zn y) _ _ (qX hs hle)) rfl rfl ?_)|(refine zv ?_ ?_<;>intro hg)|omega|simp -dsimp (disch:=try exact zo)only[go_sem,hT]|contradiction|rfl)
 ·have hT:=eq_false hs
  by_cases hle:y.natAbs≤x.natAbs
  ·repeat'(first|refine zk ?_|(refine zu ?_ ?_<;>intro hc)|(first|refine callV.flat (.agg (eZ x)) bK (hx▸bI n m (by omega)) rfl rfl ?_|refine callV.flat (.agg (eZ y)) bK (hy▸bI n' m' (by omega)) rfl rfl ?_)|(refine zf (l9 _ _ (by omega) (by omega)) ?_)|(first|refine zf (lY _ _ (by omega) (by omega) (by simp only[aR];omega)) ?_|refine zf (a2c _ _ (by omega) (by omega) (by simp only[aR];omega)) ?_)|(first|refine callV.flat (.agg (eZ (x+y))) b8 (cE (Zn x) _ _ (qZ hs)) rfl rfl ?_|refine callV.flat (.agg (eZ (x+y))) b8 (cE (Zn x) _ _ (qY hs hle)) rfl rfl ?_|refine callV.flat (.agg (eZ (x+y))) b8 (cE (Zn y) _ _ (qX hs hle)) rfl rfl ?_)|(refine zv ?_ ?_<;>intro hg)|omega|simp -dsimp (disch:=try exact zo)only[go_sem,hT]|contradiction|rfl)
  ·repeat'(first|refine zk ?_|(refine zu ?_ ?_<;>intro hc)|(first|refine callV.flat (.agg (eZ x)) bK (hx▸bI n m (by omega)) rfl rfl ?_|refine callV.flat (.agg (eZ y)) bK (hy▸bI n' m' (by omega)) rfl rfl ?_)|(refine zf (l9 _ _ (by omega) (by omega)) ?_)|(first|refine zf (lY _ _ (by omega) (by omega) (by simp only[aR];omega)) ?_|refine zf (a2c _ _ (by omega) (by omega) (by simp only[aR];omega)) ?_)|(first|refine callV.flat (.agg (eZ (x+y))) b8 (cE (Zn x) _ _ (qZ hs)) rfl rfl ?_|refine callV.flat (.agg (eZ (x+y))) b8 (cE (Zn x) _ _ (qY hs hle)) rfl rfl ?_|refine callV.flat (.agg (eZ (x+y))) b8 (cE (Zn y) _ _ (qX hs hle)) rfl rfl ?_)|(refine zv ?_ ?_<;>intro hg)|omega|simp -dsimp (disch:=try exact zo)only[go_sem,hT]|contradiction|rfl)
theorem nO (a b:Int) (ha:(Zm a).size<68719476736) (hb:(Zm b).size<68719476736):CallOK prog 82 [.agg (eZ a),.agg (eZ b)] [] (.agg (eZ (a+b))) []:=by
 have:=c82 (Zn a) (Zm a) (Zn b) (Zm b) ha hb
 rwa [bA,bA]at this
theorem aX (a b:Int) (ha:(Zm a).size<68719476736) (hb:(Zm b).size<68719476736):CallOK prog 83 [.agg (eZ a),.agg (eZ b)] [] (.agg (eZ (a*b))) []:=by
 have:=c83 (Zn a) (Zm a) (Zn b) (Zm b) ha hb
 rwa [bA,bA]at this
theorem c166 (n:Bool) (m:ByteArray) (n':Bool) (m':ByteArray) (hm:m.size<68719476736) (hm':m'.size<68719476736):CallOK prog 166 [.agg (eI n m),.agg (eI n' m')] [] (.agg (eZ (iv n m - iv n' m'))) []:=by
 refine zs func166 9 [.cell 4 24] results166 ?_
 simp only[aD,Ab]
 repeat'(first|refine zk ?_|(refine zu ?_ ?_<;>intro hc)|(refine zf (c73 n' m' (by omega)) ?_)|(refine callV.flat (.agg (eZ (iv n m - iv n' m'))) c7q (by have:=c82 n m (Zn (-iv n' m')) (Zm (-iv n' m')) (by omega) (by rw[jK];have:=eA n' m';omega);rw[bA]at this;exact this) rfl rfl ?_)|(refine zv ?_ ?_<;>intro hg)|omega|simp -dsimp (disch:=try exact zo)only[go_sem]|contradiction|rfl)
theorem rJ (a b:Int) (ha:(Zm a).size<68719476736) (hb:(Zm b).size<68719476736):CallOK prog 166 [.agg (eZ a),.agg (eZ b)] [] (.agg (eZ (a - b))) []:=by
 have:=c166 (Zn a) (Zm a) (Zn b) (Zm b) ha hb
 rwa [bA,bA]at this
theorem c97 (n:Bool) (m:ByteArray) (n':Bool) (m':ByteArray) (hm:m.size<68719476736) (hm':m'.size<68719476736):CallOK prog 97 [.agg (eI n m),.agg (eI n' m')] [] (.lit (.int .i64 (sg (iv n m - iv n' m')))) []:=by
 refine zs func97 9 [.tmp 4] results97 ?_
 simp only[aD,Ab]
 try have zh0:=(c166 n m n' m' (by omega) (by omega))
 try have zh1:=(e9 (iv n m - iv n' m') (by have:=lJ (iv n m) (iv n' m') (k:=68719476736) (by have:=eA n m;omega) (by have:=eA n' m';omega);omega))
 exact z1
theorem gD (a b:Int) (ha:(Zm a).size<68719476736) (hb:(Zm b).size<68719476736):CallOK prog 97 [.agg (eZ a),.agg (eZ b)] [] (.lit (.int .i64 (sg (a - b)))) []:=by
 have:=c97 (Zn a) (Zm a) (Zn b) (Zm b) ha hb
 rwa [bA,bA]at this
end Go.Proofs.Vx
namespace Go.Proofs.Vx
open Go Go.Sx Go.Proofs Tryz
attribute [local irreducible] fnT CallOK CallFr AW aI callV aL aJ aH aK gcaseP hid
theorem b9d:arT prog 112=none∧slT prog 112=some (24,2)∧bH prog 112=false:=by and_intros<;>kernel_rfl
attribute [go_sem] b9d
theorem rI (a b:ByteArray) (ha:a.size<274877906944) (hb:b.size<274877906944) (h:nv b≠0):CallOK prog 191 [.lit (.string a),.lit (.string b)] [] (.tup [.lit (.string (nb (nv a / nv b))),.lit (.string (nb (nv a % nv b))),.lit (.bool true)]) []:=by
 have:=c191 a b ha hb
 rwa [if_neg h,decide_eq_true h]at this
theorem c191f (a b:ByteArray) (ha:a.size<274877906944) (hb:b.size<274877906944) (h:nv b=0):CallOK prog 191 [.lit (.string a),.lit (.string b)] [] (.tup [.lit (.string ⟨#[]⟩),.lit (.string ⟨#[]⟩),.lit (.bool false)]) []:=by
 have:=c191 a b ha hb
 rwa [if_pos h,h,Nat.div_zero,dJ,decide_eq_false (by simp)]at this
theorem ed {x y q r:Int} (hy:y≠0) (h:r+y*q=x) (h0:0≤r) (h1:r<y.natAbs):x / y=q∧x % y=r:=by
 by_cases hp:0<y
 ·exact (Ao hp).2 ⟨h,h0,by omega⟩
 ·have hn:0 < -y:=by omega
  have:=(Ao (a:=x) (b:=-y) (r:=r) (q:=-q) hn).2 ⟨by rw[Int.neg_mul_neg];exact h,h0,by omega⟩
  rw[Int.ediv_neg,Int.emod_neg]at this
  exact⟨by omega,this.2⟩
theorem dm (A B:Nat) (hB:B≠0):((A % B:Nat):Int)+(B:Int)*((A / B:Nat):Int)=A∧((A % B:Nat):Int)<B:=by
 have h1:=Nat.mod_add_div A B
 have h2:=Ag A (Nat.pos_of_ne_zero hB)
 exact⟨by exact_mod_cast h1,by omega⟩
theorem dpp {x y:Int} (hx:0≤x) (hy:0<y):x / y=((x.natAbs / y.natAbs:Nat):Int)∧x % y=((x.natAbs % y.natAbs:Nat):Int):=by
 obtain⟨h1,h2⟩:=dm x.natAbs y.natAbs (by omega)
 exact ed (by omega) (by rw[show (y.natAbs:Int)=y by omega]at h1;omega) (by omega) h2
theorem dpn {x y:Int} (hx:0≤x) (hy:y<0):x / y=-((x.natAbs / y.natAbs:Nat):Int)∧x % y=((x.natAbs % y.natAbs:Nat):Int):=by
 obtain⟨h1,h2⟩:=dm x.natAbs y.natAbs (by omega)
 refine ed (by omega) ?_ (by omega) h2
 rw[show (y.natAbs:Int)=-y by omega,At]at h1
 rw[Au];omega
theorem dnp0 {x y:Int} (hx:x<0) (hy:0<y) (h0:x.natAbs % y.natAbs=0):x / y=-((x.natAbs / y.natAbs:Nat):Int)∧x % y=((x.natAbs % y.natAbs:Nat):Int):=by
 obtain⟨h1,h2⟩:=dm x.natAbs y.natAbs (by omega)
 refine ed (by omega) ?_ (by omega) h2
 rw[h0]at h1 ⊢
 rw[show (y.natAbs:Int)=y by omega]at h1
 rw[Au];omega
theorem dnn0 {x y:Int} (hx:x<0) (hy:y<0) (h0:x.natAbs % y.natAbs=0):x / y=((x.natAbs / y.natAbs:Nat):Int)∧x % y=((x.natAbs % y.natAbs:Nat):Int):=by
 obtain⟨h1,h2⟩:=dm x.natAbs y.natAbs (by omega)
 refine ed (by omega) ?_ (by omega) h2
 rw[h0]at h1 ⊢
 rw[show (y.natAbs:Int)=-y by omega,At]at h1
 omega
theorem dnp1 {x y:Int} (hx:x<0) (hy:0<y) (h0:x.natAbs % y.natAbs≠0):x / y=-((x.natAbs / y.natAbs+1:Nat):Int)∧x % y=((y.natAbs - x.natAbs % y.natAbs:Nat):Int):=by
 obtain⟨h1,h2⟩:=dm x.natAbs y.natAbs (by omega)
 have h3:((y.natAbs - x.natAbs % y.natAbs:Nat):Int)=y.natAbs - (x.natAbs % y.natAbs:Nat):=by omega
 refine ed (by omega) ?_ (by omega) (by omega)
 rw[h3]
 rw[show (y.natAbs:Int)=y by omega]at h1 ⊢
 rw[Av,Au,A3];omega
theorem dnn1 {x y:Int} (hx:x<0) (hy:y<0) (h0:x.natAbs % y.natAbs≠0):x / y=((x.natAbs / y.natAbs+1:Nat):Int)∧x % y=((y.natAbs - x.natAbs % y.natAbs:Nat):Int):=by
 obtain⟨h1,h2⟩:=dm x.natAbs y.natAbs (by omega)
 have h3:((y.natAbs - x.natAbs % y.natAbs:Nat):Int)=y.natAbs - (x.natAbs % y.natAbs:Nat):=by omega
 refine ed (by omega) ?_ (by omega) (by omega)
 rw[h3]
 rw[show (y.natAbs:Int)=-y by omega,At]at h1
 rw[show (y.natAbs:Int)=-y by omega,Av,A3];omega
theorem c165 (n:Bool) (m:ByteArray) (n':Bool) (m':ByteArray) (hm:m.size<68719476736) (hm':m'.size<68719476736):CallOK prog 165 [.agg (eI n m),.agg (eI n' m')] [] (if iv n' m'=0 then .tup [.agg (eZ 0),.agg (eZ 0),.lit (.bool false)]else .tup [.agg (eZ (iv n m / iv n' m')),.agg (eZ (iv n m % iv n' m')),.lit (.bool true)]) []:=by
 refine CallOK.flat func165 rfl 53 rfl rfl (by split<;>rfl) [.cell 4 24,.cell 5 24,.tmp 6] (congrArg Array.toList results165) ?_
 simp only[aD,Ab]
 have sx:=eA n m
 have sy:=eA n' m'
 generalize hx:iv n m=x at *
 generalize hy:iv n' m'=y at *
 by_cases hy0:y=0
 ·rw[if_pos hy0]
  have e0:eZ 0=[.lit (.bool false),.lit (.string ⟨#[]⟩)]:=by simp[eZ,Zn,Zm,dJ]
  rw[e0]
  repeat'(first|refine zk ?_|(refine zu ?_ ?_<;>intro hc)|(first|refine callV.flat (.agg (eZ x)) bK (hx▸bI n m (by omega)) rfl rfl ?_|refine callV.flat (.agg (eZ y)) bK (hy▸bI n' m' (by omega)) rfl rfl ?_)|(refine zf (c191f (Zm x) (Zm y) (by omega) (by omega) (by rw[aR];omega)) ?_)|(refine zv ?_ ?_<;>intro hg)|omega|simp -dsimp (disch:=try exact zo)only[go_sem]|contradiction|rfl)
 ·rw[if_neg hy0]
  have s1:(nb 1).size≤1:=(b9 _ _).2 (by decide)
  have s2:(nb (nv (Zm x) / nv (Zm y))).size≤(Zm x).size:=(b9 _ _).2 (Ae (An _ _) (eW _))
  have s3:(nb (nv (Zm x) % nv (Zm y))).size≤(Zm x).size:=(b9 _ _).2 (Ae (Nat.mod_le _ _) (eW _))
  have s4:(nb (nv (Zm y))).size≤(Zm y).size:=(b9 _ _).2 (eW _)
  by_cases hxs:x<0
  ·by_cases hr0:x.natAbs % y.natAbs=0
   ·by_cases hys:y<0
    ·have hzx:Zn x=true:=oJ hxs
     have hzy:Zn y=true:=oJ hys
     have d:=dnn0 hxs hys hr0
     have hr:(nb (nv (Zm x) % nv (Zm y))=⟨#[]⟩)=True:=eq_true ((fW _).2 (by rw[aR,aR];exact hr0))
     repeat'(first|refine zk ?_|(refine zu ?_ ?_<;>intro hc)|(first|refine callV.flat (.agg (eZ x)) bK (hx▸bI n m (by omega)) rfl rfl ?_|refine callV.flat (.agg (eZ y)) bK (hy▸bI n' m' (by omega)) rfl rfl ?_)|(refine zf (rI (Zm x) (Zm y) (by omega) (by omega) (by rw[aR];omega)) ?_)|(refine zf (fB (Zm y) (by omega)) ?_)|(refine callV.flat (.lit (.string (nb 1))) lF (kI 1 (by omega)) rfl rfl ?_)|(refine zf (l9 (nb (nv (Zm x) / nv (Zm y))) (nb 1) (by omega) (by omega)) ?_)|(refine zf (lY (nb (nv (Zm y))) (nb (nv (Zm x) % nv (Zm y))) (by omega) (by omega) (by rw[aU,aU];exact Af (Ag _ (by rw[aR];omega)))) ?_)|(first|refine callV.flat (.agg (eZ (x / y))) b8 (cE _ _ _ (by simp only[reduceIte,Aa,aU,aR];first|exact d.1|exact d.2)) rfl rfl ?_|refine callV.flat (.agg (eZ (x % y))) b8 (cE _ _ _ (by simp only[reduceIte,Aa,aU,aR];first|exact d.1|exact d.2)) rfl rfl ?_)|(refine zv ?_ ?_<;>intro hg)|omega|simp -dsimp (disch:=try exact zo)only[go_sem,hzx,hzy,hr]|contradiction|rfl)
    ·have hys:0<y:=by omega
     have hzx:Zn x=true:=oJ hxs
     have hzy:Zn y=false:=kZ (Ah hys)
     have d:=dnp0 hxs hys hr0
     have hr:(nb (nv (Zm x) % nv (Zm y))=⟨#[]⟩)=True:=eq_true ((fW _).2 (by rw[aR,aR];exact hr0))
     repeat'(first|refine zk ?_|(refine zu ?_ ?_<;>intro hc)|(first|refine callV.flat (.agg (eZ x)) bK (hx▸bI n m (by omega)) rfl rfl ?_|refine callV.flat (.agg (eZ y)) bK (hy▸bI n' m' (by omega)) rfl rfl ?_)|(refine zf (rI (Zm x) (Zm y) (by omega) (by omega) (by rw[aR];omega)) ?_)|(refine zf (fB (Zm y) (by omega)) ?_)|(refine callV.flat (.lit (.string (nb 1))) lF (kI 1 (by omega)) rfl rfl ?_)|(refine zf (l9 (nb (nv (Zm x) / nv (Zm y))) (nb 1) (by omega) (by omega)) ?_)|(refine zf (lY (nb (nv (Zm y))) (nb (nv (Zm x) % nv (Zm y))) (by omega) (by omega) (by rw[aU,aU];exact Af (Ag _ (by rw[aR];omega)))) ?_)|(first|refine callV.flat (.agg (eZ (x / y))) b8 (cE _ _ _ (by simp only[reduceIte,Aa,aU,aR];first|exact d.1|exact d.2)) rfl rfl ?_|refine callV.flat (.agg (eZ (x % y))) b8 (cE _ _ _ (by simp only[reduceIte,Aa,aU,aR];first|exact d.1|exact d.2)) rfl rfl ?_)|(refine zv ?_ ?_<;>intro hg)|omega|simp -dsimp (disch:=try exact zo)only[go_sem,hzx,hzy,hr]|contradiction|rfl)
   ·by_cases hys:y<0
    ·have hzx:Zn x=true:=oJ hxs
     have hzy:Zn y=true:=oJ hys
     have d:=dnn1 hxs hys hr0
     have hr:(nb (nv (Zm x) % nv (Zm y))=⟨#[]⟩)=False:=eq_false fun h=>hr0 (by have:=(fW _).1 h;rwa [aR,aR]at this)
     repeat'(first|refine zk ?_|(refine zu ?_ ?_<;>intro hc)|(first|refine callV.flat (.agg (eZ x)) bK (hx▸bI n m (by omega)) rfl rfl ?_|refine callV.flat (.agg (eZ y)) bK (hy▸bI n' m' (by omega)) rfl rfl ?_)|(refine zf (rI (Zm x) (Zm y) (by omega) (by omega) (by rw[aR];omega)) ?_)|(refine zf (fB (Zm y) (by omega)) ?_)|(refine callV.flat (.lit (.string (nb 1))) lF (kI 1 (by omega)) rfl rfl ?_)|(refine zf (l9 (nb (nv (Zm x) / nv (Zm y))) (nb 1) (by omega) (by omega)) ?_)|(refine zf (lY (nb (nv (Zm y))) (nb (nv (Zm x) % nv (Zm y))) (by omega) (by omega) (by rw[aU,aU];exact Af (Ag _ (by rw[aR];omega)))) ?_)|(first|refine callV.flat (.agg (eZ (x / y))) b8 (cE _ _ _ (by simp only[reduceIte,Aa,aU,aR];first|exact d.1|exact d.2)) rfl rfl ?_|refine callV.flat (.agg (eZ (x % y))) b8 (cE _ _ _ (by simp only[reduceIte,Aa,aU,aR];first|exact d.1|exact d.2)) rfl rfl ?_)|(refine zv ?_ ?_<;>intro hg)|omega|simp -dsimp (disch:=try exact zo)only[go_sem,hzx,hzy,hr]|contradiction|rfl)
    ·have hys:0<y:=by omega
     have hzx:Zn x=true:=oJ hxs
     have hzy:Zn y=false:=kZ (Ah hys)
     have d:=dnp1 hxs hys hr0
     have hr:(nb (nv (Zm x) % nv (Zm y))=⟨#[]⟩)=False:=eq_false fun h=>hr0 (by have:=(fW _).1 h;rwa [aR,aR]at this)
     repeat'(first|refine zk ?_|(refine zu ?_ ?_<;>intro hc)|(first|refine callV.flat (.agg (eZ x)) bK (hx▸bI n m (by omega)) rfl rfl ?_|refine callV.flat (.agg (eZ y)) bK (hy▸bI n' m' (by omega)) rfl rfl ?_)|(refine zf (rI (Zm x) (Zm y) (by omega) (by omega) (by rw[aR];omega)) ?_)|(refine zf (fB (Zm y) (by omega)) ?_)|(refine callV.flat (.lit (.string (nb 1))) lF (kI 1 (by omega)) rfl rfl ?_)|(refine zf (l9 (nb (nv (Zm x) / nv (Zm y))) (nb 1) (by omega) (by omega)) ?_)|(refine zf (lY (nb (nv (Zm y))) (nb (nv (Zm x) % nv (Zm y))) (by omega) (by omega) (by rw[aU,aU];exact Af (Ag _ (by rw[aR];omega)))) ?_)|(first|refine callV.flat (.agg (eZ (x / y))) b8 (cE _ _ _ (by simp only[reduceIte,Aa,aU,aR];first|exact d.1|exact d.2)) rfl rfl ?_|refine callV.flat (.agg (eZ (x % y))) b8 (cE _ _ _ (by simp only[reduceIte,Aa,aU,aR];first|exact d.1|exact d.2)) rfl rfl ?_)|(refine zv ?_ ?_<;>intro hg)|omega|simp -dsimp (disch:=try exact zo)only[go_sem,hzx,hzy,hr]|contradiction|rfl)
  ·have hxs:0≤x:=by omega
   by_cases hys:y<0
   ·have hzx:Zn x=false:=kZ hxs
    have hzy:Zn y=true:=oJ hys
    have d:=dpn hxs hys
    have hr:True:=trivial
    repeat'(first|refine zk ?_|(refine zu ?_ ?_<;>intro hc)|(first|refine callV.flat (.agg (eZ x)) bK (hx▸bI n m (by omega)) rfl rfl ?_|refine callV.flat (.agg (eZ y)) bK (hy▸bI n' m' (by omega)) rfl rfl ?_)|(refine zf (rI (Zm x) (Zm y) (by omega) (by omega) (by rw[aR];omega)) ?_)|(refine zf (fB (Zm y) (by omega)) ?_)|(refine callV.flat (.lit (.string (nb 1))) lF (kI 1 (by omega)) rfl rfl ?_)|(refine zf (l9 (nb (nv (Zm x) / nv (Zm y))) (nb 1) (by omega) (by omega)) ?_)|(refine zf (lY (nb (nv (Zm y))) (nb (nv (Zm x) % nv (Zm y))) (by omega) (by omega) (by rw[aU,aU];exact Af (Ag _ (by rw[aR];omega)))) ?_)|(first|refine callV.flat (.agg (eZ (x / y))) b8 (cE _ _ _ (by simp only[reduceIte,Aa,aU,aR];first|exact d.1|exact d.2)) rfl rfl ?_|refine callV.flat (.agg (eZ (x % y))) b8 (cE _ _ _ (by simp only[reduceIte,Aa,aU,aR];first|exact d.1|exact d.2)) rfl rfl ?_)|(refine zv ?_ ?_<;>intro hg)|omega|simp -dsimp (disch:=try exact zo)only[go_sem,hzx,hzy,hr]|contradiction|rfl)
   ·have hys:0<y:=by omega
    have hzx:Zn x=false:=kZ hxs
    have hzy:Zn y=false:=kZ (Ah hys)
    have d:=dpp hxs hys
    have hr:True:=trivial
    repeat'(first|refine zk ?_|(refine zu ?_ ?_<;>intro hc)|(first|refine callV.flat (.agg (eZ x)) bK (hx▸bI n m (by omega)) rfl rfl ?_|refine callV.flat (.agg (eZ y)) bK (hy▸bI n' m' (by omega)) rfl rfl ?_)|(refine zf (rI (Zm x) (Zm y) (by omega) (by omega) (by rw[aR];omega)) ?_)|(refine zf (fB (Zm y) (by omega)) ?_)|(refine callV.flat (.lit (.string (nb 1))) lF (kI 1 (by omega)) rfl rfl ?_)|(refine zf (l9 (nb (nv (Zm x) / nv (Zm y))) (nb 1) (by omega) (by omega)) ?_)|(refine zf (lY (nb (nv (Zm y))) (nb (nv (Zm x) % nv (Zm y))) (by omega) (by omega) (by rw[aU,aU];exact Af (Ag _ (by rw[aR];omega)))) ?_)|(first|refine callV.flat (.agg (eZ (x / y))) b8 (cE _ _ _ (by simp only[reduceIte,Aa,aU,aR];first|exact d.1|exact d.2)) rfl rfl ?_|refine callV.flat (.agg (eZ (x % y))) b8 (cE _ _ _ (by simp only[reduceIte,Aa,aU,aR];first|exact d.1|exact d.2)) rfl rfl ?_)|(refine zv ?_ ?_<;>intro hg)|omega|simp -dsimp (disch:=try exact zo)only[go_sem,hzx,hzy,hr]|contradiction|rfl)
theorem gL (a b:Int) (ha:(Zm a).size<68719476736) (hb:(Zm b).size<68719476736) (h:b≠0):CallOK prog 165 [.agg (eZ a),.agg (eZ b)] [] (.tup [.agg (eZ (a / b)),.agg (eZ (a % b)),.lit (.bool true)]) []:=by
 have:=c165 (Zn a) (Zm a) (Zn b) (Zm b) ha hb
 rwa [bA,bA,if_neg h]at this
abbrev RI:=Bool × ByteArray
def ris (l:List RI):List (List AV):=l.map fun p=>eI p.1 p.2
def i8 (l:List RI):Nat:=l.foldl (fun g p=>Al g (nv p.2)) 0
theorem yS (l:List RI):(ris l).length=l.length:=by simp[ris]
theorem b9v (l:List RI) (i:Nat) (h:i<l.length):(ris l).getD i []=eI (l.getD i (false,⟨#[]⟩)).1 (l.getD i (false,⟨#[]⟩)).2:=by
 simp[ris,Ac,h]
theorem c9a {K:Nat→Prop} (l:List RI):(∀ e∈ris l,∀ c∈e,In K c)=True:=by
 apply eq_true
 intro e he c hc
 obtain⟨p,_,rfl⟩:=List.mem_map.1 he
 simp only[zM,or_false]at hc
 rcases hc with rfl|rfl<;>exact .lit _
theorem b7d (l:List RI) (i:Nat) (h:i<l.length):i8 (l.take (i+1))=Al (i8 (l.take i)) (nv (l.getD i (false,⟨#[]⟩)).2):=by
 unfold i8
 rw[List.take_add_one,List.foldl_append,Ak h]
 simp[Ac,h]
attribute [go_sem] c9a
theorem c167 (l:List RI) (h:∀ p∈l,p.2.size<68719476736) (hn:l.length<1099511627776):CallOK prog 167 [.sl (ris l)] [] (.agg (eZ (i8 l:Int))) []:=by
 refine zs func167 19 [.cell 2 24] results167 ?_
 simp only[aD,Ab]
 repeat'(first|refine zk ?_|(refine zu ?_ ?_<;>intro hc)|(refine zv ?_ ?_<;>intro hg)|omega|simp -dsimp (disch:=try exact zo)only[go_sem,yS]|contradiction|rfl)
 refine AW.loop (fun z:{p:Nat × Nat // p.1≤l.length∧p.2=i8 (l.take p.1)∧(nb p.2).size<68719476736}=>⟨[(8,.lit (.int .i64 z.1.1)),(7,.lit (.int .i64 l.length)),(6,.sl (ris l)),(3,.lit (.string (nb z.1.2))),(2,.loc 8 0)],[(8,.blk [.lit (.bool false),.lit (.string ⟨#[]⟩)])],20⟩) (fun z=>l.length - z.1.1) ⟨(0,0),Nat.zero_le _,rfl,by rw[u7];omega⟩ (aQ (by refine⟨?_,?_,?_,?_⟩<;>simp -dsimp (disch:=try exact zo)only[go_sem,dJ,ZC])) ?_
 rintro⟨⟨i,g⟩,hi,hg,hs⟩
 dsimp only at hi hg hs ⊢
 by_cases hlt:i<l.length
 ·have hp:=h (l.getD i (false,⟨#[]⟩)) (by rw[Ac,Ak hlt];exact List.getElem_mem _)
  have eg:=b9v l i hlt
  have hgs:(nb (Al g (nv (l.getD i (false,⟨#[]⟩)).2))).size<68719476736:=by
   by_cases h0:g=0
   ·subst h0
    rw[Nat.gcd_zero_left]
    have:=dH (l.getD i (false,⟨#[]⟩)).2
    omega
   ·have:(nb (Al g (nv (l.getD i (false,⟨#[]⟩)).2))).size≤(nb g).size:=(b9 _ _).2 (Ae (Nat.le_of_dvd (by omega) (Nat.gcd_dvd_left _ _)) ((b9 _ _).1 (Nat.le_refl _)))
    omega
  generalize hq:l.getD i (false,⟨#[]⟩)=q at *
  have hgt:=b7d l i hlt
  rw[hq,← hg]at hgt
  repeat'(first|refine zk ?_|(refine zu ?_ ?_<;>intro hc)|(refine zf (uU _ _ (by omega) (by omega)) ?_)|(refine zv ?_ ?_<;>intro hg)|omega|simp -dsimp (disch:=try exact zo)only[go_sem,yS,eg,aU]|contradiction|rfl)
  all_goals exact AW.stop ⟨⟨(i+1,Al g (nv q.2)),by dsimp only;omega,hgt.symm,hgs⟩,(aQ (by refine⟨?_,?_,?_,?_⟩<;>simp -dsimp (disch:=try exact zo)only[go_sem,dJ,ZC])),by dsimp only;omega⟩
 ·have hil:i=l.length:=by omega
  subst hil
  rw[List.take_length]at hg
  subst hg
  repeat'(first|refine zk ?_|(refine zu ?_ ?_<;>intro hc)|(refine callV.flat (.agg (eZ (i8 l:Int))) b8 (cE false (i8 l) _ rfl) rfl rfl ?_)|(refine zv ?_ ?_<;>intro hg)|omega|simp -dsimp (disch:=try exact zo)only[go_sem,yS]|contradiction|rfl)
  all_goals skip
end Go.Proofs.Vx
namespace Go.Sx
set_option linter.unusedVariables false
def Qd (q:Rat):ByteArray:=if q.den=1 then ⟨#[]⟩else nb q.den
abbrev eQ (q:Rat):List AV:=[.lit (.bool (Zn q.num)),.lit (.string (Zm q.num)),.lit (.string (Qd q))]
theorem uB:nb 1=⟨#[1]⟩:=by
 unfold nb
 rw[p5 (by decide),kV]
 rfl
theorem a4n (k:Nat):(nb k=⟨#[1]⟩)↔k=1:=by
 constructor
 ·intro h;rw[← uB]at h;exact qO h
 ·rintro rfl;exact uB
theorem a1k {n d:Int} (hd:d≠0):d.natAbs / Al n.natAbs d.natAbs=(Ad n d).den:=by
 rw[Rat.den_divInt,if_neg hd]
 congr 1
 rw[Int.gcd,Az]
theorem xK {n d:Int} (hd:d≠0):n.natAbs / Al n.natAbs d.natAbs=(Ad n d).num.natAbs:=by
 rw[Ay]
 have hg:(d.gcd n:Int)∣n:=Aq ..
 have e:d.gcd n=Al n.natAbs d.natAbs:=by rw[Int.gcd,Az]
 rw[← e]
 have h1:(d.gcd n:Int)∣d.sign*n:=Int.dvd_trans hg (Int.dvd_mul_left ..)
 rw[Int.natAbs_ediv_of_dvd h1,Aw,Int.natAbs_sign_of_ne_zero hd,Nat.one_mul,Int.natAbs_natCast]
theorem a9x {n d:Int} (hn:n≠0) (hd:d≠0):(!decide (Zn n=Zn d))=Zn (Ad n d).num:=by
 rw[Ay]
 have hgp:0<d.gcd n:=Int.gcd_pos_of_ne_zero_left _ hd
 obtain⟨k,hk⟩:(d.gcd n:Int)∣n:=Aq ..
 have e:d.sign*n / (d.gcd n:Int)=d.sign*k:=by
  have:d.sign*n=(d.gcd n:Int)*(d.sign*k):=by
   conv=>lhs;rw[hk]
   rw[Int.mul_left_comm]
  rw[this,Int.mul_ediv_cancel_left _ (by omega)]
 rw[e]
 have hkn:(n<0↔k<0):=by
  constructor
  ·intro h
   apply Int.not_le.1
   intro h2
   have:=Ax (show (0:Int)≤(d.gcd n:Int) by omega) h2
   omega
  ·intro h
   have:=Int.mul_neg_of_pos_of_neg (show (0:Int)<(d.gcd n:Int) by omega) h
   omega
 have hk0:k≠0:=by intro h;rw[h]at hk;omega
 unfold Zn
 by_cases h1:n<0<;>by_cases h2:d<0
 ·rw[Ai h2];simp[h1,h2];omega
 ·rw[Am (by omega)];simp[h1,h2];omega
 ·rw[Ai h2];simp[h1,h2];omega
 ·rw[Am (by omega)];simp[h1,h2];omega
structure Qs (k:Nat) (q:Rat):Prop where
 num:(Zm q.num).size≤k
 den:(nb q.den).size≤k
theorem Qs.mono {k l:Nat} {q:Rat} (h:Qs k q) (hl:k≤l):Qs l q:=⟨Ar h.num hl,Ar h.den hl⟩
theorem Qs.divInt {n d:Int} {k:Nat} (hd:d≠0) (h1:(Zm n).size≤k) (h2:(Zm d).size≤k):Qs k (Ad n d):=by
 constructor
 ·refine Ar (iG ?_) h1
  rw[← xK hd];exact An _ _
 ·rw[b9]
  rw[← a1k hd]
  exact Ae (An _ _) ((cO _ _).1 h2)
theorem iX (k:Nat):Zm (k:Int)=nb k:=c7k k
theorem b1e (a b:Rat):Ad (a.num*b.den+b.num*a.den) ((a.den:Int)*b.den)=a+b:=by
 rw[Rat.add_def',← As];congr 1
theorem b1b (a b:Rat):Ad (a.num*b.num) ((a.den:Int)*b.den)=a*b:=by
 rw[Rat.mul_def',← As];congr 1
theorem q_neg (a:Rat):Ad (-a.num) (a.den:Int)=-a:=by
 rw[← Rat.neg_divInt,Aj]
theorem a9r (a:Rat):Ad a.num (a.den:Int)=a:=Aj a
theorem b1d (a b:Rat):Ad (a.num*b.den) ((a.den:Int)*b.num)=a / b:=by
 rw[Rat.div_def,Rat.inv_def]
 conv=>rhs;lhs;rw[← Aj a]
 rw[Rat.divInt_mul_divInt]
theorem Qs.add {a b:Rat} {k l:Nat} (ha:Qs k a) (hb:Qs l b):Qs (k+l+1) (a+b):=by
 rw[← b1e]
 have hd:(a.den:Int)*b.den≠0:=by
  have:=A4 (show (0:Int)<a.den by have:=a.den_nz;omega) (show (0:Int)<b.den by have:=b.den_nz;omega)
  omega
 refine Qs.divInt hd ?_ ?_
 ·have h1:=aO a.num b.den ha.num (by rw[iX];exact hb.den)
  have h2:=aO b.num a.den hb.num (by rw[iX];exact ha.den)
  exact fO _ _ h1 (by omega)
 ·have:=aO a.den b.den (by rw[iX];exact ha.den) (by rw[iX];exact hb.den)
  omega
theorem Qs.mul {a b:Rat} {k l:Nat} (ha:Qs k a) (hb:Qs l b):Qs (k+l) (a*b):=by
 rw[← b1b]
 have hd:(a.den:Int)*b.den≠0:=by
  have:=A4 (show (0:Int)<a.den by have:=a.den_nz;omega) (show (0:Int)<b.den by have:=b.den_nz;omega)
  omega
 exact Qs.divInt hd (aO _ _ ha.num hb.num) (aO _ _ (by rw[iX];exact ha.den) (by rw[iX];exact hb.den))
theorem Qs.neg {a:Rat} {k:Nat} (ha:Qs k a):Qs k (-a):=⟨by rw[Rat.neg_num,jK];exact ha.num,ha.den⟩
theorem Qs.sub {a b:Rat} {k l:Nat} (ha:Qs k a) (hb:Qs l b):Qs (k+l+1) (a - b):=by
 rw[Rat.sub_eq_add_neg];exact ha.add hb.neg
theorem Qs.div {a b:Rat} {k l:Nat} (ha:Qs k a) (hb:Qs l b) (h0:b≠0):Qs (k+l) (a / b):=by
 rw[← b1d]
 have hb0:b.num≠0:=fun h=>h0 (Rat.num_eq_zero.1 h)
 have hd:(a.den:Int)*b.num≠0:=Int.mul_ne_zero (by have:=a.den_nz;omega) hb0
 exact Qs.divInt hd (aO _ _ ha.num (by rw[iX];exact hb.den)) (aO _ _ (by rw[iX];exact ha.den) hb.num)
theorem a0p:eQ 0=[.lit (.bool false),.lit (.string ⟨#[]⟩),.lit (.string ⟨#[]⟩)]:=by simp[eQ,Zn,Zm,dJ,Qd]
end Go.Sx
