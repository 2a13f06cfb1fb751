import Derived.Test.YtjlfgmhmalbiiaaGreatDoorProg
import Derived.Test.YtjlfgmhmalbiiaaGreatDoorU11
import Derived.Test.YtjlfgmhmalbiiaaGreatDoorU13
set_option linter.all false
namespace Go.Sx
set_option linter.unusedVariables false
theorem nb_zero_size:(nb 0).size=0:=by rw[nb_zero];rfl
theorem Zm_zero:Zm 0=⟨#[]⟩:=nb_zero
theorem Zm_neg (z:Int):Zm (-z)=Zm z:=by unfold Zm;rw[Int.natAbs_neg]
theorem natAbs_lt_pow (z:Int):z.natAbs<256 ^ (Zm z).size:=(Zm_size z _).1 (Nat.le_refl _)
theorem zs_add (a b:Int) {k:Nat} (ha:(Zm a).size≤k) (hb:(Zm b).size≤k):(Zm (a+b)).size≤k+1:=by
 rw[Zm_size]at ha hb ⊢
 rw[Nat.pow_succ]
 have:=Int.natAbs_add_le a b
 omega
theorem zs_mul (a b:Int) {k l:Nat} (ha:(Zm a).size≤k) (hb:(Zm b).size≤l):(Zm (a*b)).size≤k+l:=by
 rw[Zm_size]at ha hb ⊢
 rw[Int.natAbs_mul,Nat.pow_add]
 exact Nat.mul_lt_mul'' ha hb
theorem zs_sub (a b:Int) {k:Nat} (ha:(Zm a).size≤k) (hb:(Zm b).size≤k):(Zm (a - b)).size≤k+1:=by
 rw[Int.sub_eq_add_neg];exact zs_add a (-b) ha (by rw[Zm_neg];exact hb)
theorem zs_le {a b:Int} (h:a.natAbs≤b.natAbs):(Zm a).size≤(Zm b).size:=by
 rw[Zm_size];exact Nat.lt_of_le_of_lt h (natAbs_lt_pow b)
theorem zs_ediv (a b:Int):(Zm (a / b)).size≤(Zm a).size+1:=by
 rw[Zm_size,Nat.pow_succ]
 have:=natAbs_lt_pow a
 have h:=Int.natAbs_ediv_le_natAbs a b
 omega
theorem zs_iv (n:Bool) (m:ByteArray):(Zm (iv n m)).size≤m.size:=by
 rw[Zm_size]
 have:=nv_lt m
 unfold iv
 cases n<;>simp<;>exact this
theorem zs_nat (k:Nat):(Zm (k:Int))=nb k:=by unfold Zm;rw[Int.natAbs_natCast]
def sg (z:Int):Int:=if z<0 then -1 else if z=0 then 0 else 1
theorem sg_neg {z:Int}:sg z<0↔z<0:=by unfold sg;split<;>(try split)<;>omega
theorem sg_pos {z:Int}:0<sg z↔0<z:=by unfold sg;split<;>(try split)<;>omega
theorem sg_zero {z:Int}:sg z=0↔z=0:=by unfold sg;split<;>(try split)<;>omega
theorem Zn_true {z:Int} (h:z<0):Zn z=true:=by unfold Zn;simp[h]
theorem Zn_false {z:Int} (h:0≤z):Zn z=false:=by unfold Zn;simp;omega
theorem Zm_empty {z:Int}:(Zm z=⟨#[]⟩)↔z=0:=by
 unfold Zm;rw[nb_eq_empty];omega
theorem eZ_of (n:Bool) (k:Nat) {z:Int} (h:z=if n then -(k:Int)else k):AV.agg [.lit (.bool (n&&!decide (nb k=⟨#[]⟩))),.lit (.string (nb k))]=.agg (eZ z):=by
 obtain ⟨h1,h2⟩:=of_nb n k
 have e:iv n (nb k)=z:=by rw[h];unfold iv;rw[nv_nb]
 rw[e]at h1 h2
 rw[h1,h2]
theorem eZ_inj {a b:Int} (h:Zn a=Zn b) (h':Zm a=Zm b):a=b:=by
 have h2:=nb_inj h'
 unfold Zn at h
 have:(a<0)↔(b<0):=by simpa using h
 omega
end Go.Sx
namespace Go.Proofs.Vx
open Go Go.Sx Go.Proofs
attribute [local irreducible] fnT CallOK CallFr AW effV callV runP runO oneP oneO gcaseP hid
theorem yqq_Nx13:agT Tryz.prog 2=some false∧agT Tryz.prog 24=some true∧agT Tryz.prog 4=some false∧boT Tryz.prog 2=false∧boT Tryz.prog 4=true∧fdT Tryz.prog 24 0=some (0,1,false)∧fdT Tryz.prog 24 1=some (1,1,false)∧kiT Tryz.prog 2=some .i64∧plT Tryz.prog 24=some [(0,1),(1,1)]∧slT Tryz.prog 2=none∧strT Tryz.prog 2=false∧szT Tryz.prog 24=some 2∧szT Tryz.prog 4=some 1∧szT Tryz.prog 9=some 1∧zeT Tryz.prog 24=some [.lit (.bool false),.lit (.string ⟨#[]⟩)]:=by and_intros<;>kernel_rfl
attribute [go_sem] yqq_Nx13
theorem yfn_67:fnT Tryz.prog 67=true:=by kernel_rfl
theorem yfn_73:fnT Tryz.prog 73=true:=by kernel_rfl
theorem yfn_76:fnT Tryz.prog 76=true:=by kernel_rfl
theorem yfn_82:fnT Tryz.prog 82=true:=by kernel_rfl
theorem yfn_83:fnT Tryz.prog 83=true:=by kernel_rfl
theorem yfn_97:fnT Tryz.prog 97=true:=by kernel_rfl
theorem yfn_137:fnT Tryz.prog 137=true:=by kernel_rfl
theorem yfn_142:fnT Tryz.prog 142=true:=by kernel_rfl
theorem yfn_147:fnT Tryz.prog 147=true:=by kernel_rfl
theorem yfn_148:fnT Tryz.prog 148=true:=by kernel_rfl
theorem yfn_149:fnT Tryz.prog 149=true:=by kernel_rfl
theorem yfn_165:fnT Tryz.prog 165=true:=by kernel_rfl
theorem yfn_166:fnT Tryz.prog 166=true:=by kernel_rfl
theorem yfn_167:fnT Tryz.prog 167=true:=by kernel_rfl
theorem yfn_189:fnT Tryz.prog 189=true:=by kernel_rfl
theorem mul_sgn (x y:Int):x*y=if (!decide (Zn x=Zn y))=true then -((nv (Zm x)*nv (Zm y):Nat):Int)else ((nv (Zm x)*nv (Zm y):Nat):Int):=by
 rw[nv_Zm,nv_Zm,← Int.natAbs_mul]
 unfold Zn
 by_cases hx:x<0<;>by_cases hy:y<0<;>simp[hx,hy]
 ·have:=Int.mul_pos_of_neg_of_neg hx hy;omega
 ·have:=Int.mul_nonpos_of_nonpos_of_nonneg (Int.le_of_lt hx) (Int.not_lt.1 hy);omega
 ·have:=Int.mul_nonpos_of_nonneg_of_nonpos (Int.not_lt.1 hx) (Int.le_of_lt hy);omega
 ·have:=Int.mul_nonneg (Int.not_lt.1 hx) (Int.not_lt.1 hy);omega
set_option maxHeartbeats 1600000 in
theorem c137 (n:Bool) (m:ByteArray):CallOK Tryz.prog 137 [.lit (.bool n),.lit (.string m)] [] (.agg [.lit (.bool (n&&!decide (m=⟨#[]⟩))),.lit (.string m)]) []:=by
 refine CallOK.flat Tryz.func137 rfl 12 rfl rfl rfl [.cell 4 24] (congrArg Array.toList Tryz.results137) ?_
 simp only[startT,Nat.reduceAdd]
 repeat' (first|refine zg ?_|(refine AW.cond rfl ?_ ?_<;>intro hc<;>try simp only[NM]at hc)|refine zr ?_|refine ⟨by omega,?_⟩|(refine zb ?_ ?_<;>intro hg<;>(try rw[hg])<;>try simp only[NM]at hg)|omega|simp -dsimp (disch:=try exact zo) only[go_sem]|contradiction|rfl)
 all_goals (cases n<;>simp_all)
theorem c137z (n:Bool) (k:Nat) (z:Int) (h:z=if n then -(k:Int)else k):CallOK Tryz.prog 137 [.lit (.bool n),.lit (.string (nb k))] [] (.agg (eZ z)) []:=by
 rw[← eZ_of n k h];exact c137 n (nb k)
set_option maxHeartbeats 1600000 in
theorem c142 (n:Bool) (m:ByteArray) (hm:m.size<4611686018427387904):CallOK Tryz.prog 142 [.agg (eI n m)] [] (.agg (eZ (iv n m))) []:=by
 refine CallOK.flat Tryz.func142 rfl 9 rfl rfl rfl [.cell 2 24] (congrArg Array.toList Tryz.results142) ?_
 simp only[startT,Nat.reduceAdd]
 repeat' (first|refine zg ?_|(refine AW.cond rfl ?_ ?_<;>intro hc<;>try simp only[NM]at hc)|refine zr ?_|(refine callV.flat _ yfn_143 (c143 _ (by omega)) rfl rfl ?_)|(refine callV.flat (.agg (eZ (iv n m))) yfn_137 (c137z _ (nv m) (iv n m) (rfl)) rfl rfl ?_)|refine ⟨by omega,?_⟩|(refine zb ?_ ?_<;>intro hg<;>(try rw[hg])<;>try simp only[NM]at hg)|omega|simp -dsimp (disch:=try exact zo) only[go_sem]|contradiction|rfl)
theorem c142z (a:Int) (ha:(Zm a).size<4611686018427387904):CallOK Tryz.prog 142 [.agg (eZ a)] [] (.agg (eZ a)) []:=by
 have:=c142 (Zn a) (Zm a) ha
 rwa [iv_Z]at this
set_option maxHeartbeats 1600000 in
theorem c67 (z:Int) (h:-9223372036854775808≤z∧z<9223372036854775808):CallOK Tryz.prog 67 [.lit (.int .i64 z)] [] (.agg (eZ z)) []:=by
 refine CallOK.flat Tryz.func67 rfl 16 rfl rfl rfl [.cell 2 24] (congrArg Array.toList Tryz.results67) ?_
 simp only[startT,Nat.reduceAdd]
 repeat' (first|refine zg ?_|(refine AW.cond rfl ?_ ?_<;>intro hc<;>try simp only[NM]at hc)|refine zr ?_|(first|refine callV.flat (.lit (.string (nb (-z).toNat))) yfn_138 (by have:=c138 (0 - (z+1)+1) (by omega);rw[show (0 - (z+1)+1:Int)=-z by omega]at this ⊢;exact this) rfl rfl ?_|refine callV.flat _ yfn_138 (c138 z (by omega)) rfl rfl ?_)|(first|refine callV.flat (.agg (eZ z)) yfn_137 (c137z true (-z).toNat z (by simp only[reduceIte];omega)) rfl rfl ?_|refine callV.flat (.agg (eZ z)) yfn_137 (c137z false z.toNat z (by simp only[Bool.false_eq_true,reduceIte];omega)) rfl rfl ?_)|refine ⟨by omega,?_⟩|(refine zb ?_ ?_<;>intro hg<;>(try rw[hg])<;>try simp only[NM]at hg)|omega|simp -dsimp (disch:=try exact zo) only[go_sem]|contradiction|rfl)
set_option maxHeartbeats 1600000 in
theorem c76 (n:Bool) (m:ByteArray) (hm:m.size<4611686018427387904):CallOK Tryz.prog 76 [.agg (eI n m)] [] (.lit (.int .i64 (sg (iv n m)))) []:=by
 refine CallOK.flat Tryz.func76 rfl 12 rfl rfl rfl [.tmp 2] (congrArg Array.toList Tryz.results76) ?_
 simp only[startT,Nat.reduceAdd]
 repeat' (first|refine zg ?_|(refine AW.cond rfl ?_ ?_<;>intro hc<;>try simp only[NM]at hc)|refine zr ?_|(refine callV.flat _ yfn_142 (c142 _ _ (by omega)) rfl rfl ?_)|refine ⟨by omega,?_⟩|(refine zb ?_ ?_<;>intro hg<;>(try rw[hg])<;>try simp only[NM]at hg)|omega|simp -dsimp (disch:=try exact zo) only[go_sem]|contradiction|rfl)
 all_goals (unfold sg Zn at *;simp_all[Zm_empty])
set_option maxHeartbeats 1600000 in
theorem c73 (n:Bool) (m:ByteArray) (hm:m.size<4611686018427387904):CallOK Tryz.prog 73 [.agg (eI n m)] [] (.agg (eZ (-iv n m))) []:=by
 refine CallOK.flat Tryz.func73 rfl 11 rfl rfl rfl [.cell 2 24] (congrArg Array.toList Tryz.results73) ?_
 simp only[startT,Nat.reduceAdd]
 repeat' (first|refine zg ?_|(refine AW.cond rfl ?_ ?_<;>intro hc<;>try simp only[NM]at hc)|refine zr ?_|(refine callV.flat _ yfn_142 (c142 _ _ (by omega)) rfl rfl ?_)|(refine callV.flat (.agg (eZ (-iv n m))) yfn_137 (c137z _ ((iv n m).natAbs) (-iv n m) (by unfold Zn;by_cases h:iv n m<0<;>simp[h]<;>omega)) rfl rfl ?_)|refine ⟨by omega,?_⟩|(refine zb ?_ ?_<;>intro hg<;>(try rw[hg])<;>try simp only[NM]at hg)|omega|simp -dsimp (disch:=try exact zo) only[go_sem]|contradiction|rfl)
theorem c76z (a:Int) (ha:(Zm a).size<4611686018427387904):CallOK Tryz.prog 76 [.agg (eZ a)] [] (.lit (.int .i64 (sg a))) []:=by
 have:=c76 (Zn a) (Zm a) ha
 rwa [iv_Z]at this
theorem c73z (a:Int) (ha:(Zm a).size<4611686018427387904):CallOK Tryz.prog 73 [.agg (eZ a)] [] (.agg (eZ (-a))) []:=by
 have:=c73 (Zn a) (Zm a) ha
 rwa [iv_Z]at this
set_option maxHeartbeats 1600000 in
theorem c83 (n:Bool) (m:ByteArray) (n':Bool) (m':ByteArray) (hm:m.size<68719476736) (hm':m'.size<68719476736):CallOK Tryz.prog 83 [.agg (eI n m),.agg (eI n' m')] [] (.agg (eZ (iv n m*iv n' m'))) []:=by
 refine CallOK.flat Tryz.func83 rfl 20 rfl rfl rfl [.cell 4 24] (congrArg Array.toList Tryz.results83) ?_
 simp only[startT,Nat.reduceAdd]
 have sx:=zs_iv n m
 have sy:=zs_iv n' m'
 generalize hx:iv n m=x at *
 generalize hy:iv n' m'=y at *
 repeat' (first|refine zg ?_|(refine AW.cond rfl ?_ ?_<;>intro hc<;>try simp only[NM]at hc)|refine zr ?_|(first|refine callV.flat (.agg (eZ x)) yfn_142 (hx▸c142 n m (by omega)) rfl rfl ?_|refine callV.flat (.agg (eZ y)) yfn_142 (hy▸c142 n' m' (by omega)) rfl rfl ?_)|(refine callV.flat _ yfn_149 (c149 _ _ (by omega) (by omega)) rfl rfl ?_)|(refine callV.flat (.agg (eZ (x*y))) yfn_137 (c137z _ (nv (Zm x)*nv (Zm y)) (x*y) (mul_sgn x y)) rfl rfl ?_)|refine ⟨by omega,?_⟩|(refine zb ?_ ?_<;>intro hg<;>(try rw[hg])<;>try simp only[NM]at hg)|omega|simp -dsimp (disch:=try exact zo) only[go_sem]|contradiction|rfl)
theorem c148t (a b:ByteArray) (ha:a.size<274877906944) (hb:b.size<274877906944) (h:nv b≤nv a):CallOK Tryz.prog 148 [.lit (.string a),.lit (.string b)] [] (.tup [.lit (.string (nb (nv a - nv b))),.lit (.bool true)]) []:=by
 have:=c148 a b ha hb
 rwa [if_neg (by omega),decide_eq_true h]at this
theorem c148f (a b:ByteArray) (ha:a.size<274877906944) (hb:b.size<274877906944) (h:nv a<nv b):CallOK Tryz.prog 148 [.lit (.string a),.lit (.string b)] [] (.tup [.lit (.string ⟨#[]⟩),.lit (.bool false)]) []:=by
 have:=c148 a b ha hb
 rwa [if_pos h,decide_eq_false (by omega)]at this
theorem add_s1 {x y:Int} (hs:Zn x=Zn y):x+y=if Zn x=true then -((nv (Zm x)+nv (Zm y):Nat):Int)else ((nv (Zm x)+nv (Zm y):Nat):Int):=by
 simp only[nv_Zm]
 unfold Zn at hs ⊢
 by_cases h:x<0<;>by_cases h':y<0<;>simp[h,h']at hs ⊢<;>omega
theorem add_s2 {x y:Int} (hs:¬ Zn x=Zn y) (hle:y.natAbs≤x.natAbs):x+y=if Zn x=true then -((nv (Zm x) - nv (Zm y):Nat):Int)else ((nv (Zm x) - nv (Zm y):Nat):Int):=by
 simp only[nv_Zm]
 unfold Zn at hs ⊢
 by_cases h:x<0<;>by_cases h':y<0<;>simp only[h,h',decide_true,decide_false,reduceIte,not_true_eq_false,Bool.false_eq_true]at hs ⊢<;>omega
theorem add_s3 {x y:Int} (hs:¬ Zn x=Zn y) (hle:¬ y.natAbs≤x.natAbs):x+y=if Zn y=true then -((nv (Zm y) - nv (Zm x):Nat):Int)else ((nv (Zm y) - nv (Zm x):Nat):Int):=by
 simp only[nv_Zm]
 unfold Zn at hs ⊢
 by_cases h:x<0<;>by_cases h':y<0<;>simp only[h,h',decide_true,decide_false,reduceIte,not_true_eq_false,Bool.false_eq_true]at hs ⊢<;>omega
set_option maxHeartbeats 1600000 in
theorem c82 (n:Bool) (m:ByteArray) (n':Bool) (m':ByteArray) (hm:m.size<68719476736) (hm':m'.size<68719476736):CallOK Tryz.prog 82 [.agg (eI n m),.agg (eI n' m')] [] (.agg (eZ (iv n m+iv n' m'))) []:=by
 refine CallOK.flat Tryz.func82 rfl 51 rfl rfl rfl [.cell 4 24] (congrArg Array.toList Tryz.results82) ?_
 simp only[startT,Nat.reduceAdd]
 have sx:=zs_iv n m
 have sy:=zs_iv n' m'
 generalize hx:iv n m=x at *
 generalize hy:iv n' m'=y at *
 by_cases hs:Zn x=Zn y
 ·have hT:=eq_true hs
  repeat' (first|refine zg ?_|(refine AW.cond rfl ?_ ?_<;>intro hc<;>try simp only[NM]at hc)|refine zr ?_|(first|refine callV.flat (.agg (eZ x)) yfn_142 (hx▸c142 n m (by omega)) rfl rfl ?_|refine callV.flat (.agg (eZ y)) yfn_142 (hy▸c142 n' m' (by omega)) rfl rfl ?_)|(refine callV.flat _ yfn_147 (c147 _ _ (by omega) (by omega)) rfl rfl ?_)|(first|refine callV.flat _ yfn_148 (c148t _ _ (by omega) (by omega) (by simp only[nv_Zm];omega)) rfl rfl ?_|refine callV.flat _ yfn_148 (c148f _ _ (by omega) (by omega) (by simp only[nv_Zm];omega)) rfl rfl ?_)|(first|refine callV.flat (.agg (eZ (x+y))) yfn_137 (c137z (Zn x) _ _ (add_s1 hs)) rfl rfl ?_|refine callV.flat (.agg (eZ (x+y))) yfn_137 (c137z (Zn x) _ _ (add_s2 hs hle)) rfl rfl ?_|refine callV.flat (.agg (eZ (x+y))) yfn_137 (c137z (Zn y) _ _ (add_s3 hs hle)) rfl rfl ?_)|refine ⟨by omega,?_⟩|(refine zb ?_ ?_<;>intro hg<;>(try rw[hg])<;>try simp only[NM]at hg)|omega|simp -dsimp (disch:=try exact zo) only[go_sem,hT]|contradiction|rfl)
 ·have hT:=eq_false hs
  by_cases hle:y.natAbs≤x.natAbs
  ·repeat' (first|refine zg ?_|(refine AW.cond rfl ?_ ?_<;>intro hc<;>try simp only[NM]at hc)|refine zr ?_|(first|refine callV.flat (.agg (eZ x)) yfn_142 (hx▸c142 n m (by omega)) rfl rfl ?_|refine callV.flat (.agg (eZ y)) yfn_142 (hy▸c142 n' m' (by omega)) rfl rfl ?_)|(refine callV.flat _ yfn_147 (c147 _ _ (by omega) (by omega)) rfl rfl ?_)|(first|refine callV.flat _ yfn_148 (c148t _ _ (by omega) (by omega) (by simp only[nv_Zm];omega)) rfl rfl ?_|refine callV.flat _ yfn_148 (c148f _ _ (by omega) (by omega) (by simp only[nv_Zm];omega)) rfl rfl ?_)|(first|refine callV.flat (.agg (eZ (x+y))) yfn_137 (c137z (Zn x) _ _ (add_s1 hs)) rfl rfl ?_|refine callV.flat (.agg (eZ (x+y))) yfn_137 (c137z (Zn x) _ _ (add_s2 hs hle)) rfl rfl ?_|refine callV.flat (.agg (eZ (x+y))) yfn_137 (c137z (Zn y) _ _ (add_s3 hs hle)) rfl rfl ?_)|refine ⟨by omega,?_⟩|(refine zb ?_ ?_<;>intro hg<;>(try rw[hg])<;>try simp only[NM]at hg)|omega|simp -dsimp (disch:=try exact zo) only[go_sem,hT]|contradiction|rfl)
  ·repeat' (first|refine zg ?_|(refine AW.cond rfl ?_ ?_<;>intro hc<;>try simp only[NM]at hc)|refine zr ?_|(first|refine callV.flat (.agg (eZ x)) yfn_142 (hx▸c142 n m (by omega)) rfl rfl ?_|refine callV.flat (.agg (eZ y)) yfn_142 (hy▸c142 n' m' (by omega)) rfl rfl ?_)|(refine callV.flat _ yfn_147 (c147 _ _ (by omega) (by omega)) rfl rfl ?_)|(first|refine callV.flat _ yfn_148 (c148t _ _ (by omega) (by omega) (by simp only[nv_Zm];omega)) rfl rfl ?_|refine callV.flat _ yfn_148 (c148f _ _ (by omega) (by omega) (by simp only[nv_Zm];omega)) rfl rfl ?_)|(first|refine callV.flat (.agg (eZ (x+y))) yfn_137 (c137z (Zn x) _ _ (add_s1 hs)) rfl rfl ?_|refine callV.flat (.agg (eZ (x+y))) yfn_137 (c137z (Zn x) _ _ (add_s2 hs hle)) rfl rfl ?_|refine callV.flat (.agg (eZ (x+y))) yfn_137 (c137z (Zn y) _ _ (add_s3 hs hle)) rfl rfl ?_)|refine ⟨by omega,?_⟩|(refine zb ?_ ?_<;>intro hg<;>(try rw[hg])<;>try simp only[NM]at hg)|omega|simp -dsimp (disch:=try exact zo) only[go_sem,hT]|contradiction|rfl)
theorem c82z (a b:Int) (ha:(Zm a).size<68719476736) (hb:(Zm b).size<68719476736):CallOK Tryz.prog 82 [.agg (eZ a),.agg (eZ b)] [] (.agg (eZ (a+b))) []:=by
 have:=c82 (Zn a) (Zm a) (Zn b) (Zm b) ha hb
 rwa [iv_Z,iv_Z]at this
theorem c83z (a b:Int) (ha:(Zm a).size<68719476736) (hb:(Zm b).size<68719476736):CallOK Tryz.prog 83 [.agg (eZ a),.agg (eZ b)] [] (.agg (eZ (a*b))) []:=by
 have:=c83 (Zn a) (Zm a) (Zn b) (Zm b) ha hb
 rwa [iv_Z,iv_Z]at this
set_option maxHeartbeats 1600000 in
theorem c166 (n:Bool) (m:ByteArray) (n':Bool) (m':ByteArray) (hm:m.size<68719476736) (hm':m'.size<68719476736):CallOK Tryz.prog 166 [.agg (eI n m),.agg (eI n' m')] [] (.agg (eZ (iv n m - iv n' m'))) []:=by
 refine CallOK.flat Tryz.func166 rfl 9 rfl rfl rfl [.cell 4 24] (congrArg Array.toList Tryz.results166) ?_
 simp only[startT,Nat.reduceAdd]
 repeat' (first|refine zg ?_|(refine AW.cond rfl ?_ ?_<;>intro hc<;>try simp only[NM]at hc)|refine zr ?_|(refine callV.flat _ yfn_73 (c73 n' m' (by omega)) rfl rfl ?_)|(refine callV.flat (.agg (eZ (iv n m - iv n' m'))) yfn_82 (by have:=c82 n m (Zn (-iv n' m')) (Zm (-iv n' m')) (by omega) (by rw[Zm_neg];have:=zs_iv n' m';omega);rw[iv_Z]at this;exact this) rfl rfl ?_)|refine ⟨by omega,?_⟩|(refine zb ?_ ?_<;>intro hg<;>(try rw[hg])<;>try simp only[NM]at hg)|omega|simp -dsimp (disch:=try exact zo) only[go_sem]|contradiction|rfl)
theorem c166z (a b:Int) (ha:(Zm a).size<68719476736) (hb:(Zm b).size<68719476736):CallOK Tryz.prog 166 [.agg (eZ a),.agg (eZ b)] [] (.agg (eZ (a - b))) []:=by
 have:=c166 (Zn a) (Zm a) (Zn b) (Zm b) ha hb
 rwa [iv_Z,iv_Z]at this
set_option maxHeartbeats 1600000 in
theorem c97 (n:Bool) (m:ByteArray) (n':Bool) (m':ByteArray) (hm:m.size<68719476736) (hm':m'.size<68719476736):CallOK Tryz.prog 97 [.agg (eI n m),.agg (eI n' m')] [] (.lit (.int .i64 (sg (iv n m - iv n' m')))) []:=by
 refine CallOK.flat Tryz.func97 rfl 9 rfl rfl rfl [.tmp 4] (congrArg Array.toList Tryz.results97) ?_
 simp only[startT,Nat.reduceAdd]
 repeat' (first|refine zg ?_|(refine AW.cond rfl ?_ ?_<;>intro hc<;>try simp only[NM]at hc)|refine zr ?_|(refine callV.flat _ yfn_166 (c166 n m n' m' (by omega) (by omega)) rfl rfl ?_)|(refine callV.flat _ yfn_76 (c76z (iv n m - iv n' m') (by have:=zs_sub (iv n m) (iv n' m') (k:=68719476736) (by have:=zs_iv n m;omega) (by have:=zs_iv n' m';omega);omega)) rfl rfl ?_)|refine ⟨by omega,?_⟩|(refine zb ?_ ?_<;>intro hg<;>(try rw[hg])<;>try simp only[NM]at hg)|omega|simp -dsimp (disch:=try exact zo) only[go_sem]|contradiction|rfl)
theorem c97z (a b:Int) (ha:(Zm a).size<68719476736) (hb:(Zm b).size<68719476736):CallOK Tryz.prog 97 [.agg (eZ a),.agg (eZ b)] [] (.lit (.int .i64 (sg (a - b)))) []:=by
 have:=c97 (Zn a) (Zm a) (Zn b) (Zm b) ha hb
 rwa [iv_Z,iv_Z]at this
end Go.Proofs.Vx
namespace Go.Proofs.Vx
open Go Go.Sx Go.Proofs
attribute [local irreducible] fnT CallOK CallFr AW effV callV runP runO oneP oneO gcaseP hid
theorem yqq_Nx14:arT Tryz.prog 112=none∧slT Tryz.prog 112=some (24,2)∧strT Tryz.prog 112=false:=by and_intros<;>kernel_rfl
attribute [go_sem] yqq_Nx14
theorem c191t (a b:ByteArray) (ha:a.size<274877906944) (hb:b.size<274877906944) (h:nv b≠0):CallOK Tryz.prog 191 [.lit (.string a),.lit (.string b)] [] (.tup [.lit (.string (nb (nv a / nv b))),.lit (.string (nb (nv a % nv b))),.lit (.bool true)]) []:=by
 have:=c191 a b ha hb
 rwa [if_neg h,decide_eq_true h]at this
theorem c191f (a b:ByteArray) (ha:a.size<274877906944) (hb:b.size<274877906944) (h:nv b=0):CallOK Tryz.prog 191 [.lit (.string a),.lit (.string b)] [] (.tup [.lit (.string ⟨#[]⟩),.lit (.string ⟨#[]⟩),.lit (.bool false)]) []:=by
 have:=c191 a b ha hb
 rwa [if_pos h,h,Nat.div_zero,nb_zero,decide_eq_false (by simp)]at this
theorem ed {x y q r:Int} (hy:y≠0) (h:r+y*q=x) (h0:0≤r) (h1:r<y.natAbs):x / y=q∧x % y=r:=by
 by_cases hp:0<y
 ·exact (Int.ediv_emod_unique hp).2 ⟨h,h0,by omega⟩
 ·have hn:0 < -y:=by omega
  have:=(Int.ediv_emod_unique (a:=x) (b:=-y) (r:=r) (q:=-q) hn).2 ⟨by rw[Int.neg_mul_neg];exact h,h0,by omega⟩
  rw[Int.ediv_neg,Int.emod_neg]at this
  exact ⟨by omega,this.2⟩
theorem dm (A B:Nat) (hB:B≠0):((A % B:Nat):Int)+(B:Int)*((A / B:Nat):Int)=A∧((A % B:Nat):Int)<B:=by
 have h1:=Nat.mod_add_div A B
 have h2:=Nat.mod_lt A (Nat.pos_of_ne_zero hB)
 exact ⟨by exact_mod_cast h1,by omega⟩
theorem dpp {x y:Int} (hx:0≤x) (hy:0<y):x / y=((x.natAbs / y.natAbs:Nat):Int)∧x % y=((x.natAbs % y.natAbs:Nat):Int):=by
 obtain ⟨h1,h2⟩:=dm x.natAbs y.natAbs (by omega)
 exact ed (by omega) (by rw[show (y.natAbs:Int)=y by omega]at h1;omega) (by omega) h2
theorem dpn {x y:Int} (hx:0≤x) (hy:y<0):x / y=-((x.natAbs / y.natAbs:Nat):Int)∧x % y=((x.natAbs % y.natAbs:Nat):Int):=by
 obtain ⟨h1,h2⟩:=dm x.natAbs y.natAbs (by omega)
 refine ed (by omega) ?_ (by omega) h2
 rw[show (y.natAbs:Int)=-y by omega,Int.neg_mul]at h1
 rw[Int.mul_neg];omega
theorem dnp0 {x y:Int} (hx:x<0) (hy:0<y) (h0:x.natAbs % y.natAbs=0):x / y=-((x.natAbs / y.natAbs:Nat):Int)∧x % y=((x.natAbs % y.natAbs:Nat):Int):=by
 obtain ⟨h1,h2⟩:=dm x.natAbs y.natAbs (by omega)
 refine ed (by omega) ?_ (by omega) h2
 rw[h0]at h1 ⊢
 rw[show (y.natAbs:Int)=y by omega]at h1
 rw[Int.mul_neg];omega
theorem dnn0 {x y:Int} (hx:x<0) (hy:y<0) (h0:x.natAbs % y.natAbs=0):x / y=((x.natAbs / y.natAbs:Nat):Int)∧x % y=((x.natAbs % y.natAbs:Nat):Int):=by
 obtain ⟨h1,h2⟩:=dm x.natAbs y.natAbs (by omega)
 refine ed (by omega) ?_ (by omega) h2
 rw[h0]at h1 ⊢
 rw[show (y.natAbs:Int)=-y by omega,Int.neg_mul]at h1
 omega
theorem dnp1 {x y:Int} (hx:x<0) (hy:0<y) (h0:x.natAbs % y.natAbs≠0):x / y=-((x.natAbs / y.natAbs+1:Nat):Int)∧x % y=((y.natAbs - x.natAbs % y.natAbs:Nat):Int):=by
 obtain ⟨h1,h2⟩:=dm x.natAbs y.natAbs (by omega)
 have h3:((y.natAbs - x.natAbs % y.natAbs:Nat):Int)=y.natAbs - (x.natAbs % y.natAbs:Nat):=by omega
 refine ed (by omega) ?_ (by omega) (by omega)
 rw[h3]
 rw[show (y.natAbs:Int)=y by omega]at h1 ⊢
 rw[Int.natCast_add,Int.mul_neg,Int.mul_add];omega
theorem dnn1 {x y:Int} (hx:x<0) (hy:y<0) (h0:x.natAbs % y.natAbs≠0):x / y=((x.natAbs / y.natAbs+1:Nat):Int)∧x % y=((y.natAbs - x.natAbs % y.natAbs:Nat):Int):=by
 obtain ⟨h1,h2⟩:=dm x.natAbs y.natAbs (by omega)
 have h3:((y.natAbs - x.natAbs % y.natAbs:Nat):Int)=y.natAbs - (x.natAbs % y.natAbs:Nat):=by omega
 refine ed (by omega) ?_ (by omega) (by omega)
 rw[h3]
 rw[show (y.natAbs:Int)=-y by omega,Int.neg_mul]at h1
 rw[show (y.natAbs:Int)=-y by omega,Int.natCast_add,Int.mul_add];omega
set_option maxHeartbeats 8000000 in
theorem c165 (n:Bool) (m:ByteArray) (n':Bool) (m':ByteArray) (hm:m.size<68719476736) (hm':m'.size<68719476736):CallOK Tryz.prog 165 [.agg (eI n m),.agg (eI n' m')] [] (if iv n' m'=0 then .tup [.agg (eZ 0),.agg (eZ 0),.lit (.bool false)]else .tup [.agg (eZ (iv n m / iv n' m')),.agg (eZ (iv n m % iv n' m')),.lit (.bool true)]) []:=by
 refine CallOK.flat Tryz.func165 rfl 53 rfl rfl (by split<;>rfl) [.cell 4 24,.cell 5 24,.tmp 6] (congrArg Array.toList Tryz.results165) ?_
 simp only[startT,Nat.reduceAdd]
 have sx:=zs_iv n m
 have sy:=zs_iv n' m'
 generalize hx:iv n m=x at *
 generalize hy:iv n' m'=y at *
 by_cases hy0:y=0
 ·rw[if_pos hy0]
  have e0:eZ 0=[.lit (.bool false),.lit (.string ⟨#[]⟩)]:=by simp[eZ,Zn,Zm,nb_zero]
  rw[e0]
  repeat' (first|refine zg ?_|(refine AW.cond rfl ?_ ?_<;>intro hc<;>try simp only[NM]at hc)|refine zr ?_|(first|refine callV.flat (.agg (eZ x)) yfn_142 (hx▸c142 n m (by omega)) rfl rfl ?_|refine callV.flat (.agg (eZ y)) yfn_142 (hy▸c142 n' m' (by omega)) rfl rfl ?_)|(refine callV.flat _ yfn_191 (c191f (Zm x) (Zm y) (by omega) (by omega) (by rw[nv_Zm];omega)) rfl rfl ?_)|refine ⟨by omega,?_⟩|(refine zb ?_ ?_<;>intro hg<;>(try rw[hg])<;>try simp only[NM]at hg)|omega|simp -dsimp (disch:=try exact zo) only[go_sem]|contradiction|rfl)
 ·rw[if_neg hy0]
  have s1:(nb 1).size≤1:=(nb_size _ _).2 (by decide)
  have s2:(nb (nv (Zm x) / nv (Zm y))).size≤(Zm x).size:=(nb_size _ _).2 (Nat.lt_of_le_of_lt (Nat.div_le_self _ _) (nv_lt _))
  have s3:(nb (nv (Zm x) % nv (Zm y))).size≤(Zm x).size:=(nb_size _ _).2 (Nat.lt_of_le_of_lt (Nat.mod_le _ _) (nv_lt _))
  have s4:(nb (nv (Zm y))).size≤(Zm y).size:=(nb_size _ _).2 (nv_lt _)
  by_cases hxs:x<0
  ·by_cases hr0:x.natAbs % y.natAbs=0
   ·by_cases hys:y<0
    ·have hzx:Zn x=true:=Zn_true hxs
     have hzy:Zn y=true:=Zn_true hys
     have d:=dnn0 hxs hys hr0
     have hr:(nb (nv (Zm x) % nv (Zm y))=⟨#[]⟩)=True:=eq_true ((nb_eq_empty _).2 (by rw[nv_Zm,nv_Zm];exact hr0))
     repeat' (first|refine zg ?_|(refine AW.cond rfl ?_ ?_<;>intro hc<;>try simp only[NM]at hc)|refine zr ?_|(first|refine callV.flat (.agg (eZ x)) yfn_142 (hx▸c142 n m (by omega)) rfl rfl ?_|refine callV.flat (.agg (eZ y)) yfn_142 (hy▸c142 n' m' (by omega)) rfl rfl ?_)|(refine callV.flat _ yfn_191 (c191t (Zm x) (Zm y) (by omega) (by omega) (by rw[nv_Zm];omega)) rfl rfl ?_)|(refine callV.flat _ yfn_143 (c143 (Zm y) (by omega)) rfl rfl ?_)|(refine callV.flat (.lit (.string (nb 1))) yfn_138 (c138 1 (by omega)) rfl rfl ?_)|(refine callV.flat _ yfn_147 (c147 (nb (nv (Zm x) / nv (Zm y))) (nb 1) (by omega) (by omega)) rfl rfl ?_)|(refine callV.flat _ yfn_148 (c148t (nb (nv (Zm y))) (nb (nv (Zm x) % nv (Zm y))) (by omega) (by omega) (by rw[nv_nb,nv_nb];exact Nat.le_of_lt (Nat.mod_lt _ (by rw[nv_Zm];omega)))) rfl rfl ?_)|(first|refine callV.flat (.agg (eZ (x / y))) yfn_137 (c137z _ _ _ (by simp only[reduceIte,Bool.false_eq_true,nv_nb,nv_Zm];first|exact d.1|exact d.2)) rfl rfl ?_|refine callV.flat (.agg (eZ (x % y))) yfn_137 (c137z _ _ _ (by simp only[reduceIte,Bool.false_eq_true,nv_nb,nv_Zm];first|exact d.1|exact d.2)) rfl rfl ?_)|refine ⟨by omega,?_⟩|(refine zb ?_ ?_<;>intro hg<;>(try rw[hg])<;>try simp only[NM]at hg)|omega|simp -dsimp (disch:=try exact zo) only[go_sem,hzx,hzy,hr]|contradiction|rfl)
    ·have hys:0<y:=by omega
     have hzx:Zn x=true:=Zn_true hxs
     have hzy:Zn y=false:=Zn_false (Int.le_of_lt hys)
     have d:=dnp0 hxs hys hr0
     have hr:(nb (nv (Zm x) % nv (Zm y))=⟨#[]⟩)=True:=eq_true ((nb_eq_empty _).2 (by rw[nv_Zm,nv_Zm];exact hr0))
     repeat' (first|refine zg ?_|(refine AW.cond rfl ?_ ?_<;>intro hc<;>try simp only[NM]at hc)|refine zr ?_|(first|refine callV.flat (.agg (eZ x)) yfn_142 (hx▸c142 n m (by omega)) rfl rfl ?_|refine callV.flat (.agg (eZ y)) yfn_142 (hy▸c142 n' m' (by omega)) rfl rfl ?_)|(refine callV.flat _ yfn_191 (c191t (Zm x) (Zm y) (by omega) (by omega) (by rw[nv_Zm];omega)) rfl rfl ?_)|(refine callV.flat _ yfn_143 (c143 (Zm y) (by omega)) rfl rfl ?_)|(refine callV.flat (.lit (.string (nb 1))) yfn_138 (c138 1 (by omega)) rfl rfl ?_)|(refine callV.flat _ yfn_147 (c147 (nb (nv (Zm x) / nv (Zm y))) (nb 1) (by omega) (by omega)) rfl rfl ?_)|(refine callV.flat _ yfn_148 (c148t (nb (nv (Zm y))) (nb (nv (Zm x) % nv (Zm y))) (by omega) (by omega) (by rw[nv_nb,nv_nb];exact Nat.le_of_lt (Nat.mod_lt _ (by rw[nv_Zm];omega)))) rfl rfl ?_)|(first|refine callV.flat (.agg (eZ (x / y))) yfn_137 (c137z _ _ _ (by simp only[reduceIte,Bool.false_eq_true,nv_nb,nv_Zm];first|exact d.1|exact d.2)) rfl rfl ?_|refine callV.flat (.agg (eZ (x % y))) yfn_137 (c137z _ _ _ (by simp only[reduceIte,Bool.false_eq_true,nv_nb,nv_Zm];first|exact d.1|exact d.2)) rfl rfl ?_)|refine ⟨by omega,?_⟩|(refine zb ?_ ?_<;>intro hg<;>(try rw[hg])<;>try simp only[NM]at hg)|omega|simp -dsimp (disch:=try exact zo) only[go_sem,hzx,hzy,hr]|contradiction|rfl)
   ·by_cases hys:y<0
    ·have hzx:Zn x=true:=Zn_true hxs
     have hzy:Zn y=true:=Zn_true hys
     have d:=dnn1 hxs hys hr0
     have hr:(nb (nv (Zm x) % nv (Zm y))=⟨#[]⟩)=False:=eq_false fun h=>hr0 (by have:=(nb_eq_empty _).1 h;rwa [nv_Zm,nv_Zm]at this)
     repeat' (first|refine zg ?_|(refine AW.cond rfl ?_ ?_<;>intro hc<;>try simp only[NM]at hc)|refine zr ?_|(first|refine callV.flat (.agg (eZ x)) yfn_142 (hx▸c142 n m (by omega)) rfl rfl ?_|refine callV.flat (.agg (eZ y)) yfn_142 (hy▸c142 n' m' (by omega)) rfl rfl ?_)|(refine callV.flat _ yfn_191 (c191t (Zm x) (Zm y) (by omega) (by omega) (by rw[nv_Zm];omega)) rfl rfl ?_)|(refine callV.flat _ yfn_143 (c143 (Zm y) (by omega)) rfl rfl ?_)|(refine callV.flat (.lit (.string (nb 1))) yfn_138 (c138 1 (by omega)) rfl rfl ?_)|(refine callV.flat _ yfn_147 (c147 (nb (nv (Zm x) / nv (Zm y))) (nb 1) (by omega) (by omega)) rfl rfl ?_)|(refine callV.flat _ yfn_148 (c148t (nb (nv (Zm y))) (nb (nv (Zm x) % nv (Zm y))) (by omega) (by omega) (by rw[nv_nb,nv_nb];exact Nat.le_of_lt (Nat.mod_lt _ (by rw[nv_Zm];omega)))) rfl rfl ?_)|(first|refine callV.flat (.agg (eZ (x / y))) yfn_137 (c137z _ _ _ (by simp only[reduceIte,Bool.false_eq_true,nv_nb,nv_Zm];first|exact d.1|exact d.2)) rfl rfl ?_|refine callV.flat (.agg (eZ (x % y))) yfn_137 (c137z _ _ _ (by simp only[reduceIte,Bool.false_eq_true,nv_nb,nv_Zm];first|exact d.1|exact d.2)) rfl rfl ?_)|refine ⟨by omega,?_⟩|(refine zb ?_ ?_<;>intro hg<;>(try rw[hg])<;>try simp only[NM]at hg)|omega|simp -dsimp (disch:=try exact zo) only[go_sem,hzx,hzy,hr]|contradiction|rfl)
    ·have hys:0<y:=by omega
     have hzx:Zn x=true:=Zn_true hxs
     have hzy:Zn y=false:=Zn_false (Int.le_of_lt hys)
     have d:=dnp1 hxs hys hr0
     have hr:(nb (nv (Zm x) % nv (Zm y))=⟨#[]⟩)=False:=eq_false fun h=>hr0 (by have:=(nb_eq_empty _).1 h;rwa [nv_Zm,nv_Zm]at this)
     repeat' (first|refine zg ?_|(refine AW.cond rfl ?_ ?_<;>intro hc<;>try simp only[NM]at hc)|refine zr ?_|(first|refine callV.flat (.agg (eZ x)) yfn_142 (hx▸c142 n m (by omega)) rfl rfl ?_|refine callV.flat (.agg (eZ y)) yfn_142 (hy▸c142 n' m' (by omega)) rfl rfl ?_)|(refine callV.flat _ yfn_191 (c191t (Zm x) (Zm y) (by omega) (by omega) (by rw[nv_Zm];omega)) rfl rfl ?_)|(refine callV.flat _ yfn_143 (c143 (Zm y) (by omega)) rfl rfl ?_)|(refine callV.flat (.lit (.string (nb 1))) yfn_138 (c138 1 (by omega)) rfl rfl ?_)|(refine callV.flat _ yfn_147 (c147 (nb (nv (Zm x) / nv (Zm y))) (nb 1) (by omega) (by omega)) rfl rfl ?_)|(refine callV.flat _ yfn_148 (c148t (nb (nv (Zm y))) (nb (nv (Zm x) % nv (Zm y))) (by omega) (by omega) (by rw[nv_nb,nv_nb];exact Nat.le_of_lt (Nat.mod_lt _ (by rw[nv_Zm];omega)))) rfl rfl ?_)|(first|refine callV.flat (.agg (eZ (x / y))) yfn_137 (c137z _ _ _ (by simp only[reduceIte,Bool.false_eq_true,nv_nb,nv_Zm];first|exact d.1|exact d.2)) rfl rfl ?_|refine callV.flat (.agg (eZ (x % y))) yfn_137 (c137z _ _ _ (by simp only[reduceIte,Bool.false_eq_true,nv_nb,nv_Zm];first|exact d.1|exact d.2)) rfl rfl ?_)|refine ⟨by omega,?_⟩|(refine zb ?_ ?_<;>intro hg<;>(try rw[hg])<;>try simp only[NM]at hg)|omega|simp -dsimp (disch:=try exact zo) only[go_sem,hzx,hzy,hr]|contradiction|rfl)
  ·have hxs:0≤x:=by omega
   by_cases hys:y<0
   ·have hzx:Zn x=false:=Zn_false hxs
    have hzy:Zn y=true:=Zn_true hys
    have d:=dpn hxs hys
    have hr:True:=trivial
    repeat' (first|refine zg ?_|(refine AW.cond rfl ?_ ?_<;>intro hc<;>try simp only[NM]at hc)|refine zr ?_|(first|refine callV.flat (.agg (eZ x)) yfn_142 (hx▸c142 n m (by omega)) rfl rfl ?_|refine callV.flat (.agg (eZ y)) yfn_142 (hy▸c142 n' m' (by omega)) rfl rfl ?_)|(refine callV.flat _ yfn_191 (c191t (Zm x) (Zm y) (by omega) (by omega) (by rw[nv_Zm];omega)) rfl rfl ?_)|(refine callV.flat _ yfn_143 (c143 (Zm y) (by omega)) rfl rfl ?_)|(refine callV.flat (.lit (.string (nb 1))) yfn_138 (c138 1 (by omega)) rfl rfl ?_)|(refine callV.flat _ yfn_147 (c147 (nb (nv (Zm x) / nv (Zm y))) (nb 1) (by omega) (by omega)) rfl rfl ?_)|(refine callV.flat _ yfn_148 (c148t (nb (nv (Zm y))) (nb (nv (Zm x) % nv (Zm y))) (by omega) (by omega) (by rw[nv_nb,nv_nb];exact Nat.le_of_lt (Nat.mod_lt _ (by rw[nv_Zm];omega)))) rfl rfl ?_)|(first|refine callV.flat (.agg (eZ (x / y))) yfn_137 (c137z _ _ _ (by simp only[reduceIte,Bool.false_eq_true,nv_nb,nv_Zm];first|exact d.1|exact d.2)) rfl rfl ?_|refine callV.flat (.agg (eZ (x % y))) yfn_137 (c137z _ _ _ (by simp only[reduceIte,Bool.false_eq_true,nv_nb,nv_Zm];first|exact d.1|exact d.2)) rfl rfl ?_)|refine ⟨by omega,?_⟩|(refine zb ?_ ?_<;>intro hg<;>(try rw[hg])<;>try simp only[NM]at hg)|omega|simp -dsimp (disch:=try exact zo) only[go_sem,hzx,hzy,hr]|contradiction|rfl)
   ·have hys:0<y:=by omega
    have hzx:Zn x=false:=Zn_false hxs
    have hzy:Zn y=false:=Zn_false (Int.le_of_lt hys)
    have d:=dpp hxs hys
    have hr:True:=trivial
    repeat' (first|refine zg ?_|(refine AW.cond rfl ?_ ?_<;>intro hc<;>try simp only[NM]at hc)|refine zr ?_|(first|refine callV.flat (.agg (eZ x)) yfn_142 (hx▸c142 n m (by omega)) rfl rfl ?_|refine callV.flat (.agg (eZ y)) yfn_142 (hy▸c142 n' m' (by omega)) rfl rfl ?_)|(refine callV.flat _ yfn_191 (c191t (Zm x) (Zm y) (by omega) (by omega) (by rw[nv_Zm];omega)) rfl rfl ?_)|(refine callV.flat _ yfn_143 (c143 (Zm y) (by omega)) rfl rfl ?_)|(refine callV.flat (.lit (.string (nb 1))) yfn_138 (c138 1 (by omega)) rfl rfl ?_)|(refine callV.flat _ yfn_147 (c147 (nb (nv (Zm x) / nv (Zm y))) (nb 1) (by omega) (by omega)) rfl rfl ?_)|(refine callV.flat _ yfn_148 (c148t (nb (nv (Zm y))) (nb (nv (Zm x) % nv (Zm y))) (by omega) (by omega) (by rw[nv_nb,nv_nb];exact Nat.le_of_lt (Nat.mod_lt _ (by rw[nv_Zm];omega)))) rfl rfl ?_)|(first|refine callV.flat (.agg (eZ (x / y))) yfn_137 (c137z _ _ _ (by simp only[reduceIte,Bool.false_eq_true,nv_nb,nv_Zm];first|exact d.1|exact d.2)) rfl rfl ?_|refine callV.flat (.agg (eZ (x % y))) yfn_137 (c137z _ _ _ (by simp only[reduceIte,Bool.false_eq_true,nv_nb,nv_Zm];first|exact d.1|exact d.2)) rfl rfl ?_)|refine ⟨by omega,?_⟩|(refine zb ?_ ?_<;>intro hg<;>(try rw[hg])<;>try simp only[NM]at hg)|omega|simp -dsimp (disch:=try exact zo) only[go_sem,hzx,hzy,hr]|contradiction|rfl)
theorem c165z (a b:Int) (ha:(Zm a).size<68719476736) (hb:(Zm b).size<68719476736) (h:b≠0):CallOK Tryz.prog 165 [.agg (eZ a),.agg (eZ b)] [] (.tup [.agg (eZ (a / b)),.agg (eZ (a % b)),.lit (.bool true)]) []:=by
 have:=c165 (Zn a) (Zm a) (Zn b) (Zm b) ha hb
 rwa [iv_Z,iv_Z,if_neg h]at this
abbrev RI:=Bool × ByteArray
def ris (l:List RI):List (List AV):=l.map fun p=>eI p.1 p.2
def gcdN (l:List RI):Nat:=l.foldl (fun g p=>Nat.gcd g (nv p.2)) 0
theorem ris_length (l:List RI):(ris l).length=l.length:=by simp[ris]
theorem ris_getD (l:List RI) (i:Nat) (h:i<l.length):(ris l).getD i []=eI (l.getD i (false,⟨#[]⟩)).1 (l.getD i (false,⟨#[]⟩)).2:=by
 simp[ris,List.getD_eq_getElem?_getD,h]
theorem ris_in {K:Nat→Prop} (l:List RI):(∀ e∈ris l,∀ c∈e,In K c)=True:=by
 apply eq_true
 intro e he c hc
 obtain ⟨p,_,rfl⟩:=List.mem_map.1 he
 simp only[List.mem_cons,List.not_mem_nil,or_false]at hc
 rcases hc with rfl|rfl<;>exact .lit _
theorem gcdN_take (l:List RI) (i:Nat) (h:i<l.length):gcdN (l.take (i+1))=Nat.gcd (gcdN (l.take i)) (nv (l.getD i (false,⟨#[]⟩)).2):=by
 unfold gcdN
 rw[List.take_add_one,List.foldl_append,List.getElem?_eq_getElem h]
 simp[List.getD_eq_getElem?_getD,h]
set_option maxHeartbeats 1600000 in
theorem c167 (l:List RI) (h:∀ p∈l,p.2.size<68719476736) (hn:l.length<1099511627776):CallOK Tryz.prog 167 [.sl (ris l)] [] (.agg (eZ (gcdN l:Int))) []:=by
 refine CallOK.flat Tryz.func167 rfl 19 rfl rfl rfl [.cell 2 24] (congrArg Array.toList Tryz.results167) ?_
 simp only[startT,Nat.reduceAdd]
 repeat' (first|refine zg ?_|(refine AW.cond rfl ?_ ?_<;>intro hc<;>try simp only[NM]at hc)|refine zr ?_|refine ⟨by omega,?_⟩|(refine zb ?_ ?_<;>intro hg<;>(try rw[hg])<;>try simp only[NM]at hg)|omega|simp -dsimp (disch:=try exact zo) only[go_sem,ris_length]|contradiction|rfl)
 refine AW.loop (fun z:{p:Nat × Nat // p.1≤l.length∧p.2=gcdN (l.take p.1)∧(nb p.2).size<68719476736}=>⟨[(8,.lit (.int .i64 z.1.1)),(7,.lit (.int .i64 l.length)),(6,.sl (ris l)),(3,.lit (.string (nb z.1.2))),(2,.loc 8 0)],[(8,.blk [.lit (.bool false),.lit (.string ⟨#[]⟩)])],20⟩) (fun z=>l.length - z.1.1) ⟨(0,0),Nat.zero_le _,rfl,by rw[nb_zero_size];omega⟩ (Weak.t4 (by refine ⟨?_,?_,?_,?_⟩<;>simp -dsimp (disch:=try exact zo) only[go_sem,nb_zero,ris_in,ZC])) ?_
 rintro ⟨⟨i,g⟩,hi,hg,hs⟩
 dsimp only at hi hg hs ⊢
 by_cases hlt:i<l.length
 ·have hp:=h (l.getD i (false,⟨#[]⟩)) (by rw[List.getD_eq_getElem?_getD,List.getElem?_eq_getElem hlt];exact List.getElem_mem _)
  have eg:=ris_getD l i hlt
  have hgs:(nb (Nat.gcd g (nv (l.getD i (false,⟨#[]⟩)).2))).size<68719476736:=by
   by_cases h0:g=0
   ·subst h0
    rw[Nat.gcd_zero_left]
    have:=can_size (l.getD i (false,⟨#[]⟩)).2
    omega
   ·have:(nb (Nat.gcd g (nv (l.getD i (false,⟨#[]⟩)).2))).size≤(nb g).size:=(nb_size _ _).2 (Nat.lt_of_le_of_lt (Nat.le_of_dvd (by omega) (Nat.gcd_dvd_left _ _)) ((nb_size _ _).1 (Nat.le_refl _)))
    omega
  generalize hq:l.getD i (false,⟨#[]⟩)=q at *
  have hgt:=gcdN_take l i hlt
  rw[hq,← hg]at hgt
  repeat' (first|refine zg ?_|(refine AW.cond rfl ?_ ?_<;>intro hc<;>try simp only[NM]at hc)|refine zr ?_|(refine callV.flat _ yfn_189 (c189 _ _ (by omega) (by omega)) rfl rfl ?_)|refine ⟨by omega,?_⟩|(refine zb ?_ ?_<;>intro hg<;>(try rw[hg])<;>try simp only[NM]at hg)|omega|simp -dsimp (disch:=try exact zo) only[go_sem,ris_length,eg,nv_nb]|contradiction|rfl)
  all_goals exact AW.stop ⟨⟨(i+1,Nat.gcd g (nv q.2)),by dsimp only;omega,hgt.symm,hgs⟩,(Weak.t4 (by refine ⟨?_,?_,?_,?_⟩<;>simp -dsimp (disch:=try exact zo) only[go_sem,nb_zero,ris_in,ZC])),by dsimp only;omega⟩
 ·have hil:i=l.length:=by omega
  subst hil
  rw[List.take_length]at hg
  subst hg
  repeat' (first|refine zg ?_|(refine AW.cond rfl ?_ ?_<;>intro hc<;>try simp only[NM]at hc)|refine zr ?_|(refine callV.flat (.agg (eZ (gcdN l:Int))) yfn_137 (c137z false (gcdN l) _ rfl) rfl rfl ?_)|refine ⟨by omega,?_⟩|(refine zb ?_ ?_<;>intro hg<;>(try rw[hg])<;>try simp only[NM]at hg)|omega|simp -dsimp (disch:=try exact zo) only[go_sem,ris_length]|contradiction|rfl)
  all_goals skip
end Go.Proofs.Vx
