import Derived.Test.YtjlfgmhmalbiiaaGreatDoorProg
import Derived.Test.YtjlfgmhmalbiiaaGreatDoorT09
import Derived.Test.YtjlfgmhmalbiiaaGreatDoorT13
set_option linter.all false
namespace Go.Proofs.Vx
open Go Go.Sx Go.Proofs
attribute [local irreducible] fnT CallOK CallFr AW effV callV runP runO oneP oneO gcaseP hid
theorem yag_2 : agT Tryz.prog 2 = some false := by kernel_rfl
theorem yag_24 : agT Tryz.prog 24 = some true := by kernel_rfl
theorem yag_4 : agT Tryz.prog 4 = some false := by kernel_rfl
theorem ybo_2 : boT Tryz.prog 2 = false := by kernel_rfl
theorem ybo_4 : boT Tryz.prog 4 = true := by kernel_rfl
theorem yfd_24_0 : fdT Tryz.prog 24 0 = some (0, 1, false) := by kernel_rfl
theorem yfd_24_1 : fdT Tryz.prog 24 1 = some (1, 1, false) := by kernel_rfl
theorem yki_2 : kiT Tryz.prog 2 = some .i64 := by kernel_rfl
theorem ypl_24 : plT Tryz.prog 24 = some [(0, 1), (1, 1)] := by kernel_rfl
theorem ysl_2 : slT Tryz.prog 2 = none := by kernel_rfl
theorem yst_2 : strT Tryz.prog 2 = false := by kernel_rfl
theorem ysz_24 : szT Tryz.prog 24 = some 2 := by kernel_rfl
theorem ysz_4 : szT Tryz.prog 4 = some 1 := by kernel_rfl
theorem ysz_9 : szT Tryz.prog 9 = some 1 := by kernel_rfl
theorem yze_24 : zeT Tryz.prog 24 = some [.lit (.bool false), .lit (.string ⟨#[]⟩)] := by kernel_rfl
attribute [go_sem] yag_2 yag_24 yag_4 ybo_2 ybo_4 yfd_24_0 yfd_24_1 yki_2 ypl_24 ysl_2 yst_2 ysz_24 ysz_4 ysz_9 yze_24
theorem yfn_67 : fnT Tryz.prog 67 = true := by kernel_rfl
theorem yfn_73 : fnT Tryz.prog 73 = true := by kernel_rfl
theorem yfn_76 : fnT Tryz.prog 76 = true := by kernel_rfl
theorem yfn_82 : fnT Tryz.prog 82 = true := by kernel_rfl
theorem yfn_83 : fnT Tryz.prog 83 = true := by kernel_rfl
theorem yfn_97 : fnT Tryz.prog 97 = true := by kernel_rfl
theorem yfn_137 : fnT Tryz.prog 137 = true := by kernel_rfl
theorem yfn_142 : fnT Tryz.prog 142 = true := by kernel_rfl
theorem yfn_147 : fnT Tryz.prog 147 = true := by kernel_rfl
theorem yfn_148 : fnT Tryz.prog 148 = true := by kernel_rfl
theorem yfn_149 : fnT Tryz.prog 149 = true := by kernel_rfl
theorem yfn_165 : fnT Tryz.prog 165 = true := by kernel_rfl
theorem yfn_166 : fnT Tryz.prog 166 = true := by kernel_rfl
theorem yfn_167 : fnT Tryz.prog 167 = true := by kernel_rfl
theorem yfn_189 : fnT Tryz.prog 189 = true := by kernel_rfl
theorem mul_sgn (x y : Int) : x * y = if (!decide (Zn x = Zn y)) = true then -((nv (Zm x) * nv (Zm y) : Nat) : Int) else ((nv (Zm x) * nv (Zm y) : Nat) : Int) := by
  rw [nv_Zm, nv_Zm, ← Int.natAbs_mul]
  unfold Zn
  by_cases hx : x < 0 <;> by_cases hy : y < 0 <;> simp [hx, hy]
  · have := Int.mul_pos_of_neg_of_neg hx hy; omega
  · have := Int.mul_nonpos_of_nonpos_of_nonneg (Int.le_of_lt hx) (Int.not_lt.1 hy); omega
  · have := Int.mul_nonpos_of_nonneg_of_nonpos (Int.not_lt.1 hx) (Int.le_of_lt hy); omega
  · have := Int.mul_nonneg (Int.not_lt.1 hx) (Int.not_lt.1 hy); omega
set_option maxHeartbeats 1600000 in
theorem c137 (n : Bool) (m : ByteArray) : CallOK Tryz.prog 137 [.lit (.bool n), .lit (.string m)] [] (.agg [.lit (.bool (n && !decide (m = ⟨#[]⟩))), .lit (.string m)]) [] := by
  refine CallOK.flat Tryz.func137 rfl 12 rfl rfl rfl [.cell 4 24] (congrArg Array.toList Tryz.results137) ?_
  simp only [startT, Nat.reduceAdd]
  repeat' (first | refine AW.seq ?_ | refine AW.regionP ?_ | refine AW.block ?_ | refine AW.blk ?_ | refine AW.skip ?_ | refine AW.exit rfl ?_ | (refine AW.cond rfl ?_ ?_ <;> intro hc <;> first | (cases hc; done) | (simp only [NM] at hc) | skip) | (refine AW.ret (RetA.of ?_); simp -dsimp (disch := first | omega | (simp only [LN]; omega)) only [go_sem] <;> try (rfl)) | refine ⟨by (omega), ?_⟩ | (refine gcaseP.splitB (fun hg => ?_) (fun hg => ?_) <;> (try simp only [NB] at hg) <;> (try rw [hg]) <;> (try simp only [NM] at hg)) | omega | simp -dsimp (disch := first | omega | (simp only [LN]; omega)) only [go_sem] | contradiction)
  all_goals (cases n <;> simp_all)
theorem c137z (n : Bool) (k : Nat) (z : Int) (h : z = if n then -(k : Int) else k) : CallOK Tryz.prog 137 [.lit (.bool n), .lit (.string (nb k))] [] (.agg (eZ z)) [] := by
  rw [← eZ_of n k h]; exact c137 n (nb k)
set_option maxHeartbeats 1600000 in
theorem c142 (n : Bool) (m : ByteArray) (hm : m.size < 4611686018427387904) : CallOK Tryz.prog 142 [.agg (eI n m)] [] (.agg (eZ (iv n m))) [] := by
  refine CallOK.flat Tryz.func142 rfl 9 rfl rfl rfl [.cell 2 24] (congrArg Array.toList Tryz.results142) ?_
  simp only [startT, Nat.reduceAdd]
  repeat' (first | refine AW.seq ?_ | refine AW.regionP ?_ | refine AW.drawP ymix ?_ | refine AW.block ?_ | refine AW.blk ?_ | refine AW.skip ?_ | refine AW.exit rfl ?_ | (refine AW.cond rfl ?_ ?_ <;> intro hc <;> first | (cases hc; done) | (simp only [NM] at hc) | skip) | (refine AW.ret (RetA.of ?_); simp -dsimp (disch := first | omega | (simp only [LN]; omega)) only [go_sem] <;> try (rfl)) | (refine callV.flat _ yfn_143 (c143 _ (by omega)) rfl rfl ?_) | (refine callV.flat (.agg (eZ (iv n m))) yfn_137 (c137z _ (nv m) (iv n m) (rfl)) rfl rfl ?_) | refine ord_and (by kernel_rfl) ?_ | refine ⟨by (omega), ?_⟩ | (refine gcaseP.splitB (fun hg => ?_) (fun hg => ?_) <;> (try simp only [NB] at hg) <;> (try rw [hg]) <;> (try simp only [NM] at hg)) | omega | simp -dsimp (disch := first | omega | (simp only [LN]; omega)) only [go_sem] | contradiction)
theorem c142z (a : Int) (ha : (Zm a).size < 4611686018427387904) : CallOK Tryz.prog 142 [.agg (eZ a)] [] (.agg (eZ a)) [] := by
  have := c142 (Zn a) (Zm a) ha
  rwa [iv_Z] at this
set_option maxHeartbeats 1600000 in
theorem c67 (z : Int) (h : -9223372036854775808 ≤ z ∧ z < 9223372036854775808) : CallOK Tryz.prog 67 [.lit (.int .i64 z)] [] (.agg (eZ z)) [] := by
  refine CallOK.flat Tryz.func67 rfl 16 rfl rfl rfl [.cell 2 24] (congrArg Array.toList Tryz.results67) ?_
  simp only [startT, Nat.reduceAdd]
  repeat' (first | refine AW.seq ?_ | refine AW.regionP ?_ | refine AW.block ?_ | refine AW.blk ?_ | refine AW.skip ?_ | refine AW.exit rfl ?_ | (refine AW.cond rfl ?_ ?_ <;> intro hc <;> first | (cases hc; done) | (simp only [NM] at hc) | skip) | (refine AW.ret (RetA.of ?_); simp -dsimp (disch := first | omega | (simp only [LN]; omega)) only [go_sem] <;> try (rfl)) | (first | refine callV.flat (.lit (.string (nb (-z).toNat))) yfn_138 (by have := c138 (0 - (z + 1) + 1) (by omega); rw [show (0 - (z+1)+1 : Int) = -z by omega] at this ⊢; exact this) rfl rfl ?_ | refine callV.flat _ yfn_138 (c138 z (by omega)) rfl rfl ?_) | (first | refine callV.flat (.agg (eZ z)) yfn_137 (c137z true (-z).toNat z (by simp only [reduceIte]; omega)) rfl rfl ?_ | refine callV.flat (.agg (eZ z)) yfn_137 (c137z false z.toNat z (by simp only [Bool.false_eq_true, reduceIte]; omega)) rfl rfl ?_) | refine ⟨by (omega), ?_⟩ | (refine gcaseP.splitB (fun hg => ?_) (fun hg => ?_) <;> (try simp only [NB] at hg) <;> (try rw [hg]) <;> (try simp only [NM] at hg)) | omega | simp -dsimp (disch := first | omega | (simp only [LN]; omega)) only [go_sem] | contradiction)
set_option maxHeartbeats 1600000 in
theorem c76 (n : Bool) (m : ByteArray) (hm : m.size < 4611686018427387904) : CallOK Tryz.prog 76 [.agg (eI n m)] [] (.lit (.int .i64 (sg (iv n m)))) [] := by
  refine CallOK.flat Tryz.func76 rfl 12 rfl rfl rfl [.tmp 2] (congrArg Array.toList Tryz.results76) ?_
  simp only [startT, Nat.reduceAdd]
  repeat' (first | refine AW.seq ?_ | refine AW.regionP ?_ | refine AW.block ?_ | refine AW.blk ?_ | refine AW.skip ?_ | refine AW.exit rfl ?_ | (refine AW.cond rfl ?_ ?_ <;> intro hc <;> first | (cases hc; done) | (simp only [NM] at hc) | skip) | (refine AW.ret (RetA.of ?_); simp -dsimp (disch := first | omega | (simp only [LN]; omega)) only [go_sem] <;> try (rfl)) | (refine callV.flat _ yfn_142 (c142 _ _ (by omega)) rfl rfl ?_) | refine ⟨by (omega), ?_⟩ | (refine gcaseP.splitB (fun hg => ?_) (fun hg => ?_) <;> (try simp only [NB] at hg) <;> (try rw [hg]) <;> (try simp only [NM] at hg)) | omega | simp -dsimp (disch := first | omega | (simp only [LN]; omega)) only [go_sem] | contradiction)
  all_goals (unfold sg Zn at *; simp_all [Zm_empty])
set_option maxHeartbeats 1600000 in
theorem c73 (n : Bool) (m : ByteArray) (hm : m.size < 4611686018427387904) : CallOK Tryz.prog 73 [.agg (eI n m)] [] (.agg (eZ (-iv n m))) [] := by
  refine CallOK.flat Tryz.func73 rfl 11 rfl rfl rfl [.cell 2 24] (congrArg Array.toList Tryz.results73) ?_
  simp only [startT, Nat.reduceAdd]
  repeat' (first | refine AW.seq ?_ | refine AW.regionP ?_ | refine AW.block ?_ | refine AW.blk ?_ | refine AW.skip ?_ | refine AW.exit rfl ?_ | (refine AW.cond rfl ?_ ?_ <;> intro hc <;> first | (cases hc; done) | (simp only [NM] at hc) | skip) | (refine AW.ret (RetA.of ?_); simp -dsimp (disch := first | omega | (simp only [LN]; omega)) only [go_sem] <;> try (rfl)) | (refine callV.flat _ yfn_142 (c142 _ _ (by omega)) rfl rfl ?_) | (refine callV.flat (.agg (eZ (-iv n m))) yfn_137 (c137z _ ((iv n m).natAbs) (-iv n m) (by unfold Zn; by_cases h : iv n m < 0 <;> simp [h] <;> omega)) rfl rfl ?_) | refine ⟨by (omega), ?_⟩ | (refine gcaseP.splitB (fun hg => ?_) (fun hg => ?_) <;> (try simp only [NB] at hg) <;> (try rw [hg]) <;> (try simp only [NM] at hg)) | omega | simp -dsimp (disch := first | omega | (simp only [LN]; omega)) only [go_sem] | contradiction)
theorem c76z (a : Int) (ha : (Zm a).size < 4611686018427387904) : CallOK Tryz.prog 76 [.agg (eZ a)] [] (.lit (.int .i64 (sg a))) [] := by
  have := c76 (Zn a) (Zm a) ha
  rwa [iv_Z] at this
theorem c73z (a : Int) (ha : (Zm a).size < 4611686018427387904) : CallOK Tryz.prog 73 [.agg (eZ a)] [] (.agg (eZ (-a))) [] := by
  have := c73 (Zn a) (Zm a) ha
  rwa [iv_Z] at this
set_option maxHeartbeats 1600000 in
theorem c83 (n : Bool) (m : ByteArray) (n' : Bool) (m' : ByteArray) (hm : m.size < 68719476736) (hm' : m'.size < 68719476736) : CallOK Tryz.prog 83 [.agg (eI n m), .agg (eI n' m')] [] (.agg (eZ (iv n m * iv n' m'))) [] := by
  refine CallOK.flat Tryz.func83 rfl 20 rfl rfl rfl [.cell 4 24] (congrArg Array.toList Tryz.results83) ?_
  simp only [startT, Nat.reduceAdd]
  have sx := zs_iv n m
  have sy := zs_iv n' m'
  generalize hx : iv n m = x at *
  generalize hy : iv n' m' = y at *
  repeat' (first | refine AW.seq ?_ | refine AW.regionP ?_ | refine AW.drawP ymix ?_ | refine AW.block ?_ | refine AW.blk ?_ | refine AW.skip ?_ | refine AW.exit rfl ?_ | (refine AW.cond rfl ?_ ?_ <;> intro hc <;> first | (cases hc; done) | (simp only [NM] at hc) | skip) | (refine AW.ret (RetA.of ?_); simp -dsimp (disch := first | omega | (simp only [LN]; omega)) only [go_sem] <;> try (rfl)) | (first | refine callV.flat (.agg (eZ x)) yfn_142 (hx ▸ c142 n m (by omega)) rfl rfl ?_ | refine callV.flat (.agg (eZ y)) yfn_142 (hy ▸ c142 n' m' (by omega)) rfl rfl ?_) | (refine callV.flat _ yfn_149 (c149 _ _ (by omega) (by omega)) rfl rfl ?_) | (refine callV.flat (.agg (eZ (x * y))) yfn_137 (c137z _ (nv (Zm x) * nv (Zm y)) (x * y) (mul_sgn x y)) rfl rfl ?_) | refine ord_and (by kernel_rfl) ?_ | refine ⟨by (omega), ?_⟩ | (refine gcaseP.splitB (fun hg => ?_) (fun hg => ?_) <;> (try simp only [NB] at hg) <;> (try rw [hg]) <;> (try simp only [NM] at hg)) | omega | simp -dsimp (disch := first | omega | (simp only [LN]; omega)) only [go_sem] | contradiction)
theorem c148t (a b : ByteArray) (ha : a.size < 274877906944) (hb : b.size < 274877906944) (h : nv b ≤ nv a) : CallOK Tryz.prog 148 [.lit (.string a), .lit (.string b)] [] (.tup [.lit (.string (nb (nv a - nv b))), .lit (.bool true)]) [] := by
  have := c148 a b ha hb
  rwa [if_neg (by omega), decide_eq_true h] at this
theorem c148f (a b : ByteArray) (ha : a.size < 274877906944) (hb : b.size < 274877906944) (h : nv a < nv b) : CallOK Tryz.prog 148 [.lit (.string a), .lit (.string b)] [] (.tup [.lit (.string ⟨#[]⟩), .lit (.bool false)]) [] := by
  have := c148 a b ha hb
  rwa [if_pos h, decide_eq_false (by omega)] at this
theorem add_s1 {x y : Int} (hs : Zn x = Zn y) : x + y = if Zn x = true then -((nv (Zm x) + nv (Zm y) : Nat) : Int) else ((nv (Zm x) + nv (Zm y) : Nat) : Int) := by
  simp only [nv_Zm]
  unfold Zn at hs ⊢
  by_cases h : x < 0 <;> by_cases h' : y < 0 <;> simp [h, h'] at hs ⊢ <;> omega
theorem add_s2 {x y : Int} (hs : ¬ Zn x = Zn y) (hle : y.natAbs ≤ x.natAbs) : x + y = if Zn x = true then -((nv (Zm x) - nv (Zm y) : Nat) : Int) else ((nv (Zm x) - nv (Zm y) : Nat) : Int) := by
  simp only [nv_Zm]
  unfold Zn at hs ⊢
  by_cases h : x < 0 <;> by_cases h' : y < 0 <;> simp only [h, h', decide_true, decide_false, reduceIte, not_true_eq_false, Bool.false_eq_true] at hs ⊢ <;> omega
theorem add_s3 {x y : Int} (hs : ¬ Zn x = Zn y) (hle : ¬ y.natAbs ≤ x.natAbs) : x + y = if Zn y = true then -((nv (Zm y) - nv (Zm x) : Nat) : Int) else ((nv (Zm y) - nv (Zm x) : Nat) : Int) := by
  simp only [nv_Zm]
  unfold Zn at hs ⊢
  by_cases h : x < 0 <;> by_cases h' : y < 0 <;> simp only [h, h', decide_true, decide_false, reduceIte, not_true_eq_false, Bool.false_eq_true] at hs ⊢ <;> omega
set_option maxHeartbeats 1600000 in
theorem c82 (n : Bool) (m : ByteArray) (n' : Bool) (m' : ByteArray) (hm : m.size < 68719476736) (hm' : m'.size < 68719476736) : CallOK Tryz.prog 82 [.agg (eI n m), .agg (eI n' m')] [] (.agg (eZ (iv n m + iv n' m'))) [] := by
  refine CallOK.flat Tryz.func82 rfl 51 rfl rfl rfl [.cell 4 24] (congrArg Array.toList Tryz.results82) ?_
  simp only [startT, Nat.reduceAdd]
  have sx := zs_iv n m
  have sy := zs_iv n' m'
  generalize hx : iv n m = x at *
  generalize hy : iv n' m' = y at *
  by_cases hs : Zn x = Zn y
  · have hT := eq_true hs
    repeat' (first | refine AW.seq ?_ | refine AW.regionP ?_ | refine AW.drawP ymix ?_ | refine AW.block ?_ | refine AW.blk ?_ | refine AW.skip ?_ | refine AW.exit rfl ?_ | (refine AW.cond rfl ?_ ?_ <;> intro hc <;> first | (cases hc; done) | (simp only [NM] at hc) | skip) | (refine AW.ret (RetA.of ?_); simp -dsimp (disch := first | omega | (simp only [LN]; omega)) only [go_sem, hT] <;> try (rfl)) | (first | refine callV.flat (.agg (eZ x)) yfn_142 (hx ▸ c142 n m (by omega)) rfl rfl ?_ | refine callV.flat (.agg (eZ y)) yfn_142 (hy ▸ c142 n' m' (by omega)) rfl rfl ?_) | (refine callV.flat _ yfn_147 (c147 _ _ (by omega) (by omega)) rfl rfl ?_) | (first | refine callV.flat _ yfn_148 (c148t _ _ (by omega) (by omega) (by simp only [nv_Zm]; omega)) rfl rfl ?_ | refine callV.flat _ yfn_148 (c148f _ _ (by omega) (by omega) (by simp only [nv_Zm]; omega)) rfl rfl ?_) | (first | refine callV.flat (.agg (eZ (x + y))) yfn_137 (c137z (Zn x) _ _ (add_s1 hs)) rfl rfl ?_ | refine callV.flat (.agg (eZ (x + y))) yfn_137 (c137z (Zn x) _ _ (add_s2 hs hle)) rfl rfl ?_ | refine callV.flat (.agg (eZ (x + y))) yfn_137 (c137z (Zn y) _ _ (add_s3 hs hle)) rfl rfl ?_) | refine ord_and (by kernel_rfl) ?_ | refine ⟨by (omega), ?_⟩ | (refine gcaseP.splitB (fun hg => ?_) (fun hg => ?_) <;> (try simp only [NB] at hg) <;> (try rw [hg]) <;> (try simp only [NM] at hg)) | omega | simp -dsimp (disch := first | omega | (simp only [LN]; omega)) only [go_sem, hT] | contradiction)
  · have hT := eq_false hs
    by_cases hle : y.natAbs ≤ x.natAbs
    · repeat' (first | refine AW.seq ?_ | refine AW.regionP ?_ | refine AW.drawP ymix ?_ | refine AW.block ?_ | refine AW.blk ?_ | refine AW.skip ?_ | refine AW.exit rfl ?_ | (refine AW.cond rfl ?_ ?_ <;> intro hc <;> first | (cases hc; done) | (simp only [NM] at hc) | skip) | (refine AW.ret (RetA.of ?_); simp -dsimp (disch := first | omega | (simp only [LN]; omega)) only [go_sem, hT] <;> try (rfl)) | (first | refine callV.flat (.agg (eZ x)) yfn_142 (hx ▸ c142 n m (by omega)) rfl rfl ?_ | refine callV.flat (.agg (eZ y)) yfn_142 (hy ▸ c142 n' m' (by omega)) rfl rfl ?_) | (refine callV.flat _ yfn_147 (c147 _ _ (by omega) (by omega)) rfl rfl ?_) | (first | refine callV.flat _ yfn_148 (c148t _ _ (by omega) (by omega) (by simp only [nv_Zm]; omega)) rfl rfl ?_ | refine callV.flat _ yfn_148 (c148f _ _ (by omega) (by omega) (by simp only [nv_Zm]; omega)) rfl rfl ?_) | (first | refine callV.flat (.agg (eZ (x + y))) yfn_137 (c137z (Zn x) _ _ (add_s1 hs)) rfl rfl ?_ | refine callV.flat (.agg (eZ (x + y))) yfn_137 (c137z (Zn x) _ _ (add_s2 hs hle)) rfl rfl ?_ | refine callV.flat (.agg (eZ (x + y))) yfn_137 (c137z (Zn y) _ _ (add_s3 hs hle)) rfl rfl ?_) | refine ord_and (by kernel_rfl) ?_ | refine ⟨by (omega), ?_⟩ | (refine gcaseP.splitB (fun hg => ?_) (fun hg => ?_) <;> (try simp only [NB] at hg) <;> (try rw [hg]) <;> (try simp only [NM] at hg)) | omega | simp -dsimp (disch := first | omega | (simp only [LN]; omega)) only [go_sem, hT] | contradiction)
    · repeat' (first | refine AW.seq ?_ | refine AW.regionP ?_ | refine AW.drawP ymix ?_ | refine AW.block ?_ | refine AW.blk ?_ | refine AW.skip ?_ | refine AW.exit rfl ?_ | (refine AW.cond rfl ?_ ?_ <;> intro hc <;> first | (cases hc; done) | (simp only [NM] at hc) | skip) | (refine AW.ret (RetA.of ?_); simp -dsimp (disch := first | omega | (simp only [LN]; omega)) only [go_sem, hT] <;> try (rfl)) | (first | refine callV.flat (.agg (eZ x)) yfn_142 (hx ▸ c142 n m (by omega)) rfl rfl ?_ | refine callV.flat (.agg (eZ y)) yfn_142 (hy ▸ c142 n' m' (by omega)) rfl rfl ?_) | (refine callV.flat _ yfn_147 (c147 _ _ (by omega) (by omega)) rfl rfl ?_) | (first | refine callV.flat _ yfn_148 (c148t _ _ (by omega) (by omega) (by simp only [nv_Zm]; omega)) rfl rfl ?_ | refine callV.flat _ yfn_148 (c148f _ _ (by omega) (by omega) (by simp only [nv_Zm]; omega)) rfl rfl ?_) | (first | refine callV.flat (.agg (eZ (x + y))) yfn_137 (c137z (Zn x) _ _ (add_s1 hs)) rfl rfl ?_ | refine callV.flat (.agg (eZ (x + y))) yfn_137 (c137z (Zn x) _ _ (add_s2 hs hle)) rfl rfl ?_ | refine callV.flat (.agg (eZ (x + y))) yfn_137 (c137z (Zn y) _ _ (add_s3 hs hle)) rfl rfl ?_) | refine ord_and (by kernel_rfl) ?_ | refine ⟨by (omega), ?_⟩ | (refine gcaseP.splitB (fun hg => ?_) (fun hg => ?_) <;> (try simp only [NB] at hg) <;> (try rw [hg]) <;> (try simp only [NM] at hg)) | omega | simp -dsimp (disch := first | omega | (simp only [LN]; omega)) only [go_sem, hT] | contradiction)
theorem c82z (a b : Int) (ha : (Zm a).size < 68719476736) (hb : (Zm b).size < 68719476736) : CallOK Tryz.prog 82 [.agg (eZ a), .agg (eZ b)] [] (.agg (eZ (a + b))) [] := by
  have := c82 (Zn a) (Zm a) (Zn b) (Zm b) ha hb
  rwa [iv_Z, iv_Z] at this
theorem c83z (a b : Int) (ha : (Zm a).size < 68719476736) (hb : (Zm b).size < 68719476736) : CallOK Tryz.prog 83 [.agg (eZ a), .agg (eZ b)] [] (.agg (eZ (a * b))) [] := by
  have := c83 (Zn a) (Zm a) (Zn b) (Zm b) ha hb
  rwa [iv_Z, iv_Z] at this
set_option maxHeartbeats 1600000 in
theorem c166 (n : Bool) (m : ByteArray) (n' : Bool) (m' : ByteArray) (hm : m.size < 68719476736) (hm' : m'.size < 68719476736) : CallOK Tryz.prog 166 [.agg (eI n m), .agg (eI n' m')] [] (.agg (eZ (iv n m - iv n' m'))) [] := by
  refine CallOK.flat Tryz.func166 rfl 9 rfl rfl rfl [.cell 4 24] (congrArg Array.toList Tryz.results166) ?_
  simp only [startT, Nat.reduceAdd]
  repeat' (first | refine AW.seq ?_ | refine AW.regionP ?_ | refine AW.drawP ymix ?_ | refine AW.block ?_ | refine AW.blk ?_ | refine AW.skip ?_ | refine AW.exit rfl ?_ | (refine AW.cond rfl ?_ ?_ <;> intro hc <;> first | (cases hc; done) | (simp only [NM] at hc) | skip) | (refine AW.ret (RetA.of ?_); simp -dsimp (disch := first | omega | (simp only [LN]; omega)) only [go_sem] <;> try (rfl)) | (refine callV.flat _ yfn_73 (c73 n' m' (by omega)) rfl rfl ?_) | (refine callV.flat (.agg (eZ (iv n m - iv n' m'))) yfn_82 (by have := c82 n m (Zn (-iv n' m')) (Zm (-iv n' m')) (by omega) (by rw [Zm_neg]; have := zs_iv n' m'; omega); rw [iv_Z] at this; exact this) rfl rfl ?_) | refine ord_and (by kernel_rfl) ?_ | refine ⟨by (omega), ?_⟩ | (refine gcaseP.splitB (fun hg => ?_) (fun hg => ?_) <;> (try simp only [NB] at hg) <;> (try rw [hg]) <;> (try simp only [NM] at hg)) | omega | simp -dsimp (disch := first | omega | (simp only [LN]; omega)) only [go_sem] | contradiction)
theorem c166z (a b : Int) (ha : (Zm a).size < 68719476736) (hb : (Zm b).size < 68719476736) : CallOK Tryz.prog 166 [.agg (eZ a), .agg (eZ b)] [] (.agg (eZ (a - b))) [] := by
  have := c166 (Zn a) (Zm a) (Zn b) (Zm b) ha hb
  rwa [iv_Z, iv_Z] at this
set_option maxHeartbeats 1600000 in
theorem c97 (n : Bool) (m : ByteArray) (n' : Bool) (m' : ByteArray) (hm : m.size < 68719476736) (hm' : m'.size < 68719476736) : CallOK Tryz.prog 97 [.agg (eI n m), .agg (eI n' m')] [] (.lit (.int .i64 (sg (iv n m - iv n' m')))) [] := by
  refine CallOK.flat Tryz.func97 rfl 9 rfl rfl rfl [.tmp 4] (congrArg Array.toList Tryz.results97) ?_
  simp only [startT, Nat.reduceAdd]
  repeat' (first | refine AW.seq ?_ | refine AW.regionP ?_ | refine AW.block ?_ | refine AW.blk ?_ | refine AW.skip ?_ | refine AW.exit rfl ?_ | (refine AW.cond rfl ?_ ?_ <;> intro hc <;> first | (cases hc; done) | (simp only [NM] at hc) | skip) | (refine AW.ret (RetA.of ?_); simp -dsimp (disch := first | omega | (simp only [LN]; omega)) only [go_sem] <;> try (rfl)) | (refine callV.flat _ yfn_166 (c166 n m n' m' (by omega) (by omega)) rfl rfl ?_) | (refine callV.flat _ yfn_76 (c76z (iv n m - iv n' m') (by have := zs_sub (iv n m) (iv n' m') (k := 68719476736) (by have := zs_iv n m; omega) (by have := zs_iv n' m'; omega); omega)) rfl rfl ?_) | refine ⟨by (omega), ?_⟩ | (refine gcaseP.splitB (fun hg => ?_) (fun hg => ?_) <;> (try simp only [NB] at hg) <;> (try rw [hg]) <;> (try simp only [NM] at hg)) | omega | simp -dsimp (disch := first | omega | (simp only [LN]; omega)) only [go_sem] | contradiction)
theorem c97z (a b : Int) (ha : (Zm a).size < 68719476736) (hb : (Zm b).size < 68719476736) : CallOK Tryz.prog 97 [.agg (eZ a), .agg (eZ b)] [] (.lit (.int .i64 (sg (a - b)))) [] := by
  have := c97 (Zn a) (Zm a) (Zn b) (Zm b) ha hb
  rwa [iv_Z, iv_Z] at this
end Go.Proofs.Vx
