import Derived.Test.YtjlfgmhmalbiiaaGreatDoorProg
import Derived.Test.YtjlfgmhmalbiiaaGreatDoorT10
import Derived.Test.YtjlfgmhmalbiiaaGreatDoorT14
set_option linter.all false
namespace Go.Proofs.Vx
open Go Go.Sx Go.Proofs
attribute [local irreducible] fnT CallOK CallFr AW effV callV runP runO oneP oneO gcaseP hid
theorem yqq_Nx14 : arT Tryz.prog 112 = none ∧ slT Tryz.prog 112 = some (24, 2) ∧ strT Tryz.prog 112 = false := by and_intros <;> kernel_rfl
attribute [go_sem] yqq_Nx14
theorem c191t (a b : ByteArray) (ha : a.size < 274877906944) (hb : b.size < 274877906944) (h : nv b ≠ 0) : CallOK Tryz.prog 191 [.lit (.string a), .lit (.string b)] [] (.tup [.lit (.string (nb (nv a / nv b))), .lit (.string (nb (nv a % nv b))), .lit (.bool true)]) [] := by
 have := c191 a b ha hb
 rwa [if_neg h, decide_eq_true h] at this
theorem c191f (a b : ByteArray) (ha : a.size < 274877906944) (hb : b.size < 274877906944) (h : nv b = 0) : CallOK Tryz.prog 191 [.lit (.string a), .lit (.string b)] [] (.tup [.lit (.string ⟨#[]⟩), .lit (.string ⟨#[]⟩), .lit (.bool false)]) [] := by
 have := c191 a b ha hb
 rwa [if_pos h, h, Nat.div_zero, nb_zero, decide_eq_false (by simp)] at this
theorem ed {x y q r : Int} (hy : y ≠ 0) (h : r + y * q = x) (h0 : 0 ≤ r) (h1 : r < y.natAbs) : x / y = q ∧ x % y = r := by
 by_cases hp : 0 < y
 ·exact (Int.ediv_emod_unique hp).2 ⟨h, h0, by omega⟩
 ·have hn : 0 < -y := by omega
  have := (Int.ediv_emod_unique (a := x) (b := -y) (r := r) (q := -q) hn).2 ⟨by rw [Int.neg_mul_neg]; exact h, h0, by omega⟩
  rw [Int.ediv_neg, Int.emod_neg] at this
  exact ⟨by omega, this.2⟩
theorem dm (A B : Nat) (hB : B ≠ 0) : ((A % B : Nat) : Int) + (B : Int) * ((A / B : Nat) : Int) = A ∧ ((A % B : Nat) : Int) < B := by
 have h1 := Nat.mod_add_div A B
 have h2 := Nat.mod_lt A (Nat.pos_of_ne_zero hB)
 exact ⟨by exact_mod_cast h1, by omega⟩
theorem dpp {x y : Int} (hx : 0 ≤ x) (hy : 0 < y) : x / y = ((x.natAbs / y.natAbs : Nat) : Int) ∧ x % y = ((x.natAbs % y.natAbs : Nat) : Int) := by
 obtain ⟨h1, h2⟩ := dm x.natAbs y.natAbs (by omega)
 exact ed (by omega) (by rw [show (y.natAbs : Int) = y by omega] at h1; omega) (by omega) h2
theorem dpn {x y : Int} (hx : 0 ≤ x) (hy : y < 0) : x / y = -((x.natAbs / y.natAbs : Nat) : Int) ∧ x % y = ((x.natAbs % y.natAbs : Nat) : Int) := by
 obtain ⟨h1, h2⟩ := dm x.natAbs y.natAbs (by omega)
 refine ed (by omega) ?_ (by omega) h2
 rw [show (y.natAbs : Int) = -y by omega, Int.neg_mul] at h1
 rw [Int.mul_neg]; omega
theorem dnp0 {x y : Int} (hx : x < 0) (hy : 0 < y) (h0 : x.natAbs % y.natAbs = 0) : x / y = -((x.natAbs / y.natAbs : Nat) : Int) ∧ x % y = ((x.natAbs % y.natAbs : Nat) : Int) := by
 obtain ⟨h1, h2⟩ := dm x.natAbs y.natAbs (by omega)
 refine ed (by omega) ?_ (by omega) h2
 rw [h0] at h1 ⊢
 rw [show (y.natAbs : Int) = y by omega] at h1
 rw [Int.mul_neg]; omega
theorem dnn0 {x y : Int} (hx : x < 0) (hy : y < 0) (h0 : x.natAbs % y.natAbs = 0) : x / y = ((x.natAbs / y.natAbs : Nat) : Int) ∧ x % y = ((x.natAbs % y.natAbs : Nat) : Int) := by
 obtain ⟨h1, h2⟩ := dm x.natAbs y.natAbs (by omega)
 refine ed (by omega) ?_ (by omega) h2
 rw [h0] at h1 ⊢
 rw [show (y.natAbs : Int) = -y by omega, Int.neg_mul] at h1
 omega
theorem dnp1 {x y : Int} (hx : x < 0) (hy : 0 < y) (h0 : x.natAbs % y.natAbs ≠ 0) : x / y = -((x.natAbs / y.natAbs + 1 : Nat) : Int) ∧ x % y = ((y.natAbs - x.natAbs % y.natAbs : Nat) : Int) := by
 obtain ⟨h1, h2⟩ := dm x.natAbs y.natAbs (by omega)
 have h3 : ((y.natAbs - x.natAbs % y.natAbs : Nat) : Int) = y.natAbs - (x.natAbs % y.natAbs : Nat) := by omega
 refine ed (by omega) ?_ (by omega) (by omega)
 rw [h3]
 rw [show (y.natAbs : Int) = y by omega] at h1 ⊢
 rw [Int.natCast_add, Int.mul_neg, Int.mul_add]; omega
theorem dnn1 {x y : Int} (hx : x < 0) (hy : y < 0) (h0 : x.natAbs % y.natAbs ≠ 0) : x / y = ((x.natAbs / y.natAbs + 1 : Nat) : Int) ∧ x % y = ((y.natAbs - x.natAbs % y.natAbs : Nat) : Int) := by
 obtain ⟨h1, h2⟩ := dm x.natAbs y.natAbs (by omega)
 have h3 : ((y.natAbs - x.natAbs % y.natAbs : Nat) : Int) = y.natAbs - (x.natAbs % y.natAbs : Nat) := by omega
 refine ed (by omega) ?_ (by omega) (by omega)
 rw [h3]
 rw [show (y.natAbs : Int) = -y by omega, Int.neg_mul] at h1
 rw [show (y.natAbs : Int) = -y by omega, Int.natCast_add, Int.mul_add]; omega
set_option maxHeartbeats 8000000 in
theorem c165 (n : Bool) (m : ByteArray) (n' : Bool) (m' : ByteArray) (hm : m.size < 68719476736) (hm' : m'.size < 68719476736) : CallOK Tryz.prog 165 [.agg (eI n m), .agg (eI n' m')] [] (if iv n' m' = 0 then .tup [.agg (eZ 0), .agg (eZ 0), .lit (.bool false)] else .tup [.agg (eZ (iv n m / iv n' m')), .agg (eZ (iv n m % iv n' m')), .lit (.bool true)]) [] := by
 refine CallOK.flat Tryz.func165 rfl 53 rfl rfl (by split <;> rfl) [.cell 4 24, .cell 5 24, .tmp 6] (congrArg Array.toList Tryz.results165) ?_
 simp only [startT, Nat.reduceAdd]
 have sx := zs_iv n m
 have sy := zs_iv n' m'
 generalize hx : iv n m = x at *
 generalize hy : iv n' m' = y at *
 by_cases hy0 : y = 0
 ·rw [if_pos hy0]
  have e0 : eZ 0 = [.lit (.bool false), .lit (.string ⟨#[]⟩)] := by simp [eZ, Zn, Zm, nb_zero]
  rw [e0]
  repeat' (first | refine zg ?_ | refine AW.drawP ymix ?_ | (refine AW.cond rfl ?_ ?_ <;> intro hc <;> first | (cases hc; done) | simp only [NM] at hc | skip) | (refine zr ?_; simp -dsimp (disch := try exact zo) only [go_sem] <;> try rfl) | (first | refine callV.flat (.agg (eZ x)) yfn_142 (hx ▸ c142 n m (by omega)) rfl rfl ?_ | refine callV.flat (.agg (eZ y)) yfn_142 (hy ▸ c142 n' m' (by omega)) rfl rfl ?_) | (refine callV.flat _ yfn_191 (c191f (Zm x) (Zm y) (by omega) (by omega) (by rw [nv_Zm]; omega)) rfl rfl ?_) | refine ⟨by omega, ?_⟩ | (refine zb ?_ ?_ <;> intro hg <;> (try simp only [NB] at hg) <;> (try rw [hg]) <;> try simp only [NM] at hg) | omega | simp -dsimp (disch := try exact zo) only [go_sem] | contradiction)
 ·rw [if_neg hy0]
  have s1 : (nb 1).size ≤ 1 := (nb_size _ _).2 (by decide)
  have s2 : (nb (nv (Zm x) / nv (Zm y))).size ≤ (Zm x).size := (nb_size _ _).2 (Nat.lt_of_le_of_lt (Nat.div_le_self _ _) (nv_lt _))
  have s3 : (nb (nv (Zm x) % nv (Zm y))).size ≤ (Zm x).size := (nb_size _ _).2 (Nat.lt_of_le_of_lt (Nat.mod_le _ _) (nv_lt _))
  have s4 : (nb (nv (Zm y))).size ≤ (Zm y).size := (nb_size _ _).2 (nv_lt _)
  by_cases hxs : x < 0
  ·by_cases hr0 : x.natAbs % y.natAbs = 0
   ·by_cases hys : y < 0
    ·have hzx : Zn x = true := Zn_true hxs
     have hzy : Zn y = true := Zn_true hys
     have d := dnn0 hxs hys hr0
     have hr : (nb (nv (Zm x) % nv (Zm y)) = ⟨#[]⟩) = True := eq_true ((nb_eq_empty _).2 (by rw [nv_Zm, nv_Zm]; exact hr0))
     repeat' (first | refine zg ?_ | refine AW.drawP ymix ?_ | (refine AW.cond rfl ?_ ?_ <;> intro hc <;> first | (cases hc; done) | simp only [NM] at hc | skip) | (refine zr ?_; simp -dsimp (disch := try exact zo) only [go_sem, hzx, hzy, hr] <;> try rfl) | (first | refine callV.flat (.agg (eZ x)) yfn_142 (hx ▸ c142 n m (by omega)) rfl rfl ?_ | refine callV.flat (.agg (eZ y)) yfn_142 (hy ▸ c142 n' m' (by omega)) rfl rfl ?_) | (refine callV.flat _ yfn_191 (c191t (Zm x) (Zm y) (by omega) (by omega) (by rw [nv_Zm]; omega)) rfl rfl ?_) | (refine callV.flat _ yfn_143 (c143 (Zm y) (by omega)) rfl rfl ?_) | (refine callV.flat (.lit (.string (nb 1))) yfn_138 (c138 1 (by omega)) rfl rfl ?_) | (refine callV.flat _ yfn_147 (c147 (nb (nv (Zm x) / nv (Zm y))) (nb 1) (by omega) (by omega)) rfl rfl ?_) | (refine callV.flat _ yfn_148 (c148t (nb (nv (Zm y))) (nb (nv (Zm x) % nv (Zm y))) (by omega) (by omega) (by rw [nv_nb, nv_nb]; exact Nat.le_of_lt (Nat.mod_lt _ (by rw [nv_Zm]; omega)))) rfl rfl ?_) | (first | refine callV.flat (.agg (eZ (x / y))) yfn_137 (c137z _ _ _ (by simp only [reduceIte, Bool.false_eq_true, nv_nb, nv_Zm]; first | exact d.1 | exact d.2)) rfl rfl ?_ | refine callV.flat (.agg (eZ (x % y))) yfn_137 (c137z _ _ _ (by simp only [reduceIte, Bool.false_eq_true, nv_nb, nv_Zm]; first | exact d.1 | exact d.2)) rfl rfl ?_) | refine ⟨by omega, ?_⟩ | (refine zb ?_ ?_ <;> intro hg <;> (try simp only [NB] at hg) <;> (try rw [hg]) <;> try simp only [NM] at hg) | omega | simp -dsimp (disch := try exact zo) only [go_sem, hzx, hzy, hr] | contradiction)
    ·have hys : 0 < y := by omega
     have hzx : Zn x = true := Zn_true hxs
     have hzy : Zn y = false := Zn_false (Int.le_of_lt hys)
     have d := dnp0 hxs hys hr0
     have hr : (nb (nv (Zm x) % nv (Zm y)) = ⟨#[]⟩) = True := eq_true ((nb_eq_empty _).2 (by rw [nv_Zm, nv_Zm]; exact hr0))
     repeat' (first | refine zg ?_ | refine AW.drawP ymix ?_ | (refine AW.cond rfl ?_ ?_ <;> intro hc <;> first | (cases hc; done) | simp only [NM] at hc | skip) | (refine zr ?_; simp -dsimp (disch := try exact zo) only [go_sem, hzx, hzy, hr] <;> try rfl) | (first | refine callV.flat (.agg (eZ x)) yfn_142 (hx ▸ c142 n m (by omega)) rfl rfl ?_ | refine callV.flat (.agg (eZ y)) yfn_142 (hy ▸ c142 n' m' (by omega)) rfl rfl ?_) | (refine callV.flat _ yfn_191 (c191t (Zm x) (Zm y) (by omega) (by omega) (by rw [nv_Zm]; omega)) rfl rfl ?_) | (refine callV.flat _ yfn_143 (c143 (Zm y) (by omega)) rfl rfl ?_) | (refine callV.flat (.lit (.string (nb 1))) yfn_138 (c138 1 (by omega)) rfl rfl ?_) | (refine callV.flat _ yfn_147 (c147 (nb (nv (Zm x) / nv (Zm y))) (nb 1) (by omega) (by omega)) rfl rfl ?_) | (refine callV.flat _ yfn_148 (c148t (nb (nv (Zm y))) (nb (nv (Zm x) % nv (Zm y))) (by omega) (by omega) (by rw [nv_nb, nv_nb]; exact Nat.le_of_lt (Nat.mod_lt _ (by rw [nv_Zm]; omega)))) rfl rfl ?_) | (first | refine callV.flat (.agg (eZ (x / y))) yfn_137 (c137z _ _ _ (by simp only [reduceIte, Bool.false_eq_true, nv_nb, nv_Zm]; first | exact d.1 | exact d.2)) rfl rfl ?_ | refine callV.flat (.agg (eZ (x % y))) yfn_137 (c137z _ _ _ (by simp only [reduceIte, Bool.false_eq_true, nv_nb, nv_Zm]; first | exact d.1 | exact d.2)) rfl rfl ?_) | refine ⟨by omega, ?_⟩ | (refine zb ?_ ?_ <;> intro hg <;> (try simp only [NB] at hg) <;> (try rw [hg]) <;> try simp only [NM] at hg) | omega | simp -dsimp (disch := try exact zo) only [go_sem, hzx, hzy, hr] | contradiction)
   ·by_cases hys : y < 0
    ·have hzx : Zn x = true := Zn_true hxs
     have hzy : Zn y = true := Zn_true hys
     have d := dnn1 hxs hys hr0
     have hr : (nb (nv (Zm x) % nv (Zm y)) = ⟨#[]⟩) = False := eq_false fun h => hr0 (by have := (nb_eq_empty _).1 h; rwa [nv_Zm, nv_Zm] at this)
     repeat' (first | refine zg ?_ | refine AW.drawP ymix ?_ | (refine AW.cond rfl ?_ ?_ <;> intro hc <;> first | (cases hc; done) | simp only [NM] at hc | skip) | (refine zr ?_; simp -dsimp (disch := try exact zo) only [go_sem, hzx, hzy, hr] <;> try rfl) | (first | refine callV.flat (.agg (eZ x)) yfn_142 (hx ▸ c142 n m (by omega)) rfl rfl ?_ | refine callV.flat (.agg (eZ y)) yfn_142 (hy ▸ c142 n' m' (by omega)) rfl rfl ?_) | (refine callV.flat _ yfn_191 (c191t (Zm x) (Zm y) (by omega) (by omega) (by rw [nv_Zm]; omega)) rfl rfl ?_) | (refine callV.flat _ yfn_143 (c143 (Zm y) (by omega)) rfl rfl ?_) | (refine callV.flat (.lit (.string (nb 1))) yfn_138 (c138 1 (by omega)) rfl rfl ?_) | (refine callV.flat _ yfn_147 (c147 (nb (nv (Zm x) / nv (Zm y))) (nb 1) (by omega) (by omega)) rfl rfl ?_) | (refine callV.flat _ yfn_148 (c148t (nb (nv (Zm y))) (nb (nv (Zm x) % nv (Zm y))) (by omega) (by omega) (by rw [nv_nb, nv_nb]; exact Nat.le_of_lt (Nat.mod_lt _ (by rw [nv_Zm]; omega)))) rfl rfl ?_) | (first | refine callV.flat (.agg (eZ (x / y))) yfn_137 (c137z _ _ _ (by simp only [reduceIte, Bool.false_eq_true, nv_nb, nv_Zm]; first | exact d.1 | exact d.2)) rfl rfl ?_ | refine callV.flat (.agg (eZ (x % y))) yfn_137 (c137z _ _ _ (by simp only [reduceIte, Bool.false_eq_true, nv_nb, nv_Zm]; first | exact d.1 | exact d.2)) rfl rfl ?_) | refine ⟨by omega, ?_⟩ | (refine zb ?_ ?_ <;> intro hg <;> (try simp only [NB] at hg) <;> (try rw [hg]) <;> try simp only [NM] at hg) | omega | simp -dsimp (disch := try exact zo) only [go_sem, hzx, hzy, hr] | contradiction)
    ·have hys : 0 < y := by omega
     have hzx : Zn x = true := Zn_true hxs
     have hzy : Zn y = false := Zn_false (Int.le_of_lt hys)
     have d := dnp1 hxs hys hr0
     have hr : (nb (nv (Zm x) % nv (Zm y)) = ⟨#[]⟩) = False := eq_false fun h => hr0 (by have := (nb_eq_empty _).1 h; rwa [nv_Zm, nv_Zm] at this)
     repeat' (first | refine zg ?_ | refine AW.drawP ymix ?_ | (refine AW.cond rfl ?_ ?_ <;> intro hc <;> first | (cases hc; done) | simp only [NM] at hc | skip) | (refine zr ?_; simp -dsimp (disch := try exact zo) only [go_sem, hzx, hzy, hr] <;> try rfl) | (first | refine callV.flat (.agg (eZ x)) yfn_142 (hx ▸ c142 n m (by omega)) rfl rfl ?_ | refine callV.flat (.agg (eZ y)) yfn_142 (hy ▸ c142 n' m' (by omega)) rfl rfl ?_) | (refine callV.flat _ yfn_191 (c191t (Zm x) (Zm y) (by omega) (by omega) (by rw [nv_Zm]; omega)) rfl rfl ?_) | (refine callV.flat _ yfn_143 (c143 (Zm y) (by omega)) rfl rfl ?_) | (refine callV.flat (.lit (.string (nb 1))) yfn_138 (c138 1 (by omega)) rfl rfl ?_) | (refine callV.flat _ yfn_147 (c147 (nb (nv (Zm x) / nv (Zm y))) (nb 1) (by omega) (by omega)) rfl rfl ?_) | (refine callV.flat _ yfn_148 (c148t (nb (nv (Zm y))) (nb (nv (Zm x) % nv (Zm y))) (by omega) (by omega) (by rw [nv_nb, nv_nb]; exact Nat.le_of_lt (Nat.mod_lt _ (by rw [nv_Zm]; omega)))) rfl rfl ?_) | (first | refine callV.flat (.agg (eZ (x / y))) yfn_137 (c137z _ _ _ (by simp only [reduceIte, Bool.false_eq_true, nv_nb, nv_Zm]; first | exact d.1 | exact d.2)) rfl rfl ?_ | refine callV.flat (.agg (eZ (x % y))) yfn_137 (c137z _ _ _ (by simp only [reduceIte, Bool.false_eq_true, nv_nb, nv_Zm]; first | exact d.1 | exact d.2)) rfl rfl ?_) | refine ⟨by omega, ?_⟩ | (refine zb ?_ ?_ <;> intro hg <;> (try simp only [NB] at hg) <;> (try rw [hg]) <;> try simp only [NM] at hg) | omega | simp -dsimp (disch := try exact zo) only [go_sem, hzx, hzy, hr] | contradiction)
  ·have hxs : 0 ≤ x := by omega
   by_cases hys : y < 0
   ·have hzx : Zn x = false := Zn_false hxs
    have hzy : Zn y = true := Zn_true hys
    have d := dpn hxs hys
    have hr : True := trivial
    repeat' (first | refine zg ?_ | refine AW.drawP ymix ?_ | (refine AW.cond rfl ?_ ?_ <;> intro hc <;> first | (cases hc; done) | simp only [NM] at hc | skip) | (refine zr ?_; simp -dsimp (disch := try exact zo) only [go_sem, hzx, hzy, hr] <;> try rfl) | (first | refine callV.flat (.agg (eZ x)) yfn_142 (hx ▸ c142 n m (by omega)) rfl rfl ?_ | refine callV.flat (.agg (eZ y)) yfn_142 (hy ▸ c142 n' m' (by omega)) rfl rfl ?_) | (refine callV.flat _ yfn_191 (c191t (Zm x) (Zm y) (by omega) (by omega) (by rw [nv_Zm]; omega)) rfl rfl ?_) | (refine callV.flat _ yfn_143 (c143 (Zm y) (by omega)) rfl rfl ?_) | (refine callV.flat (.lit (.string (nb 1))) yfn_138 (c138 1 (by omega)) rfl rfl ?_) | (refine callV.flat _ yfn_147 (c147 (nb (nv (Zm x) / nv (Zm y))) (nb 1) (by omega) (by omega)) rfl rfl ?_) | (refine callV.flat _ yfn_148 (c148t (nb (nv (Zm y))) (nb (nv (Zm x) % nv (Zm y))) (by omega) (by omega) (by rw [nv_nb, nv_nb]; exact Nat.le_of_lt (Nat.mod_lt _ (by rw [nv_Zm]; omega)))) rfl rfl ?_) | (first | refine callV.flat (.agg (eZ (x / y))) yfn_137 (c137z _ _ _ (by simp only [reduceIte, Bool.false_eq_true, nv_nb, nv_Zm]; first | exact d.1 | exact d.2)) rfl rfl ?_ | refine callV.flat (.agg (eZ (x % y))) yfn_137 (c137z _ _ _ (by simp only [reduceIte, Bool.false_eq_true, nv_nb, nv_Zm]; first | exact d.1 | exact d.2)) rfl rfl ?_) | refine ⟨by omega, ?_⟩ | (refine zb ?_ ?_ <;> intro hg <;> (try simp only [NB] at hg) <;> (try rw [hg]) <;> try simp only [NM] at hg) | omega | simp -dsimp (disch := try exact zo) only [go_sem, hzx, hzy, hr] | contradiction)
   ·have hys : 0 < y := by omega
    have hzx : Zn x = false := Zn_false hxs
    have hzy : Zn y = false := Zn_false (Int.le_of_lt hys)
    have d := dpp hxs hys
    have hr : True := trivial
    repeat' (first | refine zg ?_ | refine AW.drawP ymix ?_ | (refine AW.cond rfl ?_ ?_ <;> intro hc <;> first | (cases hc; done) | simp only [NM] at hc | skip) | (refine zr ?_; simp -dsimp (disch := try exact zo) only [go_sem, hzx, hzy, hr] <;> try rfl) | (first | refine callV.flat (.agg (eZ x)) yfn_142 (hx ▸ c142 n m (by omega)) rfl rfl ?_ | refine callV.flat (.agg (eZ y)) yfn_142 (hy ▸ c142 n' m' (by omega)) rfl rfl ?_) | (refine callV.flat _ yfn_191 (c191t (Zm x) (Zm y) (by omega) (by omega) (by rw [nv_Zm]; omega)) rfl rfl ?_) | (refine callV.flat _ yfn_143 (c143 (Zm y) (by omega)) rfl rfl ?_) | (refine callV.flat (.lit (.string (nb 1))) yfn_138 (c138 1 (by omega)) rfl rfl ?_) | (refine callV.flat _ yfn_147 (c147 (nb (nv (Zm x) / nv (Zm y))) (nb 1) (by omega) (by omega)) rfl rfl ?_) | (refine callV.flat _ yfn_148 (c148t (nb (nv (Zm y))) (nb (nv (Zm x) % nv (Zm y))) (by omega) (by omega) (by rw [nv_nb, nv_nb]; exact Nat.le_of_lt (Nat.mod_lt _ (by rw [nv_Zm]; omega)))) rfl rfl ?_) | (first | refine callV.flat (.agg (eZ (x / y))) yfn_137 (c137z _ _ _ (by simp only [reduceIte, Bool.false_eq_true, nv_nb, nv_Zm]; first | exact d.1 | exact d.2)) rfl rfl ?_ | refine callV.flat (.agg (eZ (x % y))) yfn_137 (c137z _ _ _ (by simp only [reduceIte, Bool.false_eq_true, nv_nb, nv_Zm]; first | exact d.1 | exact d.2)) rfl rfl ?_) | refine ⟨by omega, ?_⟩ | (refine zb ?_ ?_ <;> intro hg <;> (try simp only [NB] at hg) <;> (try rw [hg]) <;> try simp only [NM] at hg) | omega | simp -dsimp (disch := try exact zo) only [go_sem, hzx, hzy, hr] | contradiction)
theorem c165z (a b : Int) (ha : (Zm a).size < 68719476736) (hb : (Zm b).size < 68719476736) (h : b ≠ 0) : CallOK Tryz.prog 165 [.agg (eZ a), .agg (eZ b)] [] (.tup [.agg (eZ (a / b)), .agg (eZ (a % b)), .lit (.bool true)]) [] := by
 have := c165 (Zn a) (Zm a) (Zn b) (Zm b) ha hb
 rwa [iv_Z, iv_Z, if_neg h] at this
abbrev RI := Bool × ByteArray
def ris (l : List RI) : List (List AV) := l.map fun p => eI p.1 p.2
def gcdN (l : List RI) : Nat := l.foldl (fun g p => Nat.gcd g (nv p.2)) 0
theorem ris_length (l : List RI) : (ris l).length = l.length := by simp [ris]
theorem ris_getD (l : List RI) (i : Nat) (h : i < l.length) : (ris l).getD i [] = eI (l.getD i (false, ⟨#[]⟩)).1 (l.getD i (false, ⟨#[]⟩)).2 := by
 simp [ris, List.getD_eq_getElem?_getD, h]
theorem ris_in {K : Nat → Prop} (l : List RI) : (∀ e ∈ ris l, ∀ c ∈ e, In K c) = True := by
 apply eq_true
 intro e he c hc
 obtain ⟨p, _, rfl⟩ := List.mem_map.1 he
 simp only [List.mem_cons, List.not_mem_nil, or_false] at hc
 rcases hc with rfl | rfl <;> exact .lit _
theorem gcdN_take (l : List RI) (i : Nat) (h : i < l.length) : gcdN (l.take (i + 1)) = Nat.gcd (gcdN (l.take i)) (nv (l.getD i (false, ⟨#[]⟩)).2) := by
 unfold gcdN
 rw [List.take_add_one, List.foldl_append, List.getElem?_eq_getElem h]
 simp [List.getD_eq_getElem?_getD, h]
set_option maxHeartbeats 1600000 in
theorem c167 (l : List RI) (h : ∀ p ∈ l, p.2.size < 68719476736) (hn : l.length < 1099511627776) : CallOK Tryz.prog 167 [.sl (ris l)] [] (.agg (eZ (gcdN l : Int))) [] := by
 refine CallOK.flat Tryz.func167 rfl 19 rfl rfl rfl [.cell 2 24] (congrArg Array.toList Tryz.results167) ?_
 simp only [startT, Nat.reduceAdd]
 repeat' (first | refine zg ?_ | (refine AW.cond rfl ?_ ?_ <;> intro hc <;> first | (cases hc; done) | simp only [NM] at hc | skip) | (refine zr ?_; simp -dsimp (disch := try exact zo) only [go_sem, ris_length] <;> try rfl) | refine ⟨by omega, ?_⟩ | (refine zb ?_ ?_ <;> intro hg <;> (try simp only [NB] at hg) <;> (try rw [hg]) <;> try simp only [NM] at hg) | omega | simp -dsimp (disch := try exact zo) only [go_sem, ris_length] | contradiction)
 refine AW.loop (fun z : {p : Nat × Nat // p.1 ≤ l.length ∧ p.2 = gcdN (l.take p.1) ∧ (nb p.2).size < 68719476736} => ⟨[(8, .lit (.int .i64 z.1.1)), (7, .lit (.int .i64 l.length)), (6, .sl (ris l)), (3, .lit (.string (nb z.1.2))), (2, .loc 8 0)], [(8, .blk [.lit (.bool false), .lit (.string ⟨#[]⟩)])], 20⟩) (fun z => l.length - z.1.1) ⟨(0, 0), Nat.zero_le _, rfl, by rw [nb_zero_size]; omega⟩ (Weak.t4 (by refine ⟨?_, ?_, ?_, ?_⟩ <;> simp -dsimp (disch := try exact zo) only [go_sem, nb_zero, ris_in, Int.natCast_add, Int.cast_ofNat_Int])) ?_
 rintro ⟨⟨i, g⟩, hi, hg, hs⟩
 dsimp only at hi hg hs ⊢
 by_cases hlt : i < l.length
 ·have hp := h (l.getD i (false, ⟨#[]⟩)) (by rw [List.getD_eq_getElem?_getD, List.getElem?_eq_getElem hlt]; exact List.getElem_mem _)
  have eg := ris_getD l i hlt
  have hgs : (nb (Nat.gcd g (nv (l.getD i (false, ⟨#[]⟩)).2))).size < 68719476736 := by
   by_cases h0 : g = 0
   ·subst h0
    rw [Nat.gcd_zero_left]
    have := can_size (l.getD i (false, ⟨#[]⟩)).2
    omega
   ·have : (nb (Nat.gcd g (nv (l.getD i (false, ⟨#[]⟩)).2))).size ≤ (nb g).size := (nb_size _ _).2 (Nat.lt_of_le_of_lt (Nat.le_of_dvd (by omega) (Nat.gcd_dvd_left _ _)) ((nb_size _ _).1 (Nat.le_refl _)))
    omega
  generalize hq : l.getD i (false, ⟨#[]⟩) = q at *
  have hgt := gcdN_take l i hlt
  rw [hq, ← hg] at hgt
  repeat' (first | refine zg ?_ | (refine AW.cond rfl ?_ ?_ <;> intro hc <;> first | (cases hc; done) | simp only [NM] at hc | skip) | (refine zr ?_; simp -dsimp (disch := try exact zo) only [go_sem, ris_length, eg, nv_nb] <;> try rfl) | (refine callV.flat _ yfn_189 (c189 _ _ (by omega) (by omega)) rfl rfl ?_) | refine ⟨by omega, ?_⟩ | (refine zb ?_ ?_ <;> intro hg <;> (try simp only [NB] at hg) <;> (try rw [hg]) <;> try simp only [NM] at hg) | omega | simp -dsimp (disch := try exact zo) only [go_sem, ris_length, eg, nv_nb] | contradiction)
  all_goals exact AW.stop ⟨⟨(i + 1, Nat.gcd g (nv q.2)), by dsimp only; omega, hgt.symm, hgs⟩, (Weak.t4 (by refine ⟨?_, ?_, ?_, ?_⟩ <;> simp -dsimp (disch := try exact zo) only [go_sem, nb_zero, ris_in, Int.natCast_add, Int.cast_ofNat_Int])), by dsimp only; omega⟩
 ·have hil : i = l.length := by omega
  subst hil
  rw [List.take_length] at hg
  subst hg
  repeat' (first | refine zg ?_ | (refine AW.cond rfl ?_ ?_ <;> intro hc <;> first | (cases hc; done) | simp only [NM] at hc | skip) | (refine zr ?_; simp -dsimp (disch := try exact zo) only [go_sem, ris_length] <;> try rfl) | (refine callV.flat (.agg (eZ (gcdN l : Int))) yfn_137 (c137z false (gcdN l) _ rfl) rfl rfl ?_) | refine ⟨by omega, ?_⟩ | (refine zb ?_ ?_ <;> intro hg <;> (try simp only [NB] at hg) <;> (try rw [hg]) <;> try simp only [NM] at hg) | omega | simp -dsimp (disch := try exact zo) only [go_sem, ris_length] | contradiction)
  all_goals skip
end Go.Proofs.Vx
namespace Go.Sx
set_option linter.unusedVariables false
def Qd (q : Rat) : ByteArray := if q.den = 1 then ⟨#[]⟩ else nb q.den
abbrev eQ (q : Rat) : List AV := [.lit (.bool (Zn q.num)), .lit (.string (Zm q.num)), .lit (.string (Qd q))]
theorem nb_one : nb 1 = ⟨#[1]⟩ := by
 unfold nb
 rw [nbL_pos (by decide), nbL_zero]
 rfl
theorem nb_is_one (k : Nat) : (nb k = ⟨#[1]⟩) ↔ k = 1 := by
 constructor
 ·intro h; rw [← nb_one] at h; exact nb_inj h
 ·rintro rfl; exact nb_one
theorem mk_den {n d : Int} (hd : d ≠ 0) : d.natAbs / Nat.gcd n.natAbs d.natAbs = (Rat.divInt n d).den := by
 rw [Rat.den_divInt, if_neg hd]
 congr 1
 rw [Int.gcd, Nat.gcd_comm]
theorem mk_num {n d : Int} (hd : d ≠ 0) : n.natAbs / Nat.gcd n.natAbs d.natAbs = (Rat.divInt n d).num.natAbs := by
 rw [Rat.num_divInt]
 have hg : (d.gcd n : Int) ∣ n := Int.gcd_dvd_right ..
 have e : d.gcd n = Nat.gcd n.natAbs d.natAbs := by rw [Int.gcd, Nat.gcd_comm]
 rw [← e]
 have h1 : (d.gcd n : Int) ∣ d.sign * n := Int.dvd_trans hg (Int.dvd_mul_left ..)
 rw [Int.natAbs_ediv_of_dvd h1, Int.natAbs_mul, Int.natAbs_sign_of_ne_zero hd, Nat.one_mul, Int.natAbs_natCast]
theorem mk_sgn {n d : Int} (hn : n ≠ 0) (hd : d ≠ 0) : (!decide (Zn n = Zn d)) = Zn (Rat.divInt n d).num := by
 rw [Rat.num_divInt]
 have hgp : 0 < d.gcd n := Int.gcd_pos_of_ne_zero_left _ hd
 obtain ⟨k, hk⟩ : (d.gcd n : Int) ∣ n := Int.gcd_dvd_right ..
 have e : d.sign * n / (d.gcd n : Int) = d.sign * k := by
  have : d.sign * n = (d.gcd n : Int) * (d.sign * k) := by
   conv => lhs; rw [hk]
   rw [Int.mul_left_comm]
  rw [this, Int.mul_ediv_cancel_left _ (by omega)]
 rw [e]
 have hkn : (n < 0 ↔ k < 0) := by
  constructor
  ·intro h
   apply Int.not_le.1
   intro h2
   have := Int.mul_nonneg (show (0 : Int) ≤ (d.gcd n : Int) by omega) h2
   omega
  ·intro h
   have := Int.mul_neg_of_pos_of_neg (show (0 : Int) < (d.gcd n : Int) by omega) h
   omega
 have hk0 : k ≠ 0 := by intro h; rw [h] at hk; omega
 unfold Zn
 by_cases h1 : n < 0 <;> by_cases h2 : d < 0
 ·rw [Int.sign_eq_neg_one_of_neg h2]; simp [h1, h2]; omega
 ·rw [Int.sign_eq_one_of_pos (by omega)]; simp [h1, h2]; omega
 ·rw [Int.sign_eq_neg_one_of_neg h2]; simp [h1, h2]; omega
 ·rw [Int.sign_eq_one_of_pos (by omega)]; simp [h1, h2]; omega
structure Qs (k : Nat) (q : Rat) : Prop where
 num : (Zm q.num).size ≤ k
 den : (nb q.den).size ≤ k
theorem Qs.mono {k l : Nat} {q : Rat} (h : Qs k q) (hl : k ≤ l) : Qs l q := ⟨Nat.le_trans h.num hl, Nat.le_trans h.den hl⟩
theorem Qs.divInt {n d : Int} {k : Nat} (hd : d ≠ 0) (h1 : (Zm n).size ≤ k) (h2 : (Zm d).size ≤ k) : Qs k (Rat.divInt n d) := by
 constructor
 ·refine Nat.le_trans (zs_le ?_) h1
  rw [← mk_num hd]; exact Nat.div_le_self _ _
 ·rw [nb_size]
  rw [← mk_den hd]
  exact Nat.lt_of_le_of_lt (Nat.div_le_self _ _) ((Zm_size _ _).1 h2)
theorem Zm_nat (k : Nat) : Zm (k : Int) = nb k := zs_nat k
theorem q_add (a b : Rat) : Rat.divInt (a.num * b.den + b.num * a.den) ((a.den : Int) * b.den) = a + b := by
 rw [Rat.add_def', ← Rat.divInt_ofNat]; congr 1
theorem q_mul (a b : Rat) : Rat.divInt (a.num * b.num) ((a.den : Int) * b.den) = a * b := by
 rw [Rat.mul_def', ← Rat.divInt_ofNat]; congr 1
theorem q_neg (a : Rat) : Rat.divInt (-a.num) (a.den : Int) = -a := by
 rw [← Rat.neg_divInt, Rat.num_divInt_den]
theorem q_self (a : Rat) : Rat.divInt a.num (a.den : Int) = a := Rat.num_divInt_den a
theorem q_div (a b : Rat) : Rat.divInt (a.num * b.den) ((a.den : Int) * b.num) = a / b := by
 rw [Rat.div_def, Rat.inv_def]
 conv => rhs; lhs; rw [← Rat.num_divInt_den a]
 rw [Rat.divInt_mul_divInt]
theorem Qs.add {a b : Rat} {k l : Nat} (ha : Qs k a) (hb : Qs l b) : Qs (k + l + 1) (a + b) := by
 rw [← q_add]
 have hd : (a.den : Int) * b.den ≠ 0 := by
  have := Int.mul_pos (show (0 : Int) < a.den by have := a.den_nz; omega) (show (0 : Int) < b.den by have := b.den_nz; omega)
  omega
 refine Qs.divInt hd ?_ ?_
 ·have h1 := zs_mul a.num b.den ha.num (by rw [Zm_nat]; exact hb.den)
  have h2 := zs_mul b.num a.den hb.num (by rw [Zm_nat]; exact ha.den)
  exact zs_add _ _ h1 (by omega)
 ·have := zs_mul a.den b.den (by rw [Zm_nat]; exact ha.den) (by rw [Zm_nat]; exact hb.den)
  omega
theorem Qs.mul {a b : Rat} {k l : Nat} (ha : Qs k a) (hb : Qs l b) : Qs (k + l) (a * b) := by
 rw [← q_mul]
 have hd : (a.den : Int) * b.den ≠ 0 := by
  have := Int.mul_pos (show (0 : Int) < a.den by have := a.den_nz; omega) (show (0 : Int) < b.den by have := b.den_nz; omega)
  omega
 exact Qs.divInt hd (zs_mul _ _ ha.num hb.num) (zs_mul _ _ (by rw [Zm_nat]; exact ha.den) (by rw [Zm_nat]; exact hb.den))
theorem Qs.neg {a : Rat} {k : Nat} (ha : Qs k a) : Qs k (-a) := ⟨by rw [Rat.neg_num, Zm_neg]; exact ha.num, ha.den⟩
theorem Qs.sub {a b : Rat} {k l : Nat} (ha : Qs k a) (hb : Qs l b) : Qs (k + l + 1) (a - b) := by
 rw [Rat.sub_eq_add_neg]; exact ha.add hb.neg
theorem Qs.div {a b : Rat} {k l : Nat} (ha : Qs k a) (hb : Qs l b) (h0 : b ≠ 0) : Qs (k + l) (a / b) := by
 rw [← q_div]
 have hb0 : b.num ≠ 0 := fun h => h0 (Rat.num_eq_zero.1 h)
 have hd : (a.den : Int) * b.num ≠ 0 := Int.mul_ne_zero (by have := a.den_nz; omega) hb0
 exact Qs.divInt hd (zs_mul _ _ ha.num (by rw [Zm_nat]; exact hb.den)) (zs_mul _ _ (by rw [Zm_nat]; exact ha.den) hb.num)
theorem eQ_zero : eQ 0 = [.lit (.bool false), .lit (.string ⟨#[]⟩), .lit (.string ⟨#[]⟩)] := by simp [eQ, Zn, Zm, nb_zero, Qd]
end Go.Sx
