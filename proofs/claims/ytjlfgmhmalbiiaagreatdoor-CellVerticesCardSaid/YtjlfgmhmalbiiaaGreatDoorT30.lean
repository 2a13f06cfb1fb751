import Derived.Test.YtjlfgmhmalbiiaaGreatDoorProg
import Derived.Test.YtjlfgmhmalbiiaaGreatDoorT10
import Derived.Test.YtjlfgmhmalbiiaaGreatDoorT29
set_option linter.all false
namespace Go.Proofs.Vx
open Go Go.Sx Go.Proofs
attribute [local irreducible] fnT CallOK CallFr AW effV callV runP runO oneP oneO gcaseP hid
theorem yfn_153 : fnT Tryz.prog 153 = true := by kernel_rfl
theorem yfn_207 : fnT Tryz.prog 207 = true := by kernel_rfl
theorem yfn_217 : fnT Tryz.prog 217 = true := by kernel_rfl
set_option maxHeartbeats 1600000 in
theorem c153 (m : ByteArray) (hm : m.size < 4611686018427387904) : CallOK Tryz.prog 153 [.lit (.string m)] [] (.lit (.string (nb (nv m)))) [] := by
 refine CallOK.flat Tryz.func153 rfl 20 rfl rfl rfl [.tmp 2] (congrArg Array.toList Tryz.results153) ?_
 simp only [startT, Nat.reduceAdd]
 repeat' (first | refine zg ?_ | (refine AW.cond rfl ?_ ?_ <;> intro hc <;> first | (cases hc; done) | simp only [NM] at hc | skip) | (refine zr ?_; simp -dsimp (disch := try exact zo) only [go_sem] <;> try rfl) | refine ⟨by omega, ?_⟩ | (refine zb ?_ ?_ <;> intro hg <;> (try simp only [NB] at hg) <;> (try rw [hg]) <;> try simp only [NM] at hg) | omega | simp -dsimp (disch := try exact zo) only [go_sem] | contradiction)
 refine AW.loop (fun z : {n : Nat // n ≤ m.size ∧ nv (m.extract 0 n) = nv m} => ⟨[(3, .lit (.int .i64 z.1)), (0, .lit (.string m))], [], 20⟩) (fun z => z.1) ⟨m.size, Nat.le_refl _, by rw [ext_all]⟩ (Weak.t4 (by refine ⟨?_, ?_, ?_, ?_⟩ <;> simp -dsimp (disch := try exact zo) only [go_sem, Int.natCast_add, Int.cast_ofNat_Int])) ?_
 rintro ⟨n, hn, hv⟩
 dsimp only
 cases n with
 | zero =>
  have hr := ext_nb hn hv (.inl rfl)
  repeat' (first | refine zg ?_ | (refine AW.cond rfl ?_ ?_ <;> intro hc <;> first | (cases hc; done) | simp only [NM] at hc | skip <;> try (exfalso; omega)) | (refine zr ?_; simp -dsimp (disch := try exact zo) only [go_sem, Int.toNat_natCast, hr, Int.ofNat_zero, Int.cast_ofNat_Int, Int.natCast_zero] <;> try rfl) | refine ⟨by omega, ?_⟩ | (refine zb ?_ ?_ <;> intro hg <;> (try simp only [NB] at hg) <;> (try rw [hg]) <;> try simp only [NM] at hg) | omega | simp -dsimp (disch := try exact zo) only [go_sem, Int.toNat_natCast, hr, Int.ofNat_zero, Int.cast_ofNat_Int, Int.natCast_zero] | contradiction)
 | succ n =>
  have e : ((n + 1 : Nat) : Int) - 1 = (n : Int) := by omega
  by_cases q : bt m n = 0
  ·have k1 := eq_true q
   have hc2 := ext_chop hn q
   have hr : True := trivial
   repeat' (first | refine zg ?_ | (refine AW.cond rfl ?_ ?_ <;> intro hc <;> first | (cases hc; done) | simp only [NM] at hc | skip <;> try (exfalso; omega)) | (refine zr ?_; simp -dsimp (disch := try exact zo) only [go_sem, e, Int.toNat_natCast, k1, hr] <;> try rfl) | refine ⟨by omega, ?_⟩ | (refine zb ?_ ?_ <;> intro hg <;> (try simp only [NB] at hg) <;> (try rw [hg]) <;> try simp only [NM] at hg) | omega | simp -dsimp (disch := try exact zo) only [go_sem, e, Int.toNat_natCast, k1, hr] | contradiction)
   all_goals exact AW.stop ⟨⟨n, by omega, hc2.trans hv⟩, (Weak.t4 (by refine ⟨?_, ?_, ?_, ?_⟩ <;> simp -dsimp (disch := try exact zo) only [go_sem, e, Int.natCast_add, Int.cast_ofNat_Int])), by dsimp only; omega⟩
  ·have k1 := eq_false q
   have hr := ext_nb hn hv (.inr q)
   repeat' (first | refine zg ?_ | (refine AW.cond rfl ?_ ?_ <;> intro hc <;> first | (cases hc; done) | simp only [NM] at hc | skip <;> try (exfalso; omega)) | (refine zr ?_; simp -dsimp (disch := try exact zo) only [go_sem, e, Int.toNat_natCast, k1, hr] <;> try rfl) | refine ⟨by omega, ?_⟩ | (refine zb ?_ ?_ <;> intro hg <;> (try simp only [NB] at hg) <;> (try rw [hg]) <;> try simp only [NM] at hg) | omega | simp -dsimp (disch := try exact zo) only [go_sem, e, Int.toNat_natCast, k1, hr] | contradiction)
set_option maxHeartbeats 1600000 in
theorem c217 (m : ByteArray) (i : Nat) (hm : m.size < 4611686018427387904) : CallOK Tryz.prog 217 [.lit (.string m), .lit (.int .i64 i)] [] (.lit (.int .i64 (bt m i))) [] := by
 refine CallOK.flat Tryz.func217 rfl 13 rfl rfl rfl [.tmp 4] (congrArg Array.toList Tryz.results217) ?_
 simp only [startT, Nat.reduceAdd]
 by_cases hi : i < m.size
 ·repeat' (first | refine zg ?_ | (refine AW.cond rfl ?_ ?_ <;> intro hc <;> first | (cases hc; done) | simp only [NM] at hc | skip <;> try (exfalso; omega)) | (refine zr ?_; simp -dsimp (disch := try exact zo) only [go_sem, Int.toNat_natCast, wrap64_bt] <;> try rfl) | refine ⟨by omega, ?_⟩ | (refine zb ?_ ?_ <;> intro hg <;> (try simp only [NB] at hg) <;> (try rw [hg]) <;> try simp only [NM] at hg) | omega | simp -dsimp (disch := try exact zo) only [go_sem, Int.toNat_natCast, wrap64_bt] | contradiction)
 ·have hr := bt_out (m := m) (i := i) (by omega)
  rw [hr]
  repeat' (first | refine zg ?_ | (refine AW.cond rfl ?_ ?_ <;> intro hc <;> first | (cases hc; done) | simp only [NM] at hc | skip <;> try (exfalso; omega)) | (refine zr ?_; simp -dsimp (disch := try exact zo) only [go_sem] <;> try rfl) | refine ⟨by omega, ?_⟩ | (refine zb ?_ ?_ <;> intro hg <;> (try simp only [NB] at hg) <;> (try rw [hg]) <;> try simp only [NM] at hg) | omega | simp -dsimp (disch := try exact zo) only [go_sem] | contradiction)
set_option maxHeartbeats 3200000 in
theorem c207 (a b : ByteArray) (ha : a.size < 1099511627776) (hb : b.size < 1099511627776) : CallOK Tryz.prog 207 [.lit (.string a), .lit (.string b)] [] (.lit (.int .i64 (cmpN (nv a) (nv b)))) [] := by
 refine CallOK.flat Tryz.func207 rfl 43 rfl rfl rfl [.tmp 4] (congrArg Array.toList Tryz.results207) ?_
 simp only [startT, Nat.reduceAdd]
 have hc0 := can_size a
 have hd0 := can_size b
 have hcn : nv (nb (nv a)) = nv a := nv_nb _
 have hdn : nv (nb (nv b)) = nv b := nv_nb _
 have hlt1 : (nb (nv a)).size < (nb (nv b)).size → nv a < nv b := nb_size_lt
 have hlt2 : (nb (nv b)).size < (nb (nv a)).size → nv b < nv a := nb_size_lt
 have ca := c153 a (by omega)
 have cb := c153 b (by omega)
 generalize hcc : nb (nv a) = c at *
 generalize hdd : nb (nv b) = d at *
 rw [← hcn, ← hdn]
 clear hcc hdd
 by_cases q1 : c.size < d.size
 ·have : cmpN (nv c) (nv d) = -1 := by unfold cmpN; rw [if_pos (by rw [hcn, hdn]; exact hlt1 q1)]
  rw [this]
  repeat' (first | refine zg ?_ | refine AW.drawP ymix ?_ | (refine AW.cond rfl ?_ ?_ <;> intro hc <;> first | (cases hc; done) | simp only [NM] at hc | skip <;> try (exfalso; omega)) | (refine zr ?_; simp -dsimp (disch := try exact zo) only [go_sem] <;> try rfl) | (first | refine callV.flat _ yfn_153 ca rfl rfl ?_ | refine callV.flat _ yfn_153 cb rfl rfl ?_) | refine ⟨by omega, ?_⟩ | (refine zb ?_ ?_ <;> intro hg <;> (try simp only [NB] at hg) <;> (try rw [hg]) <;> try simp only [NM] at hg) | omega | simp -dsimp (disch := try exact zo) only [go_sem] | contradiction)
 ·by_cases q2 : d.size < c.size
  ·have : cmpN (nv c) (nv d) = 1 := by have := hlt2 q2; unfold cmpN; rw [if_neg (by omega), if_neg (by omega)]
   rw [this]
   repeat' (first | refine zg ?_ | refine AW.drawP ymix ?_ | (refine AW.cond rfl ?_ ?_ <;> intro hc <;> first | (cases hc; done) | simp only [NM] at hc | skip <;> try (exfalso; omega)) | (refine zr ?_; simp -dsimp (disch := try exact zo) only [go_sem] <;> try rfl) | (first | refine callV.flat _ yfn_153 ca rfl rfl ?_ | refine callV.flat _ yfn_153 cb rfl rfl ?_) | refine ⟨by omega, ?_⟩ | (refine zb ?_ ?_ <;> intro hg <;> (try simp only [NB] at hg) <;> (try rw [hg]) <;> try simp only [NM] at hg) | omega | simp -dsimp (disch := try exact zo) only [go_sem] | contradiction)
  ·have hsz : d.size = c.size := by omega
   clear hlt1 hlt2 hcn hdn
   repeat' (first | refine zg ?_ | refine AW.drawP ymix ?_ | (refine AW.cond rfl ?_ ?_ <;> intro hc <;> first | (cases hc; done) | simp only [NM] at hc | skip <;> try (exfalso; omega)) | (refine zr ?_; simp -dsimp (disch := try exact zo) only [go_sem] <;> try rfl) | (first | refine callV.flat _ yfn_153 ca rfl rfl ?_ | refine callV.flat _ yfn_153 cb rfl rfl ?_) | refine ⟨by omega, ?_⟩ | (refine zb ?_ ?_ <;> intro hg <;> (try simp only [NB] at hg) <;> (try rw [hg]) <;> try simp only [NM] at hg) | omega | simp -dsimp (disch := try exact zo) only [go_sem] | contradiction)
   refine AW.loop (fun z : {i : Nat // i ≤ c.size ∧ nv c / 256 ^ (c.size - i) = nv d / 256 ^ (c.size - i)} => ⟨[(7, .lit (.int .i64 ((c.size : Int) - 1 - z.1))), (5, .lit (.string c)), (6, .lit (.string d))], [], 30⟩) (fun z => c.size - z.1) ⟨0, Nat.zero_le _, by
    have h1 := nv_lt c
    have h2 := nv_lt d
    rw [hsz] at h2
    rw [Nat.sub_zero, Nat.div_eq_of_lt h1, Nat.div_eq_of_lt h2]⟩ (Weak.t4 (by refine ⟨?_, ?_, ?_, ?_⟩ <;> simp -dsimp (disch := try exact zo) only [go_sem, Int.sub_zero, Int.natCast_zero, Int.ofNat_zero, Int.cast_ofNat_Int, Int.natCast_add])) ?_
   rintro ⟨i, hi, hq⟩
   dsimp only
   by_cases hil : i < c.size
   ·have ek : ((c.size : Int) - 1 - i).toNat = c.size - 1 - i := by omega
    have hq1 : nv c / 256 ^ (c.size - 1 - i + 1) = nv d / 256 ^ (c.size - 1 - i + 1) := by rwa [show c.size - 1 - i + 1 = c.size - i by omega]
    have b1 := bt_div c (c.size - 1 - i)
    have b2 := bt_div d (c.size - 1 - i)
    by_cases w1 : bt c (c.size - 1 - i) < bt d (c.size - 1 - i)
    ·have hr : cmpN (nv c) (nv d) = -1 := by unfold cmpN; rw [if_pos ((cmp_top hq1).1 (by omega))]
     have k1 := eq_true w1
     have k2 : True := trivial
     rw [hr]
     clear hq hq1 b1 b2
     repeat' (first | refine zg ?_ | refine AW.drawP ymix ?_ | (refine AW.cond rfl ?_ ?_ <;> intro hc <;> first | (cases hc; done) | simp only [NM] at hc | skip <;> try (exfalso; omega)) | (refine zr ?_; simp -dsimp (disch := try exact zo) only [go_sem, ek, k1, k2] <;> try rfl) | refine ⟨by omega, ?_⟩ | (refine zb ?_ ?_ <;> intro hg <;> (try simp only [NB] at hg) <;> (try rw [hg]) <;> try simp only [NM] at hg) | omega | simp -dsimp (disch := try exact zo) only [go_sem, ek, k1, k2] | contradiction)
    ·by_cases w2 : bt d (c.size - 1 - i) < bt c (c.size - 1 - i)
     ·have hr : cmpN (nv c) (nv d) = 1 := by
       have := (cmp_top hq1.symm).1 (by omega)
       unfold cmpN; rw [if_neg (by omega), if_neg (by omega)]
      have k1 := eq_false w1
      have k2 := eq_true w2
      rw [hr]
      clear hq hq1 b1 b2
      repeat' (first | refine zg ?_ | refine AW.drawP ymix ?_ | (refine AW.cond rfl ?_ ?_ <;> intro hc <;> first | (cases hc; done) | simp only [NM] at hc | skip <;> try (exfalso; omega)) | (refine zr ?_; simp -dsimp (disch := try exact zo) only [go_sem, ek, k1, k2] <;> try rfl) | refine ⟨by omega, ?_⟩ | (refine zb ?_ ?_ <;> intro hg <;> (try simp only [NB] at hg) <;> (try rw [hg]) <;> try simp only [NM] at hg) | omega | simp -dsimp (disch := try exact zo) only [go_sem, ek, k1, k2] | contradiction)
     ·have k1 := eq_false w1
      have k2 := eq_false w2
      have hn : nv c / 256 ^ (c.size - (i + 1)) = nv d / 256 ^ (c.size - (i + 1)) := by
       rw [show c.size - (i + 1) = c.size - 1 - i by omega]
       exact (cmp_top hq1).2 (by omega)
      have hsb : (c.size : Int) - 1 - ((i : Int) + 1) = (c.size : Int) - 1 - i - 1 := by omega
      clear hq hq1 b1 b2
      repeat' (first | refine zg ?_ | refine AW.drawP ymix ?_ | (refine AW.cond rfl ?_ ?_ <;> intro hc <;> first | (cases hc; done) | simp only [NM] at hc | skip <;> try (exfalso; omega)) | (refine zr ?_; simp -dsimp (disch := try exact zo) only [go_sem, ek, k1, k2] <;> try rfl) | refine ⟨by omega, ?_⟩ | (refine zb ?_ ?_ <;> intro hg <;> (try simp only [NB] at hg) <;> (try rw [hg]) <;> try simp only [NM] at hg) | omega | simp -dsimp (disch := try exact zo) only [go_sem, ek, k1, k2] | contradiction)
      all_goals exact AW.stop ⟨⟨i + 1, by omega, hn⟩, (Weak.to (by simp -dsimp (disch := try exact zo) only [go_sem, Int.natCast_add, Int.cast_ofNat_Int, hsb]) (by simp -dsimp (disch := try exact zo) only [go_sem, Int.natCast_add, Int.cast_ofNat_Int]) (by decide) (by simp -dsimp (disch := try exact zo) only [go_sem, Int.natCast_add, Int.cast_ofNat_Int]) (by simp -dsimp (disch := try exact zo) only [go_sem, Int.natCast_add, Int.cast_ofNat_Int])), by dsimp only; omega⟩
   ·have e : c.size - i = 0 := by omega
    rw [e] at hq
    simp only [Nat.pow_zero, Nat.div_one] at hq
    have hr : cmpN (nv c) (nv d) = 0 := by unfold cmpN; rw [hq, if_neg (by omega), if_pos rfl]
    rw [hr]
    repeat' (first | refine zg ?_ | refine AW.drawP ymix ?_ | (refine AW.cond rfl ?_ ?_ <;> intro hc <;> first | (cases hc; done) | simp only [NM] at hc | skip <;> try (exfalso; omega)) | (refine zr ?_; simp -dsimp (disch := try exact zo) only [go_sem] <;> try rfl) | refine ⟨by omega, ?_⟩ | (refine zb ?_ ?_ <;> intro hg <;> (try simp only [NB] at hg) <;> (try rw [hg]) <;> try simp only [NM] at hg) | omega | simp -dsimp (disch := try exact zo) only [go_sem] | contradiction)
end Go.Proofs.Vx
namespace Go.Proofs.Vx
open Go Go.Sx Go.Proofs
attribute [local irreducible] fnT CallOK CallFr AW effV callV runP runO oneP oneO gcaseP hid
theorem yfn_173 : fnT Tryz.prog 173 = true := by kernel_rfl
theorem yfn_175 : fnT Tryz.prog 175 = true := by kernel_rfl
theorem yfn_208 : fnT Tryz.prog 208 = true := by kernel_rfl
theorem str_nv (X : List Int) (h : Dig8 X) : (nv ⟨(ofI X).toArray⟩ : Int) = w8 X := by
 have : nv ⟨(ofI X).toArray⟩ = nvL (ofI X) := by unfold nv; simp
 rw [this, nvL_ofI h]
theorem str_size (X : List Int) : (⟨(ofI X).toArray⟩ : ByteArray).size = X.length := by simp [ByteArray.size, ofI]
set_option maxHeartbeats 8000000 in
theorem c175 (a b : ByteArray) (ha : a.size < 1099511627776) (hb : b.size < 1099511627776) (hle : nv b ≤ nv a) : CallOK Tryz.prog 175 [.lit (.string a), .lit (.string b)] [] (.tup [.lit (.string (nb (nv a - nv b))), .lit (.bool true)]) [] := by
 refine CallOK.flat Tryz.func175 rfl 42 rfl rfl rfl [.tmp 4, .tmp 5] (congrArg Array.toList Tryz.results175) ?_
 simp only [startT, Nat.reduceAdd]
 have hml : maxLen = 9223372036854775807 := rfl
 have c207x := c207 a b ha hb
 have hi0 : ints .u8 [] = [] := rfl
 have hc0 : 0 ≤ cmpN (nv a) (nv b) := by unfold cmpN; rw [if_neg (by omega)]; split <;> omega
 generalize cmpN (nv a) (nv b) = cm at *
 have k0 : (cm < 0) = False := eq_false (by omega)
 repeat' (first | refine zg ?_ | (refine AW.cond rfl ?_ ?_ <;> intro hc <;> first | (cases hc; done) | simp only [NM] at hc | skip <;> try (exfalso; omega)) | (refine zr ?_; simp -dsimp (disch := try exact zo) only [go_sem, k0] <;> try rfl) | (refine callV.flat _ yfn_207 c207x rfl rfl ?_) | refine ⟨by omega, ?_⟩ | (refine zb ?_ ?_ <;> intro hg <;> (try simp only [NB] at hg) <;> (try rw [hg]) <;> try simp only [NM] at hg) | omega | simp -dsimp (disch := try exact zo) only [go_sem, k0] | contradiction)
 refine AW.loop (fun z : {p : Nat × List Int × Int // p.1 ≤ a.size ∧ Dig8 p.2.1 ∧ p.2.1.length = p.1 ∧ (p.2.2 = 0 ∨ p.2.2 = 1) ∧ w8 p.2.1 = lowN a p.1 - lowN b p.1 + p.2.2 * 256 ^ p.1} => ⟨[(8, .lit (.int .i64 z.1.1)), (7, .lit (.int .i64 z.1.2.2)), (6, .ref 14 0 z.1.1 z.1.1), (0, .lit (.string a)), (1, .lit (.string b))], [(14, .vec 1 (ints .u8 z.1.2.1))], 40⟩) (fun z => a.size - z.1.1) ⟨(0, [], 0), Nat.zero_le _, fun x hx => by simp at hx, rfl, .inl rfl, by simp [w8, lowN_zero]⟩ (Weak.t4 (by refine ⟨?_, ?_, ?_, ?_⟩ <;> simp -dsimp (disch := try exact zo) only [go_sem, ints_in, hi0, Int.natCast_add, Int.cast_ofNat_Int])) ?_
 rintro ⟨⟨i, X, c⟩, hi, dX, hX, hc1, hv⟩
 dsimp only at hi dX hX hc1 hv ⊢
 clear k0 c207x hc0
 by_cases hlt : i < a.size
 ·have b1 := bt_nat a i
  have b2 := bt_nat b i
  have e1 := lowN_succ a i
  have e2 := lowN_succ b i
  have key : ∀ d c' : Int, d = bt a i - bt b i - c + 256 * c' → w8 (X ++ [d]) = lowN a (i + 1) - lowN b (i + 1) + c' * 256 ^ (i + 1) := by
   intro d c' hd
   rw [w8_append, hX, hv, e1, e2, hd, p256_succ]
   simp only [w8]
   grind
  have hXl : (X ++ [0]).length = i + 1 := by simp [hX]
  by_cases q : bt a i - bt b i - c < 0
  ·have k1 := eq_true q
   have hd : 0 ≤ bt a i - bt b i - c + 256 ∧ bt a i - bt b i - c + 256 < 256 := by omega
   have wd : IntKind.u8.wrap (bt a i - bt b i - c + 256) = bt a i - bt b i - c + 256 := wrapu8 hd.1 hd.2
   have key1 := key (bt a i - bt b i - c + 256) 1 (by omega)
   have dX1 := dig8_app dX hd
   clear key e1 e2 hv
   repeat' (first | refine zg ?_ | (refine AW.cond rfl ?_ ?_ <;> intro hc <;> first | (cases hc; done) | simp only [NM] at hc | skip <;> try (exfalso; omega)) | (refine zr ?_; simp -dsimp (disch := try exact zo) only [go_sem, k1, wd, Int.toNat_natCast, ints_length, ints_app, hX] <;> try rfl) | (first | refine callV.flat _ yfn_217 (c217 a i (by omega)) rfl rfl ?_ | refine callV.flat _ yfn_217 (c217 b i (by omega)) rfl rfl ?_) | refine ⟨by omega, ?_⟩ | (refine zb ?_ ?_ <;> intro hg <;> (try simp only [NB] at hg) <;> (try rw [hg]) <;> try simp only [NM] at hg) | omega | simp -dsimp (disch := try exact zo) only [go_sem, k1, wd, Int.toNat_natCast, ints_length, ints_app, hX] | contradiction)
   all_goals exact AW.stop ⟨⟨(i + 1, X ++ [bt a i - bt b i - c + 256], 1), by dsimp only; omega, dX1, by simp [hX], .inr rfl, key1⟩, (Weak.t4 (by refine ⟨?_, ?_, ?_, ?_⟩ <;> first | (simp -dsimp (disch := try exact zo) only [go_sem, Int.natCast_add, Int.cast_ofNat_Int, hXl, ints_app]; done) | (simp -dsimp (disch := try exact zo) only [go_sem, ints_in, Int.natCast_add, Int.cast_ofNat_Int]; done))), by dsimp only; omega⟩
  ·have k1 := eq_false q
   have hd : 0 ≤ bt a i - bt b i - c ∧ bt a i - bt b i - c < 256 := by omega
   have wd : IntKind.u8.wrap (bt a i - bt b i - c) = bt a i - bt b i - c := wrapu8 hd.1 hd.2
   have key1 := key (bt a i - bt b i - c) 0 (by omega)
   have dX1 := dig8_app dX hd
   clear key e1 e2 hv
   repeat' (first | refine zg ?_ | (refine AW.cond rfl ?_ ?_ <;> intro hc <;> first | (cases hc; done) | simp only [NM] at hc | skip <;> try (exfalso; omega)) | (refine zr ?_; simp -dsimp (disch := try exact zo) only [go_sem, k1, wd, Int.toNat_natCast, ints_length, ints_app, hX] <;> try rfl) | (first | refine callV.flat _ yfn_217 (c217 a i (by omega)) rfl rfl ?_ | refine callV.flat _ yfn_217 (c217 b i (by omega)) rfl rfl ?_) | refine ⟨by omega, ?_⟩ | (refine zb ?_ ?_ <;> intro hg <;> (try simp only [NB] at hg) <;> (try rw [hg]) <;> try simp only [NM] at hg) | omega | simp -dsimp (disch := try exact zo) only [go_sem, k1, wd, Int.toNat_natCast, ints_length, ints_app, hX] | contradiction)
   all_goals exact AW.stop ⟨⟨(i + 1, X ++ [bt a i - bt b i - c], 0), by dsimp only; omega, dX1, by simp [hX], .inl rfl, key1⟩, (Weak.t4 (by refine ⟨?_, ?_, ?_, ?_⟩ <;> first | (simp -dsimp (disch := try exact zo) only [go_sem, Int.natCast_add, Int.cast_ofNat_Int, hXl, ints_app]; done) | (simp -dsimp (disch := try exact zo) only [go_sem, ints_in, Int.natCast_add, Int.cast_ofNat_Int]; done))), by dsimp only; omega⟩
 ·have hil : i = a.size := by omega
  subst hil
  have hfin : nb (nv ⟨(ofI X).toArray⟩) = nb (nv a - nv b) := by
   congr 1
   have h1 := str_nv X dX
   have h2 := lowN_all (m := a) (Nat.le_refl _)
   have h3 : lowN b a.size = (nv b : Int) := by unfold lowN; rw [Nat.mod_eq_of_lt (Nat.lt_of_le_of_lt hle (nv_lt a))]
   have h4 := (w8_lt dX).2
   rw [hX] at h4
   have h5 := p256_pos a.size
   rcases hc1 with rfl | rfl
   ·omega
   ·omega
  clear hv
  repeat' (first | refine zg ?_ | (refine AW.cond rfl ?_ ?_ <;> intro hc <;> first | (cases hc; done) | simp only [NM] at hc | skip <;> try (exfalso; omega)) | (refine zr ?_; simp -dsimp (disch := try exact zo) only [go_sem, hX, ints_length] <;> try rfl) | refine ⟨by omega, ?_⟩ | (refine zb ?_ ?_ <;> intro hg <;> (try simp only [NB] at hg) <;> (try rw [hg]) <;> try simp only [NM] at hg) | omega | simp -dsimp (disch := try exact zo) only [go_sem, hX, ints_length] | contradiction)
  all_goals
   refine ⟨ofI X, by first | exact ints_enc8 _ dX | (rw [List.take_of_length_le (by first | omega | (rw [ints_length]; omega))]; exact ints_enc8 _ dX), ?_⟩
   repeat' (first | refine zg ?_ | (refine AW.cond rfl ?_ ?_ <;> intro hc <;> first | (cases hc; done) | simp only [NM] at hc | skip <;> try (exfalso; omega)) | (refine zr ?_; simp -dsimp (disch := try exact zo) only [go_sem, hfin] <;> try rfl) | (refine callV.flat _ yfn_153 (c153 _ (by rw [str_size]; omega)) rfl rfl ?_) | refine ⟨by omega, ?_⟩ | (refine zb ?_ ?_ <;> intro hg <;> (try simp only [NB] at hg) <;> (try rw [hg]) <;> try simp only [NM] at hg) | omega | simp -dsimp (disch := try exact zo) only [go_sem, hfin] | contradiction)
end Go.Proofs.Vx
namespace Go.Proofs.Vx
open Go Go.Sx Go.Proofs
attribute [local irreducible] fnT CallOK CallFr AW effV callV runP runO oneP oneO gcaseP hid
theorem yst_159 : strT Tryz.prog 159 = false := by kernel_rfl
attribute [go_sem] yst_159
set_option maxHeartbeats 16000000 in
theorem c173 (a b : ByteArray) (ha : a.size < 1099511627776) (hb : b.size < 1099511627776) : CallOK Tryz.prog 173 [.lit (.string a), .lit (.string b)] [] (.lit (.string (nb (nv a * nv b)))) [] := by
 refine CallOK.flat Tryz.func173 rfl 77 rfl rfl rfl [.tmp 4] (congrArg Array.toList Tryz.results173) ?_
 simp only [startT, Nat.reduceAdd]
 have hml : maxLen = 9223372036854775807 := rfl
 have hi0 : ints .u8 [] = [] := rfl
 obtain ⟨L, hL⟩ : ∃ L, L = a.size + b.size + 1 := ⟨_, rfl⟩
 have eL : ((a.size : Int) + b.size + 1).toNat = L := by omega
 repeat' (first | refine zg ?_ | refine AW.drawP ymix ?_ | (refine AW.cond rfl ?_ ?_ <;> intro hc <;> first | (cases hc; done) | simp only [NM] at hc | skip <;> try (exfalso; omega)) | (refine zr ?_; simp -dsimp (disch := try exact zo) only [go_sem] <;> try rfl) | refine ⟨by omega, ?_⟩ | (refine zb ?_ ?_ <;> intro hg <;> (try simp only [NB] at hg) <;> (try rw [hg]) <;> try simp only [NM] at hg) | omega | simp -dsimp (disch := try exact zo) only [go_sem] | contradiction)
 rw [eL]
 refine AW.loop (fun z : {p : Nat × List Int // p.1 ≤ a.size ∧ Dig8 p.2 ∧ p.2.length = L ∧ w8 p.2 = lowN a p.1 * (nv b : Int)} => ⟨[(6, .lit (.int .i64 z.1.1)), (5, .ref 15 0 L L), (0, .lit (.string a)), (1, .lit (.string b))], [(15, .vec 1 (ints .i64 z.1.2))], 40⟩) (fun z => a.size - z.1.1) ⟨(0, List.replicate L 0), Nat.zero_le _, fun x hx => by have := List.eq_of_mem_replicate hx; omega, by simp, by simp only [w8_rep, lowN_zero, Int.zero_mul]⟩ (Weak.t4 (by refine ⟨?_, ?_, ?_, ?_⟩ <;> simp -dsimp (disch := try exact zo) only [go_sem, ints_in, Int.natCast_add, Int.cast_ofNat_Int])) ?_
 rintro ⟨⟨i, S⟩, hi, dS, hS, hv⟩
 dsimp only at hi dS hS hv ⊢
 by_cases hlt : i < a.size
 ·repeat' (first | refine zg ?_ | refine AW.drawP ymix ?_ | (refine AW.cond rfl ?_ ?_ <;> intro hc <;> first | (cases hc; done) | simp only [NM] at hc | skip <;> try (exfalso; omega)) | (refine zr ?_; simp -dsimp (disch := try exact zo) only [go_sem] <;> try rfl) | refine ⟨by omega, ?_⟩ | (refine zb ?_ ?_ <;> intro hg <;> (try simp only [NB] at hg) <;> (try rw [hg]) <;> try simp only [NM] at hg) | omega | simp -dsimp (disch := try exact zo) only [go_sem] | contradiction)
  refine AW.loop (fun z : {p : Nat × List Int × Int // p.1 ≤ b.size + 1 ∧ Dig8 p.2.1 ∧ p.2.1.length = L ∧ (0 ≤ p.2.2 ∧ p.2.2 ≤ 255) ∧ w8 p.2.1 + p.2.2 * 256 ^ (i + p.1) = lowN a i * (nv b : Int) + bt a i * lowN b p.1 * 256 ^ i} => ⟨[(8, .lit (.int .i64 z.1.1)), (7, .lit (.int .i64 z.1.2.2)), (6, .lit (.int .i64 i)), (5, .ref 15 0 L L), (0, .lit (.string a)), (1, .lit (.string b))], [(15, .vec 1 (ints .i64 z.1.2.1))], 60⟩) (fun z => b.size + 2 - z.1.1) ⟨(0, S, 0), Nat.zero_le _, dS, hS, by dsimp only; omega, by dsimp only; rw [hv, lowN_zero]; simp⟩ (Weak.t4 (by refine ⟨?_, ?_, ?_, ?_⟩ <;> simp -dsimp (disch := try exact zo) only [go_sem, ints_in, Int.natCast_add, Int.cast_ofNat_Int])) ?_
  clear hv dS hS
  rintro ⟨⟨k, S, c⟩, hk, dS, hSl, hc1, hv⟩
  dsimp only at hk dS hSl hc1 hv ⊢
  have A1 := lowN_succ a i
  have A2 := lowN_lt a (i + 1)
  have B0 := lowN_nonneg b k
  by_cases hx : k < b.size ∨ 0 < c
  ·
   have hkb : k ≤ b.size := by
    rcases hx with hx | hx
    ·omega
    ·apply Classical.byContradiction
     intro hgt
     have hkk : k = b.size + 1 := by omega
     have h1 : lowN b k = (nv b : Int) := lowN_all (by omega)
     have h2 : lowN a i * (nv b : Int) + bt a i * lowN b k * 256 ^ i = lowN a (i + 1) * (nv b : Int) := by rw [h1, A1]; grind
     have h3 := (w8_lt dS).1
     have h4 : (256 : Int) ^ (i + k) ≤ c * 256 ^ (i + k) := by
      have := Int.mul_le_mul_of_nonneg_right (show (1 : Int) ≤ c by omega) (Int.le_of_lt (p256_pos (i + k)))
      omega
     have h5 : lowN a (i + 1) * (nv b : Int) < 256 ^ (i + 1) * 256 ^ b.size := by
      have h6 : (nv b : Int) < 256 ^ b.size := by have := nv_lt b; have e := p256_nat b.size; omega
      have h7 := Int.mul_le_mul_of_nonneg_right (Int.le_of_lt A2.2) (show (0 : Int) ≤ (nv b : Int) by omega)
      have h8 := Int.mul_lt_mul_of_pos_left h6 (p256_pos (i + 1))
      omega
     rw [← Int.pow_add] at h5
     rw [show i + k = i + 1 + b.size by omega] at h4 hv
     omega
   have hj : i + k < L := by omega
   have hS2 := w8_set (xs := S) (i := i + k) (by omega)
   have B1 := lowN_succ b k
   have g1 := bt_nat a i
   have g2 := bt_nat b k
   have g3 := dig8_getD dS (i + k)
   have he : (ints .i64 S).getD (i + k) [] = [.lit (.int .i64 (S.getD (i + k) 0))] := ints_getD .i64 S (i + k) (by omega)
   have ek : ((i : Int) + (k : Int)).toNat = i + k := by omega
   have cat := c217 a i (by omega)
   have cbt := c217 b k (by omega)
   have hq : ∀ n : Int, n = S.getD (i + k) 0 + bt a i * bt b k + c → w8 (S.set (i + k) (n % 256)) + n / 256 * 256 ^ (i + (k + 1)) = lowN a i * (nv b : Int) + bt a i * lowN b (k + 1) * 256 ^ i := by
    intro n hn
    rw [hS2, B1, show i + (k + 1) = (i + k) + 1 by omega, p256_succ]
    have h1 : n % 256 = n - 256 * (n / 256) := by omega
    have h2 : (256 : Int) ^ (i + k) = 256 ^ i * 256 ^ k := Int.pow_add _ _ _
    rw [h1]
    generalize n / 256 = r at *
    grind
   have dS2 := fun n : Int => dig8_set dS (i := i + k) (d := n % 256) (by omega)
   have hSl2 : ∀ d : Int, (S.set (i + k) d).length = L := fun d => by rw [List.length_set]; exact hSl
   clear hv A1 A2 B0 B1 hS2
   generalize lowN a i * (nv b : Int) = V1 at *
   generalize bt a i = P at *
   generalize bt b k = Q at *
   generalize S.getD (i + k) 0 = s0 at *
   have hPQ : 0 ≤ P * Q ∧ P * Q ≤ 65025 := by
    refine ⟨Int.mul_nonneg g1.1 g2.1, ?_⟩
    have h1 := Int.mul_le_mul_of_nonneg_right (show P ≤ 255 by omega) g2.1
    omega
   have hP : IntKind.i64.wrap (P * Q) = P * Q := wrap64 (by omega) (by omega)
   have hq := hq (s0 + P * Q + c) rfl
   have dS2 := dS2 (s0 + P * Q + c)
   have hc2 : 0 ≤ (s0 + P * Q + c) / 256 ∧ (s0 + P * Q + c) / 256 ≤ 255 := by omega
   have hn : True := trivial
   generalize hPQe : P * Q = PQ at *
   have hk1 : k < b.size ∨ (¬ k < b.size ∧ 0 < c) := by omega
   clear hx
   have gw : Hid (w8 (S.set (i + k) ((s0 + PQ + c) % 256)) + (s0 + PQ + c) / 256 * 256 ^ (i + (k + 1)) = V1 + P * lowN b (k + 1) * 256 ^ i) := Hid.mk hq
   clear hq
   rcases hk1 with hk1 | ⟨hk1, hk2⟩
   ·have k1 : True := trivial
    have k2 : True := trivial
    repeat' (first | refine zg ?_ | refine AW.drawP ymix ?_ | (refine AW.cond rfl ?_ ?_ <;> intro hc <;> first | (cases hc; done) | simp only [NM] at hc | skip <;> try (exfalso; omega)) | (refine zr ?_; simp -dsimp (disch := try exact zo) only [go_sem, k1, k2, ek, he, hP, hn, ints_length, hSl, Int.toNat_natCast] <;> try rfl) | (first | refine callV.flat _ yfn_217 cat rfl rfl ?_ | refine callV.flat _ yfn_217 cbt rfl rfl ?_) | refine ⟨by omega, ?_⟩ | (refine zb ?_ ?_ <;> intro hg <;> (try simp only [NB] at hg) <;> (try rw [hg]) <;> try simp only [NM] at hg) | omega | simp -dsimp (disch := try exact zo) only [go_sem, k1, k2, ek, he, hP, hn, ints_length, hSl, Int.toNat_natCast] | contradiction)
    all_goals exact AW.stop ⟨⟨(k + 1, S.set (i + k) ((s0 + PQ + c) % 256), (s0 + PQ + c) / 256), by dsimp only; omega, dS2, hSl2 _, hc2, gw.out⟩, (Weak.t4 (by refine ⟨?_, ?_, ?_, ?_⟩ <;> simp -dsimp (disch := try exact zo) only [go_sem, hPQe, ints_in, Int.natCast_add, Int.cast_ofNat_Int])), by dsimp only; omega⟩
   ·have k1 : True := trivial
    have k2 : True := trivial
    repeat' (first | refine zg ?_ | refine AW.drawP ymix ?_ | (refine AW.cond rfl ?_ ?_ <;> intro hc <;> first | (cases hc; done) | simp only [NM] at hc | skip <;> try (exfalso; omega)) | (refine zr ?_; simp -dsimp (disch := try exact zo) only [go_sem, k1, k2, ek, he, hP, hn, ints_length, hSl, Int.toNat_natCast] <;> try rfl) | (first | refine callV.flat _ yfn_217 cat rfl rfl ?_ | refine callV.flat _ yfn_217 cbt rfl rfl ?_) | refine ⟨by omega, ?_⟩ | (refine zb ?_ ?_ <;> intro hg <;> (try simp only [NB] at hg) <;> (try rw [hg]) <;> try simp only [NM] at hg) | omega | simp -dsimp (disch := try exact zo) only [go_sem, k1, k2, ek, he, hP, hn, ints_length, hSl, Int.toNat_natCast] | contradiction)
    all_goals exact AW.stop ⟨⟨(k + 1, S.set (i + k) ((s0 + PQ + c) % 256), (s0 + PQ + c) / 256), by dsimp only; omega, dS2, hSl2 _, hc2, gw.out⟩, (Weak.t4 (by refine ⟨?_, ?_, ?_, ?_⟩ <;> simp -dsimp (disch := try exact zo) only [go_sem, hPQe, ints_in, Int.natCast_add, Int.cast_ofNat_Int])), by dsimp only; omega⟩
  ·have hc0 : c = 0 := by omega
   subst hc0
   have h1 : lowN b k = (nv b : Int) := lowN_all (by omega)
   have hv2 : Hid (w8 S = lowN a (i + 1) * (nv b : Int)) := Hid.mk (by rw [h1] at hv; rw [A1]; grind)
   clear hv A1 A2 B0 h1
   have k1 : True := trivial
   have k2 : True := trivial
   repeat' (first | refine zg ?_ | refine AW.drawP ymix ?_ | (refine AW.cond rfl ?_ ?_ <;> intro hc <;> first | (cases hc; done) | simp only [NM] at hc | skip <;> try (exfalso; omega)) | (refine zr ?_; simp -dsimp (disch := try exact zo) only [go_sem, k1, k2] <;> try rfl) | refine ⟨by omega, ?_⟩ | (refine zb ?_ ?_ <;> intro hg <;> (try simp only [NB] at hg) <;> (try rw [hg]) <;> try simp only [NM] at hg) | omega | simp -dsimp (disch := try exact zo) only [go_sem, k1, k2] | contradiction)
   all_goals exact AW.stop ⟨⟨(i + 1, S), by dsimp only; omega, dS, hSl, hv2.out⟩, (Weak.t4 (by refine ⟨?_, ?_, ?_, ?_⟩ <;> simp -dsimp (disch := try exact zo) only [go_sem, ints_in, Int.natCast_add, Int.cast_ofNat_Int])), by dsimp only; omega⟩
 ·have hil : i = a.size := by omega
  subst hil
  have hSl : S.length = L := hS
  have hfin : nb (nv ⟨(ofI S).toArray⟩) = nb (nv a * nv b) := by
   congr 1
   have h1 := str_nv S dS
   rw [lowN_all (Nat.le_refl _)] at hv
   have : ((nv a * nv b : Nat) : Int) = (nv a : Int) * (nv b : Int) := Int.natCast_mul _ _
   omega
  clear hv
  repeat' (first | refine zg ?_ | refine AW.drawP ymix ?_ | (refine AW.cond rfl ?_ ?_ <;> intro hc <;> first | (cases hc; done) | simp only [NM] at hc | skip <;> try (exfalso; omega)) | (refine zr ?_; simp -dsimp (disch := try exact zo) only [go_sem, ints_length, hSl] <;> try rfl) | refine ⟨by omega, ?_⟩ | (refine zb ?_ ?_ <;> intro hg <;> (try simp only [NB] at hg) <;> (try rw [hg]) <;> try simp only [NM] at hg) | omega | simp -dsimp (disch := try exact zo) only [go_sem, ints_length, hSl] | contradiction)
  refine AW.loop (fun z : {i : Nat // i ≤ L} => ⟨[(64, .lit (.int .i64 z.1)), (63, .lit (.int .i64 L)), (62, .ref 15 0 L L), (10, .ref 44 0 z.1 z.1)], [(15, .vec 1 (ints .i64 S)), (44, .vec 1 (ints .u8 (S.take z.1)))], 70⟩) (fun z => L - z.1) ⟨0, Nat.zero_le _⟩ (Weak.t4 (by refine ⟨?_, ?_, ?_, ?_⟩ <;> simp -dsimp (disch := try exact zo) only [go_sem, ints_in, List.take_zero, hi0, Int.natCast_add, Int.cast_ofNat_Int])) ?_
  rintro ⟨j, hj⟩
  dsimp only
  have hXl : (S.take j).length = j := by rw [List.length_take]; omega
  by_cases hjt : j < L
  ·have es : (ints .i64 S).getD j [] = [.lit (.int .i64 (S.getD j 0))] := ints_getD .i64 S j (by omega)
   have hd := dig8_getD dS j
   have wd : IntKind.u8.wrap (S.getD j 0) = S.getD j 0 := wrapu8 hd.1 hd.2
   have hX1 : S.take (j + 1) = S.take j ++ [S.getD j 0] := by
    rw [List.take_succ_eq_append_getElem (by omega), List.getD_eq_getElem?_getD, List.getElem?_eq_getElem (by omega)]; rfl
   generalize S.getD j 0 = s0 at *
   repeat' (first | refine zg ?_ | refine AW.drawP ymix ?_ | (refine AW.cond rfl ?_ ?_ <;> intro hc <;> first | (cases hc; done) | simp only [NM] at hc | skip <;> try (exfalso; omega)) | (refine zr ?_; simp -dsimp (disch := try exact zo) only [go_sem, es, wd, hXl, ints_length, ints_app, hSl, Int.toNat_natCast] <;> try rfl) | refine ⟨by omega, ?_⟩ | (refine zb ?_ ?_ <;> intro hg <;> (try simp only [NB] at hg) <;> (try rw [hg]) <;> try simp only [NM] at hg) | omega | simp -dsimp (disch := try exact zo) only [go_sem, es, wd, hXl, ints_length, ints_app, hSl, Int.toNat_natCast] | contradiction)
   all_goals exact AW.stop ⟨⟨j + 1, by omega⟩, (Weak.t4 (by refine ⟨?_, ?_, ?_, ?_⟩ <;> first | (simp -dsimp (disch := try exact zo) only [go_sem, Int.natCast_add, Int.cast_ofNat_Int, ints_app, hX1]; done) | (simp -dsimp (disch := try exact zo) only [go_sem, ints_in, Int.natCast_add, Int.cast_ofNat_Int]; done))), by dsimp only; omega⟩
  ·have hjl : j = L := by omega
   subst hjl
   have htk : S.take j = S := List.take_of_length_le (by omega)
   rw [htk] at hXl ⊢
   repeat' (first | refine zg ?_ | refine AW.drawP ymix ?_ | (refine AW.cond rfl ?_ ?_ <;> intro hc <;> first | (cases hc; done) | simp only [NM] at hc | skip <;> try (exfalso; omega)) | (refine zr ?_; simp -dsimp (disch := try exact zo) only [go_sem, hXl, ints_length] <;> try rfl) | refine ⟨by omega, ?_⟩ | (refine zb ?_ ?_ <;> intro hg <;> (try simp only [NB] at hg) <;> (try rw [hg]) <;> try simp only [NM] at hg) | omega | simp -dsimp (disch := try exact zo) only [go_sem, hXl, ints_length] | contradiction)
   all_goals
    refine ⟨ofI S, by first | exact ints_enc8 _ dS | (rw [List.take_of_length_le (by first | omega | (rw [ints_length]; omega))]; exact ints_enc8 _ dS), ?_⟩
    repeat' (first | refine zg ?_ | refine AW.drawP ymix ?_ | (refine AW.cond rfl ?_ ?_ <;> intro hc <;> first | (cases hc; done) | simp only [NM] at hc | skip <;> try (exfalso; omega)) | (refine zr ?_; simp -dsimp (disch := try exact zo) only [go_sem, hfin] <;> try rfl) | (refine callV.flat _ yfn_153 (c153 _ (by rw [str_size]; omega)) rfl rfl ?_) | refine ⟨by omega, ?_⟩ | (refine zb ?_ ?_ <;> intro hg <;> (try simp only [NB] at hg) <;> (try rw [hg]) <;> try simp only [NM] at hg) | omega | simp -dsimp (disch := try exact zo) only [go_sem, hfin] | contradiction)
end Go.Proofs.Vx
