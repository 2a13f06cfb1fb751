import Derived.Test.YtjlfgmhmalbiiaaGreatDoorProg
import Derived.Test.YtjlfgmhmalbiiaaGreatDoorT09
import Derived.Test.YtjlfgmhmalbiiaaGreatDoorT11
set_option linter.all false
namespace Go.Proofs.Vx
open Go Go.Sx Go.Proofs
attribute [local irreducible] fnT CallOK CallFr AW effV callV runP runO oneP oneO gcaseP hid
set_option maxHeartbeats 3200000 in
theorem c258 (A V C ds : List Int) (q : Int) (m : Nat) (hV : V.length = ds.length + 1) (hm : m = A.length + (V.length + C.length)) (hn : m < 1099511627776) (dV : Dig V) (dd : Dig ds) (hq : 0 ≤ q ∧ q < 4294967296) (hqv : (q - 1) * wz ds ≤ wz V) :
    CallOK Tryz.prog 258 [.ref 0 A.length V.length m, .sl (ints .u32 ds), .lit (.int .u32 q)] [(0, .vec 1 (ints .u32 (A ++ (V ++ C))))] (.lit (.bool (decide (wz V < q * wz ds))))
      [(0, .vec 1 (ints .u32 (A ++ (dgp V.length (if q * wz ds ≤ wz V then wz V - q * wz ds else wz V - (q - 1) * wz ds).toNat ++ C))))] := by
  refine CallOK.inout Tryz.func258 rfl 93 rfl rfl (by simp) (.lit _) (by simp only [List.mem_singleton, forall_eq]; exact ⟨by simp, inC_ints _ _⟩) [.tmp 6] (congrArg Array.toList Tryz.results258) ?_
  simp only [startT, Nat.reduceAdd]
  repeat' (first | refine AW.seq ?_ | refine AW.regionP ?_ | refine AW.block ?_ | refine AW.blk ?_ | refine AW.skip ?_ | refine AW.exit rfl ?_ | (refine AW.cond rfl ?_ ?_ <;> intro hc <;> first | (cases hc; done) | (simp only [NM] at hc) | skip) | (refine AW.ret (RetA.of ?_); simp -dsimp (disch := first | omega | (simp only [LN]; omega)) only [go_sem, app_getD, app_set] <;> try (rfl)) | refine ⟨by (omega), ?_⟩ | (refine gcaseP.splitB (fun hg => ?_) (fun hg => ?_) <;> (try simp only [NB] at hg) <;> (try rw [hg]) <;> (try simp only [NM] at hg)) | omega | simp -dsimp (disch := first | omega | (simp only [LN]; omega)) only [go_sem, app_getD, app_set] | contradiction)
  refine AW.loop (fun z : {p : Nat × List Int × Int × Int // p.1 ≤ ds.length ∧ Dig p.2.1 ∧ p.2.1.length = V.length ∧ (0 ≤ p.2.2.1 ∧ p.2.2.1 < 4294967296) ∧ (0 ≤ p.2.2.2 ∧ p.2.2.2 ≤ 1) ∧ (∀ j, p.1 ≤ j → p.2.1.getD j 0 = V.getD j 0) ∧ wz (p.2.1.take p.1) = wz (V.take p.1) - q * wz (ds.take p.1) + 4294967296 ^ p.1 * (p.2.2.1 + p.2.2.2)} => ⟨[(17, .lit (.int .i64 z.1.1)), (16, .lit (.int .i64 ds.length)), (15, .sl (ints .u32 ds)), (8, .lit (.int .u32 z.1.2.2.2)), (7, .lit (.int .u64 z.1.2.2.1)), (0, .ref 0 A.length V.length m), (1, .sl (ints .u32 ds)), (2, .lit (.int .u32 q))], [(0, .vec 1 (ints .u32 (A ++ (z.1.2.1 ++ C))))], 14⟩) (fun z => ds.length - z.1.1) ⟨(0, V, 0, 0), Nat.zero_le _, dV, rfl, ⟨Int.le_refl 0, by simp⟩, ⟨Int.le_refl 0, by simp⟩, fun _ _ => rfl, by simp [wz]⟩ (Weak.t4 (by refine ⟨?_, ?_, ?_, ?_⟩ <;> simp -dsimp (disch := first | omega | (simp only [LN]; omega)) only [go_sem, Int.natCast_add, Int.cast_ofNat_Int])) ?_
  rintro ⟨⟨i, W, c, b⟩, hi, dW, hW, hc1, hb1, hsame, hv⟩
  dsimp only at hi dW hW hc1 hb1 hsame hv ⊢
  have dwi := dW.getD i
  have ddi := dd.getD i
  have hpr : 0 ≤ ds.getD i 0 * q ∧ ds.getD i 0 * q ≤ 18446744065119617025 := by
    have h1 := Int.mul_nonneg ddi.1 hq.1
    have h2 := Int.mul_le_mul (show ds.getD i 0 ≤ 4294967295 by omega) (show q ≤ 4294967295 by omega) hq.1 (by decide)
    omega
  have hwr := u32_bd (ds.getD i 0 * q + c)
  have dwn := dW.getD ds.length
  have step : i < ds.length → ∀ u b' c', u = (W.getD i 0 - IntKind.u32.wrap (ds.getD i 0 * q + c) - b) % 4294967296 → b' = (if W.getD i 0 < IntKind.u32.wrap (ds.getD i 0 * q + c) + b then (1 : Int) else 0) → c' = (ds.getD i 0 * q + c) / 4294967296 →
      (0 ≤ u ∧ u < 4294967296) ∧ (0 ≤ b' ∧ b' ≤ 1) ∧ (0 ≤ c' ∧ c' < 4294967296) ∧ wz ((W.set i u).take (i + 1)) = wz (V.take (i + 1)) - q * wz (ds.take (i + 1)) + 4294967296 ^ (i + 1) * (c' + b') := by
    intro hlt u b' c' hu hb' hc'
    have e1 : u = W.getD i 0 - IntKind.u32.wrap (ds.getD i 0 * q + c) - b + 4294967296 * b' := by rw [hu, hb']; split <;> omega
    have e2 := Int.mul_ediv_add_emod (ds.getD i 0 * q + c) 4294967296
    refine ⟨by omega, by rw [hb']; split <;> omega, by omega, ?_⟩
    rw [wz_set_succ (by omega), hv, wz_take_succ V, wz_take_succ ds, Int.pow_succ, e1, hsame i (Nat.le_refl _), u32_wrap, hc']
    grind
  have fin : ds.length ≤ i → ∀ u b', u = (W.getD ds.length 0 - c - b) % 4294967296 → b' = (if W.getD ds.length 0 < c + b then (1 : Int) else 0) →
      Dig (W.set ds.length u) ∧ (0 ≤ b' ∧ b' ≤ 1) ∧ wz (W.set ds.length u) = wz V - q * wz ds + 4294967296 ^ V.length * b' := by
    intro hge u b' hu hb'
    obtain rfl : i = ds.length := by omega
    have e1 : u = W.getD ds.length 0 - c - b + 4294967296 * b' := by rw [hu, hb']; split <;> omega
    refine ⟨dW.set (by omega), by rw [hb']; split <;> omega, ?_⟩
    have e2 := wz_set_succ (xs := W) (i := ds.length) (by omega) u
    rw [take_full (xs := W.set ds.length u) (by simp; omega)] at e2
    have e3 := wz_take_succ V ds.length
    rw [take_full (by omega)] at e3
    rw [take_full (Nat.le_refl _)] at hv
    rw [e2, hv, e3, hV, Int.pow_succ, e1, hsame _ (Nat.le_refl _)]
    grind
  have hvB := wz_lt dV
  have hd0 := wz_nonneg dd
  repeat' (first | refine AW.seq ?_ | refine AW.regionP ?_ | refine AW.block ?_ | refine AW.blk ?_ | refine AW.skip ?_ | refine AW.exit rfl ?_ | (refine AW.cond rfl ?_ ?_ <;> intro hc <;> first | (cases hc; done) | (simp only [NM] at hc) | skip) | (refine AW.ret (RetA.of ?_); simp -dsimp (disch := first | omega | (simp only [LN]; omega)) only [go_sem, app_getD, app_set] <;> try (rfl)) | (refine AW.ret (RetB.of ?_ ?_) <;> simp -dsimp (disch := first | omega | (simp only [LN]; omega)) only [go_sem, app_getD, app_set]) | (refine callV.flat _ yfn_196 (c196 _ _ _ (by omega) (by omega) (by omega)) rfl rfl ?_) | (refine callV.flat _ yfn_194 (c194 _ _ _ (by omega) (by omega) (by omega)) rfl rfl ?_) | refine ⟨by (omega), ?_⟩ | (refine gcaseP.splitB (fun hg => ?_) (fun hg => ?_) <;> (try simp only [NB] at hg) <;> (try rw [hg]) <;> (try simp only [NM] at hg)) | omega | simp -dsimp (disch := first | omega | (simp only [LN]; omega)) only [go_sem, app_getD, app_set] | contradiction)
  · obtain ⟨s1, s2, s3, s4⟩ := step (by omega) _ _ _ rfl rfl rfl
    exact AW.stop ⟨⟨(i + 1, W.set i ((W.getD i 0 - IntKind.u32.wrap (ds.getD i 0 * q + c) - b) % 4294967296), (ds.getD i 0 * q + c) / 4294967296, if W.getD i 0 < IntKind.u32.wrap (ds.getD i 0 * q + c) + b then 1 else 0), by dsimp only; omega, dW.set s1, by simpa using hW, s3, s2, fun j hj => by dsimp only at hj ⊢; rw [igetD_set_ne (by omega)]; exact hsame j (by omega), s4⟩, (Weak.t4 (by refine ⟨?_, ?_, ?_, ?_⟩ <;> simp -dsimp (disch := first | omega | (simp only [LN]; omega)) only [go_sem, Int.natCast_add, Int.cast_ofNat_Int])), by dsimp only; omega⟩
  · obtain ⟨f1, f2, f3⟩ := fin (by omega) _ _ rfl rfl
    rw [hc, Int.mul_zero] at f3
    have f4 := wz_nonneg f1
    have f5 : ¬ wz V < q * wz ds := by omega
    simp only [f5, decide_false]
  · obtain ⟨f1, f2, f3⟩ := fin (by omega) _ _ rfl rfl
    rw [hc, Int.mul_zero] at f3
    have f4 := wz_nonneg f1
    rw [if_pos (by omega), ← dig_eq f1 (by simpa using hW) (by omega)]
  · obtain ⟨f1, f2, f3⟩ := fin (by omega) _ _ rfl rfl
    have hb1 : (if W.getD ds.length 0 < c + b then (1 : Int) else 0) = 1 := by omega
    rw [hb1, Int.mul_one] at f3
    have hY : (W.set ds.length ((W.getD ds.length 0 - c - b) % 4294967296)).length = V.length := by simpa using hW
    generalize W.set ds.length ((W.getD ds.length 0 - c - b) % 4294967296) = Y at *
    have f4 := wz_lt f1
    rw [hY] at f4
    have f5 : wz V < q * wz ds := by omega
    have f6 : (q - 1) * wz ds = q * wz ds - wz ds := by grind
    simp only [f5, decide_true, show ¬ q * wz ds ≤ wz V by omega, if_false]
    clear hv hsame step fin hpr hwr
    refine AW.loop (fun z : {p : Nat × List Int × Int // p.1 ≤ ds.length ∧ Dig p.2.1 ∧ p.2.1.length = V.length ∧ (0 ≤ p.2.2 ∧ p.2.2 ≤ 1) ∧ (∀ j, p.1 ≤ j → p.2.1.getD j 0 = Y.getD j 0) ∧ wz (p.2.1.take p.1) + 4294967296 ^ p.1 * p.2.2 = wz (Y.take p.1) + wz (ds.take p.1)} => ⟨[(66, .lit (.int .i64 z.1.1)), (65, .lit (.int .i64 ds.length)), (64, .sl (ints .u32 ds)), (12, .lit (.int .u32 z.1.2.2)), (0, .ref 0 A.length V.length m), (1, .sl (ints .u32 ds))], [(0, .vec 1 (ints .u32 (A ++ (z.1.2.1 ++ C))))], 39⟩) (fun z => ds.length - z.1.1) ⟨(0, Y, 0), Nat.zero_le _, f1, hY, ⟨Int.le_refl 0, by simp⟩, fun _ _ => rfl, by simp [wz]⟩ (Weak.t4 (by refine ⟨?_, ?_, ?_, ?_⟩ <;> simp -dsimp (disch := first | omega | (simp only [LN]; omega)) only [go_sem, Int.natCast_add, Int.cast_ofNat_Int])) ?_
    rintro ⟨⟨i, Z, c⟩, hi, dZ, hZ, hc1, hsame, hv⟩
    dsimp only at hi dZ hZ hc1 hsame hv ⊢
    have dzi := dZ.getD i
    have ddi := dd.getD i
    have dzn := dZ.getD ds.length
    have step : i < ds.length → ∀ u c', u = (Z.getD i 0 + ds.getD i 0 + c) % 4294967296 → c' = (Z.getD i 0 + ds.getD i 0 + c) / 4294967296 → (0 ≤ u ∧ u < 4294967296) ∧ (0 ≤ c' ∧ c' ≤ 1) ∧ wz ((Z.set i u).take (i + 1)) + 4294967296 ^ (i + 1) * c' = wz (Y.take (i + 1)) + wz (ds.take (i + 1)) := by
      intro hlt u c' hu hc'
      have e2 := Int.mul_ediv_add_emod (Z.getD i 0 + ds.getD i 0 + c) 4294967296
      refine ⟨by omega, by omega, ?_⟩
      rw [wz_set_succ (by omega), wz_take_succ Y, wz_take_succ ds, Int.pow_succ, hu, hc', ← hsame i (Nat.le_refl _)]
      grind
    have fin : ds.length ≤ i → ∀ u, u = IntKind.u32.wrap (Z.getD ds.length 0 + c) → Z.set ds.length u = dgp V.length (wz V - (q - 1) * wz ds).toNat := by
      intro hge u hu
      obtain rfl : i = ds.length := by omega
      have e2 := wz_set_succ (xs := Z) (i := ds.length) (by omega) u
      rw [take_full (xs := Z.set ds.length u) (by simp; omega)] at e2
      have e3 := wz_take_succ Y ds.length
      rw [take_full (by omega), ← hsame _ (Nat.le_refl _)] at e3
      rw [take_full (Nat.le_refl _)] at hv
      have hlt := wz_lt (dZ.take ds.length)
      have hl : (Z.take ds.length).length = ds.length := by simp; omega
      rw [hl] at hlt
      have hnn := wz_nonneg (dZ.take ds.length)
      rw [hV, Int.pow_succ] at f3
      have hp : (0 : Int) < 4294967296 ^ ds.length := Int.pow_pos (by decide)
      have htot : wz (Z.take ds.length) + 4294967296 ^ ds.length * (Z.getD ds.length 0 + c) = wz V - (q - 1) * wz ds + 4294967296 ^ ds.length * 4294967296 := by grind
      have ht : Z.getD ds.length 0 + c = 4294967296 := by
        have h1 : ¬ Z.getD ds.length 0 + c ≤ 4294967295 := by
          intro hle
          have := Int.mul_le_mul_of_nonneg_left hle (Int.le_of_lt hp)
          grind
        omega
      have hu0 : u = 0 := by rw [hu, ht]; decide
      apply dig_eq (dZ.set (by omega)) (by simpa using hZ)
      rw [e2, hu0]
      rw [ht] at htot
      omega
    repeat' (first | refine AW.seq ?_ | refine AW.regionP ?_ | refine AW.block ?_ | refine AW.blk ?_ | refine AW.skip ?_ | refine AW.exit rfl ?_ | (refine AW.cond rfl ?_ ?_ <;> intro hc <;> first | (cases hc; done) | (simp only [NM] at hc) | skip) | (refine AW.ret (RetA.of ?_); simp -dsimp (disch := first | omega | (simp only [LN]; omega)) only [go_sem, app_getD, app_set] <;> try (rfl)) | (refine AW.ret (RetB.of ?_ ?_) <;> simp -dsimp (disch := first | omega | (simp only [LN]; omega)) only [go_sem, app_getD, app_set]) | (refine callV.flat _ yfn_196 (c196 _ _ _ (by omega) (by omega) (by omega)) rfl rfl ?_) | (refine callV.flat _ yfn_194 (c194 _ _ _ (by omega) (by omega) (by omega)) rfl rfl ?_) | refine ⟨by (omega), ?_⟩ | (refine gcaseP.splitB (fun hg => ?_) (fun hg => ?_) <;> (try simp only [NB] at hg) <;> (try rw [hg]) <;> (try simp only [NM] at hg)) | omega | simp -dsimp (disch := first | omega | (simp only [LN]; omega)) only [go_sem, app_getD, app_set] | contradiction)
    · obtain ⟨s1, s2, s3⟩ := step (by omega) _ _ rfl rfl
      exact AW.stop ⟨⟨(i + 1, Z.set i ((Z.getD i 0 + ds.getD i 0 + c) % 4294967296), (Z.getD i 0 + ds.getD i 0 + c) / 4294967296), by dsimp only; omega, dZ.set s1, by simpa using hZ, s2, fun j hj => by dsimp only at hj ⊢; rw [igetD_set_ne (by omega)]; exact hsame j (by omega), s3⟩, (Weak.t4 (by refine ⟨?_, ?_, ?_, ?_⟩ <;> simp -dsimp (disch := first | omega | (simp only [LN]; omega)) only [go_sem, Int.natCast_add, Int.cast_ofNat_Int])), by dsimp only; omega⟩
    · rw [fin (by omega) _ rfl]
end Go.Proofs.Vx
namespace Go.Sx
set_option linter.unusedVariables false
def Hid (p : Prop) : Prop := p
theorem Hid.mk {p : Prop} (h : p) : Hid p := h
theorem Hid.out {p : Prop} (h : Hid p) : p := h
structure LDv (E U out : List Int) (M n i : Nat) (T : Int) : Prop where
  dU : Dig U
  lU : U.length = M + n
  dO : Dig out
  lO : out.length = M
  tot : wz U + 4294967296 ^ (M - i) * (wz (out.drop (M - i)) * wz E) = T
  top : wz (U.drop (M - i)) < wz E
theorem LDv.window {E U out : List Int} {M n i : Nat} {T : Int} (h : LDv E U out M n i T) (hi : i < M) (lE : E.length = n) (dE : Dig E) :
    ∃ A V C, U = A ++ (V ++ C) ∧ A.length = M - 1 - i ∧ V.length = n + 1 ∧ Dig V ∧ wz C = 0 ∧ wz V < wz E * 4294967296 := by
  have hU : U = U.take (M - 1 - i) ++ ((U.drop (M - 1 - i)).take (n + 1) ++ (U.drop (M - 1 - i)).drop (n + 1)) := by rw [List.take_append_drop, List.take_append_drop]
  have l1 : (U.take (M - 1 - i)).length = M - 1 - i := by have := h.lU; simp; omega
  have l2 : ((U.drop (M - 1 - i)).take (n + 1)).length = n + 1 := by have := h.lU; simp; omega
  have dV : Dig ((U.drop (M - 1 - i)).take (n + 1)) := (h.dU.drop _).take _
  have dC : Dig ((U.drop (M - 1 - i)).drop (n + 1)) := (h.dU.drop _).drop _
  have dD : Dig (U.drop (M - 1 - i)) := h.dU.drop _
  refine ⟨_, _, _, hU, l1, l2, dV, ?_, ?_⟩
  · have h1 := h.top
    have e1 : U.drop (M - i) = (U.drop (M - 1 - i)).drop 1 := by rw [List.drop_drop]; congr 1; omega
    rw [e1] at h1
    have e2 := wz_split ((U.drop (M - 1 - i)).drop 1) n (by have := h.lU; simp; omega)
    have e3 : ((U.drop (M - 1 - i)).drop 1).drop n = (U.drop (M - 1 - i)).drop (n + 1) := by rw [List.drop_drop]; congr 1; omega
    rw [e3] at e2
    have t1 := wz_nonneg ((dD.drop 1).take n)
    have t2 := wz_nonneg dC
    have hE := wz_lt dE
    rw [lE] at hE
    have hp : (0 : Int) < 4294967296 ^ n := Int.pow_pos (by decide)
    apply Classical.byContradiction
    intro hne
    have : 4294967296 ^ n * 1 ≤ 4294967296 ^ n * wz ((U.drop (M - 1 - i)).drop (n + 1)) := Int.mul_le_mul_of_nonneg_left (by omega) (by omega)
    omega
  · have h1 := h.top
    have e1 : U.drop (M - i) = U.drop (M - 1 - i + 1) := by congr 1; omega
    rw [e1] at h1
    have e2 := wz_drop U (M - 1 - i) (by have := h.lU; omega)
    have e3 := wz_split (U.drop (M - 1 - i)) (n + 1) (by have := h.lU; simp; omega)
    have t2 := wz_nonneg dC
    have hp : (0 : Int) < 4294967296 ^ (n + 1) := Int.pow_pos (by decide)
    have t3 := Int.mul_nonneg (Int.le_of_lt hp) t2
    have t4 := h.dU.getD (M - 1 - i)
    omega
theorem LDv.next {E A V C out : List Int} {M n i : Nat} {T q : Int} (h : LDv E (A ++ (V ++ C)) out M n i T) (hi : i < M) (lE : E.length = n) (dE : Dig E) (hA : A.length = M - 1 - i) (hV : V.length = n + 1) (dV : Dig V) (hC : wz C = 0)
    (hq : 0 ≤ q ∧ q < 4294967296) (hq1 : q * wz E ≤ wz V) (hq2 : wz V < (q + 1) * wz E) :
    LDv E (A ++ (dgp V.length (wz V - q * wz E).toNat ++ C)) (out.set (M - 1 - i) q) M n (i + 1) T := by
  have hlt := wz_lt dV
  have hE0 := wz_nonneg dE
  have hqE := Int.mul_nonneg hq.1 hE0
  have w1 : wz (dgp V.length (wz V - q * wz E).toNat) = wz V - q * wz E := Dig.dgp_of (by omega) (by omega)
  have dN := dgp_dig V.length (wz V - q * wz E).toNat
  have lN := dgp_length V.length (wz V - q * wz E).toNat
  generalize dgp V.length (wz V - q * wz E).toNat = V' at *
  have dU := h.dU
  have dA : Dig A := fun x hx => dU x (by simp [hx])
  have dC : Dig C := fun x hx => dU x (by simp [hx])
  refine ⟨dA.append (dN.append dC), ?_, h.dO.set hq, by simpa using h.lO, ?_, ?_⟩
  · have := h.lU; simp at this ⊢; omega
  · have ht := h.tot
    have e1 : M - i = (M - 1 - i) + 1 := by omega
    have e2 : M - (i + 1) = M - 1 - i := by omega
    rw [e1, Int.pow_succ] at ht
    rw [e2, wz_drop_set (by have := h.lO; omega)]
    rw [wz_append, wz_append, hC, hA] at ht ⊢
    rw [w1, lN]
    rw [← ht]
    grind
  · have e2 : M - (i + 1) = A.length := by omega
    rw [e2, List.drop_left, wz_append, hC, w1]
    have : (q + 1) * wz E = q * wz E + wz E := by grind
    omega
theorem LDv.fin {E U out : List Int} {M n k : Nat} {a b : Int} (h : LDv E U out M n M (a * 2 ^ k)) (lE : E.length = n) (dE : Dig E) (hE : wz E = b * 2 ^ k) (hb : 0 < b) :
    out = dgp M (a / b).toNat ∧ wz (U.take n) / 2 ^ k = a % b := by
  have ht := h.tot
  have htop := h.top
  rw [Nat.sub_self, Int.pow_zero, List.drop_zero, hE] at ht
  rw [Nat.sub_self, List.drop_zero, hE] at htop
  have hk : (0 : Int) < 2 ^ k := Int.pow_pos (by decide)
  have u0 := wz_nonneg h.dU
  have e1 := wz_split U n (by have := h.lU; omega)
  have t1 := wz_nonneg (h.dU.take n)
  have t2 := wz_nonneg (h.dU.drop n)
  have hEl := wz_lt dE
  rw [lE, hE] at hEl
  have hp : (0 : Int) < 4294967296 ^ n := Int.pow_pos (by decide)
  have hz : wz (U.drop n) = 0 := by
    apply Classical.byContradiction
    intro hne
    have : 4294967296 ^ n * 1 ≤ 4294967296 ^ n * wz (U.drop n) := Int.mul_le_mul_of_nonneg_left (by omega) (by omega)
    omega
  rw [hz, Int.mul_zero, Int.add_zero] at e1
  have e2 : wz U = (a - wz out * b) * 2 ^ k := by grind
  have e3 : wz U / 2 ^ k = a - wz out * b := by rw [e2, Int.mul_ediv_cancel _ (by omega)]
  have r0 : 0 ≤ a - wz out * b := by rw [← e3]; exact Int.ediv_nonneg u0 (by omega)
  have r1 : a - wz out * b < b := by
    rw [e2] at htop
    exact Int.lt_of_mul_lt_mul_right htop (by omega)
  have q1 : a / b = wz out := by
    have : a = (a - wz out * b) + wz out * b := by omega
    rw [this, Int.add_mul_ediv_right _ _ (by omega), Int.ediv_eq_zero_of_lt r0 r1]; omega
  have q2 : a % b = a - wz out * b := by
    have := Int.mul_ediv_add_emod a b
    rw [q1] at this
    have : b * wz out = wz out * b := Int.mul_comm _ _
    omega
  refine ⟨?_, ?_⟩
  · rw [q1]; exact dig_eq h.dO h.lO rfl
  · rw [← e1, e3, q2]
structure LDq (E V : List Int) (n : Nat) (q r : Int) : Prop where
  eq : q * E.getD (n - 1) 0 + r = V.getD (n - 1) 0 + V.getD n 0 * 4294967296
  q0 : 0 ≤ q
  r0 : 0 ≤ r
  up : wz V < (q + 1) * wz E
theorem LDq.est {E V : List Int} {n : Nat} (lE : E.length = n) (lV : V.length = n + 1) (h2 : 2 ≤ n) (dE : Dig E) (dV : Dig V) (ht : 2147483648 ≤ E.getD (n - 1) 0) (hlt : wz V < wz E * 4294967296) :
    Est (4294967296 ^ (n - 2)) (wz E) (wz V) (E.getD (n - 1) 0) (E.getD (n - 2) 0) (wz (E.take (n - 2))) (V.getD n 0) (V.getD (n - 1) 0) (V.getD (n - 2) 0) (wz (V.take (n - 2))) := by
  have := est_of (E := E) (V := V) (n := n - 2) (by omega) (by omega) dE dV (by rw [show n - 2 + 1 = n - 1 by omega]; exact ht) hlt
  rw [show n - 2 + 1 = n - 1 by omega, show n - 2 + 2 = n by omega] at this
  exact this
theorem LDq.start {E V : List Int} {n : Nat} (h2 : 2 ≤ n) (e : Est (4294967296 ^ (n - 2)) (wz E) (wz V) (E.getD (n - 1) 0) (E.getD (n - 2) 0) (wz (E.take (n - 2))) (V.getD n 0) (V.getD (n - 1) 0) (V.getD (n - 2) 0) (wz (V.take (n - 2)))) :
    LDq E V n ((V.getD (n - 1) 0 + V.getD n 0 * 4294967296) / E.getD (n - 1) 0) ((V.getD (n - 1) 0 + V.getD n 0 * 4294967296) % E.getD (n - 1) 0) := by
  obtain ⟨hP, hD, hN, ht, hd2, hd', hu1, hu0, hu2, hn', hND⟩ := e
  have h1 := Int.mul_ediv_add_emod (V.getD (n - 1) 0 + V.getD n 0 * 4294967296) (E.getD (n - 1) 0)
  have h3 := Int.emod_lt_of_pos (V.getD (n - 1) 0 + V.getD n 0 * 4294967296) (show 0 < E.getD (n - 1) 0 by omega)
  have h4 := Int.emod_nonneg (V.getD (n - 1) 0 + V.getD n 0 * 4294967296) (show E.getD (n - 1) 0 ≠ 0 by omega)
  have h5 : 0 ≤ (V.getD (n - 1) 0 + V.getD n 0 * 4294967296) / E.getD (n - 1) 0 := Int.ediv_nonneg (by omega) (by omega)
  generalize (V.getD (n - 1) 0 + V.getD n 0 * 4294967296) / E.getD (n - 1) 0 = q at *
  generalize (V.getD (n - 1) 0 + V.getD n 0 * 4294967296) % E.getD (n - 1) 0 = r at *
  refine ⟨by rw [Int.mul_comm]; exact h1, h5, h4, ?_⟩
  generalize E.getD (n - 1) 0 = t at *
  generalize V.getD n 0 = u1 at *
  generalize V.getD (n - 1) 0 = u0 at *
  rw [hN, hD]
  generalize wz (V.take (n - 2)) = n' at *
  generalize wz (E.take (n - 2)) = d' at *
  generalize V.getD (n - 2) 0 = u2 at *
  generalize E.getD (n - 2) 0 = d2 at *
  generalize (4294967296 : Int) ^ (n - 2) = P at *
  have a1 : (u1 * 4294967296 + u0 + 1) * (4294967296 * P) ≤ ((q + 1) * t) * (4294967296 * P) := Int.mul_le_mul_of_nonneg_right (by grind) (by omega)
  have a2 : u2 * P ≤ 4294967295 * P := Int.mul_le_mul_of_nonneg_right (by omega) (by omega)
  have a3 : 0 ≤ (q + 1) * (d2 * P + d') := Int.mul_nonneg (by omega) (by have := Int.mul_nonneg hd2.1 (Int.le_of_lt hP); omega)
  have a4 : ((u1 * 4294967296 + u0) * 4294967296 + u2) * P = (u1 * 4294967296 + u0 + 1) * (4294967296 * P) - 4294967296 * P + u2 * P := by grind
  have a5 : (q + 1) * ((t * 4294967296 + d2) * P + d') = ((q + 1) * t) * (4294967296 * P) + (q + 1) * (d2 * P + d') := by grind
  omega
theorem LDq.bound {E V : List Int} {n : Nat} {q r : Int} (h : LDq E V n q r) (e : Est (4294967296 ^ (n - 2)) (wz E) (wz V) (E.getD (n - 1) 0) (E.getD (n - 2) 0) (wz (E.take (n - 2))) (V.getD n 0) (V.getD (n - 1) 0) (V.getD (n - 2) 0) (wz (V.take (n - 2)))) : q ≤ 4294967297 := by
  have hu := e.u1_le
  have ht := e.ht
  have hu0 := e.hu0
  have he := h.eq
  have hr := h.r0
  apply Int.not_lt.1
  intro hq
  have : 4294967298 * E.getD (n - 1) 0 ≤ q * E.getD (n - 1) 0 := Int.mul_le_mul_of_nonneg_right (by omega) (by omega)
  omega
theorem LDq.lower {E V : List Int} {n : Nat} {q r : Int} (h : LDq E V n q r) (e : Est (4294967296 ^ (n - 2)) (wz E) (wz V) (E.getD (n - 1) 0) (E.getD (n - 2) 0) (wz (E.take (n - 2))) (V.getD n 0) (V.getD (n - 1) 0) (V.getD (n - 2) 0) (wz (V.take (n - 2))))
    (hc : 4294967295 < q ∨ r * 4294967296 + V.getD (n - 2) 0 < q * E.getD (n - 2) 0) : LDq E V n (q - 1) (r + E.getD (n - 1) 0) ∧ 1 ≤ q := by
  have hl := e.lower (by rw [h.eq]; omega) h.q0 hc
  have hN : 0 ≤ wz V := by
    rw [e.hN]
    have := Int.mul_nonneg (show 0 ≤ (V.getD n 0 * 4294967296 + V.getD (n - 1) 0) * 4294967296 + V.getD (n - 2) 0 by have := e.hu1; have := e.hu0; have := e.hu2; omega) (Int.le_of_lt e.hP)
    have := e.hn'
    omega
  have hq1 : 1 ≤ q := by
    apply Int.not_lt.1
    intro hq
    have : q = 0 := by have := h.q0; omega
    subst this
    rw [Int.zero_mul] at hl; omega
  have ht := e.ht
  refine ⟨⟨?_, by omega, by have := h.r0; omega, ?_⟩, hq1⟩
  · have := h.eq; grind
  · rw [show q - 1 + 1 = q by omega]; exact hl
theorem LDq.done {E V : List Int} {n : Nat} {q r : Int} (h : LDq E V n q r) (e : Est (4294967296 ^ (n - 2)) (wz E) (wz V) (E.getD (n - 1) 0) (E.getD (n - 2) 0) (wz (E.take (n - 2))) (V.getD n 0) (V.getD (n - 1) 0) (V.getD (n - 2) 0) (wz (V.take (n - 2))))
    (hc : (q ≤ 4294967295 ∧ q * E.getD (n - 2) 0 ≤ r * 4294967296 + V.getD (n - 2) 0) ∨ 4294967295 < r) : (0 ≤ q ∧ q ≤ 4294967295) ∧ (q - 1) * wz E ≤ wz V ∧ wz V < (q + 1) * wz E := by
  have hq : q ≤ 4294967295 := by
    rcases hc with hc | hc
    · exact hc.1
    · have hu := e.u1_le
      have ht := e.ht
      have hu0 := e.hu0
      have he := h.eq
      apply Int.not_lt.1
      intro hq
      have : 4294967296 * E.getD (n - 1) 0 ≤ q * E.getD (n - 1) 0 := Int.mul_le_mul_of_nonneg_right (by omega) (by omega)
      omega
  refine ⟨⟨h.q0, hq⟩, e.close (by rw [h.eq]; omega) ⟨h.q0, hq⟩ h.r0 ?_, h.up⟩
  rcases hc with hc | hc
  · exact .inr hc.2
  · exact .inl hc
end Go.Sx
