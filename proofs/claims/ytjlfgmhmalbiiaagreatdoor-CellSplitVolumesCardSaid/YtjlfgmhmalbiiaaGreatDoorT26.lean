import Derived.Test.YtjlfgmhmalbiiaaGreatDoorT20
import Derived.Test.YtjlfgmhmalbiiaaGreatDoorT22
import Derived.Test.YtjlfgmhmalbiiaaGreatDoorT25
set_option linter.all false
namespace Geo
def ar (d : V) (vs : List V) : Rat := sm (fun e => dot d (cross e.1 e.2)) (edges vs)
theorem ar_odd (d : V) (e : V × V) : dot d (cross (sw e).1 (sw e).2) = - dot d (cross e.1 e.2) := by simp only [sw, dot, cross]; grind
theorem ar_from (n p : V) (vs : List V) : ar n vs = sm (fun e => ori n p e.1 e.2) (edges vs) := by
  have h1 : sm (fun e => ori n p e.1 e.2) (edges vs) = sm (fun e => dot n (cross e.1 e.2)) (edges vs) + (sm (fun e => dot n (cross p e.1)) (edges vs) + sm (fun e => - dot n (cross p e.2)) (edges vs)) := by
    rw [← sm_add, ← sm_add]
    exact sm_congr fun e _ => by simp only [ori, dot, cross, sub_x, sub_y, sub_z]; grind
  have h2 : sm (fun e => dot n (cross p e.1)) (edges vs) = sm (fun v => dot n (cross p v)) vs := by
    have := sm_map (fun v => dot n (cross p v)) (fun e : V × V => e.1) (edges vs)
    rw [edges_fst] at this
    exact this.symm
  have h3 : sm (fun e => - dot n (cross p e.2)) (edges vs) = - sm (fun v => dot n (cross p v)) vs := by
    have := sm_map (fun v => dot n (cross p v)) (fun e : V × V => e.2) (edges vs)
    rw [sm_perm _ (edges_snd vs)] at this
    rw [this]
    exact sm_neg fun e _ => rfl
  unfold ar
  rw [h1, h2, h3]; grind
theorem ar_lin (n d : V) (t : Rat) (vs : List V) : ar (t * d) vs = t * ar d vs := by
  unfold ar
  rw [← sm_mul]
  exact sm_congr fun e _ => dot_smul_l t d _
theorem PV.ar_along {h : H} {vs : List V} (pv : PV h.n vs) (pl : ∀ v ∈ vs, h.at v = 0) (d : V) : dot h.n h.n * ar d vs = dot d h.n * ar h.n vs := by
  match hvs : vs, pv.len with
  | v :: t, hl =>
    have hF : ∀ d : V, ∀ e : V × V, (fun e : V × V => dot d (cross e.1 e.2)) (sw e) = - (fun e : V × V => dot d (cross e.1 e.2)) e := fun d e => ar_odd d e
    have hne : t ≠ [] := by intro e; subst e; simp at hl
    unfold ar
    rw [fan (hF d) v t hne, fan (hF h.n) v t hne, ← sm_mul, ← sm_mul]
    refine sm_congr fun e he => ?_
    obtain ⟨A, B, hAB⟩ := path_split he
    have h0 := pl v (by simp)
    have h1 := pl e.1 (by rw [hAB]; simp)
    have h2 := pl e.2 (by rw [hAB]; simp)
    have e1 : dot h.n (e.1 - v) = 0 := by rw [at_sub, h0, h1]; grind
    have e2 : dot h.n (e.2 - v) = 0 := by rw [at_sub, h0, h2]; grind
    have k := cross_along e1 e2
    have q : ∀ d : V, dot d (cross v e.1) + dot d (cross e.1 e.2) + dot d (cross e.2 v) = dot d (cross (e.1 - v) (e.2 - v)) := by
      intro d; simp only [dot, cross, sub_x, sub_y, sub_z]; grind
    simp only
    rw [q, q, ← dot_smul_r, k, dot_smul_r]
    grind
theorem PV.ar_pos {h : H} {vs : List V} (pv : PV h.n vs) : 0 < ar h.n vs := by
  refine pv.fan_pos (fun e => ar_odd h.n e) ?_
  intro a b c _ _ _ ho
  have : dot h.n (cross a b) + dot h.n (cross b c) + dot h.n (cross c a) = ori h.n a b c := by simp only [ori, dot, cross, sub_x, sub_y, sub_z]; grind
  simp only
  rw [this]; exact ho
def sh (s : Sd) : Rat := s.h.d * ar s.h.n s.vs / dot s.h.n s.h.n
def vol6 (c : List Sd) : Rat := sm sh c
theorem sh_at {s : Sd} (pv : PV s.h.n s.vs) (pl : ∀ v ∈ s.vs, s.h.at v = 0) {x : V} (hx : s.h.at x = 0) : ar x s.vs = sh s := by
  have h1 := pv.ar_along pl x
  have h2 : dot x s.h.n = s.h.d := by have : s.h.at x = dot x s.h.n - s.h.d := by simp only [H.at, dot]; grind
                                      grind
  have hnn := nn_pos pv.n_ne
  rw [h2] at h1
  have : dot s.h.n s.h.n ≠ 0 := by grind
  unfold sh
  grind
theorem sm_ar_closed {c : List Sd} (cl : (E c).Perm ((E c).map sw)) (d : V) : sm (fun s => ar d s.vs) c = 0 := by
  have := sm_closed (F := fun e : V × V => dot d (cross e.1 e.2)) (l := E c) (fun e => ar_odd d e) cl
  unfold E at this
  rw [sm_flatMap] at this
  exact this
theorem Cell.vol_pos {c : List Sd} (C : Cell c) : 0 < vol6 c := by
  obtain ⟨m, hm⟩ := C.exists_inn
  have h0 := sm_ar_closed C.cl m
  have h1 : vol6 c = sm (fun s => sh s + - ar m s.vs) c := by
    rw [sm_add, sm_neg (F := fun s : Sd => - ar m s.vs) (G := fun s : Sd => ar m s.vs) (fun _ _ => rfl), h0]
    unfold vol6; grind
  rw [h1]
  refine sm_pos (fun s hs => ?_) (by intro e; have := C.four; rw [e] at this; simp at this)
  have pv := C.pv s hs
  have pl := C.pl s hs
  have e := pv.ar_along pl m
  have hnn := nn_pos pv.n_ne
  have hp := pv.ar_pos
  have hlt : s.h.at m < 0 := hm s hs
  have h2 : dot m s.h.n = s.h.at m + s.h.d := by simp only [H.at, dot]; grind
  rw [h2] at e
  have e2 : dot s.h.n s.h.n * (sh s + - ar m s.vs) = - s.h.at m * ar s.h.n s.vs := by
    have : dot s.h.n s.h.n * sh s = s.h.d * ar s.h.n s.vs := by
      unfold sh
      have : dot s.h.n s.h.n ≠ 0 := by grind
      grind
    grind
  have p := Rat.mul_pos (show 0 < - s.h.at m by grind) hp
  exact mul_pos_neg (b := dot s.h.n s.h.n) (by rw [Rat.mul_comm, e2]; exact p) hnn
def neg (g : H) : H := ⟨(-1 : Rat) * g.n, - g.d⟩
theorem neg_at (g : H) (x : V) : (neg g).at x = - g.at x := by simp only [neg, H.at, dot, smul_x, smul_y, smul_z]; grind
theorem ori_on_line {h g : H} {p u v : V} (hN : 0 < dot (cross h.n g.n) (cross h.n g.n)) (hp : h.at p = 0) (hu : h.at u = 0) (hv : h.at v = 0) (gp : g.at p = 0) (gu : g.at u = 0) (gv : g.at v = 0) : ori h.n p u v = 0 := by
  have e := ori_line (z := p) hu hv gu gv hp
  rw [gp] at e
  have : dot (cross h.n g.n) (cross h.n g.n) * ori h.n u v p = 0 := by rw [e]; grind
  rcases Rat.mul_eq_zero.1 this with h1 | h1
  · grind
  · rw [ori_cyc]; exact h1
theorem trim_add {h g : H} {p : V} {e : V × V} (hN : 0 < dot (cross h.n g.n) (cross h.n g.n)) (hp : h.at p = 0) (gp : g.at p = 0) (h1 : h.at e.1 = 0) (h2 : h.at e.2 = 0) :
    sm (fun e => ori h.n p e.1 e.2) (trim g e).toList + sm (fun e => ori h.n p e.1 e.2) (trim (neg g) e).toList = ori h.n p e.1 e.2 := by
  have n1 := neg_at g e.1
  have n2 := neg_at g e.2
  have cut : g.at e.1 ≠ g.at e.2 → ori h.n p e.1 (X g e.1 e.2) + ori h.n p (X g e.1 e.2) e.2 = ori h.n p e.1 e.2 := by
    intro _
    unfold X
    generalize g.at e.1 / (g.at e.1 - g.at e.2) = t
    simp only [ori, dot, cross, lerp, sub_x, sub_y, sub_z, add_x, add_y, add_z, smul_x, smul_y, smul_z]; grind
  have Xn : g.at e.1 ≠ g.at e.2 → X (neg g) e.1 e.2 = X g e.1 e.2 := by
    intro hne
    unfold X
    rw [n1, n2]
    congr 1
    have a1 : g.at e.1 - g.at e.2 ≠ 0 := by grind
    have a2 : - g.at e.1 - - g.at e.2 ≠ 0 := by grind
    grind
  have t3 : ∀ q : Rat, q < 0 ∨ q = 0 ∨ 0 < q := fun q => by
    rcases Rat.le_total (a := q) (b := 0) with h | h
    · rcases lt_or_eq h with h | h
      · exact .inl h
      · exact .inr (.inl h)
    · rcases lt_or_eq h with h | h
      · exact .inr (.inr h)
      · exact .inr (.inl h.symm)
  have neg' : ∀ q : Rat, q < 0 → ¬ (-q ≤ 0) ∧ ¬ (-q < 0) ∧ q ≤ 0 ∧ q ≠ 0 ∧ -q ≠ 0 := fun q h => by refine ⟨?_, ?_, ?_, ?_, ?_⟩ <;> grind
  have pos' : ∀ q : Rat, 0 < q → (-q ≤ 0) ∧ (-q < 0) ∧ ¬ q ≤ 0 ∧ ¬ q < 0 ∧ q ≠ 0 ∧ -q ≠ 0 := fun q h => by refine ⟨?_, ?_, ?_, ?_, ?_, ?_⟩ <;> grind
  have s0 : ∀ q : Rat, 0 + q = q := fun q => by grind
  have s1 : ∀ q : Rat, q + 0 = q := fun q => by grind
  unfold trim
  rw [n1, n2]
  rcases t3 (g.at e.1) with a | a | a <;> rcases t3 (g.at e.2) with b | b | b
  · obtain ⟨a1, a2, a3, a4, a5⟩ := neg' _ a
    obtain ⟨b1, b2, b3, b4, b5⟩ := neg' _ b
    simp [a1, a2, a3, a4, b2, b3, b1, sm, s0, s1]
  · obtain ⟨a1, a2, a3, a4, a5⟩ := neg' _ a
    simp [a1, a2, a3, a4, b, sm, s0, s1]
  · obtain ⟨a1, a2, a3, a4, a5⟩ := neg' _ a
    obtain ⟨b1, b2, b3, b4, b5, b6⟩ := pos' _ b
    have hne : g.at e.1 ≠ g.at e.2 := by grind
    simp [a1, a2, a, b1, b2, b3, sm, s0, s1, Xn hne]
    exact cut hne
  · obtain ⟨b1, b2, b3, b4, b5⟩ := neg' _ b
    simp [a, b1, b2, b3, b4, sm, s0, s1]
  · simp [a, b, sm, s0, s1]
    exact (ori_on_line hN hp h1 h2 gp a b).symm
  · obtain ⟨b1, b2, b3, b4, b5, b6⟩ := pos' _ b
    simp [a, b1, b2, b3, b4, b5, b6, sm, s0, s1]
  · obtain ⟨b1, b2, b3, b4, b5⟩ := neg' _ b
    obtain ⟨a1, a2, a3, a4, a5, a6⟩ := pos' _ a
    have hne : g.at e.1 ≠ g.at e.2 := by grind
    simp [a1, a2, a3, a4, b, b1, b2, sm, s0, s1, Xn hne]
    have := cut hne
    grind
  · obtain ⟨a1, a2, a3, a4, a5, a6⟩ := pos' _ a
    simp [a1, a2, a3, a4, a5, a6, b, sm, s0, s1]
  · obtain ⟨b1, b2, b3, b4, b5, b6⟩ := pos' _ b
    obtain ⟨a1, a2, a3, a4, a5, a6⟩ := pos' _ a
    simp [a1, a2, a3, a4, a6, b1, b3, b4, sm, s0, s1]
theorem sm_filterMap {α β : Type} (F : β → Rat) (f : α → Option β) (l : List α) : sm F (l.filterMap f) = sm (fun a => sm F (f a).toList) l := by
  induction l with
  | nil => rfl
  | cons a l ih =>
    simp only [List.filterMap_cons, sm]
    cases h : f a with
    | none => simp only [ih, Option.toList, sm]; grind
    | some b => simp only [sm, ih, Option.toList]; grind
theorem part_area {h g : H} {vs : List V} (pv : PV h.n vs) (pl : ∀ v ∈ vs, h.at v = 0) (lo : ∃ v ∈ vs, g.at v < 0) (hi : ∃ v ∈ vs, 0 < g.at v) :
    ar h.n (part g vs) + ar h.n (part (neg g) vs) = ar h.n vs := by
  have P := part_ok pv pl lo
  have Q := part_ok (g := neg g) pv pl (by obtain ⟨v, hv, hg⟩ := hi; exact ⟨v, hv, by rw [neg_at]; grind⟩)
  obtain ⟨v, hv, gv⟩ := lo
  obtain ⟨w, hw, gw⟩ := hi
  obtain ⟨t, _, _, _, _, te⟩ := X_w (g := g) (a := v) (b := w) (Rat.le_of_lt gv) gw
  have gp : g.at (X g v w) = 0 := X_at (by grind)
  have hp : h.at (X g v w) = 0 := lerp_at_zero (pl v hv) (pl w hw)
  have hN : 0 < dot (cross h.n g.n) (cross h.n g.n) := cross_pos (a := v) (w := w) pv.n_ne (by rw [pl v hv, pl w hw]) (by grind)
  generalize X g v w = p at *
  have half : ∀ {f : H} {W : List V}, PartOk h f vs W → (∀ x, f.at x = 0 → g.at x = 0) → ar h.n W = sm (fun e => ori h.n p e.1 e.2) ((edges vs).filterMap (trim f)) := by
    intro f W R hf
    rw [ar_from h.n p, ← sm_perm _ R.off, sm_perm _ (List.filter_append_perm (off f) (edges W)).symm, sm_append]
    have : sm (fun e => ori h.n p e.1 e.2) ((edges W).filter fun e => !off f e) = 0 := by
      have z : ∀ l : List (V × V), (∀ e ∈ l, ori h.n p e.1 e.2 = 0) → sm (fun e => ori h.n p e.1 e.2) l = 0 := by
        intro l
        induction l with
        | nil => intro _; rfl
        | cons e l ih => intro hl; simp only [sm]; rw [hl e (by simp), ih fun e he => hl e (by simp [he])]; grind
      refine z _ fun e he => ?_
      rw [List.mem_filter] at he
      have hz : f.at e.1 = 0 ∧ f.at e.2 = 0 := by simpa [off] using he.2
      exact ori_on_line hN hp (R.pl _ (mem_fst he.1)) (R.pl _ (mem_snd he.1)) gp (hf _ hz.1) (hf _ hz.2)
    rw [this]; grind
  rw [half P fun x h => h, half Q fun x h => by rw [neg_at] at h; grind, sm_filterMap, sm_filterMap, ← sm_add, ar_from h.n p vs]
  exact sm_congr fun e he => trim_add hN hp gp (pl _ (mem_fst he)) (pl _ (mem_snd he))
end Geo
namespace Geo
theorem sm_cut (F : Sd → Rat) (g : H) (c : List Sd) : sm F (cutSides g c) = sm (fun s => if lowB g s.vs = true then F ⟨s.h, part g s.vs⟩ else 0) c := by
  unfold cutSides
  rw [sm_filterMap]
  refine sm_congr fun s _ => ?_
  by_cases h : lowB g s.vs = true
  · simp only [h, if_true, Option.toList, sm]; grind
  · simp only [h, if_false, Option.toList, sm, Bool.false_eq_true]
namespace Spl
variable {c : List Sd} {g : H}
theorem neg (S : Spl c g) : Spl c (neg g) := by
  refine ⟨S.C, ?_, ?_⟩
  · obtain ⟨s, hs, v, hv, gv⟩ := S.hi; exact ⟨s, hs, v, hv, by rw [neg_at]; grind⟩
  · obtain ⟨s, hs, v, hv, gv⟩ := S.lo; exact ⟨s, hs, v, hv, by rw [neg_at]; grind⟩
theorem not_on (S : Spl c g) {s : Sd} (hs : s ∈ c) : lowB g s.vs = true ∨ lowB (Geo.neg g) s.vs = true := by
  apply Classical.byContradiction
  intro hno
  have h0 : ∀ v ∈ s.vs, g.at v = 0 := by
    intro v hv
    have a : ¬ g.at v < 0 := fun h => hno (.inl (lowB_iff.2 ⟨v, hv, h⟩))
    have b : ¬ 0 < g.at v := fun h => hno (.inr (lowB_iff.2 ⟨v, hv, by rw [neg_at]; grind⟩))
    grind
  obtain ⟨k, hk⟩ := mult_of (S.C.pv s hs) (S.C.pl s hs) h0
  obtain ⟨t, ht, v, hv, gv⟩ := S.lo
  obtain ⟨t', ht', v', hv', gv'⟩ := S.hi
  have a := S.C.le s hs t ht v hv
  have b := S.C.le s hs t' ht' v' hv'
  rw [hk] at gv gv'
  have p : 0 < k := by
    apply Rat.not_le.1
    intro h
    have := Rat.mul_nonneg (a := -k) (b := - s.h.at v) (by grind) (by grind)
    grind
  have := Rat.mul_nonneg (Rat.le_of_lt p) (show 0 ≤ - s.h.at v' by grind)
  grind
theorem side_area (S : Spl c g) {s : Sd} (hs : s ∈ c) : (if lowB g s.vs = true then ar s.h.n (part g s.vs) else 0) + (if lowB (Geo.neg g) s.vs = true then ar s.h.n (part (Geo.neg g) s.vs) else 0) = ar s.h.n s.vs := by
  have pv := S.C.pv s hs
  have pl := S.C.pl s hs
  have hi_of : lowB (Geo.neg g) s.vs = true → ∃ v ∈ s.vs, 0 < g.at v := fun h => by
    obtain ⟨v, hv, gv⟩ := lowB_iff.1 h; exact ⟨v, hv, by rw [neg_at] at gv; grind⟩
  by_cases h1 : lowB g s.vs = true <;> by_cases h2 : lowB (Geo.neg g) s.vs = true
  · rw [if_pos h1, if_pos h2]
    exact part_area pv pl (lowB_iff.1 h1) (hi_of h2)
  · rw [if_pos h1, if_neg h2]
    have : part g s.vs = s.vs := part_pos fun x hx => by
      apply Rat.not_lt.1
      intro h
      exact h2 (lowB_iff.2 ⟨x, hx, by rw [neg_at]; grind⟩)
    rw [this]; grind
  · rw [if_neg h1, if_pos h2]
    have : part (Geo.neg g) s.vs = s.vs := part_pos fun x hx => by
      rw [neg_at]
      have : ¬ g.at x < 0 := fun h => h1 (lowB_iff.2 ⟨x, hx, h⟩)
      grind
    rw [this]; grind
  · exact ((S.not_on hs).elim h1 h2).elim
theorem side_any (S : Spl c g) {s : Sd} (hs : s ∈ c) (d : V) : (if lowB g s.vs = true then ar d (part g s.vs) else 0) + (if lowB (Geo.neg g) s.vs = true then ar d (part (Geo.neg g) s.vs) else 0) = ar d s.vs := by
  have pv := S.C.pv s hs
  have pl := S.C.pl s hs
  have hnn := nn_pos pv.n_ne
  have hne : dot s.h.n s.h.n ≠ 0 := by grind
  have e := S.side_area hs
  have a0 := pv.ar_along pl d
  have inj : ∀ a b : Rat, dot s.h.n s.h.n * a = dot s.h.n s.h.n * b → a = b := fun a b h => by
    have : dot s.h.n s.h.n * (a - b) = 0 := by grind
    rcases Rat.mul_eq_zero.1 this with h | h
    · exact absurd h hne
    · grind
  apply inj
  have f1 : dot s.h.n s.h.n * (if lowB g s.vs = true then ar d (part g s.vs) else 0) = dot d s.h.n * (if lowB g s.vs = true then ar s.h.n (part g s.vs) else 0) := by
    by_cases h1 : lowB g s.vs = true
    · rw [if_pos h1, if_pos h1]
      have P := part_ok pv pl (lowB_iff.1 h1)
      exact P.pv.ar_along P.pl d
    · rw [if_neg h1, if_neg h1]; grind
  have f2 : dot s.h.n s.h.n * (if lowB (Geo.neg g) s.vs = true then ar d (part (Geo.neg g) s.vs) else 0) = dot d s.h.n * (if lowB (Geo.neg g) s.vs = true then ar s.h.n (part (Geo.neg g) s.vs) else 0) := by
    by_cases h1 : lowB (Geo.neg g) s.vs = true
    · rw [if_pos h1, if_pos h1]
      have P := part_ok pv pl (lowB_iff.1 h1)
      exact P.pv.ar_along P.pl d
    · rw [if_neg h1, if_neg h1]; grind
  rw [a0, ← e]
  grind
theorem vol_add (S : Spl c g) {cap cap' : List V} (K : Cap g c cap) (K' : Cap (Geo.neg g) c cap') :
    vol6 (cutSides g c ++ [⟨g, cap⟩]) + vol6 (cutSides (Geo.neg g) c ++ [⟨Geo.neg g, cap'⟩]) = vol6 c := by
  have D := S.cell K
  have D' := S.neg.cell K'
  have z1 := sm_ar_closed D.cl g.n
  have z2 := sm_ar_closed D'.cl g.n
  have z0 := sm_ar_closed S.C.cl g.n
  rw [sm_append, sm_cut] at z1 z2
  simp only [sm] at z1 z2
  have zc : sm (fun s => (if lowB g s.vs = true then ar g.n (part g s.vs) else 0) + (if lowB (Geo.neg g) s.vs = true then ar g.n (part (Geo.neg g) s.vs) else 0)) c = 0 := by
    rw [sm_congr (G := fun s => ar g.n s.vs) fun s hs => S.side_any hs g.n]; exact z0
  rw [sm_add] at zc
  have hc : ar g.n cap + ar g.n cap' = 0 := by grind
  unfold vol6
  rw [sm_append, sm_append, sm_cut, sm_cut]
  simp only [sm]
  have hs : sm (fun s => (if lowB g s.vs = true then sh ⟨s.h, part g s.vs⟩ else 0) + (if lowB (Geo.neg g) s.vs = true then sh ⟨s.h, part (Geo.neg g) s.vs⟩ else 0)) c = sm sh c := by
    refine sm_congr fun s hs => ?_
    have e := S.side_area hs
    have k : ∀ vs : List V, sh ⟨s.h, vs⟩ = s.h.d / dot s.h.n s.h.n * ar s.h.n vs := fun vs => by unfold sh; simp only; grind
    have ks : sh s = s.h.d / dot s.h.n s.h.n * ar s.h.n s.vs := by unfold sh; grind
    rw [k, k, ks, ← e]
    by_cases h1 : lowB g s.vs = true <;> by_cases h2 : lowB (Geo.neg g) s.vs = true <;> simp only [h1, h2, if_true, if_false, Bool.false_eq_true] <;> grind
  rw [sm_add] at hs
  have hcap : sh ⟨g, cap⟩ + sh ⟨Geo.neg g, cap'⟩ = 0 := by
    unfold sh
    simp only
    have e1 : ar (Geo.neg g).n cap' = - ar g.n cap' := by show ar ((-1 : Rat) * g.n) cap' = _; rw [ar_lin g.n]; grind
    have e2 : dot (Geo.neg g).n (Geo.neg g).n = dot g.n g.n := by show dot ((-1 : Rat) * g.n) ((-1 : Rat) * g.n) = _; rw [dot_smul_l, dot_smul_r]; grind
    have e3 : (Geo.neg g).d = - g.d := rfl
    rw [e1, e2, e3]
    have : ar g.n cap' = - ar g.n cap := by grind
    rw [this]; grind
  grind
end Spl
namespace Cell
variable {c : List Sd}
theorem mid (x d : V) (t : Rat) : x = lerp (1/2) (x + t * d) (x + (-t) * d) := by
  apply V.ext <;> simp only [lerp, add_x, add_y, add_z, sub_x, sub_y, sub_z, smul_x, smul_y, smul_z] <;> grind
end Cell
end Geo
namespace Geo
theorem plane_rel {n a b c : V} (hn : n ≠ ⟨0, 0, 0⟩) (h1 : dot n a = 0) (h2 : dot n b = 0) (h3 : dot n c = 0) (g : V) :
    dot g a * dot n (cross b c) + dot g b * dot n (cross c a) + dot g c * dot n (cross a b) = 0 := by
  have hd : det a b c = 0 := by
    have e : dot n n * det a b c = dot n a * dot n (cross b c) + dot n b * dot n (cross c a) + dot n c * dot n (cross a b) := by simp only [dot, det, cross]; grind
    rw [h1, h2, h3] at e
    have hnn := nn_pos hn
    rcases Rat.mul_eq_zero.1 (show dot n n * det a b c = 0 by rw [e]; grind) with h | h
    · grind
    · exact h
  have k : dot g a * dot n (cross b c) + dot g b * dot n (cross c a) + dot g c * dot n (cross a b) = dot g n * det a b c := by simp only [dot, det, cross]; grind
  rw [k, hd]; grind
theorem PV.corner {h : H} {vs : List V} (pv : PV h.n vs) (pl : ∀ v ∈ vs, h.at v = 0) {a v b x : V} (ha : (a, v) ∈ edges vs) (hb : (v, b) ∈ edges vs) (hx : h.at x = 0) (o1 : ori h.n a v x = 0) (o2 : ori h.n v b x = 0) : x = v := by
  have hab : a ≠ b := by
    intro h; subst h
    exact two_dirs pv hb ha
  have hva : a ≠ v := pv.ne ha
  have hv := mem_snd ha
  have ho := pv.lf _ hb a (mem_fst ha) hva hab
  simp only at ho hv
  have d1 : dot h.n (b - v) = 0 := by rw [at_sub, pl v hv, pl b (mem_snd hb)]; grind
  have d2 : dot h.n (v - a) = 0 := by rw [at_sub, pl v hv, pl a (mem_fst ha)]; grind
  have d3 : dot h.n (x - v) = 0 := by rw [at_sub, pl v hv, hx]; grind
  have p2 : dot h.n (cross (v - a) (x - v)) = 0 := by
    rw [← o1]; simp only [ori, dot, cross, sub_x, sub_y, sub_z]; grind
  have p3 : dot h.n (cross (v - a) (b - v)) ≠ 0 := by
    have : dot h.n (cross (v - a) (b - v)) = ori h.n v b a := by simp only [ori, dot, cross, sub_x, sub_y, sub_z]; grind
    rw [this]; grind
  have := in_plane d1 d2 d3 pv.n_ne o2 p2 p3
  have hx := congrArg V.x this
  have hy := congrArg V.y this
  have hz := congrArg V.z this
  simp only [sub_x, sub_y, sub_z] at hx hy hz
  exact V.ext (by grind) (by grind) (by grind)
theorem PV.hull {h : H} {vs : List V} (pv : PV h.n vs) (pl : ∀ v ∈ vs, h.at v = 0) {f : H} (hf : ∀ v ∈ vs, f.at v ≤ 0) {x : V} (hx : h.at x = 0) (ho : ∀ e ∈ edges vs, 0 ≤ ori h.n e.1 e.2 x) : f.at x ≤ 0 := by
  apply Rat.not_lt.1
  intro fx
  match hvs : vs, pv.len with
  | v0 :: t, hl =>
    have w : ∀ v ∈ v0 :: t, 0 < (f.at x - f.at v)⁻¹ := fun v hv => Rat.inv_pos.2 (by have := hf v hv; grind)
    have wi : ∀ v ∈ v0 :: t, (f.at x - f.at v) * (f.at x - f.at v)⁻¹ = 1 := fun v hv => Rat.mul_inv_cancel _ (by have := hf v hv; grind)
    let P : V → V := fun v => (f.at x - f.at v)⁻¹ * (v - x)
    have hP : ∀ v ∈ v0 :: t, dot h.n (P v) = 0 := fun v hv => by
      show dot h.n ((f.at x - f.at v)⁻¹ * (v - x)) = 0
      rw [dot_smul_r, at_sub, pl v hv, hx]; grind
    have hg : ∀ v ∈ v0 :: t, dot f.n (P v) = -1 := fun v hv => by
      show dot f.n ((f.at x - f.at v)⁻¹ * (v - x)) = -1
      rw [dot_smul_r, at_sub]
      have := wi v hv
      grind
    let ψ : V → Rat := fun v => dot h.n (cross (P v0) (P v))
    have tel : ∀ e ∈ edges (v0 :: t), dot h.n (cross (P e.1) (P e.2)) = ψ e.2 + - ψ e.1 := by
      intro e he
      have m0 : v0 ∈ v0 :: t := by simp
      have r := plane_rel pv.n_ne (hP v0 m0) (hP _ (mem_fst he)) (hP _ (mem_snd he)) f.n
      rw [hg v0 m0, hg _ (mem_fst he), hg _ (mem_snd he)] at r
      show dot h.n (cross (P e.1) (P e.2)) = dot h.n (cross (P v0) (P e.2)) + - dot h.n (cross (P v0) (P e.1))
      have : dot h.n (cross (P e.2) (P v0)) = - dot h.n (cross (P v0) (P e.2)) := by simp only [dot, cross]; grind
      grind
    have s0 : sm (fun e => dot h.n (cross (P e.1) (P e.2))) (edges (v0 :: t)) = 0 := by
      rw [sm_congr tel, sm_add]
      have a1 := sm_map ψ (fun e : V × V => e.2) (edges (v0 :: t))
      have a2 := sm_map ψ (fun e : V × V => e.1) (edges (v0 :: t))
      rw [sm_perm _ (edges_snd (v0 :: t))] at a1
      rw [edges_fst] at a2
      rw [sm_neg (F := fun e : V × V => - ψ e.1) (G := fun e : V × V => ψ e.1) fun _ _ => rfl, ← a1, ← a2]
      grind
    have val : ∀ e : V × V, dot h.n (cross (P e.1) (P e.2)) = (f.at x - f.at e.1)⁻¹ * (f.at x - f.at e.2)⁻¹ * ori h.n e.1 e.2 x := by
      intro e
      show dot h.n (cross ((f.at x - f.at e.1)⁻¹ * (e.1 - x)) ((f.at x - f.at e.2)⁻¹ * (e.2 - x))) = _
      rw [cross_smul_l, cross_smul_r, dot_smul_r, dot_smul_r]
      have : dot h.n (cross (e.1 - x) (e.2 - x)) = ori h.n e.1 e.2 x := by simp only [ori, dot, cross, sub_x, sub_y, sub_z]; grind
      rw [this]; grind
    have nn : ∀ e ∈ edges (v0 :: t), 0 ≤ dot h.n (cross (P e.1) (P e.2)) := fun e he => by
      rw [val]
      exact Rat.mul_nonneg (Rat.le_of_lt (Rat.mul_pos (w _ (mem_fst he)) (w _ (mem_snd he)))) (ho e he)
    have z : ∀ e ∈ edges (v0 :: t), ori h.n e.1 e.2 x = 0 := by
      intro e he
      have h0 : dot h.n (cross (P e.1) (P e.2)) = 0 := by
        apply Classical.byContradiction
        intro hne
        have hp : 0 < dot h.n (cross (P e.1) (P e.2)) := by
          have := nn e he
          rcases lt_or_eq this with h | h
          · exact h
          · exact absurd h.symm hne
        have := sm_lt (F := fun e => - dot h.n (cross (P e.1) (P e.2))) (l := edges (v0 :: t)) (fun e he => by have := nn e he; grind) he (by grind)
        rw [sm_neg (F := fun e : V × V => - dot h.n (cross (P e.1) (P e.2))) (G := fun e : V × V => dot h.n (cross (P e.1) (P e.2))) fun _ _ => rfl, s0] at this
        grind
      rw [val] at h0
      have := Rat.mul_pos (w _ (mem_fst he)) (w _ (mem_snd he))
      rcases Rat.mul_eq_zero.1 h0 with h | h
      · rw [h] at this; grind
      · exact h
    obtain ⟨b, hb⟩ := has_out (l := v0 :: t) (a := v0) (by simp)
    obtain ⟨a, ha⟩ := has_in (l := v0 :: t) (a := v0) (by simp)
    have := pv.corner pl ha hb hx (z _ ha) (z _ hb)
    have := hf v0 (by simp)
    grind
namespace Cell
variable {c : List Sd}
end Cell
end Geo
namespace Go.Sx
open Geo (H V)
set_option linter.unusedVariables false
def tH (b : Pl) : H := ⟨⟨(b.a : Rat), (b.b : Rat), (b.c : Rat)⟩, (b.d : Rat)⟩
theorem tH_neg (b : Pl) : tH (negP b) = Geo.neg (tH b) := by
  unfold tH negP Geo.neg
  congr 1
  apply V.ext <;> simp only [Geo.smul_x, Geo.smul_y, Geo.smul_z, Rat.intCast_neg] <;> grind
theorem w_ne {p : Pt} (hp : 0 < p.w) : (p.w : Rat) ≠ 0 := by
  have : (0 : Rat) < (p.w : Rat) := Rat.intCast_pos.2 hp
  grind
theorem at_tv (b : Pl) {p : Pt} (hp : 0 < p.w) : (tH b).at (tv p) = (abv b p : Rat) / (p.w : Rat) := by
  have hw := w_ne hp
  have hi : (p.w : Rat) * (p.w : Rat)⁻¹ = 1 := Rat.mul_inv_cancel _ hw
  simp only [H.at, Geo.dot, tH, tv, abv, Rat.intCast_sub, Rat.intCast_add, Rat.intCast_mul, Rat.div_def]
  grind
theorem at_lt (b : Pl) {p : Pt} (hp : 0 < p.w) : (tH b).at (tv p) < 0 ↔ abv b p < 0 := by
  rw [at_tv b hp, Rat.div_lt_iff (Rat.intCast_pos.2 hp), Rat.zero_mul]
  exact Rat.intCast_lt_intCast (b := 0)
theorem at_gt (b : Pl) {p : Pt} (hp : 0 < p.w) : 0 < (tH b).at (tv p) ↔ 0 < abv b p := by
  rw [at_tv b hp, Rat.lt_div_iff (Rat.intCast_pos.2 hp), Rat.zero_mul]
  exact Rat.intCast_lt_intCast (a := 0)
theorem at_eq (b : Pl) {p : Pt} (hp : 0 < p.w) : (tH b).at (tv p) = 0 ↔ abv b p = 0 := by
  have h1 := at_lt b hp
  have h2 := at_gt b hp
  constructor
  · intro h
    have k1 : ¬ abv b p < 0 := fun hh => by have := h1.2 hh; grind
    have k2 : ¬ 0 < abv b p := fun hh => by have := h2.2 hh; grind
    omega
  · intro h
    have k1 : ¬ (tH b).at (tv p) < 0 := fun hh => by have := h1.1 hh; omega
    have k2 : ¬ 0 < (tH b).at (tv p) := fun hh => by have := h2.1 hh; omega
    grind
theorem side_lo {b : Pl} {p : Pt} : sideP b p = -1 ↔ abv b p < 0 := by unfold sideP; rcases sg_cases (abv b p) with ⟨e, h⟩ | ⟨e, h⟩ | ⟨e, h⟩ <;> omega
theorem side_on {b : Pl} {p : Pt} : sideP b p = 0 ↔ abv b p = 0 := by unfold sideP; rcases sg_cases (abv b p) with ⟨e, h⟩ | ⟨e, h⟩ | ⟨e, h⟩ <;> omega
theorem side_hi {b : Pl} {p : Pt} : sideP b p = 1 ↔ 0 < abv b p := by unfold sideP; rcases sg_cases (abv b p) with ⟨e, h⟩ | ⟨e, h⟩ | ⟨e, h⟩ <;> omega
theorem side_neg (b : Pl) (p : Pt) : sideP (negP b) p = - sideP b p := by
  unfold sideP
  rw [abv_neg]
  rcases sg_cases (abv b p) with ⟨e, h⟩ | ⟨e, h⟩ | ⟨e, h⟩ <;> rcases sg_cases (- abv b p) with ⟨e', h'⟩ | ⟨e', h'⟩ | ⟨e', h'⟩ <;> omega
theorem neg_neg_pl (b : Pl) : negP (negP b) = b := by cases b; simp [negP]
theorem opp_iff {b : Pl} {p q : Pt} (hp : 0 < p.w) (hq : 0 < q.w) : sideP b p * sideP b q < 0 ↔ (tH b).at (tv p) * (tH b).at (tv q) < 0 := by
  have p1 := at_lt b hp
  have p2 := at_gt b hp
  have q1 := at_lt b hq
  have q2 := at_gt b hq
  generalize (tH b).at (tv p) = x at *
  generalize (tH b).at (tv q) = y at *
  constructor
  · intro h
    rcases opp h with ⟨h1, h2⟩ | ⟨h1, h2⟩
    · have a1 := p1.2 h1; have a2 := q2.2 h2
      exact (Geo.mul_neg_iff a2).2 a1
    · have a1 := p2.2 h1; have a2 := q1.2 h2
      rw [Rat.mul_comm]; exact (Geo.mul_neg_iff a1).2 a2
  · intro h
    unfold sideP
    rcases sg_cases (abv b p) with ⟨e, h1⟩ | ⟨e, h1⟩ | ⟨e, h1⟩ <;> rcases sg_cases (abv b q) with ⟨e', h2⟩ | ⟨e', h2⟩ | ⟨e', h2⟩ <;> rw [e, e'] <;> first | decide | exfalso
    · exact Geo.mul_np (Rat.le_of_lt (p1.2 h1)) (Rat.le_of_lt (q1.2 h2)) h
    · have : y = 0 := by
        have k1 : ¬ y < 0 := fun hh => by have := q1.1 hh; omega
        have k2 : ¬ 0 < y := fun hh => by have := q2.1 hh; omega
        grind
      rw [this] at h; grind
    · have : x = 0 := by
        have k1 : ¬ x < 0 := fun hh => by have := p1.1 hh; omega
        have k2 : ¬ 0 < x := fun hh => by have := p2.1 hh; omega
        grind
      rw [this] at h; grind
    · have : x = 0 := by
        have k1 : ¬ x < 0 := fun hh => by have := p1.1 hh; omega
        have k2 : ¬ 0 < x := fun hh => by have := p2.1 hh; omega
        grind
      rw [this] at h; grind
    · have : x = 0 := by
        have k1 : ¬ x < 0 := fun hh => by have := p1.1 hh; omega
        have k2 : ¬ 0 < x := fun hh => by have := p2.1 hh; omega
        grind
      rw [this] at h; grind
    · have : y = 0 := by
        have k1 : ¬ y < 0 := fun hh => by have := q1.1 hh; omega
        have k2 : ¬ 0 < y := fun hh => by have := q2.1 hh; omega
        grind
      rw [this] at h; grind
    · exact Geo.mul_pp (Rat.le_of_lt (p2.2 h1)) (Rat.le_of_lt (q2.2 h2)) h
theorem turn_div {x w g : Int} (hg : g ≠ 0) (hw : w ≠ 0) (hx : g ∣ x) (hd : g ∣ w) : (turn w (x / g) : Rat) / (turn w (w / g) : Rat) = (x : Rat) / (w : Rat) := by
  obtain ⟨x', rfl⟩ := hx
  obtain ⟨w', rfl⟩ := hd
  rw [Int.mul_ediv_cancel_left _ hg, Int.mul_ediv_cancel_left _ hg]
  have hw' : w' ≠ 0 := fun h => hw (by rw [h]; simp)
  have a1 : (g : Rat) ≠ 0 := by exact_mod_cast hg
  have a2 : (w' : Rat) ≠ 0 := by exact_mod_cast hw'
  have i1 : (g : Rat) * (g : Rat)⁻¹ = 1 := Rat.mul_inv_cancel _ a1
  have i2 : (w' : Rat) * (w' : Rat)⁻¹ = 1 := Rat.mul_inv_cancel _ a2
  have e : ((g * x' : Int) : Rat) / ((g * w' : Int) : Rat) = (x' : Rat) / (w' : Rat) := by
    rw [Rat.intCast_mul, Rat.intCast_mul]
    grind
  rw [e]
  unfold turn
  split
  · rw [Rat.intCast_neg, Rat.intCast_neg]; grind
  · rfl
theorem tv_nrm {x y z w : Int} (hw : w ≠ 0) : tv (nrm x y z w) = ⟨(x : Rat) / (w : Rat), (y : Rat) / (w : Rat), (z : Rat) / (w : Rat)⟩ := by
  have hz : nz w = w := if_neg hw
  have hp := g4_pos (x := x) (y := y) (z := z) hw
  have hg : (g4 x y z w : Int) ≠ 0 := by omega
  obtain ⟨d1, d2, d3, d4⟩ := g4_dvd x y z w
  unfold nrm tv
  rw [hz]
  apply V.ext
  · exact turn_div hg hw d1 d4
  · exact turn_div hg hw d2 d4
  · exact turn_div hg hw d3 d4
theorem mix {ax aw bx bw A B : Rat} (ha : aw ≠ 0) (hb : bw ≠ 0) (hD : aw * B - bw * A ≠ 0) : (ax * B - bx * A) / (aw * B - bw * A) = ax / aw + (A / aw) / ((A / aw) - (B / bw)) * (bx / bw - ax / aw) := by
  have h1 : A / aw - B / bw ≠ 0 := by
    intro h
    apply hD
    have i1 : aw * aw⁻¹ = 1 := Rat.mul_inv_cancel _ ha
    have i2 : bw * bw⁻¹ = 1 := Rat.mul_inv_cancel _ hb
    rw [Rat.div_def, Rat.div_def] at h
    grind
  grind
theorem meet_tv {b : Pl} {p q : Pt} (hp : 0 < p.w) (hq : 0 < q.w) (h : sideP b p * sideP b q < 0) : tv (meetP b p q) = Geo.X (tH b) (tv p) (tv q) := by
  have hD := opp_w hp hq h
  have hD' : (p.w : Rat) * (abv b q : Rat) - (q.w : Rat) * (abv b p : Rat) ≠ 0 := by
    rw [← Rat.intCast_mul, ← Rat.intCast_mul, ← Rat.intCast_sub]
    exact_mod_cast hD
  unfold meetP
  rw [tv_nrm hD]
  simp only [Rat.intCast_sub, Rat.intCast_mul]
  unfold Geo.X Geo.lerp
  rw [at_tv b hp, at_tv b hq]
  apply V.ext
  · exact mix (w_ne hp) (w_ne hq) hD'
  · exact mix (w_ne hp) (w_ne hq) hD'
  · exact mix (w_ne hp) (w_ne hq) hD'
theorem nrm_neg {x y z w : Int} (hw : w ≠ 0) : nrm (-x) (-y) (-z) (-w) = nrm x y z w := by
  have hz : nz w = w := if_neg hw
  have hz' : nz (-w) = -w := if_neg (by omega)
  have hg : g4 (-x) (-y) (-z) (-w) = g4 x y z w := by unfold g4; simp
  obtain ⟨d1, d2, d3, d4⟩ := g4_dvd x y z w
  have key : ∀ a : Int, (g4 x y z w : Int) ∣ a → turn (-w) (-a / (g4 x y z w : Int)) = turn w (a / (g4 x y z w : Int)) := by
    intro a ha
    rw [Int.neg_ediv_of_dvd ha]
    unfold turn
    split
    · rw [if_neg (by omega)]; omega
    · rw [if_pos (by omega)]
  unfold nrm
  rw [hz, hz', hg, key x d1, key y d2, key z d3, key w d4]
theorem meet_neg {b : Pl} {p q : Pt} (hp : 0 < p.w) (hq : 0 < q.w) (h : sideP b p * sideP b q < 0) : meetP (negP b) p q = meetP b p q := by
  have hD := opp_w hp hq h
  unfold meetP
  rw [abv_neg, abv_neg]
  have e : ∀ x y : Int, x * -abv b q - y * -abv b p = -(x * abv b q - y * abv b p) := fun x y => by
    rw [Int.mul_neg, Int.mul_neg]; omega
  rw [e, e, e, e, nrm_neg hD]
theorem pc_neg {b : Pl} {p q : Pt} (hp : 0 < p.w) (hq : 0 < q.w) : pc 1 b p q = pc (-1) (negP b) p q := by
  unfold pc
  rw [side_neg, side_neg]
  have e : - sideP b p * - sideP b q = sideP b p * sideP b q := Int.neg_mul_neg _ _
  rw [e]
  congr 1
  · by_cases h : sideP b p = -1
    · rw [if_neg (by omega), if_neg (by omega)]
    · rw [if_pos (by omega), if_pos (by omega)]
  · split
    · rename_i h; rw [meet_neg hp hq h]
    · rfl
theorem partI_neg {b : Pl} {vs : List Pt} (h : ∀ v ∈ vs, 0 < v.w) : partI 1 b vs = partI (-1) (negP b) vs := by
  unfold partI
  have key : ∀ l : List (Pt × Pt), (∀ e ∈ l, 0 < e.1.w ∧ 0 < e.2.w) → (l.flatMap fun e => pc 1 b e.1 e.2) = l.flatMap fun e => pc (-1) (negP b) e.1 e.2 := by
    intro l
    induction l with
    | nil => intro _; rfl
    | cons a l ih =>
      intro hl
      obtain ⟨h1, h2⟩ := hl a (by simp)
      rw [List.flatMap_cons, List.flatMap_cons, pc_neg h1 h2, ih fun e he => hl e (by simp [he])]
  exact key _ fun e he => ⟨h _ (Geo.mem_fst he), h _ (Geo.mem_snd he)⟩
theorem someT_neg (b : Pl) (vs : List Pt) (n : Nat) : someT 1 b vs n = someT (-1) (negP b) vs n := by
  unfold someT
  congr 1
  funext v
  rw [side_neg]
  congr 1
  simp only [eq_iff_iff]
  omega
theorem pc_tv {b : Pl} {p q : Pt} (hp : 0 < p.w) (hq : 0 < q.w) : (pc (-1) b p q).map tv = Geo.piece (tH b) (tv p, tv q) := by
  unfold pc Geo.piece
  rw [List.map_append]
  have hgt := at_gt b hp
  congr 1
  · by_cases h : sideP b p = 1
    · have := hgt.2 (side_hi.1 h)
      rw [if_neg (by omega), if_neg (by grind)]
      rfl
    · have : ¬ 0 < (tH b).at (tv p) := fun hh => h (side_hi.2 (hgt.1 hh))
      rw [if_pos (by omega), if_pos (by grind)]
      rfl
  · by_cases h : sideP b p * sideP b q < 0
    · rw [if_pos h, if_pos ((opp_iff hp hq).1 h)]
      simp only [List.map_cons, List.map_nil, meet_tv hp hq h]
    · rw [if_neg h, if_neg (fun hh => h ((opp_iff hp hq).2 hh))]
      rfl
theorem partI_tv {b : Pl} {vs : List Pt} (h : ∀ v ∈ vs, 0 < v.w) : (partI (-1) b vs).map tv = Geo.part (tH b) (vs.map tv) := by
  unfold partI Geo.part
  rw [Geo.edges_map]
  have key : ∀ l : List (Pt × Pt), (∀ e ∈ l, 0 < e.1.w ∧ 0 < e.2.w) → (l.flatMap fun e => pc (-1) b e.1 e.2).map tv = (l.map fun e => (tv e.1, tv e.2)).flatMap (Geo.piece (tH b)) := by
    intro l
    induction l with
    | nil => intro _; rfl
    | cons a l ih =>
      intro hl
      obtain ⟨h1, h2⟩ := hl a (by simp)
      rw [List.flatMap_cons, List.map_append, List.map_cons, List.flatMap_cons, pc_tv h1 h2, ih fun e he => hl e (by simp [he])]
  exact key _ fun e he => ⟨h _ (Geo.mem_fst he), h _ (Geo.mem_snd he)⟩
theorem partI_can {h : Int} {b : Pl} {vs : List Pt} (hc : ∀ v ∈ vs, CanP v) : ∀ v ∈ partI h b vs, CanP v := by
  intro v hv
  unfold partI at hv
  obtain ⟨e, he, hv⟩ := List.mem_flatMap.1 hv
  unfold pc at hv
  rcases List.mem_append.1 hv with hv | hv
  · split at hv
    · obtain rfl : v = e.1 := by simpa using hv
      exact hc _ (Geo.mem_fst he)
    · simp at hv
  · split at hv
    · obtain rfl : v = _ := by simpa using hv
      exact meet_can _ _ _
    · simp at hv
theorem some_low {b : Pl} {vs : List Pt} (h : ∀ v ∈ vs, 0 < v.w) : someT (-1) b vs vs.length = Geo.lowB (tH b) (vs.map tv) := by
  unfold someT Geo.lowB
  rw [List.take_length, List.any_map]
  apply Bool.eq_iff_iff.2
  simp only [List.any_eq_true, Function.comp, decide_eq_true_eq]
  constructor
  · rintro ⟨v, hv, e⟩; exact ⟨v, hv, (at_lt b (h v hv)).2 (side_lo.1 e)⟩
  · rintro ⟨v, hv, e⟩; exact ⟨v, hv, side_lo.2 ((at_lt b (h v hv)).1 e)⟩
end Go.Sx
