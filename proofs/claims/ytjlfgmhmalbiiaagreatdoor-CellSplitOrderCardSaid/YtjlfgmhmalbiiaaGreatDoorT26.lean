import Derived.Test.YtjlfgmhmalbiiaaGreatDoorT20
import Derived.Test.YtjlfgmhmalbiiaaGreatDoorT22
import Derived.Test.YtjlfgmhmalbiiaaGreatDoorT25
set_option linter.all false
namespace Geo
theorem plane_rel {n a b c : V} (hn : n ≠ ⟨0, 0, 0⟩) (h1 : dot n a = 0) (h2 : dot n b = 0) (h3 : dot n c = 0) (g : V) :
  dot g a * dot n (cross b c) + dot g b * dot n (cross c a) + dot g c * dot n (cross a b) = 0 := by
 have hd : det a b c = 0 := by
  have e : dot n n * det a b c = dot n a * dot n (cross b c) + dot n b * dot n (cross c a) + dot n c * dot n (cross a b) := by simp only [dot, det, cross]; grind
  rw [h1, h2, h3] at e
  have hnn := nn_pos hn
  rcases Rat.mul_eq_zero.1 (show dot n n * det a b c = 0 by rw [e]; grind) with h | h
  ·grind
  ·exact h
 have k : dot g a * dot n (cross b c) + dot g b * dot n (cross c a) + dot g c * dot n (cross a b) = dot g n * det a b c := by simp only [dot, det, cross]; grind
 rw [k, hd]; grind
theorem PV.corner {h : H} {vs : List V} (pv : PV h.n vs) (pl : ∀ v ∈ vs, h.at v = 0) {a v b x : V} (ha : (a, v) ∈ edges vs) (hb : (v, b) ∈ edges vs) (hx : h.at x = 0) (o1 : ori h.n a v x = 0) (o2 : ori h.n v b x = 0) : x = v := by
 have hab : a ≠ b := by
  intro h; subst h
  exact two_dirs pv hb ha
 have hva : a ≠ v := pv.ne ha
 have hv := mem_snd ha
 have ho := pv.lf _ hb a (mem_fst ha) hva hab
 simp only at ho hv
 have d1 : dot h.n (b - v) = 0 := by rw [at_sub, pl v hv, pl b (mem_snd hb)]; grind
 have d2 : dot h.n (v - a) = 0 := by rw [at_sub, pl v hv, pl a (mem_fst ha)]; grind
 have d3 : dot h.n (x - v) = 0 := by rw [at_sub, pl v hv, hx]; grind
 have p2 : dot h.n (cross (v - a) (x - v)) = 0 := by
  rw [← o1]; simp only [ori, dot, cross, sub_x, sub_y, sub_z]; grind
 have p3 : dot h.n (cross (v - a) (b - v)) ≠ 0 := by
  have : dot h.n (cross (v - a) (b - v)) = ori h.n v b a := by simp only [ori, dot, cross, sub_x, sub_y, sub_z]; grind
  rw [this]; grind
 have := in_plane d1 d2 d3 pv.n_ne o2 p2 p3
 have hx := congrArg V.x this
 have hy := congrArg V.y this
 have hz := congrArg V.z this
 simp only [sub_x, sub_y, sub_z] at hx hy hz
 exact V.ext (by grind) (by grind) (by grind)
theorem PV.hull {h : H} {vs : List V} (pv : PV h.n vs) (pl : ∀ v ∈ vs, h.at v = 0) {f : H} (hf : ∀ v ∈ vs, f.at v ≤ 0) {x : V} (hx : h.at x = 0) (ho : ∀ e ∈ edges vs, 0 ≤ ori h.n e.1 e.2 x) : f.at x ≤ 0 := by
 apply Rat.not_lt.1
 intro fx
 match hvs : vs, pv.len with
 | v0 :: t, hl =>
  have w : ∀ v ∈ v0 :: t, 0 < (f.at x - f.at v)⁻¹ := fun v hv => Rat.inv_pos.2 (by have := hf v hv; grind)
  have wi : ∀ v ∈ v0 :: t, (f.at x - f.at v) * (f.at x - f.at v)⁻¹ = 1 := fun v hv => Rat.mul_inv_cancel _ (by have := hf v hv; grind)
  let P : V → V := fun v => (f.at x - f.at v)⁻¹ * (v - x)
  have hP : ∀ v ∈ v0 :: t, dot h.n (P v) = 0 := fun v hv => by
   show dot h.n ((f.at x - f.at v)⁻¹ * (v - x)) = 0
   rw [dot_smul_r, at_sub, pl v hv, hx]; grind
  have hg : ∀ v ∈ v0 :: t, dot f.n (P v) = -1 := fun v hv => by
   show dot f.n ((f.at x - f.at v)⁻¹ * (v - x)) = -1
   rw [dot_smul_r, at_sub]
   have := wi v hv
   grind
  let ψ : V → Rat := fun v => dot h.n (cross (P v0) (P v))
  have tel : ∀ e ∈ edges (v0 :: t), dot h.n (cross (P e.1) (P e.2)) = ψ e.2 + - ψ e.1 := by
   intro e he
   have m0 : v0 ∈ v0 :: t := by simp
   have r := plane_rel pv.n_ne (hP v0 m0) (hP _ (mem_fst he)) (hP _ (mem_snd he)) f.n
   rw [hg v0 m0, hg _ (mem_fst he), hg _ (mem_snd he)] at r
   show dot h.n (cross (P e.1) (P e.2)) = dot h.n (cross (P v0) (P e.2)) + - dot h.n (cross (P v0) (P e.1))
   have : dot h.n (cross (P e.2) (P v0)) = - dot h.n (cross (P v0) (P e.2)) := by simp only [dot, cross]; grind
   grind
  have s0 : sm (fun e => dot h.n (cross (P e.1) (P e.2))) (edges (v0 :: t)) = 0 := by
   rw [sm_congr tel, sm_add]
   have a1 := sm_map ψ (fun e : V × V => e.2) (edges (v0 :: t))
   have a2 := sm_map ψ (fun e : V × V => e.1) (edges (v0 :: t))
   rw [sm_perm _ (edges_snd (v0 :: t))] at a1
   rw [edges_fst] at a2
   rw [sm_neg (F := fun e : V × V => - ψ e.1) (G := fun e : V × V => ψ e.1) fun _ _ => rfl, ← a1, ← a2]
   grind
  have val : ∀ e : V × V, dot h.n (cross (P e.1) (P e.2)) = (f.at x - f.at e.1)⁻¹ * (f.at x - f.at e.2)⁻¹ * ori h.n e.1 e.2 x := by
   intro e
   show dot h.n (cross ((f.at x - f.at e.1)⁻¹ * (e.1 - x)) ((f.at x - f.at e.2)⁻¹ * (e.2 - x))) = _
   rw [cross_smul_l, cross_smul_r, dot_smul_r, dot_smul_r]
   have : dot h.n (cross (e.1 - x) (e.2 - x)) = ori h.n e.1 e.2 x := by simp only [ori, dot, cross, sub_x, sub_y, sub_z]; grind
   rw [this]; grind
  have nn : ∀ e ∈ edges (v0 :: t), 0 ≤ dot h.n (cross (P e.1) (P e.2)) := fun e he => by
   rw [val]
   exact Rat.mul_nonneg (Rat.le_of_lt (Rat.mul_pos (w _ (mem_fst he)) (w _ (mem_snd he)))) (ho e he)
  have z : ∀ e ∈ edges (v0 :: t), ori h.n e.1 e.2 x = 0 := by
   intro e he
   have h0 : dot h.n (cross (P e.1) (P e.2)) = 0 := by
    apply Classical.byContradiction
    intro hne
    have hp : 0 < dot h.n (cross (P e.1) (P e.2)) := by
     have := nn e he
     rcases lt_or_eq this with h | h
     ·exact h
     ·exact absurd h.symm hne
    have := sm_lt (F := fun e => - dot h.n (cross (P e.1) (P e.2))) (l := edges (v0 :: t)) (fun e he => by have := nn e he; grind) he (by grind)
    rw [sm_neg (F := fun e : V × V => - dot h.n (cross (P e.1) (P e.2))) (G := fun e : V × V => dot h.n (cross (P e.1) (P e.2))) fun _ _ => rfl, s0] at this
    grind
   rw [val] at h0
   have := Rat.mul_pos (w _ (mem_fst he)) (w _ (mem_snd he))
   rcases Rat.mul_eq_zero.1 h0 with h | h
   ·rw [h] at this; grind
   ·exact h
  obtain ⟨b, hb⟩ := has_out (l := v0 :: t) (a := v0) (by simp)
  obtain ⟨a, ha⟩ := has_in (l := v0 :: t) (a := v0) (by simp)
  have := pv.corner pl ha hb hx (z _ ha) (z _ hb)
  have := hf v0 (by simp)
  grind
namespace Cell
variable {c : List Sd}
theorem poly_cl (C : Cell c) {s : Sd} (hs : s ∈ c) {x : V} (h0 : s.h.at x = 0) (ho : ∀ e ∈ edges s.vs, 0 ≤ ori s.h.n e.1 e.2 x) : Cl c x :=
 fun t ht => (C.pv s hs).hull (C.pl s hs) (fun v hv => C.le t ht s hs v hv) h0 ho
theorem ext_not {x d : V} (hx : Ext c x) (hd : d ≠ ⟨0, 0, 0⟩) (h : ∃ t : Rat, 0 < t ∧ Cl c (x + t * d) ∧ Cl c (x + (-t) * d)) : False := by
 obtain ⟨t, t0, h1, h2⟩ := h
 obtain ⟨e, _⟩ := hx.2 _ _ (1/2) (by grind) (by grind) h1 h2 (mid x d t)
 have ex := congrArg V.x e
 have ey := congrArg V.y e
 have ez := congrArg V.z e
 simp only [add_x, add_y, add_z, smul_x, smul_y, smul_z] at ex ey ez
 have z : ∀ q : Rat, t * q = 0 → q = 0 := fun q hq => by
  rcases Rat.mul_eq_zero.1 hq with h | h
  ·grind
  ·exact h
 exact hd (V.ext (z _ (by grind)) (z _ (by grind)) (z _ (by grind)))
theorem ext_vert (C : Cell c) {x : V} (hx : Ext c x) : ∃ s ∈ c, x ∈ s.vs := by
 obtain ⟨s, hs, h0⟩ : ∃ s ∈ c, s.h.at x = 0 := by
  apply Classical.byContradiction
  intro hno
  have hin : ∀ s ∈ c, s.h.at x < 0 := fun s hs => by
   rcases lt_or_eq (hx.1 s hs) with h | h
   ·exact h
   ·exact absurd ⟨s, hs, h⟩ hno
  exact ext_not hx (d := ⟨1, 0, 0⟩) (by intro h; have := congrArg V.x h; simp at this) (both_ways fun s hs => .inl (hin s hs))
 have pv := C.pv s hs
 have pl := C.pl s hs
 have ho : ∀ e ∈ edges s.vs, 0 ≤ ori s.h.n e.1 e.2 x := fun e he => C.face hs he hx.1 h0
 by_cases hz : ∃ e ∈ edges s.vs, ori s.h.n e.1 e.2 x = 0
 ·obtain ⟨e, he, oz⟩ := hz
  obtain ⟨t, ht, hne, hte, k, hk, hf⟩ := C.beside hs he
  have tx : t.h.at x = 0 := by
   have := hf x h0
   rw [oz] at this
   rcases Rat.mul_eq_zero.1 this.symm with h | h
   ·grind
   ·grind
  have s1 := pl _ (mem_fst he)
  have s2 := pl _ (mem_snd he)
  have t1 := C.pl t ht _ (mem_snd hte)
  have t2 := C.pl t ht _ (mem_fst hte)
  obtain ⟨w, hw, gw⟩ := C.low ht hs (Ne.symm hne)
  have hN : 0 < dot (cross s.h.n t.h.n) (cross s.h.n t.h.n) := cross_pos (a := e.1) (w := w) pv.n_ne (by rw [s1, pl w hw]) (by rw [show t.h.at e.1 = 0 from t1]; grind)
  by_cases n1 : x = e.1
  ·exact ⟨s, hs, n1 ▸ mem_fst he⟩
  by_cases n2 : x = e.2
  ·exact ⟨s, hs, n2 ▸ mem_snd he⟩
  exfalso
  have ord : ∀ {p q : V}, s.h.at p = 0 → s.h.at q = 0 → t.h.at p = 0 → t.h.at q = 0 → p ≠ q → dot p (cross s.h.n t.h.n) < dot q (cross s.h.n t.h.n) ∨ dot q (cross s.h.n t.h.n) < dot p (cross s.h.n t.h.n) := by
   intro p q hp hq gp gq hne
   rcases Rat.le_total (a := dot p (cross s.h.n t.h.n)) (b := dot q (cross s.h.n t.h.n)) with h | h
   ·rcases lt_or_eq h with h | h
    ·exact .inl h
    ·exact absurd (phi_inj hN hp hq gp gq h) hne
   ·rcases lt_or_eq h with h | h
    ·exact .inr h
    ·exact absurd (phi_inj hN hp hq gp gq h.symm) hne
  have c1 := C.cl_vert hs (mem_fst he)
  have c2 := C.cl_vert hs (mem_snd he)
  have m1 := C.vert_ext hs (mem_fst he)
  have m2 := C.vert_ext hs (mem_snd he)
  have use : ∀ {p q m : V}, Ext c m → s.h.at p = 0 → s.h.at q = 0 → s.h.at m = 0 → t.h.at p = 0 → t.h.at q = 0 → t.h.at m = 0 → Cl c p → Cl c q → p ≠ m → dot p (cross s.h.n t.h.n) < dot m (cross s.h.n t.h.n) → dot m (cross s.h.n t.h.n) < dot q (cross s.h.n t.h.n) → False := by
   intro p q m hm hp hq hm0 gp gq gm cp cq hne h1 h2
   obtain ⟨τ, τ0, τ1, e⟩ := between hN hp hq gp gq hm0 gm h1 h2
   exact hne (hm.2 p q τ τ0 τ1 cp cq e).1
  rcases ord s1 s2 t1 t2 (pv.ne he) with ab | ab <;> rcases ord s1 h0 t1 tx (Ne.symm n1) with ax | ax <;> rcases ord s2 h0 t2 tx (Ne.symm n2) with bx | bx
  ·exact use m2 s1 h0 s2 t1 tx t2 c1 hx.1 (pv.ne he) ab bx
  ·exact use hx s1 s2 h0 t1 t2 tx c1 c2 (Ne.symm n1) ax bx
  ·exact lt3 ab bx ax
  ·exact use m1 h0 s2 s1 tx t2 t1 hx.1 c2 n1 ax ab
  ·exact use m1 s2 h0 s1 t2 tx t1 c2 hx.1 (Ne.symm (pv.ne he)) ab ax
  ·exact lt3 ab ax bx
  ·exact use hx s2 s1 h0 t2 t1 tx c2 c1 (Ne.symm n2) bx ax
  ·exact use m2 h0 s1 s2 tx t1 t2 hx.1 c1 n2 bx ab
 ·
  exfalso
  have hpos : ∀ e ∈ edges s.vs, 0 < ori s.h.n e.1 e.2 x := fun e he => by
   rcases lt_or_eq (ho e he) with h | h
   ·exact h
   ·exact absurd ⟨e, he, h.symm⟩ hz
  obtain ⟨e, he⟩ : ∃ e, e ∈ edges s.vs := by
   match hv : s.vs, pv.len with
   | a :: r, _ => exact ⟨_, (has_out (l := a :: r) (a := a) (by simp)).choose_spec⟩
  let d := e.2 - e.1
  have hd : d ≠ ⟨0, 0, 0⟩ := by
   intro h
   have ex := congrArg V.x h
   have ey := congrArg V.y h
   have ez := congrArg V.z h
   simp only [d, sub_x, sub_y, sub_z] at ex ey ez
   exact pv.ne he (V.ext (by grind) (by grind) (by grind))
  have hdn : dot s.h.n d = 0 := by show dot s.h.n (e.2 - e.1) = 0; rw [at_sub, pl _ (mem_fst he), pl _ (mem_snd he)]; grind
  let L : List Sd := (edges s.vs).map fun e => ⟨⟨(-1 : Rat) * cross s.h.n (e.2 - e.1), - dot (cross s.h.n (e.2 - e.1)) e.1⟩, []⟩
  have hL : ∀ e : V × V, ∀ y : V, (⟨(-1 : Rat) * cross s.h.n (e.2 - e.1), - dot (cross s.h.n (e.2 - e.1)) e.1⟩ : H).at y = - ori s.h.n e.1 e.2 y := by
   intro e y; simp only [H.at, ori, dot, cross, sub_x, sub_y, sub_z, smul_x, smul_y, smul_z]; grind
  obtain ⟨t, t0, h1, h2⟩ := both_ways (l := L) (x := x) (d := d) fun u hu => by
   obtain ⟨e', he', rfl⟩ := List.mem_map.1 hu
   left
   rw [hL]
   have := hpos e' he'
   grind
  refine ext_not hx hd ⟨t, t0, C.poly_cl hs (by rw [at_move, h0, hdn]; grind) fun e' he' => ?_, C.poly_cl hs (by rw [at_move, h0, hdn]; grind) fun e' he' => ?_⟩
  ·have := h1 _ (List.mem_map.2 ⟨e', he', rfl⟩)
   rw [hL] at this; grind
  ·have := h2 _ (List.mem_map.2 ⟨e', he', rfl⟩)
   rw [hL] at this; grind
end Cell
end Geo
namespace Go.Sx
open Geo (H V)
set_option linter.unusedVariables false
def tH (b : Pl) : H := ⟨⟨(b.a : Rat), (b.b : Rat), (b.c : Rat)⟩, (b.d : Rat)⟩
theorem tH_neg (b : Pl) : tH (negP b) = Geo.neg (tH b) := by
 unfold tH negP Geo.neg
 congr 1
 apply V.ext <;> simp only [Geo.smul_x, Geo.smul_y, Geo.smul_z, Rat.intCast_neg] <;> grind
theorem w_ne {p : Pt} (hp : 0 < p.w) : (p.w : Rat) ≠ 0 := by
 have : (0 : Rat) < (p.w : Rat) := Rat.intCast_pos.2 hp
 grind
theorem at_tv (b : Pl) {p : Pt} (hp : 0 < p.w) : (tH b).at (tv p) = (abv b p : Rat) / (p.w : Rat) := by
 have hw := w_ne hp
 have hi : (p.w : Rat) * (p.w : Rat)⁻¹ = 1 := Rat.mul_inv_cancel _ hw
 simp only [H.at, Geo.dot, tH, tv, abv, Rat.intCast_sub, Rat.intCast_add, Rat.intCast_mul, Rat.div_def]
 grind
theorem at_lt (b : Pl) {p : Pt} (hp : 0 < p.w) : (tH b).at (tv p) < 0 ↔ abv b p < 0 := by
 rw [at_tv b hp, Rat.div_lt_iff (Rat.intCast_pos.2 hp), Rat.zero_mul]
 exact Rat.intCast_lt_intCast (b := 0)
theorem at_gt (b : Pl) {p : Pt} (hp : 0 < p.w) : 0 < (tH b).at (tv p) ↔ 0 < abv b p := by
 rw [at_tv b hp, Rat.lt_div_iff (Rat.intCast_pos.2 hp), Rat.zero_mul]
 exact Rat.intCast_lt_intCast (a := 0)
theorem at_eq (b : Pl) {p : Pt} (hp : 0 < p.w) : (tH b).at (tv p) = 0 ↔ abv b p = 0 := by
 have h1 := at_lt b hp
 have h2 := at_gt b hp
 constructor
 ·intro h
  have k1 : ¬ abv b p < 0 := fun hh => by have := h1.2 hh; grind
  have k2 : ¬ 0 < abv b p := fun hh => by have := h2.2 hh; grind
  omega
 ·intro h
  have k1 : ¬ (tH b).at (tv p) < 0 := fun hh => by have := h1.1 hh; omega
  have k2 : ¬ 0 < (tH b).at (tv p) := fun hh => by have := h2.1 hh; omega
  grind
theorem side_lo {b : Pl} {p : Pt} : sideP b p = -1 ↔ abv b p < 0 := by unfold sideP; rcases sg_cases (abv b p) with ⟨e, h⟩ | ⟨e, h⟩ | ⟨e, h⟩ <;> omega
theorem side_on {b : Pl} {p : Pt} : sideP b p = 0 ↔ abv b p = 0 := by unfold sideP; rcases sg_cases (abv b p) with ⟨e, h⟩ | ⟨e, h⟩ | ⟨e, h⟩ <;> omega
theorem side_hi {b : Pl} {p : Pt} : sideP b p = 1 ↔ 0 < abv b p := by unfold sideP; rcases sg_cases (abv b p) with ⟨e, h⟩ | ⟨e, h⟩ | ⟨e, h⟩ <;> omega
theorem side_neg (b : Pl) (p : Pt) : sideP (negP b) p = - sideP b p := by
 unfold sideP
 rw [abv_neg]
 rcases sg_cases (abv b p) with ⟨e, h⟩ | ⟨e, h⟩ | ⟨e, h⟩ <;> rcases sg_cases (- abv b p) with ⟨e', h'⟩ | ⟨e', h'⟩ | ⟨e', h'⟩ <;> omega
theorem neg_neg_pl (b : Pl) : negP (negP b) = b := by cases b; simp [negP]
theorem opp_iff {b : Pl} {p q : Pt} (hp : 0 < p.w) (hq : 0 < q.w) : sideP b p * sideP b q < 0 ↔ (tH b).at (tv p) * (tH b).at (tv q) < 0 := by
 have p1 := at_lt b hp
 have p2 := at_gt b hp
 have q1 := at_lt b hq
 have q2 := at_gt b hq
 generalize (tH b).at (tv p) = x at *
 generalize (tH b).at (tv q) = y at *
 constructor
 ·intro h
  rcases opp h with ⟨h1, h2⟩ | ⟨h1, h2⟩
  ·have a1 := p1.2 h1; have a2 := q2.2 h2
   exact (Geo.mul_neg_iff a2).2 a1
  ·have a1 := p2.2 h1; have a2 := q1.2 h2
   rw [Rat.mul_comm]; exact (Geo.mul_neg_iff a1).2 a2
 ·intro h
  unfold sideP
  rcases sg_cases (abv b p) with ⟨e, h1⟩ | ⟨e, h1⟩ | ⟨e, h1⟩ <;> rcases sg_cases (abv b q) with ⟨e', h2⟩ | ⟨e', h2⟩ | ⟨e', h2⟩ <;> rw [e, e'] <;> first | decide | exfalso
  ·exact Geo.mul_np (Rat.le_of_lt (p1.2 h1)) (Rat.le_of_lt (q1.2 h2)) h
  ·have : y = 0 := by
    have k1 : ¬ y < 0 := fun hh => by have := q1.1 hh; omega
    have k2 : ¬ 0 < y := fun hh => by have := q2.1 hh; omega
    grind
   rw [this] at h; grind
  ·have : x = 0 := by
    have k1 : ¬ x < 0 := fun hh => by have := p1.1 hh; omega
    have k2 : ¬ 0 < x := fun hh => by have := p2.1 hh; omega
    grind
   rw [this] at h; grind
  ·have : x = 0 := by
    have k1 : ¬ x < 0 := fun hh => by have := p1.1 hh; omega
    have k2 : ¬ 0 < x := fun hh => by have := p2.1 hh; omega
    grind
   rw [this] at h; grind
  ·have : x = 0 := by
    have k1 : ¬ x < 0 := fun hh => by have := p1.1 hh; omega
    have k2 : ¬ 0 < x := fun hh => by have := p2.1 hh; omega
    grind
   rw [this] at h; grind
  ·have : y = 0 := by
    have k1 : ¬ y < 0 := fun hh => by have := q1.1 hh; omega
    have k2 : ¬ 0 < y := fun hh => by have := q2.1 hh; omega
    grind
   rw [this] at h; grind
  ·exact Geo.mul_pp (Rat.le_of_lt (p2.2 h1)) (Rat.le_of_lt (q2.2 h2)) h
theorem turn_div {x w g : Int} (hg : g ≠ 0) (hw : w ≠ 0) (hx : g ∣ x) (hd : g ∣ w) : (turn w (x / g) : Rat) / (turn w (w / g) : Rat) = (x : Rat) / (w : Rat) := by
 obtain ⟨x', rfl⟩ := hx
 obtain ⟨w', rfl⟩ := hd
 rw [Int.mul_ediv_cancel_left _ hg, Int.mul_ediv_cancel_left _ hg]
 have hw' : w' ≠ 0 := fun h => hw (by rw [h]; simp)
 have a1 : (g : Rat) ≠ 0 := by exact_mod_cast hg
 have a2 : (w' : Rat) ≠ 0 := by exact_mod_cast hw'
 have i1 : (g : Rat) * (g : Rat)⁻¹ = 1 := Rat.mul_inv_cancel _ a1
 have i2 : (w' : Rat) * (w' : Rat)⁻¹ = 1 := Rat.mul_inv_cancel _ a2
 have e : ((g * x' : Int) : Rat) / ((g * w' : Int) : Rat) = (x' : Rat) / (w' : Rat) := by
  rw [Rat.intCast_mul, Rat.intCast_mul]
  grind
 rw [e]
 unfold turn
 split
 ·rw [Rat.intCast_neg, Rat.intCast_neg]; grind
 ·rfl
theorem tv_nrm {x y z w : Int} (hw : w ≠ 0) : tv (nrm x y z w) = ⟨(x : Rat) / (w : Rat), (y : Rat) / (w : Rat), (z : Rat) / (w : Rat)⟩ := by
 have hz : nz w = w := if_neg hw
 have hp := g4_pos (x := x) (y := y) (z := z) hw
 have hg : (g4 x y z w : Int) ≠ 0 := by omega
 obtain ⟨d1, d2, d3, d4⟩ := g4_dvd x y z w
 unfold nrm tv
 rw [hz]
 apply V.ext
 ·exact turn_div hg hw d1 d4
 ·exact turn_div hg hw d2 d4
 ·exact turn_div hg hw d3 d4
theorem mix {ax aw bx bw A B : Rat} (ha : aw ≠ 0) (hb : bw ≠ 0) (hD : aw * B - bw * A ≠ 0) : (ax * B - bx * A) / (aw * B - bw * A) = ax / aw + (A / aw) / ((A / aw) - (B / bw)) * (bx / bw - ax / aw) := by
 have h1 : A / aw - B / bw ≠ 0 := by
  intro h
  apply hD
  have i1 : aw * aw⁻¹ = 1 := Rat.mul_inv_cancel _ ha
  have i2 : bw * bw⁻¹ = 1 := Rat.mul_inv_cancel _ hb
  rw [Rat.div_def, Rat.div_def] at h
  grind
 grind
theorem meet_tv {b : Pl} {p q : Pt} (hp : 0 < p.w) (hq : 0 < q.w) (h : sideP b p * sideP b q < 0) : tv (meetP b p q) = Geo.X (tH b) (tv p) (tv q) := by
 have hD := opp_w hp hq h
 have hD' : (p.w : Rat) * (abv b q : Rat) - (q.w : Rat) * (abv b p : Rat) ≠ 0 := by
  rw [← Rat.intCast_mul, ← Rat.intCast_mul, ← Rat.intCast_sub]
  exact_mod_cast hD
 unfold meetP
 rw [tv_nrm hD]
 simp only [Rat.intCast_sub, Rat.intCast_mul]
 unfold Geo.X Geo.lerp
 rw [at_tv b hp, at_tv b hq]
 apply V.ext
 ·exact mix (w_ne hp) (w_ne hq) hD'
 ·exact mix (w_ne hp) (w_ne hq) hD'
 ·exact mix (w_ne hp) (w_ne hq) hD'
theorem nrm_neg {x y z w : Int} (hw : w ≠ 0) : nrm (-x) (-y) (-z) (-w) = nrm x y z w := by
 have hz : nz w = w := if_neg hw
 have hz' : nz (-w) = -w := if_neg (by omega)
 have hg : g4 (-x) (-y) (-z) (-w) = g4 x y z w := by unfold g4; simp
 obtain ⟨d1, d2, d3, d4⟩ := g4_dvd x y z w
 have key : ∀ a : Int, (g4 x y z w : Int) ∣ a → turn (-w) (-a / (g4 x y z w : Int)) = turn w (a / (g4 x y z w : Int)) := by
  intro a ha
  rw [Int.neg_ediv_of_dvd ha]
  unfold turn
  split
  ·rw [if_neg (by omega)]; omega
  ·rw [if_pos (by omega)]
 unfold nrm
 rw [hz, hz', hg, key x d1, key y d2, key z d3, key w d4]
theorem meet_neg {b : Pl} {p q : Pt} (hp : 0 < p.w) (hq : 0 < q.w) (h : sideP b p * sideP b q < 0) : meetP (negP b) p q = meetP b p q := by
 have hD := opp_w hp hq h
 unfold meetP
 rw [abv_neg, abv_neg]
 have e : ∀ x y : Int, x * -abv b q - y * -abv b p = -(x * abv b q - y * abv b p) := fun x y => by
  rw [Int.mul_neg, Int.mul_neg]; omega
 rw [e, e, e, e, nrm_neg hD]
theorem pc_neg {b : Pl} {p q : Pt} (hp : 0 < p.w) (hq : 0 < q.w) : pc 1 b p q = pc (-1) (negP b) p q := by
 unfold pc
 rw [side_neg, side_neg]
 have e : - sideP b p * - sideP b q = sideP b p * sideP b q := Int.neg_mul_neg _ _
 rw [e]
 congr 1
 ·by_cases h : sideP b p = -1
  ·rw [if_neg (by omega), if_neg (by omega)]
  ·rw [if_pos (by omega), if_pos (by omega)]
 ·split
  ·rename_i h; rw [meet_neg hp hq h]
  ·rfl
theorem partI_neg {b : Pl} {vs : List Pt} (h : ∀ v ∈ vs, 0 < v.w) : partI 1 b vs = partI (-1) (negP b) vs := by
 unfold partI
 have key : ∀ l : List (Pt × Pt), (∀ e ∈ l, 0 < e.1.w ∧ 0 < e.2.w) → (l.flatMap fun e => pc 1 b e.1 e.2) = l.flatMap fun e => pc (-1) (negP b) e.1 e.2 := by
  intro l
  induction l with
  | nil => intro _; rfl
  | cons a l ih =>
   intro hl
   obtain ⟨h1, h2⟩ := hl a (by simp)
   rw [List.flatMap_cons, List.flatMap_cons, pc_neg h1 h2, ih fun e he => hl e (by simp [he])]
 exact key _ fun e he => ⟨h _ (Geo.mem_fst he), h _ (Geo.mem_snd he)⟩
theorem someT_neg (b : Pl) (vs : List Pt) (n : Nat) : someT 1 b vs n = someT (-1) (negP b) vs n := by
 unfold someT
 congr 1
 funext v
 rw [side_neg]
 congr 1
 simp only [eq_iff_iff]
 omega
theorem pc_tv {b : Pl} {p q : Pt} (hp : 0 < p.w) (hq : 0 < q.w) : (pc (-1) b p q).map tv = Geo.piece (tH b) (tv p, tv q) := by
 unfold pc Geo.piece
 rw [List.map_append]
 have hgt := at_gt b hp
 congr 1
 ·by_cases h : sideP b p = 1
  ·have := hgt.2 (side_hi.1 h)
   rw [if_neg (by omega), if_neg (by grind)]
   rfl
  ·have : ¬ 0 < (tH b).at (tv p) := fun hh => h (side_hi.2 (hgt.1 hh))
   rw [if_pos (by omega), if_pos (by grind)]
   rfl
 ·by_cases h : sideP b p * sideP b q < 0
  ·rw [if_pos h, if_pos ((opp_iff hp hq).1 h)]
   simp only [List.map_cons, List.map_nil, meet_tv hp hq h]
  ·rw [if_neg h, if_neg (fun hh => h ((opp_iff hp hq).2 hh))]
   rfl
theorem partI_tv {b : Pl} {vs : List Pt} (h : ∀ v ∈ vs, 0 < v.w) : (partI (-1) b vs).map tv = Geo.part (tH b) (vs.map tv) := by
 unfold partI Geo.part
 rw [Geo.edges_map]
 have key : ∀ l : List (Pt × Pt), (∀ e ∈ l, 0 < e.1.w ∧ 0 < e.2.w) → (l.flatMap fun e => pc (-1) b e.1 e.2).map tv = (l.map fun e => (tv e.1, tv e.2)).flatMap (Geo.piece (tH b)) := by
  intro l
  induction l with
  | nil => intro _; rfl
  | cons a l ih =>
   intro hl
   obtain ⟨h1, h2⟩ := hl a (by simp)
   rw [List.flatMap_cons, List.map_append, List.map_cons, List.flatMap_cons, pc_tv h1 h2, ih fun e he => hl e (by simp [he])]
 exact key _ fun e he => ⟨h _ (Geo.mem_fst he), h _ (Geo.mem_snd he)⟩
theorem partI_can {h : Int} {b : Pl} {vs : List Pt} (hc : ∀ v ∈ vs, CanP v) : ∀ v ∈ partI h b vs, CanP v := by
 intro v hv
 unfold partI at hv
 obtain ⟨e, he, hv⟩ := List.mem_flatMap.1 hv
 unfold pc at hv
 rcases List.mem_append.1 hv with hv | hv
 ·split at hv
  ·obtain rfl : v = e.1 := by simpa using hv
   exact hc _ (Geo.mem_fst he)
  ·simp at hv
 ·split at hv
  ·obtain rfl : v = _ := by simpa using hv
   exact meet_can _ _ _
  ·simp at hv
theorem some_low {b : Pl} {vs : List Pt} (h : ∀ v ∈ vs, 0 < v.w) : someT (-1) b vs vs.length = Geo.lowB (tH b) (vs.map tv) := by
 unfold someT Geo.lowB
 rw [List.take_length, List.any_map]
 apply Bool.eq_iff_iff.2
 simp only [List.any_eq_true, Function.comp, decide_eq_true_eq]
 constructor
 ·rintro ⟨v, hv, e⟩; exact ⟨v, hv, (at_lt b (h v hv)).2 (side_lo.1 e)⟩
 ·rintro ⟨v, hv, e⟩; exact ⟨v, hv, side_lo.2 ((at_lt b (h v hv)).1 e)⟩
end Go.Sx
namespace Go.Sx
open Geo (H V Sd)
set_option linter.unusedVariables false
abbrev PCell := List (Pl × List Pt)
def sd (s : Pl × List Pt) : Sd := ⟨tH s.1, s.2.map tv⟩
def sds (l : PCell) : List Sd := l.map sd
def bh (b : Pl) (l : PCell) : PCell := l.filterMap fun s => if someT (-1) b s.2 s.2.length then some (s.1, partI (-1) b s.2) else none
def bcell (b : Pl) (l : PCell) : PCell := bh b l ++ [(b, capP b (bh b l))]
def frontB (b : Pl) (l : PCell) : Bool := l.any fun s => s.2.any fun v => decide (0 < sideP b v)
def behindB (b : Pl) (l : PCell) : Bool := l.any fun s => s.2.any fun v => decide (sideP b v < 0)
def splitP (b : Pl) (l : PCell) : PCell × PCell := if frontB b l = false then (l, []) else if behindB b l = false then ([], l) else (bcell b l, bcell (negP b) l)
structure CanC (l : PCell) : Prop where
 can : ∀ s ∈ l, ∀ v ∈ s.2, CanP v
structure CellOK (l : PCell) : Prop extends CanC l where
 cell : Geo.Cell (sds l)
theorem CanC.w {l : PCell} (h : CanC l) {s : Pl × List Pt} (hs : s ∈ l) : ∀ v ∈ s.2, 0 < v.w := fun v hv => (h.can s hs v hv).w
theorem bh_can {b : Pl} {l : PCell} (h : CanC l) : CanC (bh b l) := by
 refine ⟨fun s hs => ?_⟩
 obtain ⟨t, ht, e⟩ := List.mem_filterMap.1 hs
 split at e
 ·obtain rfl := Option.some.inj e
  exact partI_can (h.can t ht)
 ·contradiction
theorem bh_sds {b : Pl} {l : PCell} (h : CanC l) : sds (bh b l) = Geo.cutSides (tH b) (sds l) := by
 unfold sds bh Geo.cutSides
 rw [List.map_filterMap, List.filterMap_map]
 induction l with
 | nil => rfl
 | cons s l ih =>
  have hs := h.w (s := s) (by simp)
  have e : Option.map sd (if someT (-1) b s.2 s.2.length = true then some (s.1, partI (-1) b s.2) else none) = ((fun s => if Geo.lowB (tH b) s.vs = true then some (⟨s.h, Geo.part (tH b) s.vs⟩ : Sd) else none) ∘ sd) s := by
   simp only [Function.comp, sd]
   rw [some_low hs]
   by_cases hl : Geo.lowB (tH b) (s.2.map tv) = true
   ·rw [if_pos hl]
    refine Eq.trans ?_ (if_pos hl).symm
    simp only [Option.map_some, sd, partI_tv hs]
   ·rw [if_neg hl]
    exact (if_neg hl).symm
  rw [List.filterMap_cons, List.filterMap_cons, e, ih ⟨fun t ht => h.can t (by simp [ht])⟩]
def tv2 (e : Pt × Pt) : V × V := (tv e.1, tv e.2)
def esP (l : PCell) : List (Pt × Pt) := l.flatMap fun s => Geo.edges s.2
def onE (b : Pl) (e : Pt × Pt) : Bool := decide (sideP b e.1 = 0 ∧ sideP b e.2 = 0)
theorem E_sds (l : PCell) : Geo.E (sds l) = (esP l).map tv2 := by
 unfold Geo.E sds esP
 rw [List.flatMap_map, List.map_flatMap]
 congr 1
 funext s
 exact Geo.edges_map tv s.2
theorem foldS_es (b : Pl) (l : PCell) : foldS b l = foldE b ([], P0) (esP l) := by
 unfold foldS esP
 generalize (([], P0) : MS) = s
 induction l generalizing s with
 | nil => rfl
 | cons x l ih => simp only [List.foldl_cons, List.flatMap_cons, foldE, List.foldl_append] at ih ⊢; exact ih _
theorem fold_filter (b : Pl) (es : List (Pt × Pt)) (s : MS) : foldE b s es = foldE b s (es.filter (onE b)) := by
 induction es generalizing s with
 | nil => rfl
 | cons e es ih =>
  rw [List.filter_cons]
  by_cases h : onE b e = true
  ·rw [if_pos h]; exact ih _
  ·rw [if_neg h]
   have : stepE b s e = s := by
    unfold stepE
    rw [if_neg (fun hh => h (by unfold onE; exact decide_eq_true hh))]
   show foldE b (stepE b s e) es = _
   rw [this]; exact ih _
theorem fold_put {b : Pl} : ∀ (he : List (Pt × Pt)) (m : List (Pt × Pt)) (f : Pt), (∀ e ∈ he, onE b e = true) → (m.map (·.1) ++ he.map (·.2)).Nodup →
  (foldE b (m, f) he).1 = m ++ he.map Geo.sw ∧ (he ≠ [] → (foldE b (m, f) he).2 ∈ he.map (·.2)) := by
 intro he
 induction he with
 | nil => intro m f _ _; exact ⟨by simp [foldE], fun h => absurd rfl h⟩
 | cons e he ih =>
  intro m f hon hnd
  have h1 : stepE b (m, f) e = (m ++ [(e.2, e.1)], e.2) := by
   have := of_decide_eq_true (hon e (by simp))
   unfold stepE putPP
   rw [if_pos this, if_neg]
   intro hm
   rw [List.nodup_append] at hnd
   exact hnd.2.2 _ hm e.2 (by simp) rfl
  obtain ⟨k1, k2⟩ := ih (m ++ [(e.2, e.1)]) e.2 (fun x hx => hon x (by simp [hx])) (by simpa using hnd)
  have h2 : foldE b (m, f) (e :: he) = foldE b (m ++ [(e.2, e.1)], e.2) he := by
   show foldE b (stepE b (m, f) e) he = _
   rw [h1]
  rw [h2]
  refine ⟨by rw [k1]; simp [Geo.sw], fun _ => ?_⟩
  by_cases hne : he = []
  ·subst hne; simp [foldE]
  ·simp only [List.map_cons, List.mem_cons]; exact .inr (k2 hne)
theorem find_key {m : List (Pt × Pt)} (hn : (m.map (·.1)).Nodup) {e : Pt × Pt} (he : e ∈ m) : nxP m e.1 = e.2 := by
 unfold nxP findPP
 cases hq : m.find? fun x => decide (x.1 = e.1) with
 | none => have := List.find?_eq_none.1 hq e he; simp at this
 | some x =>
  have h1 := List.mem_of_find?_eq_some hq
  have h2 : x.1 = e.1 := by have := List.find?_some hq; simpa using this
  have := Geo.inj_of_nodup_map hn h1 he h2
  rw [this]; rfl
theorem on_tv {b : Pl} {e : Pt × Pt} (h1 : 0 < e.1.w) (h2 : 0 < e.2.w) : onE b e = !Geo.off (tH b) (tv2 e) := by
 unfold onE Geo.off tv2
 rw [Bool.eq_iff_iff]
 simp only [decide_eq_true_eq, Bool.not_eq_true', decide_eq_false_iff_not, Classical.not_not]
 rw [at_eq b h1, at_eq b h2, side_on, side_on]
theorem es_w {l : PCell} (h : CanC l) : ∀ e ∈ esP l, CanP e.1 ∧ CanP e.2 := by
 intro e he
 obtain ⟨s, hs, he⟩ := List.mem_flatMap.1 he
 exact ⟨h.can s hs _ (Geo.mem_fst he), h.can s hs _ (Geo.mem_snd he)⟩
def heP (b : Pl) (l : PCell) : List (Pt × Pt) := (esP (bh b l)).filter (onE b)
structure CapF (b : Pl) (l : PCell) : Prop where
 ne : heP b l ≠ []
 nd : ((heP b l).map (·.2)).Nodup
 io : ∀ e ∈ heP b l, e.1 ∈ (heP b l).map (·.2)
 le : (heP b l).length ≤ (bh b l).length
 nx : ∀ e ∈ heP b l, nxP ((heP b l).map Geo.sw) e.2 = e.1
 run : ∀ f ∈ (heP b l).map (·.2), Geo.Spl.Cap (tH b) (sds l) ((runP' (nxP ((heP b l).map Geo.sw)) (heP b l).length f).map tv) ∧ ∀ v ∈ runP' (nxP ((heP b l).map Geo.sw)) (heP b l).length f, CanP v
 cap : (foldS b (bh b l)).1 = (heP b l).map Geo.sw ∧ (foldS b (bh b l)).2 ∈ (heP b l).map (·.2)
 hHE : Geo.HE (tH b) (sds l) = (heP b l).map tv2
theorem capF_of {b : Pl} {l : PCell} (h : CellOK l) (hS : Geo.Spl (sds l) (tH b)) : CapF b l := by
 have hk := bh_can (b := b) h.toCanC
 have hw := es_w hk
 generalize hhe : heP b l = he
 have hHE : Geo.HE (tH b) (sds l) = he.map tv2 := by
  subst hhe
  unfold Geo.HE heP
  rw [← bh_sds h.toCanC, E_sds, List.filter_map]
  congr 1
  apply List.filter_congr
  intro e hh
  rw [on_tv (hw e hh).1.w (hw e hh).2.w]
  rfl
 have hcan : ∀ e ∈ he, CanP e.1 ∧ CanP e.2 := fun e hh => hw e (List.mem_filter.1 (by subst hhe; exact hh)).1
 have hon : ∀ e ∈ he, onE b e = true := fun e hh => (List.mem_filter.1 (by subst hhe; exact hh)).2
 have hcy := hS.cyc
 have hnd0 : (((Geo.HE (tH b) (sds l)).map Geo.sw).map (·.1)).Nodup := hcy.nd
 have hnd : (he.map (·.2)).Nodup := by
  rw [hHE] at hnd0
  have : ((he.map tv2).map Geo.sw).map (·.1) = (he.map (·.2)).map tv := by
   rw [List.map_map, List.map_map, List.map_map]; rfl
  rw [this] at hnd0
  exact Geo.nodup_of_map hnd0
 have hio : ∀ e ∈ he, e.1 ∈ he.map (·.2) := by
  intro e hh
  have h1 := hcy.io
  rw [hHE, List.map_map, List.map_map, List.map_map, List.map_map] at h1
  have h2 : tv e.1 ∈ he.map ((fun x => x.2) ∘ Geo.sw ∘ tv2) := List.mem_map.2 ⟨e, hh, rfl⟩
  obtain ⟨e', he', q⟩ := List.mem_map.1 (h1.mem_iff.2 h2)
  have : e'.2 = e.1 := tv_inj (hcan e' he').2 (hcan e hh).1 q
  exact List.mem_map.2 ⟨e', he', this⟩
 obtain ⟨f1, f2⟩ := fold_put (b := b) he [] P0 hon (by simpa using hnd)
 have hne : he ≠ [] := fun e => by have := hS.HE_ne; rw [hHE, e] at this; exact this rfl
 have f3 := f2 hne
 have hfold : foldS b (bh b l) = foldE b ([], P0) he := by rw [foldS_es, fold_filter]; subst hhe; rfl
 have hkeys : ((he.map Geo.sw).map (·.1)).Nodup := by rw [List.map_map]; exact hnd
 have hnx : ∀ e ∈ he, nxP (he.map Geo.sw) e.2 = e.1 := fun e hh => find_key (e := Geo.sw e) hkeys (List.mem_map_of_mem hh)
 let nx : V → V := fun v => (((he.map tv2).find? fun e => decide (e.2 = v)).map (·.1)).getD v
 have hnxV : ∀ e ∈ he, nx (tv e.2) = tv e.1 := by
  intro e hh
  have hndV : ((he.map tv2).map (·.2)).Nodup := by
   rw [hHE] at hnd0
   rw [List.map_map] at hnd0 ⊢
   rw [List.map_map] at hnd0
   exact hnd0
  show (((he.map tv2).find? fun x => decide (x.2 = tv e.2)).map (·.1)).getD (tv e.2) = tv e.1
  cases hq : (he.map tv2).find? fun x => decide (x.2 = tv e.2) with
  | none => have := List.find?_eq_none.1 hq (tv2 e) (List.mem_map_of_mem hh); simp [tv2] at this
  | some x =>
   have h1 := List.mem_of_find?_eq_some hq
   have h2 : x.2 = (tv2 e).2 := by have := List.find?_some hq; exact of_decide_eq_true this
   have := Geo.inj_of_nodup_map hndV h1 (List.mem_map_of_mem hh) h2
   rw [this]; rfl
 have hrun : ∀ (n : Nat) (x : Pt), x ∈ he.map (·.2) → (runP' (nxP (he.map Geo.sw)) n x).map tv = Geo.iter nx n (tv x) ∧ ∀ v ∈ runP' (nxP (he.map Geo.sw)) n x, CanP v := by
  intro n
  induction n with
  | zero => intro x _; exact ⟨rfl, fun v hv => by simp [runP'] at hv⟩
  | succ n ih =>
   intro x hx
   obtain ⟨e, hh, rfl⟩ := List.mem_map.1 hx
   have h1 := hnx e hh
   obtain ⟨i1, i2⟩ := ih e.1 (hio e hh)
   rw [runP', h1]
   refine ⟨?_, fun v hv => ?_⟩
   ·rw [List.map_cons, i1, Geo.iter, hnxV e hh]
   ·rcases List.mem_cons.1 hv with rfl | hv
    ·exact (hcan e hh).2
    ·exact i2 v hv
 have hle : he.length ≤ (bh b l).length := by
  have := hS.HE_le
  rw [hHE, ← bh_sds h.toCanC] at this
  simpa [sds] using this
 subst hhe
 refine ⟨hne, hnd, hio, hle, hnx, fun f hf => ?_, by rw [hfold]; exact ⟨by simpa using f1, f3⟩, hHE⟩
 obtain ⟨r1, r2⟩ := hrun (heP b l).length f hf
 refine ⟨?_, r2⟩
 rw [r1]
 have hlen : (heP b l).length = (Geo.HE (tH b) (sds l)).length := by rw [hHE]; simp
 rw [hlen]
 refine hS.cap_of (nx := nx) (fun e hh => ?_) ?_
 ·rw [hHE] at hh
  obtain ⟨e0, hh0, rfl⟩ := List.mem_map.1 hh
  exact hnxV e0 hh0
 ·rw [hHE, List.map_map]
  obtain ⟨e, hh, rfl⟩ := List.mem_map.1 hf
  exact List.mem_map.2 ⟨e, hh, rfl⟩
theorem CapF.ex {b : Pl} {l : PCell} (C : CapF b l) : ∃ f ∈ (heP b l).map (·.2), capP b (bh b l) = runP' (nxP ((heP b l).map Geo.sw)) (heP b l).length f := by
 refine ⟨_, C.cap.2, ?_⟩
 unfold capP
 rw [C.cap.1, List.length_map]
theorem cap_ok3 {b : Pl} {l : PCell} (h : CellOK l) (hS : Geo.Spl (sds l) (tH b)) : Geo.Spl.Cap (tH b) (sds l) ((capP b (bh b l)).map tv) ∧ (∀ v ∈ capP b (bh b l), CanP v) ∧ (capP b (bh b l)).length ≤ (bh b l).length ∧ (foldS b (bh b l)).1.length ≤ (bh b l).length := by
 have C := capF_of h hS
 obtain ⟨f, hf, e⟩ := C.ex
 rw [e, C.cap.1]
 exact ⟨(C.run f hf).1, (C.run f hf).2, by rw [runP'_length]; exact C.le, by rw [List.length_map]; exact C.le⟩
theorem cap_ok {b : Pl} {l : PCell} (h : CellOK l) (hS : Geo.Spl (sds l) (tH b)) : Geo.Spl.Cap (tH b) (sds l) ((capP b (bh b l)).map tv) ∧ ∀ v ∈ capP b (bh b l), CanP v := ⟨(cap_ok3 h hS).1, (cap_ok3 h hS).2.1⟩
theorem sds_b {b : Pl} {l : PCell} (h : CanC l) : sds (bcell b l) = Geo.cutSides (tH b) (sds l) ++ [⟨tH b, (capP b (bh b l)).map tv⟩] := by
 unfold bcell
 show (bh b l ++ [(b, capP b (bh b l))]).map sd = _
 rw [List.map_append]
 show sds (bh b l) ++ _ = _
 rw [bh_sds h]
 rfl
theorem spl_of {b : Pl} {l : PCell} (h : CellOK l) (hf : frontB b l = true) (hb : behindB b l = true) : Geo.Spl (sds l) (tH b) := by
 refine ⟨h.cell, ?_, ?_⟩
 ·unfold behindB at hb
  obtain ⟨s, hs, hb⟩ := List.any_eq_true.1 hb
  obtain ⟨v, hv, hb⟩ := List.any_eq_true.1 hb
  refine ⟨sd s, List.mem_map_of_mem hs, tv v, List.mem_map_of_mem hv, (at_lt b (h.w hs v hv)).2 ?_⟩
  have := of_decide_eq_true hb
  unfold sideP at this
  exact sg_neg.1 this
 ·unfold frontB at hf
  obtain ⟨s, hs, hf⟩ := List.any_eq_true.1 hf
  obtain ⟨v, hv, hf⟩ := List.any_eq_true.1 hf
  refine ⟨sd s, List.mem_map_of_mem hs, tv v, List.mem_map_of_mem hv, (at_gt b (h.w hs v hv)).2 ?_⟩
  have := of_decide_eq_true hf
  unfold sideP at this
  exact sg_pos.1 this
theorem bcell_ok {b : Pl} {l : PCell} (h : CellOK l) (hS : Geo.Spl (sds l) (tH b)) : CellOK (bcell b l) := by
 obtain ⟨K, hc⟩ := cap_ok h hS
 refine ⟨⟨fun s hs => ?_⟩, ?_⟩
 ·rcases List.mem_append.1 hs with hs | hs
  ·exact (bh_can h.toCanC).can s hs
  ·obtain rfl : s = _ := by simpa using hs
   exact hc
 ·rw [sds_b h.toCanC]
  exact hS.cell K
theorem front_neg (b : Pl) (l : PCell) : frontB (negP b) l = behindB b l := by
 unfold frontB behindB
 congr 1; funext s; congr 1; funext v
 rw [side_neg]
 congr 1
 simp only [eq_iff_iff]; omega
theorem behind_neg (b : Pl) (l : PCell) : behindB (negP b) l = frontB b l := by
 unfold frontB behindB
 congr 1; funext s; congr 1; funext v
 rw [side_neg]
 congr 1
 simp only [eq_iff_iff]; omega
theorem split_ok {b : Pl} {l : PCell} (h : CellOK l) : ((splitP b l).1 = [] ∨ CellOK (splitP b l).1) ∧ ((splitP b l).2 = [] ∨ CellOK (splitP b l).2) := by
 unfold splitP
 by_cases hf : frontB b l = false
 ·rw [if_pos hf]; exact ⟨.inr h, .inl rfl⟩
 ·rw [if_neg hf]
  by_cases hb : behindB b l = false
  ·rw [if_pos hb]; exact ⟨.inl rfl, .inr h⟩
  ·rw [if_neg hb]
   have hf' : frontB b l = true := by simpa using hf
   have hb' : behindB b l = true := by simpa using hb
   refine ⟨.inr (bcell_ok h (spl_of h hf' hb')), .inr (bcell_ok h (spl_of h (by rw [front_neg]; exact hb') (by rw [behind_neg]; exact hf')))⟩
theorem cell_off {b : Pl} {l : PCell} (h : CellOK l) (hn : (tH b).n ≠ ⟨0, 0, 0⟩) : frontB b l = true ∨ behindB b l = true := by
 by_cases hf : frontB b l = true
 ·exact .inl hf
 ·right
  by_cases hb : behindB b l = true
  ·exact hb
  ·exfalso
   have hz : ∀ s ∈ sds l, ∀ v ∈ s.vs, (tH b).at v = 0 := by
    intro s hs v hv
    obtain ⟨s0, hs0, rfl⟩ := List.mem_map.1 hs
    obtain ⟨v0, hv0, rfl⟩ := List.mem_map.1 hv
    rw [at_eq b (h.w hs0 v0 hv0)]
    have h1 : ¬ 0 < sideP b v0 := fun hh => hf (List.any_eq_true.2 ⟨s0, hs0, List.any_eq_true.2 ⟨v0, hv0, decide_eq_true hh⟩⟩)
    have h2 : ¬ sideP b v0 < 0 := fun hh => hb (List.any_eq_true.2 ⟨s0, hs0, List.any_eq_true.2 ⟨v0, hv0, decide_eq_true hh⟩⟩)
    unfold sideP at h1 h2
    have h3 : ¬ 0 < abv b v0 := fun hh => h1 (sg_pos.2 hh)
    have h4 : ¬ abv b v0 < 0 := fun hh => h2 (sg_neg.2 hh)
    omega
   obtain ⟨m, hm⟩ := h.cell.exists_inn
   have c1 : ∀ y, Geo.Inn (sds l) y → (tH b).at y ≤ 0 := fun y hy => h.cell.hull (fun s hs v hv => by rw [hz s hs v hv]; exact Rat.le_refl) fun t ht => Rat.le_of_lt (hy t ht)
   have c2 : ∀ y, Geo.Inn (sds l) y → (Geo.neg (tH b)).at y ≤ 0 := fun y hy => h.cell.hull (fun s hs v hv => by rw [Geo.neg_at, hz s hs v hv]; decide) fun t ht => Rat.le_of_lt (hy t ht)
   have n2 : (Geo.neg (tH b)).n ≠ ⟨0, 0, 0⟩ := fun e => hn (by
    have ex := congrArg V.x e
    have ey := congrArg V.y e
    have ez := congrArg V.z e
    simp only [Geo.neg, Geo.smul_x, Geo.smul_y, Geo.smul_z] at ex ey ez
    apply V.ext <;> simp only <;> grind)
   have d1 := Geo.inner_neg hm hn c1
   have d2 := Geo.inner_neg hm n2 c2
   rw [Geo.neg_at] at d2
   grind
end Go.Sx
namespace Go.Sx
open Geo (H V Sd)
set_option linter.unusedVariables false
def crA (a : V) (e : V × V) : V := Geo.cross (e.1 - a) (e.2 - a)
def areaL (a : V) (es : List (V × V)) : V := es.foldl (fun s e => s + crA a e) ⟨0, 0, 0⟩
def hd (vs : List Pt) : V := match vs with | [] => ⟨0, 0, 0⟩ | v :: _ => tv v
def areaP (vs : List Pt) : V := ⟨(areaL (hd vs) (Geo.edges (vs.map tv))).x / 2, (areaL (hd vs) (Geo.edges (vs.map tv))).y / 2, (areaL (hd vs) (Geo.edges (vs.map tv))).z / 2⟩
def volS (s : Rat) (x : Pl × List Pt) : Rat := if x.2 = [] then s else s + (areaP x.2).x * (hd x.2).x + (areaP x.2).y * (hd x.2).y + (areaP x.2).z * (hd x.2).z
def volP (l : PCell) : Rat := l.foldl volS 0 / 3
theorem split_flip {b : Pl} {l : PCell} (h : frontB b l = true ∨ behindB b l = true) : splitP (negP b) l = ((splitP b l).2, (splitP b l).1) := by
 unfold splitP
 rw [front_neg, behind_neg, neg_neg_pl]
 cases hf : frontB b l <;> cases hb : behindB b l <;> simp_all
end Go.Sx
