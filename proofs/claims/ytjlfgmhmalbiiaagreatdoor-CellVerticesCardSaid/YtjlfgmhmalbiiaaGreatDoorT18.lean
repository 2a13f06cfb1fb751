import Derived.Test.YtjlfgmhmalbiiaaGreatDoorT17
set_option linter.all false
namespace Geo
variable {α β : Type}
def path : List α → List (α × α)
 | [] => []
 | [_] => []
 | a :: b :: t => (a, b) :: path (b :: t)
def edges : List α → List (α × α)
 | [] => []
 | x :: t => path (x :: t ++ [x])
theorem path_join (l : List α) (m : α) (r : List α) : path (l ++ m :: r) = path (l ++ [m]) ++ path (m :: r) := by
 induction l with
 | nil => simp [path]
 | cons a l ih => cases l with
  | nil => simp [path]
  | cons b l => simpa [path] using ih
theorem edges_append (a b : α) (A B : List α) : edges (a :: A ++ b :: B) = path (a :: A ++ [b]) ++ path (b :: B ++ [a]) := by
 have := path_join (a :: A) b (B ++ [a])
 simpa [edges] using this
theorem edges_rot (A B : List α) : (edges (A ++ B)).Perm (edges (B ++ A)) := by
 cases A with
 | nil => simp
 | cons a A => cases B with
  | nil => simp
  | cons b B => rw [edges_append, edges_append]; exact List.perm_append_comm
theorem path_fst (l : List α) (x : α) : (path (l ++ [x])).map (·.1) = l := by
 induction l with
 | nil => rfl
 | cons a l ih => cases l with
  | nil => rfl
  | cons b l => simpa [path] using ih
theorem path_snd (x : α) (l : List α) : (path (x :: l)).map (·.2) = l := by
 induction l generalizing x with
 | nil => rfl
 | cons a l ih => simpa [path] using ih a
theorem edges_fst (l : List α) : (edges l).map (·.1) = l := by
 cases l with
 | nil => rfl
 | cons x t => exact path_fst (x :: t) x
theorem edges_snd (l : List α) : ((edges l).map (·.2)).Perm l := by
 cases l with
 | nil => exact List.Perm.refl _
 | cons x t =>
  show ((path (x :: (t ++ [x]))).map (·.2)).Perm _
  rw [path_snd]
  exact List.perm_append_singleton x t
theorem edges_length (l : List α) : (edges l).length = l.length := by
 have := congrArg List.length (edges_fst l); simpa using this
theorem mem_fst {l : List α} {e : α × α} (h : e ∈ edges l) : e.1 ∈ l := by
 have := List.mem_map_of_mem (f := (·.1)) h; rwa [edges_fst] at this
theorem mem_snd {l : List α} {e : α × α} (h : e ∈ edges l) : e.2 ∈ l :=
 (edges_snd l).mem_iff.1 (List.mem_map_of_mem (f := (·.2)) h)
theorem has_out {l : List α} {a : α} (h : a ∈ l) : ∃ b, (a, b) ∈ edges l := by
 rw [← edges_fst l] at h
 obtain ⟨e, he, rfl⟩ := List.mem_map.1 h
 exact ⟨e.2, he⟩
theorem has_in {l : List α} {a : α} (h : a ∈ l) : ∃ b, (b, a) ∈ edges l := by
 have h := (edges_snd l).mem_iff.2 h
 obtain ⟨e, he, rfl⟩ := List.mem_map.1 h
 exact ⟨e.1, he⟩
theorem inj_of_nodup_map {f : α → β} {l : List α} (h : (l.map f).Nodup) {a b : α} (ha : a ∈ l) (hb : b ∈ l) (e : f a = f b) : a = b := by
 induction l with
 | nil => simp at ha
 | cons x l ih =>
  simp only [List.map_cons, List.nodup_cons, List.mem_map, not_exists, not_and] at h
  rcases List.mem_cons.1 ha with ea | ma <;> rcases List.mem_cons.1 hb with eb | mb
  ·rw [ea, eb]
  ·exact absurd (by rw [← e, ea]) (h.1 _ mb)
  ·exact absurd (by rw [e, eb]) (h.1 _ ma)
  ·exact ih h.2 ma mb
theorem out_unique {l : List α} (h : l.Nodup) {a b c : α} (h1 : (a, b) ∈ edges l) (h2 : (a, c) ∈ edges l) : b = c := by
 have := inj_of_nodup_map (f := (·.1)) (by rw [edges_fst]; exact h) h1 h2 rfl
 exact congrArg (·.2) this
theorem nodup_of_map {f : α → β} {l : List α} (h : (l.map f).Nodup) : l.Nodup := by
 induction l with
 | nil => simp
 | cons x l ih =>
  simp only [List.map_cons, List.nodup_cons, List.mem_map, not_exists, not_and] at h ⊢
  exact ⟨fun hx => h.1 x hx rfl, ih h.2⟩
theorem edges_nodup {l : List α} (h : l.Nodup) : (edges l).Nodup := by
 have : ((edges l).map (·.1)).Nodup := by rw [edges_fst]; exact h
 exact nodup_of_map this
theorem path_map (f : α → β) (l : List α) : path (l.map f) = (path l).map (fun e => (f e.1, f e.2)) := by
 induction l with
 | nil => rfl
 | cons a l ih => cases l with
  | nil => rfl
  | cons b l => simpa [path] using ih
theorem edges_map (f : α → β) (l : List α) : edges (l.map f) = (edges l).map (fun e => (f e.1, f e.2)) := by
 cases l with
 | nil => rfl
 | cons a l => have := path_map f (a :: l ++ [a]); simpa [edges] using this
theorem path_mem_of_split (A : List α) (x y : α) (B : List α) : (x, y) ∈ path (A ++ x :: y :: B) := by
 rw [path_join]; simp [path]
theorem path_split {l : List α} {e : α × α} (h : e ∈ path l) : ∃ A B, l = A ++ e.1 :: e.2 :: B := by
 induction l with
 | nil => simp [path] at h
 | cons a l ih => cases l with
  | nil => simp [path] at h
  | cons b l =>
   simp only [path, List.mem_cons] at h
   rcases h with rfl | h
   ·exact ⟨[], l, rfl⟩
   ·obtain ⟨A, B, hAB⟩ := ih h
    exact ⟨a :: A, B, by rw [hAB]; rfl⟩
theorem edges_ne {l : List α} (h : l.Nodup) (h2 : 2 ≤ l.length) {e : α × α} (he : e ∈ edges l) : e.1 ≠ e.2 := by
 intro heq
 match l, h, h2, he with
 | x :: y :: t, h, _, he =>
  obtain ⟨A, B, hAB⟩ := path_split (l := x :: y :: t ++ [x]) he
  rw [← heq] at hAB
  rcases List.eq_nil_or_concat B with rfl | ⟨B', b, rfl⟩
  ·have h1 : x :: y :: t = A ++ [e.1] ∧ [x] = [e.1] := by
    have : (x :: y :: t) ++ [x] = (A ++ [e.1]) ++ [e.1] := by simpa using hAB
    exact List.append_inj' this rfl
   have hx : x = e.1 := by simpa using h1.2
   cases A with
   | nil => simp at h1
   | cons a A =>
    have h3 : x = a ∧ y :: t = A ++ [e.1] := by simpa using h1.1
    have : x ∈ y :: t := by rw [h3.2, hx]; simp
    exact (List.nodup_cons.1 h).1 this
  ·have h1 : x :: y :: t = A ++ e.1 :: e.1 :: B' := by
    have : (x :: y :: t) ++ [x] = (A ++ e.1 :: e.1 :: B') ++ [b] := by simpa using hAB
    exact (List.append_inj' this rfl).1
   rw [h1] at h
   have := (List.nodup_append.1 h).2.1
   simp at this
theorem path_closed {p : α → Prop} {x : α} {t : List α} (h : ∀ e ∈ path (x :: t), p e.1 → p e.2) (hx : p x) : ∀ y ∈ x :: t, p y := by
 induction t generalizing x with
 | nil => intro y hy; simp at hy; exact hy ▸ hx
 | cons b t ih =>
  intro y hy
  rcases List.mem_cons.1 hy with rfl | hy
  ·exact hx
  ·exact ih (fun e he => h e (by simp [path, he])) (h (x, b) (by simp [path]) hx) y hy
theorem path_cut {p : α → Prop} [DecidablePred p] : ∀ {l : List α}, (∀ e ∈ path l, p e.1 → p e.2) → ∃ P N, l = P ++ N ∧ (∀ x ∈ P, ¬ p x) ∧ ∀ x ∈ N, p x
 | [], _ => ⟨[], [], rfl, by simp, by simp⟩
 | x :: t, h => by
  by_cases hx : p x
  ·exact ⟨[], x :: t, rfl, by simp, path_closed h hx⟩
  ·obtain ⟨P, N, h1, h2, h3⟩ := path_cut (p := p) (l := t) (fun e he => h e (by cases t with | nil => simp [path] at he | cons b t => simp [path, he]))
   refine ⟨x :: P, N, by rw [h1]; rfl, ?_, h3⟩
   intro y hy
   rcases List.mem_cons.1 hy with rfl | hy
   ·exact hx
   ·exact h2 y hy
theorem has_up {p : α → Prop} [DecidablePred p] {l : List α} {a b : α} (ha : a ∈ l) (pa : p a) (hb : b ∈ l) (pb : ¬ p b) : ∃ e ∈ edges l, p e.1 ∧ ¬ p e.2 := by
 apply Classical.byContradiction
 intro hno
 have hcl : ∀ e ∈ edges l, p e.1 → p e.2 := fun e he h1 => Classical.byContradiction fun h2 => hno ⟨e, he, h1, h2⟩
 cases l with
 | nil => simp at ha
 | cons x t =>
  obtain ⟨A, B, hAB⟩ := List.append_of_mem ha
  have h1 : path (x :: t ++ [x]) = path (A ++ [a]) ++ path (a :: (B ++ [x])) := by
   rw [hAB]; have := path_join A a (B ++ [x]); simpa using this
  have hx : p x := path_closed (t := B ++ [x]) (fun e he => hcl e (by show e ∈ path (x :: t ++ [x]); rw [h1]; simp [he])) pa x (by simp)
  exact pb (path_closed (t := t ++ [x]) (fun e he => hcl e he) hx b (by
   rcases List.mem_cons.1 hb with rfl | hb
   ·simp
   ·simp [hb]))
theorem rot_split {p : α → Prop} [DecidablePred p] {l : List α} (hnd : l.Nodup) (h1 : ∀ e ∈ edges l, ∀ e' ∈ edges l, (p e.1 ∧ ¬ p e.2) → (p e'.1 ∧ ¬ p e'.2) → e = e') {a b : α} (ha : a ∈ l) (pa : p a) (hb : b ∈ l) (pb : ¬ p b) :
  ∃ N P A B, l = A ++ B ∧ B ++ A = N ++ P ∧ N ≠ [] ∧ P ≠ [] ∧ (∀ x ∈ N, p x) ∧ ∀ x ∈ P, ¬ p x := by
 obtain ⟨u, hu, hu1, hu2⟩ := has_up ha pa hb pb
 have key : ∃ A B T, l = A ++ B ∧ B ++ A = u.2 :: T ∧ path (u.2 :: (T ++ [u.2])) = path (u.2 :: T) ++ [(u.1, u.2)] := by
  cases l with
  | nil => simp at ha
  | cons x t =>
   obtain ⟨A, B, hAB⟩ := path_split (l := x :: t ++ [x]) hu
   rcases List.eq_nil_or_concat B with rfl | ⟨B', c, rfl⟩
   ·have h2 : (x :: t) ++ [x] = (A ++ [u.1]) ++ [u.2] := by simpa using hAB
    obtain ⟨h3, h4⟩ := List.append_inj' h2 rfl
    have hx : x = u.2 := by simpa using h4
    refine ⟨[], x :: t, t, rfl, by simp [hx], ?_⟩
    have h5 : u.2 :: t = A ++ [u.1] := by rw [← hx]; exact h3
    have : path ((u.2 :: t) ++ [u.2]) = path (u.2 :: t) ++ [(u.1, u.2)] := by
     rw [h5]
     have := path_join A u.1 [u.2]
     simpa [path] using this
    simpa using this
   ·have h2 : (x :: t) ++ [x] = (A ++ u.1 :: u.2 :: B') ++ [c] := by simpa using hAB
    obtain ⟨h3, h4⟩ := List.append_inj' h2 rfl
    refine ⟨A ++ [u.1], u.2 :: B', B' ++ (A ++ [u.1]), by simpa using h3, by simp, ?_⟩
    have := path_join (u.2 :: B' ++ A) u.1 [u.2]
    simpa [path] using this
 obtain ⟨A, B, T, hl, hT, hp⟩ := key
 have hnd2 : (B ++ A).Nodup := by
  rw [hl] at hnd
  exact (List.perm_append_comm.nodup_iff).1 hnd
 have hed : edges (B ++ A) = path (u.2 :: T) ++ [(u.1, u.2)] := by
  rw [hT]; show path (u.2 :: T ++ [u.2]) = _; rw [← hp]; rfl
 have hper : (edges l).Perm (edges (B ++ A)) := by rw [hl]; exact edges_rot A B
 have hndE := edges_nodup hnd2
 rw [hed] at hndE
 have hno : ∀ e ∈ path (u.2 :: T), p e.1 → p e.2 := by
  intro e he h2
  apply Classical.byContradiction
  intro h3
  have hel : e ∈ edges l := hper.mem_iff.2 (by rw [hed]; simp [he])
  have := h1 e hel u hu ⟨h2, h3⟩ ⟨hu1, hu2⟩
  subst this
  exact (List.nodup_append.1 hndE).2.2 e he e (by simp) rfl
 obtain ⟨P, N, q1, q2, q3⟩ := path_cut hno
 have hmem : ∀ y, y ∈ l ↔ y ∈ P ++ N := fun y => by
  rw [← q1, ← hT, hl]; simp [or_comm]
 have hN : N ≠ [] := by
  intro h0; subst h0
  exact q2 a (by simpa using (hmem a).1 ha) pa
 have hP : P ≠ [] := by
  intro h0; subst h0
  exact pb (q3 b (by simpa using (hmem b).1 hb))
 rw [q1] at hT
 rcases List.append_eq_append_iff.1 hT with ⟨C, hc1, hc2⟩ | ⟨C, hc1, hc2⟩
 ·
  exact ⟨N, P, C, N ++ B, by rw [hl, hc2]; simp, by rw [hc1]; simp, hN, hP, q3, q2⟩
 ·
  exact ⟨N, P, A ++ P, C, by rw [hl, hc1]; simp, by rw [hc2]; simp, hN, hP, q3, q2⟩
end Geo
namespace Go.Sx
set_option linter.unusedVariables false
theorem getElem_path {α : Type} : ∀ (l : List α) (i : Nat) (h : i < (Geo.path l).length) (h1 : i < l.length) (h2 : i + 1 < l.length), (Geo.path l)[i] = (l[i], l[i + 1])
 | [], i, h, _, _ => by simp [Geo.path] at h
 | [_], i, h, _, _ => by simp [Geo.path] at h
 | a :: b :: t, 0, h, _, _ => by simp [Geo.path]
 | a :: b :: t, i + 1, h, h1, h2 => by
  have := getElem_path (b :: t) i (by simpa [Geo.path] using h) (by simpa using h1) (by simpa using h2)
  simpa [Geo.path] using this
theorem mod_next {i n : Nat} (h : i < n) : (i + 1) % n = if i + 1 = n then 0 else i + 1 := by
 split
 ·rename_i e; rw [e, Nat.mod_self]
 ·exact Nat.mod_eq_of_lt (by omega)
theorem edges_get {α : Type} (l : List α) (i : Nat) (h : i < l.length) (h' : i < (Geo.edges l).length) : (Geo.edges l)[i] = (l[i], l[(i + 1) % l.length]'(Nat.mod_lt _ (by omega))) := by
 cases l with
 | nil => simp at h
 | cons x t =>
  have hp : (Geo.edges (x :: t)) = Geo.path (x :: t ++ [x]) := rfl
  have := getElem_path (x :: t ++ [x]) i (by rw [← hp]; exact h') (by simp at h ⊢; omega) (by simp at h ⊢; omega)
  simp only [hp]
  rw [this]
  have e1 : (x :: t ++ [x])[i]'(by simp at h ⊢; omega) = (x :: t)[i] := List.getElem_append_left h
  rw [e1]
  congr 1
  simp only [mod_next h]
  split
  ·rename_i e
   rw [List.getElem_append_right (by omega)]
   simp [e]
  ·rename_i e
   rw [List.getElem_append_left (by simp at h e ⊢; omega)]
abbrev eG (p : Pl) (vs : List Pt) : List AV := [.lit (.bool (Zn p.a)), .lit (.string (Zm p.a)), .lit (.bool (Zn p.b)), .lit (.string (Zm p.b)), .lit (.bool (Zn p.c)), .lit (.string (Zm p.c)), .lit (.bool (Zn p.d)), .lit (.string (Zm p.d)), .sl (vs.map eP)]
abbrev eG0 : List AV := [.lit (.bool false), .lit (.string ⟨#[]⟩), .lit (.bool false), .lit (.string ⟨#[]⟩), .lit (.bool false), .lit (.string ⟨#[]⟩), .lit (.bool false), .lit (.string ⟨#[]⟩), .lit (.slice none 0 0)]
def pc (h : Int) (by' : Pl) (a b : Pt) : List Pt := (if sideP by' a ≠ -h then [a] else []) ++ (if sideP by' a * sideP by' b < 0 then [meetP by' a b] else [])
def partI (h : Int) (by' : Pl) (vs : List Pt) : List Pt := (Geo.edges vs).flatMap fun e => pc h by' e.1 e.2
def partT (h : Int) (by' : Pl) (vs : List Pt) (i : Nat) : List Pt := ((Geo.edges vs).take i).flatMap fun e => pc h by' e.1 e.2
def someT (h : Int) (by' : Pl) (vs : List Pt) (i : Nat) : Bool := (vs.take i).any fun v => decide (sideP by' v = h)
theorem partT_zero (h : Int) (by' : Pl) (vs : List Pt) : partT h by' vs 0 = [] := rfl
theorem partT_all (h : Int) (by' : Pl) (vs : List Pt) : partT h by' vs vs.length = partI h by' vs := by
 unfold partT partI
 rw [List.take_of_length_le (by rw [Geo.edges_length]; exact Nat.le_refl _)]
theorem partT_succ (h : Int) (by' : Pl) (vs : List Pt) (i : Nat) (hi : i < vs.length) : partT h by' vs (i + 1) = partT h by' vs i ++ pc h by' vs[i] (vs[(i + 1) % vs.length]'(Nat.mod_lt _ (by omega))) := by
 have hl : i < (Geo.edges vs).length := by rw [Geo.edges_length]; exact hi
 unfold partT
 rw [List.take_succ_eq_append_getElem hl, List.flatMap_append, edges_get vs i hi hl]
 simp
theorem someT_zero (h : Int) (by' : Pl) (vs : List Pt) : someT h by' vs 0 = false := rfl
theorem someT_succ (h : Int) (by' : Pl) (vs : List Pt) (i : Nat) (hi : i < vs.length) : someT h by' vs (i + 1) = (someT h by' vs i || decide (sideP by' vs[i] = h)) := by
 unfold someT
 rw [List.take_succ_eq_append_getElem hi, List.any_append]
 simp
theorem pc_length (h : Int) (by' : Pl) (a b : Pt) : (pc h by' a b).length ≤ 2 := by
 unfold pc
 split <;> split <;> simp
theorem partT_length (h : Int) (by' : Pl) (vs : List Pt) (i : Nat) : (partT h by' vs i).length ≤ 2 * i := by
 induction i with
 | zero => simp [partT_zero]
 | succ i ih =>
  by_cases hi : i < vs.length
  ·rw [partT_succ h by' vs i hi, List.length_append]
   have := pc_length h by' vs[i] (vs[(i + 1) % vs.length]'(Nat.mod_lt _ (by omega)))
   omega
  ·have : partT h by' vs (i + 1) = partT h by' vs i := by
    unfold partT
    rw [List.take_of_length_le (by rw [Geo.edges_length]; omega), List.take_of_length_le (by rw [Geo.edges_length]; omega)]
   rw [this]; omega
theorem sg_cases (z : Int) : (sg z = -1 ∧ z < 0) ∨ (sg z = 0 ∧ z = 0) ∨ (sg z = 1 ∧ 0 < z) := by
 unfold sg
 split
 ·exact .inl ⟨rfl, by assumption⟩
 ·split
  ·exact .inr (.inl ⟨rfl, by assumption⟩)
  ·exact .inr (.inr ⟨rfl, by omega⟩)
theorem opp {p : Pl} {a b : Pt} (h : sideP p a * sideP p b < 0) : (abv p a < 0 ∧ 0 < abv p b) ∨ (0 < abv p a ∧ abv p b < 0) := by
 unfold sideP at h
 rcases sg_cases (abv p a) with ⟨e1, h1⟩ | ⟨e1, h1⟩ | ⟨e1, h1⟩ <;> rcases sg_cases (abv p b) with ⟨e2, h2⟩ | ⟨e2, h2⟩ | ⟨e2, h2⟩ <;> rw [e1, e2] at h <;> simp at h
 ·exact .inl ⟨h1, h2⟩
 ·exact .inr ⟨h1, h2⟩
theorem opp_ne {p : Pl} {a b : Pt} (h : sideP p a * sideP p b < 0) : a ≠ b := by
 rintro rfl
 rcases opp h with h | h <;> omega
theorem opp_w {p : Pl} {a b : Pt} (ha : 0 < a.w) (hb : 0 < b.w) (h : sideP p a * sideP p b < 0) : a.w * abv p b - b.w * abv p a ≠ 0 := by
 rcases opp h with ⟨h1, h2⟩ | ⟨h1, h2⟩
 ·have := Int.mul_pos ha h2
  have := Int.mul_neg_of_pos_of_neg hb h1
  omega
 ·have := Int.mul_neg_of_pos_of_neg ha h2
  have := Int.mul_pos hb h1
  omega
theorem side_mul (p : Pl) (a b : Pt) : IntKind.i64.wrap (sideP p a * sideP p b) = sideP p a * sideP p b := by
 unfold sideP
 rcases sg_cases (abv p a) with ⟨e1, h1⟩ | ⟨e1, h1⟩ | ⟨e1, h1⟩ <;> rcases sg_cases (abv p b) with ⟨e2, h2⟩ | ⟨e2, h2⟩ | ⟨e2, h2⟩ <;> rw [e1, e2] <;> decide
theorem eP_getD (vs : List Pt) (i : Nat) (h : i < vs.length) : (vs.map eP).getD i [] = eP vs[i] := by
 rw [List.getD_eq_getElem?_getD, List.getElem?_eq_getElem (by simpa using h)]; simp
theorem ints_getD' (k : IntKind) (xs : List Int) (i : Nat) (h : i < xs.length) : (ints k xs).getD i [] = [.lit (.int k xs[i])] := by
 rw [List.getD_eq_getElem?_getD, List.getElem?_eq_getElem (by rw [ints_length]; exact h)]; simp [ints]
theorem eP_flat (vs : List Pt) : ∀ e ∈ vs.map eP, ∀ c ∈ e, Flat c := by
 intro e he c hc
 obtain ⟨v, _, rfl⟩ := List.mem_map.1 he
 simp only [eP, e4, List.mem_cons, List.not_mem_nil, or_false] at hc
 rcases hc with rfl | rfl | rfl | rfl | rfl | rfl | rfl | rfl <;> exact .lit _
theorem eP_in {K : Nat → Prop} (vs : List Pt) : (∀ e ∈ vs.map eP, ∀ c ∈ e, In K c) = True := eq_true fun e he c hc => (eP_flat vs e he c hc).inn
end Go.Sx
