import Derived.Test.YtjlfgmhmalbiiaaGreatDoorT04
set_option linter.all false
namespace Go.Sx
set_option linter.unusedVariables false
set_option linter.unusedSimpArgs false
def frN (h0 : Nat) (w : World) : Gh := { w := w, fz := fun b => h0 ≤ b ∧ b < w.heap.size, us := fun _ => False, blk := fun _ => 0, des := fun _ => ⟨none, 0, 0, 0⟩, len := fun _ => 0 }
def CallNw (P : Program) (f : Nat) (args : List AV) (r : AV) : Prop :=
  ∀ (g : Gh) (vals : List Value), (∀ l, ¬ g.us l) → GOk (cxOf P g (upd anyf [])) g (upd anyf []) → RelL g args vals →
    Calls P f vals.toArray g.w fun e w' => ∃ v, e = .returned v ∧ w'.os = g.w.os ∧ Tp w' g.w ∧ w'.output = g.w.output ∧ g.w.heap.size ≤ w'.heap.size ∧ (∀ b, b < g.w.heap.size → w'.heap[b]? = g.w.heap[b]?) ∧ Rel (frN g.w.heap.size w') r v
def callD (P : Program) (f : Nat) (args : List AV) (ob : Nat → AV) (E : Eff → Prop) : Prop :=
  ∃ r, fnT P f = true ∧ CallNw P f (args.map (bwa ob)) r ∧ (∀ a ∈ args.map (bwa ob), In (fun _ => False) a) ∧ In (fun _ => False) r ∧ E ⟨r, [], args.flatMap idA⟩
theorem callD_run {c : Cx} {f : Nat} {args : List AV} {ob : Nat → AV} {E : Eff → Prop} (h : callD c.P f args ob E) :
    ∃ e, E e ∧ fnT c.P f = true ∧ ∀ ob', (∀ l ∈ e.rd, ob' l = ob l) → ∀ g vals, GOk c g ob' → RelL g args vals →
      Calls c.P f vals.toArray g.w fun e' w' => ∃ v g', e' = .returned v ∧ g'.w = w' ∧ Ev g g' ∧ GOk c g' (upd ob' e.ob) ∧ Rel g' e.val v ∧ ∀ l, g'.us l → g.us l := by
  obtain ⟨r, hfn, hok, hin, hcl, hE⟩ := h
  refine ⟨_, hE, hfn, fun ob' ho g vals hg hr => ?_⟩
  have hbw : args.map (bwa ob') = args.map (bwa ob) := by
    apply List.map_congr_left
    intro a ha
    exact bwa_agree fun l hl => ho l (List.mem_flatMap.2 ⟨a, ha, hl⟩)
  let g0 : Gh := { withAll g ob' with us := fun _ => False }
  have hfzx : ∀ b, g0.fz b → b < g0.w.heap.size := by
    rintro b (hb | ⟨l, hl⟩)
    · exact hg.fzx b hb
    · exact (hg.obj l).lt hl
  have hg0 : GOk (cxOf c.P g0 (upd anyf [])) g0 (upd anyf []) :=
    ⟨rfl, Tp.rfl, rfl, Nat.le_refl _, fun _ _ _ => rfl, fun b hb => hb, fun b hb => .inl hb, hfzx, fun l => trivial, fun l b hb => by simp [upd, anyf, blkOf] at hb, fun l l' b hb => by simp [upd, anyf, blkOf] at hb⟩
  have hrel : RelL g0 (args.map (bwa ob)) vals := by
    refine ⟨by simp [hr.1], fun i h1 h2 => ?_⟩
    have hi : i < args.length := by simpa using h1
    have h3 := rel_bwa hg (hr.2 i hi h2)
    have e1 : bwa ob' args[i] = (args.map (bwa ob))[i] := by
      have : (args.map (bwa ob'))[i]'(by simpa using hi) = (args.map (bwa ob))[i] := by simp only [hbw]
      simpa using this
    rw [e1] at h3
    exact Rel.carry (g := withAll g ob') (g' := g0) (K := fun _ => False) (fun b hb => ⟨hb, rfl⟩) (fun l hl => hl.elim) h3 (hin _ (List.getElem_mem h1))
  refine (hok g0 vals (fun l => by simp [g0]) hg0 hrel).mono ?_
  rintro e' w' ⟨v, rfl, hos, htp, hou, hsz, hold, hv⟩
  have hsz : g.w.heap.size ≤ w'.heap.size := hsz
  have hold : ∀ b, b < g.w.heap.size → w'.heap[b]? = g.w.heap[b]? := hold
  let g' : Gh := { g with w := w', fz := fun b => g.fz b ∨ (g.w.heap.size ≤ b ∧ b < w'.heap.size) }
  have hev : Ev g g' := ⟨fun b hb => ⟨.inl hb, hold b (hg.fzx b hb)⟩, fun l hl => ⟨hl, rfl, Nat.le_refl _, fun _ => rfl⟩⟩
  have hblk : ∀ l, blkOf g' l (ob' l) = blkOf g l (ob' l) := fun l => by cases ob' l <;> rfl
  refine ⟨v, g', rfl, rfl, hev, ?_, ?_, fun l hl => hl⟩
  · refine ⟨hos.trans hg.os, htp.trans hg.tape, hou.trans hg.output, Nat.le_trans hg.size hsz, fun b hb hw => ?_, fun b hb => .inl (hg.fzo b hb), ?_, ?_, fun l => ?_, fun l b hb => ?_, fun l l' b hb hb' => ?_⟩
    · show w'.heap[b]? = _
      rw [hold b (Nat.lt_of_lt_of_le hb hg.size)]
      exact hg.old b hb hw
    · rintro b (hb | hb)
      · exact hg.fzn b hb
      · exact .inr (.inr (Nat.le_trans hg.size hb.1))
    · rintro b (hb | hb)
      · exact Nat.lt_of_lt_of_le (hg.fzx b hb) hsz
      · exact hb.2
    · exact (hg.obj l).keep hev ⟨rfl, rfl⟩ fun b hb => hold b ((hg.obj l).lt hb)
    · simp only [upd, hblk] at hb
      obtain ⟨k1, k2⟩ := hg.own l b hb
      refine ⟨k1, ?_⟩
      rintro (h | h)
      · exact k2 h
      · have := (hg.obj l).lt hb
        omega
    · simp only [upd, hblk] at hb hb'
      exact hg.dis l l' b hb hb'
  · exact Rel.carry (g := frN g0.w.heap.size w') (g' := g') (K := fun _ => False) (fun b hb => ⟨.inr hb, rfl⟩) (fun l hl => hl.elim) hv hcl
def bwn1 (ob : Nat → AV) : AV → AV
  | .ref l o n m => match ob l with
    | .vec _ es => if o = 0 ∧ n = es.length ∧ m = es.length then .sl es else .any
    | _ => .any
  | .lit v => .lit v
  | _ => .any
def bwn (ob : Nat → AV) : AV → AV
  | .agg cs => .agg (cs.map (bwn1 ob))
  | .tup cs => .tup (cs.map (bwn1 ob))
  | a => bwn1 ob a
def Flat1 (a : AV) : Prop := Flat a ∨ ∃ es : List (List AV), a = .sl es ∧ ∀ e ∈ es, ∀ c ∈ e, Flat c
def FlatS : AV → Prop
  | .agg cs => ∀ c ∈ cs, Flat1 c
  | .tup cs => ∀ c ∈ cs, Flat1 c
  | a => Flat1 a
theorem Flat.inn {K : Nat → Prop} {a : AV} (h : Flat a) : In K a := by
  induction h with
  | lit v => exact .lit v
  | agg cs _ ih => exact .agg cs ih
  | tup cs _ ih => exact .tup cs ih
theorem Flat1.in {K : Nat → Prop} {a : AV} (h : Flat1 a) : In K a := by
  rcases h with h | ⟨es, rfl, h⟩
  · exact h.inn
  · exact .sl es fun e he c hc => (h e he c hc).inn
theorem FlatS.in {K : Nat → Prop} {a : AV} (h : FlatS a) : In K a := by
  cases a with
  | agg cs => exact .agg cs fun c hc => (h c hc).in
  | tup cs => exact .tup cs fun c hc => (h c hc).in
  | any => exact .any
  | _ => exact Flat1.in h
theorem rel_bwn1 {c : Cx} {g : Gh} {ob : Nat → AV} (hg : GOk c g ob) (hno : ∀ b, ¬ c.W0 b) {a : AV} {v : Value} (h : Rel g a v) (hf : Flat1 (bwn1 ob a)) : Rel (frN c.w0.heap.size g.w) (bwn1 ob a) v := by
  have hbad : Flat1 .any → False := by
    rintro (hx | ⟨es', h1, h2⟩)
    · cases hx
    · cases h1
  cases a with
  | lit v' => cases h; exact .lit _
  | ref l o n m =>
    simp only [bwn1] at hf ⊢
    have hok := hg.obj l
    have hown := hg.own l
    generalize hob : ob l = x at hok hf hown
    cases x with
    | vec k es =>
      simp only at hf ⊢
      split at hf
      · rename_i hc
        rw [if_pos hc]
        obtain ⟨rfl, rfl, rfl⟩ := hc
        obtain ⟨hus', hk, hln, hk0, hke, h5⟩ := hok
        have hfl : ∀ e ∈ es, ∀ c ∈ e, Flat c := by
          rcases hf with h | ⟨es', h1, h2⟩
          · cases h
          · injection h1 with h1; subst h1; exact h2
        cases h with
        | ref _ _ _ _ _ hu' hm hc hvv =>
          have hvv := hvv hln.symm
          rcases h5 with ⟨h6, rfl, h7⟩ | ⟨b, vs, h6, h7, h8, h9, h10, h11, h12⟩
          · rw [hvv]
            simp [Des.slice, h6, h7]
            exact .slnil
          · rw [hvv]
            simp only [Des.slice, h6, Option.map_some, Nat.zero_mul, Nat.sub_zero]
            have hb0 : c.w0.heap.size ≤ b := by
              rcases (hown b (by simp [blkOf, h6])).1 with h | h
              · exact absurd h (hno b)
              · exact h
            have hlt : b < g.w.heap.size := (Array.getElem?_eq_some_iff.1 h7).1
            refine .sl (g := frN c.w0.heap.size g.w) es b 0 _ k vs _ (0, 0) ⟨hb0, hlt⟩ h7 h8 (fun i hi => hke _ (List.getElem_mem hi)) (fun _ => ?_) (fun j hj hjk => ?_) (fun i a1 j a2 a3 => ?_)
            · rw [h10, Nat.zero_add]; exact Nat.mul_le_mul_right _ h8
            · simp only [Nat.zero_add] at hj ⊢
              exact h11 j hj hjk
            · simp only [Nat.zero_add] at a3 ⊢
              exact (h12 i a1 j a2 a3).flat (hfl _ (List.getElem_mem a1) _ (List.getElem_mem a2))
      · rcases hf with hx | ⟨es', h1, h2⟩
        · cases hx
        · cases h1
    | _ => exact (hbad hf).elim
  | _ => exact (hbad hf).elim
theorem bwn1_flat {ob : Nat → AV} {a : AV} (h : FlatS (bwn1 ob a)) : Flat1 (bwn1 ob a) := by
  cases a with
  | lit v => exact h
  | ref l o n m =>
    simp only [bwn1] at h ⊢
    generalize ob l = x at h ⊢
    cases x with
    | vec k es =>
      simp only at h ⊢
      split at h
      · rename_i hc; rw [if_pos hc]; exact h
      · rename_i hc; rw [if_neg hc]; exact h
    | _ => exact h
  | _ => exact h
theorem rel_bwn {c : Cx} {g : Gh} {ob : Nat → AV} (hg : GOk c g ob) (hno : ∀ b, ¬ c.W0 b) {a : AV} {v : Value} (h : Rel g a v) (hf : FlatS (bwn ob a)) : Rel (frN c.w0.heap.size g.w) (bwn ob a) v := by
  cases a with
  | agg cs =>
    cases h with
    | agg _ vs hs ho hr =>
      refine .agg _ _ (by simpa using hs) ho fun i h1 h2 => ?_
      simp only [List.getElem_map]
      exact rel_bwn1 hg hno (hr i (by simpa using h1) h2) (hf _ (List.mem_map.2 ⟨_, List.getElem_mem (by simpa using h1), rfl⟩))
  | tup cs =>
    cases h with
    | tup _ vs hs hr =>
      refine .tup _ _ (by simpa using hs) fun i h1 h2 => ?_
      simp only [List.getElem_map]
      exact rel_bwn1 hg hno (hr i (by simpa using h1) h2) (hf _ (List.mem_map.2 ⟨_, List.getElem_mem (by simpa using h1), rfl⟩))
  | _ => exact rel_bwn1 hg hno h (bwn1_flat hf)
end Go.Sx
namespace Go.Sx
set_option linter.unusedVariables false
set_option linter.unusedSimpArgs false
def AV.live : AV → Bool
  | .blk _ | .vec _ _ | .mpo _ => true
  | _ => false
def callV (P : Program) (f : Nat) (args : List AV) (i : Nat) (ob : Nat → AV) (E : Eff → Prop) : Prop :=
  callA P f args ob E ∨ callB P f args ob (fun e => (∀ l ∈ e.rd, (ob l).live = true) ∧ E e) ∨ callC P f args i ob E ∨ callD P f args ob E
def fitsA : List LK → List AV → Bool
  | [], [] => true
  | k :: ks, .lit v :: cs => k.fits v && fitsA ks cs
  | _, _ => false
def eqCs : List AV → List AV → Bool
  | .lit x :: xs, .lit y :: ys => ceq x y && eqCs xs ys
  | _, _ => true
theorem fitsA_spec {g : Gh} : ∀ {ks : List LK} {cs : List AV} {vs : List Value}, fitsA ks cs = true → RelL g cs vs → fitsL ks vs = true ∧ cs = vs.map .lit := by
  intro ks
  induction ks with
  | nil =>
    intro cs vs h hr
    cases cs with
    | nil => obtain rfl : vs = [] := List.eq_nil_of_length_eq_zero hr.1; exact ⟨rfl, rfl⟩
    | cons c cs => simp [fitsA] at h
  | cons k ks ih =>
    intro cs vs h hr
    cases cs with
    | nil => simp [fitsA] at h
    | cons c cs =>
      cases vs with
      | nil => simp [RelL] at hr
      | cons v vs =>
        have h0 := hr.2 0 (by simp) (by simp)
        have hr' : RelL g cs vs := ⟨by simpa using hr.1, fun i h1 h2 => hr.2 (i + 1) (by simpa using h1) (by simpa using h2)⟩
        cases c <;> simp only [fitsA] at h <;> try contradiction
        rename_i u
        simp only [List.getElem_cons_zero] at h0
        cases h0
        simp only [Bool.and_eq_true] at h
        obtain ⟨h1, h2⟩ := ih h.2 hr'
        exact ⟨by simp [fitsL, h.1, h1], by simp [h2]⟩
theorem eqCs_lit : ∀ (xs ys : List Value), eqCs (xs.map .lit) (ys.map .lit) = ceqs xs ys := by
  intro xs
  induction xs with
  | nil => intro ys; cases ys <;> rfl
  | cons x xs ih => intro ys; cases ys with
    | nil => rfl
    | cons y ys => simp [eqCs, ceqs, ih]
def binG (P : Program) (op : BinOp) (t : TypeId) (cs ds : List AV) (E : Eff → Prop) : Prop :=
  match lfT P 30 t with
  | some ks => P.eqGuardType P.depth t = false ∧ agT P t = some true ∧ fitsA ks cs = true ∧ fitsA ks ds = true ∧ match op with
    | .eql => E ⟨.lit (.bool (eqCs cs ds)), [], []⟩
    | .neq => E ⟨.lit (.bool (!eqCs cs ds)), [], []⟩
    | _ => False
  | none => False
def binV (P : Program) (op : BinOp) (t : TypeId) (x y : AV) (E : Eff → Prop) : Prop :=
  match x, y with
  | .lit (.int k a), .lit (.int k' b) => (k = k' ∨ op = .shl ∨ op = .shr) ∧ binI op k a b fun v => E ⟨.lit v, [], []⟩
  | .lit (.string a), .lit (.string b) => binS P op t (.string a) (.string b) fun v => E ⟨.lit v, [], []⟩
  | .lit (.bool a), .lit (.bool b) => binS P op t (.bool a) (.bool b) fun v => E ⟨.lit v, [], []⟩
  | .agg cs, .agg ds => binG P op t cs ds E
  | _, _ => False
theorem binV_run {P : Program} {op : BinOp} {t : TypeId} {x y : AV} {E : Eff → Prop} (h : binV P op t x y E) :
    ∃ r, E ⟨r, [], []⟩ ∧ ∀ g v u ox oy, Rel g x v → Rel g y u → ∃ w, (do eqGuard op t ox oy v u; binOp op t v u : Sem Value).run P g.w = .ok w g.w ∧ Rel g r w := by
  unfold binV at h
  split at h
  · obtain ⟨hk, h⟩ := h
    obtain ⟨v, hv, hr⟩ := binI_run (P := P) t hk h
    refine ⟨_, hv, fun g v' u' ox oy h1 h2 => ?_⟩
    cases h1
    cases h2
    exact ⟨_, by simp only [Sem.run_bind, eqGuard_lit (P := P) op t ox oy (.int _ _) _ (fun _ h => by cases h) (fun h => by cases h), Result.andThen_ok, hr], .lit _⟩
  · obtain ⟨v, hv, hr⟩ := binS_run h
    refine ⟨_, hv, fun g v' u' ox oy h1 h2 => ?_⟩
    cases h1
    cases h2
    exact ⟨_, by simp only [Sem.run_bind, eqGuard_lit (P := P) op t ox oy (.string _) _ (fun _ h => by cases h) (fun h => by cases h), Result.andThen_ok, hr], .lit _⟩
  · obtain ⟨v, hv, hr⟩ := binS_run h
    refine ⟨_, hv, fun g v' u' ox oy h1 h2 => ?_⟩
    cases h1
    cases h2
    exact ⟨_, by simp only [Sem.run_bind, eqGuard_lit (P := P) op t ox oy (.bool _) _ (fun _ h => by cases h) (fun h => by cases h), Result.andThen_ok, hr], .lit _⟩
  · rename_i cs ds
    unfold binG at h
    split at h
    · rename_i ks hks
      obtain ⟨hg, hag, hf1, hf2, h⟩ := h
      have key : ∀ g v u, Rel g (.agg cs) v → Rel g (.agg ds) u → ∃ xs ys, v = .agg xs ∧ u = .agg ys ∧ ∀ w, (Op.equalIn 10000 t v u).run P w = .ok (eqCs cs ds) w := by
        intro g v u h1 h2
        cases h1 with
        | agg _ xs hx hox hrx =>
          cases h2 with
          | agg _ ys hy hoy hry =>
            obtain ⟨a1, a2⟩ := fitsA_spec (g := g) (vs := xs.toList) hf1 ⟨by simpa using hx, fun i h1 h2 => by simpa using hrx i h1 (by simpa using h2)⟩
            obtain ⟨b1, b2⟩ := fitsA_spec (g := g) (vs := ys.toList) hf2 ⟨by simpa using hy, fun i h1 h2 => by simpa using hry i h1 (by simpa using h2)⟩
            refine ⟨xs, ys, rfl, rfl, fun w => ?_⟩
            have := run_equalIn_leaf 30 9970 t ks xs.toList ys.toList (.agg xs) (.agg ys) hks a1 b1 (.inl ⟨hag, by simp⟩) (.inl ⟨hag, by simp⟩) w
            rw [a2, b2, eqCs_lit]
            exact this
      split at h
      · refine ⟨_, h, fun g v u ox oy h1 h2 => ?_⟩
        obtain ⟨xs, ys, rfl, rfl, hr⟩ := key g v u h1 h2
        exact ⟨_, by simp only [Sem.run_bind, run_eqGuard_agg _ _ _ _ _ _ _ hg, Result.andThen_ok, run_eql_struct, hr], .lit _⟩
      · refine ⟨_, h, fun g v u ox oy h1 h2 => ?_⟩
        obtain ⟨xs, ys, rfl, rfl, hr⟩ := key g v u h1 h2
        exact ⟨_, by simp only [Sem.run_bind, run_eqGuard_agg _ _ _ _ _ _ _ hg, Result.andThen_ok, run_neq_struct, hr], .lit _⟩
      · exact h.elim
    · exact h.elim
  · exact h.elim
def unV (op : UnOp) (x : AV) (E : Eff → Prop) : Prop :=
  match op, x with
  | .not, .lit (.bool b) => E ⟨.lit (.bool (!b)), [], []⟩
  | .neg, .lit (.int k n) => E ⟨.lit (.int k (k.wrap (0 - n))), [], []⟩
  | .xor, .lit (.int k n) => k.signed = false ∧ E ⟨.lit (.int k (k.wrap ((BitVec.ofInt k.bits k.max ^^^ BitVec.ofInt k.bits n).toNat : Int))), [], []⟩
  | _, _ => False
def nilV (x : AV) (ob : Nat → AV) (E : Eff → Prop) : Prop :=
  match x with
  | .fp cs => E ⟨.fp cs, [], []⟩
  | .loc l o => E ⟨.loc l o, [], []⟩
  | .vp l i j m => refOk ob l m ∧ E ⟨.vp l i j m, [], [l]⟩
  | .clo f caps => E ⟨.clo f caps, [], []⟩
  | _ => False
def faV (P : Program) (t : TypeId) (f : Nat) (x : AV) (ob : Nat → AV) (E : Eff → Prop) : Prop :=
  match fdT P t f with
  | some (o, s, _) => 0 < s ∧ match x with
    | .vp l i j m => refOk ob l m ∧ fieldAddrV o x fun y => E ⟨y, [], [l]⟩
    | x => fieldAddrV o x fun y => E ⟨y, [], []⟩
  | none => False
def mmV (g : Bool) (x y : AV) (E : Eff → Prop) : Prop :=
  match x, y with
  | .lit (.int k a), .lit (.int _ b) => if g then E ⟨.lit (.int k (if b > a then b else a)), [], []⟩ else E ⟨.lit (.int k (if b < a then b else a)), [], []⟩
  | _, _ => False
def effV (P : Program) (op : Op) (i : Nat) (ρ : Operand → AV) (ob : Nat → AV) (E : Eff → Prop) : Prop :=
  match op with
  | .move x => E ⟨ρ x, [], []⟩
  | .assign x => E ⟨ρ x, [], []⟩
  | .pick c a b => match ρ c with
    | .lit (.bool t) => E ⟨if t then ρ a else ρ b, [], []⟩
    | _ => False
  | .alloc t => match zeT P t with
    | some z => E ⟨.loc i 0, [(i, .blk z)], []⟩
    | none => False
  | .box t x => (ρ x).solid = true ∧ E ⟨.loc i 0, [(i, .blk (ρ x).cells)], []⟩
  | .build t ps => buildV P t (ps.toList.map fun p => (p.1, ρ p.2)) E
  | .buildSlice t n ps => litV P t n (ps.toList.map fun p => (p.1, ρ p.2)) i E
  | .load t a => match agT P t, szT P t with
    | some ag, some s => (ag = true ∨ s = 1) ∧ loadV ag s (ρ a) ob E
    | _, _ => False
  | .store t a x => match szT P t with
    | some s => storeV s (ρ a) (ρ x) ob E
    | none => False
  | .nilCheck x => nilV (ρ x) ob E
  | .binOp op t x y _ => binV P op t (ρ x) (ρ y) E
  | .unOp op _ x => unV op (ρ x) E
  | .convert s d x => convV P s d (ρ x) ob E
  | .makeFunc (.func f) first caps => first = #[] ∧ E ⟨.clo f (caps.toList.map ρ), [], []⟩
  | .makeSlice t l c => makeV P t (ρ l) (ρ c) i E
  | .slice t x lo hi mx => mx.isNone = true ∧ sliceV P t (ρ x) (lo.map ρ) (hi.map ρ) ob E
  | .fieldAddr t x f => faV P t f (ρ x) ob E
  | .field t x f => fieldV P t f (ρ x) E
  | .indexAddr t x ix => indexAddrV P t (ρ x) (ρ ix) ob E
  | .index t x ix => indexV P t (ρ x) (ρ ix) E
  | .extract x n => extractV n (ρ x) E
  | .makeMap _ r => r.isNone = true ∧ E ⟨.mp i, [(i, .mpo [])], []⟩
  | .lookup t x ix ok => lookupV P t (ρ x) (ρ ix) ok ob E
  | .mapUpdate t x ix y => mupdV P t (ρ x) (ρ ix) (ρ y) ob E
  | .call c => match c.callee with
    | .builtin .len => match c.argTypes.toList, c.args.toList with
      | [t], [x] => lenV P t (ρ x) ob E
      | _, _ => False
    | .builtin .append => match c.argTypes.toList, c.args.toList with
      | [t, t'], [x, y] => t = t' ∧ appV P t (ρ x) (ρ y) ob i E
      | _, _ => False
    | .builtin .max => match c.args.toList with
      | [x, y] => mmV true (ρ x) (ρ y) E
      | _ => False
    | .builtin .min => match c.args.toList with
      | [x, y] => mmV false (ρ x) (ρ y) E
      | _ => False
    | .value f => match ρ f with
      | .clo g caps => callV P g (c.args.toList.map ρ ++ caps) i ob E
      | _ => False
    | _ => False
  | _ => False
theorem effV_snd {c : Cx} {o : Oper} {i : Nat} {rd : Nat → AV} {ob : Nat → AV} {E : Eff → Prop} (h : effV c.P o.op i (rdO rd) ob E) :
    ∃ e, E e ∧ ∀ rd' ob', (∀ x ∈ o.op.operands, rdO rd' x = rdO rd x) → (∀ l ∈ e.rd, ob' l = ob l) → Snd c o i rd' ob' e := by
  have hrel : ∀ {rd' : Nat → AV} {g : Gh} {a : Act} {x : Operand}, TOk g rd' a → rdO rd' x = rdO rd x → Rel g (rdO rd x) (a.eval x) := fun ht e => e ▸ rel_rdO ht _
  unfold effV at h
  split at h
  case h_1 x hop =>
    refine ⟨_, h, fun rd' ob' hrd ho => snd_pure fun g a hg ht => ⟨a.eval x, by simp [execOp, hop], hrel ht (hrd x (by simp [hop, Op.operands]))⟩⟩
  case h_2 x hop =>
    refine ⟨_, h, fun rd' ob' hrd ho => snd_pure fun g a hg ht => ⟨a.eval x, by simp [execOp, hop], hrel ht (hrd x (by simp [hop, Op.operands]))⟩⟩
  case h_3 cc a b hop =>
    split at h
    · rename_i t hcc
      refine ⟨_, h, fun rd' ob' hrd ho => snd_pure fun g ac hg ht => ?_⟩
      have h1 := hrel ht (hrd cc (by simp [hop, Op.operands]))
      have h2 := hrel ht (hrd a (by simp [hop, Op.operands]))
      have h3 := hrel ht (hrd b (by simp [hop, Op.operands]))
      rw [hcc] at h1
      generalize hv : ac.eval cc = v at h1
      cases h1
      cases t
      · exact ⟨ac.eval b, by simp [execOp, hop, hv, asBool, Sem.run_bind], by simpa using h3⟩
      · exact ⟨ac.eval a, by simp [execOp, hop, hv, asBool, Sem.run_bind], by simpa using h2⟩
    · exact h.elim
  case h_4 t hop =>
    split at h
    · rename_i z hz
      refine ⟨_, h, fun rd' ob' hrd ho => snd_of_run fun g a hg ht hi => ?_⟩
      obtain ⟨zv, hz1, hz2, hz3, hz4, _⟩ := zeT_run hz
      obtain ⟨g', a1, a2, a3, a4, a5⟩ := new_blk hg i hi z zv.cells t hz2 hz4 (hz3 g) g.w rfl rfl Tp.rfl rfl
      refine ⟨_, g', ?_, a2, a3, a4, a5⟩
      rw [a1]
      simp [execOp, hop, Instr.alloc, Sem.run_bind, hz1, newVar, newRow]
    · exact h.elim
  case h_5 t x hop =>
    obtain ⟨hsol, h⟩ := h
    refine ⟨_, h, fun rd' ob' hrd ho => snd_of_run fun g a hg ht hi => ?_⟩
    have h1 := hrel ht (hrd x (by simp [hop, Op.operands]))
    obtain ⟨c1, c2, c3⟩ := h1.cells hsol
    obtain ⟨g', a1, a2, a3, a4, a5⟩ := new_blk hg i hi _ (a.eval x).cells t c1 c3 c2 g.w rfl rfl Tp.rfl rfl
    refine ⟨_, g', ?_, a2, a3, a4, a5⟩
    rw [a1]
    simp [execOp, hop, Instr.box, Sem.run_bind, newVar, newRow]
  case h_6 t ps hop =>
    obtain ⟨x, hx, hr⟩ := build_run h
    refine ⟨_, hx, fun rd' ob' hrd ho => snd_pure fun g a hg ht => ?_⟩
    obtain ⟨v, hv1, hv2⟩ := hr g (ps.map fun p => (p.1, a.eval p.2)) ⟨by simp, fun i h1 h2 => by
      have hi : i < ps.size := by simpa using h1
      simp only [List.getElem_map, Array.getElem_toList, Array.getElem_map, true_and]
      exact hrel ht (hrd _ (by simp only [hop, Op.operands, Array.mem_toList_iff, List.mem_toArray, List.mem_map]; exact ⟨ps[i], by simp, rfl⟩))⟩
    exact ⟨v, by simp [execOp, hop, Sem.run_bind, hv1], hv2⟩
  case h_7 t n ps hop =>
    obtain ⟨e, he, her, hr⟩ := lit_run h
    refine ⟨_, he, fun rd' ob' hrd ho => snd_of_run fun g a hg ht hi => ?_⟩
    obtain ⟨r, g', a1, a2, a3, a4, a5⟩ := hr ob' g (ps.map fun p => (p.1, a.eval p.2)) hg ⟨by simp, fun i h1 h2 => by
      have hi : i < ps.size := by simpa using h1
      simp only [List.getElem_map, Array.getElem_toList, Array.getElem_map, true_and]
      exact hrel ht (hrd _ (by simp only [hop, Op.operands, Array.mem_toList_iff, List.mem_toArray, List.mem_map]; exact ⟨ps[i], by simp, rfl⟩))⟩ hi
    exact ⟨r, g', by simp [execOp, hop, Sem.run_bind, a1], a2, a3, a4, a5⟩
  case h_8 t x hop =>
    split at h
    · rename_i ag s ha hs
      obtain ⟨e, he, heo, hr⟩ := load_run (c := c) (g := ⟨default, fun _ => False, fun _ => False, fun _ => 0, fun _ => ⟨none, 0, 0, 0⟩, fun _ => 0⟩) (v := undef) ha hs h.1 h.2
      refine ⟨_, he, fun rd' ob' hrd ho => ?_⟩
      obtain ⟨ev, eo, er⟩ := e
      obtain rfl : eo = [] := heo
      refine snd_pure fun g a hg ht => ?_
      obtain ⟨u, hu1, hu2⟩ := hr ob' ho g _ hg (hrel ht (hrd x (by simp [hop, Op.operands])))
      exact ⟨u, by simp [execOp, hop, Sem.run_bind, hu1], hu2⟩
    · exact h.elim
  case h_9 t x y hop =>
    split at h
    · rename_i s hs
      obtain ⟨e, he, hev, hr⟩ := store_run (c := c) hs h
      refine ⟨_, he, fun rd' ob' hrd ho => ?_⟩
      obtain ⟨ev, eo, er⟩ := e
      obtain rfl : ev = .any := hev
      refine snd_of_skip fun g a hg ht => ?_
      obtain ⟨g', a1, a2, a3, a4⟩ := hr ob' ho g _ _ hg (hrel ht (hrd x (by simp [hop, Op.operands]))) (hrel ht (hrd y (by simp [hop, Op.operands])))
      exact ⟨g', by simp [execOp, hop, Sem.run_bind, a1], a2, a3, a4⟩
    · exact h.elim
  case h_10 x hop =>
    unfold nilV at h
    have pass : ∀ g : Gh, ∀ a : Act, (∀ v, a.eval x = v → (∃ p, v = .pointer (some p)) ∨ (∃ f cs, v = .func (.func f) #[] cs)) → (execOp a.eval o).run c.P g.w = .ok (.value (a.eval x)) g.w := by
      intro g a hv
      rcases hv _ rfl with ⟨p, hp⟩ | ⟨f, cs, hp⟩ <;> simp [execOp, hop, hp]
    split at h
    · rename_i cs hx
      refine ⟨_, h, fun rd' ob' hrd ho => snd_pure fun g a hg ht => ?_⟩
      have h1 := hrel ht (hrd x (by simp [hop, Op.operands]))
      rw [hx] at h1
      refine ⟨_, pass g a fun v hv => ?_, h1⟩
      obtain ⟨b, p, hp, _⟩ := seg_of_fp h1
      exact .inl ⟨_, hv.symm.trans hp⟩
    · rename_i l p hx
      refine ⟨_, h, fun rd' ob' hrd ho => snd_pure fun g a hg ht => ?_⟩
      have h1 := hrel ht (hrd x (by simp [hop, Op.operands]))
      rw [hx] at h1
      refine ⟨_, pass g a fun v hv => ?_, h1⟩
      rw [hv] at h1
      cases h1
      exact .inl ⟨_, rfl⟩
    · rename_i l p q m hx
      refine ⟨_, h.2, fun rd' ob' hrd ho => snd_pure fun g a hg ht => ?_⟩
      have h1 := hrel ht (hrd x (by simp [hop, Op.operands]))
      rw [hx] at h1
      refine ⟨_, pass g a fun v hv => ?_, h1⟩
      rw [hv] at h1
      cases h1 with
      | vp _ _ _ _ _ hu hm hc hv =>
        obtain ⟨b, _, rfl⟩ := hv (refOk_len hg h.1 (ho l (by simp)))
        exact .inl ⟨_, rfl⟩
    · rename_i f caps hx
      refine ⟨_, h, fun rd' ob' hrd ho => snd_pure fun g a hg ht => ?_⟩
      have h1 := hrel ht (hrd x (by simp [hop, Op.operands]))
      rw [hx] at h1
      refine ⟨_, pass g a fun v hv => ?_, h1⟩
      rw [hv] at h1
      cases h1
      exact .inr ⟨_, _, rfl⟩
    · exact h.elim
  case h_11 op t x y yt hop =>
    obtain ⟨r, hr, hh⟩ := binV_run h
    refine ⟨_, hr, fun rd' ob' hrd ho => snd_pure fun g a hg ht => ?_⟩
    obtain ⟨w, hw1, hw2⟩ := hh g _ _ x y (hrel ht (hrd x (by simp [hop, Op.operands]))) (hrel ht (hrd y (by simp [hop, Op.operands])))
    exact ⟨w, by simp only [execOp, hop]; rw [Sem.run_bind, hw1]; rfl, hw2⟩
  case h_12 op t x hop =>
    unfold unV at h
    split at h
    · rename_i b hx
      refine ⟨_, h, fun rd' ob' hrd ho => snd_pure fun g a hg ht => ?_⟩
      have h1 := hrel ht (hrd x (by simp [hop, Op.operands]))
      rw [hx] at h1
      generalize hv : a.eval x = v at h1
      cases h1
      exact ⟨_, by simp [execOp, hop, hv, Op.unary, Sem.run_bind], .lit _⟩
    · rename_i k n hx
      refine ⟨_, h, fun rd' ob' hrd ho => snd_pure fun g a hg ht => ?_⟩
      have h1 := hrel ht (hrd x (by simp [hop, Op.operands]))
      rw [hx] at h1
      generalize hv : a.eval x = v at h1
      cases h1
      exact ⟨_, by simp [execOp, hop, hv, Op.unary, Op.intArith, Sem.run_bind], .lit _⟩
    · rename_i k n hx
      obtain ⟨hk, h⟩ := h
      refine ⟨_, h, fun rd' ob' hrd ho => snd_pure fun g a hg ht => ?_⟩
      have h1 := hrel ht (hrd x (by simp [hop, Op.operands]))
      rw [hx] at h1
      generalize hv : a.eval x = v at h1
      cases h1
      exact ⟨_, by simp [execOp, hop, hv, Op.unary, Op.intBits, hk, Sem.run_bind], .lit _⟩
    · exact h.elim
  case h_13 s d x hop =>
    obtain ⟨e, he, heo, hr⟩ := conv_run h
    obtain ⟨ev, eo, er⟩ := e
    obtain rfl : eo = [] := heo
    refine ⟨_, he, fun rd' ob' hrd ho => snd_pure fun g a hg ht => ?_⟩
    obtain ⟨u, hu1, hu2⟩ := hr ob' ho g _ hg (hrel ht (hrd x (by simp [hop, Op.operands])))
    exact ⟨u, by simp [execOp, hop, Sem.run_bind, hu1], hu2⟩
  case h_14 f first caps hop =>
    obtain ⟨rfl, h⟩ := h
    refine ⟨_, h, fun rd' ob' hrd ho => snd_pure fun g a hg ht => ⟨.func (.func f) #[] (caps.map a.eval), by simp [execOp, hop, Instr.makeFunc], ?_⟩⟩
    refine .clo f _ _ (by simp) fun i h1 h2 => ?_
    have hi : i < caps.size := by simpa using h2
    simp only [List.getElem_map, Array.getElem_toList, Array.getElem_map]
    exact hrel ht (hrd _ (by simp [hop, Op.operands]))
  case h_15 t l cp hop =>
    obtain ⟨e, he, her, hr⟩ := make_run (c := c) (ob := ob) h
    refine ⟨_, he, fun rd' ob' hrd ho => snd_of_run fun g a hg ht hi => ?_⟩
    obtain ⟨r, g', a1, a2, a3, a4, a5⟩ := hr ob' g _ _ hg (hrel ht (hrd l (by simp [hop, Op.operands]))) (hrel ht (hrd cp (by simp [hop, Op.operands]))) hi
    exact ⟨r, g', by simp [execOp, hop, Sem.run_bind, a1], a2, a3, a4, a5⟩
  case h_16 t x lo hi mx hop =>
    obtain ⟨hmx, h⟩ := h
    obtain ⟨e, he, heo, hr⟩ := slice_run h
    obtain ⟨ev, eo, er⟩ := e
    obtain rfl : eo = [] := heo
    obtain rfl : mx = none := by simpa using hmx
    refine ⟨_, he, fun rd' ob' hrd ho => snd_pure fun g a hg ht => ?_⟩
    have hopt : ∀ y : Option Operand, (∀ z, y = some z → z ∈ o.op.operands) → RelO g (y.map (rdO rd)) (y.map a.eval) := by
      intro y hy
      cases y with
      | none => exact .inl ⟨rfl, rfl⟩
      | some z => exact .inr ⟨_, _, rfl, rfl, hrel ht (hrd z (hy z rfl))⟩
    obtain ⟨u, hu1, hu2⟩ := hr ob' ho g _ _ _ hg (hrel ht (hrd x (by simp [hop, Op.operands]))) (hopt lo (by rintro z rfl; simp [hop, Op.operands])) (hopt hi (by rintro z rfl; simp [hop, Op.operands]))
    exact ⟨u, by simp [execOp, hop, Sem.run_bind, hu1], hu2⟩
  case h_17 t x f hop =>
    unfold faV at h
    split at h
    · rename_i fo s b hfd
      obtain ⟨hs, h⟩ := h
      split at h
      · rename_i l p q m hx
        obtain ⟨hm, h⟩ := h
        obtain ⟨y, hy, hr⟩ := fieldAddr_run hfd hs h
        refine ⟨_, hy, fun rd' ob' hrd ho => snd_pure fun g a hg ht => ?_⟩
        obtain ⟨u, hu1, hu2⟩ := hr g _ (hrel ht (hrd x (by simp [hop, Op.operands]))) (fun l' p' q' m' e => by
          rw [hx] at e
          injection e with e1 e2 e3 e4
          subst e1; subst e4
          exact refOk_len hg hm (ho l (by simp)))
        exact ⟨u, by simp [execOp, hop, Sem.run_bind, hu1], hu2⟩
      · rename_i hx
        obtain ⟨y, hy, hr⟩ := fieldAddr_run hfd hs h
        refine ⟨_, hy, fun rd' ob' hrd ho => snd_pure fun g a hg ht => ?_⟩
        obtain ⟨u, hu1, hu2⟩ := hr g _ (hrel ht (hrd x (by simp [hop, Op.operands]))) (fun l' p' q' m' e => absurd e (hx l' p' q' m'))
        exact ⟨u, by simp [execOp, hop, Sem.run_bind, hu1], hu2⟩
    · exact h.elim
  case h_18 t x f hop =>
    obtain ⟨y, hy, hr⟩ := field_run h
    refine ⟨_, hy, fun rd' ob' hrd ho => snd_pure fun g a hg ht => ?_⟩
    obtain ⟨u, hu1, hu2⟩ := hr g _ (hrel ht (hrd x (by simp [hop, Op.operands])))
    exact ⟨u, by simp [execOp, hop, Sem.run_bind, hu1], hu2⟩
  case h_19 t x ix hop =>
    obtain ⟨e, he, heo, hr⟩ := indexAddr_run h
    obtain ⟨ev, eo, er⟩ := e
    obtain rfl : eo = [] := heo
    refine ⟨_, he, fun rd' ob' hrd ho => snd_pure fun g a hg ht => ?_⟩
    obtain ⟨u, hu1, hu2⟩ := hr ob' ho g _ _ hg (hrel ht (hrd x (by simp [hop, Op.operands]))) (hrel ht (hrd ix (by simp [hop, Op.operands])))
    exact ⟨u, by simp [execOp, hop, Sem.run_bind, hu1], hu2⟩
  case h_20 t x ix hop =>
    obtain ⟨y, hy, hr⟩ := index_run h
    refine ⟨_, hy, fun rd' ob' hrd ho => snd_pure fun g a hg ht => ?_⟩
    obtain ⟨u, hu1, hu2⟩ := hr g _ _ (hrel ht (hrd x (by simp [hop, Op.operands]))) (hrel ht (hrd ix (by simp [hop, Op.operands])))
    exact ⟨u, by simp [execOp, hop, Sem.run_bind, hu1], hu2⟩
  case h_21 x n hop =>
    obtain ⟨y, hy, hr⟩ := extract_run (P := c.P) h
    refine ⟨_, hy, fun rd' ob' hrd ho => snd_pure fun g a hg ht => ?_⟩
    obtain ⟨u, hu1, hu2⟩ := hr g _ (hrel ht (hrd x (by simp [hop, Op.operands])))
    exact ⟨u, by simp [execOp, hop, Sem.run_bind, hu1], hu2⟩
  case h_22 t r hop =>
    obtain ⟨hr, h⟩ := h
    obtain rfl : r = none := by simpa using hr
    refine ⟨_, h, fun rd' ob' hrd ho => snd_of_run fun g a hg ht hi => ?_⟩
    obtain ⟨g', a1, a2, a3, a4, a5⟩ := new_map hg i hi g.w rfl rfl Tp.rfl rfl
    refine ⟨_, g', ?_, a2, a3, a4, a5⟩
    rw [a1]
    simp [execOp, hop, Instr.makeMap, Sem.run_bind]
  case h_23 t x ix ok hop =>
    obtain ⟨e, he, heo, hr⟩ := lookup_run h
    obtain ⟨ev, eo, er⟩ := e
    obtain rfl : eo = [] := heo
    refine ⟨_, he, fun rd' ob' hrd ho => snd_pure fun g a hg ht => ?_⟩
    obtain ⟨u, hu1, hu2⟩ := hr ob' ho g _ _ hg (hrel ht (hrd x (by simp [hop, Op.operands]))) (hrel ht (hrd ix (by simp [hop, Op.operands])))
    exact ⟨u, by simp [execOp, hop, Sem.run_bind, hu1], hu2⟩
  case h_24 t x ix y hop =>
    obtain ⟨e, he, hev, hr⟩ := mupd_run h
    obtain ⟨ev, eo, er⟩ := e
    obtain rfl : ev = .any := hev
    refine ⟨_, he, fun rd' ob' hrd ho => snd_of_skip fun g a hg ht => ?_⟩
    obtain ⟨g', a1, a2, a3, a4⟩ := hr ob' ho g _ _ _ hg (hrel ht (hrd x (by simp [hop, Op.operands]))) (hrel ht (hrd ix (by simp [hop, Op.operands]))) (hrel ht (hrd y (by simp [hop, Op.operands])))
    exact ⟨g', by simp [execOp, hop, Sem.run_bind, a1], a2, a3, a4⟩
  case h_25 cl hop =>
    split at h
    · rename_i hcal
      split at h
      · rename_i t x ht0 hx0
        obtain ⟨e, he, heo, hr⟩ := len_run h
        obtain ⟨ev, eo, er⟩ := e
        obtain rfl : eo = [] := heo
        have hx1 : cl.args = #[x] := by apply Array.ext'; simpa using hx0
        have ht1 : cl.argTypes = #[t] := by apply Array.ext'; simpa using ht0
        refine ⟨_, he, fun rd' ob' hrd ho => snd_pure fun g a hg ht => ?_⟩
        obtain ⟨u, hu1, hu2⟩ := hr ob' ho g _ o.type hg (hrel ht (hrd x (by simp [hop, Op.operands, Call.operands, hx1])))
        exact ⟨u, by simp [execOp, hop, resolve, hcal, hx1, ht1, invoke, builtin, Sem.run_bind, hu1], hu2⟩
      · exact h.elim
    · rename_i hcal
      split at h
      · rename_i t t' x y ht0 hx0
        obtain ⟨rfl, h⟩ := h
        obtain ⟨e, he, hr⟩ := app_run h
        have hx1 : cl.args = #[x, y] := by apply Array.ext'; simpa using hx0
        have ht1 : cl.argTypes = #[t, t] := by apply Array.ext'; simpa using ht0
        refine ⟨_, he, fun rd' ob' hrd ho => snd_of_run fun g a hg ht hi => ?_⟩
        obtain ⟨r, g', a1, a2, a3, a4, a5⟩ := hr ob' ho g _ _ o.type hg (hrel ht (hrd x (by simp [hop, Op.operands, Call.operands, hx1]))) (hrel ht (hrd y (by simp [hop, Op.operands, Call.operands, hx1]))) hi
        exact ⟨r, g', by simp [execOp, hop, resolve, hcal, hx1, ht1, invoke, builtin, Sem.run_bind, a1], a2, a3, a4, a5⟩
      · exact h.elim
    · rename_i hcal
      split at h
      · rename_i x y hx0
        have hx1 : cl.args = #[x, y] := by apply Array.ext'; simpa using hx0
        unfold mmV at h
        split at h
        · rename_i k a k' b hxa hyb
          simp only [if_true] at h
          refine ⟨_, h, fun rd' ob' hrd ho => snd_pure fun g ac hg ht => ?_⟩
          have h1 := hrel ht (hrd x (by simp [hop, Op.operands, Call.operands, hx1]))
          have h2 := hrel ht (hrd y (by simp [hop, Op.operands, Call.operands, hx1]))
          rw [hxa] at h1
          rw [hyb] at h2
          generalize hv : ac.eval x = v at h1
          generalize hw : ac.eval y = w at h2
          cases h1
          cases h2
          exact ⟨_, by simp [execOp, hop, resolve, hcal, hx1, invoke, builtin, Builtin.max_, Builtin.max2, Sem.run_bind, hv, hw], .lit _⟩
        · exact h.elim
      · exact h.elim
    · rename_i hcal
      split at h
      · rename_i x y hx0
        have hx1 : cl.args = #[x, y] := by apply Array.ext'; simpa using hx0
        unfold mmV at h
        split at h
        · rename_i k a k' b hxa hyb
          simp only [Bool.false_eq_true, if_false] at h
          refine ⟨_, h, fun rd' ob' hrd ho => snd_pure fun g ac hg ht => ?_⟩
          have h1 := hrel ht (hrd x (by simp [hop, Op.operands, Call.operands, hx1]))
          have h2 := hrel ht (hrd y (by simp [hop, Op.operands, Call.operands, hx1]))
          rw [hxa] at h1
          rw [hyb] at h2
          generalize hv : ac.eval x = v at h1
          generalize hw : ac.eval y = w at h2
          cases h1
          cases h2
          exact ⟨_, by simp [execOp, hop, resolve, hcal, hx1, invoke, builtin, Builtin.min_, Builtin.min2, Sem.run_bind, hv, hw], .lit _⟩
        · exact h.elim
      · exact h.elim
    · rename_i f hcal
      split at h
      · rename_i fn caps hf
        have rels : ∀ {rd' : Nat → AV} {g : Gh} {a : Act}, (∀ x ∈ o.op.operands, rdO rd' x = rdO rd x) → TOk g rd' a →
            ∃ cs : Array Value, a.eval f = .func (.func fn) #[] cs ∧ RelL g (cl.args.toList.map (rdO rd) ++ caps) ((cl.args.map a.eval).toList ++ cs.toList) := by
          intro rd' g a hrd ht
          have h1 := hrel ht (hrd f (by simp [hop, Op.operands, Call.operands, hcal]))
          rw [hf] at h1
          generalize hv : a.eval f = v at h1
          cases h1 with
          | clo _ _ cs hs hh =>
            refine ⟨cs, rfl, by simp [hs], fun i i1 i2 => ?_⟩
            by_cases hc : i < cl.args.size
            · rw [List.getElem_append_left (by simpa using hc), List.getElem_append_left (by simpa using hc)]
              simp only [List.getElem_map, Array.getElem_toList, Array.getElem_map]
              exact hrel ht (hrd _ (by simp [hop, Op.operands, Call.operands, hcal]))
            · rw [List.getElem_append_right (by simpa using hc), List.getElem_append_right (by simpa using hc)]
              simp only [Array.getElem_toList]
              simp at i1 i2
              have := hh (i - cl.args.size) (by omega) (by omega)
              simpa using this
        have hexec : ∀ (a : Act) (cs : Array Value) (w : World), a.eval f = .func (.func fn) #[] cs → fnT c.P fn = true →
            (execOp a.eval o).run c.P w = .ok (.enter fn ((cl.args.map a.eval).toList ++ cs.toList).toArray) w := by
          intro a cs w hv hfn
          have := callFunc_run hfn (cl.args.map a.eval ++ cs) w
          simp [execOp, hop, resolve, hcal, hv, Deferred.ofValue, invoke, Sem.run_bind, this]
        rcases h with h | h | h | h
        · obtain ⟨e, he, hfn, hr⟩ := callA_run h
          refine ⟨_, he, fun rd' ob' hrd ho g a hg ht hi => ?_⟩
          obtain ⟨cs, hv, hrl⟩ := rels hrd ht
          unfold Oper.wp
          rw [hexec a cs g.w hv hfn, Oper.upon_enter]
          refine (hr ob' ho g _ hg hrl).mono ?_
          rintro e' w' ⟨v, g', rfl, rfl, a2, a3, a4, a5⟩
          exact ⟨v, g', rfl, rfl, a2, a3, a4, fun l hl => .inl (a5 l hl)⟩
        · obtain ⟨e, ⟨hlive, he⟩, hfn, hr⟩ := callB_run h
          refine ⟨_, he, fun rd' ob' hrd ho g a hg ht hi => ?_⟩
          obtain ⟨cs, hv, hrl⟩ := rels hrd ht
          unfold Oper.wp
          rw [hexec a cs g.w hv hfn, Oper.upon_enter]
          refine (hr ob' ho g _ hg hrl (fun l hl => ?_)).mono ?_
          · have h1 := hlive l hl
            have h2 := hg.obj l
            rw [ho l hl] at h2
            generalize ob l = x at h1 h2
            cases x <;> first | exact h2.1 | (simp [AV.live] at h1)
          · rintro e' w' ⟨v, g', rfl, rfl, a2, a3, a4, a5⟩
            exact ⟨v, g', rfl, rfl, a2, a3, a4, fun l hl => .inl (a5 l hl)⟩
        · obtain ⟨e, he, hfn, hr⟩ := callC_run h
          refine ⟨_, he, fun rd' ob' hrd ho g a hg ht hi => ?_⟩
          obtain ⟨cs, hv, hrl⟩ := rels hrd ht
          unfold Oper.wp
          rw [hexec a cs g.w hv hfn, Oper.upon_enter]
          refine (hr ob' ho g _ hg hrl hi).mono ?_
          rintro e' w' ⟨v, g', rfl, rfl, a2, a3, a4, a5⟩
          exact ⟨v, g', rfl, rfl, a2, a3, a4, a5⟩
        · obtain ⟨e, he, hfn, hr⟩ := callD_run h
          refine ⟨_, he, fun rd' ob' hrd ho g a hg ht hi => ?_⟩
          obtain ⟨cs, hv, hrl⟩ := rels hrd ht
          unfold Oper.wp
          rw [hexec a cs g.w hv hfn, Oper.upon_enter]
          refine (hr ob' ho g _ hg hrl).mono ?_
          rintro e' w' ⟨v, g', rfl, rfl, a2, a3, a4, a5⟩
          exact ⟨v, g', rfl, rfl, a2, a3, a4, fun l hl => .inl (a5 l hl)⟩
      · exact h.elim
    · exact h.elim
  case h_26 => exact h.elim
end Go.Sx
