/- Proved here: the law CellSplitVolumes of the given program returns true for every slice of planes and every array of one plane, by a walk through its code and the geometry of cells; no condition beyond those of the given statement. -/
import Derived.Test.YtjlfgmhmalbiiaaGreatDoorRows
import Derived.JoinedOf
import Derived.Test.YtjlfgmhmalbiiaaGreatDoorTie
import Derived.Test.YtjlfgmhmalbiiaaGreatDoorCards
import Derived.ProofKit
import Derived.LaidMore
import Derived.Lay
import Derived.SevenTiedAt
import Derived.Stop.Joined
import Derived.Test.YtjlfgmhmalbiiaaGreatDoorT34
set_option linter.all false
namespace Go.Proofs.Vx
open Go Go.Sx Go.Proofs Go.ChangeShapes Go.WideShapes Go.Deep
section
variable {P : Program} {H : Type} {enc : TypeId × Value → H}
structure Lies (W : World) (b off len cap : Nat) (R : Nat → RP) : Prop where
  le : len ≤ cap
  ml : cap ≤ maxLen
  wf : ∀ i, i < cap → wfR (R i)
  blk : ∃ cs e fr, W.heap[b]? = some (.cells cs e fr)
  cell : ∀ i, i < cap → ∀ j (hj : j < 8), W.cell? ⟨b, off + i * 8 + j, none⟩ = some ((cR (R i))[j]'hj)
theorem Lies.lt {W : World} {b off len cap : Nat} {R : Nat → RP} (h : Lies W b off len cap R) : b < W.heap.size := by
  obtain ⟨cs, e, fr, h⟩ := h.blk
  exact (Array.getElem?_eq_some_iff.1 h).1
theorem Lies.mono {W W' : World} {b off len cap : Nat} {R : Nat → RP} (h : Lies W b off len cap R) (hk : ∀ b, b < W.heap.size → W'.heap[b]? = W.heap[b]?) : Lies W' b off len cap R := by
  refine ⟨h.le, h.ml, h.wf, ?_, fun i hi j hj => ?_⟩
  · rw [hk b h.lt]; exact h.blk
  · have := h.cell i hi j hj
    unfold World.cell? at this ⊢
    rw [hk b h.lt]
    exact this
def dSl (len cap : Nat) (R : Nat → RP) : DataW H := .slice ((List.range len).map fun i => dR (R i)) ((List.range (cap - len)).map fun j => dR (R (len + j)))
theorem flatMap_nil {β : Type} (n : Nat) : ((List.range n).flatMap fun _ => ([] : List β)) = [] := by simp
theorem open22 (T : TyOk P) {W : World} {b0 : Nat} {v : Value} {d : DataW H} {p : List MemPlace} (hval : Value.okWide P W .any b0 22 v) (h : DataW.Trod enc P W 0 (fun _ => true) true 22 v d p) :
    (v = .slice none 0 0 ∧ d = .nil ∧ p = []) ∨ ∃ (b off len cap : Nat) (R : Nat → RP), v = .slice (some ⟨b, off, none⟩) len cap ∧ Lies W b off len cap R ∧ d = dSl len cap R ∧ p = MemPlace.row ⟨b, off, none⟩ (cap * 8) := by
  obtain ⟨fuel, h⟩ := h
  have hv : Cell.ok P W .any b0 22 v := by
    unfold Value.okWide at hval
    rw [T.u22] at hval
    unfold Cell.okWide at hval
    rw [T.u22] at hval
    exact hval
  unfold Cell.ok at hv
  rw [T.u22] at hv
  rcases open_slice T.u22 h with ⟨hc, hx⟩ | ⟨a, len, cap, m, n, D, Pl, hc, _, hl, hm, hmm, hx, hel⟩
  · left
    cases v with
    | slice a len cap =>
      simp only [Value.cells, List.cons.injEq, and_true] at hc
      injection hx with h1 h2
      exact ⟨hc, h1, h2⟩
    | _ => simp at hv
  · right
    cases v with
    | slice a' len' cap' =>
      simp only [Value.cells, List.cons.injEq, and_true, Value.slice.injEq] at hc
      obtain ⟨rfl, rfl, rfl⟩ := hc
      obtain ⟨hl1, hl2, hhas⟩ := hv
      obtain ⟨_, hsp, row, cells, hsh, _⟩ := hhas
      obtain ⟨b, off, spot⟩ := a
      simp only at hsp
      subst hsp
      simp only [if_true] at hmm
      subst hmm
      have each : ∀ i, i < m → ∃ r : RP, wfR r ∧ W.cells? 0 ((⟨b, off, none⟩ : Addr).add (i * 8)) 8 = some (cR r) ∧ D i = dR r ∧ Pl i = [] := by
        intro i hi
        obtain ⟨cs', h1, h2⟩ := hel i hi
        rw [T.c26] at h1
        obtain ⟨r, hw, rfl, hd⟩ := open26 T h2
        injection hd with e1 e2
        exact ⟨r, hw, h1, e1, e2⟩
      haveI : Inhabited RP := ⟨⟨false, ⟨#[]⟩, false, ⟨#[]⟩, false, ⟨#[]⟩, false, ⟨#[]⟩⟩⟩
      obtain ⟨R, hR⟩ := choose_lt each
      refine ⟨b, off, len', m, R, rfl, ⟨hl, hm, fun i hi => (hR i hi).1, ?_, fun i hi j hj => ?_⟩, ?_, ?_⟩
      · unfold World.shape? at hsh
        split at hsh
        · rename_i c el _ hcell; exact ⟨_, _, _, hcell⟩
        · contradiction
      · obtain ⟨_, _, hcc⟩ := World.cells?_some (hR i hi).2.1
        have := hcc j hj
        rw [add_add, add_plain] at this
        rw [Nat.add_assoc, this, List.getElem?_eq_getElem (by rw [cR_len]; exact hj)]
        rfl
      · injection hx with e1 e2
        rw [e1]
        unfold dSl
        congr 1
        · exact List.map_congr_left fun i hi => (hR i (by have := List.mem_range.1 hi; omega)).2.2.1
        · exact List.map_congr_left fun j hj => (hR (len' + j) (by have := List.mem_range.1 hj; omega)).2.2.1
      · injection hx with e1 e2
        rw [e2, T.c26, flatMap_congr_range (g := fun _ => []) (fun i hi => (hR i hi).2.2.2), flatMap_nil, List.append_nil]
    | _ => simp at hv
theorem back22 (T : TyOk P) {W : World} {b off len cap : Nat} {R : Nat → RP} {sp : Nat → Bool} (h : Lies W b off len cap R) (hsp : sp b = true) :
    DataW.Trod enc P W 0 sp true 22 (.slice (some ⟨b, off, none⟩) len cap) (dSl len cap R) (MemPlace.row ⟨b, off, none⟩ (cap * 8)) := by
  have := shut_slice_whole (enc := enc) (w := W) (held := true) (base := 0) (spare := sp) (a := ⟨b, off, none⟩) T.u22 (Nat.zero_le _) h.le h.ml hsp (fun i => dR (R i)) (fun _ => []) (fun i hi => by
    refine ⟨cR (R i), 3, ?_, shut26 T (R i) (h.wf i hi)⟩
    rw [T.c26, add_plain]
    refine cells?_of (Nat.zero_le _) (cR_len _) fun j hj => ?_
    rw [h.cell i hi j hj, List.getElem?_eq_getElem (by rw [cR_len]; exact hj)]
    rfl)
  rw [T.c26, flatMap_nil, List.append_nil] at this
  exact this
theorem nil22 (T : TyOk P) {W : World} {sp : Nat → Bool} : DataW.Trod enc P W 0 sp true 22 (.slice none 0 0) .nil [] := ⟨1, by simp [DataW.trod, T.u22, Value.cells]⟩
theorem rel22 {W : World} {b off len cap : Nat} {R : Nat → RP} (h : Lies W b off len cap R) : Rel (g00 W) (.sl (eRPs ((List.range len).map R))) (.slice (some ⟨b, off, none⟩) len cap) := by
  obtain ⟨cs, e, fr, hb⟩ := h.blk
  have hc : ∀ i, i < cap → ∀ j (hj : j < 8), ∃ h2 : off + i * 8 + j < cs.size, cs[off + i * 8 + j] = (cR (R i))[j]'hj := by
    intro i hi j hj
    have := h.cell i hi j hj
    unfold World.cell? at this
    rw [hb] at this
    simp only [Option.isSome_none, Bool.false_eq_true, if_false] at this
    exact Array.getElem?_eq_some_iff.1 this
  have hlen : (eRPs ((List.range len).map R)).length = len := by simp
  have hget : ∀ i (hi : i < (eRPs ((List.range len).map R)).length), (eRPs ((List.range len).map R))[i] = eRP (R i) := fun i hi => by simp
  have key := Rel.sl (g := g00 W) (eRPs ((List.range len).map R)) b off cap 8 cs e fr (show b < W.heap.size from h.lt) hb (by rw [hlen]; exact h.le) (fun i hi => by rw [hget i hi]; rfl) (fun hp => by
      rw [hlen] at hp ⊢
      have hle := h.le
      obtain ⟨h2, _⟩ := hc (len - 1) (by omega) 7 (by omega)
      omega) (fun j h1 h2 => by
      rw [hlen] at h2
      have hle := h.le
      obtain ⟨h3, h4⟩ := hc (j / 8) (by omega) (j % 8) (by omega)
      have e1 : off + j / 8 * 8 + j % 8 = off + j := by omega
      simp only [e1] at h4
      rw [h4]
      exact cR_one _ _ _) (fun i h1 j h2 h3 => by
      have hle := h.le
      have h1' : i < len := by rw [hlen] at h1; exact h1
      have h2' : j < 8 := by rw [hget i h1] at h2; exact h2
      obtain ⟨h4, h5⟩ := hc i (by omega) j h2'
      rw [h5]
      have e1 : (eRPs ((List.range len).map R))[i][j] = .lit ((cR (R i))[j]'h2') := by
        rw [← cR_get (R i) j h2']
        simp only [hget i h1]
      rw [e1]
      exact .lit _)
  rw [hlen] at key
  exact key
theorem open27 (T : TyOk P) {W : World} {b0 : Nat} {v : Value} {d : DataW H} {p : List MemPlace} (hval : Value.okWide P W .any b0 27 v) (h : DataW.Trod enc P W 0 (fun _ => true) true 27 v d p) :
    ∃ r : RP, wfR r ∧ v = .agg (cR r).toArray ∧ d = .agg [dR r] ∧ p = [] := by
  obtain ⟨fuel, h⟩ := h
  unfold Value.okWide at hval
  rw [T.u27] at hval
  obtain ⟨cs, rfl, hs, _⟩ := hval
  obtain ⟨xs, m, _, hx, hl, hxl, hf⟩ := DataW.trod_array T.u27 h
  have g0 := hf 0 (by omega)
  rw [T.c26, Nat.zero_mul, List.drop_zero, List.take_of_length_le (by rw [hl, T.c27]; exact Nat.le_refl _)] at g0
  rcases xs with _ | ⟨y0, _ | ⟨y1, xs⟩⟩ <;> simp at hxl
  simp only [List.getElem?_cons_zero] at g0
  obtain ⟨r, hw, hcs, rfl⟩ := open26 T g0
  injection hx with e1 e2
  refine ⟨r, hw, ?_, e1, e2⟩
  rw [← hcs]
  simp [Value.cells]
theorem back27 (T : TyOk P) {W : World} {sp : Nat → Bool} {r : RP} (h : wfR r) : DataW.Trod enc P W 0 sp true 27 (.agg (cR r).toArray) (.agg [dR r]) [] := by
  refine ⟨4, ?_⟩
  have hs := shut26 (enc := enc) (w := W) (base := 0) (spare := sp) (held := true) T r h
  rw [DataW.trod_step]
  unfold DataW.trodStep
  simp only [T.u27]
  rw [if_pos (by rw [T.c27]; simp [Value.cells, cR_len])]
  have : (Value.agg (cR r).toArray).cells.toList = cR r := by simp [Value.cells]
  rw [this]
  have e : ∀ k : Nat, k = 0 → ((cR r).drop (k * 8)).take 8 = cR r := fun k hk => by subst hk; rfl
  simp [T.c26, hs, List.range_succ, List.take_of_length_le (Nat.le_of_eq (cR_len r))]
theorem rel27 (g : Gh) (r : RP) : Rel g (.agg (eRP r)) (.agg (cR r).toArray) := by
  refine .agg _ _ rfl (fun i h2 => ?_) fun i h1 h2 => ?_
  · have : i < 8 := h2
    exact cR_one r i this
  · have : i < 8 := h1
    rw [cR_get r i this]
    exact .lit _
theorem post_grown {f : Func} {s : ChangeSpec} {apart fresh handsOn again : Bool} {W W' : World} {args : Array Value} {v : Value} {ds : List (DataW H)} {before : List MemPlace}
    (hvs : s.vars = []) (hW : DataW.Whole enc P f.params.toList s.vars apart W args.toList ds [] before) (hos : W'.os = W.os) (hou : W'.output = W.output) (hold : ∀ b, b < W.heap.size → W'.heap[b]? = W.heap[b]?)
    (hres : ∀ (b : Nat) (sp : Nat → Bool) (hd : Bool), DataW.TrodAll enc P W' b sp hd f.resultTypes.toList (v.resultList f.resultTypes.size) (s.fn H ds).results [])
    (hargs : ∀ sp : Nat → Bool, (∀ b, b < W.heap.size → sp b = true) → DataW.TrodAll enc P W' 0 sp true f.params.toList args.toList (s.fn H ds).args before) (hv0 : (s.fn H ds).vars = [])
    (hok : ∀ (j : Nat) (t : TypeId) (r : Value), f.resultTypes[j]? = some t → (v.resultList f.resultTypes.size)[j]? = some r → Value.okWide P W' .any 0 t r) :
    s.post enc P f apart fresh handsOn again W args v W' := by
  have hkept : W.keptBut W' (· ∈ before) := by
    refine ⟨hos, hou, fun i hi => ?_⟩
    rw [hold i hi]
    split
    · rename_i h1 h2
      rw [h1] at h2
      simp only [Option.some.injEq, Obj.cells.injEq] at h2
      obtain ⟨rfl, rfl, rfl⟩ := h2
      exact ⟨rfl, rfl, rfl, fun _ _ => rfl⟩
    · rename_i h1 h2
      rw [h1] at h2
      simp only [Option.some.injEq, Obj.map.injEq] at h2
      obtain ⟨rfl, rfl⟩ := h2
      exact .inr ⟨rfl, rfl⟩
    · rfl
  have hvars : ∀ sp : Nat → Bool, DataW.TrodVars enc P W' sp s.vars (s.fn H (ds ++ [])).vars [] := fun sp => by rw [List.append_nil, hv0, hvs]; rfl
  have hres' := hres
  have hargs' := hargs
  rw [← List.append_nil ds] at hres' hargs'
  refine ⟨ds, [], before, [], before, [], hW, hres' _ _ _, hargs' _ (fun b hb => by simpa using hb), hvars _, World.keptBut_mono (fun p hp => ⟨hp, Or.inr (Or.inl hp)⟩) hkept, fun _ => ?_⟩
  obtain ⟨_, _, _, _, _, hz, hn⟩ := id hW
  refine ⟨hok, _, _, ([] ++ before) ++ [], ⟨[] ++ before, [], trodAll_append (hargs' _ (fun _ _ => rfl)) (hres' _ _ _), hvars _, rfl, ?_, ?_⟩, ?_⟩
  · intro b off hp
    have hp' : MemPlace.cell b off ∈ before := by simpa using hp
    have hb : b < W.heap.size := hW.lt _ hp'
    have := hz b off hp'
    unfold World.frozen? at this ⊢
    rw [hold b hb]
    exact this
  · intro ha
    simpa using hn ha
  · intro p hp _
    simpa using hp
end
end Go.Proofs.Vx
namespace Go.Proofs.YtjlfgmhmalbiiaaGreatDoor
open Go Go.Proofs
theorem zand {a b : Bool} (h : a = true) (k : b = true) : (a && b) = true := by rw [h, k]; rfl
set_option maxRecDepth 100000 in
set_option maxHeartbeats 40000000 in
theorem fa3 : joinedFacts Tryz.prog 3 Tryz.f3 Rows.cellSplitVolumesSpec Rows.cellSplitVolumesRow = true := by
  unfold joinedFacts
  repeat' with_reducible refine zand ?_ ?_
  all_goals decide +kernel
end Go.Proofs.YtjlfgmhmalbiiaaGreatDoor
namespace Go.Proofs.YtjlfgmhmalbiiaaGreatDoor
open Go Go.Sx Go.Proofs Go.Proofs.Vx Go.ChangeShapes Go.WideShapes Go.ChangeAt Go.RowKit
theorem own : ownKnob Tryz.prog.godebug = none := by kernel_rfl
theorem u4 : Tryz.prog.underlying 4 = some .bool := by kernel_rfl
def zeroPlane : Array Value := #[.bool false, .string ⟨#[]⟩, .bool false, .string ⟨#[]⟩, .bool false, .string ⟨#[]⟩, .bool false, .string ⟨#[]⟩]
theorem call3 (rs : List RP) (b : RP) : CallOK Tryz.prog 3 [.sl (eRPs rs), .agg (eRP b)] [] (.lit (.bool true)) [] := by
  by_cases h : (rs.length ≤ 4 ∧ ∀ r ∈ rs, goodR r = true) ∧ goodR b = true
  · exact c3good rs b h.1.1 h.1.2 h.2
  · exact c3bad rs b h
set_option maxRecDepth 100000 in
theorem lifted3 (os : Os) (started : os.Started) (H : Type) (enc : TypeId × Value → H) :
    ReturnsInHanded {} Tryz.checked os 3 .any (fun w args => (Rows.cellSplitVolumesSpec.pre enc Tryz.prog Tryz.f3 Rows.cellSplitVolumesRow.domain false w args ∧ laidMetH Tryz.prog Rows.cellSplitVolumesRow.laid w) ∧ sizedMet enc Tryz.prog Tryz.f3 (OpenSpec.ofChange Rows.cellSplitVolumesSpec) false w args)
      (Rows.cellSplitVolumesSpec.post enc Tryz.prog Tryz.f3 false true false false) := by
  refine returnsInHanded_of_change_and (C := Tryz.checked) (X := fun w _ => laidMetH Tryz.prog Rows.cellSplitVolumesRow.laid w) (fun _ _ _ hh h => h.of_heap hh) own started (by kernel_rfl) Tryz.func3
    (ChangeSpec.witness_shaped (enc := enc) (C := Tryz.checked) (os := os) (X := fun w _ => laidMetH Tryz.prog Rows.cellSplitVolumesRow.laid w) false (World.laidAll Tryz.prog os Rows.cellSplitVolumesRow.laid) #[.slice none 0 0, .agg zeroPlane] 8 (World.laidAll_os _ _ _)
      (World.shaped_of_ZipB (by kernel_rfl) (by kernel_rfl)) (by kernel_rfl) (by kernel_rfl) (by kernel_rfl)
      (by rw [MakeChecks.laidMetH_plain _ _ _ (by kernel_rfl)]; exact laidMet_laidAll _ (by kernel_rfl) (by kernel_rfl))) ?_
  intro W base args ds gs before hval0 hW _ _ _ _
  have hval : ∀ (j : Nat) t v, Tryz.f3.params[j]? = some t → args[j]? = some v → Value.okWide Tryz.prog W .any base t v := hval0
  have hW' := hW
  obtain ⟨p, q, hA0, hV, rfl, _, _⟩ := hW
  have hA : DataW.TrodAll enc Tryz.prog W 0 (fun _ => true) true Tryz.f3.params.toList args.toList ds p := hA0
  rw [Tryz.params3] at hA hval
  obtain ⟨v0, v1, d0, d1, p0, p1, rfl, rfl, rfl, h0, h1⟩ := trodAll_two hA
  obtain ⟨rfl, rfl⟩ := trodVars_none hV
  obtain ⟨r1, hw1, rfl, rfl, rfl⟩ := open27 tyOk (hval 1 27 v1 rfl rfl) h1
  rcases open22 tyOk (hval 0 22 v0 rfl rfl) h0 with ⟨rfl, rfl, rfl⟩ | ⟨b, off, len, cap, R, rfl, hL, rfl, rfl⟩
  · simp only [List.append_nil] at hW'
    refine (calls_true (W := W) (vals := [.slice none 0 0, .agg (cR r1).toArray]) (call3 [] r1) (RelL.cons .slnil (RelL.cons (rel27 _ r1) RelL.nil))).mono ?_
    rintro e W' ⟨rfl, hos, hou, hsz, hold⟩
    refine ⟨_, rfl, post_grown rfl hW' hos hou hold (fun _ _ _ => trodAll_mk1 (shut_bool u4 _)) (fun sp hsp => ?_) rfl (ok_one (by kernel_rfl) rfl (okWide_bool_mk u4 _))⟩
    have := trodAll_mk2 (nil22 (enc := enc) (W := W') (sp := sp) tyOk) (back27 (enc := enc) (W := W') (sp := sp) tyOk hw1)
    simp only [List.append_nil, List.nil_append] at this ⊢
    exact this
  · simp only [List.append_nil] at hW'
    refine (calls_true (W := W) (vals := [.slice (some ⟨b, off, none⟩) len cap, .agg (cR r1).toArray]) (call3 ((List.range len).map R) r1) (RelL.cons (rel22 hL) (RelL.cons (rel27 _ r1) RelL.nil))).mono ?_
    rintro e W' ⟨rfl, hos, hou, hsz, hold⟩
    refine ⟨_, rfl, post_grown rfl hW' hos hou hold (fun _ _ _ => trodAll_mk1 (shut_bool u4 _)) (fun sp hsp => ?_) rfl (ok_one (by kernel_rfl) rfl (okWide_bool_mk u4 _))⟩
    have := trodAll_mk2 (back22 (enc := enc) tyOk (hL.mono hold) (hsp b hL.lt)) (back27 (enc := enc) (W := W') (sp := sp) tyOk hw1)
    simp only [List.append_nil, List.nil_append] at this ⊢
    exact this
theorem fn3 : Tryz.prog.funcNamed "voussoir/voussoirlaw09.CellSplitVolumes" = some 3 := by kernel_rfl
theorem in3 : Tryz.f3.isInstance Tryz.prog Rows.cellSplitVolumesRow.origin Rows.cellSplitVolumesRow.targs := of_decide_eq_true (by kernel_rfl)
theorem wr3 : Tryz.f3.isWrapper Tryz.prog Rows.cellSplitVolumesRow.wrapper Rows.cellSplitVolumesRow.mainSum := by unfold Func.isWrapper; first | (rw [if_pos (by decide +kernel)]; kernel_rfl) | (rw [if_neg (by decide +kernel)]; exact ⟨rfl, rfl⟩)
theorem row3 : Rows.CellSplitVolumesSaid :=
  OpenClaim.holds_of_wide 3 Tryz.f3 rfl rfl rfl rfl rfl rfl rfl ⟨rfl, rfl, rfl, rfl, rfl⟩ rfl rfl rfl rfl rfl fn3 Tryz.func3 fa3 in3 wr3
    (fun os started H enc _ => lifted3 os started H enc)
theorem tx3 : Rows.cellSplitVolumesRow.wfByText (OpenSpec.ofChange Rows.cellSplitVolumesSpec) = true := by kernel_rfl
theorem mainT : Tryz.prog.mainIs = some (true, "0db640cacd3e2513037d21af5e10ff83a19336d09181d6a154418af0a36e3750".toList) := by kernel_rfl
theorem looksT : false = Tryz.prog.looks [] := by kernel_rfl
theorem goes3 : false = Rows.cellSplitVolumesRow.goesBy Tryz.prog := by kernel_rfl
theorem stand3 : ([22, 27].all fun u => !Tryz.prog.wantsStandIn u) = true := by kernel_rfl
theorem cellSplitVolumes_holds : Rows.CellSplitVolumesCardSaid :=
  Claim7.holds_tied_plain_at .later [] [.data, .pinned] true (true, "0db640cacd3e2513037d21af5e10ff83a19336d09181d6a154418af0a36e3750") false row3 (fun _ h => by cases h) tx3 (fun _ h => by cases h) cellSplitVolumes_row_tie rfl ⟨rfl, rfl⟩ mainT rfl
    (fun f fn hf hfn => by
      obtain rfl : f = 3 := Option.some.inj (fn3.symm.trans hf) |>.symm
      obtain rfl : fn = Tryz.f3 := (Option.some.inj (Tryz.func3.symm.trans hfn)).symm
      exact ⟨looksT, fun j t ht => by
        rw [Tryz.params3] at ht
        have hm : t ∈ [22, 27] := by simpa using Array.mem_of_getElem? ht
        exact (show Tryz.prog.wantsStandIn t = false by simpa using List.all_eq_true.1 stand3 t hm)⟩)
    goes3
end Go.Proofs.YtjlfgmhmalbiiaaGreatDoor
