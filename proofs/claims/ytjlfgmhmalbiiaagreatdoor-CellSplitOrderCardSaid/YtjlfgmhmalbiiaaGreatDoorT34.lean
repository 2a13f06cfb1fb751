import Derived.Test.YtjlfgmhmalbiiaaGreatDoorRows
import Derived.JoinedOf
import Derived.Test.YtjlfgmhmalbiiaaGreatDoorT33
set_option linter.all false
namespace Go.Proofs.Vx
open Go Go.Sx Go.Proofs Go.ChangeShapes Go.WideShapes Go.Deep
section
variable {P : Program} {H : Type} {enc : TypeId × Value → H}
structure Lies (W : World) (b off len cap : Nat) (R : Nat → RP) : Prop where
 le : len ≤ cap
 ml : cap ≤ maxLen
 wf : ∀ i, i < cap → wfR (R i)
 blk : ∃ cs e fr, W.heap[b]? = some (.cells cs e fr)
 cell : ∀ i, i < cap → ∀ j (hj : j < 8), W.cell? ⟨b, off + i * 8 + j, none⟩ = some ((cR (R i))[j]'hj)
theorem Lies.lt {W : World} {b off len cap : Nat} {R : Nat → RP} (h : Lies W b off len cap R) : b < W.heap.size := by
 obtain ⟨cs, e, fr, h⟩ := h.blk
 exact (Array.getElem?_eq_some_iff.1 h).1
theorem Lies.mono {W W' : World} {b off len cap : Nat} {R : Nat → RP} (h : Lies W b off len cap R) (hk : ∀ b, b < W.heap.size → W'.heap[b]? = W.heap[b]?) : Lies W' b off len cap R := by
 refine ⟨h.le, h.ml, h.wf, ?_, fun i hi j hj => ?_⟩
 ·rw [hk b h.lt]; exact h.blk
 ·have := h.cell i hi j hj
  unfold World.cell? at this ⊢
  rw [hk b h.lt]
  exact this
def dSl (len cap : Nat) (R : Nat → RP) : DataW H := .slice ((List.range len).map fun i => dR (R i)) ((List.range (cap - len)).map fun j => dR (R (len + j)))
theorem flatMap_nil {β : Type} (n : Nat) : ((List.range n).flatMap fun _ => ([] : List β)) = [] := by simp
theorem open22 (T : TyOk P) {W : World} {b0 : Nat} {v : Value} {d : DataW H} {p : List MemPlace} (hval : Value.okWide P W .any b0 22 v) (h : DataW.Trod enc P W 0 (fun _ => true) true 22 v d p) :
  (v = .slice none 0 0 ∧ d = .nil ∧ p = []) ∨ ∃ (b off len cap : Nat) (R : Nat → RP), v = .slice (some ⟨b, off, none⟩) len cap ∧ Lies W b off len cap R ∧ d = dSl len cap R ∧ p = MemPlace.row ⟨b, off, none⟩ (cap * 8) := by
 obtain ⟨fuel, h⟩ := h
 have hv : Cell.ok P W .any b0 22 v := by
  unfold Value.okWide at hval
  rw [T.u22] at hval
  unfold Cell.okWide at hval
  rw [T.u22] at hval
  exact hval
 unfold Cell.ok at hv
 rw [T.u22] at hv
 rcases open_slice T.u22 h with ⟨hc, hx⟩ | ⟨a, len, cap, m, n, D, Pl, hc, _, hl, hm, hmm, hx, hel⟩
 ·left
  cases v with
  | slice a len cap =>
   simp only [Value.cells, List.cons.injEq, and_true] at hc
   injection hx with h1 h2
   exact ⟨hc, h1, h2⟩
  | _ => simp at hv
 ·right
  cases v with
  | slice a' len' cap' =>
   simp only [Value.cells, List.cons.injEq, and_true, Value.slice.injEq] at hc
   obtain ⟨rfl, rfl, rfl⟩ := hc
   obtain ⟨hl1, hl2, hhas⟩ := hv
   obtain ⟨_, hsp, row, cells, hsh, _⟩ := hhas
   obtain ⟨b, off, spot⟩ := a
   simp only at hsp
   subst hsp
   simp only [if_true] at hmm
   subst hmm
   have each : ∀ i, i < m → ∃ r : RP, wfR r ∧ W.cells? 0 ((⟨b, off, none⟩ : Addr).add (i * 8)) 8 = some (cR r) ∧ D i = dR r ∧ Pl i = [] := by
    intro i hi
    obtain ⟨cs', h1, h2⟩ := hel i hi
    rw [T.c26] at h1
    obtain ⟨r, hw, rfl, hd⟩ := open26 T h2
    injection hd with e1 e2
    exact ⟨r, hw, h1, e1, e2⟩
   haveI : Inhabited RP := ⟨⟨false, ⟨#[]⟩, false, ⟨#[]⟩, false, ⟨#[]⟩, false, ⟨#[]⟩⟩⟩
   obtain ⟨R, hR⟩ := choose_lt each
   refine ⟨b, off, len', m, R, rfl, ⟨hl, hm, fun i hi => (hR i hi).1, ?_, fun i hi j hj => ?_⟩, ?_, ?_⟩
   ·unfold World.shape? at hsh
    split at hsh
    ·rename_i c el _ hcell; exact ⟨_, _, _, hcell⟩
    ·contradiction
   ·obtain ⟨_, _, hcc⟩ := World.cells?_some (hR i hi).2.1
    have := hcc j hj
    rw [add_add, add_plain] at this
    rw [Nat.add_assoc, this, List.getElem?_eq_getElem (by rw [cR_len]; exact hj)]
    rfl
   ·injection hx with e1 e2
    rw [e1]
    unfold dSl
    congr 1
    ·exact List.map_congr_left fun i hi => (hR i (by have := List.mem_range.1 hi; omega)).2.2.1
    ·exact List.map_congr_left fun j hj => (hR (len' + j) (by have := List.mem_range.1 hj; omega)).2.2.1
   ·injection hx with e1 e2
    rw [e2, T.c26, flatMap_congr_range (g := fun _ => []) (fun i hi => (hR i hi).2.2.2), flatMap_nil, List.append_nil]
  | _ => simp at hv
theorem back22 (T : TyOk P) {W : World} {b off len cap : Nat} {R : Nat → RP} {sp : Nat → Bool} (h : Lies W b off len cap R) (hsp : sp b = true) :
  DataW.Trod enc P W 0 sp true 22 (.slice (some ⟨b, off, none⟩) len cap) (dSl len cap R) (MemPlace.row ⟨b, off, none⟩ (cap * 8)) := by
 have := shut_slice_whole (enc := enc) (w := W) (held := true) (base := 0) (spare := sp) (a := ⟨b, off, none⟩) T.u22 (Nat.zero_le _) h.le h.ml hsp (fun i => dR (R i)) (fun _ => []) (fun i hi => by
  refine ⟨cR (R i), 3, ?_, shut26 T (R i) (h.wf i hi)⟩
  rw [T.c26, add_plain]
  refine cells?_of (Nat.zero_le _) (cR_len _) fun j hj => ?_
  rw [h.cell i hi j hj, List.getElem?_eq_getElem (by rw [cR_len]; exact hj)]
  rfl)
 rw [T.c26, flatMap_nil, List.append_nil] at this
 exact this
theorem nil22 (T : TyOk P) {W : World} {sp : Nat → Bool} : DataW.Trod enc P W 0 sp true 22 (.slice none 0 0) .nil [] := ⟨1, by simp [DataW.trod, T.u22, Value.cells]⟩
theorem rel22 {W : World} {b off len cap : Nat} {R : Nat → RP} (h : Lies W b off len cap R) : Rel (g00 W) (.sl (eRPs ((List.range len).map R))) (.slice (some ⟨b, off, none⟩) len cap) := by
 obtain ⟨cs, e, fr, hb⟩ := h.blk
 have hc : ∀ i, i < cap → ∀ j (hj : j < 8), ∃ h2 : off + i * 8 + j < cs.size, cs[off + i * 8 + j] = (cR (R i))[j]'hj := by
  intro i hi j hj
  have := h.cell i hi j hj
  unfold World.cell? at this
  rw [hb] at this
  simp only [Option.isSome_none, Bool.false_eq_true, if_false] at this
  exact Array.getElem?_eq_some_iff.1 this
 have hlen : (eRPs ((List.range len).map R)).length = len := by simp
 have hget : ∀ i (hi : i < (eRPs ((List.range len).map R)).length), (eRPs ((List.range len).map R))[i] = eRP (R i) := fun i hi => by simp
 have key := Rel.sl (g := g00 W) (eRPs ((List.range len).map R)) b off cap 8 cs e fr (show b < W.heap.size from h.lt) hb (by rw [hlen]; exact h.le) (fun i hi => by rw [hget i hi]; rfl) (fun hp => by
   rw [hlen] at hp ⊢
   have hle := h.le
   obtain ⟨h2, _⟩ := hc (len - 1) (by omega) 7 (by omega)
   omega) (fun j h1 h2 => by
   rw [hlen] at h2
   have hle := h.le
   obtain ⟨h3, h4⟩ := hc (j / 8) (by omega) (j % 8) (by omega)
   have e1 : off + j / 8 * 8 + j % 8 = off + j := by omega
   simp only [e1] at h4
   rw [h4]
   exact cR_one _ _ _) (fun i h1 j h2 h3 => by
   have hle := h.le
   have h1' : i < len := by rw [hlen] at h1; exact h1
   have h2' : j < 8 := by rw [hget i h1] at h2; exact h2
   obtain ⟨h4, h5⟩ := hc i (by omega) j h2'
   rw [h5]
   have e1 : (eRPs ((List.range len).map R))[i][j] = .lit ((cR (R i))[j]'h2') := by
    rw [← cR_get (R i) j h2']
    simp only [hget i h1]
   rw [e1]
   exact .lit _)
 rw [hlen] at key
 exact key
theorem post_grown {f : Func} {s : ChangeSpec} {apart fresh handsOn again : Bool} {W W' : World} {args : Array Value} {v : Value} {ds : List (DataW H)} {before : List MemPlace}
  (hvs : s.vars = []) (hW : DataW.Whole enc P f.params.toList s.vars apart W args.toList ds [] before) (hos : W'.os = W.os) (hou : W'.output = W.output) (hold : ∀ b, b < W.heap.size → W'.heap[b]? = W.heap[b]?)
  (hres : ∀ (b : Nat) (sp : Nat → Bool) (hd : Bool), DataW.TrodAll enc P W' b sp hd f.resultTypes.toList (v.resultList f.resultTypes.size) (s.fn H ds).results [])
  (hargs : ∀ sp : Nat → Bool, (∀ b, b < W.heap.size → sp b = true) → DataW.TrodAll enc P W' 0 sp true f.params.toList args.toList (s.fn H ds).args before) (hv0 : (s.fn H ds).vars = [])
  (hok : ∀ (j : Nat) (t : TypeId) (r : Value), f.resultTypes[j]? = some t → (v.resultList f.resultTypes.size)[j]? = some r → Value.okWide P W' .any 0 t r) :
  s.post enc P f apart fresh handsOn again W args v W' := by
 have hkept : W.keptBut W' (· ∈ before) := by
  refine ⟨hos, hou, fun i hi => ?_⟩
  rw [hold i hi]
  split
  ·rename_i h1 h2
   rw [h1] at h2
   simp only [Option.some.injEq, Obj.cells.injEq] at h2
   obtain ⟨rfl, rfl, rfl⟩ := h2
   exact ⟨rfl, rfl, rfl, fun _ _ => rfl⟩
  ·rename_i h1 h2
   rw [h1] at h2
   simp only [Option.some.injEq, Obj.map.injEq] at h2
   obtain ⟨rfl, rfl⟩ := h2
   exact .inr ⟨rfl, rfl⟩
  ·rfl
 have hvars : ∀ sp : Nat → Bool, DataW.TrodVars enc P W' sp s.vars (s.fn H (ds ++ [])).vars [] := fun sp => by rw [List.append_nil, hv0, hvs]; rfl
 have hres' := hres
 have hargs' := hargs
 rw [← List.append_nil ds] at hres' hargs'
 refine ⟨ds, [], before, [], before, [], hW, hres' _ _ _, hargs' _ (fun b hb => by simpa using hb), hvars _, World.keptBut_mono (fun p hp => ⟨hp, Or.inr (Or.inl hp)⟩) hkept, fun _ => ?_⟩
 obtain ⟨_, _, _, _, _, hz, hn⟩ := id hW
 refine ⟨hok, _, _, ([] ++ before) ++ [], ⟨[] ++ before, [], trodAll_append (hargs' _ (fun _ _ => rfl)) (hres' _ _ _), hvars _, rfl, ?_, ?_⟩, ?_⟩
 ·intro b off hp
  have hp' : MemPlace.cell b off ∈ before := by simpa using hp
  have hb : b < W.heap.size := hW.lt _ hp'
  have := hz b off hp'
  unfold World.frozen? at this ⊢
  rw [hold b hb]
  exact this
 ·intro ha
  simpa using hn ha
 ·intro p hp _
  simpa using hp
end
end Go.Proofs.Vx
namespace Go.Proofs.Vx
open Go Go.Sx Go.Proofs Go.ChangeShapes Go.WideShapes Go.Deep
section
variable {P : Program} {H : Type} {enc : TypeId × Value → H}
theorem st_u48 : Tryz.prog.underlying 48 = some (.array 2 26) := by kernel_rfl
theorem st_c48 : Tryz.prog.cellsOf 48 = 16 := by kernel_rfl
theorem open48 (T : TyOk P) (u48 : P.underlying 48 = some (.array 2 26)) (c48 : P.cellsOf 48 = 16) {W : World} {b0 : Nat} {v : Value} {d : DataW H} {p : List MemPlace} (hval : Value.okWide P W .any b0 48 v) (h : DataW.Trod enc P W 0 (fun _ => true) true 48 v d p) :
  ∃ r s : RP, wfR r ∧ wfR s ∧ v = .agg (cR r ++ cR s).toArray ∧ d = .agg [dR r, dR s] ∧ p = [] := by
 obtain ⟨fuel, h⟩ := h
 unfold Value.okWide at hval
 rw [u48] at hval
 obtain ⟨cs, rfl, hs, _⟩ := hval
 obtain ⟨xs, m, _, hx, hl, hxl, hf⟩ := DataW.trod_array u48 h
 rw [c48] at hl
 have hl' : cs.toList.length = 16 := by simpa [Value.cells] using hl
 have g0 := hf 0 (by omega)
 have g1 := hf 1 (by omega)
 rw [T.c26, Nat.zero_mul, List.drop_zero] at g0
 rw [T.c26, Nat.one_mul] at g1
 rcases xs with _ | ⟨y0, _ | ⟨y1, _ | ⟨y2, xs⟩⟩⟩ <;> simp at hxl
 simp only [List.getElem?_cons_zero] at g0
 simp only [List.getElem?_cons_succ, List.getElem?_cons_zero] at g1
 obtain ⟨r, hw, hcs, rfl⟩ := open26 T g0
 obtain ⟨s, hw', hcs', rfl⟩ := open26 T g1
 injection hx with e1 e2
 refine ⟨r, s, hw, hw', ?_, e1, e2⟩
 rw [← hcs, ← hcs']
 have : (Value.agg cs).cells.toList = cs.toList := rfl
 rw [this, List.take_of_length_le (l := cs.toList.drop 8) (by rw [List.length_drop, hl']; decide), List.take_append_drop, Array.toArray_toList]
theorem back48 (T : TyOk P) (u48 : P.underlying 48 = some (.array 2 26)) (c48 : P.cellsOf 48 = 16) {W : World} {sp : Nat → Bool} {r s : RP} (h : wfR r) (h' : wfR s) : DataW.Trod enc P W 0 sp true 48 (.agg (cR r ++ cR s).toArray) (.agg [dR r, dR s]) [] := by
 refine ⟨4, ?_⟩
 have hs := shut26 (enc := enc) (w := W) (base := 0) (spare := sp) (held := true) T r h
 have hs' := shut26 (enc := enc) (w := W) (base := 0) (spare := sp) (held := true) T s h'
 rw [DataW.trod_step]
 unfold DataW.trodStep
 simp only [u48]
 rw [if_pos (by rw [c48]; simp [Value.cells, cR_len])]
 have : (Value.agg (cR r ++ cR s).toArray).cells.toList = cR r ++ cR s := by simp [Value.cells]
 rw [this]
 have e0 : (cR r ++ cR s).take 8 = cR r := rfl
 have e1 : ((cR r ++ cR s).drop 8).take 8 = cR s := rfl
 simp [T.c26, hs, hs', List.range_succ, e0, e1]
theorem cRR_get (r s : RP) (j : Nat) (h : j < 16) : (eRP r ++ eRP s)[j]'h = .lit ((cR r ++ cR s)[j]'h) := by
 match j, h with
 | 0, _ => rfl
 | 1, _ => rfl
 | 2, _ => rfl
 | 3, _ => rfl
 | 4, _ => rfl
 | 5, _ => rfl
 | 6, _ => rfl
 | 7, _ => rfl
 | 8, _ => rfl
 | 9, _ => rfl
 | 10, _ => rfl
 | 11, _ => rfl
 | 12, _ => rfl
 | 13, _ => rfl
 | 14, _ => rfl
 | 15, _ => rfl
 | n + 16, h => omega
theorem cRR_one (r s : RP) (j : Nat) (h : j < 16) : ((cR r ++ cR s)[j]'h).oneCell' = true := by
 match j, h with
 | 0, _ => rfl
 | 1, _ => rfl
 | 2, _ => rfl
 | 3, _ => rfl
 | 4, _ => rfl
 | 5, _ => rfl
 | 6, _ => rfl
 | 7, _ => rfl
 | 8, _ => rfl
 | 9, _ => rfl
 | 10, _ => rfl
 | 11, _ => rfl
 | 12, _ => rfl
 | 13, _ => rfl
 | 14, _ => rfl
 | 15, _ => rfl
 | n + 16, h => omega
theorem rel48 (g : Gh) (r s : RP) : Rel g (.agg (eRP r ++ eRP s)) (.agg (cR r ++ cR s).toArray) := by
 refine .agg _ _ rfl (fun i h2 => ?_) fun i h1 h2 => ?_
 ·have : i < 16 := h2
  exact cRR_one r s i this
 ·have : i < 16 := h1
  rw [cRR_get r s i this]
  exact .lit _
end
end Go.Proofs.Vx
namespace Go.Proofs.YtjlfgmhmalbiiaaGreatDoor
open Go Go.Proofs
theorem zand {a b : Bool} (h : a = true) (k : b = true) : (a && b) = true := by rw [h, k]; rfl
set_option maxRecDepth 100000 in
set_option maxHeartbeats 40000000 in
theorem fa4 : joinedFacts Tryz.prog 4 Tryz.f4 Rows.cellSplitOrderSpec Rows.cellSplitOrderRow = true := by
 unfold joinedFacts
 repeat' with_reducible refine zand ?_ ?_
 all_goals decide +kernel
end Go.Proofs.YtjlfgmhmalbiiaaGreatDoor
