/- Proved here: the law CellSplitOrder of the given program returns true for every input that its statement admits, by a walk through its code and the geometry of cells; no condition beyond those of the given statement. -/
import Derived.Test.YtjlfgmhmalbiiaaGreatDoorTie
import Derived.Test.YtjlfgmhmalbiiaaGreatDoorCards
import Derived.ProofKit
import Derived.LaidMore
import Derived.Lay
import Derived.SevenTiedAt
import Derived.Stop.Joined
import Derived.Test.YtjlfgmhmalbiiaaGreatDoorT33
import Derived.Test.YtjlfgmhmalbiiaaGreatDoorT34
set_option linter.all false
namespace Go.Proofs.YtjlfgmhmalbiiaaGreatDoor
open Go Go.Sx Go.Proofs Go.Proofs.Vx Go.ChangeShapes Go.WideShapes Go.ChangeAt Go.RowKit
theorem own : ownKnob Tryz.prog.godebug = none := by kernel_rfl
theorem u4 : Tryz.prog.underlying 4 = some .bool := by kernel_rfl
def zeroPlane : Array Value := #[.bool false, .string ⟨#[]⟩, .bool false, .string ⟨#[]⟩, .bool false, .string ⟨#[]⟩, .bool false, .string ⟨#[]⟩]
theorem call4 (rs : List RP) (a b : RP) : CallOK Tryz.prog 4 [.sl (eRPs rs), .agg (eRP a ++ eRP b)] [] (.lit (.bool true)) [] := by
 by_cases h : (rs.length ≤ 3 ∧ ∀ r ∈ rs, goodR r = true) ∧ goodR a = true ∧ goodR b = true
 ·exact c4good rs a b h.1.1 h.1.2 h.2.1 h.2.2
 ·exact c4bad rs a b h
set_option maxRecDepth 100000 in
theorem lifted4 (os : Os) (started : os.Started) (H : Type) (enc : TypeId × Value → H) :
  ReturnsInHanded {} Tryz.checked os 4 .any (fun w args => (Rows.cellSplitOrderSpec.pre enc Tryz.prog Tryz.f4 Rows.cellSplitOrderRow.domain false w args ∧ laidMetH Tryz.prog Rows.cellSplitOrderRow.laid w) ∧ sizedMet enc Tryz.prog Tryz.f4 (OpenSpec.ofChange Rows.cellSplitOrderSpec) false w args)
   (Rows.cellSplitOrderSpec.post enc Tryz.prog Tryz.f4 false true false false) := by
 refine returnsInHanded_of_change_and (C := Tryz.checked) (X := fun w _ => laidMetH Tryz.prog Rows.cellSplitOrderRow.laid w) (fun _ _ _ hh h => h.of_heap hh) own started (by kernel_rfl) Tryz.func4
  (ChangeSpec.witness_shaped (enc := enc) (C := Tryz.checked) (os := os) (X := fun w _ => laidMetH Tryz.prog Rows.cellSplitOrderRow.laid w) false (World.laidAll Tryz.prog os Rows.cellSplitOrderRow.laid) #[.slice none 0 0, .agg (zeroPlane ++ zeroPlane)] 8 (World.laidAll_os _ _ _)
   (World.shaped_of_ZipB (by kernel_rfl) (by kernel_rfl)) (by kernel_rfl) (by kernel_rfl) (by kernel_rfl)
   (by rw [MakeChecks.laidMetH_plain _ _ _ (by kernel_rfl)]; exact laidMet_laidAll _ (by kernel_rfl) (by kernel_rfl))) ?_
 intro W base args ds gs before hval0 hW _ _ _ _
 have hval : ∀ (j : Nat) t v, Tryz.f4.params[j]? = some t → args[j]? = some v → Value.okWide Tryz.prog W .any base t v := hval0
 have hW' := hW
 obtain ⟨p, q, hA0, hV, rfl, _, _⟩ := hW
 have hA : DataW.TrodAll enc Tryz.prog W 0 (fun _ => true) true Tryz.f4.params.toList args.toList ds p := hA0
 rw [Tryz.params4] at hA hval
 obtain ⟨v0, v1, d0, d1, p0, p1, rfl, rfl, rfl, h0, h1⟩ := trodAll_two hA
 obtain ⟨rfl, rfl⟩ := trodVars_none hV
 obtain ⟨r1, s1, hw1, hx1, rfl, rfl, rfl⟩ := open48 tyOk st_u48 st_c48 (hval 1 48 v1 rfl rfl) h1
 rcases open22 tyOk (hval 0 22 v0 rfl rfl) h0 with ⟨rfl, rfl, rfl⟩ | ⟨b, off, len, cap, R, rfl, hL, rfl, rfl⟩
 ·simp only [List.append_nil] at hW'
  refine (calls_true (W := W) (vals := [.slice none 0 0, .agg (cR r1 ++ cR s1).toArray]) (call4 [] r1 s1) (RelL.cons .slnil (RelL.cons (rel48 _ r1 s1) RelL.nil))).mono ?_
  rintro e W' ⟨rfl, hos, hou, hsz, hold⟩
  refine ⟨_, rfl, post_grown rfl hW' hos hou hold (fun _ _ _ => trodAll_mk1 (shut_bool u4 _)) (fun sp hsp => ?_) rfl (ok_one (by kernel_rfl) rfl (okWide_bool_mk u4 _))⟩
  have := trodAll_mk2 (nil22 (enc := enc) (W := W') (sp := sp) tyOk) (back48 (enc := enc) (W := W') (sp := sp) tyOk st_u48 st_c48 hw1 hx1)
  simp only [List.append_nil, List.nil_append] at this ⊢
  exact this
 ·simp only [List.append_nil] at hW'
  refine (calls_true (W := W) (vals := [.slice (some ⟨b, off, none⟩) len cap, .agg (cR r1 ++ cR s1).toArray]) (call4 ((List.range len).map R) r1 s1) (RelL.cons (rel22 hL) (RelL.cons (rel48 _ r1 s1) RelL.nil))).mono ?_
  rintro e W' ⟨rfl, hos, hou, hsz, hold⟩
  refine ⟨_, rfl, post_grown rfl hW' hos hou hold (fun _ _ _ => trodAll_mk1 (shut_bool u4 _)) (fun sp hsp => ?_) rfl (ok_one (by kernel_rfl) rfl (okWide_bool_mk u4 _))⟩
  have := trodAll_mk2 (back22 (enc := enc) tyOk (hL.mono hold) (hsp b hL.lt)) (back48 (enc := enc) (W := W') (sp := sp) tyOk st_u48 st_c48 hw1 hx1)
  simp only [List.append_nil, List.nil_append] at this ⊢
  exact this
theorem fn4 : Tryz.prog.funcNamed "voussoir/voussoirlaw09.CellSplitOrder" = some 4 := by kernel_rfl
theorem in4 : Tryz.f4.isInstance Tryz.prog Rows.cellSplitOrderRow.origin Rows.cellSplitOrderRow.targs := of_decide_eq_true (by kernel_rfl)
theorem wr4 : Tryz.f4.isWrapper Tryz.prog Rows.cellSplitOrderRow.wrapper Rows.cellSplitOrderRow.mainSum := by unfold Func.isWrapper; first | (rw [if_pos (by decide +kernel)]; kernel_rfl) | (rw [if_neg (by decide +kernel)]; exact ⟨rfl, rfl⟩)
theorem row4 : Rows.CellSplitOrderSaid :=
 OpenClaim.holds_of_wide 4 Tryz.f4 rfl rfl rfl rfl rfl rfl rfl ⟨rfl, rfl, rfl, rfl, rfl⟩ rfl rfl rfl rfl rfl fn4 Tryz.func4 fa4 in4 wr4
  (fun os started H enc _ => lifted4 os started H enc)
theorem tx4 : Rows.cellSplitOrderRow.wfByText (OpenSpec.ofChange Rows.cellSplitOrderSpec) = true := by kernel_rfl
theorem mainT : Tryz.prog.mainIs = some (true, "0db640cacd3e2513037d21af5e10ff83a19336d09181d6a154418af0a36e3750".toList) := by kernel_rfl
theorem looksT : false = Tryz.prog.looks [] := by kernel_rfl
theorem goes4 : false = Rows.cellSplitOrderRow.goesBy Tryz.prog := by kernel_rfl
theorem stand4 : ([22, 48].all fun u => !Tryz.prog.wantsStandIn u) = true := by kernel_rfl
theorem cellSplitOrder_holds : Rows.CellSplitOrderCardSaid :=
 Claim7.holds_tied_plain_at .later [] [.data, .pinned] true (true, "0db640cacd3e2513037d21af5e10ff83a19336d09181d6a154418af0a36e3750") false row4 (fun _ h => by cases h) tx4 (fun _ h => by cases h) cellSplitOrder_row_tie rfl ⟨rfl, rfl⟩ mainT rfl
  (fun f fn hf hfn => by
   obtain rfl : f = 4 := Option.some.inj (fn4.symm.trans hf) |>.symm
   obtain rfl : fn = Tryz.f4 := (Option.some.inj (Tryz.func4.symm.trans hfn)).symm
   exact ⟨looksT, fun j t ht => by
    rw [Tryz.params4] at ht
    have hm : t ∈ [22, 48] := by simpa using Array.mem_of_getElem? ht
    exact (show Tryz.prog.wantsStandIn t = false by simpa using List.all_eq_true.1 stand4 t hm)⟩)
  goes4
end Go.Proofs.YtjlfgmhmalbiiaaGreatDoor
