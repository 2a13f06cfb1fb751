/- Proved here: the law CellSplitting of the given program returns true for every input that its statement admits, by a walk through its code and the geometry of cells; no condition beyond those of the given statement. -/
import Derived.Test.YtjlfgmhmalbiiaaGreatDoorTie
import Derived.Test.YtjlfgmhmalbiiaaGreatDoorCards
import Derived.ProofKit
import Derived.LaidMore
import Derived.Lay
import Derived.SevenTiedAt
import Derived.Stop.Joined
import Derived.Test.YtjlfgmhmalbiiaaGreatDoorU39
import Derived.Test.YtjlfgmhmalbiiaaGreatDoorU40
set_option linter.all false
namespace Go.Proofs.YtjlfgmhmalbiiaaGreatDoor
open Go Go.Sx Go.Proofs Go.Proofs.Vx Go.ChangeShapes Go.WideShapes Go.ChangeAt Go.RowKit
theorem own:ownKnob Tryz.prog.godebug=none:=by kernel_rfl
theorem u4:Tryz.prog.underlying 4=some .bool:=by kernel_rfl
def zeroPlane:Array Value:=#[.bool false,.string ⟨#[]⟩,.bool false,.string ⟨#[]⟩,.bool false,.string ⟨#[]⟩,.bool false,.string ⟨#[]⟩]
theorem call15 (rs:List RP):CallOK Tryz.prog 15 [.sl (eRPs rs)] [] (.lit (.bool true)) []:=by
 by_cases h:rs.length≤5∧∀ r∈rs,goodR r=true
 ·exact c15good rs h.1 h.2
 ·exact c15bad rs h
set_option maxRecDepth 100000 in
theorem lifted15 (os : Os) (started : os.Started) (H : Type) (enc : TypeId × Value → H) :
  ReturnsInHanded {} Tryz.checked os 15 .any (fun w args=>(Rows.cellSplittingSpec.pre enc Tryz.prog Tryz.f15 Rows.cellSplittingRow.domain false w args∧laidMetH Tryz.prog Rows.cellSplittingRow.laid w)∧sizedMet enc Tryz.prog Tryz.f15 (OpenSpec.ofChange Rows.cellSplittingSpec) false w args)
   (Rows.cellSplittingSpec.post enc Tryz.prog Tryz.f15 false true false false):=by
 refine returnsInHanded_of_change_and (C:=Tryz.checked) (X:=fun w _=>laidMetH Tryz.prog Rows.cellSplittingRow.laid w) (fun _ _ _ hh h=>h.of_heap hh) own started (by kernel_rfl) Tryz.func15
  (ChangeSpec.witness_shaped (enc:=enc) (C:=Tryz.checked) (os:=os) (X:=fun w _=>laidMetH Tryz.prog Rows.cellSplittingRow.laid w) false (World.laidAll Tryz.prog os Rows.cellSplittingRow.laid) #[.slice none 0 0] 8 (World.laidAll_os _ _ _)
   (World.shaped_of_ZipB (by kernel_rfl) (by kernel_rfl)) (by kernel_rfl) (by kernel_rfl) (by kernel_rfl)
   (by rw[MakeChecks.laidMetH_plain _ _ _ (by kernel_rfl)];exact laidMet_laidAll _ (by kernel_rfl) (by kernel_rfl))) ?_
 intro W base args ds gs before hval0 hW _ _ _ _
 have hval:∀ (j:Nat) t v,Tryz.f15.params[j]?=some t→args[j]?=some v→Value.okWide Tryz.prog W .any base t v:=hval0
 have hW':=hW
 obtain ⟨p,q,hA0,hV,rfl,_,_⟩:=hW
 have hA:DataW.TrodAll enc Tryz.prog W 0 (fun _=>true) true Tryz.f15.params.toList args.toList ds p:=hA0
 rw[Tryz.params15]at hA hval
 obtain ⟨v0,d0,rfl,rfl,h0⟩:=trodAll_one hA
 obtain ⟨rfl,rfl⟩:=trodVars_none hV
 rcases open22 tyOk (hval 0 22 v0 rfl rfl) h0 with ⟨rfl,rfl,rfl⟩|⟨b,off,len,cap,R,rfl,hL,rfl,rfl⟩
 ·simp only[List.append_nil]at hW'
  refine (calls_true (W:=W) (vals:=[.slice none 0 0]) (call15 []) (RelL.cons .slnil RelL.nil)).mono ?_
  rintro e W' ⟨rfl,hos,hou,hsz,hold⟩
  refine ⟨_,rfl,post_grown rfl hW' hos hou hold (fun _ _ _=>trodAll_mk1 (shut_bool u4 _)) (fun sp hsp=>?_) rfl (ok_one (by kernel_rfl) rfl (okWide_bool_mk u4 _))⟩
  have:=trodAll_mk1 (nil22 (enc:=enc) (W:=W') (sp:=sp) tyOk)
  simp only[List.append_nil,List.nil_append]at this ⊢
  exact this
 ·simp only[List.append_nil]at hW'
  refine (calls_true (W:=W) (vals:=[.slice (some ⟨b,off,none⟩) len cap]) (call15 ((List.range len).map R)) (RelL.cons (rel22 hL) RelL.nil)).mono ?_
  rintro e W' ⟨rfl,hos,hou,hsz,hold⟩
  refine ⟨_,rfl,post_grown rfl hW' hos hou hold (fun _ _ _=>trodAll_mk1 (shut_bool u4 _)) (fun sp hsp=>?_) rfl (ok_one (by kernel_rfl) rfl (okWide_bool_mk u4 _))⟩
  have:=trodAll_mk1 (back22 (enc:=enc) tyOk (hL.mono hold) (hsp b hL.lt))
  simp only[List.append_nil,List.nil_append]at this ⊢
  exact this
theorem fn15:Tryz.prog.funcNamed "voussoir/voussoirlaw09.CellSplitting" = some 15:=by kernel_rfl
theorem in15:Tryz.f15.isInstance Tryz.prog Rows.cellSplittingRow.origin Rows.cellSplittingRow.targs:=of_decide_eq_true (by kernel_rfl)
theorem wr15:Tryz.f15.isWrapper Tryz.prog Rows.cellSplittingRow.wrapper Rows.cellSplittingRow.mainSum:=by unfold Func.isWrapper;first|(rw[if_pos (by decide +kernel)];kernel_rfl)|(rw[if_neg (by decide +kernel)];exact ⟨rfl,rfl⟩)
theorem row15:Rows.CellSplittingSaid :=
 OpenClaim.holds_of_wide 15 Tryz.f15 rfl rfl rfl rfl rfl rfl rfl ⟨rfl,rfl,rfl,rfl,rfl⟩ rfl rfl rfl rfl rfl fn15 Tryz.func15 fa15 in15 wr15
  (fun os started H enc _=>lifted15 os started H enc)
theorem tx15:Rows.cellSplittingRow.wfByText (OpenSpec.ofChange Rows.cellSplittingSpec)=true:=by kernel_rfl
theorem mainT:Tryz.prog.mainIs=some (true, "0db640cacd3e2513037d21af5e10ff83a19336d09181d6a154418af0a36e3750".toList):=by kernel_rfl
theorem looksT:false=Tryz.prog.looks []:=by kernel_rfl
theorem goes15:false=Rows.cellSplittingRow.goesBy Tryz.prog:=by kernel_rfl
theorem stand15:([22].all fun u=>!Tryz.prog.wantsStandIn u)=true:=by kernel_rfl
theorem cellSplitting_holds:Rows.CellSplittingCardSaid :=
 Claim7.holds_tied_plain_at .later [] [.data,.pinned] true (true, "0db640cacd3e2513037d21af5e10ff83a19336d09181d6a154418af0a36e3750") false row15 (fun _ h=>by cases h) tx15 (fun _ h=>by cases h) cellSplitting_row_tie rfl ⟨rfl,rfl⟩ mainT rfl
  (fun f fn hf hfn=>by
   obtain rfl:f=15:=Option.some.inj (fn15.symm.trans hf) |>.symm
   obtain rfl:fn=Tryz.f15:=(Option.some.inj (Tryz.func15.symm.trans hfn)).symm
   exact ⟨looksT,fun j t ht=>by
    rw[Tryz.params15]at ht
    have hm:t∈[22]:=by simpa using Array.mem_of_getElem? ht
    exact (show Tryz.prog.wantsStandIn t=false by simpa using List.all_eq_true.1 stand15 t hm)⟩)
  goes15
end Go.Proofs.YtjlfgmhmalbiiaaGreatDoor
