/- Proved here: the law CellClassification of the given program returns true for every input that its statement admits, by a walk through its code and the geometry of cells; no condition beyond those of the given statement. -/
import Derived.Test.YtjlfgmhmalbiiaaGreatDoorTie
import Derived.Test.YtjlfgmhmalbiiaaGreatDoorCards
import Derived.ProofKit
import Derived.LaidMore
import Derived.Lay
import Derived.SevenTiedAt
import Derived.Stop.Joined
import Derived.Test.YtjlfgmhmalbiiaaGreatDoorU37
import Derived.Test.YtjlfgmhmalbiiaaGreatDoorU41
set_option linter.all false
namespace Go.Proofs.YtjlfgmhmalbiiaaGreatDoor
open Go Go.Sx Go.Proofs Go.Proofs.Vx Go.ChangeShapes Go.WideShapes Go.ChangeAt Go.RowKit
theorem own:ownKnob Tryz.prog.godebug=none:=by kernel_rfl
theorem u4:Tryz.prog.underlying 4=some .bool:=by kernel_rfl
def zeroPlane:Array Value:=#[.bool false,.string ⟨#[]⟩,.bool false,.string ⟨#[]⟩,.bool false,.string ⟨#[]⟩,.bool false,.string ⟨#[]⟩]
theorem call5 (rs:List RP) (x:RP):CallOK Tryz.prog 5 [.sl (eRPs rs),.agg (eRP x)] [] (.lit (.bool true)) []:=by
 by_cases h:rs.length≤5∧∀ r∈rs,goodR r=true
 ·by_cases hx:bigR x=true
  ·exact c5big rs x h.1 h.2 hx
  ·exact c5good rs x h.1 h.2 hx
 ·exact c5bad rs x h
set_option maxRecDepth 100000 in
theorem lifted5 (os : Os) (started : os.Started) (H : Type) (enc : TypeId × Value → H) :
  ReturnsInHanded {} Tryz.checked os 5 .any (fun w args=>(Rows.cellClassificationSpec.pre enc Tryz.prog Tryz.f5 Rows.cellClassificationRow.domain false w args∧laidMetH Tryz.prog Rows.cellClassificationRow.laid w)∧sizedMet enc Tryz.prog Tryz.f5 (OpenSpec.ofChange Rows.cellClassificationSpec) false w args)
   (Rows.cellClassificationSpec.post enc Tryz.prog Tryz.f5 false true false false):=by
 refine returnsInHanded_of_change_and (C:=Tryz.checked) (X:=fun w _=>laidMetH Tryz.prog Rows.cellClassificationRow.laid w) (fun _ _ _ hh h=>h.of_heap hh) own started (by kernel_rfl) Tryz.func5
  (ChangeSpec.witness_shaped (enc:=enc) (C:=Tryz.checked) (os:=os) (X:=fun w _=>laidMetH Tryz.prog Rows.cellClassificationRow.laid w) false (World.laidAll Tryz.prog os Rows.cellClassificationRow.laid) #[.slice none 0 0,.agg zeroPlane] 8 (World.laidAll_os _ _ _)
   (World.shaped_of_ZipB (by kernel_rfl) (by kernel_rfl)) (by kernel_rfl) (by kernel_rfl) (by kernel_rfl)
   (by rw[MakeChecks.laidMetH_plain _ _ _ (by kernel_rfl)];exact laidMet_laidAll _ (by kernel_rfl) (by kernel_rfl))) ?_
 intro W base args ds gs before hval0 hW _ _ _ _
 have hval:∀ (j:Nat) t v,Tryz.f5.params[j]?=some t→args[j]?=some v→Value.okWide Tryz.prog W .any base t v:=hval0
 have hW':=hW
 obtain ⟨p,q,hA0,hV,rfl,_,_⟩:=hW
 have hA:DataW.TrodAll enc Tryz.prog W 0 (fun _=>true) true Tryz.f5.params.toList args.toList ds p:=hA0
 rw[Tryz.params5]at hA hval
 obtain ⟨v0,v1,d0,d1,p0,p1,rfl,rfl,rfl,h0,h1⟩:=trodAll_two hA
 obtain ⟨rfl,rfl⟩:=trodVars_none hV
 obtain ⟨r1,hw1,rfl,rfl,rfl⟩:=openS tyOk st_s51 st_c51 (hval 1 51 v1 rfl rfl) h1
 rcases open22 tyOk (hval 0 22 v0 rfl rfl) h0 with ⟨rfl,rfl,rfl⟩|⟨b,off,len,cap,R,rfl,hL,rfl,rfl⟩
 ·simp only[List.append_nil]at hW'
  refine (calls_true (W:=W) (vals:=[.slice none 0 0,.agg (cR r1).toArray]) (call5 [] r1) (RelL.cons .slnil (RelL.cons (rel27 _ r1) RelL.nil))).mono ?_
  rintro e W' ⟨rfl,hos,hou,hsz,hold⟩
  refine ⟨_,rfl,post_grown rfl hW' hos hou hold (fun _ _ _=>trodAll_mk1 (shut_bool u4 _)) (fun sp hsp=>?_) rfl (ok_one (by kernel_rfl) rfl (okWide_bool_mk u4 _))⟩
  have:=trodAll_mk2 (nil22 (enc:=enc) (W:=W') (sp:=sp) tyOk) (backS (enc:=enc) (W:=W') (sp:=sp) tyOk st_s51 st_c51 hw1)
  simp only[List.append_nil,List.nil_append]at this ⊢
  exact this
 ·simp only[List.append_nil]at hW'
  refine (calls_true (W:=W) (vals:=[.slice (some ⟨b,off,none⟩) len cap,.agg (cR r1).toArray]) (call5 ((List.range len).map R) r1) (RelL.cons (rel22 hL) (RelL.cons (rel27 _ r1) RelL.nil))).mono ?_
  rintro e W' ⟨rfl,hos,hou,hsz,hold⟩
  refine ⟨_,rfl,post_grown rfl hW' hos hou hold (fun _ _ _=>trodAll_mk1 (shut_bool u4 _)) (fun sp hsp=>?_) rfl (ok_one (by kernel_rfl) rfl (okWide_bool_mk u4 _))⟩
  have:=trodAll_mk2 (back22 (enc:=enc) tyOk (hL.mono hold) (hsp b hL.lt)) (backS (enc:=enc) (W:=W') (sp:=sp) tyOk st_s51 st_c51 hw1)
  simp only[List.append_nil,List.nil_append]at this ⊢
  exact this
theorem fn5:Tryz.prog.funcNamed "voussoir/voussoirlaw09.CellClassification" = some 5:=by kernel_rfl
theorem in5:Tryz.f5.isInstance Tryz.prog Rows.cellClassificationRow.origin Rows.cellClassificationRow.targs:=of_decide_eq_true (by kernel_rfl)
theorem wr5:Tryz.f5.isWrapper Tryz.prog Rows.cellClassificationRow.wrapper Rows.cellClassificationRow.mainSum:=by unfold Func.isWrapper;first|(rw[if_pos (by decide +kernel)];kernel_rfl)|(rw[if_neg (by decide +kernel)];exact ⟨rfl,rfl⟩)
theorem row5:Rows.CellClassificationSaid :=
 OpenClaim.holds_of_wide 5 Tryz.f5 rfl rfl rfl rfl rfl rfl rfl ⟨rfl,rfl,rfl,rfl,rfl⟩ rfl rfl rfl rfl rfl fn5 Tryz.func5 fa5 in5 wr5
  (fun os started H enc _=>lifted5 os started H enc)
theorem tx5:Rows.cellClassificationRow.wfByText (OpenSpec.ofChange Rows.cellClassificationSpec)=true:=by kernel_rfl
theorem mainT:Tryz.prog.mainIs=some (true, "0db640cacd3e2513037d21af5e10ff83a19336d09181d6a154418af0a36e3750".toList):=by kernel_rfl
theorem looksT:false=Tryz.prog.looks []:=by kernel_rfl
theorem goes5:false=Rows.cellClassificationRow.goesBy Tryz.prog:=by kernel_rfl
theorem stand5:([22,51].all fun u=>!Tryz.prog.wantsStandIn u)=true:=by kernel_rfl
theorem cellClassification_holds:Rows.CellClassificationCardSaid :=
 Claim7.holds_tied_plain_at .later [] [.data,.pinned] true (true, "0db640cacd3e2513037d21af5e10ff83a19336d09181d6a154418af0a36e3750") false row5 (fun _ h=>by cases h) tx5 (fun _ h=>by cases h) cellClassification_row_tie rfl ⟨rfl,rfl⟩ mainT rfl
  (fun f fn hf hfn=>by
   obtain rfl:f=5:=Option.some.inj (fn5.symm.trans hf) |>.symm
   obtain rfl:fn=Tryz.f5:=(Option.some.inj (Tryz.func5.symm.trans hfn)).symm
   exact ⟨looksT,fun j t ht=>by
    rw[Tryz.params5]at ht
    have hm:t∈[22,51]:=by simpa using Array.mem_of_getElem? ht
    exact (show Tryz.prog.wantsStandIn t=false by simpa using List.all_eq_true.1 stand5 t hm)⟩)
  goes5
end Go.Proofs.YtjlfgmhmalbiiaaGreatDoor
