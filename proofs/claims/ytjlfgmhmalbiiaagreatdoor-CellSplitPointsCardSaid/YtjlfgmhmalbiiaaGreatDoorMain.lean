/- Proved here: the law CellSplitPoints of the given program returns true for every input that its statement admits, by a walk through its code and the geometry of cells; no condition beyond those of the given statement. -/
import Derived.Test.YtjlfgmhmalbiiaaGreatDoorTie
import Derived.Test.YtjlfgmhmalbiiaaGreatDoorCards
import Derived.ProofKit
import Derived.LaidMore
import Derived.Lay
import Derived.SevenTiedAt
import Derived.Stop.Joined
import Derived.Test.YtjlfgmhmalbiiaaGreatDoorT35
set_option linter.all false
namespace Go.Proofs.YtjlfgmhmalbiiaaGreatDoor
open Go Go.Sx Go.Proofs Go.Proofs.Vx Go.ChangeShapes Go.WideShapes Go.ChangeAt Go.RowKit
theorem own:ownKnob Tryz.prog.godebug=none:=by kernel_rfl
theorem u4:Tryz.prog.underlying 4=some .bool:=by kernel_rfl
def zeroPlane:Array Value:=#[.bool false,.string ⟨#[]⟩,.bool false,.string ⟨#[]⟩,.bool false,.string ⟨#[]⟩,.bool false,.string ⟨#[]⟩]
theorem call14 (rs:List RP) (b x:RP):CallOK Tryz.prog 14 [.sl (eRPs rs),.agg (eRP b),.agg (eRP x)] [] (.lit (.bool true)) []:=by
 by_cases h:rs.length≤4∧∀ r∈rs,goodR r=true
 ·by_cases hb:goodR b=true
  ·by_cases hx:bigR x=true
   ·exact c14bad3 rs b x h.1 h.2 hb hx
   ·exact c14good rs b x h.1 h.2 hb hx
  ·exact c14bad2 rs b x h.1 h.2 hb
 ·exact c14bad1 rs b x h
set_option maxRecDepth 100000 in
theorem lifted14 (os : Os) (started : os.Started) (H : Type) (enc : TypeId × Value → H) :
  ReturnsInHanded {} Tryz.checked os 14 .any (fun w args=>(Rows.cellSplitPointsSpec.pre enc Tryz.prog Tryz.f14 Rows.cellSplitPointsRow.domain false w args∧laidMetH Tryz.prog Rows.cellSplitPointsRow.laid w)∧sizedMet enc Tryz.prog Tryz.f14 (OpenSpec.ofChange Rows.cellSplitPointsSpec) false w args)
   (Rows.cellSplitPointsSpec.post enc Tryz.prog Tryz.f14 false true false false):=by
 refine returnsInHanded_of_change_and (C:=Tryz.checked) (X:=fun w _=>laidMetH Tryz.prog Rows.cellSplitPointsRow.laid w) (fun _ _ _ hh h=>h.of_heap hh) own started (by kernel_rfl) Tryz.func14
  (ChangeSpec.witness_shaped (enc:=enc) (C:=Tryz.checked) (os:=os) (X:=fun w _=>laidMetH Tryz.prog Rows.cellSplitPointsRow.laid w) false (World.laidAll Tryz.prog os Rows.cellSplitPointsRow.laid) #[.slice none 0 0,.agg zeroPlane,.agg zeroPlane] 8 (World.laidAll_os _ _ _)
   (World.shaped_of_ZipB (by kernel_rfl) (by kernel_rfl)) (by kernel_rfl) (by kernel_rfl) (by kernel_rfl)
   (by rw[MakeChecks.laidMetH_plain _ _ _ (by kernel_rfl)];exact laidMet_laidAll _ (by kernel_rfl) (by kernel_rfl))) ?_
 intro W base args ds gs before hval0 hW _ _ _ _
 have hval:∀ (j:Nat) t v,Tryz.f14.params[j]?=some t→args[j]?=some v→Value.okWide Tryz.prog W .any base t v:=hval0
 have hW':=hW
 obtain ⟨p,q,hA0,hV,rfl,_,_⟩:=hW
 have hA:DataW.TrodAll enc Tryz.prog W 0 (fun _=>true) true Tryz.f14.params.toList args.toList ds p:=hA0
 rw[Tryz.params14]at hA hval
 obtain ⟨v0,v1,v2,d0,d1,d2,p0,p1,p2,rfl,rfl,rfl,h0,h1,h2⟩:=trodAll_three hA
 obtain ⟨rfl,rfl⟩:=trodVars_none hV
 obtain ⟨r1,hw1,rfl,rfl,rfl⟩:=open27 tyOk (hval 1 27 v1 rfl rfl) h1
 obtain ⟨r2,hw2,rfl,rfl,rfl⟩:=openS tyOk st_s51 st_c51 (hval 2 51 v2 rfl rfl) h2
 rcases open22 tyOk (hval 0 22 v0 rfl rfl) h0 with ⟨rfl,rfl,rfl⟩|⟨b,off,len,cap,R,rfl,hL,rfl,rfl⟩
 ·simp only[List.append_nil]at hW'
  refine (calls_true (W:=W) (vals:=[.slice none 0 0,.agg (cR r1).toArray,.agg (cR r2).toArray]) (call14 [] r1 r2) (RelL.cons .slnil (RelL.cons (rel27 _ r1) (RelL.cons (rel27 _ r2) RelL.nil)))).mono ?_
  rintro e W' ⟨rfl,hos,hou,hsz,hold⟩
  refine ⟨_,rfl,post_grown rfl hW' hos hou hold (fun _ _ _=>trodAll_mk1 (shut_bool u4 _)) (fun sp hsp=>?_) rfl (ok_one (by kernel_rfl) rfl (okWide_bool_mk u4 _))⟩
  have:=trodAll_mk3 (nil22 (enc:=enc) (W:=W') (sp:=sp) tyOk) (back27 (enc:=enc) (W:=W') (sp:=sp) tyOk hw1) (backS (enc:=enc) (W:=W') (sp:=sp) tyOk st_s51 st_c51 hw2)
  simp only[List.append_nil,List.nil_append]at this ⊢
  exact this
 ·simp only[List.append_nil]at hW'
  refine (calls_true (W:=W) (vals:=[.slice (some ⟨b,off,none⟩) len cap,.agg (cR r1).toArray,.agg (cR r2).toArray]) (call14 ((List.range len).map R) r1 r2) (RelL.cons (rel22 hL) (RelL.cons (rel27 _ r1) (RelL.cons (rel27 _ r2) RelL.nil)))).mono ?_
  rintro e W' ⟨rfl,hos,hou,hsz,hold⟩
  refine ⟨_,rfl,post_grown rfl hW' hos hou hold (fun _ _ _=>trodAll_mk1 (shut_bool u4 _)) (fun sp hsp=>?_) rfl (ok_one (by kernel_rfl) rfl (okWide_bool_mk u4 _))⟩
  have:=trodAll_mk3 (back22 (enc:=enc) tyOk (hL.mono hold) (hsp b hL.lt)) (back27 (enc:=enc) (W:=W') (sp:=sp) tyOk hw1) (backS (enc:=enc) (W:=W') (sp:=sp) tyOk st_s51 st_c51 hw2)
  simp only[List.append_nil,List.nil_append]at this ⊢
  exact this
theorem fn14:Tryz.prog.funcNamed "voussoir/voussoirlaw09.CellSplitPoints" = some 14:=by kernel_rfl
theorem in14:Tryz.f14.isInstance Tryz.prog Rows.cellSplitPointsRow.origin Rows.cellSplitPointsRow.targs:=of_decide_eq_true (by kernel_rfl)
theorem wr14:Tryz.f14.isWrapper Tryz.prog Rows.cellSplitPointsRow.wrapper Rows.cellSplitPointsRow.mainSum:=by unfold Func.isWrapper;first|(rw[if_pos (by decide +kernel)];kernel_rfl)|(rw[if_neg (by decide +kernel)];exact ⟨rfl,rfl⟩)
theorem row14:Rows.CellSplitPointsSaid :=
 OpenClaim.holds_of_wide 14 Tryz.f14 rfl rfl rfl rfl rfl rfl rfl ⟨rfl,rfl,rfl,rfl,rfl⟩ rfl rfl rfl rfl rfl fn14 Tryz.func14 fa14 in14 wr14
  (fun os started H enc _=>lifted14 os started H enc)
theorem tx14:Rows.cellSplitPointsRow.wfByText (OpenSpec.ofChange Rows.cellSplitPointsSpec)=true:=by kernel_rfl
theorem mainT:Tryz.prog.mainIs=some (true, "0db640cacd3e2513037d21af5e10ff83a19336d09181d6a154418af0a36e3750".toList):=by kernel_rfl
theorem looksT:false=Tryz.prog.looks []:=by kernel_rfl
theorem goes14:false=Rows.cellSplitPointsRow.goesBy Tryz.prog:=by kernel_rfl
theorem stand14:([22,27,51].all fun u=>!Tryz.prog.wantsStandIn u)=true:=by kernel_rfl
theorem cellSplitPoints_holds:Rows.CellSplitPointsCardSaid :=
 Claim7.holds_tied_plain_at .later [] [.data,.pinned] true (true, "0db640cacd3e2513037d21af5e10ff83a19336d09181d6a154418af0a36e3750") false row14 (fun _ h=>by cases h) tx14 (fun _ h=>by cases h) cellSplitPoints_row_tie rfl ⟨rfl,rfl⟩ mainT rfl
  (fun f fn hf hfn=>by
   obtain rfl:f=14:=Option.some.inj (fn14.symm.trans hf) |>.symm
   obtain rfl:fn=Tryz.f14:=(Option.some.inj (Tryz.func14.symm.trans hfn)).symm
   exact ⟨looksT,fun j t ht=>by
    rw[Tryz.params14]at ht
    have hm:t∈[22,27,51]:=by simpa using Array.mem_of_getElem? ht
    exact (show Tryz.prog.wantsStandIn t=false by simpa using List.all_eq_true.1 stand14 t hm)⟩)
  goes14
end Go.Proofs.YtjlfgmhmalbiiaaGreatDoor
