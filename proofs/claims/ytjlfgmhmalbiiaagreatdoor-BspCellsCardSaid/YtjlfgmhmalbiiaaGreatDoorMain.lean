/- Proved here: the law BspCells of the given program returns true for every input that its statement admits, by a walk through its code and the geometry of cells; no condition beyond those of the given statement. -/
import Derived.Test.YtjlfgmhmalbiiaaGreatDoorTie
import Derived.Test.YtjlfgmhmalbiiaaGreatDoorCards
import Derived.ProofKit
import Derived.LaidMore
import Derived.Lay
import Derived.SevenTiedAt
import Derived.Stop.Joined
import Derived.Test.YtjlfgmhmalbiiaaGreatDoorW42
set_option linter.all false
open Option renaming some → Aa
namespace Go.Proofs.YtjlfgmhmalbiiaaGreatDoor
open Go Go.Sx Go.Proofs Go.Proofs.Vx Go.ChangeShapes Go.WideShapes Go.ChangeAt Go.RowKit
theorem own:ownKnob Tryz.prog.godebug=none:=by kernel_rfl
theorem u4:Tryz.prog.underlying 4=some .bool:=by kernel_rfl
def b5d:Array Value:=#[.bool false,.string ⟨#[]⟩,.bool false,.string ⟨#[]⟩,.bool false,.string ⟨#[]⟩,.bool false,.string ⟨#[]⟩]
set_option maxRecDepth 100000 in
theorem c1d (os : Os) (started : os.Started) (H : Type) (enc : TypeId × Value → H) :
  ReturnsInHanded {} Tryz.checked os 17 .any (fun w args=>(Rows.bspCellsSpec.pre enc Tryz.prog Tryz.f17 Rows.bspCellsRow.domain false w args∧laidMetH Tryz.prog Rows.bspCellsRow.laid w)∧sizedMet enc Tryz.prog Tryz.f17 (OpenSpec.ofChange Rows.bspCellsSpec) false w args)
   (Rows.bspCellsSpec.post enc Tryz.prog Tryz.f17 false true false false):=by
 refine returnsInHanded_of_change_and (C:=Tryz.checked) (X:=fun w _=>laidMetH Tryz.prog Rows.bspCellsRow.laid w) (fun _ _ _ hh h=>h.of_heap hh) own started (by kernel_rfl) Tryz.func17
  (ChangeSpec.witness_shaped (enc:=enc) (C:=Tryz.checked) (os:=os) (X:=fun w _=>laidMetH Tryz.prog Rows.bspCellsRow.laid w) false (World.laidAll Tryz.prog os Rows.bspCellsRow.laid) #[.agg #[.int .i64 0,.slice none 0 0],.agg b5d] 8 (World.laidAll_os _ _ _)
   (World.shaped_of_ZipB (by kernel_rfl) (by kernel_rfl)) (by kernel_rfl) (by kernel_rfl) (by kernel_rfl)
   (by rw[MakeChecks.laidMetH_plain _ _ _ (by kernel_rfl)];exact laidMet_laidAll _ (by kernel_rfl) (by kernel_rfl))) ?_
 intro W base args ds gs before hval0 hW _ _ _ _
 have hval:∀ (j:Nat) t v,Tryz.f17.params[j]?=some t→args[j]?=some v→Value.okWide Tryz.prog W .any base t v:=hval0
 have hW':=hW
 have hlt:=hW.lt
 obtain⟨p,q,hA0,hV,rfl,_,_⟩:=hW
 have hA:DataW.TrodAll enc Tryz.prog W 0 (fun _=>true) true Tryz.f17.params.toList args.toList ds p:=hA0
 have hA2:=hA
 rw[Tryz.params17]at hA hval
 obtain⟨v0,v1,d0,d1,p0,p1,rfl,rfl,rfl,h0,h1⟩:=trodAll_two hA
 obtain⟨rfl,rfl⟩:=trodVars_none hV
 obtain⟨k0,N0,hr0⟩:=c9g tyOk (hval 0 64 v0 rfl rfl) h0
 obtain⟨r1,hr1⟩:=c9h tyOk (hval 1 51 v1 rfl rfl) h1
 simp only[List.append_nil]at hW' hlt
 refine (b4w (W:=W) (vals:=[v0,v1]) (d0l k0 N0 r1) (RelL.cons hr0 (RelL.cons hr1 RelL.nil))).mono ?_
 rintro e W' ⟨rfl,hos,hou,hsz,hold⟩
 exact⟨_,rfl,b4h rfl hW' hos hou hold (fun _ _ _=>trodAll_mk1 (shut_bool u4 _)) (fun sp hsp=>b4y kidsT fullT hold hsp (by rw[Tryz.params17];decide +kernel) hlt hA2) rfl (ok_one (by kernel_rfl) rfl (okWide_bool_mk u4 _))⟩
theorem fn17:Tryz.prog.funcNamed "voussoir/voussoirlaw10.BspCells" = some 17:=by kernel_rfl
theorem in17:Tryz.f17.isInstance Tryz.prog Rows.bspCellsRow.origin Rows.bspCellsRow.targs:=of_decide_eq_true (by kernel_rfl)
theorem wr17:Tryz.f17.isWrapper Tryz.prog Rows.bspCellsRow.wrapper Rows.bspCellsRow.mainSum:=by unfold Func.isWrapper;first|(rw[if_pos (by decide +kernel)];kernel_rfl)|(rw[if_neg (by decide +kernel)];exact⟨rfl,rfl⟩)
theorem row17:Rows.BspCellsSaid :=
 OpenClaim.holds_of_wide 17 Tryz.f17 rfl rfl rfl rfl rfl rfl rfl ⟨rfl,rfl,rfl,rfl,rfl⟩ rfl rfl rfl rfl rfl fn17 Tryz.func17 fa17 in17 wr17
  (fun os started H enc _=>c1d os started H enc)
theorem tx17:Rows.bspCellsRow.wfByText (OpenSpec.ofChange Rows.bspCellsSpec)=true:=by kernel_rfl
theorem mainT:Tryz.prog.mainIs=some (true, "0db640cacd3e2513037d21af5e10ff83a19336d09181d6a154418af0a36e3750".toList):=by kernel_rfl
theorem c9o:false=Tryz.prog.looks []:=by kernel_rfl
theorem c9z:false=Rows.bspCellsRow.goesBy Tryz.prog:=by kernel_rfl
theorem c4k:([64,51].all fun u=>!Tryz.prog.wantsStandIn u)=true:=by kernel_rfl
theorem bspCells_holds:Rows.BspCellsCardSaid :=
 Claim7.holds_tied_plain_at .later [] [.data,.pinned] true (true, "0db640cacd3e2513037d21af5e10ff83a19336d09181d6a154418af0a36e3750") false row17 (fun _ h=>by cases h) tx17 (fun _ h=>by cases h) bspCells_row_tie rfl ⟨rfl,rfl⟩ mainT rfl
  (fun f fn hf hfn=>by
   obtain rfl:f=17:=Aa.inj (fn17.symm.trans hf) |>.symm
   obtain rfl:fn=Tryz.f17:=(Aa.inj (Tryz.func17.symm.trans hfn)).symm
   exact⟨c9o,fun j t ht=>by
    rw[Tryz.params17]at ht
    have hm:t∈[64,51]:=by simpa using Array.mem_of_getElem? ht
    exact (show Tryz.prog.wantsStandIn t=false by simpa using List.all_eq_true.1 c4k t hm)⟩)
  c9z
end Go.Proofs.YtjlfgmhmalbiiaaGreatDoor
