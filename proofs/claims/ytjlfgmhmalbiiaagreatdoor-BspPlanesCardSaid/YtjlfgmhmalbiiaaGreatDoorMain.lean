/- Proved here: the law BspPlanes of the given program returns true for every input that its statement admits, by a walk through its code and the geometry of cells; no condition beyond those of the given statement. -/
import Derived.Test.YtjlfgmhmalbiiaaGreatDoorTie
import Derived.Test.YtjlfgmhmalbiiaaGreatDoorCards
import Derived.ProofKit
import Derived.LaidMore
import Derived.Lay
import Derived.SevenTiedAt
import Derived.Stop.Joined
import Derived.Test.YtjlfgmhmalbiiaaGreatDoorXD1
import Derived.Test.YtjlfgmhmalbiiaaGreatDoorXD3
set_option linter.all false
open Option renaming some → Aa
namespace Go.Proofs.YtjlfgmhmalbiiaaGreatDoor
open Go Go.Sx Go.Proofs Go.Proofs.Vx Go.ChangeShapes Go.WideShapes Go.ChangeAt Go.RowKit
theorem own:ownKnob Tryz.prog.godebug=none:=by kernel_rfl
theorem u4:Tryz.prog.underlying 4=some .bool:=by kernel_rfl
def zeroPlane:Array Value:=#[.bool false,.string ⟨#[]⟩,.bool false,.string ⟨#[]⟩,.bool false,.string ⟨#[]⟩,.bool false,.string ⟨#[]⟩]
set_option maxRecDepth 100000 in
theorem c2r (os : Os) (started : os.Started) (H : Type) (enc : TypeId × Value → H) :
  ReturnsInHanded {} Tryz.checked os 13 .any (fun w args=>(Rows.bspPlanesSpec.pre enc Tryz.prog Tryz.f13 Rows.bspPlanesRow.domain false w args∧laidMetH Tryz.prog Rows.bspPlanesRow.laid w)∧sizedMet enc Tryz.prog Tryz.f13 (OpenSpec.ofChange Rows.bspPlanesSpec) false w args)
   (Rows.bspPlanesSpec.post enc Tryz.prog Tryz.f13 false true false false):=by
 refine returnsInHanded_of_change_and (C:=Tryz.checked) (X:=fun w _=>laidMetH Tryz.prog Rows.bspPlanesRow.laid w) (fun _ _ _ hh h=>h.of_heap hh) own started (by kernel_rfl) Tryz.func13
  (ChangeSpec.witness_shaped (enc:=enc) (C:=Tryz.checked) (os:=os) (X:=fun w _=>laidMetH Tryz.prog Rows.bspPlanesRow.laid w) false (World.laidAll Tryz.prog os Rows.bspPlanesRow.laid) #[.agg #[.int .i64 0,.slice none 0 0]] 8 (World.laidAll_os _ _ _)
   (World.shaped_of_ZipB (by kernel_rfl) (by kernel_rfl)) (by kernel_rfl) (by kernel_rfl) (by kernel_rfl)
   (by rw[MakeChecks.laidMetH_plain _ _ _ (by kernel_rfl)];exact laidMet_laidAll _ (by kernel_rfl) (by kernel_rfl))) ?_
 intro W base args ds gs before hval0 hW _ _ _ _
 have hval:∀ (j:Nat) t v,Tryz.f13.params[j]?=some t→args[j]?=some v→Value.okWide Tryz.prog W .any base t v:=hval0
 have hW':=hW
 have hlt:=hW.lt
 obtain⟨p,q,hA0,hV,rfl,_,_⟩:=hW
 have hA:DataW.TrodAll enc Tryz.prog W 0 (fun _=>true) true Tryz.f13.params.toList args.toList ds p:=hA0
 have hA2:=hA
 rw[Tryz.params13]at hA hval
 obtain⟨v0,d0,rfl,rfl,h0⟩:=trodAll_one hA
 obtain⟨rfl,rfl⟩:=trodVars_none hV
 obtain⟨k0,N0,hr0⟩:=b1h tyOk (hval 0 64 v0 rfl rfl) h0
 simp only[List.append_nil]at hW' hlt
 refine (a5h (W:=W) (vals:=[v0]) (d2e k0 N0) (RelL.cons hr0 RelL.nil)).mono ?_
 rintro e W' ⟨rfl,hos,hou,hsz,hold⟩
 exact⟨_,rfl,a4o rfl hW' hos hou hold (fun _ _ _=>trodAll_mk1 (shut_bool u4 _)) (fun sp hsp=>a5i b2l b2q hold hsp (by rw[Tryz.params13];decide +kernel) hlt hA2) rfl (ok_one (by kernel_rfl) rfl (okWide_bool_mk u4 _))⟩
theorem fn13:Tryz.prog.funcNamed "voussoir/voussoirlaw10.BspPlanes" = some 13:=by kernel_rfl
theorem in13:Tryz.f13.isInstance Tryz.prog Rows.bspPlanesRow.origin Rows.bspPlanesRow.targs:=of_decide_eq_true (by kernel_rfl)
theorem wr13:Tryz.f13.isWrapper Tryz.prog Rows.bspPlanesRow.wrapper Rows.bspPlanesRow.mainSum:=by unfold Func.isWrapper;first|(rw[if_pos (by decide +kernel)];kernel_rfl)|(rw[if_neg (by decide +kernel)];exact⟨rfl,rfl⟩)
theorem row13:Rows.BspPlanesSaid :=
 OpenClaim.holds_of_wide 13 Tryz.f13 rfl rfl rfl rfl rfl rfl rfl ⟨rfl,rfl,rfl,rfl,rfl⟩ rfl rfl rfl rfl rfl fn13 Tryz.func13 fa13 in13 wr13
  (fun os started H enc _=>c2r os started H enc)
theorem tx13:Rows.bspPlanesRow.wfByText (OpenSpec.ofChange Rows.bspPlanesSpec)=true:=by kernel_rfl
theorem mainT:Tryz.prog.mainIs=some (true, "0db640cacd3e2513037d21af5e10ff83a19336d09181d6a154418af0a36e3750".toList):=by kernel_rfl
theorem looksT:false=Tryz.prog.looks []:=by kernel_rfl
theorem d1r:false=Rows.bspPlanesRow.goesBy Tryz.prog:=by kernel_rfl
theorem c6e:([64].all fun u=>!Tryz.prog.wantsStandIn u)=true:=by kernel_rfl
theorem bspPlanes_holds:Rows.BspPlanesCardSaid :=
 Claim7.holds_tied_plain_at .later [] [.data,.pinned] true (true, "0db640cacd3e2513037d21af5e10ff83a19336d09181d6a154418af0a36e3750") false row13 (fun _ h=>by cases h) tx13 (fun _ h=>by cases h) bspPlanes_row_tie rfl ⟨rfl,rfl⟩ mainT rfl
  (fun f fn hf hfn=>by
   obtain rfl:f=13:=Aa.inj (fn13.symm.trans hf) |>.symm
   obtain rfl:fn=Tryz.f13:=(Aa.inj (Tryz.func13.symm.trans hfn)).symm
   exact⟨looksT,fun j t ht=>by
    rw[Tryz.params13]at ht
    have hm:t∈[64]:=by simpa using Array.mem_of_getElem? ht
    exact (show Tryz.prog.wantsStandIn t=false by simpa using List.all_eq_true.1 c6e t hm)⟩)
  d1r
end Go.Proofs.YtjlfgmhmalbiiaaGreatDoor
