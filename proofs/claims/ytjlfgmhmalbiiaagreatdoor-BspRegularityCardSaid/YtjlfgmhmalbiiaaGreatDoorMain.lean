/- Proved here: the law BspRegularity of the given program returns true for every input that its statement admits, by a walk through its code and the geometry of cells; no condition beyond those of the given statement. -/
import Derived.Test.YtjlfgmhmalbiiaaGreatDoorTie
import Derived.Test.YtjlfgmhmalbiiaaGreatDoorCards
import Derived.ProofKit
import Derived.LaidMore
import Derived.Lay
import Derived.SevenTiedAt
import Derived.Stop.Joined
import Derived.Test.YtjlfgmhmalbiiaaGreatDoorVC1
set_option linter.all false
namespace Go.Proofs.YtjlfgmhmalbiiaaGreatDoor
open Go Go.Sx Go.Proofs Go.Proofs.Vx Go.ChangeShapes Go.WideShapes Go.ChangeAt Go.RowKit
theorem own:ownKnob Tryz.prog.godebug=none:=by kernel_rfl
theorem u4:Tryz.prog.underlying 4=some .bool:=by kernel_rfl
def zeroPlane:Array Value:=#[.bool false,.string ⟨#[]⟩,.bool false,.string ⟨#[]⟩,.bool false,.string ⟨#[]⟩,.bool false,.string ⟨#[]⟩]
set_option maxRecDepth 100000 in
theorem c0b (os : Os) (started : os.Started) (H : Type) (enc : TypeId × Value → H) :
  ReturnsInHanded {} Tryz.checked os 11 .any (fun w args=>(Rows.bspRegularitySpec.pre enc Tryz.prog Tryz.f11 Rows.bspRegularityRow.domain false w args∧laidMetH Tryz.prog Rows.bspRegularityRow.laid w)∧sizedMet enc Tryz.prog Tryz.f11 (OpenSpec.ofChange Rows.bspRegularitySpec) false w args)
   (Rows.bspRegularitySpec.post enc Tryz.prog Tryz.f11 false true false false):=by
 refine returnsInHanded_of_change_and (C:=Tryz.checked) (X:=fun w _=>laidMetH Tryz.prog Rows.bspRegularityRow.laid w) (fun _ _ _ hh h=>h.of_heap hh) own started (by kernel_rfl) Tryz.func11
  (ChangeSpec.witness_shaped (enc:=enc) (C:=Tryz.checked) (os:=os) (X:=fun w _=>laidMetH Tryz.prog Rows.bspRegularityRow.laid w) false (World.laidAll Tryz.prog os Rows.bspRegularityRow.laid) #[.agg #[.int .i64 0,.slice none 0 0],.agg zeroPlane] 8 (World.laidAll_os _ _ _)
   (World.shaped_of_ZipB (by kernel_rfl) (by kernel_rfl)) (by kernel_rfl) (by kernel_rfl) (by kernel_rfl)
   (by rw[MakeChecks.laidMetH_plain _ _ _ (by kernel_rfl)];exact laidMet_laidAll _ (by kernel_rfl) (by kernel_rfl))) ?_
 intro W base args ds gs before hval0 hW _ _ _ _
 have hval:∀ (j:Nat) t v,Tryz.f11.params[j]?=some t→args[j]?=some v→Value.okWide Tryz.prog W .any base t v:=hval0
 have hW':=hW
 have hlt:=hW.lt
 obtain⟨p,q,hA0,hV,rfl,_,_⟩:=hW
 have hA:DataW.TrodAll enc Tryz.prog W 0 (fun _=>true) true Tryz.f11.params.toList args.toList ds p:=hA0
 have hA2:=hA
 rw[Tryz.params11]at hA hval
 obtain⟨v0,v1,d0,d1,p0,p1,rfl,rfl,rfl,h0,h1⟩:=trodAll_two hA
 obtain⟨rfl,rfl⟩:=trodVars_none hV
 obtain⟨k0,N0,hr0⟩:=a1c lW (hval 0 64 v0 rfl rfl) h0
 obtain⟨r1,hr1⟩:=a1d lW (hval 1 51 v1 rfl rfl) h1
 simp only[List.append_nil]at hW' hlt
 refine (vI (W:=W) (vals:=[v0,v1]) (c9m k0 N0 r1) (RelL.cons hr0 (RelL.cons hr1 RelL.nil))).mono ?_
 rintro e W' ⟨rfl,hos,hou,hsz,hold⟩
 exact⟨_,rfl,u7 rfl hW' hos hou hold (fun _ _ _=>trodAll_mk1 (shut_bool u4 _)) (fun sp hsp=>vJ xS xT hold hsp (by rw[Tryz.params11];decide +kernel) hlt hA2) rfl (ok_one (by kernel_rfl) rfl (okWide_bool_mk u4 _))⟩
theorem fn11:Tryz.prog.funcNamed "voussoir/voussoirlaw10.BspRegularity" = some 11:=by kernel_rfl
theorem in11:Tryz.f11.isInstance Tryz.prog Rows.bspRegularityRow.origin Rows.bspRegularityRow.targs:=of_decide_eq_true (by kernel_rfl)
theorem wr11:Tryz.f11.isWrapper Tryz.prog Rows.bspRegularityRow.wrapper Rows.bspRegularityRow.mainSum:=by unfold Func.isWrapper;first|(rw[if_pos (by decide +kernel)];kernel_rfl)|(rw[if_neg (by decide +kernel)];exact⟨rfl,rfl⟩)
theorem row11:Rows.BspRegularitySaid :=
 OpenClaim.holds_of_wide 11 Tryz.f11 rfl rfl rfl rfl rfl rfl rfl ⟨rfl,rfl,rfl,rfl,rfl⟩ rfl rfl rfl rfl rfl fn11 Tryz.func11 fa11 in11 wr11
  (fun os started H enc _=>c0b os started H enc)
theorem tx11:Rows.bspRegularityRow.wfByText (OpenSpec.ofChange Rows.bspRegularitySpec)=true:=by kernel_rfl
theorem mainT:Tryz.prog.mainIs=some (true, "0db640cacd3e2513037d21af5e10ff83a19336d09181d6a154418af0a36e3750".toList):=by kernel_rfl
theorem looksT:false=Tryz.prog.looks []:=by kernel_rfl
theorem c8x:false=Rows.bspRegularityRow.goesBy Tryz.prog:=by kernel_rfl
theorem c3k:([64,51].all fun u=>!Tryz.prog.wantsStandIn u)=true:=by kernel_rfl
theorem bspRegularity_holds:Rows.BspRegularityCardSaid :=
 Claim7.holds_tied_plain_at .later [] [.data,.pinned] true (true, "0db640cacd3e2513037d21af5e10ff83a19336d09181d6a154418af0a36e3750") false row11 (fun _ h=>by cases h) tx11 (fun _ h=>by cases h) bspRegularity_row_tie rfl ⟨rfl,rfl⟩ mainT rfl
  (fun f fn hf hfn=>by
   obtain rfl:f=11:=Option.some.inj (fn11.symm.trans hf) |>.symm
   obtain rfl:fn=Tryz.f11:=(Option.some.inj (Tryz.func11.symm.trans hfn)).symm
   exact⟨looksT,fun j t ht=>by
    rw[Tryz.params11]at ht
    have hm:t∈[64,51]:=by simpa using Array.mem_of_getElem? ht
    exact (show Tryz.prog.wantsStandIn t=false by simpa using List.all_eq_true.1 c3k t hm)⟩)
  c8x
end Go.Proofs.YtjlfgmhmalbiiaaGreatDoor
