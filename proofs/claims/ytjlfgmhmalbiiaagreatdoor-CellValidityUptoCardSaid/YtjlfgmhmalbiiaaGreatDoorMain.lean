/- Proved here: the law CellValidity of the given program returns true for every input that its statement admits, by a walk through its code and the geometry of cells; no condition beyond those of the given statement. -/
import Derived.Test.YtjlfgmhmalbiiaaGreatDoorTie
import Derived.Test.YtjlfgmhmalbiiaaGreatDoorCards
import Derived.ProofKit
import Derived.LaidMore
import Derived.Lay
import Derived.SevenTiedAt
import Derived.Stop.Joined
import Derived.JoinedCond
import Derived.Test.YtjlfgmhmalbiiaaGreatDoorU38
import Derived.Test.YtjlfgmhmalbiiaaGreatDoorU39
set_option linter.all false
namespace Go.Proofs.YtjlfgmhmalbiiaaGreatDoor
open Go Go.Sx Go.Proofs Go.Proofs.Vx Go.ChangeShapes Go.WideShapes Go.ChangeAt Go.RowKit
theorem own:ownKnob Tryz.prog.godebug=none:=by kernel_rfl
theorem u4:Tryz.prog.underlying 4=some .bool:=by kernel_rfl
theorem witness12 (os : Os) (H : Type) (enc : TypeId × Value → H) : ∃ (w : World) (tape : Tape) (i : Input), w.os = os ∧ (w.forCall tape i).Shaped Tryz.prog ∧ i.vars = [] ∧ Input.okWide Tryz.prog (w.forCall tape i) .any w.heap.size 12 i ∧
   (Rows.OpenSpec.upto Rows.cellValiditySpec).preRow enc Tryz.prog Tryz.f12 Rows.cellValidityUptoRow.domain false Rows.cellValidityUptoRow.laid (w.forCall tape i).memory i.args∧({}:Assume).holds Tryz.prog (lone (Frame.enter Tryz.prog 12 i.args .normal) [] (w.forCall tape i)):=by
 have hsh:((World.laidAll Tryz.prog os Rows.cellValidityUptoRow.laid).forCall (fun _ _=>0) ⟨#[],#[.agg #[.slice none 0 0]],[]⟩).Shaped Tryz.prog:=World.shaped_of_ZipB (by kernel_rfl) (by kernel_rfl)
 have hok:Input.okWideB Tryz.prog ((World.laidAll Tryz.prog os Rows.cellValidityUptoRow.laid).forCall (fun _ _=>0) ⟨#[],#[.agg #[.slice none 0 0]],[]⟩) 12 ⟨#[],#[.agg #[.slice none 0 0]],[]⟩=true:=by kernel_rfl
 refine ⟨World.laidAll Tryz.prog os Rows.cellValidityUptoRow.laid,fun _ _=>0,⟨#[],#[.agg #[.slice none 0 0]],[]⟩,World.laidAll_os _ _ _,hsh,(Input.okWide_of_okWideB (base:=0) hok).1,(Input.okWide_of_okWideB hok).2,?_,by
  simp only[Assume.holds]
  exact ⟨by simp,by simp,fun _=>Modest.zero,by simp,by simp⟩⟩
 refine OpenSpec.preRow_of_cond 8 (x:=([.agg [.nil]],[],[])) (by kernel_rfl) (by kernel_rfl) (fun k hk=>?_) (by kernel_rfl) (by rw[MakeChecks.laidMetH_plain _ _ _ (by kernel_rfl)];exact laidMet_laidAll _ (by kernel_rfl) (by kernel_rfl))
 obtain rfl:Rows.uptoSmall=k:=Option.some.inj hk
 rfl
set_option maxRecDepth 100000 in
theorem lifted12 (os : Os) (started : os.Started) (H : Type) (enc : TypeId × Value → H) (F : Stop.Interp) :
  ReturnsInHanded {} Tryz.checked os 12 .any ((Rows.OpenSpec.upto Rows.cellValiditySpec).preRow enc Tryz.prog Tryz.f12 Rows.cellValidityUptoRow.domain false Rows.cellValidityUptoRow.laid)
   (((Rows.OpenSpec.upto Rows.cellValiditySpec).at F).post enc Tryz.prog Tryz.f12 false true false false):=by
 refine returnsInHanded_of_row (C:=Tryz.checked) (s:=Rows.OpenSpec.upto Rows.cellValiditySpec) own started (by kernel_rfl) Tryz.func12 (witness12 os H enc) ?_
 intro W base args ds gs before hval0 hW _ hcond _ _ _ _
 have hval:∀ (j:Nat) t v,Tryz.f12.params[j]?=some t→args[j]?=some v→Value.okWide Tryz.prog W .any base t v:=hval0
 have hW':=hW
 have hlt:=hW.lt
 obtain ⟨p,q,hA0,hV,rfl,_,_⟩:=hW
 have hA:DataW.TrodAll enc Tryz.prog W 0 (fun _=>true) true Tryz.f12.params.toList args.toList ds p:=hA0
 have hA2:=hA
 rw[Tryz.params12]at hA hval
 obtain ⟨v0,d0,rfl,rfl,h0⟩:=trodAll_one hA
 obtain ⟨rfl,rfl⟩:=trodVars_none hV
 obtain ⟨l,hrel,hB⟩:=open33 tyOk (hval 0 33 v0 rfl rfl) h0
 have hsm:=hcond _ rfl
 simp only[Rows.uptoSmall,List.append_nil,Rows.uptoBulkAll,decide_eq_true_eq]at hsm
 simp only[List.append_nil]at hW' hlt
 refine (calls_true (W:=W) (vals:=[v0]) (c12 l fun s hs=>(hB s hs).mono (by omega)) (RelL.cons hrel RelL.nil)).mono ?_
 rintro e W' ⟨rfl,hos,hou,hsz,hold⟩
 exact ⟨_,rfl,post_grown rfl hW' hos hou hold (fun _ _ _=>trodAll_mk1 (shut_bool u4 _)) (fun sp hsp=>args_again kidsT fullT hold hsp (by rw[Tryz.params12];decide +kernel) hlt hA2) rfl (ok_one (by kernel_rfl) rfl (okWide_bool_mk u4 _))⟩
theorem fn12:Tryz.prog.funcNamed "voussoir/voussoirlaw09.CellValidity" = some 12:=by kernel_rfl
theorem in12:Tryz.f12.isInstance Tryz.prog Rows.cellValidityUptoRow.origin Rows.cellValidityUptoRow.targs:=of_decide_eq_true (by kernel_rfl)
theorem wr12:Tryz.f12.isWrapper Tryz.prog Rows.cellValidityUptoRow.wrapper Rows.cellValidityUptoRow.mainSum:=by unfold Func.isWrapper;first|(rw[if_pos (by decide +kernel)];kernel_rfl)|(rw[if_neg (by decide +kernel)];exact ⟨rfl,rfl⟩)
theorem row12:Rows.CellValidityUptoSaid :=
 OpenClaim.holds_of_cond 12 Tryz.f12 rfl rfl rfl rfl rfl rfl rfl ⟨rfl,rfl,rfl,rfl,rfl⟩ rfl rfl rfl rfl rfl fn12 Tryz.func12 fa12 in12 wr12
  (fun os started H enc _ F0=>by rw[OpenClaim.pre_eq_preRow];exact lifted12 os started H enc F0)
theorem tx12:Rows.cellValidityUptoRow.wfByText (Rows.OpenSpec.upto Rows.cellValiditySpec)=true:=by kernel_rfl
theorem mainT:Tryz.prog.mainIs=some (true, "0db640cacd3e2513037d21af5e10ff83a19336d09181d6a154418af0a36e3750".toList):=by kernel_rfl
theorem looksT:false=Tryz.prog.looks []:=by kernel_rfl
theorem goes12:false=Rows.cellValidityUptoRow.goesBy Tryz.prog:=by kernel_rfl
theorem stand12:([33].all fun u=>!Tryz.prog.wantsStandIn u)=true:=by kernel_rfl
theorem cellValidityUpto_holds:Rows.CellValidityUptoCardSaid :=
 Claim7.holds_tied_plain_at .later [] [.data,.pinned] true (true, "0db640cacd3e2513037d21af5e10ff83a19336d09181d6a154418af0a36e3750") false row12 (fun _ h=>by cases h) tx12 (fun _ h=>by cases h) cellValidityUpto_row_tie rfl ⟨rfl,rfl⟩ mainT rfl
  (fun f fn hf hfn=>by
   obtain rfl:f=12:=Option.some.inj (fn12.symm.trans hf) |>.symm
   obtain rfl:fn=Tryz.f12:=(Option.some.inj (Tryz.func12.symm.trans hfn)).symm
   exact ⟨looksT,fun j t ht=>by
    rw[Tryz.params12]at ht
    have hm:t∈[33]:=by simpa using Array.mem_of_getElem? ht
    exact (show Tryz.prog.wantsStandIn t=false by simpa using List.all_eq_true.1 stand12 t hm)⟩)
  goes12
end Go.Proofs.YtjlfgmhmalbiiaaGreatDoor
