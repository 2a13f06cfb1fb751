/- Proved here: the law BspHalfSpace of the given program returns true for every input that its statement admits, by a walk through its code and the geometry of cells; no condition beyond those of the given statement. -/
import Derived.Test.YtjlfgmhmalbiiaaGreatDoorTie
import Derived.Test.YtjlfgmhmalbiiaaGreatDoorCards
import Derived.ProofKit
import Derived.LaidMore
import Derived.Lay
import Derived.SevenTiedAt
import Derived.Stop.Joined
import Derived.JoinedCond
import Derived.Test.YtjlfgmhmalbiiaaGreatDoorVD0
import Derived.Test.YtjlfgmhmalbiiaaGreatDoorVD1
set_option linter.all false
namespace Go.Proofs.YtjlfgmhmalbiiaaGreatDoor
open Go Go.Sx Go.Proofs Go.Proofs.Vx Go.ChangeShapes Go.WideShapes Go.ChangeAt Go.RowKit
theorem own:ownKnob Tryz.prog.godebug=none:=by kernel_rfl
def zeroPlane:Array Value:=#[.bool false,.string ⟨#[]⟩,.bool false,.string ⟨#[]⟩,.bool false,.string ⟨#[]⟩,.bool false,.string ⟨#[]⟩]
theorem u4:Tryz.prog.underlying 4=some .bool:=by kernel_rfl
theorem b8k (os : Os) (H : Type) (enc : TypeId × Value → H) : ∃ (w : World) (tape : Tape) (i : Input), w.os = os ∧ (w.forCall tape i).Shaped Tryz.prog ∧ i.vars = [] ∧ Input.okWide Tryz.prog (w.forCall tape i) .any w.heap.size 9 i ∧
   (Rows.OpenSpec.upto Rows.bspHalfSpaceSpec).preRow enc Tryz.prog Tryz.f9 Rows.bspHalfSpaceUptoRow.domain false Rows.bspHalfSpaceUptoRow.laid (w.forCall tape i).memory i.args∧({}:Assume).holds Tryz.prog (lone (Frame.enter Tryz.prog 9 i.args .normal) [] (w.forCall tape i)):=by
 have hsh:((World.laidAll Tryz.prog os Rows.bspHalfSpaceUptoRow.laid).forCall (fun _ _=>0) ⟨#[],#[.agg zeroPlane,.agg zeroPlane],[]⟩).Shaped Tryz.prog:=World.shaped_of_ZipB (by kernel_rfl) (by kernel_rfl)
 have hok:Input.okWideB Tryz.prog ((World.laidAll Tryz.prog os Rows.bspHalfSpaceUptoRow.laid).forCall (fun _ _=>0) ⟨#[],#[.agg zeroPlane,.agg zeroPlane],[]⟩) 9 ⟨#[],#[.agg zeroPlane,.agg zeroPlane],[]⟩=true:=by kernel_rfl
 refine⟨World.laidAll Tryz.prog os Rows.bspHalfSpaceUptoRow.laid,fun _ _=>0,⟨#[],#[.agg zeroPlane,.agg zeroPlane],[]⟩,World.laidAll_os _ _ _,hsh,(Input.okWide_of_okWideB (base:=0) hok).1,(Input.okWide_of_okWideB hok).2,?_,by
  simp only[Assume.holds]
  exact⟨by simp,by simp,fun _=>Modest.zero,by simp,by simp⟩⟩
 refine OpenSpec.preRow_of_cond 8 (x:=([.agg [.agg [.lit (.bool false),.lit (.string [])],.agg [.lit (.bool false),.lit (.string [])],.agg [.lit (.bool false),.lit (.string [])],.agg [.lit (.bool false),.lit (.string [])]],.agg [.agg [.lit (.bool false),.lit (.string [])],.agg [.lit (.bool false),.lit (.string [])],.agg [.lit (.bool false),.lit (.string [])],.agg [.lit (.bool false),.lit (.string [])]]],[],[])) (by kernel_rfl) (by kernel_rfl) (fun k hk=>?_) (by kernel_rfl) (by rw[MakeChecks.laidMetH_plain _ _ _ (by kernel_rfl)];exact laidMet_laidAll _ (by kernel_rfl) (by kernel_rfl))
 obtain rfl:Rows.uptoSmall=k:=Option.some.inj hk
 rfl
set_option maxRecDepth 100000 in
theorem c4s (os : Os) (started : os.Started) (H : Type) (enc : TypeId × Value → H) (F : Stop.Interp) :
  ReturnsInHanded {} Tryz.checked os 9 .any ((Rows.OpenSpec.upto Rows.bspHalfSpaceSpec).preRow enc Tryz.prog Tryz.f9 Rows.bspHalfSpaceUptoRow.domain false Rows.bspHalfSpaceUptoRow.laid)
   (((Rows.OpenSpec.upto Rows.bspHalfSpaceSpec).at F).post enc Tryz.prog Tryz.f9 false true false false):=by
 refine returnsInHanded_of_row (C:=Tryz.checked) (s:=Rows.OpenSpec.upto Rows.bspHalfSpaceSpec) own started (by kernel_rfl) Tryz.func9 (b8k os H enc) ?_
 intro W base args ds gs before hval0 hW _ hcond _ _ _ _
 have hval:∀ (j:Nat) t v,Tryz.f9.params[j]?=some t→args[j]?=some v→Value.okWide Tryz.prog W .any base t v:=hval0
 have hW':=hW
 have hlt:=hW.lt
 obtain⟨p,q,hA0,hV,rfl,_,_⟩:=hW
 have hA:DataW.TrodAll enc Tryz.prog W 0 (fun _=>true) true Tryz.f9.params.toList args.toList ds p:=hA0
 have hA2:=hA
 rw[Tryz.params9]at hA hval
 obtain⟨v0,v1,d0,d1,p0,p1,rfl,rfl,rfl,h0,h1⟩:=trodAll_two hA
 obtain⟨rfl,rfl⟩:=trodVars_none hV
 obtain⟨r0,hw0,rfl,rfl,rfl⟩:=b0p lW lW.s26 lW.n26 (hval 0 26 v0 rfl rfl) h0
 obtain⟨r1,hr1⟩:=a1d lW (hval 1 51 v1 rfl rfl) h1
 have hsm:=hcond _ rfl
 simp only[Rows.uptoSmall,List.append_nil,Rows.uptoBulkAll,decide_eq_true_eq]at hsm
 simp only[List.append_nil]at hW' hlt
 have hB0:=c9u (H:=H) r0
 have hB:RB 268435456 r0:=⟨Nat.le_trans hB0.a (by omega),Nat.le_trans hB0.b (by omega),Nat.le_trans hB0.c (by omega),Nat.le_trans hB0.d (by omega)⟩
 refine (vI (W:=W) (vals:=[.agg (cR r0).toArray,v1]) (call9 r0 r1 hB) (RelL.cons (b0k _ r0) (RelL.cons hr1 RelL.nil))).mono ?_
 rintro e W' ⟨rfl,hos,hou,hsz,hold⟩
 exact⟨_,rfl,u7 rfl hW' hos hou hold (fun _ _ _=>trodAll_mk1 (shut_bool u4 _)) (fun sp hsp=>vJ xS xT hold hsp (by rw[Tryz.params9];decide +kernel) hlt hA2) rfl (ok_one (by kernel_rfl) rfl (okWide_bool_mk u4 _))⟩
theorem fn9:Tryz.prog.funcNamed "voussoir/voussoirlaw10.BspHalfSpace" = some 9:=by kernel_rfl
theorem in9:Tryz.f9.isInstance Tryz.prog Rows.bspHalfSpaceUptoRow.origin Rows.bspHalfSpaceUptoRow.targs:=of_decide_eq_true (by kernel_rfl)
theorem wr9:Tryz.f9.isWrapper Tryz.prog Rows.bspHalfSpaceUptoRow.wrapper Rows.bspHalfSpaceUptoRow.mainSum:=by unfold Func.isWrapper;first|(rw[if_pos (by decide +kernel)];kernel_rfl)|(rw[if_neg (by decide +kernel)];exact⟨rfl,rfl⟩)
theorem row9:Rows.BspHalfSpaceUptoSaid :=
 OpenClaim.holds_of_cond 9 Tryz.f9 rfl rfl rfl rfl rfl rfl rfl ⟨rfl,rfl,rfl,rfl,rfl⟩ rfl rfl rfl rfl rfl fn9 Tryz.func9 fa9 in9 wr9
  (fun os started H enc _ F0=>by rw[OpenClaim.pre_eq_preRow];exact c4s os started H enc F0)
theorem tx9:Rows.bspHalfSpaceUptoRow.wfByText (Rows.OpenSpec.upto Rows.bspHalfSpaceSpec)=true:=by kernel_rfl
theorem mainT:Tryz.prog.mainIs=some (true, "0db640cacd3e2513037d21af5e10ff83a19336d09181d6a154418af0a36e3750".toList):=by kernel_rfl
theorem looksT:false=Tryz.prog.looks []:=by kernel_rfl
theorem goes9:false=Rows.bspHalfSpaceUptoRow.goesBy Tryz.prog:=by kernel_rfl
theorem c7b:([26,51].all fun u=>!Tryz.prog.wantsStandIn u)=true:=by kernel_rfl
theorem bspHalfSpaceUpto_holds:Rows.BspHalfSpaceUptoCardSaid :=
 Claim7.holds_tied_plain_at .later [] [.data,.pinned] true (true, "0db640cacd3e2513037d21af5e10ff83a19336d09181d6a154418af0a36e3750") false row9 (fun _ h=>by cases h) tx9 (fun _ h=>by cases h) bspHalfSpaceUpto_row_tie rfl ⟨rfl,rfl⟩ mainT rfl
  (fun f fn hf hfn=>by
   obtain rfl:f=9:=Option.some.inj (fn9.symm.trans hf) |>.symm
   obtain rfl:fn=Tryz.f9:=(Option.some.inj (Tryz.func9.symm.trans hfn)).symm
   exact⟨looksT,fun j t ht=>by
    rw[Tryz.params9]at ht
    have hm:t∈[26,51]:=by simpa using Array.mem_of_getElem? ht
    exact (show Tryz.prog.wantsStandIn t=false by simpa using List.all_eq_true.1 c7b t hm)⟩)
  goes9
end Go.Proofs.YtjlfgmhmalbiiaaGreatDoor
