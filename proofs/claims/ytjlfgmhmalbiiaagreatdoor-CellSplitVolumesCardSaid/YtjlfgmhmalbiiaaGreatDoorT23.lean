import Derived.Test.YtjlfgmhmalbiiaaGreatDoorProg
import Derived.Shelf.SlGeneric
import Derived.Ground.SlsfProg
import Derived.Test.YtjlfgmhmalbiiaaGreatDoorT09
import Derived.Test.YtjlfgmhmalbiiaaGreatDoorT16
import Derived.Test.YtjlfgmhmalbiiaaGreatDoorT18
import Derived.Test.YtjlfgmhmalbiiaaGreatDoorT21
import Derived.Test.YtjlfgmhmalbiiaaGreatDoorT22
set_option linter.all false
namespace Go.Proofs.Vx
open Go Go.Sx Go.Proofs
attribute [local irreducible] fnT CallOK CallFr AW effV callV runP runO oneP oneO gcaseP hid
theorem yag_200 : agT Tryz.prog 200 = some false := by kernel_rfl
theorem ybo_200 : boT Tryz.prog 200 = false := by kernel_rfl
theorem yki_171 : kiT Tryz.prog 171 = some .u64 := by kernel_rfl
theorem ysl_171 : slT Tryz.prog 171 = none := by kernel_rfl
theorem ysl_3 : slT Tryz.prog 3 = none := by kernel_rfl
theorem yst_171 : strT Tryz.prog 171 = false := by kernel_rfl
attribute [go_sem] yag_200 ybo_200 yki_171 ysl_171 ysl_3 yst_171
theorem yfn_150 : fnT Tryz.prog 150 = true := by kernel_rfl
theorem yfn_151 : fnT Tryz.prog 151 = true := by kernel_rfl
theorem yfn_197 : fnT Tryz.prog 197 = true := by kernel_rfl
theorem yfn_206 : fnT Tryz.prog 206 = true := by kernel_rfl
theorem tab_len' : ((([0, 1, 2, 2, 3, 3, 3, 3, 4, 4, 4, 4, 4, 4, 4, 4, 5, 5, 5, 5, 5, 5, 5, 5, 5, 5, 5, 5, 5, 5, 5, 5, 6, 6, 6, 6, 6, 6, 6, 6, 6, 6, 6, 6, 6, 6, 6, 6, 6, 6, 6, 6, 6, 6, 6, 6, 6, 6, 6, 6, 6, 6, 6, 6] : List UInt8).append [7, 7, 7, 7, 7, 7, 7, 7, 7, 7, 7, 7, 7, 7, 7, 7, 7, 7, 7, 7, 7, 7, 7, 7, 7, 7, 7, 7, 7, 7, 7, 7, 7, 7, 7, 7, 7, 7, 7, 7, 7, 7, 7, 7, 7, 7, 7, 7, 7, 7, 7, 7, 7, 7, 7, 7, 7, 7, 7, 7, 7, 7, 7, 7]).append ([8, 8, 8, 8, 8, 8, 8, 8, 8, 8, 8, 8, 8, 8, 8, 8, 8, 8, 8, 8, 8, 8, 8, 8, 8, 8, 8, 8, 8, 8, 8, 8, 8, 8, 8, 8, 8, 8, 8, 8, 8, 8, 8, 8, 8, 8, 8, 8, 8, 8, 8, 8, 8, 8, 8, 8, 8, 8, 8, 8, 8, 8, 8, 8].append [8, 8, 8, 8, 8, 8, 8, 8, 8, 8, 8, 8, 8, 8, 8, 8, 8, 8, 8, 8, 8, 8, 8, 8, 8, 8, 8, 8, 8, 8, 8, 8, 8, 8, 8, 8, 8, 8, 8, 8, 8, 8, 8, 8, 8, 8, 8, 8, 8, 8, 8, 8, 8, 8, 8, 8, 8, 8, 8, 8, 8, 8, 8, 8])).length = 256 := by kernel_rfl
theorem tab_bt0 : bt ⟨((([0, 1, 2, 2, 3, 3, 3, 3, 4, 4, 4, 4, 4, 4, 4, 4, 5, 5, 5, 5, 5, 5, 5, 5, 5, 5, 5, 5, 5, 5, 5, 5, 6, 6, 6, 6, 6, 6, 6, 6, 6, 6, 6, 6, 6, 6, 6, 6, 6, 6, 6, 6, 6, 6, 6, 6, 6, 6, 6, 6, 6, 6, 6, 6] : List UInt8).append [7, 7, 7, 7, 7, 7, 7, 7, 7, 7, 7, 7, 7, 7, 7, 7, 7, 7, 7, 7, 7, 7, 7, 7, 7, 7, 7, 7, 7, 7, 7, 7, 7, 7, 7, 7, 7, 7, 7, 7, 7, 7, 7, 7, 7, 7, 7, 7, 7, 7, 7, 7, 7, 7, 7, 7, 7, 7, 7, 7, 7, 7, 7, 7]).append ([8, 8, 8, 8, 8, 8, 8, 8, 8, 8, 8, 8, 8, 8, 8, 8, 8, 8, 8, 8, 8, 8, 8, 8, 8, 8, 8, 8, 8, 8, 8, 8, 8, 8, 8, 8, 8, 8, 8, 8, 8, 8, 8, 8, 8, 8, 8, 8, 8, 8, 8, 8, 8, 8, 8, 8, 8, 8, 8, 8, 8, 8, 8, 8].append [8, 8, 8, 8, 8, 8, 8, 8, 8, 8, 8, 8, 8, 8, 8, 8, 8, 8, 8, 8, 8, 8, 8, 8, 8, 8, 8, 8, 8, 8, 8, 8, 8, 8, 8, 8, 8, 8, 8, 8, 8, 8, 8, 8, 8, 8, 8, 8, 8, 8, 8, 8, 8, 8, 8, 8, 8, 8, 8, 8, 8, 8, 8, 8])).toArray⟩ 0 = 0 := by kernel_rfl
set_option maxHeartbeats 1600000 in
theorem c206z  : CallOK Tryz.prog 206 [.lit (.int .u64 0)] [] (.lit (.int .i64 0)) [] := by
  refine CallOK.flat Tryz.func206 rfl 25 rfl rfl rfl [.tmp 2] (congrArg Array.toList Tryz.results206) ?_
  simp only [startT, Nat.reduceAdd]
  repeat' (first | refine AW.seq ?_ | refine AW.regionP ?_ | refine AW.block ?_ | refine AW.blk ?_ | refine AW.skip ?_ | refine AW.exit rfl ?_ | (refine AW.cond rfl ?_ ?_ <;> intro hc <;> first | (cases hc; done) | (simp only [NM] at hc) | skip <;> (try (exfalso; omega))) | (refine AW.ret (RetA.of ?_); simp -dsimp (disch := first | omega | (simp only [LN]; omega)) only [go_sem, tab_len', tab_bt0, Int.toNat_zero] <;> try (rfl)) | refine ⟨by (omega), ?_⟩ | (refine gcaseP.splitB (fun hg => ?_) (fun hg => ?_) <;> (try simp only [NB] at hg) <;> (try rw [hg]) <;> (try simp only [NM] at hg)) | omega | simp -dsimp (disch := first | omega | (simp only [LN]; omega)) only [go_sem, tab_len', tab_bt0, Int.toNat_zero] | contradiction)
set_option maxHeartbeats 1600000 in
theorem c151z  : CallOK Tryz.prog 151 [.lit (.int .u64 0)] [] (.lit (.int .i64 0)) [] := by
  refine CallOK.flat Tryz.func151 rfl 8 rfl rfl rfl [.tmp 2] (congrArg Array.toList Tryz.results151) ?_
  simp only [startT, Nat.reduceAdd]
  repeat' (first | refine AW.seq ?_ | refine AW.regionP ?_ | refine AW.block ?_ | refine AW.blk ?_ | refine AW.skip ?_ | refine AW.exit rfl ?_ | (refine AW.cond rfl ?_ ?_ <;> intro hc <;> first | (cases hc; done) | (simp only [NM] at hc) | skip <;> (try (exfalso; omega))) | (refine AW.ret (RetA.of ?_); simp -dsimp (disch := first | omega | (simp only [LN]; omega)) only [go_sem] <;> try (rfl)) | (refine callV.flat _ yfn_206 c206z rfl rfl ?_) | refine ⟨by (omega), ?_⟩ | (refine gcaseP.splitB (fun hg => ?_) (fun hg => ?_) <;> (try simp only [NB] at hg) <;> (try rw [hg]) <;> (try simp only [NM] at hg)) | omega | simp -dsimp (disch := first | omega | (simp only [LN]; omega)) only [go_sem] | contradiction)
set_option maxHeartbeats 1600000 in
theorem c197z  : CallOK Tryz.prog 197 [.lit (.slice none 0 0), .lit (.int .i64 0), .lit (.int .i64 0), .clo 35 []] [] (.tup []) [] := by
  refine CallOK.flat Tryz.func197 rfl 53 rfl rfl rfl [] (congrArg Array.toList Tryz.results197) ?_
  simp only [startT, Nat.reduceAdd]
  repeat' (first | refine AW.seq ?_ | refine AW.regionP ?_ | refine AW.drawP ymix ?_ | refine AW.block ?_ | refine AW.blk ?_ | refine AW.skip ?_ | refine AW.exit rfl ?_ | refine AW.unroll 2 ?_ | refine Un.next ?_ | refine AW.stopU ?_ | (refine AW.cond rfl ?_ ?_ <;> intro hc <;> first | (cases hc; done) | (simp only [NM] at hc) | skip <;> (try (exfalso; omega))) | (refine AW.ret (RetA.of ?_); simp -dsimp (disch := first | omega | (simp only [LN]; omega)) only [go_sem] <;> try (rfl)) | (refine AW.nil (RetA.of ?_) <;> simp -dsimp (disch := first | omega | (simp only [LN]; omega)) only [go_sem]) | refine ord_and (by kernel_rfl) ?_ | refine ⟨by (omega), ?_⟩ | (refine gcaseP.splitB (fun hg => ?_) (fun hg => ?_) <;> (try simp only [NB] at hg) <;> (try rw [hg]) <;> (try simp only [NM] at hg)) | omega | simp -dsimp (disch := first | omega | (simp only [LN]; omega)) only [go_sem] | contradiction)
set_option maxHeartbeats 1600000 in
theorem c150z  : CallOK Tryz.prog 150 [.lit (.slice none 0 0), .lit (.int .i64 0), .lit (.int .i64 0), .lit (.int .i64 0), .clo 35 []] [] (.tup []) [] := by
  refine CallOK.flat Tryz.func150 rfl 148 rfl rfl rfl [] (congrArg Array.toList Tryz.results150) ?_
  simp only [startT, Nat.reduceAdd]
  repeat' (first | refine AW.seq ?_ | refine AW.regionP ?_ | refine AW.drawP ymix ?_ | refine AW.block ?_ | refine AW.blk ?_ | refine AW.skip ?_ | refine AW.exit rfl ?_ | refine AW.unroll 2 ?_ | refine Un.next ?_ | refine AW.stopU ?_ | (refine AW.cond rfl ?_ ?_ <;> intro hc <;> first | (cases hc; done) | (simp only [NM] at hc) | skip <;> (try (exfalso; omega))) | (refine AW.ret (RetA.of ?_); simp -dsimp (disch := first | omega | (simp only [LN]; omega)) only [go_sem] <;> try (rfl)) | (refine callV.plain _ yfn_197 c197z (by simp -dsimp (disch := first | omega | (simp only [LN]; omega)) only [go_sem]) (by simp -dsimp (disch := first | omega | (simp only [LN]; omega)) only [go_sem]) ?_) | refine ord_and (by kernel_rfl) ?_ | refine ⟨by (omega), ?_⟩ | (refine gcaseP.splitB (fun hg => ?_) (fun hg => ?_) <;> (try simp only [NB] at hg) <;> (try rw [hg]) <;> (try simp only [NM] at hg)) | omega | simp -dsimp (disch := first | omega | (simp only [LN]; omega)) only [go_sem] | contradiction)
set_option maxHeartbeats 1600000 in
theorem c84z  : CallOK Tryz.prog 84 [.lit (.slice none 0 0), .clo 35 []] [] (.tup []) [] := by
  refine CallOK.flat Tryz.func84 rfl 14 rfl rfl rfl [] (congrArg Array.toList Tryz.results84) ?_
  simp only [startT, Nat.reduceAdd]
  repeat' (first | refine AW.seq ?_ | refine AW.regionP ?_ | refine AW.block ?_ | refine AW.blk ?_ | refine AW.skip ?_ | refine AW.exit rfl ?_ | (refine AW.cond rfl ?_ ?_ <;> intro hc <;> first | (cases hc; done) | (simp only [NM] at hc) | skip <;> (try (exfalso; omega))) | (refine AW.ret (RetA.of ?_); simp -dsimp (disch := first | omega | (simp only [LN]; omega)) only [go_sem] <;> try (rfl)) | (refine AW.nil (RetA.of ?_) <;> simp -dsimp (disch := first | omega | (simp only [LN]; omega)) only [go_sem]) | (refine callV.flat _ yfn_151 c151z rfl rfl ?_) | (refine callV.plain _ yfn_150 c150z (by simp -dsimp (disch := first | omega | (simp only [LN]; omega)) only [go_sem]) (by simp -dsimp (disch := first | omega | (simp only [LN]; omega)) only [go_sem]) ?_) | refine ⟨by (omega), ?_⟩ | (refine gcaseP.splitB (fun hg => ?_) (fun hg => ?_) <;> (try simp only [NB] at hg) <;> (try rw [hg]) <;> (try simp only [NM] at hg)) | omega | simp -dsimp (disch := first | omega | (simp only [LN]; omega)) only [go_sem] | contradiction)
end Go.Proofs.Vx
namespace Go.Proofs
open Go.Shelf Go.RowKit Go.Lib Go.Sort
def Tryz.sortPt_ren : Go.Shelf.Ren := ⟨fun | 6 => 84 | 15 => 151 | 14 => 150 | 28 => 205 | 29 => 206 | 20 => 197 | 21 => 198 | 22 => 199 | 23 => 200 | 24 => 201 | 25 => 202 | 26 => 203 | 27 => 204 | 46 => 241 | 47 => 242 | 48 => 243 | 49 => 244 | 50 => 245 | 57 => 260 | n => n, fun | 22 => 45 | 24 => 51 | 25 => 60 | 3 => 3 | 39 => 171 | 0 => 0 | 53 => 189 | 55 => 158 | 4 => 4 | 46 => 201 | 45 => 200 | 50 => 205 | 5 => 5 | 9 => 9 | 66 => 238 | 70 => 242 | 76 => 255 | 77 => 256 | n => n, fun | n => n⟩
theorem Tryz.sortPt : Go.Proofs.SlLaysF0.n6 Tryz.prog Tryz.sortPt_ren := {
  mixed := by kernel_rfl,
  f6 := ⟨Tryz.f84.name, by decide, Tryz.func84.trans (congrArg some (by kernel_rfl))⟩,
  f14 := ⟨Tryz.f150.name, by decide, Tryz.func150.trans (congrArg some (by kernel_rfl))⟩,
  f15 := Tryz.func151.trans (congrArg some (by kernel_rfl)),
  f20 := ⟨Tryz.f197.name, by decide, Tryz.func197.trans (congrArg some (by kernel_rfl))⟩,
  f21 := ⟨Tryz.f198.name, by decide, Tryz.func198.trans (congrArg some (by kernel_rfl))⟩,
  f22 := ⟨Tryz.f199.name, by decide, Tryz.func199.trans (congrArg some (by kernel_rfl))⟩,
  f23 := ⟨Tryz.f200.name, by decide, Tryz.func200.trans (congrArg some (by kernel_rfl))⟩,
  f24 := ⟨Tryz.f201.name, by decide, Tryz.func201.trans (congrArg some (by kernel_rfl))⟩,
  f25 := ⟨Tryz.f202.name, by decide, Tryz.func202.trans (congrArg some (by kernel_rfl))⟩,
  f26 := ⟨Tryz.f203.name, by decide, Tryz.func203.trans (congrArg some (by kernel_rfl))⟩,
  f27 := ⟨Tryz.f204.name, by decide, Tryz.func204.trans (congrArg some (by kernel_rfl))⟩,
  f28 := Tryz.func205.trans (congrArg some (by kernel_rfl)),
  f29 := Tryz.func206.trans (congrArg some (by kernel_rfl)),
  f46 := ⟨Tryz.f241.name, by decide, Tryz.func241.trans (congrArg some (by kernel_rfl))⟩,
  f47 := Tryz.func242.trans (congrArg some (by kernel_rfl)),
  f48 := Tryz.func243.trans (congrArg some (by kernel_rfl)),
  f49 := ⟨Tryz.f244.name, by decide, Tryz.func244.trans (congrArg some (by kernel_rfl))⟩,
  f50 := ⟨Tryz.f245.name, by decide, Tryz.func245.trans (congrArg some (by kernel_rfl))⟩,
  f57 := ⟨Tryz.f260.name, by decide, Tryz.func260.trans (congrArg some (by kernel_rfl))⟩,
  t0 := Tryz.underlying0,
  a0 := Tryz.isAgg0,
  z0 := Tryz.sizeOf0,
  v0 := Tryz.zeroValue0,
  t3 := Tryz.underlying3,
  a3 := Tryz.isAgg3,
  z3 := Tryz.sizeOf3,
  v3 := Tryz.zeroValue3,
  t4 := Tryz.underlying4,
  a4 := Tryz.isAgg4,
  z4 := Tryz.sizeOf4,
  v4 := Tryz.zeroValue4,
  t5 := Tryz.underlying5,
  a5 := Tryz.isAgg5,
  z5 := Tryz.sizeOf5,
  v5 := Tryz.zeroValue5,
  t9 := Tryz.underlying9,
  a9 := Tryz.isAgg9,
  z9 := Tryz.sizeOf9,
  v9 := Tryz.zeroValue9,
  t22 := Tryz.underlying45,
  a22 := Tryz.isAgg45,
  z22 := Tryz.sizeOf45,
  v22 := Tryz.zeroValue45,
  t25 := Tryz.underlying60,
  a25 := Tryz.isAgg60,
  z25 := Tryz.sizeOf60,
  v25 := Tryz.zeroValue60,
  t39 := Tryz.underlying171,
  a39 := Tryz.isAgg171,
  z39 := Tryz.sizeOf171,
  v39 := Tryz.zeroValue171,
  t45 := Tryz.underlying200,
  a45 := Tryz.isAgg200,
  z45 := Tryz.sizeOf200,
  v45 := Tryz.zeroValue200,
  t46 := Tryz.underlying201,
  a46 := Tryz.isAgg201,
  z46 := Tryz.sizeOf201,
  v46 := Tryz.zeroValue201,
  t50 := Tryz.underlying205,
  a50 := Tryz.isAgg205,
  z50 := Tryz.sizeOf205,
  v50 := Tryz.zeroValue205,
  t53 := Tryz.underlying189,
  a53 := Tryz.isAgg189,
  z53 := Tryz.sizeOf189,
  v53 := Tryz.zeroValue189,
  t55 := Tryz.underlying158,
  a55 := Tryz.isAgg158,
  z55 := Tryz.sizeOf158,
  v55 := Tryz.zeroValue158,
  t66 := Tryz.underlying238,
  a66 := Tryz.isAgg238,
  z66 := Tryz.sizeOf238,
  v66 := Tryz.zeroValue238,
  t70 := Tryz.underlying242,
  a70 := Tryz.isAgg242,
  z70 := Tryz.sizeOf242,
  v70 := Tryz.zeroValue242,
  t76 := Tryz.underlying255,
  a76 := Tryz.isAgg255,
  z76 := Tryz.sizeOf255,
  v76 := Tryz.zeroValue255,
  t77 := Tryz.underlying256,
  a77 := Tryz.isAgg256,
  z77 := Tryz.sizeOf256,
  v77 := Tryz.zeroValue256 }
end Go.Proofs
namespace Go.Proofs.Vx
open Go Go.Sx Go.Proofs
theorem enters35 : ∀ args w, (callFunc 35 args).run Tryz.prog w = .ok (.enter 35 args) w := enters_of Tryz.func35 (by kernel_rfl) rfl
theorem relEnc (p : Pt) (g : Gh) : Rel g (.agg (eP p)) (.agg (encP p).toArray) := by
  refine .agg _ _ rfl (fun i h2 => ?_) (fun i h1 h2 => ?_)
  · have := encC_one' p ((encP p).toArray[i]) (by simpa using Array.getElem_mem (xs := (encP p).toArray) (i := i) h2)
    exact this
  · rw [eP_enc p i h1]
    have : (encP p).toArray[i] = (encP p)[i]! := by
      rw [getElem!_pos (encP p) i (by simpa using h2)]; simp
    rw [this]
    exact .lit _
theorem lays35 (blk off size : Nat) (w : World) : CmpLays Tryz.prog 35 #[] encC 8 cfC blk off size w := by
  intro m os dk _ x y
  have hx := x.2.2.out
  have hy := y.2.2.out
  have h := c35 x.1 y.1 x.2.1 y.2.1 ⟨Nat.le_trans hx.a (by decide), Nat.le_trans hx.b (by decide), Nat.le_trans hx.c (by decide), Nat.le_trans hx.d (by decide)⟩ ⟨Nat.le_trans hy.a (by decide), Nat.le_trans hy.b (by decide), Nat.le_trans hy.c (by decide), Nat.le_trans hy.d (by decide)⟩
  have := h.grown (vals := [.agg (encP x.1).toArray, .agg (encP y.1).toArray]) (fun g => RelL.cons (relEnc _ g) (RelL.cons (relEnc _ g) RelL.nil)) (.lit _) (sortWorldK encC 8 w blk off m dk os)
  refine Calls.mono (by simpa [encC] using this) ?_
  rintro e w' ⟨⟨v, rfl, hv⟩, q, os', rfl⟩
  refine ⟨?_, q, os', rfl⟩
  have hq := hv ⟨w, fun _ => False, fun _ => False, fun _ => 0, fun _ => ⟨none, 0, 0, 0⟩, fun _ => 0⟩
  cases hq
  rfl
theorem isAgg51 (w : World) : (isAgg 51).run Tryz.prog w = .ok true w := by kernel_rfl
theorem sizeOf51 (w : World) : (Go.sizeOf 51).run Tryz.prog w = .ok 8 w := by kernel_rfl
theorem c84 (vs : List Pt) (hv : ∀ p ∈ vs, CanP p ∧ BPt 1073741824 p) (hn : vs.length < 4611686018427387904) : CallOK Tryz.prog 84 [.ref 0 0 vs.length vs.length, .clo 35 []] [(0, .vec 8 (vs.map eP))] (.tup []) [(0, .vec 8 ((sortP vs).map eP))] := by
  refine sort_ok vs hv hn c84z ?_
  intro blk cap d w hH hb hsz
  have := AnyQ.slices_SortFunc Tryz.sortPt 8 isAgg51 sizeOf51 encC encC_len encC_one cfC swoC 35 #[] blk 0 cap d w enters35 (lays35 blk 0 d.size w) hH hb hsz
  change Calls Tryz.prog 84 _ _ _ at this
  exact this
end Go.Proofs.Vx
namespace Geo
structure PV (n : V) (vs : List V) : Prop where
  len : 3 ≤ vs.length
  nd : vs.Nodup
  lf : ∀ e ∈ edges vs, ∀ x ∈ vs, x ≠ e.1 → x ≠ e.2 → 0 < ori n e.1 e.2 x
theorem three_le {l : List V} {a b c : V} (ha : a ∈ l) (hb : b ∈ l) (hc : c ∈ l) (hab : a ≠ b) (hac : a ≠ c) (hbc : b ≠ c) : 3 ≤ l.length := by
  have h1 := List.length_erase_of_mem ha
  have hb' : b ∈ l.erase a := (List.mem_erase_of_ne (Ne.symm hab)).2 hb
  have hc' : c ∈ l.erase a := (List.mem_erase_of_ne (Ne.symm hac)).2 hc
  have h2 := List.length_erase_of_mem hb'
  have hc'' : c ∈ (l.erase a).erase b := (List.mem_erase_of_ne (Ne.symm hbc)).2 hc'
  have h3 := List.length_pos_of_mem hc''
  have h4 := List.length_pos_of_mem ha
  have h5 := List.length_pos_of_mem hb'
  omega
theorem PV.rot {n : V} {A B : List V} (h : PV n (A ++ B)) : PV n (B ++ A) := by
  refine ⟨by have := h.len; simp at this ⊢; omega, (List.perm_append_comm.nodup_iff).1 h.nd, fun e he x hx h1 h2 => ?_⟩
  exact h.lf e ((edges_rot A B).mem_iff.2 he) x (by simpa [or_comm] using hx) h1 h2
theorem PV.weak {n : V} {vs : List V} (h : PV n vs) {e : V × V} (he : e ∈ edges vs) {x : V} (hx : x ∈ vs) : 0 ≤ ori n e.1 e.2 x := by
  by_cases h1 : x = e.1
  · rw [h1, ori_r]; exact Rat.le_refl
  · by_cases h2 : x = e.2
    · rw [h2, ori_m]; exact Rat.le_refl
    · exact Rat.le_of_lt (h.lf e he x hx h1 h2)
theorem PV.other {n : V} {vs : List V} (h : PV n vs) {e : V × V} (he : e ∈ edges vs) : ∃ x ∈ vs, x ≠ e.1 ∧ x ≠ e.2 := by
  apply Classical.byContradiction
  intro hno
  have hsub : ∀ x ∈ vs, x = e.1 ∨ x = e.2 := fun x hx => by
    by_cases h1 : x = e.1
    · exact .inl h1
    · by_cases h2 : x = e.2
      · exact .inr h2
      · exact absurd ⟨x, hx, h1, h2⟩ hno
  match vs, h.len, h.nd, hsub with
  | a :: b :: c :: t, _, hnd, hsub =>
    have h1 := hsub a (by simp)
    have h2 := hsub b (by simp)
    have h3 := hsub c (by simp)
    simp only [List.nodup_cons, List.mem_cons, not_or] at hnd
    obtain ⟨⟨n1, n2, _⟩, ⟨n3, _⟩, _⟩ := hnd
    rcases h1 with h1 | h1 <;> rcases h2 with h2 | h2 <;> rcases h3 with h3 | h3 <;>
      first
        | exact n1 (h1.trans h2.symm)
        | exact n2 (h1.trans h3.symm)
        | exact n3 (h2.trans h3.symm)
theorem PV.n_ne {n : V} {vs : List V} (h : PV n vs) : n ≠ ⟨0, 0, 0⟩ := by
  match vs, h.len, h with
  | a :: t, _, h =>
    obtain ⟨b, hb⟩ := has_out (l := a :: t) (a := a) (by simp)
    obtain ⟨x, hx, h1, h2⟩ := h.other hb
    have := h.lf _ hb x hx h1 h2
    exact ne_of_ori (a := a) (b := b) (c := x) (by grind)
theorem PV.ne {n : V} {vs : List V} (h : PV n vs) {e : V × V} (he : e ∈ edges vs) : e.1 ≠ e.2 := edges_ne h.nd (by have := h.len; omega) he
def X (g : H) (a b : V) : V := lerp (g.at a / (g.at a - g.at b)) a b
theorem lerp_zero (a b : V) : lerp 0 a b = a := by apply V.ext <;> simp [lerp] <;> grind
theorem lerp_one (a b : V) : lerp 1 a b = b := by apply V.ext <;> simp [lerp] <;> grind
theorem lerp_flip (t : Rat) (a b : V) : lerp (1 - t) b a = lerp t a b := by apply V.ext <;> simp [lerp] <;> grind
theorem X_at {g : H} {a b : V} (h : g.at a ≠ g.at b) : g.at (X g a b) = 0 := by
  unfold X; rw [at_lerp]
  have : g.at a - g.at b ≠ 0 := by grind
  grind
theorem X_symm {g : H} {a b : V} (h : g.at a ≠ g.at b) : X g b a = X g a b := by
  unfold X
  rw [← lerp_flip]
  congr 1
  have h1 : g.at a - g.at b ≠ 0 := by grind
  have h2 : g.at b - g.at a ≠ 0 := by grind
  grind
theorem X_zero {g : H} {a b : V} (h : g.at a = 0) : X g a b = a := by
  unfold X; rw [h, Rat.div_def, Rat.zero_mul, lerp_zero]
theorem X_zero' {g : H} {a b : V} (h : g.at b = 0) (h' : g.at a ≠ 0) : X g a b = b := by
  unfold X
  have : g.at a / (g.at a - g.at b) = 1 := by rw [h]; grind
  rw [this, lerp_one]
theorem X_w {g : H} {a b : V} (ha : g.at a ≤ 0) (hb : 0 < g.at b) : ∃ t : Rat, 0 ≤ t ∧ t < 1 ∧ (g.at a < 0 → 0 < t) ∧ (g.at a = 0 → t = 0) ∧ X g a b = lerp t a b := by
  have hd : 0 < g.at b - g.at a := by grind
  have hi := Rat.inv_pos.2 hd
  have e : g.at a / (g.at a - g.at b) = (- g.at a) * (g.at b - g.at a)⁻¹ := by
    have : g.at a - g.at b ≠ 0 := by grind
    have : g.at b - g.at a ≠ 0 := by grind
    grind
  have e2 : (g.at b - g.at a) * (g.at b - g.at a)⁻¹ = 1 := Rat.mul_inv_cancel _ (by grind)
  refine ⟨_, ?_, ?_, ?_, ?_, rfl⟩
  · rw [e]; exact Rat.mul_nonneg (by grind) (by grind)
  · rw [e]
    have := Rat.mul_pos hb hi
    grind
  · intro h; rw [e]; exact Rat.mul_pos (by grind) hi
  · intro h; rw [e, h]; grind
def piece (g : H) (e : V × V) : List V := (if g.at e.1 ≤ 0 then [e.1] else []) ++ (if g.at e.1 * g.at e.2 < 0 then [X g e.1 e.2] else [])
def part (g : H) (vs : List V) : List V := (edges vs).flatMap (piece g)
theorem part_rot (g : H) (A B : List V) : ∃ C D, part g (A ++ B) = C ++ D ∧ part g (B ++ A) = D ++ C := by
  cases A with
  | nil => exact ⟨[], part g B, by simp, by simp⟩
  | cons a A => cases B with
    | nil => exact ⟨part g (a :: A), [], by simp, by simp⟩
    | cons b B =>
      refine ⟨(path (a :: A ++ [b])).flatMap (piece g), (path (b :: B ++ [a])).flatMap (piece g), ?_, ?_⟩
      · unfold part; rw [edges_append, List.flatMap_append]
      · unfold part; rw [edges_append, List.flatMap_append]
theorem mul_np {a b : Rat} (ha : a ≤ 0) (hb : b ≤ 0) : ¬ a * b < 0 := by
  have := Rat.mul_nonneg (a := -a) (b := -b) (by grind) (by grind)
  grind
theorem mul_pp {a b : Rat} (ha : 0 ≤ a) (hb : 0 ≤ b) : ¬ a * b < 0 := by
  have := Rat.mul_nonneg ha hb
  grind
theorem mul_neg_iff {a b : Rat} (hb : 0 < b) : a * b < 0 ↔ a < 0 := by
  constructor
  · intro h
    apply Rat.not_le.1
    intro h2
    have := Rat.mul_nonneg h2 (Rat.le_of_lt hb)
    grind
  · intro h
    have := Rat.mul_pos (a := -a) (b := b) (by grind) hb
    grind
theorem pieces_neg (g : H) (k : V) : ∀ M : List V, (∀ x ∈ M ++ [k], g.at x ≤ 0) → (path (M ++ [k])).flatMap (piece g) = M
  | [], _ => rfl
  | [a], h => by
    have h1 := h a (by simp)
    have h2 := h k (by simp)
    simp [path, piece, h1, mul_np h1 h2]
  | a :: b :: M, h => by
    have h1 := h a (by simp)
    have h2 := h b (by simp)
    have ih := pieces_neg g k (b :: M) (fun x hx => h x (by simp at hx ⊢; grind))
    simp only [List.cons_append, path, List.flatMap_cons] at ih ⊢
    rw [ih]
    simp [piece, h1, mul_np h1 h2]
theorem pieces_pos (g : H) : ∀ l : List V, (∀ x ∈ l, 0 < g.at x) → (path l).flatMap (piece g) = []
  | [], _ => rfl
  | [a], _ => rfl
  | a :: b :: l, h => by
    have h1 := h a (by simp)
    have h2 := h b (by simp)
    have ih := pieces_pos g (b :: l) (fun x hx => h x (by simp at hx ⊢; grind))
    simp only [path, List.flatMap_cons, ih]
    have : ¬ g.at a ≤ 0 := by grind
    simp [piece, this, mul_pp (Rat.le_of_lt h1) (Rat.le_of_lt h2)]
theorem part_pos {g : H} {vs : List V} (h : ∀ x ∈ vs, g.at x ≤ 0) : part g vs = vs := by
  have key : ∀ l : List (V × V), (∀ e ∈ l, g.at e.1 ≤ 0 ∧ g.at e.2 ≤ 0) → l.flatMap (piece g) = l.map (·.1) := by
    intro l
    induction l with
    | nil => intro _; rfl
    | cons e l ih =>
      intro hl
      obtain ⟨h1, h2⟩ := hl e (by simp)
      rw [List.flatMap_cons, ih fun e he => hl e (by simp [he])]
      simp [piece, h1, mul_np h1 h2]
  unfold part
  rw [key _ fun e he => ⟨h _ (mem_fst he), h _ (mem_snd he)⟩, edges_fst]
end Geo
namespace Geo
structure Cut (h g : H) (n0 k p0 pm : V) (N P : List V) : Prop where
  pv : PV h.n (N ++ P)
  pl : ∀ v ∈ N ++ P, h.at v = 0
  neg : ∀ x ∈ N, g.at x ≤ 0
  pos : ∀ x ∈ P, 0 < g.at x
  hn0 : ∃ T, N = n0 :: T
  hk : ∃ T, N = T ++ [k]
  hp0 : ∃ T, P = p0 :: T
  hpm : ∃ T, P = T ++ [pm]
  low : ∃ w ∈ N, g.at w < 0
theorem mul_pos_neg {a b : Rat} (h : 0 < a * b) (hb : 0 < b) : 0 < a := by
  apply Rat.not_le.1
  intro h2
  have := Rat.mul_nonneg (a := -a) (b := b) (by grind) (Rat.le_of_lt hb)
  grind
namespace Cut
variable {h g : H} {n0 k p0 pm : V} {N P : List V}
theorem kN (c : Cut h g n0 k p0 pm N P) : k ∈ N := by obtain ⟨T, e⟩ := c.hk; rw [e]; simp
theorem n0N (c : Cut h g n0 k p0 pm N P) : n0 ∈ N := by obtain ⟨T, e⟩ := c.hn0; rw [e]; simp
theorem p0P (c : Cut h g n0 k p0 pm N P) : p0 ∈ P := by obtain ⟨T, e⟩ := c.hp0; rw [e]; simp
theorem pmP (c : Cut h g n0 k p0 pm N P) : pm ∈ P := by obtain ⟨T, e⟩ := c.hpm; rw [e]; simp
theorem mN {x : V} (c : Cut h g n0 k p0 pm N P) (hx : x ∈ N) : x ∈ N ++ P := by simp [hx]
theorem mP {x : V} (c : Cut h g n0 k p0 pm N P) (hx : x ∈ P) : x ∈ N ++ P := by simp [hx]
theorem gk (c : Cut h g n0 k p0 pm N P) : g.at k ≤ 0 := c.neg k c.kN
theorem gn0 (c : Cut h g n0 k p0 pm N P) : g.at n0 ≤ 0 := c.neg n0 c.n0N
theorem gp0 (c : Cut h g n0 k p0 pm N P) : 0 < g.at p0 := c.pos p0 c.p0P
theorem gpm (c : Cut h g n0 k p0 pm N P) : 0 < g.at pm := c.pos pm c.pmP
theorem ed (c : Cut h g n0 k p0 pm N P) : edges (N ++ P) = (path N ++ [(k, p0)]) ++ (path P ++ [(pm, n0)]) := by
  obtain ⟨T1, e1⟩ := c.hn0
  obtain ⟨T2, e2⟩ := c.hk
  obtain ⟨T3, e3⟩ := c.hp0
  obtain ⟨T4, e4⟩ := c.hpm
  have h1 : path (N ++ [p0]) = path N ++ [(k, p0)] := by
    rw [e2]; have := path_join T2 k [p0]; simpa [path] using this
  have h2 : path (P ++ [n0]) = path P ++ [(pm, n0)] := by
    rw [e4]; have := path_join T4 pm [n0]; simpa [path] using this
  rw [← h1, ← h2, e1, e3]
  exact edges_append n0 p0 T1 T3
theorem ek (c : Cut h g n0 k p0 pm N P) : (k, p0) ∈ edges (N ++ P) := by rw [c.ed]; simp
theorem em (c : Cut h g n0 k p0 pm N P) : (pm, n0) ∈ edges (N ++ P) := by rw [c.ed]; simp
theorem eN (c : Cut h g n0 k p0 pm N P) {e : V × V} (he : e ∈ path N) : e ∈ edges (N ++ P) := by rw [c.ed]; simp [he]
theorem partEq (c : Cut h g n0 k p0 pm N P) : part g (N ++ P) = N ++ ((if g.at k < 0 then [X g k p0] else []) ++ (if g.at n0 < 0 then [X g pm n0] else [])) := by
  obtain ⟨T2, e2⟩ := c.hk
  have h1 : (path N).flatMap (piece g) = T2 := by rw [e2]; exact pieces_neg g k T2 (by rw [← e2]; exact c.neg)
  have h2 := pieces_pos g P c.pos
  have h3 : piece g (k, p0) = [k] ++ (if g.at k < 0 then [X g k p0] else []) := by
    simp only [piece, if_pos c.gk]; congr 1
    by_cases hk : g.at k < 0
    · rw [if_pos hk, if_pos ((mul_neg_iff c.gp0).2 hk)]
    · rw [if_neg hk, if_neg fun h => hk ((mul_neg_iff c.gp0).1 h)]
  have h4 : piece g (pm, n0) = (if g.at n0 < 0 then [X g pm n0] else []) := by
    have : ¬ g.at pm ≤ 0 := by have := c.gpm; grind
    simp only [piece, if_neg this, List.nil_append]
    by_cases hk : g.at n0 < 0
    · rw [if_pos hk, if_pos (by rw [Rat.mul_comm]; exact (mul_neg_iff c.gpm).2 hk)]
    · rw [if_neg hk, if_neg fun h => hk ((mul_neg_iff c.gpm).1 (by rw [Rat.mul_comm]; exact h))]
  unfold part
  rw [c.ed, List.flatMap_append, List.flatMap_append, List.flatMap_append, h1, h2]
  simp only [List.flatMap_cons, List.flatMap_nil, List.append_nil, h3, h4, List.nil_append]
  rw [e2]; simp
theorem xk (c : Cut h g n0 k p0 pm N P) (hk : ¬ g.at k < 0) : X g k p0 = k := X_zero (by have := c.gk; grind)
theorem xm (c : Cut h g n0 k p0 pm N P) (hk : ¬ g.at n0 < 0) : X g pm n0 = n0 := X_zero' (by have := c.gn0; grind) (by have := c.gpm; grind)
theorem xk_at (c : Cut h g n0 k p0 pm N P) : g.at (X g k p0) = 0 := X_at (by have := c.gk; have := c.gp0; grind)
theorem xm_at (c : Cut h g n0 k p0 pm N P) : g.at (X g pm n0) = 0 := X_at (by have := c.gn0; have := c.gpm; grind)
theorem xm_w (c : Cut h g n0 k p0 pm N P) : ∃ t : Rat, 0 < t ∧ t ≤ 1 ∧ (g.at n0 < 0 → t < 1) ∧ X g pm n0 = lerp t pm n0 := by
  obtain ⟨t, h0, h1, h2, _, h4⟩ := X_w c.gn0 c.gpm
  refine ⟨1 - t, by grind, by grind, fun h => by have := h2 h; grind, ?_⟩
  rw [← lerp_flip, ← X_symm (by have := c.gn0; have := c.gpm; grind), h4]
  congr 1; grind
theorem edW (c : Cut h g n0 k p0 pm N P) : edges (part g (N ++ P)) = path N ++ ((if g.at k < 0 then [(k, X g k p0)] else []) ++ ((X g k p0, X g pm n0) :: (if g.at n0 < 0 then [(X g pm n0, n0)] else []))) := by
  obtain ⟨T1, e1⟩ := c.hn0
  obtain ⟨T2, e2⟩ := c.hk
  have key : ∀ R, edges (N ++ R) = path N ++ path (k :: (R ++ [n0])) := by
    intro R
    have h1 : edges (N ++ R) = path (N ++ (R ++ [n0])) := by rw [e1]; simp [edges]
    rw [h1, e2]
    have := path_join T2 k (R ++ [n0])
    simpa using this
  rw [c.partEq, key]
  congr 1
  by_cases h1 : g.at k < 0 <;> by_cases h2 : g.at n0 < 0 <;> simp [h1, h2, path]
  · exact (c.xm h2).symm
  · exact (c.xk h1).symm
  · exact ⟨(c.xk h1).symm, (c.xm h2).symm⟩
theorem hx (c : Cut h g n0 k p0 pm N P) : h.at (X g k p0) = 0 := by
  unfold X; rw [at_lerp, c.pl k (c.mN c.kN), c.pl p0 (c.mP c.p0P)]; grind
theorem hy (c : Cut h g n0 k p0 pm N P) : h.at (X g pm n0) = 0 := by
  unfold X; rw [at_lerp, c.pl pm (c.mP c.pmP), c.pl n0 (c.mN c.n0N)]; grind
theorem Npos (c : Cut h g n0 k p0 pm N P) : 0 < dot (cross h.n g.n) (cross h.n g.n) :=
  cross_pos (a := k) (w := p0) c.pv.n_ne (by rw [c.pl k (c.mN c.kN), c.pl p0 (c.mP c.p0P)]) (by have := c.gk; have := c.gp0; grind)
theorem neNP {x y : V} (c : Cut h g n0 k p0 pm N P) (hx : x ∈ N) (hy : y ∈ P) : x ≠ y := fun e => by
  have h1 := c.neg x hx
  have h2 := c.pos y hy
  rw [e] at h1; grind
theorem e1N (c : Cut h g n0 k p0 pm N P) {z : V} (hz : z ∈ N) (hk : z ≠ k) : 0 < ori h.n k p0 z :=
  c.pv.lf _ c.ek z (c.mN hz) hk (c.neNP hz c.p0P)
theorem e2N (c : Cut h g n0 k p0 pm N P) {z : V} (hz : z ∈ N) (hk : z ≠ n0) : 0 < ori h.n pm n0 z :=
  c.pv.lf _ c.em z (c.mN hz) (c.neNP hz c.pmP) hk
theorem single (c : Cut h g n0 k p0 pm N P) (e : n0 = k) : N = [k] := by
  obtain ⟨T1, e1⟩ := c.hn0
  obtain ⟨T2, e2⟩ := c.hk
  have hnd := (List.nodup_append.1 c.pv.nd).1
  cases T2 with
  | nil => simpa using e2
  | cons a T2 =>
    have : a = n0 := by rw [e1] at e2; simp at e2; exact e2.1.symm
    rw [e2, this, e] at hnd
    simp at hnd
theorem single' (c : Cut h g n0 k p0 pm N P) (e : p0 = pm) : P = [p0] := by
  obtain ⟨T1, e1⟩ := c.hp0
  obtain ⟨T2, e2⟩ := c.hpm
  have hnd := (List.nodup_append.1 c.pv.nd).2.1
  cases T2 with
  | nil => rw [e]; simpa using e2
  | cons a T2 =>
    have : a = p0 := by rw [e1] at e2; simp at e2; exact e2.1.symm
    rw [e2, this, e] at hnd
    simp at hnd
theorem e1y (c : Cut h g n0 k p0 pm N P) : 0 < ori h.n k p0 (X g pm n0) := by
  obtain ⟨t, t0, t1, t2, te⟩ := c.xm_w
  rw [te, ori_lerp]
  have w1 := c.pv.weak c.ek (c.mP c.pmP)
  have w2 := c.pv.weak c.ek (c.mN c.n0N)
  by_cases hnk : n0 = k
  · have hN := c.single hnk
    obtain ⟨w, hw, gw⟩ := c.low
    rw [hN] at hw; simp at hw; subst hw
    have hp : pm ≠ p0 := by
      intro e
      have hP := c.single' e.symm
      have := c.pv.len
      rw [hN, hP] at this; simp at this
    have s := c.pv.lf _ c.ek pm (c.mP c.pmP) (Ne.symm (c.neNP c.kN c.pmP)) hp
    have := t2 (by rw [hnk]; exact gw)
    have p1 := Rat.mul_pos (a := 1 - t) (by grind) s
    have p2 := Rat.mul_nonneg (Rat.le_of_lt t0) w2
    grind
  · have s := c.e1N c.n0N hnk
    have p1 := Rat.mul_nonneg (a := 1 - t) (by grind) w1
    have p2 := Rat.mul_pos t0 s
    grind
theorem e2x (c : Cut h g n0 k p0 pm N P) : 0 < ori h.n pm n0 (X g k p0) := by
  obtain ⟨t, t0, t1, t2, _, te⟩ := X_w c.gk c.gp0
  rw [te, ori_lerp]
  have w1 := c.pv.weak c.em (c.mN c.kN)
  have w2 := c.pv.weak c.em (c.mP c.p0P)
  by_cases hnk : k = n0
  · have hN := c.single hnk.symm
    obtain ⟨w, hw, gw⟩ := c.low
    rw [hN] at hw; simp at hw; subst hw
    have hp : p0 ≠ pm := by
      intro e
      have hP := c.single' e
      have := c.pv.len
      rw [hN, hP] at this; simp at this
    have s := c.pv.lf _ c.em p0 (c.mP c.p0P) hp (Ne.symm (c.neNP c.n0N c.p0P))
    have p1 := Rat.mul_pos (t2 gw) s
    have p2 := Rat.mul_nonneg (a := 1 - t) (by grind) w1
    grind
  · have s := c.e2N c.kN hnk
    have p1 := Rat.mul_pos (a := 1 - t) (by grind) s
    have p2 := Rat.mul_nonneg t0 w2
    grind
theorem e1x (c : Cut h g n0 k p0 pm N P) : ori h.n k p0 (X g k p0) = 0 := by unfold X; rw [ori_lerp, ori_r, ori_m]; grind
theorem e2y (c : Cut h g n0 k p0 pm N P) : ori h.n pm n0 (X g pm n0) = 0 := by unfold X; rw [ori_lerp, ori_r, ori_m]; grind
theorem phi1 (c : Cut h g n0 k p0 pm N P) {r : V} (hr : h.at r = 0) (gr : g.at r = 0) (ho : 0 < ori h.n k p0 r) : dot (X g k p0) (cross h.n g.n) < dot r (cross h.n g.n) := by
  have e := ori_edge c.hx hr c.xk_at gr (c.pl k (c.mN c.kN)) (c.pl p0 (c.mP c.p0P))
  rw [c.e1x] at e
  have hN := c.Npos
  have hnn := nn_pos c.pv.n_ne
  have p1 := Rat.mul_pos hN ho
  have p2 : 0 < dot h.n h.n * (g.at p0 - g.at k) := Rat.mul_pos hnn (by have := c.gk; have := c.gp0; grind)
  have := mul_pos_neg (a := dot r (cross h.n g.n) - dot (X g k p0) (cross h.n g.n)) (by rw [← e]; grind) p2
  grind
theorem phixy (c : Cut h g n0 k p0 pm N P) : dot (X g k p0) (cross h.n g.n) < dot (X g pm n0) (cross h.n g.n) := c.phi1 c.hy c.xm_at c.e1y
theorem xy_ne (c : Cut h g n0 k p0 pm N P) : X g k p0 ≠ X g pm n0 := fun e => by have := c.phixy; rw [e] at this; grind
theorem strict (c : Cut h g n0 k p0 pm N P) {z : V} (hz : z ∈ N) (h1 : z ≠ X g k p0) (h2 : z ≠ X g pm n0) : g.at z < 0 := by
  rcases lt_or_eq (c.neg z hz) with h0 | h0
  · exact h0
  exfalso
  have pz := c.pl z (c.mN hz)
  have hzk : z ≠ k := fun e => h1 (by rw [c.xk (by rw [← e, h0]; grind), e])
  have hzn : z ≠ n0 := fun e => h2 (by rw [c.xm (by rw [← e, h0]; grind), e])
  have f1 := c.phi1 pz h0 (c.e1N hz hzk)
  obtain ⟨T1, e1⟩ := c.hn0
  obtain ⟨T2, e2⟩ := c.hk
  have hzT : z ∈ T1 := by rw [e1] at hz; simp at hz; exact hz.resolve_left hzn
  obtain ⟨u, hu⟩ : ∃ u, (u, z) ∈ path N := by
    have : z ∈ (path N).map (·.2) := by rw [e1, path_snd]; exact hzT
    obtain ⟨e, he, rfl⟩ := List.mem_map.1 this
    exact ⟨e.1, he⟩
  have hue := c.eN hu
  have huN : u ∈ T2 := by
    have : u ∈ (path N).map (·.1) := List.mem_map_of_mem (f := (·.1)) hu
    rwa [e2, path_fst] at this
  have huk : u ≠ k := by
    intro e
    have hnd := (List.nodup_append.1 c.pv.nd).1
    rw [e2] at hnd
    exact (List.nodup_append.1 hnd).2.2 u huN k (by simp) e
  have huN' : u ∈ N := by rw [e2]; simp [huN]
  have e := ori_edge pz c.hx h0 c.xk_at (c.pl u (c.mN huN')) pz
  rw [ori_m, h0] at e
  have hpos : 0 < ori h.n u z (X g k p0) := by
    obtain ⟨t, t0, t1, t2, t3, te⟩ := X_w c.gk c.gp0
    rw [te, ori_lerp]
    have s1 := c.pv.lf _ hue k (c.mN c.kN) (Ne.symm huk) (Ne.symm hzk)
    have s2 := c.pv.lf _ hue p0 (c.mP c.p0P) (Ne.symm (c.neNP huN' c.p0P)) (Ne.symm (c.neNP hz c.p0P))
    have p1 := Rat.mul_pos (a := 1 - t) (by grind) s1
    have p2 := Rat.mul_nonneg t0 (Rat.le_of_lt s2)
    grind
  have p1 := Rat.mul_pos c.Npos hpos
  have p2 := Rat.mul_nonneg (Rat.le_of_lt (nn_pos c.pv.n_ne)) (show 0 ≤ - g.at u by have := c.neg u huN'; grind)
  have p3 := Rat.mul_nonneg (a := dot z (cross h.n g.n) - dot (X g k p0) (cross h.n g.n)) (by grind) p2
  grind
end Cut
end Geo
namespace Geo
theorem lerp_at_zero {h : H} {t : Rat} {p q : V} (hp : h.at p = 0) (hq : h.at q = 0) : h.at (lerp t p q) = 0 := by rw [at_lerp, hp, hq]; grind
theorem ori_sub_snd (n a b z : V) (t : Rat) : ori n a (lerp t a b) z = t * ori n a b z := by
  simp only [ori, dot, cross, lerp, sub_x, sub_y, sub_z, add_x, add_y, add_z, smul_x, smul_y, smul_z]; grind
theorem ori_sub_fst (n a b z : V) (t : Rat) : ori n (lerp t a b) b z = (1 - t) * ori n a b z := by
  simp only [ori, dot, cross, lerp, sub_x, sub_y, sub_z, add_x, add_y, add_z, smul_x, smul_y, smul_z]; grind
def trim (g : H) (e : V × V) : Option (V × V) :=
  if g.at e.1 ≤ 0 ∧ g.at e.2 ≤ 0 then (if g.at e.1 = 0 ∧ g.at e.2 = 0 then none else some e)
  else if g.at e.1 < 0 then some (e.1, X g e.1 e.2) else if g.at e.2 < 0 then some (X g e.1 e.2, e.2) else none
def off (g : H) (e : V × V) : Bool := decide (¬ (g.at e.1 = 0 ∧ g.at e.2 = 0))
namespace Cut
variable {h g : H} {n0 k p0 pm : V} {N P : List V}
theorem memW (c : Cut h g n0 k p0 pm N P) {z : V} (hz : z ∈ part g (N ++ P)) : z ∈ N ∨ (z = X g k p0 ∧ g.at k < 0) ∨ (z = X g pm n0 ∧ g.at n0 < 0) := by
  rw [c.partEq] at hz
  simp only [List.mem_append] at hz
  rcases hz with hz | hz | hz
  · exact .inl hz
  · split at hz
    · simp at hz; exact .inr (.inl ⟨hz, by assumption⟩)
    · simp at hz
  · split at hz
    · simp at hz; exact .inr (.inr ⟨hz, by assumption⟩)
    · simp at hz
theorem memW' (c : Cut h g n0 k p0 pm N P) {z : V} (hz : z ∈ part g (N ++ P)) : z ∈ N ∨ z = X g k p0 ∨ z = X g pm n0 := by
  rcases c.memW hz with h | h | h
  · exact .inl h
  · exact .inr (.inl h.1)
  · exact .inr (.inr h.1)
theorem inW (c : Cut h g n0 k p0 pm N P) {z : V} (hz : z ∈ N) : z ∈ part g (N ++ P) := by rw [c.partEq]; simp [hz]
theorem xW (c : Cut h g n0 k p0 pm N P) : X g k p0 ∈ part g (N ++ P) := by
  by_cases hk : g.at k < 0
  · rw [c.partEq]; simp [hk]
  · rw [c.xk hk]; exact c.inW c.kN
theorem yW (c : Cut h g n0 k p0 pm N P) : X g pm n0 ∈ part g (N ++ P) := by
  by_cases hk : g.at n0 < 0
  · rw [c.partEq]; simp [hk]
  · rw [c.xm hk]; exact c.inW c.n0N
theorem W1 (c : Cut h g n0 k p0 pm N P) {z : V} (hz : z ∈ part g (N ++ P)) (h1 : z ≠ k) (h2 : z ≠ X g k p0) : 0 < ori h.n k p0 z := by
  rcases c.memW' hz with h | h | h
  · exact c.e1N h h1
  · exact absurd h h2
  · rw [h]; exact c.e1y
theorem W2 (c : Cut h g n0 k p0 pm N P) {z : V} (hz : z ∈ part g (N ++ P)) (h1 : z ≠ n0) (h2 : z ≠ X g pm n0) : 0 < ori h.n pm n0 z := by
  rcases c.memW' hz with h | h | h
  · exact c.e2N h h1
  · rw [h]; exact c.e2x
  · exact absurd h h2
theorem nodupW (c : Cut h g n0 k p0 pm N P) : (part g (N ++ P)).Nodup := by
  have hnd := (List.nodup_append.1 c.pv.nd).1
  have hx : g.at k < 0 → X g k p0 ∉ N := by
    intro gk hm
    have hne : X g k p0 ≠ k := fun e => by have := c.xk_at; rw [e] at this; grind
    have := c.e1N hm hne
    rw [c.e1x] at this; grind
  have hy : g.at n0 < 0 → X g pm n0 ∉ N := by
    intro gk hm
    have hne : X g pm n0 ≠ n0 := fun e => by have := c.xm_at; rw [e] at this; grind
    have := c.e2N hm hne
    rw [c.e2y] at this; grind
  have hxy := c.xy_ne
  rw [c.partEq, List.nodup_append]
  refine ⟨hnd, ?_, ?_⟩
  · by_cases h1 : g.at k < 0 <;> by_cases h2 : g.at n0 < 0 <;> simp [h1, h2, hxy]
  · intro a ha b hb e
    subst e
    simp only [List.mem_append] at hb
    rcases hb with hb | hb
    · split at hb
      · simp at hb; exact hx (by assumption) (hb ▸ ha)
      · simp at hb
    · split at hb
      · simp at hb; exact hy (by assumption) (hb ▸ ha)
      · simp at hb
theorem le0 (c : Cut h g n0 k p0 pm N P) {z : V} (hz : z ∈ part g (N ++ P)) : g.at z ≤ 0 := by
  rcases c.memW' hz with h | h | h
  · exact c.neg z h
  · rw [h, c.xk_at]; exact Rat.le_refl
  · rw [h, c.xm_at]; exact Rat.le_refl
theorem planar (c : Cut h g n0 k p0 pm N P) {z : V} (hz : z ∈ part g (N ++ P)) : h.at z = 0 := by
  rcases c.memW' hz with h | h | h
  · exact c.pl z (c.mN h)
  · rw [h]; exact c.hx
  · rw [h]; exact c.hy
theorem pvW (c : Cut h g n0 k p0 pm N P) : PV h.n (part g (N ++ P)) := by
  refine ⟨?_, c.nodupW, ?_⟩
  · obtain ⟨w, hw, gw⟩ := c.low
    exact three_le (c.inW hw) c.xW c.yW (fun e => by rw [e, c.xk_at] at gw; grind) (fun e => by rw [e, c.xm_at] at gw; grind) c.xy_ne
  · intro e he z hz h1 h2
    rw [c.edW] at he
    simp only [List.mem_append, List.mem_cons] at he
    rcases he with he | he | he | he
    ·
      have hev := c.eN he
      obtain ⟨T1, q1⟩ := c.hn0
      obtain ⟨T2, q2⟩ := c.hk
      have m1 : e.1 ∈ N := by
        have : e.1 ∈ (path N).map (·.1) := List.mem_map_of_mem (f := (·.1)) he
        rw [q2, path_fst] at this; rw [q2]; simp [this]
      have m2 : e.2 ∈ N := by
        have : e.2 ∈ (path N).map (·.2) := List.mem_map_of_mem (f := (·.2)) he
        rw [q1, path_snd] at this; rw [q1]; simp [this]
      rcases c.memW hz with h | ⟨h, gk⟩ | ⟨h, gk⟩
      · exact c.pv.lf e hev z (c.mN h) h1 h2
      · obtain ⟨t, t0, t1, t2, _, te⟩ := X_w c.gk c.gp0
        rw [h, te, ori_lerp]
        have s1 := c.pv.weak hev (c.mN c.kN)
        have s2 := c.pv.lf e hev p0 (c.mP c.p0P) (Ne.symm (c.neNP m1 c.p0P)) (Ne.symm (c.neNP m2 c.p0P))
        have p1 := Rat.mul_nonneg (a := 1 - t) (by grind) s1
        have p2 := Rat.mul_pos (t2 gk) s2
        grind
      · obtain ⟨t, t0, t1, t2, te⟩ := c.xm_w
        rw [h, te, ori_lerp]
        have s1 := c.pv.weak hev (c.mN c.n0N)
        have s2 := c.pv.lf e hev pm (c.mP c.pmP) (Ne.symm (c.neNP m1 c.pmP)) (Ne.symm (c.neNP m2 c.pmP))
        have p1 := Rat.mul_nonneg (Rat.le_of_lt t0) s1
        have p2 := Rat.mul_pos (a := 1 - t) (by have := t2 gk; grind) s2
        grind
    · split at he
      · rename_i gk
        simp at he; subst he
        obtain ⟨t, t0, t1, t2, _, te⟩ := X_w c.gk c.gp0
        have s := c.W1 hz h1 h2
        simp only at h1 h2 ⊢
        rw [te, ori_sub_snd]
        exact Rat.mul_pos (t2 gk) s
      · simp at he
    · subst he
      simp only at h1 h2 ⊢
      have hzN : z ∈ N := by
        rcases c.memW' hz with h | h | h
        · exact h
        · exact absurd h h1
        · exact absurd h h2
      have gz := c.strict hzN h1 h2
      have e := ori_line (z := z) c.hx c.hy c.xk_at c.xm_at (c.planar hz)
      have hE : 0 < dot (X g pm n0 - X g k p0) (cross h.n g.n) := by
        have := c.phixy
        simp only [dot, sub_x, sub_y, sub_z] at this ⊢; grind
      have p1 := Rat.mul_pos hE (Rat.mul_pos (nn_pos c.pv.n_ne) (show 0 < - g.at z by grind))
      have hN := c.Npos
      refine mul_pos_neg (b := dot (cross h.n g.n) (cross h.n g.n)) ?_ hN
      rw [Rat.mul_comm, e]
      grind
    · split at he
      · rename_i gk
        simp at he; subst he
        obtain ⟨t, t0, t1, t2, te⟩ := c.xm_w
        have s := c.W2 hz h2 h1
        simp only at h1 h2 ⊢
        rw [te, ori_sub_fst]
        exact Rat.mul_pos (a := 1 - t) (by have := t2 gk; grind) s
      · simp at he
theorem offW (c : Cut h g n0 k p0 pm N P) : (edges (part g (N ++ P))).filter (off g) = (edges (N ++ P)).filterMap (trim g) := by
  have a1 : ∀ l : List (V × V), (∀ e ∈ l, g.at e.1 ≤ 0 ∧ g.at e.2 ≤ 0) → l.filter (off g) = l.filterMap (trim g) := by
    intro l
    induction l with
    | nil => intro _; rfl
    | cons e l ih =>
      intro h
      have he := h e (by simp)
      have ih := ih fun e he => h e (by simp [he])
      simp only [List.filter_cons, List.filterMap_cons, off, trim, if_pos he]
      by_cases h0 : g.at e.1 = 0 ∧ g.at e.2 = 0
      · simp only [h0, and_self, not_true_eq_false, decide_false, Bool.false_eq_true, if_false, if_true]; exact ih
      · simp only [h0, not_false_eq_true, decide_true, if_true, if_false]; rw [ih]
  have a2 : ∀ l : List (V × V), (∀ e ∈ l, 0 < g.at e.1 ∧ 0 < g.at e.2) → l.filterMap (trim g) = [] := by
    intro l
    induction l with
    | nil => intro _; rfl
    | cons e l ih =>
      intro h
      have he := h e (by simp)
      have ih := ih fun e he => h e (by simp [he])
      have b1 : ¬ (g.at e.1 ≤ 0 ∧ g.at e.2 ≤ 0) := by grind
      have b2 : ¬ g.at e.1 < 0 := by grind
      have b3 : ¬ g.at e.2 < 0 := by grind
      simp only [List.filterMap_cons, trim, b1, b2, b3, if_false]; exact ih
  have mN : ∀ e ∈ path N, e.1 ∈ N ∧ e.2 ∈ N := by
    intro e he
    obtain ⟨T1, q1⟩ := c.hn0
    obtain ⟨T2, q2⟩ := c.hk
    constructor
    · have : e.1 ∈ (path N).map (·.1) := List.mem_map_of_mem (f := (·.1)) he
      rw [q2, path_fst] at this; rw [q2]; simp [this]
    · have : e.2 ∈ (path N).map (·.2) := List.mem_map_of_mem (f := (·.2)) he
      rw [q1, path_snd] at this; rw [q1]; simp [this]
  have mP : ∀ e ∈ path P, e.1 ∈ P ∧ e.2 ∈ P := by
    intro e he
    obtain ⟨T1, q1⟩ := c.hp0
    obtain ⟨T2, q2⟩ := c.hpm
    constructor
    · have : e.1 ∈ (path P).map (·.1) := List.mem_map_of_mem (f := (·.1)) he
      rw [q2, path_fst] at this; rw [q2]; simp [this]
    · have : e.2 ∈ (path P).map (·.2) := List.mem_map_of_mem (f := (·.2)) he
      rw [q1, path_snd] at this; rw [q1]; simp [this]
  have b1 := a1 (path N) fun e he => ⟨c.neg _ (mN e he).1, c.neg _ (mN e he).2⟩
  have b2 := a2 (path P) fun e he => ⟨c.pos _ (mP e he).1, c.pos _ (mP e he).2⟩
  have b3 : trim g (k, p0) = if g.at k < 0 then some (k, X g k p0) else none := by
    have q1 : ¬ (g.at k ≤ 0 ∧ g.at p0 ≤ 0) := by have := c.gp0; grind
    have q2 : ¬ g.at p0 < 0 := by have := c.gp0; grind
    simp only [trim, q1, q2, if_false]
  have b4 : trim g (pm, n0) = if g.at n0 < 0 then some (X g pm n0, n0) else none := by
    have q1 : ¬ (g.at pm ≤ 0 ∧ g.at n0 ≤ 0) := by have := c.gpm; grind
    have q2 : ¬ g.at pm < 0 := by have := c.gpm; grind
    simp only [trim, q1, q2, if_false]
  have o1 : off g (X g k p0, X g pm n0) = false := by simp [off, c.xk_at, c.xm_at]
  have o2 : g.at k < 0 → off g (k, X g k p0) = true := fun hk => by
    have : g.at k ≠ 0 := by grind
    simp [off, this]
  have o3 : g.at n0 < 0 → off g (X g pm n0, n0) = true := fun hk => by
    have : g.at n0 ≠ 0 := by grind
    simp [off, this]
  rw [c.edW, c.ed]
  simp only [List.filter_append, List.filterMap_append, List.filter_cons, List.filterMap_cons, List.filterMap_nil, b1, b2, b3, b4, o1, List.append_nil, List.nil_append, Bool.false_eq_true, if_false, List.append_assoc]
  congr 1
  by_cases h1 : g.at k < 0 <;> by_cases h2 : g.at n0 < 0 <;> simp [h1, h2, o2, o3]
end Cut
end Geo
