import Derived.Test.YtjlfgmhmalbiiaaGreatDoorProg
import Derived.Deep.Slices
import Derived.OpenShut
import Derived.Test.YtjlfgmhmalbiiaaGreatDoorT10
import Derived.Test.YtjlfgmhmalbiiaaGreatDoorT32
set_option linter.all false
namespace Go.Proofs.Vx
open Go Go.Sx Go.Proofs
attribute [local irreducible] fnT CallOK CallFr AW effV callV runP runO oneP oneO gcaseP hid
theorem yfn_20 : fnT Tryz.prog 20 = true := by kernel_rfl
set_option maxHeartbeats 3200000 in
theorem c26 (l : List Pt) (hn : l.length ≤ 268435456) : CallOK Tryz.prog 26 [.sl (l.map eP), .sl (l.map eP)] [] (.lit (.bool true)) [] := by
 refine CallOK.flat Tryz.func26 rfl 26 rfl rfl rfl [.tmp 4] (congrArg Array.toList Tryz.results26) ?_
 simp only [startT, Nat.reduceAdd]
 have hl : (l.map eP).length = l.length := List.length_map _
 repeat' (first | refine zg ?_ | refine AW.drawP ymix ?_ | (refine AW.cond rfl ?_ ?_ <;> intro hc <;> first | (cases hc; done) | simp only [NM] at hc | skip <;> try (exfalso; omega)) | (refine zr ?_; simp -dsimp (disch := try exact zo) only [go_sem, hl] <;> try rfl) | refine ⟨by omega, ?_⟩ | (refine zb ?_ ?_ <;> intro hg <;> (try simp only [NB] at hg) <;> (try rw [hg]) <;> try simp only [NM] at hg) | omega | simp -dsimp (disch := try exact zo) only [go_sem, hl] | contradiction)
 refine AW.loop (fun z : {i : Nat // i ≤ l.length} => ⟨[(5, .lit (.int .i64 z.1)), (0, .sl (l.map eP)), (1, .sl (l.map eP))], [], 30⟩) (fun z => l.length - z.1) ⟨0, Nat.zero_le _⟩ (Weak.t4 (by refine ⟨?_, ?_, ?_, ?_⟩ <;> simp -dsimp (disch := try exact zo) only [go_sem, eP_in, Int.natCast_add, Int.cast_ofNat_Int])) ?_
 rintro ⟨i, hi⟩
 dsimp only
 by_cases hlt : i < l.length
 ·have ea := eP_getD l i hlt
  generalize l[i] = a at *
  simp only [eP, e4] at ea
  repeat' (first | refine zg ?_ | refine AW.drawP ymix ?_ | (refine AW.cond rfl ?_ ?_ <;> intro hc <;> first | (cases hc; done) | simp only [NM] at hc | skip <;> try (exfalso; omega)) | (refine zr ?_; simp -dsimp (disch := try exact zo) only [go_sem, hl, ea, Int.toNat_natCast, and_self] <;> try rfl) | refine ⟨by omega, ?_⟩ | (refine zb ?_ ?_ <;> intro hg <;> (try simp only [NB] at hg) <;> (try rw [hg]) <;> try simp only [NM] at hg) | omega | simp -dsimp (disch := try exact zo) only [go_sem, hl, ea, Int.toNat_natCast, and_self] | contradiction)
  all_goals exact AW.stop ⟨⟨i + 1, by omega⟩, (Weak.t4 (by refine ⟨?_, ?_, ?_, ?_⟩ <;> simp -dsimp (disch := try exact zo) only [go_sem, eP_in, Int.natCast_add, Int.cast_ofNat_Int])), by dsimp only; omega⟩
 ·repeat' (first | refine zg ?_ | refine AW.drawP ymix ?_ | (refine AW.cond rfl ?_ ?_ <;> intro hc <;> first | (cases hc; done) | simp only [NM] at hc | skip <;> try (exfalso; omega)) | (refine zr ?_; simp -dsimp (disch := try exact zo) only [go_sem, hl] <;> try rfl) | refine ⟨by omega, ?_⟩ | (refine zb ?_ ?_ <;> intro hg <;> (try simp only [NB] at hg) <;> (try rw [hg]) <;> try simp only [NM] at hg) | omega | simp -dsimp (disch := try exact zo) only [go_sem, hl] | contradiction)
theorem inCell {K : Nat → Prop} (l : PCell) : In K (.agg [.sl (eS l)]) := .agg _ (by
 intro c hc
 simp only [List.mem_cons, List.not_mem_nil, or_false] at hc
 subst hc
 exact .sl _ (of_eq_true (eS_in l)))
theorem inPair {K : Nat → Prop} (l m : PCell) : In K (.tup [.agg [.sl (eS l)], .agg [.sl (eS m)]]) := .tup _ (by
 intro c hc
 simp only [List.mem_cons, List.not_mem_nil, or_false] at hc
 rcases hc with rfl | rfl <;> exact inCell _)
theorem cutP_succ (ps : List Pl) (i : Nat) (h : i < ps.length) : cutP (ps.take (i + 1)) = cutStep (cutP (ps.take i)) ps[i] := by
 unfold cutP
 rw [List.take_succ_eq_append_getElem h, List.foldl_append]
 rfl
theorem eH_getD (l : List Pl) (i : Nat) (h : i < l.length) : (l.map eH).getD i [] = eH l[i] := by
 rw [List.getD_eq_getElem?_getD, List.getElem?_eq_getElem (by simpa using h)]; simp
theorem kB_8 : kB 8 = 2553 := by decide
theorem cut_bdC {ps : List Pl} (hb : ∀ p ∈ ps, BPl 3 p) (hn : ps.length ≤ 8) : BdC (cutP ps) := (cutP_bd hb 8 hn (Nat.le_refl _)).mono (by decide) (by decide) (by rw [kB_8]; decide)
set_option maxHeartbeats 8000000 in
theorem c20 (ps : List Pl) (hb : ∀ p ∈ ps, BPl 3 p) (hn : ps.length ≤ 8) : CallOK Tryz.prog 20 [.sl (ps.map eH)] [] (.agg [.sl (eS (cutP ps))]) [] := by
 refine CallOK.closed Tryz.func20 rfl 28 rfl rfl (inCell _) [.cell 2 33] (congrArg Array.toList Tryz.results20) ?_
 simp only [startT, Nat.reduceAdd]
 have hml : maxLen = 9223372036854775807 := rfl
 have hl : (ps.map eH).length = ps.length := List.length_map _
 have h00 : cutP [] = worldP := rfl
 repeat' (first | refine zg ?_ | (refine AW.cond rfl ?_ ?_ <;> intro hc <;> first | (cases hc; done) | simp only [NM] at hc | skip <;> try (exfalso; omega)) | (refine zr ?_; simp -dsimp (disch := try exact zo) only [go_sem, hl] <;> try rfl) | (refine callV.plain _ yfn_57 c57 (by simp) (inCell _) ?_) | refine ⟨by omega, ?_⟩ | (refine zb ?_ ?_ <;> intro hg <;> (try simp only [NB] at hg) <;> (try rw [hg]) <;> try simp only [NM] at hg) | omega | simp -dsimp (disch := try exact zo) only [go_sem, hl] | contradiction)
 refine AW.loop (fun z : {i : Nat // i ≤ ps.length} => ⟨[(11, .lit (.int .i64 z.1)), (10, .lit (.int .i64 ps.length)), (9, .sl (ps.map eH)), (3, .loc 10 0), (2, .loc 8 0)], [(10, .blk [.sl (eS (cutP (ps.take z.1)))]), (8, .blk [.lit (.slice none 0 0)])], 60⟩) (fun z => ps.length - z.1) ⟨0, Nat.zero_le _⟩ (Weak.t4 (by refine ⟨?_, ?_, ?_, ?_⟩ <;> simp -dsimp (disch := try exact zo) only [go_sem, List.take_zero, h00, eS_in, eHs_in, Int.natCast_add, Int.cast_ofNat_Int])) ?_
 rintro ⟨i, hi⟩
 dsimp only
 by_cases hlt : i < ps.length
 ·have es1 := eH_getD ps i hlt
  have hst := cutP_succ ps i hlt
  have hbi := hb _ (List.getElem_mem hlt)
  have hok := cutP_ok (ps.take i)
  have hbd := cut_bdC (ps := ps.take i) (fun p hp => hb p (List.mem_of_mem_take hp)) (by rw [List.length_take]; omega)
  generalize ps[i] = p at *
  have c21v := c21x (cutP (ps.take i)) p (.inr hok) hbd (hbi.mono (by decide))
  generalize cutP (ps.take i) = c at *
  unfold cutStep at hst
  generalize (splitP p c).1 = X at *
  generalize (splitP p c).2 = Y at *
  have hlX : (eS X).length = X.length := List.length_map _
  simp only [eH, e4] at es1
  clear hok hbd hbi hb
  by_cases q : X = []
  ·rw [if_pos q] at hst
   have k1 : (0 < (X.length : Int)) = False := eq_false (by subst q; simp)
   clear q
   repeat' (first | refine zg ?_ | (refine AW.cond rfl ?_ ?_ <;> intro hc <;> first | (cases hc; done) | simp only [NM] at hc | skip <;> try (exfalso; omega)) | (refine zr ?_; simp -dsimp (disch := try exact zo) only [go_sem, hl, es1, k1, hlX, Int.toNat_natCast, eS_in, eHs_in] <;> try rfl) | (refine callV.plain _ yfn_21 c21v (by simp -dsimp (disch := try exact zo) only [go_sem, eS_in, eP_in]) (inPair _ _) ?_) | refine ⟨by omega, ?_⟩ | (refine zb ?_ ?_ <;> intro hg <;> (try simp only [NB] at hg) <;> (try rw [hg]) <;> try simp only [NM] at hg) | omega | simp -dsimp (disch := try exact zo) only [go_sem, hl, es1, k1, hlX, Int.toNat_natCast, eS_in, eHs_in] | contradiction)
   all_goals exact AW.stop ⟨⟨i + 1, by omega⟩, (Weak.t4 (by refine ⟨?_, ?_, ?_, ?_⟩ <;> simp -dsimp (disch := try exact zo) only [go_sem, eS_in, eHs_in, hst, Int.natCast_add, Int.cast_ofNat_Int])), by dsimp only; omega⟩
  ·rw [if_neg q] at hst
   have k1 : (0 < (X.length : Int)) = True := eq_true (by have := List.length_pos_iff.2 q; omega)
   clear q
   repeat' (first | refine zg ?_ | (refine AW.cond rfl ?_ ?_ <;> intro hc <;> first | (cases hc; done) | simp only [NM] at hc | skip <;> try (exfalso; omega)) | (refine zr ?_; simp -dsimp (disch := try exact zo) only [go_sem, hl, es1, k1, hlX, Int.toNat_natCast, eS_in, eHs_in] <;> try rfl) | (refine callV.plain _ yfn_21 c21v (by simp -dsimp (disch := try exact zo) only [go_sem, eS_in, eP_in]) (inPair _ _) ?_) | refine ⟨by omega, ?_⟩ | (refine zb ?_ ?_ <;> intro hg <;> (try simp only [NB] at hg) <;> (try rw [hg]) <;> try simp only [NM] at hg) | omega | simp -dsimp (disch := try exact zo) only [go_sem, hl, es1, k1, hlX, Int.toNat_natCast, eS_in, eHs_in] | contradiction)
   all_goals exact AW.stop ⟨⟨i + 1, by omega⟩, (Weak.t4 (by refine ⟨?_, ?_, ?_, ?_⟩ <;> simp -dsimp (disch := try exact zo) only [go_sem, eS_in, eHs_in, hst, Int.natCast_add, Int.cast_ofNat_Int])), by dsimp only; omega⟩
 ·have hil : i = ps.length := by omega
  subst hil
  rw [List.take_length]
  repeat' (first | refine zg ?_ | (refine AW.cond rfl ?_ ?_ <;> intro hc <;> first | (cases hc; done) | simp only [NM] at hc | skip <;> try (exfalso; omega)) | (refine zr ?_; simp -dsimp (disch := try exact zo) only [go_sem, hl] <;> try rfl) | refine ⟨by omega, ?_⟩ | (refine zb ?_ ?_ <;> intro hg <;> (try simp only [NB] at hg) <;> (try rw [hg]) <;> try simp only [NM] at hg) | omega | simp -dsimp (disch := try exact zo) only [go_sem, hl] | contradiction)
def floorP : Pl := ⟨0, 0, 1, 0⟩
def topP : Pl := ⟨0, 0, 1, 1000⟩
theorem fx1 : volP worldP = ((8000000000 : Int) : Rat) := by decide +kernel
theorem fx2 : volP (splitP floorP worldP).1 = ((4000000000 : Int) : Rat) := by decide +kernel
theorem fx3 : (splitP topP worldP).1 = worldP := by decide +kernel
theorem fx4 : (splitP topP worldP).2 = [] := by decide +kernel
theorem fx5 : sg ((8000000000 : Int) : Rat).num = 1 := by decide +kernel
theorem floor_bs : BPl 2 floorP := ⟨⟨(Zm_size _ _).2 (by decide), (Zm_size _ _).2 (by decide), (Zm_size _ _).2 (by decide), (Zm_size _ _).2 (by decide)⟩⟩
theorem top_bs : BPl 2 topP := ⟨⟨(Zm_size _ _).2 (by decide), (Zm_size _ _).2 (by decide), (Zm_size _ _).2 (by decide), (Zm_size _ _).2 (by decide)⟩⟩
theorem qs8 : Qs 68719476735 ((8000000000 : Int) : Rat) := ⟨Nat.le_trans ((Zm_size 8000000000 8).2 (by decide)) (by decide), by show (nb 1).size ≤ _; rw [nb_one]; decide⟩
end Go.Proofs.Vx
namespace Go.Proofs.Vx
open Go Go.Sx Go.Proofs
attribute [local irreducible] fnT CallOK CallFr AW effV callV runP runO oneP oneO gcaseP hid
theorem yqq_Nx47 : boT Tryz.prog 41 = false ∧ Tryz.prog.eqGuardType Tryz.prog.depth 41 = false ∧ lfT Tryz.prog 30 41 = some [.b, .s, .s] := by and_intros <;> kernel_rfl
attribute [go_sem] yqq_Nx47
theorem yfn_19 : fnT Tryz.prog 19 = true := by kernel_rfl
theorem flatQ (q : Rat) : Flat (.agg (eQ q)) := .agg _ (by
 intro c hc
 simp only [eQ, List.mem_cons, List.not_mem_nil, or_false] at hc
 rcases hc with rfl | rfl | rfl <;> exact .lit _)
set_option maxRecDepth 20000 in
set_option maxHeartbeats 16000000 in
theorem c19  : CallOK Tryz.prog 19 [] [] (.lit (.bool true)) [] := by
 refine CallOK.flat Tryz.func19 rfl 60 rfl rfl rfl [.tmp 0] (congrArg Array.toList Tryz.results19) ?_
 simp only [startT, Nat.reduceAdd]
 have hml : maxLen = 9223372036854775807 := rfl
 have hl6 : (eS worldP).length = 6 := rfl
 have hl0 : (eS []).length = 0 := rfl
 have hw : BdC worldP := world_bd.mono (by decide) (by decide) (by decide)
 have s1 := c21x worldP floorP (.inr world_cell) hw (floor_bs.mono (by decide))
 have s2 := c21x worldP topP (.inr world_cell) hw (top_bs.mono (by decide))
 rw [fx3, fx4] at s2
 have e1 : eH floorP = [.lit (.bool false), .lit (.string ⟨#[]⟩), .lit (.bool false), .lit (.string ⟨#[]⟩), .lit (.bool (Zn 1)), .lit (.string (Zm 1)), .lit (.bool false), .lit (.string ⟨#[]⟩)] := by simp only [eH, e4, floorP, Zn_zero, Zm_zero]
 have e2 : eH topP = [.lit (.bool false), .lit (.string ⟨#[]⟩), .lit (.bool false), .lit (.string ⟨#[]⟩), .lit (.bool (Zn 1)), .lit (.string (Zm 1)), .lit (.bool (Zn 1000)), .lit (.string (Zm 1000))] := by simp only [eH, e4, topP, Zn_zero, Zm_zero]
 rw [e1] at s1
 rw [e2] at s2
 have hw2 : BdV worldP := world_bd.mono (by decide) (by decide) (by decide)
 have v1 := c24 worldP world_cell.toCanC hw2
 rw [fx1] at v1
 have v2 := c24 (splitP floorP worldP).1 (OkC.can (split_ok world_cell).1) ((split_bd (.inr world_cell) world_bd floor_bs (by decide)).1.mono (by decide) (by decide) (by decide))
 rw [fx2] at v2
 have g1 := c23 ((8000000000 : Int) : Rat) qs8
 rw [fx5] at g1
 generalize (splitP floorP worldP).1 = A at *
 generalize (splitP floorP worldP).2 = B at *
 have w0 := c57
 generalize worldP = W at *
 clear hw hw2 e1 e2
 repeat' (first | refine zg ?_ | (refine AW.cond rfl ?_ ?_ <;> intro hc <;> first | (cases hc; done) | simp only [NM] at hc | skip <;> try (exfalso; omega)) | (refine zr ?_; simp -dsimp (disch := try exact zo) only [go_sem, hl6, hl0, eS_in] <;> try rfl) | (refine callV.plain _ yfn_57 w0 (by simp) (inCell _) ?_) | (first | refine callV.flat _ yfn_67 (c67 1 (by decide)) rfl rfl ?_ | refine callV.flat _ yfn_67 (c67 1000 (by decide)) rfl rfl ?_) | (first | refine callV.plain _ yfn_21 s1 (by simp -dsimp (disch := try exact zo) only [go_sem, eS_in, eP_in]) (inPair _ _) ?_ | refine callV.plain _ yfn_21 s2 (by simp -dsimp (disch := try exact zo) only [go_sem, eS_in, eP_in]) (inPair _ _) ?_) | (first | refine callV.plain _ yfn_24 v1 (by simp -dsimp (disch := try exact zo) only [go_sem, eS_in]) (flatQ _).in ?_ | refine callV.plain _ yfn_24 v2 (by simp -dsimp (disch := try exact zo) only [go_sem, eS_in]) (flatQ _).in ?_) | (refine callV.flat _ yfn_23 g1 rfl rfl ?_) | (first | refine callV.flat _ yfn_68 (c68 8000000000 (by decide)) rfl rfl ?_ | refine callV.flat _ yfn_68 (c68 4000000000 (by decide)) rfl rfl ?_) | refine ⟨by omega, ?_⟩ | (refine zb ?_ ?_ <;> intro hg <;> (try simp only [NB] at hg) <;> (try rw [hg]) <;> try simp only [NM] at hg) | omega | simp -dsimp (disch := try exact zo) only [go_sem, hl6, hl0, eS_in] | contradiction)
end Go.Proofs.Vx
namespace Go.Proofs.Vx
open Go Go.Sx Go.Proofs
attribute [local irreducible] fnT CallOK CallFr AW effV callV runP runO oneP oneO gcaseP hid
theorem yqq_Nx48 : arT Tryz.prog 27 = some (1, 8, true) ∧ arT Tryz.prog 38 = none ∧ slT Tryz.prog 27 = none ∧ slT Tryz.prog 38 = some (33, 1) ∧ strT Tryz.prog 27 = false ∧ strT Tryz.prog 38 = false := by and_intros <;> kernel_rfl
attribute [go_sem] yqq_Nx48
theorem yfn_3 : fnT Tryz.prog 3 = true := by kernel_rfl
theorem nrm_bs3 {r : RP} (h : goodR r = true) : BPl 3 (nrmR r) := by
 obtain ⟨h1, h2, h3, h4, h5⟩ := good_iff.1 h
 obtain ⟨d1, d2, d3, d4⟩ := g4_dvd (iv r.n1 r.m1) (iv r.n2 r.m2) (iv r.n3 r.m3) (iv r.n4 r.m4)
 have hG : 0 < g4 (iv r.n1 r.m1) (iv r.n2 r.m2) (iv r.n3 r.m3) (iv r.n4 r.m4) := by
  apply Nat.pos_of_ne_zero
  intro h0
  rw [h0] at d1 d2 d3
  exact h5 ⟨by simpa using d1, by simpa using d2, by simpa using d3⟩
 have z1 := zs_iv r.n1 r.m1
 have z2 := zs_iv r.n2 r.m2
 have z3 := zs_iv r.n3 r.m3
 have z4 := zs_iv r.n4 r.m4
 exact ⟨⟨Nat.le_trans (zs_exact d1 hG) (by omega), Nat.le_trans (zs_exact d2 hG) (by omega), Nat.le_trans (zs_exact d3 hG) (by omega), Nat.le_trans (zs_exact d4 hG) (by omega)⟩⟩
theorem nrm_ne {r : RP} (h : goodR r = true) : (tH (nrmR r)).n ≠ ⟨0, 0, 0⟩ := by
 obtain ⟨h1, h2, h3, h4, h5⟩ := good_iff.1 h
 obtain ⟨d1, d2, d3, d4⟩ := g4_dvd (iv r.n1 r.m1) (iv r.n2 r.m2) (iv r.n3 r.m3) (iv r.n4 r.m4)
 intro e
 have ex := congrArg Geo.V.x e
 have ey := congrArg Geo.V.y e
 have ez := congrArg Geo.V.z e
 simp only [tH] at ex ey ez
 have ex : (nrmR r).a = 0 := by exact_mod_cast ex
 have ey : (nrmR r).b = 0 := by exact_mod_cast ey
 have ez : (nrmR r).c = 0 := by exact_mod_cast ez
 exact h5 ⟨Int.eq_zero_of_ediv_eq_zero d1 ex, Int.eq_zero_of_ediv_eq_zero d2 ey, Int.eq_zero_of_ediv_eq_zero d3 ez⟩
theorem verts_bd {l : PCell} (h : BdC l) : (vertsP l).length ≤ 268435456 := Nat.le_trans (verts_len_le l) (Nat.le_trans (corners_len h.m h.n) (by decide))
theorem badPlanes (rs : List RP) (most : Nat) (hm : most ≤ 64) (h : ¬ (rs.length ≤ most ∧ ∀ r ∈ rs, goodR r = true)) : CallOK Tryz.prog 18 [.sl (eRPs rs), .lit (.int .i64 most)] [] (.tup [.lit (.slice none 0 0), .lit (.bool false)]) [] := by
 by_cases h1 : rs.length ≤ most
 ·exact c18c rs most h1 hm fun hall => h ⟨h1, hall⟩
 ·exact c18a rs most (by omega)
theorem flatNo : Flat (.tup [.lit (.slice none 0 0), .lit (.bool false)]) := .tup _ (by
 intro c hc
 simp only [List.mem_cons, List.not_mem_nil, or_false] at hc
 rcases hc with rfl | rfl <;> exact .lit _)
theorem inPls {K : Nat → Prop} (l : List Pl) : In K (.tup [.sl (l.map eH), .lit (.bool true)]) := .tup _ (by
 intro c hc
 simp only [List.mem_cons, List.not_mem_nil, or_false] at hc
 rcases hc with rfl | rfl
 ·exact .sl _ (of_eq_true (eHs_in _))
 ·exact .lit _)
end Go.Proofs.Vx
namespace Go.Proofs.Vx
open Go Go.Sx Go.Proofs
attribute [local irreducible] fnT CallOK CallFr AW effV callV runP runO oneP oneO gcaseP hid
theorem yqq_Nx54 : arT Tryz.prog 48 = some (2, 8, true) ∧ slT Tryz.prog 48 = none ∧ strT Tryz.prog 48 = false := by and_intros <;> kernel_rfl
attribute [go_sem] yqq_Nx54
theorem yfn_4 : fnT Tryz.prog 4 = true := by kernel_rfl
theorem neg_ne {p : Pl} (h : (tH p).n ≠ ⟨0, 0, 0⟩) : (tH (negP p)).n ≠ ⟨0, 0, 0⟩ := fun e => h (by
 rw [tH_neg] at e
 have ex := congrArg Geo.V.x e
 have ey := congrArg Geo.V.y e
 have ez := congrArg Geo.V.z e
 simp only [Geo.neg, Geo.smul_x, Geo.smul_y, Geo.smul_z] at ex ey ez
 generalize (tH p).n = v at *
 cases v
 simp only [Geo.V.mk.injEq]
 exact ⟨by grind, by grind, by grind⟩)
theorem order4 {p q : Pl} {C : PCell} (h : CellOK C) (hp : (tH p).n ≠ ⟨0, 0, 0⟩) (hq : (tH q).n ≠ ⟨0, 0, 0⟩) :
  vertsP (splitP q (splitP p C).1).1 = vertsP (splitP p (splitP q C).1).1 ∧ vertsP (splitP q (splitP p C).1).2 = vertsP (splitP p (splitP q C).2).1 ∧
  vertsP (splitP q (splitP p C).2).1 = vertsP (splitP p (splitP q C).1).2 ∧ vertsP (splitP q (splitP p C).2).2 = vertsP (splitP p (splitP q C).2).2 := by
 have o : OkC C := .inr h
 have np : (tH (negP p)).n ≠ ⟨0, 0, 0⟩ := neg_ne hp
 have nq : (tH (negP q)).n ≠ ⟨0, 0, 0⟩ := neg_ne hq
 have e1 := front_beh o hp
 have e2 := front_beh o hq
 rw [e1, e2, front_beh (split_ok h).1 hq, front_beh (beh_ok o) hq, front_beh (split_ok h).1 hp, front_beh (beh_ok o) hp]
 exact ⟨beh_comm o hp hq, beh_comm o hp nq, beh_comm o np hq, beh_comm o np nq⟩
theorem split_can {b : Pl} {l : PCell} (h : l = [] ∨ CellOK l) : CanC (splitP b l).1 ∧ CanC (splitP b l).2 := by
 rcases h with rfl | h
 ·exact ⟨OkC.can (.inl rfl), OkC.can (.inl rfl)⟩
 ·exact ⟨OkC.can (split_ok h).1, OkC.can (split_ok h).2⟩
theorem eRPs2 (a b : RP) : eRPs [a, b] = [eRP a, eRP b] := rfl
set_option maxRecDepth 20000 in
set_option maxHeartbeats 16000000 in
theorem c4bad (rs : List RP) (a b : RP) (hbad : ¬ ((rs.length ≤ 3 ∧ ∀ r ∈ rs, goodR r = true) ∧ goodR a = true ∧ goodR b = true)) : CallOK Tryz.prog 4 [.sl (eRPs rs), .agg (eRP a ++ eRP b)] [] (.lit (.bool true)) [] := by
 refine CallOK.flat Tryz.func4 rfl 113 rfl rfl rfl [.tmp 4] (congrArg Array.toList Tryz.results4) ?_
 simp only [startT, Nat.reduceAdd]
 have hml : maxLen = 9223372036854775807 := rfl
 have hb1 : ([a, b].length ≤ 2 ∧ ∀ r ∈ [a, b], goodR r = true) ↔ goodR a = true ∧ goodR b = true := by simp
 by_cases hA : rs.length ≤ 3 ∧ ∀ r ∈ rs, goodR r = true
 ·have hB : ¬ (goodR a = true ∧ goodR b = true) := fun h => hbad ⟨hA, h⟩
  have pa := c18b rs 3 hA.1 (by decide) hA.2
  have pb := badPlanes [a, b] 2 (by decide) (fun h => hB (hb1.1 h))
  rw [eRPs2] at pb
  clear hA hB hbad hb1
  repeat' (first | refine zg ?_ | refine AW.drawP ymix ?_ | (refine AW.cond rfl ?_ ?_ <;> intro hc <;> first | (cases hc; done) | simp only [NM] at hc | skip <;> try (exfalso; omega)) | (refine zr ?_; simp -dsimp (disch := try exact zo) only [go_sem, eRPs_in, eHs_in] <;> try rfl) | (first | refine callV.new _ yfn_18 (by simp -dsimp (disch := try exact zo) only [go_sem]; exact pa) (by simp -dsimp (disch := try exact zo) only [go_sem, eRPs_in, eRPs2]) (inPls _) ?_ | refine callV.lend _ yfn_18 (by simp -dsimp (disch := try exact zo) only [go_sem]; exact pb) (by simp -dsimp (disch := try exact zo) only [go_sem, eRPs_in, eRPs2]) flatNo ?_) | (refine callV.flat _ yfn_19 c19 rfl rfl ?_) | refine ⟨by omega, ?_⟩ | (refine zb ?_ ?_ <;> intro hg <;> (try simp only [NB] at hg) <;> (try rw [hg]) <;> try simp only [NM] at hg) | omega | simp -dsimp (disch := try exact zo) only [go_sem, eRPs_in, eHs_in] | contradiction)
 ·have pa := badPlanes rs 3 (by decide) hA
  by_cases hB : goodR a = true ∧ goodR b = true
  ·have pb := c18b [a, b] 2 (by simp) (by decide) (by simpa using hB)
   rw [eRPs2] at pb
   clear hA hB hbad hb1
   repeat' (first | refine zg ?_ | refine AW.drawP ymix ?_ | (refine AW.cond rfl ?_ ?_ <;> intro hc <;> first | (cases hc; done) | simp only [NM] at hc | skip <;> try (exfalso; omega)) | (refine zr ?_; simp -dsimp (disch := try exact zo) only [go_sem, eRPs_in, eHs_in] <;> try rfl) | (first | refine callV.lend _ yfn_18 (by simp -dsimp (disch := try exact zo) only [go_sem]; exact pa) (by simp -dsimp (disch := try exact zo) only [go_sem, eRPs_in, eRPs2]) flatNo ?_ | refine callV.new _ yfn_18 (by simp -dsimp (disch := try exact zo) only [go_sem]; exact pb) (by simp -dsimp (disch := try exact zo) only [go_sem, eRPs_in, eRPs2]) (inPls _) ?_) | (refine callV.flat _ yfn_19 c19 rfl rfl ?_) | refine ⟨by omega, ?_⟩ | (refine zb ?_ ?_ <;> intro hg <;> (try simp only [NB] at hg) <;> (try rw [hg]) <;> try simp only [NM] at hg) | omega | simp -dsimp (disch := try exact zo) only [go_sem, eRPs_in, eHs_in] | contradiction)
  ·have pb := badPlanes [a, b] 2 (by decide) (fun h => hB (hb1.1 h))
   rw [eRPs2] at pb
   clear hA hB hbad hb1
   repeat' (first | refine zg ?_ | refine AW.drawP ymix ?_ | (refine AW.cond rfl ?_ ?_ <;> intro hc <;> first | (cases hc; done) | simp only [NM] at hc | skip <;> try (exfalso; omega)) | (refine zr ?_; simp -dsimp (disch := try exact zo) only [go_sem, eRPs_in, eHs_in] <;> try rfl) | (first | refine callV.lend _ yfn_18 (by simp -dsimp (disch := try exact zo) only [go_sem]; exact pa) (by simp -dsimp (disch := try exact zo) only [go_sem, eRPs_in, eRPs2]) flatNo ?_ | refine callV.lend _ yfn_18 (by simp -dsimp (disch := try exact zo) only [go_sem]; exact pb) (by simp -dsimp (disch := try exact zo) only [go_sem, eRPs_in, eRPs2]) flatNo ?_) | (refine callV.flat _ yfn_19 c19 rfl rfl ?_) | refine ⟨by omega, ?_⟩ | (refine zb ?_ ?_ <;> intro hg <;> (try simp only [NB] at hg) <;> (try rw [hg]) <;> try simp only [NM] at hg) | omega | simp -dsimp (disch := try exact zo) only [go_sem, eRPs_in, eHs_in] | contradiction)
set_option maxRecDepth 20000 in
set_option maxHeartbeats 40000000 in
theorem c4good (rs : List RP) (a b : RP) (hn : rs.length ≤ 3) (hall : ∀ r ∈ rs, goodR r = true) (ha : goodR a = true) (hb : goodR b = true) : CallOK Tryz.prog 4 [.sl (eRPs rs), .agg (eRP a ++ eRP b)] [] (.lit (.bool true)) [] := by
 refine CallOK.flat Tryz.func4 rfl 113 rfl rfl rfl [.tmp 4] (congrArg Array.toList Tryz.results4) ?_
 simp only [startT, Nat.reduceAdd]
 have hml : maxLen = 9223372036854775807 := rfl
 have pa := c18b rs 3 hn (by decide) hall
 have pb := c18b [a, b] 2 (by simp) (by decide) (by simpa using ⟨ha, hb⟩)
 rw [eRPs2] at pb
 have hps : ∀ p ∈ nrmL rs, BPl 3 p := fun p hp => by
  obtain ⟨r, hr, rfl⟩ := List.mem_map.1 hp
  exact nrm_bs3 (hall r hr)
 have hpn : (nrmL rs).length ≤ 3 := by unfold nrmL; rw [List.length_map]; exact hn
 have ba := nrm_bs3 ha
 have bb := nrm_bs3 hb
 have za := nrm_ne ha
 have zb := nrm_ne hb
 have hnb : nrmL [a, b] = [nrmR a, nrmR b] := rfl
 rw [hnb] at pb
 generalize nrmL rs = ps at *
 generalize nrmR a = p at *
 generalize nrmR b = q at *
 have cc := c20 ps hps (by omega)
 have hok := cutP_ok ps
 have hbd := cutP_bd hps 3 hpn (by decide)
 have hk3 : kB 3 = 73 := by decide
 rw [hk3] at hbd
 have sp := split_bd (b := p) (.inr hok) hbd ba (by decide)
 have sq := split_bd (b := q) (.inr hok) hbd bb (by decide)
 have op := split_ok (b := p) hok
 have oq := split_ok (b := q) hok
 have s0 := c21x (cutP ps) p (.inr hok) (hbd.mono (by decide) (by decide) (by decide)) (ba.mono (by decide))
 have s1 := c21x (cutP ps) q (.inr hok) (hbd.mono (by decide) (by decide) (by decide)) (bb.mono (by decide))
 have o4 := order4 hok za zb
 generalize (splitP p (cutP ps)).1 = A at *
 generalize (splitP p (cutP ps)).2 = B at *
 generalize (splitP q (cutP ps)).1 = D at *
 generalize (splitP q (cutP ps)).2 = E at *
 generalize cutP ps = C at *
 obtain ⟨w0, w1, w2, w3⟩ := o4
 have s2 := c21x A q op.1 (sp.1.mono (by decide) (by decide) (by decide)) (bb.mono (by decide))
 have s3 := c21x B q op.2 (sp.2.mono (by decide) (by decide) (by decide)) (bb.mono (by decide))
 have s4 := c21x D p oq.1 (sq.1.mono (by decide) (by decide) (by decide)) (ba.mono (by decide))
 have s5 := c21x E p oq.2 (sq.2.mono (by decide) (by decide) (by decide)) (ba.mono (by decide))
 have d2 := split_bd (b := q) op.1 sp.1 bb (by decide)
 have d3 := split_bd (b := q) op.2 sp.2 bb (by decide)
 have d4 := split_bd (b := p) oq.1 sq.1 ba (by decide)
 have d5 := split_bd (b := p) oq.2 sq.2 ba (by decide)
 have k2 := split_can (b := q) op.1
 have k3 := split_can (b := q) op.2
 have k4 := split_can (b := p) oq.1
 have k5 := split_can (b := p) oq.2
 generalize (splitP q A).1 = A1 at *
 generalize (splitP q A).2 = A2 at *
 generalize (splitP q B).1 = B1 at *
 generalize (splitP q B).2 = B2 at *
 generalize (splitP p D).1 = D1 at *
 generalize (splitP p D).2 = D2 at *
 generalize (splitP p E).1 = E1 at *
 generalize (splitP p E).2 = E2 at *
 have vA1 : BdC A1 := d2.1.mono (by decide) (by decide) (by decide)
 have t0 := c27x A1 k2.1 vA1
 have vA2 : BdC A2 := d2.2.mono (by decide) (by decide) (by decide)
 have t1 := c27x A2 k2.2 vA2
 have vB1 : BdC B1 := d3.1.mono (by decide) (by decide) (by decide)
 have t2 := c27x B1 k3.1 vB1
 have vB2 : BdC B2 := d3.2.mono (by decide) (by decide) (by decide)
 have t3 := c27x B2 k3.2 vB2
 have vD1 : BdC D1 := d4.1.mono (by decide) (by decide) (by decide)
 have t4 := c27x D1 k4.1 vD1
 have vD2 : BdC D2 := d4.2.mono (by decide) (by decide) (by decide)
 have t5 := c27x D2 k4.2 vD2
 have vE1 : BdC E1 := d5.1.mono (by decide) (by decide) (by decide)
 have t6 := c27x E1 k5.1 vE1
 have vE2 : BdC E2 := d5.2.mono (by decide) (by decide) (by decide)
 have t7 := c27x E2 k5.2 vE2
 rw [w0] at t0
 rw [w1] at t1
 rw [w2] at t2
 rw [w3] at t3
 have m0 := c26 (vertsP D1) (verts_bd vD1)
 have m1 := c26 (vertsP E1) (verts_bd vE1)
 have m2 := c26 (vertsP D2) (verts_bd vD2)
 have m3 := c26 (vertsP E2) (verts_bd vE2)
 have hp0 : ([p, q].map eH).getD 0 [] = eH p := rfl
 have hp1 : ([p, q].map eH).getD 1 [] = eH q := rfl
 have hpl : ([p, q].map eH).length = 2 := rfl
 have inP : ∀ K : Nat → Prop, In K (.tup [.sl ([p, q].map eH), .lit (.bool true)]) := fun K => inPls _
 have inQ : ∀ K : Nat → Prop, (∀ e ∈ [p, q].map eH, ∀ c ∈ e, In K c) = True := fun K => eHs_in _
 clear hall ha hb hps hpn ba bb za zb hnb hok hbd hk3 sp sq op oq w0 w1 w2 w3 d2 d3 d4 d5 k2 k3 k4 k5 vA1 vA2 vB1 vB2 vD1 vD2 vE1 vE2
 generalize vertsP D1 = x0 at *
 generalize vertsP E1 = x1 at *
 generalize vertsP D2 = x2 at *
 generalize vertsP E2 = x3 at *
 generalize hpe : [p, q].map eH = pe at *
 simp only [eH, e4] at hp0 hp1
 repeat' (first | refine zg ?_ | refine AW.drawP ymix ?_ | refine AW.unroll 6 ?_ | (refine AW.cond rfl ?_ ?_ <;> intro hc <;> first | (cases hc; done) | simp only [NM] at hc | skip <;> try (exfalso; omega)) | (refine zr ?_; simp -dsimp (disch := try exact zo) only [go_sem, eRPs_in, eHs_in, eS_in, hp0, hp1, hpl, inQ] <;> try rfl) | (first | refine callV.new _ yfn_18 (by simp -dsimp (disch := try exact zo) only [go_sem]; exact pa) (by simp -dsimp (disch := try exact zo) only [go_sem, eRPs_in, eRPs2]) (inPls _) ?_ | refine callV.new _ yfn_18 (by simp -dsimp (disch := try exact zo) only [go_sem]; exact pb) (by simp -dsimp (disch := try exact zo) only [go_sem, eRPs_in, eRPs2]) (inP _) ?_) | (refine callV.flat _ yfn_19 c19 rfl rfl ?_) | (refine callV.plain _ yfn_20 cc (by simp -dsimp (disch := try exact zo) only [go_sem, eHs_in]) (inCell _) ?_) | (first | refine callV.plain _ yfn_21 s0 (by simp -dsimp (disch := try exact zo) only [go_sem, eS_in]) (inPair _ _) ?_ | refine callV.plain _ yfn_21 s1 (by simp -dsimp (disch := try exact zo) only [go_sem, eS_in]) (inPair _ _) ?_ | refine callV.plain _ yfn_21 s2 (by simp -dsimp (disch := try exact zo) only [go_sem, eS_in]) (inPair _ _) ?_ | refine callV.plain _ yfn_21 s3 (by simp -dsimp (disch := try exact zo) only [go_sem, eS_in]) (inPair _ _) ?_ | refine callV.plain _ yfn_21 s4 (by simp -dsimp (disch := try exact zo) only [go_sem, eS_in]) (inPair _ _) ?_ | refine callV.plain _ yfn_21 s5 (by simp -dsimp (disch := try exact zo) only [go_sem, eS_in]) (inPair _ _) ?_) | (first | refine callV.plain _ yfn_26 m0 (by simp -dsimp (disch := try exact zo) only [go_sem, eP_in]) (.lit _) ?_ | refine callV.plain _ yfn_26 m1 (by simp -dsimp (disch := try exact zo) only [go_sem, eP_in]) (.lit _) ?_ | refine callV.plain _ yfn_26 m2 (by simp -dsimp (disch := try exact zo) only [go_sem, eP_in]) (.lit _) ?_ | refine callV.plain _ yfn_26 m3 (by simp -dsimp (disch := try exact zo) only [go_sem, eP_in]) (.lit _) ?_) | (first | refine callV.plain _ yfn_27 t0 (by simp -dsimp (disch := try exact zo) only [go_sem, eS_in]) (by rw [In_sl, eP_in]; trivial) ?_ | refine callV.plain _ yfn_27 t1 (by simp -dsimp (disch := try exact zo) only [go_sem, eS_in]) (by rw [In_sl, eP_in]; trivial) ?_ | refine callV.plain _ yfn_27 t2 (by simp -dsimp (disch := try exact zo) only [go_sem, eS_in]) (by rw [In_sl, eP_in]; trivial) ?_ | refine callV.plain _ yfn_27 t3 (by simp -dsimp (disch := try exact zo) only [go_sem, eS_in]) (by rw [In_sl, eP_in]; trivial) ?_ | refine callV.plain _ yfn_27 t4 (by simp -dsimp (disch := try exact zo) only [go_sem, eS_in]) (by rw [In_sl, eP_in]; trivial) ?_ | refine callV.plain _ yfn_27 t5 (by simp -dsimp (disch := try exact zo) only [go_sem, eS_in]) (by rw [In_sl, eP_in]; trivial) ?_ | refine callV.plain _ yfn_27 t6 (by simp -dsimp (disch := try exact zo) only [go_sem, eS_in]) (by rw [In_sl, eP_in]; trivial) ?_ | refine callV.plain _ yfn_27 t7 (by simp -dsimp (disch := try exact zo) only [go_sem, eS_in]) (by rw [In_sl, eP_in]; trivial) ?_) | refine ⟨by omega, ?_⟩ | (refine zb ?_ ?_ <;> intro hg <;> (try simp only [NB] at hg) <;> (try rw [hg]) <;> try simp only [NM] at hg) | omega | simp -dsimp (disch := try exact zo) only [go_sem, eRPs_in, eHs_in, eS_in, hp0, hp1, hpl, inQ] | contradiction)
end Go.Proofs.Vx
namespace Go.Proofs.Vx
open Go Go.Sx Go.Proofs Go.ChangeShapes Go.WideShapes Go.Deep
theorem st_u4 : Tryz.prog.underlying 4 = some .bool := by kernel_rfl
theorem st_u9 : Tryz.prog.underlying 9 = some .string := by kernel_rfl
theorem st_u22 : Tryz.prog.underlying 22 = some (.slice 26) := by kernel_rfl
theorem st_u27 : Tryz.prog.underlying 27 = some (.array 1 26) := by kernel_rfl
theorem st_c26 : Tryz.prog.cellsOf 26 = 8 := by kernel_rfl
theorem st_c27 : Tryz.prog.cellsOf 27 = 8 := by kernel_rfl
theorem st_f26 : fldT Tryz.prog 26 = some [(24, 0), (24, 2), (24, 4), (24, 6)] := by kernel_rfl
theorem fld_of {P : Program} {t : TypeId} {ks : List (TypeId × Nat)} (h : fldT P t = some ks) : ∃ fs, P.underlying t = some (.struct fs) ∧ fs.toList.map (fun f => (f.type, f.offset)) = ks := by
 unfold fldT at h
 split at h
 ·rename_i fs hs
  split at h
  ·exact ⟨fs, hs, Option.some.inj h⟩
  ·contradiction
 ·contradiction
theorem list2 {l : List Field} {a b c d : Nat} (h : l.map (fun f => (f.type, f.offset)) = [(a, b), (c, d)]) : ∃ f0 f1, l = [f0, f1] ∧ f0.type = a ∧ f0.offset = b ∧ f1.type = c ∧ f1.offset = d := by
 rcases l with _ | ⟨f0, _ | ⟨f1, _ | ⟨f2, l⟩⟩⟩ <;> simp at h
 exact ⟨f0, f1, rfl, h.1.1, h.1.2, h.2.1, h.2.2⟩
theorem list4 {l : List Field} {a b c d a' b' c' d' : Nat} (h : l.map (fun f => (f.type, f.offset)) = [(a, b), (c, d), (a', b'), (c', d')]) : ∃ f0 f1 f2 f3, l = [f0, f1, f2, f3] ∧ (f0.type = a ∧ f0.offset = b) ∧ (f1.type = c ∧ f1.offset = d) ∧ (f2.type = a' ∧ f2.offset = b') ∧ (f3.type = c' ∧ f3.offset = d') := by
 rcases l with _ | ⟨f0, _ | ⟨f1, _ | ⟨f2, _ | ⟨f3, _ | ⟨f4, l⟩⟩⟩⟩⟩ <;> simp at h
 exact ⟨f0, f1, f2, f3, rfl, h.1, h.2.1, h.2.2.1, h.2.2.2⟩
structure TyOk (P : Program) : Prop where
 u4 : P.underlying 4 = some .bool
 u9 : P.underlying 9 = some .string
 u22 : P.underlying 22 = some (.slice 26)
 u27 : P.underlying 27 = some (.array 1 26)
 c4 : P.cellsOf 4 = 1
 c9 : P.cellsOf 9 = 1
 c24 : P.cellsOf 24 = 2
 c26 : P.cellsOf 26 = 8
 c27 : P.cellsOf 27 = 8
 s24 : ∃ f0 f1 : Field, P.underlying 24 = some (.struct #[f0, f1]) ∧ f0.type = 4 ∧ f0.offset = 0 ∧ f1.type = 9 ∧ f1.offset = 1
 s26 : ∃ f0 f1 f2 f3 : Field, P.underlying 26 = some (.struct #[f0, f1, f2, f3]) ∧ (f0.type = 24 ∧ f0.offset = 0) ∧ (f1.type = 24 ∧ f1.offset = 2) ∧ (f2.type = 24 ∧ f2.offset = 4) ∧ (f3.type = 24 ∧ f3.offset = 6)
theorem tyOk : TyOk Tryz.prog := by
 refine ⟨st_u4, st_u9, st_u22, st_u27, yco_4, yco_9, yco_24, st_c26, st_c27, ?_, ?_⟩
 ·obtain ⟨fs, hu, hk⟩ := fld_of yfl_24
  obtain ⟨f0, f1, hf, r⟩ := list2 hk
  exact ⟨f0, f1, by rw [hu, ← Array.toArray_toList (xs := fs), hf], r⟩
 ·obtain ⟨fs, hu, hk⟩ := fld_of st_f26
  obtain ⟨f0, f1, f2, f3, hf, r⟩ := list4 hk
  exact ⟨f0, f1, f2, f3, by rw [hu, ← Array.toArray_toList (xs := fs), hf], r⟩
section
variable {P : Program} {H : Type} {enc : TypeId × Value → H} {w : World} {base : Nat} {spare : Nat → Bool} {held : Bool}
def dI (b : Bool) (s : ByteArray) : DataW H := .agg [.lit (.bool b), .lit (.string s.data.toList)]
def dR (r : RP) : DataW H := .agg [dI r.n1 r.m1, dI r.n2 r.m2, dI r.n3 r.m3, dI r.n4 r.m4]
def cR (r : RP) : List Value := [.bool r.n1, .string r.m1, .bool r.n2, .string r.m2, .bool r.n3, .string r.m3, .bool r.n4, .string r.m4]
def wfR (r : RP) : Prop := r.m1.size ≤ maxLen ∧ r.m2.size ≤ maxLen ∧ r.m3.size ≤ maxLen ∧ r.m4.size ≤ maxLen
theorem open24 (T : TyOk P) {fuel : Nat} {cs : List Value} {x : DataW H × List MemPlace} (h : DataW.trod enc P w base spare held fuel 24 cs = some x) : ∃ b s, cs = [.bool b, .string s] ∧ x = (dI b s, []) ∧ s.size ≤ maxLen := by
 obtain ⟨f0, f1, hu, t0, o0, t1, o1⟩ := T.s24
 obtain ⟨xs, n, _, hx, hl, hxl, hf⟩ := DataW.trod_struct hu h
 rw [T.c24] at hl
 match xs, hxl, cs, hl with
 | [y0, y1], _, [v0, v1], _ =>
  have g0 := hf 0 f0 rfl
  have g1 := hf 1 f1 rfl
  simp [t0, o0, t1, o1, T.c4, T.c9] at g0 g1
  obtain ⟨b, e0, e1⟩ := DataW.trod_bool T.u4 g0
  obtain ⟨s, e2, e3, e4⟩ := DataW.trod_string T.u9 g1
  simp only [List.cons.injEq, and_true] at e0 e2
  subst e0 e2 e1 e3
  exact ⟨b, s, rfl, by rw [hx]; rfl, e4⟩
theorem shut24 (T : TyOk P) (b : Bool) (s : ByteArray) (hs : s.size ≤ maxLen) : DataW.trod enc P w base spare held 2 24 [.bool b, .string s] = some (dI b s, []) := by
 obtain ⟨f0, f1, hu, t0, o0, t1, o1⟩ := T.s24
 have g0 : DataW.trod enc P w base spare held 1 4 [.bool b] = some (.lit (.bool b), []) := by simp [DataW.trod, T.u4]
 have g1 : DataW.trod enc P w base spare held 1 9 [.string s] = some (.lit (.string s.data.toList), []) := by simp [DataW.trod, T.u9, hs]
 exact trod_struct2_mk (y0 := (.lit (.bool b), [])) (y1 := (.lit (.string s.data.toList), [])) hu (by rw [T.c24]; rfl) (by simpa [t0, o0, T.c4] using g0) (by simpa [t1, o1, T.c9] using g1)
def S4 (P : Program) (t : TypeId) : Prop := ∃ f0 f1 f2 f3 : Field, P.underlying t = some (.struct #[f0, f1, f2, f3]) ∧ (f0.type = 24 ∧ f0.offset = 0) ∧ (f1.type = 24 ∧ f1.offset = 2) ∧ (f2.type = 24 ∧ f2.offset = 4) ∧ (f3.type = 24 ∧ f3.offset = 6)
theorem open4 (T : TyOk P) {t : TypeId} (st : S4 P t) (ct : P.cellsOf t = 8) {fuel : Nat} {cs : List Value} {x : DataW H × List MemPlace} (h : DataW.trod enc P w base spare held fuel t cs = some x) : ∃ r, wfR r ∧ cs = cR r ∧ x = (dR r, []) := by
 obtain ⟨f0, f1, f2, f3, hu, ⟨t0, o0⟩, ⟨t1, o1⟩, ⟨t2, o2⟩, ⟨t3, o3⟩⟩ := st
 obtain ⟨xs, n, _, hx, hl, hxl, hf⟩ := DataW.trod_struct hu h
 rw [ct] at hl
 match xs, hxl, cs, hl with
 | [y0, y1, y2, y3], _, [v0, v1, v2, v3, v4, v5, v6, v7], _ =>
  have g0 := hf 0 f0 rfl
  have g1 := hf 1 f1 rfl
  have g2 := hf 2 f2 rfl
  have g3 := hf 3 f3 rfl
  simp [t0, o0, t1, o1, t2, o2, t3, o3, T.c24] at g0 g1 g2 g3
  obtain ⟨b0, s0, a0, c0, d0⟩ := open24 T g0
  obtain ⟨b1, s1, a1, c1, d1⟩ := open24 T g1
  obtain ⟨b2, s2, a2, c2, d2⟩ := open24 T g2
  obtain ⟨b3, s3, a3, c3, d3⟩ := open24 T g3
  simp only [List.cons.injEq, and_true] at a0 a1 a2 a3
  obtain ⟨rfl, rfl⟩ := a0
  obtain ⟨rfl, rfl⟩ := a1
  obtain ⟨rfl, rfl⟩ := a2
  obtain ⟨rfl, rfl⟩ := a3
  subst c0 c1 c2 c3
  exact ⟨⟨b0, s0, b1, s1, b2, s2, b3, s3⟩, ⟨d0, d1, d2, d3⟩, rfl, by rw [hx]; rfl⟩
theorem shut4 (T : TyOk P) {t : TypeId} (st : S4 P t) (ct : P.cellsOf t = 8) (r : RP) (h : wfR r) : DataW.trod enc P w base spare held 3 t (cR r) = some (dR r, []) := by
 obtain ⟨f0, f1, f2, f3, hu, ⟨t0, o0⟩, ⟨t1, o1⟩, ⟨t2, o2⟩, ⟨t3, o3⟩⟩ := st
 obtain ⟨h1, h2, h3, h4⟩ := h
 rw [DataW.trod_step]
 unfold DataW.trodStep
 simp only [hu]
 rw [if_pos (by rw [ct]; rfl)]
 simp [t0, o0, t1, o1, t2, o2, t3, o3, T.c24, cR, shut24 T _ _ h1, shut24 T _ _ h2, shut24 T _ _ h3, shut24 T _ _ h4, dR]
theorem open26 (T : TyOk P) {fuel : Nat} {cs : List Value} {x : DataW H × List MemPlace} (h : DataW.trod enc P w base spare held fuel 26 cs = some x) : ∃ r, wfR r ∧ cs = cR r ∧ x = (dR r, []) := open4 T T.s26 T.c26 h
theorem shut26 (T : TyOk P) (r : RP) (h : wfR r) : DataW.trod enc P w base spare held 3 26 (cR r) = some (dR r, []) := shut4 T T.s26 T.c26 r h
theorem cR_len (r : RP) : (cR r).length = 8 := rfl
theorem cR_get (r : RP) (j : Nat) (h : j < 8) : (eRP r)[j]'h = .lit ((cR r)[j]'h) := by
 match j, h with
 | 0, _ => rfl
 | 1, _ => rfl
 | 2, _ => rfl
 | 3, _ => rfl
 | 4, _ => rfl
 | 5, _ => rfl
 | 6, _ => rfl
 | 7, _ => rfl
theorem cR_one (r : RP) (j : Nat) (h : j < 8) : ((cR r)[j]'h).oneCell' = true := by
 match j, h with
 | 0, _ => rfl
 | 1, _ => rfl
 | 2, _ => rfl
 | 3, _ => rfl
 | 4, _ => rfl
 | 5, _ => rfl
 | 6, _ => rfl
 | 7, _ => rfl
end
def g00 (W : World) : Gh := ⟨W, fun b => b < W.heap.size, fun _ => False, fun _ => 0, fun _ => ⟨none, 0, 0, 0⟩, fun _ => 0⟩
theorem g00_ok (W : World) : GOk (cxOf Tryz.prog (g00 W) (upd anyf [])) (g00 W) (upd anyf []) := ⟨rfl, Tp.rfl, rfl, Nat.le_refl _, fun _ _ _ => rfl, fun b hb => hb, fun b hb => .inl hb, fun b hb => hb, fun l => trivial, fun l b hb => by simp [upd, anyf, blkOf] at hb, fun l l' b hb => by simp [upd, anyf, blkOf] at hb⟩
theorem calls_true {f : Nat} {args : List AV} {vals : List Value} {W : World} (h : CallOK Tryz.prog f args [] (.lit (.bool true)) []) (hr : RelL (g00 W) args vals) :
  Calls Tryz.prog f vals.toArray W fun e w' => e = .returned (.bool true) ∧ w'.os = W.os ∧ w'.output = W.output ∧ W.heap.size ≤ w'.heap.size ∧ ∀ b, b < W.heap.size → w'.heap[b]? = W.heap[b]? := by
 refine (h (g00 W) vals (fun l => by simp [g00]) (g00_ok W) hr).mono ?_
 rintro e w' ⟨v, g', rfl, rfl, _, _, hg, hv⟩
 cases hv
 exact ⟨rfl, hg.os, hg.output, hg.size, fun b hb => hg.old b hb (by rintro ⟨l, hl⟩; simp [upd, anyf, blkOf] at hl)⟩
end Go.Proofs.Vx
