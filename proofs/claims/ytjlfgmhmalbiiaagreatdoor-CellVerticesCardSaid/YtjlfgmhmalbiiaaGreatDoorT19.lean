import Derived.Test.YtjlfgmhmalbiiaaGreatDoorProg
import Derived.Test.YtjlfgmhmalbiiaaGreatDoorT10
import Derived.Test.YtjlfgmhmalbiiaaGreatDoorT17
import Derived.Test.YtjlfgmhmalbiiaaGreatDoorT18
set_option linter.all false
namespace Go.Proofs.Vx
open Go Go.Sx Go.Proofs
attribute [local irreducible] fnT CallOK CallFr AW effV callV runP runO oneP oneO gcaseP hid
theorem yqq_Nx21 : agT Tryz.prog 159 = some false ∧ agT Tryz.prog 45 = some false ∧ agT Tryz.prog 58 = some true ∧ arT Tryz.prog 159 = none ∧ arT Tryz.prog 45 = none ∧ byT Tryz.prog 51 = some 96 ∧ fdT Tryz.prog 58 0 = some (0, 8, true) ∧ fdT Tryz.prog 58 1 = some (8, 1, false) ∧ plT Tryz.prog 58 = some [(0, 8), (8, 1)] ∧ slT Tryz.prog 159 = some (3, 1) ∧ slT Tryz.prog 45 = some (51, 8) ∧ strT Tryz.prog 45 = false ∧ szT Tryz.prog 159 = some 1 ∧ szT Tryz.prog 3 = some 1 ∧ szT Tryz.prog 45 = some 1 ∧ szT Tryz.prog 58 = some 9 ∧ zeT Tryz.prog 58 = some [.lit (.bool false), .lit (.string ⟨#[]⟩), .lit (.bool false), .lit (.string ⟨#[]⟩), .lit (.bool false), .lit (.string ⟨#[]⟩), .lit (.bool false), .lit (.string ⟨#[]⟩), .lit (.slice none 0 0)] := by and_intros <;> kernel_rfl
attribute [go_sem] yqq_Nx21
theorem yfn_70 : fnT Tryz.prog 70 = true := by kernel_rfl
theorem yfn_139 : fnT Tryz.prog 139 = true := by kernel_rfl
theorem yfn_140 : fnT Tryz.prog 140 = true := by kernel_rfl
set_option maxHeartbeats 1600000 in
theorem c140 (p : Pl) (vs : List Pt) (i : Nat) (hi : i < vs.length) (hn : vs.length ≤ 268435456) : CallOK Tryz.prog 140 [.agg (eG p vs), .lit (.int .i64 i)] [] (.lit (.int .i64 (((i + 1) % vs.length : Nat) : Int))) [] := by
 refine CallOK.closed Tryz.func140 rfl 11 rfl rfl (by simp -dsimp (disch := try exact zo) only [go_sem, eP_in]) [.tmp 4] (congrArg Array.toList Tryz.results140) ?_
 simp only [startT, Nat.reduceAdd]
 have h0 : (0 : Int) ≤ (i : Int) + 1 := by omega
 have hm : ((i : Int) + 1) % (vs.length : Int) = (((i + 1) % vs.length : Nat) : Int) := by rw [Int.natCast_emod, Int.natCast_add]; rfl
 have hl : (vs.map eP).length = vs.length := List.length_map _
 repeat' (first | refine zg ?_ | (refine AW.cond rfl ?_ ?_ <;> intro hc <;> first | (cases hc; done) | simp only [NM] at hc | skip) | (refine zr ?_; simp -dsimp (disch := try exact zo) only [go_sem, hl, hm] <;> try rfl) | refine ⟨by omega, ?_⟩ | (refine zb ?_ ?_ <;> intro hg <;> (try simp only [NB] at hg) <;> (try rw [hg]) <;> try simp only [NM] at hg) | omega | simp -dsimp (disch := try exact zo) only [go_sem, hl, hm] | contradiction)
theorem partFlat {c : Bool} (p : Pl) (vs : List Pt) (h : True) : FlatS (if c then .agg (eG p vs) else .agg eG0) := by
 split
 ·intro c hc
  simp only [List.mem_cons, List.not_mem_nil, or_false] at hc
  rcases hc with rfl | rfl | rfl | rfl | rfl | rfl | rfl | rfl | rfl <;> first | exact .inl (.lit _) | exact .inr ⟨_, rfl, eP_flat vs⟩
 ·intro c hc
  simp only [List.mem_cons, List.not_mem_nil, or_false] at hc
  rcases hc with rfl | rfl | rfl | rfl | rfl | rfl | rfl | rfl | rfl <;> exact .inl (.lit _)
set_option maxHeartbeats 40000000 in
theorem c139a (p b : Pl) (vs : List Pt) (hn : vs.length ≤ 268435456) (hcan : ∀ v ∈ vs, CanP v) (hv : ∀ v ∈ vs, BPt 1073741824 v) (hb : BPl 1073741824 b) : CallNw Tryz.prog 139 [.lit (.int .i64 (-1)), .fp (eG p vs), .fp [.sl (ints .i64 (vs.map (sideP b)))], .fp (eH b)] (if someT (-1) b vs vs.length then .agg (eG p (partI (-1) b vs)) else .agg eG0) := by
 refine CallNw.flat Tryz.func139 rfl 82 rfl rfl (partFlat _ _ trivial) [.cell 5 58] (congrArg Array.toList Tryz.results139) ?_
 simp only [startT, Nat.reduceAdd]
 have hl : (vs.map eP).length = vs.length := List.length_map _
 have hl2 : (ints .i64 (vs.map (sideP b))).length = vs.length := by rw [ints_length, List.length_map]
 repeat' (first | refine zg ?_ | refine AW.drawP ymix ?_ | (refine AW.cond rfl ?_ ?_ <;> intro hc <;> first | (cases hc; done) | simp only [NM] at hc | skip) | (refine zr ?_; simp -dsimp (disch := try exact zo) only [go_sem, hl] <;> try rfl) | refine ⟨by omega, ?_⟩ | (refine zb ?_ ?_ <;> intro hg <;> (try simp only [NB] at hg) <;> (try rw [hg]) <;> try simp only [NM] at hg) | omega | simp -dsimp (disch := try exact zo) only [go_sem, hl] | contradiction)
 refine AW.loop (fun z : {i : Nat // i ≤ vs.length} => ⟨[(19, .lit (.int .i64 z.1)), (18, .lit (.int .i64 vs.length)), (17, .sl (vs.map eP)), (7, .lit (.bool (someT (-1) b vs z.1))), (6, .loc 12 0), (5, .loc 8 0), (3, .fp (eH b)), (2, .fp [.sl (ints .i64 (vs.map (sideP b)))]), (1, .fp (eG p vs)), (0, .lit (.int .i64 (-1)))], [(12, .blk [.lit (.bool (Zn p.a)), .lit (.string (Zm p.a)), .lit (.bool (Zn p.b)), .lit (.string (Zm p.b)), .lit (.bool (Zn p.c)), .lit (.string (Zm p.c)), .lit (.bool (Zn p.d)), .lit (.string (Zm p.d)), .ref 19 0 (partT (-1) b vs z.1).length (partT (-1) b vs z.1).length]), (19, .vec 8 ((partT (-1) b vs z.1).map eP)), (8, .blk eG0)], 60⟩) (fun z => vs.length - z.1) ⟨0, Nat.zero_le _⟩ (Weak.trans (Weak.nilB 12 8 8 _ (by decide) rfl (by simp) rfl (by simp)) (Weak.t4 (by refine ⟨?_, ?_, ?_, ?_⟩ <;> simp -dsimp (disch := try exact zo) only [go_sem, partT_zero, someT_zero, eP_in, List.map_nil, List.length_nil, ints_in, Int.natCast_add, Int.cast_ofNat_Int]))) ?_
 rintro ⟨i, hi⟩
 dsimp only
 by_cases hlt : i < vs.length
 ·have hmod : (i + 1) % vs.length < vs.length := Nat.mod_lt _ (by omega)
  have ea := eP_getD vs i hlt
  have ea2 := eP_getD vs _ hmod
  have sa := ints_getD' .i64 (vs.map (sideP b)) i (by simpa using hlt)
  have sa2 := ints_getD' .i64 (vs.map (sideP b)) _ (by simpa using hmod)
  rw [List.getElem_map] at sa sa2
  have hW := partT_succ (-1) b vs i hlt
  have hS := someT_succ (-1) b vs i hlt
  have hWn := partT_length (-1) b vs i
  have ha := hv _ (List.getElem_mem hlt)
  have ha2 := hv _ (List.getElem_mem hmod)
  have haw := (hcan _ (List.getElem_mem hlt)).w
  have ha2w := (hcan _ (List.getElem_mem hmod)).w
  generalize vs[i] = a at *
  generalize vs[(i + 1) % vs.length] = a2 at *
  generalize partT (-1) b vs i = W at *
  generalize someT (-1) b vs i = fl at *
  simp only [eP, e4] at ea ea2
  cases fl
  ·have hSo : someT (-1) b vs (i + 1) = decide (sideP b a = -1) := by rw [hS]; simp
   have flr : True := trivial
   clear hS
   by_cases q2 : sideP b a = 1
   ·by_cases q3 : sideP b a * sideP b a2 < 0
    ·skip
     have k2 : (sideP b a = 1) = True := eq_true q2
     have k3 : (sideP b a * sideP b a2 < 0) = True := eq_true q3
     have hpc : pc (-1) b a a2 = [meetP b a a2] := by unfold pc; rw [Int.neg_neg]; rw [if_neg (fun h => h q2), if_pos q3]; rfl
     rw [hpc] at hW
     have hWl : (partT (-1) b vs (i + 1)).length = W.length + 1 := by rw [hW]; simp
     have hWm : (partT (-1) b vs (i + 1)).map eP = W.map eP ++ [eP (meetP b a a2)] := by rw [hW]; simp
     clear hW hpc
     repeat' (first | refine zg ?_ | refine AW.drawP ymix ?_ | (refine AW.cond rfl ?_ ?_ <;> intro hc <;> first | (cases hc; done) | simp only [NM] at hc | skip) | (refine zr ?_; simp -dsimp (disch := try exact zo) only [go_sem, hl, hl2, ea, ea2, sa, sa2, k2, k3, List.length_map, side_mul, Int.toNat_natCast, flr, List.map_append, eP_in] <;> try rfl) | (refine callV.plain _ yfn_140 (c140 p vs i hlt hn) (by simp -dsimp (disch := try exact zo) only [go_sem, eP_in]) (.lit _) ?_) | (refine callV.flat _ yfn_141 (c141 b a a2 hb ha ha2 (opp_ne q3) (opp_w haw ha2w q3)) rfl rfl ?_) | refine ⟨by omega, ?_⟩ | (refine zb ?_ ?_ <;> intro hg <;> (try simp only [NB] at hg) <;> (try rw [hg]) <;> try simp only [NM] at hg) | omega | simp -dsimp (disch := try exact zo) only [go_sem, hl, hl2, ea, ea2, sa, sa2, k2, k3, List.length_map, side_mul, Int.toNat_natCast, flr, List.map_append, eP_in] | contradiction)
     all_goals exact AW.stop ⟨⟨i + 1, by omega⟩, (Weak.t4 (by refine ⟨?_, ?_, ?_, ?_⟩ <;> first | (simp -dsimp (disch := try exact zo) only [go_sem, hWl, hWm, hSo, List.length_map, Int.natCast_add, Int.cast_ofNat_Int]; done) | (simp -dsimp (disch := try exact zo) only [go_sem, eP_in, ints_in, hWl, Int.natCast_add, Int.cast_ofNat_Int]; done))), by dsimp only; omega⟩
    ·skip
     have k2 : (sideP b a = 1) = True := eq_true q2
     have k3 : (sideP b a * sideP b a2 < 0) = False := eq_false q3
     have hpc : pc (-1) b a a2 = [] := by unfold pc; rw [Int.neg_neg]; rw [if_neg (fun h => h q2), if_neg q3]; rfl
     rw [hpc] at hW
     have hWl : (partT (-1) b vs (i + 1)).length = W.length := by rw [hW]; simp
     have hWm : (partT (-1) b vs (i + 1)).map eP = W.map eP := by rw [hW]; simp
     clear hW hpc
     repeat' (first | refine zg ?_ | refine AW.drawP ymix ?_ | (refine AW.cond rfl ?_ ?_ <;> intro hc <;> first | (cases hc; done) | simp only [NM] at hc | skip) | (refine zr ?_; simp -dsimp (disch := try exact zo) only [go_sem, hl, hl2, ea, ea2, sa, sa2, k2, k3, List.length_map, side_mul, Int.toNat_natCast, flr, List.map_append, eP_in] <;> try rfl) | (refine callV.plain _ yfn_140 (c140 p vs i hlt hn) (by simp -dsimp (disch := try exact zo) only [go_sem, eP_in]) (.lit _) ?_) | (refine callV.flat _ yfn_141 (c141 b a a2 hb ha ha2 (opp_ne q3) (opp_w haw ha2w q3)) rfl rfl ?_) | refine ⟨by omega, ?_⟩ | (refine zb ?_ ?_ <;> intro hg <;> (try simp only [NB] at hg) <;> (try rw [hg]) <;> try simp only [NM] at hg) | omega | simp -dsimp (disch := try exact zo) only [go_sem, hl, hl2, ea, ea2, sa, sa2, k2, k3, List.length_map, side_mul, Int.toNat_natCast, flr, List.map_append, eP_in] | contradiction)
     all_goals exact AW.stop ⟨⟨i + 1, by omega⟩, (Weak.t4 (by refine ⟨?_, ?_, ?_, ?_⟩ <;> first | (simp -dsimp (disch := try exact zo) only [go_sem, hWl, hWm, hSo, List.length_map, Int.natCast_add, Int.cast_ofNat_Int]; done) | (simp -dsimp (disch := try exact zo) only [go_sem, eP_in, ints_in, hWl, Int.natCast_add, Int.cast_ofNat_Int]; done))), by dsimp only; omega⟩
   ·by_cases q3 : sideP b a * sideP b a2 < 0
    ·skip
     have k2 : (sideP b a = 1) = False := eq_false q2
     have k3 : (sideP b a * sideP b a2 < 0) = True := eq_true q3
     have hpc : pc (-1) b a a2 = [a, meetP b a a2] := by unfold pc; rw [Int.neg_neg]; rw [if_pos q2, if_pos q3]; rfl
     rw [hpc] at hW
     have hWl : (partT (-1) b vs (i + 1)).length = W.length + 1 + 1 := by rw [hW]; simp
     have hWm : (partT (-1) b vs (i + 1)).map eP = W.map eP ++ [eP (a), eP (meetP b a a2)] := by rw [hW]; simp
     clear hW hpc
     repeat' (first | refine zg ?_ | refine AW.drawP ymix ?_ | (refine AW.cond rfl ?_ ?_ <;> intro hc <;> first | (cases hc; done) | simp only [NM] at hc | skip) | (refine zr ?_; simp -dsimp (disch := try exact zo) only [go_sem, hl, hl2, ea, ea2, sa, sa2, k2, k3, List.length_map, side_mul, Int.toNat_natCast, flr, List.map_append, eP_in] <;> try rfl) | (refine callV.plain _ yfn_140 (c140 p vs i hlt hn) (by simp -dsimp (disch := try exact zo) only [go_sem, eP_in]) (.lit _) ?_) | (refine callV.flat _ yfn_141 (c141 b a a2 hb ha ha2 (opp_ne q3) (opp_w haw ha2w q3)) rfl rfl ?_) | refine ⟨by omega, ?_⟩ | (refine zb ?_ ?_ <;> intro hg <;> (try simp only [NB] at hg) <;> (try rw [hg]) <;> try simp only [NM] at hg) | omega | simp -dsimp (disch := try exact zo) only [go_sem, hl, hl2, ea, ea2, sa, sa2, k2, k3, List.length_map, side_mul, Int.toNat_natCast, flr, List.map_append, eP_in] | contradiction)
     all_goals exact AW.stop ⟨⟨i + 1, by omega⟩, (Weak.t4 (by refine ⟨?_, ?_, ?_, ?_⟩ <;> first | (simp -dsimp (disch := try exact zo) only [go_sem, hWl, hWm, hSo, List.length_map, Int.natCast_add, Int.cast_ofNat_Int]; done) | (simp -dsimp (disch := try exact zo) only [go_sem, eP_in, ints_in, hWl, Int.natCast_add, Int.cast_ofNat_Int]; done))), by dsimp only; omega⟩
    ·skip
     have k2 : (sideP b a = 1) = False := eq_false q2
     have k3 : (sideP b a * sideP b a2 < 0) = False := eq_false q3
     have hpc : pc (-1) b a a2 = [a] := by unfold pc; rw [Int.neg_neg]; rw [if_pos q2, if_neg q3]; rfl
     rw [hpc] at hW
     have hWl : (partT (-1) b vs (i + 1)).length = W.length + 1 := by rw [hW]; simp
     have hWm : (partT (-1) b vs (i + 1)).map eP = W.map eP ++ [eP (a)] := by rw [hW]; simp
     clear hW hpc
     repeat' (first | refine zg ?_ | refine AW.drawP ymix ?_ | (refine AW.cond rfl ?_ ?_ <;> intro hc <;> first | (cases hc; done) | simp only [NM] at hc | skip) | (refine zr ?_; simp -dsimp (disch := try exact zo) only [go_sem, hl, hl2, ea, ea2, sa, sa2, k2, k3, List.length_map, side_mul, Int.toNat_natCast, flr, List.map_append, eP_in] <;> try rfl) | (refine callV.plain _ yfn_140 (c140 p vs i hlt hn) (by simp -dsimp (disch := try exact zo) only [go_sem, eP_in]) (.lit _) ?_) | (refine callV.flat _ yfn_141 (c141 b a a2 hb ha ha2 (opp_ne q3) (opp_w haw ha2w q3)) rfl rfl ?_) | refine ⟨by omega, ?_⟩ | (refine zb ?_ ?_ <;> intro hg <;> (try simp only [NB] at hg) <;> (try rw [hg]) <;> try simp only [NM] at hg) | omega | simp -dsimp (disch := try exact zo) only [go_sem, hl, hl2, ea, ea2, sa, sa2, k2, k3, List.length_map, side_mul, Int.toNat_natCast, flr, List.map_append, eP_in] | contradiction)
     all_goals exact AW.stop ⟨⟨i + 1, by omega⟩, (Weak.t4 (by refine ⟨?_, ?_, ?_, ?_⟩ <;> first | (simp -dsimp (disch := try exact zo) only [go_sem, hWl, hWm, hSo, List.length_map, Int.natCast_add, Int.cast_ofNat_Int]; done) | (simp -dsimp (disch := try exact zo) only [go_sem, eP_in, ints_in, hWl, Int.natCast_add, Int.cast_ofNat_Int]; done))), by dsimp only; omega⟩
  ·have hSo : someT (-1) b vs (i + 1) = true := by rw [hS]; simp
   have flr : True := trivial
   clear hS
   by_cases q2 : sideP b a = 1
   ·by_cases q3 : sideP b a * sideP b a2 < 0
    ·skip
     have k2 : (sideP b a = 1) = True := eq_true q2
     have k3 : (sideP b a * sideP b a2 < 0) = True := eq_true q3
     have hpc : pc (-1) b a a2 = [meetP b a a2] := by unfold pc; rw [Int.neg_neg]; rw [if_neg (fun h => h q2), if_pos q3]; rfl
     rw [hpc] at hW
     have hWl : (partT (-1) b vs (i + 1)).length = W.length + 1 := by rw [hW]; simp
     have hWm : (partT (-1) b vs (i + 1)).map eP = W.map eP ++ [eP (meetP b a a2)] := by rw [hW]; simp
     clear hW hpc
     repeat' (first | refine zg ?_ | refine AW.drawP ymix ?_ | (refine AW.cond rfl ?_ ?_ <;> intro hc <;> first | (cases hc; done) | simp only [NM] at hc | skip) | (refine zr ?_; simp -dsimp (disch := try exact zo) only [go_sem, hl, hl2, ea, ea2, sa, sa2, k2, k3, List.length_map, side_mul, Int.toNat_natCast, flr, List.map_append, eP_in] <;> try rfl) | (refine callV.plain _ yfn_140 (c140 p vs i hlt hn) (by simp -dsimp (disch := try exact zo) only [go_sem, eP_in]) (.lit _) ?_) | (refine callV.flat _ yfn_141 (c141 b a a2 hb ha ha2 (opp_ne q3) (opp_w haw ha2w q3)) rfl rfl ?_) | refine ⟨by omega, ?_⟩ | (refine zb ?_ ?_ <;> intro hg <;> (try simp only [NB] at hg) <;> (try rw [hg]) <;> try simp only [NM] at hg) | omega | simp -dsimp (disch := try exact zo) only [go_sem, hl, hl2, ea, ea2, sa, sa2, k2, k3, List.length_map, side_mul, Int.toNat_natCast, flr, List.map_append, eP_in] | contradiction)
     all_goals exact AW.stop ⟨⟨i + 1, by omega⟩, (Weak.t4 (by refine ⟨?_, ?_, ?_, ?_⟩ <;> first | (simp -dsimp (disch := try exact zo) only [go_sem, hWl, hWm, hSo, List.length_map, Int.natCast_add, Int.cast_ofNat_Int]; done) | (simp -dsimp (disch := try exact zo) only [go_sem, eP_in, ints_in, hWl, Int.natCast_add, Int.cast_ofNat_Int]; done))), by dsimp only; omega⟩
    ·skip
     have k2 : (sideP b a = 1) = True := eq_true q2
     have k3 : (sideP b a * sideP b a2 < 0) = False := eq_false q3
     have hpc : pc (-1) b a a2 = [] := by unfold pc; rw [Int.neg_neg]; rw [if_neg (fun h => h q2), if_neg q3]; rfl
     rw [hpc] at hW
     have hWl : (partT (-1) b vs (i + 1)).length = W.length := by rw [hW]; simp
     have hWm : (partT (-1) b vs (i + 1)).map eP = W.map eP := by rw [hW]; simp
     clear hW hpc
     repeat' (first | refine zg ?_ | refine AW.drawP ymix ?_ | (refine AW.cond rfl ?_ ?_ <;> intro hc <;> first | (cases hc; done) | simp only [NM] at hc | skip) | (refine zr ?_; simp -dsimp (disch := try exact zo) only [go_sem, hl, hl2, ea, ea2, sa, sa2, k2, k3, List.length_map, side_mul, Int.toNat_natCast, flr, List.map_append, eP_in] <;> try rfl) | (refine callV.plain _ yfn_140 (c140 p vs i hlt hn) (by simp -dsimp (disch := try exact zo) only [go_sem, eP_in]) (.lit _) ?_) | (refine callV.flat _ yfn_141 (c141 b a a2 hb ha ha2 (opp_ne q3) (opp_w haw ha2w q3)) rfl rfl ?_) | refine ⟨by omega, ?_⟩ | (refine zb ?_ ?_ <;> intro hg <;> (try simp only [NB] at hg) <;> (try rw [hg]) <;> try simp only [NM] at hg) | omega | simp -dsimp (disch := try exact zo) only [go_sem, hl, hl2, ea, ea2, sa, sa2, k2, k3, List.length_map, side_mul, Int.toNat_natCast, flr, List.map_append, eP_in] | contradiction)
     all_goals exact AW.stop ⟨⟨i + 1, by omega⟩, (Weak.t4 (by refine ⟨?_, ?_, ?_, ?_⟩ <;> first | (simp -dsimp (disch := try exact zo) only [go_sem, hWl, hWm, hSo, List.length_map, Int.natCast_add, Int.cast_ofNat_Int]; done) | (simp -dsimp (disch := try exact zo) only [go_sem, eP_in, ints_in, hWl, Int.natCast_add, Int.cast_ofNat_Int]; done))), by dsimp only; omega⟩
   ·by_cases q3 : sideP b a * sideP b a2 < 0
    ·skip
     have k2 : (sideP b a = 1) = False := eq_false q2
     have k3 : (sideP b a * sideP b a2 < 0) = True := eq_true q3
     have hpc : pc (-1) b a a2 = [a, meetP b a a2] := by unfold pc; rw [Int.neg_neg]; rw [if_pos q2, if_pos q3]; rfl
     rw [hpc] at hW
     have hWl : (partT (-1) b vs (i + 1)).length = W.length + 1 + 1 := by rw [hW]; simp
     have hWm : (partT (-1) b vs (i + 1)).map eP = W.map eP ++ [eP (a), eP (meetP b a a2)] := by rw [hW]; simp
     clear hW hpc
     repeat' (first | refine zg ?_ | refine AW.drawP ymix ?_ | (refine AW.cond rfl ?_ ?_ <;> intro hc <;> first | (cases hc; done) | simp only [NM] at hc | skip) | (refine zr ?_; simp -dsimp (disch := try exact zo) only [go_sem, hl, hl2, ea, ea2, sa, sa2, k2, k3, List.length_map, side_mul, Int.toNat_natCast, flr, List.map_append, eP_in] <;> try rfl) | (refine callV.plain _ yfn_140 (c140 p vs i hlt hn) (by simp -dsimp (disch := try exact zo) only [go_sem, eP_in]) (.lit _) ?_) | (refine callV.flat _ yfn_141 (c141 b a a2 hb ha ha2 (opp_ne q3) (opp_w haw ha2w q3)) rfl rfl ?_) | refine ⟨by omega, ?_⟩ | (refine zb ?_ ?_ <;> intro hg <;> (try simp only [NB] at hg) <;> (try rw [hg]) <;> try simp only [NM] at hg) | omega | simp -dsimp (disch := try exact zo) only [go_sem, hl, hl2, ea, ea2, sa, sa2, k2, k3, List.length_map, side_mul, Int.toNat_natCast, flr, List.map_append, eP_in] | contradiction)
     all_goals exact AW.stop ⟨⟨i + 1, by omega⟩, (Weak.t4 (by refine ⟨?_, ?_, ?_, ?_⟩ <;> first | (simp -dsimp (disch := try exact zo) only [go_sem, hWl, hWm, hSo, List.length_map, Int.natCast_add, Int.cast_ofNat_Int]; done) | (simp -dsimp (disch := try exact zo) only [go_sem, eP_in, ints_in, hWl, Int.natCast_add, Int.cast_ofNat_Int]; done))), by dsimp only; omega⟩
    ·skip
     have k2 : (sideP b a = 1) = False := eq_false q2
     have k3 : (sideP b a * sideP b a2 < 0) = False := eq_false q3
     have hpc : pc (-1) b a a2 = [a] := by unfold pc; rw [Int.neg_neg]; rw [if_pos q2, if_neg q3]; rfl
     rw [hpc] at hW
     have hWl : (partT (-1) b vs (i + 1)).length = W.length + 1 := by rw [hW]; simp
     have hWm : (partT (-1) b vs (i + 1)).map eP = W.map eP ++ [eP (a)] := by rw [hW]; simp
     clear hW hpc
     repeat' (first | refine zg ?_ | refine AW.drawP ymix ?_ | (refine AW.cond rfl ?_ ?_ <;> intro hc <;> first | (cases hc; done) | simp only [NM] at hc | skip) | (refine zr ?_; simp -dsimp (disch := try exact zo) only [go_sem, hl, hl2, ea, ea2, sa, sa2, k2, k3, List.length_map, side_mul, Int.toNat_natCast, flr, List.map_append, eP_in] <;> try rfl) | (refine callV.plain _ yfn_140 (c140 p vs i hlt hn) (by simp -dsimp (disch := try exact zo) only [go_sem, eP_in]) (.lit _) ?_) | (refine callV.flat _ yfn_141 (c141 b a a2 hb ha ha2 (opp_ne q3) (opp_w haw ha2w q3)) rfl rfl ?_) | refine ⟨by omega, ?_⟩ | (refine zb ?_ ?_ <;> intro hg <;> (try simp only [NB] at hg) <;> (try rw [hg]) <;> try simp only [NM] at hg) | omega | simp -dsimp (disch := try exact zo) only [go_sem, hl, hl2, ea, ea2, sa, sa2, k2, k3, List.length_map, side_mul, Int.toNat_natCast, flr, List.map_append, eP_in] | contradiction)
     all_goals exact AW.stop ⟨⟨i + 1, by omega⟩, (Weak.t4 (by refine ⟨?_, ?_, ?_, ?_⟩ <;> first | (simp -dsimp (disch := try exact zo) only [go_sem, hWl, hWm, hSo, List.length_map, Int.natCast_add, Int.cast_ofNat_Int]; done) | (simp -dsimp (disch := try exact zo) only [go_sem, eP_in, ints_in, hWl, Int.natCast_add, Int.cast_ofNat_Int]; done))), by dsimp only; omega⟩
 ·have hil : i = vs.length := by omega
  subst hil
  rw [partT_all]
  cases hfl : someT (-1) b vs vs.length
  ·have k1 : True := trivial
   rw [if_neg (by simp)]
   repeat' (first | refine zg ?_ | refine AW.drawP ymix ?_ | (refine AW.cond rfl ?_ ?_ <;> intro hc <;> first | (cases hc; done) | simp only [NM] at hc | skip) | (refine zn ?_; simp -dsimp (disch := try exact zo) only [go_sem, hl, k1, List.length_map] <;> try rfl) | refine ⟨by omega, ?_⟩ | (refine zb ?_ ?_ <;> intro hg <;> (try simp only [NB] at hg) <;> (try rw [hg]) <;> try simp only [NM] at hg) | omega | simp -dsimp (disch := try exact zo) only [go_sem, hl, k1, List.length_map] | contradiction)
  ·have k1 : True := trivial
   rw [if_pos rfl]
   repeat' (first | refine zg ?_ | refine AW.drawP ymix ?_ | (refine AW.cond rfl ?_ ?_ <;> intro hc <;> first | (cases hc; done) | simp only [NM] at hc | skip) | (refine zn ?_; simp -dsimp (disch := try exact zo) only [go_sem, hl, k1, List.length_map] <;> try rfl) | refine ⟨by omega, ?_⟩ | (refine zb ?_ ?_ <;> intro hg <;> (try simp only [NB] at hg) <;> (try rw [hg]) <;> try simp only [NM] at hg) | omega | simp -dsimp (disch := try exact zo) only [go_sem, hl, k1, List.length_map] | contradiction)
set_option maxHeartbeats 40000000 in
theorem c139b (p b : Pl) (vs : List Pt) (hn : vs.length ≤ 268435456) (hcan : ∀ v ∈ vs, CanP v) (hv : ∀ v ∈ vs, BPt 1073741824 v) (hb : BPl 1073741824 b) : CallNw Tryz.prog 139 [.lit (.int .i64 (1)), .fp (eG p vs), .fp [.sl (ints .i64 (vs.map (sideP b)))], .fp (eH b)] (if someT (1) b vs vs.length then .agg (eG p (partI (1) b vs)) else .agg eG0) := by
 refine CallNw.flat Tryz.func139 rfl 82 rfl rfl (partFlat _ _ trivial) [.cell 5 58] (congrArg Array.toList Tryz.results139) ?_
 simp only [startT, Nat.reduceAdd]
 have hl : (vs.map eP).length = vs.length := List.length_map _
 have hl2 : (ints .i64 (vs.map (sideP b))).length = vs.length := by rw [ints_length, List.length_map]
 repeat' (first | refine zg ?_ | refine AW.drawP ymix ?_ | (refine AW.cond rfl ?_ ?_ <;> intro hc <;> first | (cases hc; done) | simp only [NM] at hc | skip) | (refine zr ?_; simp -dsimp (disch := try exact zo) only [go_sem, hl] <;> try rfl) | refine ⟨by omega, ?_⟩ | (refine zb ?_ ?_ <;> intro hg <;> (try simp only [NB] at hg) <;> (try rw [hg]) <;> try simp only [NM] at hg) | omega | simp -dsimp (disch := try exact zo) only [go_sem, hl] | contradiction)
 refine AW.loop (fun z : {i : Nat // i ≤ vs.length} => ⟨[(19, .lit (.int .i64 z.1)), (18, .lit (.int .i64 vs.length)), (17, .sl (vs.map eP)), (7, .lit (.bool (someT (1) b vs z.1))), (6, .loc 12 0), (5, .loc 8 0), (3, .fp (eH b)), (2, .fp [.sl (ints .i64 (vs.map (sideP b)))]), (1, .fp (eG p vs)), (0, .lit (.int .i64 (1)))], [(12, .blk [.lit (.bool (Zn p.a)), .lit (.string (Zm p.a)), .lit (.bool (Zn p.b)), .lit (.string (Zm p.b)), .lit (.bool (Zn p.c)), .lit (.string (Zm p.c)), .lit (.bool (Zn p.d)), .lit (.string (Zm p.d)), .ref 19 0 (partT (1) b vs z.1).length (partT (1) b vs z.1).length]), (19, .vec 8 ((partT (1) b vs z.1).map eP)), (8, .blk eG0)], 60⟩) (fun z => vs.length - z.1) ⟨0, Nat.zero_le _⟩ (Weak.trans (Weak.nilB 12 8 8 _ (by decide) rfl (by simp) rfl (by simp)) (Weak.t4 (by refine ⟨?_, ?_, ?_, ?_⟩ <;> simp -dsimp (disch := try exact zo) only [go_sem, partT_zero, someT_zero, eP_in, List.map_nil, List.length_nil, ints_in, Int.natCast_add, Int.cast_ofNat_Int]))) ?_
 rintro ⟨i, hi⟩
 dsimp only
 by_cases hlt : i < vs.length
 ·have hmod : (i + 1) % vs.length < vs.length := Nat.mod_lt _ (by omega)
  have ea := eP_getD vs i hlt
  have ea2 := eP_getD vs _ hmod
  have sa := ints_getD' .i64 (vs.map (sideP b)) i (by simpa using hlt)
  have sa2 := ints_getD' .i64 (vs.map (sideP b)) _ (by simpa using hmod)
  rw [List.getElem_map] at sa sa2
  have hW := partT_succ (1) b vs i hlt
  have hS := someT_succ (1) b vs i hlt
  have hWn := partT_length (1) b vs i
  have ha := hv _ (List.getElem_mem hlt)
  have ha2 := hv _ (List.getElem_mem hmod)
  have haw := (hcan _ (List.getElem_mem hlt)).w
  have ha2w := (hcan _ (List.getElem_mem hmod)).w
  generalize vs[i] = a at *
  generalize vs[(i + 1) % vs.length] = a2 at *
  generalize partT (1) b vs i = W at *
  generalize someT (1) b vs i = fl at *
  simp only [eP, e4] at ea ea2
  cases fl
  ·have hSo : someT (1) b vs (i + 1) = decide (sideP b a = 1) := by rw [hS]; simp
   have flr : True := trivial
   clear hS
   by_cases q2 : sideP b a = -1
   ·by_cases q3 : sideP b a * sideP b a2 < 0
    ·skip
     have k2 : (sideP b a = -1) = True := eq_true q2
     have k3 : (sideP b a * sideP b a2 < 0) = True := eq_true q3
     have hpc : pc (1) b a a2 = [meetP b a a2] := by unfold pc; rw [if_neg (fun h => h q2), if_pos q3]; rfl
     rw [hpc] at hW
     have hWl : (partT (1) b vs (i + 1)).length = W.length + 1 := by rw [hW]; simp
     have hWm : (partT (1) b vs (i + 1)).map eP = W.map eP ++ [eP (meetP b a a2)] := by rw [hW]; simp
     clear hW hpc
     repeat' (first | refine zg ?_ | refine AW.drawP ymix ?_ | (refine AW.cond rfl ?_ ?_ <;> intro hc <;> first | (cases hc; done) | simp only [NM] at hc | skip) | (refine zr ?_; simp -dsimp (disch := try exact zo) only [go_sem, hl, hl2, ea, ea2, sa, sa2, k2, k3, List.length_map, side_mul, Int.toNat_natCast, flr, List.map_append, eP_in] <;> try rfl) | (refine callV.plain _ yfn_140 (c140 p vs i hlt hn) (by simp -dsimp (disch := try exact zo) only [go_sem, eP_in]) (.lit _) ?_) | (refine callV.flat _ yfn_141 (c141 b a a2 hb ha ha2 (opp_ne q3) (opp_w haw ha2w q3)) rfl rfl ?_) | refine ⟨by omega, ?_⟩ | (refine zb ?_ ?_ <;> intro hg <;> (try simp only [NB] at hg) <;> (try rw [hg]) <;> try simp only [NM] at hg) | omega | simp -dsimp (disch := try exact zo) only [go_sem, hl, hl2, ea, ea2, sa, sa2, k2, k3, List.length_map, side_mul, Int.toNat_natCast, flr, List.map_append, eP_in] | contradiction)
     all_goals exact AW.stop ⟨⟨i + 1, by omega⟩, (Weak.t4 (by refine ⟨?_, ?_, ?_, ?_⟩ <;> first | (simp -dsimp (disch := try exact zo) only [go_sem, hWl, hWm, hSo, List.length_map, Int.natCast_add, Int.cast_ofNat_Int]; done) | (simp -dsimp (disch := try exact zo) only [go_sem, eP_in, ints_in, hWl, Int.natCast_add, Int.cast_ofNat_Int]; done))), by dsimp only; omega⟩
    ·skip
     have k2 : (sideP b a = -1) = True := eq_true q2
     have k3 : (sideP b a * sideP b a2 < 0) = False := eq_false q3
     have hpc : pc (1) b a a2 = [] := by unfold pc; rw [if_neg (fun h => h q2), if_neg q3]; rfl
     rw [hpc] at hW
     have hWl : (partT (1) b vs (i + 1)).length = W.length := by rw [hW]; simp
     have hWm : (partT (1) b vs (i + 1)).map eP = W.map eP := by rw [hW]; simp
     clear hW hpc
     repeat' (first | refine zg ?_ | refine AW.drawP ymix ?_ | (refine AW.cond rfl ?_ ?_ <;> intro hc <;> first | (cases hc; done) | simp only [NM] at hc | skip) | (refine zr ?_; simp -dsimp (disch := try exact zo) only [go_sem, hl, hl2, ea, ea2, sa, sa2, k2, k3, List.length_map, side_mul, Int.toNat_natCast, flr, List.map_append, eP_in] <;> try rfl) | (refine callV.plain _ yfn_140 (c140 p vs i hlt hn) (by simp -dsimp (disch := try exact zo) only [go_sem, eP_in]) (.lit _) ?_) | (refine callV.flat _ yfn_141 (c141 b a a2 hb ha ha2 (opp_ne q3) (opp_w haw ha2w q3)) rfl rfl ?_) | refine ⟨by omega, ?_⟩ | (refine zb ?_ ?_ <;> intro hg <;> (try simp only [NB] at hg) <;> (try rw [hg]) <;> try simp only [NM] at hg) | omega | simp -dsimp (disch := try exact zo) only [go_sem, hl, hl2, ea, ea2, sa, sa2, k2, k3, List.length_map, side_mul, Int.toNat_natCast, flr, List.map_append, eP_in] | contradiction)
     all_goals exact AW.stop ⟨⟨i + 1, by omega⟩, (Weak.t4 (by refine ⟨?_, ?_, ?_, ?_⟩ <;> first | (simp -dsimp (disch := try exact zo) only [go_sem, hWl, hWm, hSo, List.length_map, Int.natCast_add, Int.cast_ofNat_Int]; done) | (simp -dsimp (disch := try exact zo) only [go_sem, eP_in, ints_in, hWl, Int.natCast_add, Int.cast_ofNat_Int]; done))), by dsimp only; omega⟩
   ·by_cases q3 : sideP b a * sideP b a2 < 0
    ·skip
     have k2 : (sideP b a = -1) = False := eq_false q2
     have k3 : (sideP b a * sideP b a2 < 0) = True := eq_true q3
     have hpc : pc (1) b a a2 = [a, meetP b a a2] := by unfold pc; rw [if_pos q2, if_pos q3]; rfl
     rw [hpc] at hW
     have hWl : (partT (1) b vs (i + 1)).length = W.length + 1 + 1 := by rw [hW]; simp
     have hWm : (partT (1) b vs (i + 1)).map eP = W.map eP ++ [eP (a), eP (meetP b a a2)] := by rw [hW]; simp
     clear hW hpc
     repeat' (first | refine zg ?_ | refine AW.drawP ymix ?_ | (refine AW.cond rfl ?_ ?_ <;> intro hc <;> first | (cases hc; done) | simp only [NM] at hc | skip) | (refine zr ?_; simp -dsimp (disch := try exact zo) only [go_sem, hl, hl2, ea, ea2, sa, sa2, k2, k3, List.length_map, side_mul, Int.toNat_natCast, flr, List.map_append, eP_in] <;> try rfl) | (refine callV.plain _ yfn_140 (c140 p vs i hlt hn) (by simp -dsimp (disch := try exact zo) only [go_sem, eP_in]) (.lit _) ?_) | (refine callV.flat _ yfn_141 (c141 b a a2 hb ha ha2 (opp_ne q3) (opp_w haw ha2w q3)) rfl rfl ?_) | refine ⟨by omega, ?_⟩ | (refine zb ?_ ?_ <;> intro hg <;> (try simp only [NB] at hg) <;> (try rw [hg]) <;> try simp only [NM] at hg) | omega | simp -dsimp (disch := try exact zo) only [go_sem, hl, hl2, ea, ea2, sa, sa2, k2, k3, List.length_map, side_mul, Int.toNat_natCast, flr, List.map_append, eP_in] | contradiction)
     all_goals exact AW.stop ⟨⟨i + 1, by omega⟩, (Weak.t4 (by refine ⟨?_, ?_, ?_, ?_⟩ <;> first | (simp -dsimp (disch := try exact zo) only [go_sem, hWl, hWm, hSo, List.length_map, Int.natCast_add, Int.cast_ofNat_Int]; done) | (simp -dsimp (disch := try exact zo) only [go_sem, eP_in, ints_in, hWl, Int.natCast_add, Int.cast_ofNat_Int]; done))), by dsimp only; omega⟩
    ·skip
     have k2 : (sideP b a = -1) = False := eq_false q2
     have k3 : (sideP b a * sideP b a2 < 0) = False := eq_false q3
     have hpc : pc (1) b a a2 = [a] := by unfold pc; rw [if_pos q2, if_neg q3]; rfl
     rw [hpc] at hW
     have hWl : (partT (1) b vs (i + 1)).length = W.length + 1 := by rw [hW]; simp
     have hWm : (partT (1) b vs (i + 1)).map eP = W.map eP ++ [eP (a)] := by rw [hW]; simp
     clear hW hpc
     repeat' (first | refine zg ?_ | refine AW.drawP ymix ?_ | (refine AW.cond rfl ?_ ?_ <;> intro hc <;> first | (cases hc; done) | simp only [NM] at hc | skip) | (refine zr ?_; simp -dsimp (disch := try exact zo) only [go_sem, hl, hl2, ea, ea2, sa, sa2, k2, k3, List.length_map, side_mul, Int.toNat_natCast, flr, List.map_append, eP_in] <;> try rfl) | (refine callV.plain _ yfn_140 (c140 p vs i hlt hn) (by simp -dsimp (disch := try exact zo) only [go_sem, eP_in]) (.lit _) ?_) | (refine callV.flat _ yfn_141 (c141 b a a2 hb ha ha2 (opp_ne q3) (opp_w haw ha2w q3)) rfl rfl ?_) | refine ⟨by omega, ?_⟩ | (refine zb ?_ ?_ <;> intro hg <;> (try simp only [NB] at hg) <;> (try rw [hg]) <;> try simp only [NM] at hg) | omega | simp -dsimp (disch := try exact zo) only [go_sem, hl, hl2, ea, ea2, sa, sa2, k2, k3, List.length_map, side_mul, Int.toNat_natCast, flr, List.map_append, eP_in] | contradiction)
     all_goals exact AW.stop ⟨⟨i + 1, by omega⟩, (Weak.t4 (by refine ⟨?_, ?_, ?_, ?_⟩ <;> first | (simp -dsimp (disch := try exact zo) only [go_sem, hWl, hWm, hSo, List.length_map, Int.natCast_add, Int.cast_ofNat_Int]; done) | (simp -dsimp (disch := try exact zo) only [go_sem, eP_in, ints_in, hWl, Int.natCast_add, Int.cast_ofNat_Int]; done))), by dsimp only; omega⟩
  ·have hSo : someT (1) b vs (i + 1) = true := by rw [hS]; simp
   have flr : True := trivial
   clear hS
   by_cases q2 : sideP b a = -1
   ·by_cases q3 : sideP b a * sideP b a2 < 0
    ·skip
     have k2 : (sideP b a = -1) = True := eq_true q2
     have k3 : (sideP b a * sideP b a2 < 0) = True := eq_true q3
     have hpc : pc (1) b a a2 = [meetP b a a2] := by unfold pc; rw [if_neg (fun h => h q2), if_pos q3]; rfl
     rw [hpc] at hW
     have hWl : (partT (1) b vs (i + 1)).length = W.length + 1 := by rw [hW]; simp
     have hWm : (partT (1) b vs (i + 1)).map eP = W.map eP ++ [eP (meetP b a a2)] := by rw [hW]; simp
     clear hW hpc
     repeat' (first | refine zg ?_ | refine AW.drawP ymix ?_ | (refine AW.cond rfl ?_ ?_ <;> intro hc <;> first | (cases hc; done) | simp only [NM] at hc | skip) | (refine zr ?_; simp -dsimp (disch := try exact zo) only [go_sem, hl, hl2, ea, ea2, sa, sa2, k2, k3, List.length_map, side_mul, Int.toNat_natCast, flr, List.map_append, eP_in] <;> try rfl) | (refine callV.plain _ yfn_140 (c140 p vs i hlt hn) (by simp -dsimp (disch := try exact zo) only [go_sem, eP_in]) (.lit _) ?_) | (refine callV.flat _ yfn_141 (c141 b a a2 hb ha ha2 (opp_ne q3) (opp_w haw ha2w q3)) rfl rfl ?_) | refine ⟨by omega, ?_⟩ | (refine zb ?_ ?_ <;> intro hg <;> (try simp only [NB] at hg) <;> (try rw [hg]) <;> try simp only [NM] at hg) | omega | simp -dsimp (disch := try exact zo) only [go_sem, hl, hl2, ea, ea2, sa, sa2, k2, k3, List.length_map, side_mul, Int.toNat_natCast, flr, List.map_append, eP_in] | contradiction)
     all_goals exact AW.stop ⟨⟨i + 1, by omega⟩, (Weak.t4 (by refine ⟨?_, ?_, ?_, ?_⟩ <;> first | (simp -dsimp (disch := try exact zo) only [go_sem, hWl, hWm, hSo, List.length_map, Int.natCast_add, Int.cast_ofNat_Int]; done) | (simp -dsimp (disch := try exact zo) only [go_sem, eP_in, ints_in, hWl, Int.natCast_add, Int.cast_ofNat_Int]; done))), by dsimp only; omega⟩
    ·skip
     have k2 : (sideP b a = -1) = True := eq_true q2
     have k3 : (sideP b a * sideP b a2 < 0) = False := eq_false q3
     have hpc : pc (1) b a a2 = [] := by unfold pc; rw [if_neg (fun h => h q2), if_neg q3]; rfl
     rw [hpc] at hW
     have hWl : (partT (1) b vs (i + 1)).length = W.length := by rw [hW]; simp
     have hWm : (partT (1) b vs (i + 1)).map eP = W.map eP := by rw [hW]; simp
     clear hW hpc
     repeat' (first | refine zg ?_ | refine AW.drawP ymix ?_ | (refine AW.cond rfl ?_ ?_ <;> intro hc <;> first | (cases hc; done) | simp only [NM] at hc | skip) | (refine zr ?_; simp -dsimp (disch := try exact zo) only [go_sem, hl, hl2, ea, ea2, sa, sa2, k2, k3, List.length_map, side_mul, Int.toNat_natCast, flr, List.map_append, eP_in] <;> try rfl) | (refine callV.plain _ yfn_140 (c140 p vs i hlt hn) (by simp -dsimp (disch := try exact zo) only [go_sem, eP_in]) (.lit _) ?_) | (refine callV.flat _ yfn_141 (c141 b a a2 hb ha ha2 (opp_ne q3) (opp_w haw ha2w q3)) rfl rfl ?_) | refine ⟨by omega, ?_⟩ | (refine zb ?_ ?_ <;> intro hg <;> (try simp only [NB] at hg) <;> (try rw [hg]) <;> try simp only [NM] at hg) | omega | simp -dsimp (disch := try exact zo) only [go_sem, hl, hl2, ea, ea2, sa, sa2, k2, k3, List.length_map, side_mul, Int.toNat_natCast, flr, List.map_append, eP_in] | contradiction)
     all_goals exact AW.stop ⟨⟨i + 1, by omega⟩, (Weak.t4 (by refine ⟨?_, ?_, ?_, ?_⟩ <;> first | (simp -dsimp (disch := try exact zo) only [go_sem, hWl, hWm, hSo, List.length_map, Int.natCast_add, Int.cast_ofNat_Int]; done) | (simp -dsimp (disch := try exact zo) only [go_sem, eP_in, ints_in, hWl, Int.natCast_add, Int.cast_ofNat_Int]; done))), by dsimp only; omega⟩
   ·by_cases q3 : sideP b a * sideP b a2 < 0
    ·skip
     have k2 : (sideP b a = -1) = False := eq_false q2
     have k3 : (sideP b a * sideP b a2 < 0) = True := eq_true q3
     have hpc : pc (1) b a a2 = [a, meetP b a a2] := by unfold pc; rw [if_pos q2, if_pos q3]; rfl
     rw [hpc] at hW
     have hWl : (partT (1) b vs (i + 1)).length = W.length + 1 + 1 := by rw [hW]; simp
     have hWm : (partT (1) b vs (i + 1)).map eP = W.map eP ++ [eP (a), eP (meetP b a a2)] := by rw [hW]; simp
     clear hW hpc
     repeat' (first | refine zg ?_ | refine AW.drawP ymix ?_ | (refine AW.cond rfl ?_ ?_ <;> intro hc <;> first | (cases hc; done) | simp only [NM] at hc | skip) | (refine zr ?_; simp -dsimp (disch := try exact zo) only [go_sem, hl, hl2, ea, ea2, sa, sa2, k2, k3, List.length_map, side_mul, Int.toNat_natCast, flr, List.map_append, eP_in] <;> try rfl) | (refine callV.plain _ yfn_140 (c140 p vs i hlt hn) (by simp -dsimp (disch := try exact zo) only [go_sem, eP_in]) (.lit _) ?_) | (refine callV.flat _ yfn_141 (c141 b a a2 hb ha ha2 (opp_ne q3) (opp_w haw ha2w q3)) rfl rfl ?_) | refine ⟨by omega, ?_⟩ | (refine zb ?_ ?_ <;> intro hg <;> (try simp only [NB] at hg) <;> (try rw [hg]) <;> try simp only [NM] at hg) | omega | simp -dsimp (disch := try exact zo) only [go_sem, hl, hl2, ea, ea2, sa, sa2, k2, k3, List.length_map, side_mul, Int.toNat_natCast, flr, List.map_append, eP_in] | contradiction)
     all_goals exact AW.stop ⟨⟨i + 1, by omega⟩, (Weak.t4 (by refine ⟨?_, ?_, ?_, ?_⟩ <;> first | (simp -dsimp (disch := try exact zo) only [go_sem, hWl, hWm, hSo, List.length_map, Int.natCast_add, Int.cast_ofNat_Int]; done) | (simp -dsimp (disch := try exact zo) only [go_sem, eP_in, ints_in, hWl, Int.natCast_add, Int.cast_ofNat_Int]; done))), by dsimp only; omega⟩
    ·skip
     have k2 : (sideP b a = -1) = False := eq_false q2
     have k3 : (sideP b a * sideP b a2 < 0) = False := eq_false q3
     have hpc : pc (1) b a a2 = [a] := by unfold pc; rw [if_pos q2, if_neg q3]; rfl
     rw [hpc] at hW
     have hWl : (partT (1) b vs (i + 1)).length = W.length + 1 := by rw [hW]; simp
     have hWm : (partT (1) b vs (i + 1)).map eP = W.map eP ++ [eP (a)] := by rw [hW]; simp
     clear hW hpc
     repeat' (first | refine zg ?_ | refine AW.drawP ymix ?_ | (refine AW.cond rfl ?_ ?_ <;> intro hc <;> first | (cases hc; done) | simp only [NM] at hc | skip) | (refine zr ?_; simp -dsimp (disch := try exact zo) only [go_sem, hl, hl2, ea, ea2, sa, sa2, k2, k3, List.length_map, side_mul, Int.toNat_natCast, flr, List.map_append, eP_in] <;> try rfl) | (refine callV.plain _ yfn_140 (c140 p vs i hlt hn) (by simp -dsimp (disch := try exact zo) only [go_sem, eP_in]) (.lit _) ?_) | (refine callV.flat _ yfn_141 (c141 b a a2 hb ha ha2 (opp_ne q3) (opp_w haw ha2w q3)) rfl rfl ?_) | refine ⟨by omega, ?_⟩ | (refine zb ?_ ?_ <;> intro hg <;> (try simp only [NB] at hg) <;> (try rw [hg]) <;> try simp only [NM] at hg) | omega | simp -dsimp (disch := try exact zo) only [go_sem, hl, hl2, ea, ea2, sa, sa2, k2, k3, List.length_map, side_mul, Int.toNat_natCast, flr, List.map_append, eP_in] | contradiction)
     all_goals exact AW.stop ⟨⟨i + 1, by omega⟩, (Weak.t4 (by refine ⟨?_, ?_, ?_, ?_⟩ <;> first | (simp -dsimp (disch := try exact zo) only [go_sem, hWl, hWm, hSo, List.length_map, Int.natCast_add, Int.cast_ofNat_Int]; done) | (simp -dsimp (disch := try exact zo) only [go_sem, eP_in, ints_in, hWl, Int.natCast_add, Int.cast_ofNat_Int]; done))), by dsimp only; omega⟩
 ·have hil : i = vs.length := by omega
  subst hil
  rw [partT_all]
  cases hfl : someT (1) b vs vs.length
  ·have k1 : True := trivial
   rw [if_neg (by simp)]
   repeat' (first | refine zg ?_ | refine AW.drawP ymix ?_ | (refine AW.cond rfl ?_ ?_ <;> intro hc <;> first | (cases hc; done) | simp only [NM] at hc | skip) | (refine zn ?_; simp -dsimp (disch := try exact zo) only [go_sem, hl, k1, List.length_map] <;> try rfl) | refine ⟨by omega, ?_⟩ | (refine zb ?_ ?_ <;> intro hg <;> (try simp only [NB] at hg) <;> (try rw [hg]) <;> try simp only [NM] at hg) | omega | simp -dsimp (disch := try exact zo) only [go_sem, hl, k1, List.length_map] | contradiction)
  ·have k1 : True := trivial
   rw [if_pos rfl]
   repeat' (first | refine zg ?_ | refine AW.drawP ymix ?_ | (refine AW.cond rfl ?_ ?_ <;> intro hc <;> first | (cases hc; done) | simp only [NM] at hc | skip) | (refine zn ?_; simp -dsimp (disch := try exact zo) only [go_sem, hl, k1, List.length_map] <;> try rfl) | refine ⟨by omega, ?_⟩ | (refine zb ?_ ?_ <;> intro hg <;> (try simp only [NB] at hg) <;> (try rw [hg]) <;> try simp only [NM] at hg) | omega | simp -dsimp (disch := try exact zo) only [go_sem, hl, k1, List.length_map] | contradiction)
end Go.Proofs.Vx
