import Derived.Test.YtjlfgmhmalbiiaaGreatDoorProg
import Derived.Test.YtjlfgmhmalbiiaaGreatDoorT10
import Derived.Test.YtjlfgmhmalbiiaaGreatDoorT27
set_option linter.all false
namespace Go.Proofs.Vx
open Go Go.Sx Go.Proofs
attribute [local irreducible] fnT CallOK CallFr AW effV callV runP runO oneP oneO gcaseP hid
theorem yqq_Nx29 : agT Tryz.prog 33 = some true ∧ plT Tryz.prog 33 = some [(0, 1)] ∧ szT Tryz.prog 33 = some 1 ∧ zeT Tryz.prog 31 = some [.lit (.slice none 0 0)] ∧ zeT Tryz.prog 33 = some [.lit (.slice none 0 0)] := by and_intros <;> kernel_rfl
attribute [go_sem] yqq_Nx29
theorem yfn_21 : fnT Tryz.prog 21 = true := by kernel_rfl
theorem ren69 {A V : Nat} (hAV : A ≠ V) {l m : PCell} {arg : AV} (ha : ∀ σ, rnA σ arg = arg) (hk : ∀ K, topK K arg) (h : CallOK Tryz.prog 69 [.loc 0 0, arg] [(0, .blk [.ref 1 0 l.length l.length]), (1, .vec 9 (eS l))] (.tup []) [(0, .blk [.ref 1 0 m.length m.length]), (1, .vec 9 (eS m))]) :
  CallOK Tryz.prog 69 [.loc A 0, arg] [(A, .blk [.ref V 0 l.length l.length]), (V, .vec 9 (eS l))] (.tup []) [(A, .blk [.ref V 0 m.length m.length]), (V, .vec 9 (eS m))] := by
 have key := CallOK.renG (fun i => if i = 0 then A else V) (fun j => if j = A then 0 else 1) h (by
  intro p hp
  simp only [List.mem_cons, List.not_mem_nil, or_false] at hp
  rcases hp with rfl | rfl
  ·simp
  ·simp [hAV.symm]) (by
  intro p hp
  simp only [List.mem_cons, List.not_mem_nil, or_false] at hp
  rcases hp with rfl | rfl
  ·intro c hc
   simp only [List.mem_cons, List.not_mem_nil, or_false] at hc
   subst hc
   simp [topK]
  ·intro e he c hc
   exact of_eq_true (eS_in _) e he c hc) (by
  intro p hp
  simp only [List.mem_cons, List.not_mem_nil, or_false] at hp
  rcases hp with rfl | rfl
  ·refine ⟨by simp, fun c hc => ?_⟩
   simp only [List.mem_cons, List.not_mem_nil, or_false] at hc
   subst hc
   simp [topK]
  ·exact ⟨by simp, fun e he c hc => of_eq_true (eS_in _) e he c hc⟩) (.tup _ (by simp)) (by
  intro x hx
  simp only [List.mem_cons, List.not_mem_nil, or_false] at hx
  rcases hx with rfl | rfl
  ·simp [topK]
  ·exact hk _)
 have e1 : [AV.loc 0 0, arg].map (rnA (fun i => if i = 0 then A else V)) = [AV.loc A 0, arg] := by
  rw [List.map_cons, List.map_cons, List.map_nil, ha]; rfl
 have e2 : ∀ m : PCell, rnL (fun i => if i = 0 then A else V) [(0, AV.blk [.ref 1 0 m.length m.length]), (1, AV.vec 9 (eS m))] = [(A, AV.blk [.ref V 0 m.length m.length]), (V, AV.vec 9 (eS m))] := fun m => rfl
 rw [e1, e2, e2] at key
 exact key
theorem c69aR {A V : Nat} (hAV : A ≠ V) (l : PCell) (hn : l.length ≤ 1048576) (p : Pl) (vs : List Pt) (h0 : vs ≠ []) (hvn : vs.length ≤ 268435456) :
  CallOK Tryz.prog 69 [.loc A 0, .agg (eG p vs)] [(A, .blk [.ref V 0 l.length l.length]), (V, .vec 9 (eS l))] (.tup []) [(A, .blk [.ref V 0 (l ++ [(p, vs)]).length (l ++ [(p, vs)]).length]), (V, .vec 9 (eS (l ++ [(p, vs)])))] :=
 ren69 hAV (fun _ => rfl) (fun _ => (capFlat p vs).in) (c69a l hn p vs h0 hvn)
theorem c69bR {A V : Nat} (hAV : A ≠ V) (l : PCell) (hn : l.length ≤ 1048576) :
  CallOK Tryz.prog 69 [.loc A 0, .agg eG0] [(A, .blk [.ref V 0 l.length l.length]), (V, .vec 9 (eS l))] (.tup []) [(A, .blk [.ref V 0 l.length l.length]), (V, .vec 9 (eS l))] :=
 ren69 hAV (fun _ => rfl) (fun _ => .agg _ (by intro c hc; simp only [List.mem_cons, List.not_mem_nil, or_false] at hc; rcases hc with rfl | rfl | rfl | rfl | rfl | rfl | rfl | rfl | rfl <;> exact .lit _)) (c69b l hn)
set_option maxHeartbeats 40000000 in
theorem c21a (l : PCell) (b : Pl) (hb : BPl 1073741824 b) (hn : l.length ≤ 1048576) (hv : ∀ s ∈ l, s.2.length ≤ 268435456 ∧ ∀ v ∈ s.2, CanP v ∧ BPt 1073741824 v) (hm : (cornersP l).length ≤ 268435456) (hf : frontB b l = false) :
  CallOK Tryz.prog 21 [.agg [.sl (eS l)], .agg (eH b)] [] (.tup [.agg [.sl (eS l)], .agg [.lit (.slice none 0 0)]]) [] := by
 refine CallOK.closed Tryz.func21 rfl 84 rfl rfl (by simp -dsimp (disch := try exact zo) only [go_sem, eS_in]) [.cell 4 33, .cell 5 33] (congrArg Array.toList Tryz.results21) ?_
 simp only [startT, Nat.reduceAdd]
 have hml : maxLen = 9223372036854775807 := rfl
 have hl : (eS l).length = l.length := List.length_map _
 repeat' (first | refine zg ?_ | refine AW.drawP ymix ?_ | (refine AW.cond rfl ?_ ?_ <;> intro hc <;> first | (cases hc; done) | simp only [NM] at hc | skip) | (refine zr ?_; simp -dsimp (disch := try exact zo) only [go_sem, hl, List.length_map, eS_in, eP_in] <;> try rfl) | (refine callV.plain _ yfn_27 (c27 l hn hv hm) (by simp -dsimp (disch := try exact zo) only [go_sem, eS_in]) (by rw [In_sl, eP_in]; trivial) ?_) | refine ⟨by omega, ?_⟩ | (refine zb ?_ ?_ <;> intro hg <;> (try simp only [NB] at hg) <;> (try rw [hg]) <;> try simp only [NM] at hg) | omega | simp -dsimp (disch := try exact zo) only [go_sem, hl, List.length_map, eS_in, eP_in] | contradiction)
 have hV := verts_len_le l
 have hfA : (vertsP l).any (fun v => decide (0 < sideP b v)) = frontB b l := verts_any l _
 have hbA : (vertsP l).any (fun v => decide (sideP b v < 0)) = behindB b l := verts_any l _
 have hvb : ∀ v ∈ vertsP l, BPt 1073741824 v := fun v hvm => by
  obtain ⟨s, hs, hvm⟩ := verts_mem.1 hvm
  exact ((hv s hs).2 v hvm).2
 generalize vertsP l = vs at *
 have hvl : (vs.map eP).length = vs.length := List.length_map _
 refine AW.loop (fun z : {i : Nat // i ≤ vs.length} => ⟨[(21, .lit (.int .i64 z.1)), (20, .lit (.int .i64 vs.length)), (19, .sl (vs.map eP)), (6, .lit (.bool (anyT (fun v => decide (sideP b v < 0)) vs z.1))), (7, .lit (.bool (anyT (fun v => decide (0 < sideP b v)) vs z.1))), (2, .loc 8 0), (3, .loc 9 0), (4, .loc 10 0), (5, .loc 11 0)], [(8, .blk [.sl (eS l)]), (9, .blk (eH b)), (10, .blk [.lit (.slice none 0 0)]), (11, .blk [.lit (.slice none 0 0)])], 60⟩) (fun z => vs.length - z.1) ⟨0, Nat.zero_le _⟩ (Weak.t4 (by refine ⟨?_, ?_, ?_, ?_⟩ <;> simp -dsimp (disch := try exact zo) only [go_sem, eS_in, eP_in, anyT_zero, Int.natCast_add, Int.cast_ofNat_Int])) ?_
 rintro ⟨i, hi⟩
 dsimp only
 by_cases hlt : i < vs.length
 ·clear hfA hbA
  have ea := eP_getD vs i hlt
  have hsb := anyT_succ (fun v => decide (sideP b v < 0)) vs i hlt
  have hsf := anyT_succ (fun v => decide (0 < sideP b v)) vs i hlt
  have ha := hvb _ (List.getElem_mem hlt)
  clear hv hvb
  generalize vs[i] = a at *
  simp only [eP, e4] at ea
  generalize anyT (fun v => decide (sideP b v < 0)) vs i = bb at *
  generalize anyT (fun v => decide (0 < sideP b v)) vs i = ff at *
  by_cases q1 : sideP b a < 0 <;> by_cases q2 : 0 < sideP b a
  ·omega
  all_goals
   have k1 := (show (sideP b a < 0) = _ ∧ (0 < sideP b a) = _ from ⟨(by first | exact eq_true q1 | exact eq_false q1), (by first | exact eq_true q2 | exact eq_false q2)⟩)
   clear q1 q2
   obtain ⟨k1, k2⟩ := k1
   simp only [k1, k2, decide_true, decide_false] at hsb hsf
   cases bb <;> cases ff <;> (try simp only [Bool.true_or, Bool.false_or, Bool.or_true, Bool.or_false] at hsb) <;> (try simp only [Bool.true_or, Bool.false_or, Bool.or_true, Bool.or_false] at hsf)
  all_goals
   repeat' (first | refine zg ?_ | refine AW.drawP ymix ?_ | (refine AW.cond rfl ?_ ?_ <;> intro hc <;> first | (cases hc; done) | simp only [NM] at hc | skip <;> try (exfalso; omega)) | (refine zr ?_; simp -dsimp (disch := try exact zo) only [go_sem, hl, hvl, ea, k1, k2, List.length_map, Int.toNat_natCast, eS_in, eP_in] <;> try rfl) | (refine callV.flat _ yfn_34 (c34 b a hb ha) rfl rfl ?_) | refine ⟨by omega, ?_⟩ | (refine zb ?_ ?_ <;> intro hg <;> (try simp only [NB] at hg) <;> (try rw [hg]) <;> try simp only [NM] at hg) | omega | simp -dsimp (disch := try exact zo) only [go_sem, hl, hvl, ea, k1, k2, List.length_map, Int.toNat_natCast, eS_in, eP_in] | contradiction)
  all_goals exact AW.stop ⟨⟨i + 1, by omega⟩, (Weak.t4 (by refine ⟨?_, ?_, ?_, ?_⟩ <;> simp -dsimp (disch := try exact zo) only [go_sem, eS_in, eP_in, hsf, hsb, Int.natCast_add, Int.cast_ofNat_Int])), by dsimp only; omega⟩
 ·have hil : i = vs.length := by omega
  subst hil
  rw [anyT_all, anyT_all, hfA, hbA]
  rw [hf]
  repeat' (first | refine zg ?_ | refine AW.drawP ymix ?_ | (refine AW.cond rfl ?_ ?_ <;> intro hc <;> first | (cases hc; done) | simp only [NM] at hc | skip <;> try (exfalso; omega)) | (refine zr ?_; simp -dsimp (disch := try exact zo) only [go_sem, hl, List.length_map, eS_in, eP_in] <;> try rfl) | refine ⟨by omega, ?_⟩ | (refine zb ?_ ?_ <;> intro hg <;> (try simp only [NB] at hg) <;> (try rw [hg]) <;> try simp only [NM] at hg) | omega | simp -dsimp (disch := try exact zo) only [go_sem, hl, List.length_map, eS_in, eP_in] | contradiction)
set_option maxHeartbeats 40000000 in
theorem c21b (l : PCell) (b : Pl) (hb : BPl 1073741824 b) (hn : l.length ≤ 1048576) (hv : ∀ s ∈ l, s.2.length ≤ 268435456 ∧ ∀ v ∈ s.2, CanP v ∧ BPt 1073741824 v) (hm : (cornersP l).length ≤ 268435456) (hf : frontB b l = true) (hbh : behindB b l = false) :
  CallOK Tryz.prog 21 [.agg [.sl (eS l)], .agg (eH b)] [] (.tup [.agg [.lit (.slice none 0 0)], .agg [.sl (eS l)]]) [] := by
 refine CallOK.closed Tryz.func21 rfl 84 rfl rfl (by simp -dsimp (disch := try exact zo) only [go_sem, eS_in]) [.cell 4 33, .cell 5 33] (congrArg Array.toList Tryz.results21) ?_
 simp only [startT, Nat.reduceAdd]
 have hml : maxLen = 9223372036854775807 := rfl
 have hl : (eS l).length = l.length := List.length_map _
 repeat' (first | refine zg ?_ | refine AW.drawP ymix ?_ | (refine AW.cond rfl ?_ ?_ <;> intro hc <;> first | (cases hc; done) | simp only [NM] at hc | skip) | (refine zr ?_; simp -dsimp (disch := try exact zo) only [go_sem, hl, List.length_map, eS_in, eP_in] <;> try rfl) | (refine callV.plain _ yfn_27 (c27 l hn hv hm) (by simp -dsimp (disch := try exact zo) only [go_sem, eS_in]) (by rw [In_sl, eP_in]; trivial) ?_) | refine ⟨by omega, ?_⟩ | (refine zb ?_ ?_ <;> intro hg <;> (try simp only [NB] at hg) <;> (try rw [hg]) <;> try simp only [NM] at hg) | omega | simp -dsimp (disch := try exact zo) only [go_sem, hl, List.length_map, eS_in, eP_in] | contradiction)
 have hV := verts_len_le l
 have hfA : (vertsP l).any (fun v => decide (0 < sideP b v)) = frontB b l := verts_any l _
 have hbA : (vertsP l).any (fun v => decide (sideP b v < 0)) = behindB b l := verts_any l _
 have hvb : ∀ v ∈ vertsP l, BPt 1073741824 v := fun v hvm => by
  obtain ⟨s, hs, hvm⟩ := verts_mem.1 hvm
  exact ((hv s hs).2 v hvm).2
 generalize vertsP l = vs at *
 have hvl : (vs.map eP).length = vs.length := List.length_map _
 refine AW.loop (fun z : {i : Nat // i ≤ vs.length} => ⟨[(21, .lit (.int .i64 z.1)), (20, .lit (.int .i64 vs.length)), (19, .sl (vs.map eP)), (6, .lit (.bool (anyT (fun v => decide (sideP b v < 0)) vs z.1))), (7, .lit (.bool (anyT (fun v => decide (0 < sideP b v)) vs z.1))), (2, .loc 8 0), (3, .loc 9 0), (4, .loc 10 0), (5, .loc 11 0)], [(8, .blk [.sl (eS l)]), (9, .blk (eH b)), (10, .blk [.lit (.slice none 0 0)]), (11, .blk [.lit (.slice none 0 0)])], 60⟩) (fun z => vs.length - z.1) ⟨0, Nat.zero_le _⟩ (Weak.t4 (by refine ⟨?_, ?_, ?_, ?_⟩ <;> simp -dsimp (disch := try exact zo) only [go_sem, eS_in, eP_in, anyT_zero, Int.natCast_add, Int.cast_ofNat_Int])) ?_
 rintro ⟨i, hi⟩
 dsimp only
 by_cases hlt : i < vs.length
 ·clear hfA hbA
  have ea := eP_getD vs i hlt
  have hsb := anyT_succ (fun v => decide (sideP b v < 0)) vs i hlt
  have hsf := anyT_succ (fun v => decide (0 < sideP b v)) vs i hlt
  have ha := hvb _ (List.getElem_mem hlt)
  clear hv hvb
  generalize vs[i] = a at *
  simp only [eP, e4] at ea
  generalize anyT (fun v => decide (sideP b v < 0)) vs i = bb at *
  generalize anyT (fun v => decide (0 < sideP b v)) vs i = ff at *
  by_cases q1 : sideP b a < 0 <;> by_cases q2 : 0 < sideP b a
  ·omega
  all_goals
   have k1 := (show (sideP b a < 0) = _ ∧ (0 < sideP b a) = _ from ⟨(by first | exact eq_true q1 | exact eq_false q1), (by first | exact eq_true q2 | exact eq_false q2)⟩)
   clear q1 q2
   obtain ⟨k1, k2⟩ := k1
   simp only [k1, k2, decide_true, decide_false] at hsb hsf
   cases bb <;> cases ff <;> (try simp only [Bool.true_or, Bool.false_or, Bool.or_true, Bool.or_false] at hsb) <;> (try simp only [Bool.true_or, Bool.false_or, Bool.or_true, Bool.or_false] at hsf)
  all_goals
   repeat' (first | refine zg ?_ | refine AW.drawP ymix ?_ | (refine AW.cond rfl ?_ ?_ <;> intro hc <;> first | (cases hc; done) | simp only [NM] at hc | skip <;> try (exfalso; omega)) | (refine zr ?_; simp -dsimp (disch := try exact zo) only [go_sem, hl, hvl, ea, k1, k2, List.length_map, Int.toNat_natCast, eS_in, eP_in] <;> try rfl) | (refine callV.flat _ yfn_34 (c34 b a hb ha) rfl rfl ?_) | refine ⟨by omega, ?_⟩ | (refine zb ?_ ?_ <;> intro hg <;> (try simp only [NB] at hg) <;> (try rw [hg]) <;> try simp only [NM] at hg) | omega | simp -dsimp (disch := try exact zo) only [go_sem, hl, hvl, ea, k1, k2, List.length_map, Int.toNat_natCast, eS_in, eP_in] | contradiction)
  all_goals exact AW.stop ⟨⟨i + 1, by omega⟩, (Weak.t4 (by refine ⟨?_, ?_, ?_, ?_⟩ <;> simp -dsimp (disch := try exact zo) only [go_sem, eS_in, eP_in, hsf, hsb, Int.natCast_add, Int.cast_ofNat_Int])), by dsimp only; omega⟩
 ·have hil : i = vs.length := by omega
  subst hil
  rw [anyT_all, anyT_all, hfA, hbA]
  rw [hf, hbh]
  repeat' (first | refine zg ?_ | refine AW.drawP ymix ?_ | (refine AW.cond rfl ?_ ?_ <;> intro hc <;> first | (cases hc; done) | simp only [NM] at hc | skip <;> try (exfalso; omega)) | (refine zr ?_; simp -dsimp (disch := try exact zo) only [go_sem, hl, List.length_map, eS_in, eP_in] <;> try rfl) | refine ⟨by omega, ?_⟩ | (refine zb ?_ ?_ <;> intro hg <;> (try simp only [NB] at hg) <;> (try rw [hg]) <;> try simp only [NM] at hg) | omega | simp -dsimp (disch := try exact zo) only [go_sem, hl, List.length_map, eS_in, eP_in] | contradiction)
end Go.Proofs.Vx
namespace Go.Proofs.Vx
open Go Go.Sx Go.Proofs
attribute [local irreducible] fnT CallOK CallFr AW effV callV runP runO oneP oneO gcaseP hid
theorem keepV {A V i : Nat} {ob : Nat → AV} {E : Eff → Prop} {l m : PCell} {arg : AV} (hAV : A ≠ V) (hin : ∀ K, In K arg) (hc : CallOK Tryz.prog 69 [.loc A 0, arg] [(A, .blk [.ref V 0 l.length l.length]), (V, .vec 9 (eS l))] (.tup []) [(A, .blk [.ref V 0 m.length m.length]), (V, .vec 9 (eS m))])
  (h1 : ob A = .blk [.ref V 0 l.length l.length]) (h2 : ob V = .vec 9 (eS l)) (h : E ⟨.tup [], [(A, .blk [.ref V 0 m.length m.length]), (V, .vec 9 (eS m))], [A, V]⟩) : callV Tryz.prog 69 [.loc A 0, arg] i ob E := by
 refine callV.inout _ _ _ yfn_69 hc ?_ ?_ ?_ ?_ (.tup _ (by simp)) ?_ ?_ ?_ h
 ·intro p hp
  simp only [List.mem_cons, List.not_mem_nil, or_false] at hp
  rcases hp with rfl | rfl
  ·exact h1
  ·exact h2
 ·intro x hx
  simp only [List.mem_cons, List.not_mem_nil, or_false] at hx
  rcases hx with rfl | rfl
  ·exact .loc _ _ (by simp)
  ·exact hin _
 ·intro p hp
  simp only [List.mem_cons, List.not_mem_nil, or_false] at hp
  rcases hp with rfl | rfl
  ·intro c hc
   simp only [List.mem_cons, List.not_mem_nil, or_false] at hc
   subst hc
   exact .ref _ _ _ _ (by simp)
  ·exact fun e he c hc => of_eq_true (eS_in _) e he c hc
 ·simp [hAV]
 ·intro p hp
  simp only [List.mem_cons, List.not_mem_nil, or_false] at hp
  rcases hp with rfl | rfl
  ·refine ⟨by simp, fun c hc => ?_⟩
   simp only [List.mem_cons, List.not_mem_nil, or_false] at hc
   subst hc
   exact .ref _ _ _ _ (by simp)
  ·exact ⟨by simp, fun e he c hc => of_eq_true (eS_in _) e he c hc⟩
 ·simp
 ·intro p hp
  simp only [List.mem_cons, List.not_mem_nil, or_false] at hp
  rcases hp with rfl | rfl <;> rfl
theorem inG0 (K : Nat → Prop) : In K (.agg eG0) := .agg _ (by intro c hc; simp only [List.mem_cons, List.not_mem_nil, or_false] at hc; rcases hc with rfl | rfl | rfl | rfl | rfl | rfl | rfl | rfl | rfl <;> exact .lit _)
theorem eS_one (l : PCell) (p : Pl) (vs : List Pt) : eS (l ++ [(p, vs)]) = eS l ++ [eG p vs] := List.map_append
theorem bw_tl {es : List (List AV)} {L : Nat} (h : es.length = L) : (if 0 < L then AV.sl (es.take L) else if L = 0 then AV.sl [] else AV.any) = AV.sl es := by
 split
 ·rw [List.take_of_length_le (by omega)]
 ·have : L = 0 := by omega
  subst this
  rw [if_pos rfl, List.eq_nil_of_length_eq_zero h]
set_option maxHeartbeats 40000000 in
theorem c21c (l : PCell) (b : Pl) (hb : BPl 1073741824 b) (hn : l.length ≤ 1048576) (hv : ∀ s ∈ l, s.2.length ≤ 268435456 ∧ ∀ v ∈ s.2, CanP v ∧ BPt 1073741824 v) (hm : (cornersP l).length ≤ 268435456) (hM131 : ∀ s ∈ l, s.2.length ≤ 131072) (hn4 : l.length ≤ 1024) (hcap : (foldS b (kept (-1) b l)).1.length ≤ 268435456) (hcap2 : (foldS (negP b) (kept 1 b l)).1.length ≤ 268435456) (hkb : ∀ h, ∀ s ∈ kept h b l, s.2.length ≤ 1048576 ∧ ∀ v ∈ s.2, BPt 1073741824 v) (hf : frontB b l = true) (hbh : behindB b l = true) :
  CallOK Tryz.prog 21 [.agg [.sl (eS l)], .agg (eH b)] [] (.tup [.agg [.sl (eS (kept (-1) b l ++ [(b, capP b (kept (-1) b l))]))], .agg [.sl (eS (kept 1 b l ++ [(negP b, capP (negP b) (kept 1 b l))]))]]) [] := by
 refine CallOK.closed Tryz.func21 rfl 84 rfl rfl (by simp -dsimp (disch := try exact zo) only [go_sem, eS_in]) [.cell 4 33, .cell 5 33] (congrArg Array.toList Tryz.results21) ?_
 simp only [startT, Nat.reduceAdd]
 have hml : maxLen = 9223372036854775807 := rfl
 have hl : (eS l).length = l.length := List.length_map _
 repeat' (first | refine zg ?_ | refine AW.drawP ymix ?_ | (refine AW.cond rfl ?_ ?_ <;> intro hc <;> first | (cases hc; done) | simp only [NM] at hc | skip) | (refine zr ?_; simp -dsimp (disch := try exact zo) only [go_sem, hl, List.length_map, eS_in, eP_in] <;> try rfl) | (refine callV.plain _ yfn_27 (c27 l hn hv hm) (by simp -dsimp (disch := try exact zo) only [go_sem, eS_in]) (by rw [In_sl, eP_in]; trivial) ?_) | refine ⟨by omega, ?_⟩ | (refine zb ?_ ?_ <;> intro hg <;> (try simp only [NB] at hg) <;> (try rw [hg]) <;> try simp only [NM] at hg) | omega | simp -dsimp (disch := try exact zo) only [go_sem, hl, List.length_map, eS_in, eP_in] | contradiction)
 have hV := verts_len_le l
 have hfA : (vertsP l).any (fun v => decide (0 < sideP b v)) = frontB b l := verts_any l _
 have hbA : (vertsP l).any (fun v => decide (sideP b v < 0)) = behindB b l := verts_any l _
 have hvb : ∀ v ∈ vertsP l, BPt 1073741824 v := fun v hvm => by
  obtain ⟨s, hs, hvm⟩ := verts_mem.1 hvm
  exact ((hv s hs).2 v hvm).2
 generalize vertsP l = vs at *
 have hvl : (vs.map eP).length = vs.length := List.length_map _
 refine AW.loop (fun z : {i : Nat // i ≤ vs.length} => ⟨[(21, .lit (.int .i64 z.1)), (20, .lit (.int .i64 vs.length)), (19, .sl (vs.map eP)), (6, .lit (.bool (anyT (fun v => decide (sideP b v < 0)) vs z.1))), (7, .lit (.bool (anyT (fun v => decide (0 < sideP b v)) vs z.1))), (2, .loc 8 0), (3, .loc 9 0), (4, .loc 10 0), (5, .loc 11 0)], [(8, .blk [.sl (eS l)]), (9, .blk (eH b)), (10, .blk [.lit (.slice none 0 0)]), (11, .blk [.lit (.slice none 0 0)])], 60⟩) (fun z => vs.length - z.1) ⟨0, Nat.zero_le _⟩ (Weak.t4 (by refine ⟨?_, ?_, ?_, ?_⟩ <;> simp -dsimp (disch := try exact zo) only [go_sem, eS_in, eP_in, anyT_zero, Int.natCast_add, Int.cast_ofNat_Int])) ?_
 rintro ⟨i, hi⟩
 dsimp only
 by_cases hlt : i < vs.length
 ·clear hfA hbA
  have ea := eP_getD vs i hlt
  have hsb := anyT_succ (fun v => decide (sideP b v < 0)) vs i hlt
  have hsf := anyT_succ (fun v => decide (0 < sideP b v)) vs i hlt
  have ha := hvb _ (List.getElem_mem hlt)
  clear hv hvb
  generalize vs[i] = a at *
  simp only [eP, e4] at ea
  generalize anyT (fun v => decide (sideP b v < 0)) vs i = bb at *
  generalize anyT (fun v => decide (0 < sideP b v)) vs i = ff at *
  by_cases q1 : sideP b a < 0 <;> by_cases q2 : 0 < sideP b a
  ·omega
  all_goals
   have k1 := (show (sideP b a < 0) = _ ∧ (0 < sideP b a) = _ from ⟨(by first | exact eq_true q1 | exact eq_false q1), (by first | exact eq_true q2 | exact eq_false q2)⟩)
   clear q1 q2
   obtain ⟨k1, k2⟩ := k1
   simp only [k1, k2, decide_true, decide_false] at hsb hsf
   cases bb <;> cases ff <;> (try simp only [Bool.true_or, Bool.false_or, Bool.or_true, Bool.or_false] at hsb) <;> (try simp only [Bool.true_or, Bool.false_or, Bool.or_true, Bool.or_false] at hsf)
  all_goals
   repeat' (first | refine zg ?_ | refine AW.drawP ymix ?_ | (refine AW.cond rfl ?_ ?_ <;> intro hc <;> first | (cases hc; done) | simp only [NM] at hc | skip <;> try (exfalso; omega)) | (refine zr ?_; simp -dsimp (disch := try exact zo) only [go_sem, hl, hvl, ea, k1, k2, List.length_map, Int.toNat_natCast, eS_in, eP_in] <;> try rfl) | (refine callV.flat _ yfn_34 (c34 b a hb ha) rfl rfl ?_) | refine ⟨by omega, ?_⟩ | (refine zb ?_ ?_ <;> intro hg <;> (try simp only [NB] at hg) <;> (try rw [hg]) <;> try simp only [NM] at hg) | omega | simp -dsimp (disch := try exact zo) only [go_sem, hl, hvl, ea, k1, k2, List.length_map, Int.toNat_natCast, eS_in, eP_in] | contradiction)
  all_goals exact AW.stop ⟨⟨i + 1, by omega⟩, (Weak.t4 (by refine ⟨?_, ?_, ?_, ?_⟩ <;> simp -dsimp (disch := try exact zo) only [go_sem, eS_in, eP_in, hsf, hsb, Int.natCast_add, Int.cast_ofNat_Int])), by dsimp only; omega⟩
 ·have hil : i = vs.length := by omega
  subst hil
  rw [anyT_all, anyT_all, hfA, hbA]
  rw [hf, hbh]
  clear hvb hvl hfA hbA hV hi hlt
  repeat' (first | refine zg ?_ | refine AW.drawP ymix ?_ | (refine AW.cond rfl ?_ ?_ <;> intro hc <;> first | (cases hc; done) | simp only [NM] at hc | skip <;> try (exfalso; omega)) | (refine zr ?_; simp -dsimp (disch := try exact zo) only [go_sem, hl, List.length_map, eS_in, eP_in] <;> try rfl) | refine ⟨by omega, ?_⟩ | (refine zb ?_ ?_ <;> intro hg <;> (try simp only [NB] at hg) <;> (try rw [hg]) <;> try simp only [NM] at hg) | omega | simp -dsimp (disch := try exact zo) only [go_sem, hl, List.length_map, eS_in, eP_in] | contradiction)
  have hk0 : kept (-1) b [] = [] := rfl
  have hk1 : kept 1 b [] = [] := rfl
  have hz : eS [] = [] := rfl
  refine AW.loop (fun z : {i : Nat // i ≤ l.length} => ⟨[(52, .lit (.int .i64 z.1)), (51, .lit (.int .i64 l.length)), (13, .clo 69 []), (11, .loc 67 0), (12, .loc 68 0), (50, .sl (eS l)), (2, .loc 8 0), (3, .loc 9 0), (4, .loc 10 0), (5, .loc 11 0)], [(67, .blk [.ref 74 0 (kept (-1) b (l.take z.1)).length (kept (-1) b (l.take z.1)).length]), (74, .vec 9 (eS (kept (-1) b (l.take z.1)))), (68, .blk [.ref 75 0 (kept 1 b (l.take z.1)).length (kept 1 b (l.take z.1)).length]), (75, .vec 9 (eS (kept 1 b (l.take z.1)))), (9, .blk (eH b)), (10, .blk [.lit (.slice none 0 0)]), (11, .blk [.lit (.slice none 0 0)])], 110⟩) (fun z => l.length - z.1) ⟨0, Nat.zero_le _⟩ (Weak.trans (Weak.nilB 67 0 9 _ (by decide) rfl (by simp) rfl (by simp)) (Weak.trans (Weak.nilB 68 0 9 _ (by decide) rfl (by simp) rfl (by simp)) (Weak.t4 (by refine ⟨?_, ?_, ?_, ?_⟩ <;> simp -dsimp (disch := try exact zo) only [go_sem, List.take_zero, hk0, hk1, hz, eS_in, eP_in, List.length_nil, Int.natCast_add, Int.cast_ofNat_Int])))) ?_
  rintro ⟨i, hi⟩
  dsimp only
  by_cases hlt : i < l.length
  ·have es1 := eS_getD l i hlt
   have hL2 := kept_succ (-1) b l i hlt
   have hM2 := kept_succ 1 b l i hlt
   have hLn := kept_len (-1) b (l.take i)
   have hMn := kept_len 1 b (l.take i)
   have htl : (l.take i).length ≤ l.length := List.length_take_le' _ _
   have hvs := hv _ (List.getElem_mem hlt)
   have hMs := hM131 _ (List.getElem_mem hlt)
   generalize l[i] = sd at *
   obtain ⟨sp, svs⟩ := sd
   dsimp only at es1 hL2 hM2 hvs hMs
   generalize kept (-1) b (l.take i) = L at *
   generalize kept 1 b (l.take i) = M at *
   have hlL : (eS L).length = L.length := List.length_map _
   have hlM : (eS M).length = M.length := List.length_map _
   have c70x := c70 sp b svs hvs.1 (fun v hvm => (hvs.2 v hvm).1) (fun v hvm => (hvs.2 v hvm).2) hb
   have hin70 : ∀ K, ∀ x ∈ [prt (-1) sp b svs, prt 1 sp b svs], In K x := fun K x hx => by
    simp only [List.mem_cons, List.not_mem_nil, or_false] at hx
    rcases hx with rfl | rfl <;> exact prt_in _ _ _ _
   have hin70 := hin70 (fun _ => False)
   have pa := partI_len (-1) b svs
   have pb := partI_len 1 b svs
   simp only [eG] at es1
   unfold prt at c70x hin70
   clear hv hm hcap hcap2 hkb hvs hf hbh
   cases hA : someT (-1) b svs svs.length <;> cases hB : someT 1 b svs svs.length
   ·have hL : True := trivial
    have hM : True := trivial
    simp only [hA, hB, reduceIte, Bool.false_eq_true, List.append_nil] at hL2 hM2 c70x hin70
    repeat' (first | refine zg ?_ | refine AW.drawP ymix ?_ | (refine AW.cond rfl ?_ ?_ <;> intro hc <;> first | (cases hc; done) | simp only [NM] at hc | skip <;> try (exfalso; omega)) | (refine zr ?_; simp -dsimp (disch := try exact zo) only [go_sem, hl, es1, List.length_map, Int.toNat_natCast, eS_in, eP_in, hlL, hlM] <;> try rfl) | (refine callV.plain _ yfn_70 c70x (by simp -dsimp (disch := try exact zo) only [go_sem, eP_in]) (.tup _ hin70) ?_) | (first | (refine keepV (by decide) (fun _ => inG0 _) (c69bR (by decide) L (by omega)) rfl rfl ?_) | (refine keepV (by decide) (fun _ => inG0 _) (c69bR (by decide) M (by omega)) rfl rfl ?_)) | refine ⟨by omega, ?_⟩ | (refine zb ?_ ?_ <;> intro hg <;> (try simp only [NB] at hg) <;> (try rw [hg]) <;> try simp only [NM] at hg) | omega | simp -dsimp (disch := try exact zo) only [go_sem, hl, es1, List.length_map, Int.toNat_natCast, eS_in, eP_in, hlL, hlM] | contradiction)
    all_goals exact AW.stop ⟨⟨i + 1, by omega⟩, (Weak.t4 (by refine ⟨?_, ?_, ?_, ?_⟩ <;> first | (simp -dsimp (disch := try exact zo) only [go_sem, hL2, hM2, List.length_append, Int.natCast_add, Int.cast_ofNat_Int, hlL, hlM, List.length_map]; done) | (simp -dsimp (disch := try exact zo) only [go_sem, eS_in, eP_in, Int.natCast_add, Int.cast_ofNat_Int]; done))), by dsimp only; omega⟩
   ·have hL : True := trivial
    have hM := some_ne (h := 1) (by decide) hB
    simp only [hA, hB, reduceIte, Bool.false_eq_true, List.append_nil] at hL2 hM2 c70x hin70
    repeat' (first | refine zg ?_ | refine AW.drawP ymix ?_ | (refine AW.cond rfl ?_ ?_ <;> intro hc <;> first | (cases hc; done) | simp only [NM] at hc | skip <;> try (exfalso; omega)) | (refine zr ?_; simp -dsimp (disch := try exact zo) only [go_sem, hl, es1, List.length_map, Int.toNat_natCast, eS_in, eP_in, hlL, hlM] <;> try rfl) | (refine callV.plain _ yfn_70 c70x (by simp -dsimp (disch := try exact zo) only [go_sem, eP_in]) (.tup _ hin70) ?_) | (first | (refine keepV (by decide) (fun _ => inG0 _) (c69bR (by decide) L (by omega)) rfl rfl ?_) | (refine keepV (by decide) (fun _ => (capFlat _ _).in) (c69aR (by decide) M (by omega) sp (partI (1) b svs) hM (by omega)) rfl rfl ?_)) | refine ⟨by omega, ?_⟩ | (refine zb ?_ ?_ <;> intro hg <;> (try simp only [NB] at hg) <;> (try rw [hg]) <;> try simp only [NM] at hg) | omega | simp -dsimp (disch := try exact zo) only [go_sem, hl, es1, List.length_map, Int.toNat_natCast, eS_in, eP_in, hlL, hlM] | contradiction)
    all_goals exact AW.stop ⟨⟨i + 1, by omega⟩, (Weak.t4 (by refine ⟨?_, ?_, ?_, ?_⟩ <;> first | (simp -dsimp (disch := try exact zo) only [go_sem, hL2, hM2, List.length_append, Int.natCast_add, Int.cast_ofNat_Int, hlL, hlM, List.length_map]; done) | (simp -dsimp (disch := try exact zo) only [go_sem, eS_in, eP_in, Int.natCast_add, Int.cast_ofNat_Int]; done))), by dsimp only; omega⟩
   ·have hL := some_ne (h := -1) (by decide) hA
    have hM : True := trivial
    simp only [hA, hB, reduceIte, Bool.false_eq_true, List.append_nil] at hL2 hM2 c70x hin70
    repeat' (first | refine zg ?_ | refine AW.drawP ymix ?_ | (refine AW.cond rfl ?_ ?_ <;> intro hc <;> first | (cases hc; done) | simp only [NM] at hc | skip <;> try (exfalso; omega)) | (refine zr ?_; simp -dsimp (disch := try exact zo) only [go_sem, hl, es1, List.length_map, Int.toNat_natCast, eS_in, eP_in, hlL, hlM] <;> try rfl) | (refine callV.plain _ yfn_70 c70x (by simp -dsimp (disch := try exact zo) only [go_sem, eP_in]) (.tup _ hin70) ?_) | (first | (refine keepV (by decide) (fun _ => (capFlat _ _).in) (c69aR (by decide) L (by omega) sp (partI (-1) b svs) hL (by omega)) rfl rfl ?_) | (refine keepV (by decide) (fun _ => inG0 _) (c69bR (by decide) M (by omega)) rfl rfl ?_)) | refine ⟨by omega, ?_⟩ | (refine zb ?_ ?_ <;> intro hg <;> (try simp only [NB] at hg) <;> (try rw [hg]) <;> try simp only [NM] at hg) | omega | simp -dsimp (disch := try exact zo) only [go_sem, hl, es1, List.length_map, Int.toNat_natCast, eS_in, eP_in, hlL, hlM] | contradiction)
    all_goals exact AW.stop ⟨⟨i + 1, by omega⟩, (Weak.t4 (by refine ⟨?_, ?_, ?_, ?_⟩ <;> first | (simp -dsimp (disch := try exact zo) only [go_sem, hL2, hM2, List.length_append, Int.natCast_add, Int.cast_ofNat_Int, hlL, hlM, List.length_map]; done) | (simp -dsimp (disch := try exact zo) only [go_sem, eS_in, eP_in, Int.natCast_add, Int.cast_ofNat_Int]; done))), by dsimp only; omega⟩
   ·have hL := some_ne (h := -1) (by decide) hA
    have hM := some_ne (h := 1) (by decide) hB
    simp only [hA, hB, reduceIte, Bool.false_eq_true, List.append_nil] at hL2 hM2 c70x hin70
    repeat' (first | refine zg ?_ | refine AW.drawP ymix ?_ | (refine AW.cond rfl ?_ ?_ <;> intro hc <;> first | (cases hc; done) | simp only [NM] at hc | skip <;> try (exfalso; omega)) | (refine zr ?_; simp -dsimp (disch := try exact zo) only [go_sem, hl, es1, List.length_map, Int.toNat_natCast, eS_in, eP_in, hlL, hlM] <;> try rfl) | (refine callV.plain _ yfn_70 c70x (by simp -dsimp (disch := try exact zo) only [go_sem, eP_in]) (.tup _ hin70) ?_) | (first | (refine keepV (by decide) (fun _ => (capFlat _ _).in) (c69aR (by decide) L (by omega) sp (partI (-1) b svs) hL (by omega)) rfl rfl ?_) | (refine keepV (by decide) (fun _ => (capFlat _ _).in) (c69aR (by decide) M (by omega) sp (partI (1) b svs) hM (by omega)) rfl rfl ?_)) | refine ⟨by omega, ?_⟩ | (refine zb ?_ ?_ <;> intro hg <;> (try simp only [NB] at hg) <;> (try rw [hg]) <;> try simp only [NM] at hg) | omega | simp -dsimp (disch := try exact zo) only [go_sem, hl, es1, List.length_map, Int.toNat_natCast, eS_in, eP_in, hlL, hlM] | contradiction)
    all_goals exact AW.stop ⟨⟨i + 1, by omega⟩, (Weak.t4 (by refine ⟨?_, ?_, ?_, ?_⟩ <;> first | (simp -dsimp (disch := try exact zo) only [go_sem, hL2, hM2, List.length_append, Int.natCast_add, Int.cast_ofNat_Int, hlL, hlM, List.length_map]; done) | (simp -dsimp (disch := try exact zo) only [go_sem, eS_in, eP_in, Int.natCast_add, Int.cast_ofNat_Int]; done))), by dsimp only; omega⟩
  ·have hil : i = l.length := by omega
   subst hil
   rw [List.take_length]
   have hLn := kept_len (-1) b l
   have hMn := kept_len 1 b l
   have kL := hkb (-1)
   have kM := hkb 1
   clear hv hm hf hbh hkb
   generalize kept (-1) b l = L at *
   generalize kept 1 b l = M at *
   have hlL : (eS L).length = L.length := List.length_map _
   have hlM : (eS M).length = M.length := List.length_map _
   have cA := c71 L b hb (by omega) kL hcap
   have cB := c71 M (negP b) hb.neg (by omega) kM hcap2
   have hbwL := bw_tl hlL
   have hbwM := bw_tl hlM
   have hbL : eS L ++ [eG b (capP b L)] = eS (L ++ [(b, capP b L)]) := (eS_one _ _ _).symm
   have hbM : eS M ++ [eG (negP b) (capP (negP b) M)] = eS (M ++ [(negP b, capP (negP b) M)]) := (eS_one _ _ _).symm
   have hfL : (eS (L ++ [(b, capP b L)])).take (L.length + 1) = eS (L ++ [(b, capP b L)]) := List.take_of_length_le (by simp)
   have hfM : (eS (M ++ [(negP b, capP (negP b) M)])).take (M.length + 1) = eS (M ++ [(negP b, capP (negP b) M)]) := List.take_of_length_le (by simp)
   have hpL : (0 < L.length + 1) = True := by simp
   have hpM : (0 < M.length + 1) = True := by simp
   generalize capP b L = cl at *
   generalize capP (negP b) M = cm at *
   clear kL kM hcap hcap2
   repeat' (first | refine zg ?_ | refine AW.drawP ymix ?_ | (refine AW.cond rfl ?_ ?_ <;> intro hc <;> first | (cases hc; done) | simp only [NM] at hc | skip <;> try (exfalso; omega)) | (refine zr ?_; simp -dsimp (disch := try exact zo) only [go_sem, hl, List.length_map, eS_in, eP_in, hlL, hlM, hbL, hbM, hfL, hfM, hpL, hpM] <;> try rfl) | (first | refine callV.new _ yfn_71 (by simp -dsimp (disch := try exact zo) only [go_sem, hlL, hbwL, hbwM]; exact cA) (by simp -dsimp (disch := try exact zo) only [go_sem, eS_in, hlL, hbwL]) (capFlat _ _).in ?_ | refine callV.new _ yfn_71 (by simp -dsimp (disch := try exact zo) only [go_sem, hlM, hbwL, hbwM]; exact cB) (by simp -dsimp (disch := try exact zo) only [go_sem, eS_in, hlM, hbwM]) (capFlat _ _).in ?_) | (refine callV.flat _ yfn_22 (c22 b hb) rfl rfl ?_) | refine ⟨by omega, ?_⟩ | (refine zb ?_ ?_ <;> intro hg <;> (try simp only [NB] at hg) <;> (try rw [hg]) <;> try simp only [NM] at hg) | omega | simp -dsimp (disch := try exact zo) only [go_sem, hl, List.length_map, eS_in, eP_in, hlL, hlM, hbL, hbM, hfL, hfM, hpL, hpM] | contradiction)
end Go.Proofs.Vx
namespace Go.Proofs.Vx
open Go Go.Sx Go.Proofs
attribute [local irreducible] fnT CallOK CallFr AW effV callV runP runO oneP oneO gcaseP hid
theorem corners_len {S M : Nat} {l : PCell} (h : ∀ s ∈ l, s.2.length ≤ M) (hn : l.length ≤ S) : (cornersP l).length ≤ S * M := by
 have key : (cornersP l).length ≤ l.length * M := by
  clear hn
  induction l with
  | nil => simp [cornersP]
  | cons s l ih =>
   have h1 := h s (by simp)
   have h2 := ih fun t ht => h t (by simp [ht])
   simp only [cornersP, List.flatMap_cons, List.length_append, List.length_cons, Nat.add_mul, Nat.one_mul] at h2 ⊢
   omega
 exact Nat.le_trans key (Nat.mul_le_mul_right _ hn)
abbrev BdC (l : PCell) : Prop := Bd 64 4096 100000 l
theorem hv_of {l : PCell} (hc : CanC l) (h : BdC l) : ∀ s ∈ l, s.2.length ≤ 268435456 ∧ ∀ v ∈ s.2, CanP v ∧ BPt 1073741824 v := fun s hs => ⟨Nat.le_trans (h.m s hs) (by decide), fun v hv => ⟨hc.can s hs v hv, (h.k s hs v hv).mono (by decide)⟩⟩
theorem c27x (l : PCell) (hc : CanC l) (h : BdC l) : CallOK Tryz.prog 27 [.agg [.sl (eS l)]] [] (.sl ((vertsP l).map eP)) [] :=
 c27 l (Nat.le_trans h.n (by decide)) (hv_of hc h) (Nat.le_trans (corners_len h.m h.n) (by decide))
theorem c21x (l : PCell) (b : Pl) (hc : OkC l) (h : BdC l) (hb : BPl 100000 b) : CallOK Tryz.prog 21 [.agg [.sl (eS l)], .agg (eH b)] [] (.tup [.agg [.sl (eS (splitP b l).1)], .agg [.sl (eS (splitP b l).2)]]) [] := by
 have hb' := hb.mono (show 100000 ≤ 1073741824 by decide)
 have hn : l.length ≤ 1048576 := Nat.le_trans h.n (by decide)
 have hm : (cornersP l).length ≤ 268435456 := Nat.le_trans (corners_len h.m h.n) (by decide)
 have hv := hv_of hc.can h
 by_cases hf : frontB b l = false
 ·have e : splitP b l = (l, []) := by unfold splitP; rw [if_pos hf]
  rw [e]
  exact (c21a l b hb' hn hv hm hf).wk fun g v => rel_pair (fun v h => h) fun v h => rel_cell0 h
 ·have hf' : frontB b l = true := by simpa using hf
  by_cases hbh : behindB b l = false
  ·have e : splitP b l = ([], l) := by unfold splitP; rw [if_neg hf, if_pos hbh]
   rw [e]
   exact (c21b l b hb' hn hv hm hf' hbh).wk fun g v => rel_pair (fun v h => rel_cell0 h) fun v h => h
  ·have hb2 : behindB b l = true := by simpa using hbh
   have hco : CellOK l := hc.elim (fun e => by subst e; simp [frontB] at hf') id
   have e : splitP b l = (bcell b l, bcell (negP b) l) := by unfold splitP; rw [if_neg hf, if_neg hbh]
   have S1 := spl_of hco hf' hb2
   have S2 := spl_of (b := negP b) hco (by rw [front_neg]; exact hb2) (by rw [behind_neg]; exact hf')
   have B1 := bh_bd h hb
   have B2 := bh_bd h hb.neg
   have k2 := kept_bh' (b := b) hco.toCanC
   have C1 := (cap_ok3 hco S1).2.2.2
   have C2 := (cap_ok3 hco S2).2.2.2
   have := c21c l b hb' hn hv hm (fun s hs => Nat.le_trans (h.m s hs) (by decide)) (Nat.le_trans h.n (by decide)) (by rw [kept_bh]; have := B1.n; omega) (by rw [k2]; have := B2.n; omega) (by
    intro hh s hs
    have hp : s.2.length ≤ 2 * 4096 ∧ ∀ v ∈ s.2, BPt (100000 + 2 * 100000 + 4) v := by
     obtain ⟨t, ht, e⟩ := List.mem_filterMap.1 hs
     by_cases hq : someT hh b t.2 t.2.length = true
     ·rw [if_pos hq] at e
      obtain rfl := Option.some.inj e
      refine ⟨?_, partI_bs hb (h.k t ht)⟩
      have := partI_len hh b t.2
      have := h.m t ht
      show (partI hh b t.2).length ≤ _
      omega
     ·rw [if_neg hq] at e; contradiction
    exact ⟨Nat.le_trans hp.1 (by decide), fun v hv => (hp.2 v hv).mono (by decide)⟩) hf' hb2
   rw [e]
   rw [kept_bh, k2] at this
   exact this
end Go.Proofs.Vx
