import Derived.Test.YtjlfgmhmalbiiaaGreatDoorProg
import Derived.Test.YtjlfgmhmalbiiaaGreatDoorT10
import Derived.Test.YtjlfgmhmalbiiaaGreatDoorT13
import Derived.Test.YtjlfgmhmalbiiaaGreatDoorT28
set_option linter.all false
namespace Go.Proofs.Vx
open Go Go.Sx Go.Proofs
attribute [local irreducible] fnT CallOK CallFr AW effV callV runP runO oneP oneO gcaseP hid
theorem three_ne : ((3 : Int) : Rat) ≠ 0 := by decide
theorem three_qs : Qs 17179869184 ((3 : Int) : Rat) := ⟨Nat.le_trans ((Zm_size 3 1).2 (by decide)) (by decide), by show (nb 1).size ≤ _; rw [nb_one]; decide⟩
theorem two_qs1 : Qs 1 ((2 : Int) : Rat) := ⟨(Zm_size 2 1).2 (by decide), by show (nb 1).size ≤ _; rw [nb_one]; decide⟩
theorem areaP_qs {vs : List Pt} (hv : ∀ v ∈ vs, CanP v ∧ BPt 2000 v) (hn : vs.length ≤ 1024) : QV 16400000 (areaP vs) := by
 have h := areaT_qs hv vs.length (Nat.le_refl _)
 rw [areaT_all] at h
 have hb := aB_eq vs.length
 exact ⟨(h.x.div two_qs1 two_ne).mono (by omega), (h.y.div two_qs1 two_ne).mono (by omega), (h.z.div two_qs1 two_ne).mono (by omega)⟩
def vB : Nat → Nat
 | 0 => 1
 | n + 1 => vB n + 49206009
theorem vB_eq (n : Nat) : vB n = 49206009 * n + 1 := by
 induction n with
 | zero => rfl
 | succ n ih => rw [vB, ih]; omega
def volT (l : PCell) (i : Nat) : Rat := (l.take i).foldl volS 0
theorem volT_zero (l : PCell) : volT l 0 = 0 := rfl
theorem volT_succ (l : PCell) (i : Nat) (h : i < l.length) : volT l (i + 1) = volS (volT l i) l[i] := by
 unfold volT
 rw [List.take_succ_eq_append_getElem h, List.foldl_append]
 rfl
theorem hd_qs {vs : List Pt} {k : Nat} (hk : 1 ≤ k) (hv : ∀ v ∈ vs, CanP v ∧ BPt k v) : QV k (hd vs) := by
 cases vs with
 | nil => exact zero_qs hk
 | cons v vs => exact tv_qs (hv v (by simp)).1 (hv v (by simp)).2
theorem volT_qs {l : PCell} (hl : ∀ s ∈ l, s.2.length ≤ 1024 ∧ ∀ v ∈ s.2, CanP v ∧ BPt 2000 v) (i : Nat) (hi : i ≤ l.length) : Qs (vB i) (volT l i) := by
 induction i with
 | zero => exact (zero_qs (Nat.le_refl 1)).x
 | succ i ih =>
  have h : i < l.length := by omega
  have h0 := ih (by omega)
  obtain ⟨h1, h2⟩ := hl _ (List.getElem_mem h)
  rw [volT_succ l i h]
  unfold volS
  split
  ·exact h0.mono (by rw [vB]; omega)
  ·have a := areaP_qs h2 h1
   have d := hd_qs (by decide) h2
   exact (((h0.add (a.x.mul d.x)).add (a.y.mul d.y)).add (a.z.mul d.z)).mono (by rw [vB]; omega)
abbrev BdV (l : PCell) : Prop := Bd 32 1024 2000 l
theorem flatEV (a b c : Rat) : Flat (.agg (eV a b c)) := .agg _ (by intro x hx; simp only [eV, List.mem_cons, List.not_mem_nil, or_false] at hx; rcases hx with rfl | rfl | rfl | rfl | rfl | rfl | rfl | rfl | rfl <;> exact .lit _)
set_option maxHeartbeats 40000000 in
theorem c24 (l : PCell) (hc : CanC l) (hB : BdV l) : CallOK Tryz.prog 24 [.agg [.sl (eS l)]] [] (.agg (eQ (volP l))) [] := by
 refine CallOK.flat Tryz.func24 rfl 49 rfl rfl rfl [.cell 2 41] (congrArg Array.toList Tryz.results24) ?_
 simp only [startT, Nat.reduceAdd]
 have hml : maxLen = 9223372036854775807 := rfl
 have hl : (eS l).length = l.length := List.length_map _
 have hln := hB.n
 have hv : ∀ s ∈ l, s.2.length ≤ 1024 ∧ ∀ v ∈ s.2, CanP v ∧ BPt 2000 v := fun s hs => ⟨hB.m s hs, fun v hv => ⟨hc.can s hs v hv, hB.k s hs v hv⟩⟩
 clear hB hc
 repeat' (first | refine zg ?_ | refine AW.drawP ymix ?_ | (refine AW.cond rfl ?_ ?_ <;> intro hc <;> first | (cases hc; done) | simp only [NM] at hc | skip <;> try (exfalso; omega)) | (refine zr ?_; simp -dsimp (disch := try exact zo) only [go_sem, hl] <;> try rfl) | refine ⟨by omega, ?_⟩ | (refine zb ?_ ?_ <;> intro hg <;> (try simp only [NB] at hg) <;> (try rw [hg]) <;> try simp only [NM] at hg) | omega | simp -dsimp (disch := try exact zo) only [go_sem, hl] | contradiction)
 refine AW.loop (fun z : {i : Nat // i ≤ l.length} => ⟨[(14, .lit (.int .i64 z.1)), (13, .lit (.int .i64 l.length)), (12, .sl (eS l)), (1, .loc 8 0), (2, .loc 9 0), (3, .loc 10 0)], [(8, .blk [.sl (eS l)]), (9, .blk [.lit (.bool false), .lit (.string ⟨#[]⟩), .lit (.string ⟨#[]⟩)]), (10, .blk (eQ (volT l z.1)))], 60⟩) (fun z => l.length - z.1) ⟨0, Nat.zero_le _⟩ (Weak.t4 (by refine ⟨?_, ?_, ?_, ?_⟩ <;> simp -dsimp (disch := try exact zo) only [go_sem, volT_zero, eQ, Zz, Zmz, Qz, eS_in, eP_in, Int.natCast_add, Int.cast_ofNat_Int])) ?_
 rintro ⟨i, hi⟩
 dsimp only
 have hs := volT_qs hv i hi
 have hb := vB_eq i
 have hs' := hs.mono (show vB i ≤ 17179869184 by omega)
 by_cases hlt : i < l.length
 ·have es1 := eS_getD l i hlt
  have hst0 := volT_succ l i hlt
  obtain ⟨hvn, hvv⟩ := hv _ (List.getElem_mem hlt)
  clear hv
  generalize l[i] = sd at *
  obtain ⟨sp, svs⟩ := sd
  dsimp only at es1 hvn hvv
  generalize volT l i = A at *
  cases svs with
  | nil =>
   have hst : volT l (i + 1) = A := hst0
   simp only [eG, List.map_nil] at es1
   clear hst0 hs hb
   repeat' (first | refine zg ?_ | refine AW.drawP ymix ?_ | refine AW.unroll 6 ?_ | (refine AW.cond rfl ?_ ?_ <;> intro hc <;> first | (cases hc; done) | simp only [NM] at hc | skip <;> try (exfalso; omega)) | (refine zr ?_; simp -dsimp (disch := try exact zo) only [go_sem, hl, es1, List.map_nil, List.length_nil, Int.toNat_natCast, eS_in, eP_in] <;> try rfl) | refine ⟨by omega, ?_⟩ | (refine zb ?_ ?_ <;> intro hg <;> (try simp only [NB] at hg) <;> (try rw [hg]) <;> try simp only [NM] at hg) | omega | simp -dsimp (disch := try exact zo) only [go_sem, hl, es1, List.map_nil, List.length_nil, Int.toNat_natCast, eS_in, eP_in] | contradiction)
   all_goals exact AW.stop ⟨⟨i + 1, by omega⟩, (Weak.t4 (by refine ⟨?_, ?_, ?_, ?_⟩ <;> simp -dsimp (disch := try exact zo) only [go_sem, eS_in, eP_in, hst, Int.natCast_add, Int.cast_ofNat_Int])), by dsimp only; omega⟩
  | cons v0 vt =>
   have hst : volT l (i + 1) = A + (areaP (v0 :: vt)).x * (tv v0).x + (areaP (v0 :: vt)).y * (tv v0).y + (areaP (v0 :: vt)).z * (tv v0).z := by rw [hst0]; rfl
   have hnp : 0 < (v0 :: vt).length := by simp
   have c78v := c78 sp (v0 :: vt) hvn hnp hvv
   have hc0 := hvv v0 (by simp)
   have c77v := c77t v0 hc0.1 (hc0.2.mono (by decide))
   have ha := areaP_qs hvv hvn
   have hh := tv_qs hc0.1 hc0.2
   have e0 : ((v0 :: vt).map eP).getD 0 [] = eP v0 := rfl
   have hvl : ((v0 :: vt).map eP).length = (v0 :: vt).length := List.length_map _
   clear hst0 hvv hc0
   generalize areaP (v0 :: vt) = R at *
   generalize hq : v0 :: vt = vs at *
   obtain ⟨a1, a2, a3⟩ := ha
   obtain ⟨h1, h2, h3⟩ := hh
   generalize R.x = R1 at *
   generalize R.y = R2 at *
   generalize R.z = R3 at *
   generalize (tv v0).x = H1 at *
   generalize (tv v0).y = H2 at *
   generalize (tv v0).z = H3 at *
   have m1 := (a1.mul h1).mono (show _ ≤ 17179869184 by omega)
   have m2 := (a2.mul h2).mono (show _ ≤ 17179869184 by omega)
   have m3 := (a3.mul h3).mono (show _ ≤ 17179869184 by omega)
   have t1 := (hs.add (a1.mul h1)).mono (show _ ≤ 17179869184 by omega)
   have t2 := ((hs.add (a1.mul h1)).add (a2.mul h2)).mono (show _ ≤ 17179869184 by omega)
   have a1' := a1.mono (show _ ≤ 17179869184 by omega)
   have a2' := a2.mono (show _ ≤ 17179869184 by omega)
   have a3' := a3.mono (show _ ≤ 17179869184 by omega)
   have h1' := h1.mono (show _ ≤ 17179869184 by omega)
   have h2' := h2.mono (show _ ≤ 17179869184 by omega)
   have h3' := h3.mono (show _ ≤ 17179869184 by omega)
   simp only [eG] at es1
   simp only [eP, e4] at e0
   clear hs hb a1 a2 a3 h1 h2 h3
   repeat' (first | refine zg ?_ | refine AW.drawP ymix ?_ | refine AW.unroll 6 ?_ | (refine AW.cond rfl ?_ ?_ <;> intro hc <;> first | (cases hc; done) | simp only [NM] at hc | skip <;> try (exfalso; omega)) | (refine zr ?_; simp -dsimp (disch := try exact zo) only [go_sem, hl, es1, hvl, e0, List.length_map, Int.toNat_natCast, eS_in, eP_in] <;> try rfl) | (refine callV.flat _ yfn_77 c77v rfl rfl ?_) | (refine callV.plain _ yfn_78 c78v (by simp -dsimp (disch := try exact zo) only [go_sem, eP_in]) (flatEV _ _ _).in ?_) | (refine callV.flat _ yfn_79 (c79 _ _ (by assumption) (by assumption)) rfl rfl ?_) | (refine callV.flat _ yfn_25 (c25 _ _ (by assumption) (by assumption)) rfl rfl ?_) | refine ⟨by omega, ?_⟩ | (refine zb ?_ ?_ <;> intro hg <;> (try simp only [NB] at hg) <;> (try rw [hg]) <;> try simp only [NM] at hg) | omega | simp -dsimp (disch := try exact zo) only [go_sem, hl, es1, hvl, e0, List.length_map, Int.toNat_natCast, eS_in, eP_in] | contradiction)
   all_goals exact AW.stop ⟨⟨i + 1, by omega⟩, (Weak.t4 (by refine ⟨?_, ?_, ?_, ?_⟩ <;> simp -dsimp (disch := try exact zo) only [go_sem, eS_in, eP_in, hst, Int.natCast_add, Int.cast_ofNat_Int])), by dsimp only; omega⟩
 ·have hil : i = l.length := by omega
  subst hil
  have hT : volT l l.length = l.foldl volS 0 := by unfold volT; rw [List.take_length]
  have hr : volP l = volT l l.length / ((3 : Int) : Rat) := by rw [hT]; rfl
  rw [hr]
  clear hr hT hv hs hb
  have q3 := three_qs
  generalize volT l l.length = A at *
  repeat' (first | refine zg ?_ | refine AW.drawP ymix ?_ | (refine AW.cond rfl ?_ ?_ <;> intro hc <;> first | (cases hc; done) | simp only [NM] at hc | skip <;> try (exfalso; omega)) | (refine zr ?_; simp -dsimp (disch := try exact zo) only [go_sem, hl] <;> try rfl) | (refine callV.flat _ yfn_68 (c68 3 (by decide)) rfl rfl ?_) | (refine callV.flat _ yfn_80 (c80 _ _ (by assumption) (by assumption) three_ne) rfl rfl ?_) | refine ⟨by omega, ?_⟩ | (refine zb ?_ ?_ <;> intro hg <;> (try simp only [NB] at hg) <;> (try rw [hg]) <;> try simp only [NM] at hg) | omega | simp -dsimp (disch := try exact zo) only [go_sem, hl] | contradiction)
end Go.Proofs.Vx
namespace Go.Proofs.Vx
open Go Go.Sx Go.Proofs
attribute [local irreducible] fnT CallOK CallFr AW effV callV runP runO oneP oneO gcaseP hid
theorem yqq_Nx34 : agT Tryz.prog 140 = some true ∧ agT Tryz.prog 141 = some true ∧ arT Tryz.prog 140 = some (3, 1, false) ∧ arT Tryz.prog 141 = some (4, 3, true) ∧ strT Tryz.prog 140 = false ∧ strT Tryz.prog 141 = false ∧ szT Tryz.prog 140 = some 3 ∧ szT Tryz.prog 141 = some 12 ∧ zeT Tryz.prog 140 = some [.lit (.int .i64 0), .lit (.int .i64 0), .lit (.int .i64 0)] := by and_intros <;> kernel_rfl
attribute [go_sem] yqq_Nx34
theorem yfn_57 : fnT Tryz.prog 57 = true := by kernel_rfl
theorem yfn_121 : fnT Tryz.prog 121 = true := by kernel_rfl
theorem yfn_122 : fnT Tryz.prog 122 = true := by kernel_rfl
theorem wpt_can (a b c : Int) : CanP (wpt a b c) := ⟨by show (0 : Int) < 1; decide, by show g4 (1000 * a) (1000 * b) (1000 * c) 1 = 1; unfold g4; exact Nat.gcd_one_right _⟩
theorem mkW (a b c : Int) : mkP ((a * 1000 : Int) : Rat) ((b * 1000 : Int) : Rat) ((c * 1000 : Int) : Rat) = wpt a b c := by
 refine tv_inj (mkP_can _ _ _) (wpt_can a b c) ?_
 rw [tv_mkP]
 have e : ∀ x : Int, ((x * 1000 : Int) : Rat) = ((1000 * x : Int) : Rat) / ((1 : Int) : Rat) := fun x => by
  rw [Int.mul_comm]
  have : ((1 : Int) : Rat) = 1 := rfl
  rw [this]
  grind
 rw [e a, e b, e c]
 rfl
theorem w_rg {a : Int} (h : a = 1 ∨ a = -1) : -9223372036854775808 ≤ a * 1000 ∧ a * 1000 < 9223372036854775808 := by omega
theorem w_wr {a : Int} (h : a = 1 ∨ a = -1) : IntKind.i64.wrap (a * 1000) = a * 1000 := wrap64 (by omega) (by omega)
theorem w_qs {a : Int} (h : a = 1 ∨ a = -1) : Qs 1073741824 ((a * 1000 : Int) : Rat) := by
 refine ⟨?_, by show (nb 1).size ≤ _; rw [nb_one]; decide⟩
 rcases h with rfl | rfl
 ·exact Nat.le_trans ((Zm_size 1000 2).2 (by decide)) (by decide)
 ·exact Nat.le_trans ((Zm_size (-1000) 2).2 (by decide)) (by decide)
set_option maxRecDepth 20000 in
set_option maxHeartbeats 40000000 in
theorem c122 (p : Pl) (a0 b0 c0 a1 b1 c1 a2 b2 c2 a3 b3 c3 : Int) (ha0 : a0 = 1 ∨ a0 = -1) (hb0 : b0 = 1 ∨ b0 = -1) (hc0 : c0 = 1 ∨ c0 = -1) (ha1 : a1 = 1 ∨ a1 = -1) (hb1 : b1 = 1 ∨ b1 = -1) (hc1 : c1 = 1 ∨ c1 = -1) (ha2 : a2 = 1 ∨ a2 = -1) (hb2 : b2 = 1 ∨ b2 = -1) (hc2 : c2 = 1 ∨ c2 = -1) (ha3 : a3 = 1 ∨ a3 = -1) (hb3 : b3 = 1 ∨ b3 = -1) (hc3 : c3 = 1 ∨ c3 = -1) : CallNw Tryz.prog 122 [.agg (eH p), .agg [.lit (.int .i64 a0), .lit (.int .i64 b0), .lit (.int .i64 c0), .lit (.int .i64 a1), .lit (.int .i64 b1), .lit (.int .i64 c1), .lit (.int .i64 a2), .lit (.int .i64 b2), .lit (.int .i64 c2), .lit (.int .i64 a3), .lit (.int .i64 b3), .lit (.int .i64 c3)]] (.agg (eG p [wpt a0 b0 c0, wpt a1 b1 c1, wpt a2 b2 c2, wpt a3 b3 c3])) := by
 refine CallNw.flat Tryz.func122 rfl 37 rfl rfl (capFlat _ _) [.cell 4 58] (congrArg Array.toList Tryz.results122) ?_
 simp only [startT, Nat.reduceAdd]
 have hml : maxLen = 9223372036854775807 := rfl
 have qa0 := w_qs ha0
 have ra0 := w_rg ha0
 have wa0 := w_wr ha0
 clear ha0
 have qb0 := w_qs hb0
 have rb0 := w_rg hb0
 have wb0 := w_wr hb0
 clear hb0
 have qc0 := w_qs hc0
 have rc0 := w_rg hc0
 have wc0 := w_wr hc0
 clear hc0
 have qa1 := w_qs ha1
 have ra1 := w_rg ha1
 have wa1 := w_wr ha1
 clear ha1
 have qb1 := w_qs hb1
 have rb1 := w_rg hb1
 have wb1 := w_wr hb1
 clear hb1
 have qc1 := w_qs hc1
 have rc1 := w_rg hc1
 have wc1 := w_wr hc1
 clear hc1
 have qa2 := w_qs ha2
 have ra2 := w_rg ha2
 have wa2 := w_wr ha2
 clear ha2
 have qb2 := w_qs hb2
 have rb2 := w_rg hb2
 have wb2 := w_wr hb2
 clear hb2
 have qc2 := w_qs hc2
 have rc2 := w_rg hc2
 have wc2 := w_wr hc2
 clear hc2
 have qa3 := w_qs ha3
 have ra3 := w_rg ha3
 have wa3 := w_wr ha3
 clear ha3
 have qb3 := w_qs hb3
 have rb3 := w_rg hb3
 have wb3 := w_wr hb3
 clear hb3
 have qc3 := w_qs hc3
 have rc3 := w_rg hc3
 have wc3 := w_wr hc3
 clear hc3
 repeat' (first | refine zg ?_ | refine AW.drawP ymix ?_ | (refine AW.cond rfl ?_ ?_ <;> intro hc <;> first | (cases hc; done) | simp only [NM] at hc | skip) | (refine zr ?_; simp -dsimp (disch := try exact zo) only [go_sem] <;> try rfl) | refine ⟨by omega, ?_⟩ | (refine zb ?_ ?_ <;> intro hg <;> (try simp only [NB] at hg) <;> (try rw [hg]) <;> try simp only [NM] at hg) | omega | simp -dsimp (disch := try exact zo) only [go_sem] | contradiction)
 refine AW.weak (Weak.nilB 13 8 8 _ (by decide) rfl (by simp) rfl (by simp)) ?_
 refine AW.weak (show Weak _ ⟨[(14, .lit (.int .i64 0)), (13, .agg [.lit (.int .i64 a0), .lit (.int .i64 b0), .lit (.int .i64 c0), .lit (.int .i64 a1), .lit (.int .i64 b1), .lit (.int .i64 c1), .lit (.int .i64 a2), .lit (.int .i64 b2), .lit (.int .i64 c2), .lit (.int .i64 a3), .lit (.int .i64 b3), .lit (.int .i64 c3)]), (5, .loc 13 0), (4, .loc 10 0)], [(13, .blk [.lit (.bool (Zn p.a)), .lit (.string (Zm p.a)), .lit (.bool (Zn p.b)), .lit (.string (Zm p.b)), .lit (.bool (Zn p.c)), .lit (.string (Zm p.c)), .lit (.bool (Zn p.d)), .lit (.string (Zm p.d)), .ref 17 0 0 0]), (17, .vec 8 ([] : List (List AV))), (10, .blk eG0)], 30⟩ from (Weak.t4 (by refine ⟨?_, ?_, ?_, ?_⟩ <;> simp -dsimp (disch := try exact zo) only [go_sem, Int.natCast_add, Int.cast_ofNat_Int]))) ?_
 repeat' (first | refine zg ?_ | refine AW.drawP ymix ?_ | refine AW.unroll 6 ?_ | (refine AW.cond rfl ?_ ?_ <;> intro hc <;> first | (cases hc; done) | simp only [NM] at hc | skip) | (refine zn ?_; simp -dsimp (disch := try exact zo) only [go_sem, mkW, wa0, wb0, wc0, wa1, wb1, wc1, wa2, wb2, wc2, wa3, wb3, wc3] <;> try rfl) | (first | refine callV.flat _ yfn_68 (c68 (a0 * 1000) ra0) rfl rfl ?_ | refine callV.flat _ yfn_68 (c68 (b0 * 1000) rb0) rfl rfl ?_ | refine callV.flat _ yfn_68 (c68 (c0 * 1000) rc0) rfl rfl ?_ | refine callV.flat _ yfn_68 (c68 (a1 * 1000) ra1) rfl rfl ?_ | refine callV.flat _ yfn_68 (c68 (b1 * 1000) rb1) rfl rfl ?_ | refine callV.flat _ yfn_68 (c68 (c1 * 1000) rc1) rfl rfl ?_ | refine callV.flat _ yfn_68 (c68 (a2 * 1000) ra2) rfl rfl ?_ | refine callV.flat _ yfn_68 (c68 (b2 * 1000) rb2) rfl rfl ?_ | refine callV.flat _ yfn_68 (c68 (c2 * 1000) rc2) rfl rfl ?_ | refine callV.flat _ yfn_68 (c68 (a3 * 1000) ra3) rfl rfl ?_ | refine callV.flat _ yfn_68 (c68 (b3 * 1000) rb3) rfl rfl ?_ | refine callV.flat _ yfn_68 (c68 (c3 * 1000) rc3) rfl rfl ?_) | (refine callV.flat _ yfn_96 (c96 _ _ _ (by assumption) (by assumption) (by assumption)) rfl rfl ?_) | refine ⟨by omega, ?_⟩ | (refine zb ?_ ?_ <;> intro hg <;> (try simp only [NB] at hg) <;> (try rw [hg]) <;> try simp only [NM] at hg) | omega | simp -dsimp (disch := try exact zo) only [go_sem, mkW, wa0, wb0, wc0, wa1, wb1, wc1, wa2, wb2, wc2, wa3, wb3, wc3] | contradiction)
end Go.Proofs.Vx
namespace Go.Proofs.Vx
open Go Go.Sx Go.Proofs
attribute [local irreducible] fnT CallOK CallFr AW effV callV runP runO oneP oneO gcaseP hid
theorem yqq_Nx35 : arT Tryz.prog 145 = none ∧ slT Tryz.prog 145 = some (140, 3) ∧ strT Tryz.prog 145 = false := by and_intros <;> kernel_rfl
attribute [go_sem] yqq_Nx35
set_option maxRecDepth 20000 in
set_option maxHeartbeats 40000000 in
theorem c121 (a0 b0 c0 a1 b1 c1 a2 b2 c2 a3 b3 c3 : Int) : CallOK Tryz.prog 121 [.bs 0 0 3 4] [(0, .blk [.lit (.int .i64 a0), .lit (.int .i64 b0), .lit (.int .i64 c0), .lit (.int .i64 a1), .lit (.int .i64 b1), .lit (.int .i64 c1), .lit (.int .i64 a2), .lit (.int .i64 b2), .lit (.int .i64 c2), .lit (.int .i64 a3), .lit (.int .i64 b3), .lit (.int .i64 c3)])] (.tup []) [(0, .blk [.lit (.int .i64 a3), .lit (.int .i64 b3), .lit (.int .i64 c3), .lit (.int .i64 a2), .lit (.int .i64 b2), .lit (.int .i64 c2), .lit (.int .i64 a1), .lit (.int .i64 b1), .lit (.int .i64 c1), .lit (.int .i64 a0), .lit (.int .i64 b0), .lit (.int .i64 c0)])] := by
 refine CallOK.inout Tryz.func121 rfl 28 rfl rfl (by simp) (.tup _ (by simp)) (by
  intro q hq
  simp only [List.mem_cons, List.not_mem_nil, or_false] at hq
  subst hq
  refine ⟨by simp, fun c hc => ?_⟩
  simp only [List.mem_cons, List.not_mem_nil, or_false] at hc
  rcases hc with rfl | rfl | rfl | rfl | rfl | rfl | rfl | rfl | rfl | rfl | rfl | rfl <;> exact .lit _) [] (congrArg Array.toList Tryz.results121) ?_
 simp only [startT, Nat.reduceAdd]
 repeat' (first | refine zg ?_ | refine AW.drawP ymix ?_ | refine AW.unroll 6 ?_ | (refine AW.cond rfl ?_ ?_ <;> intro hc <;> first | (cases hc; done) | simp only [NM] at hc | skip <;> try (exfalso; omega)) | (refine zr ?_; simp -dsimp (disch := try exact zo) only [go_sem, Int.cast_ofNat_Int] <;> try rfl) | (refine AW.nil (RetB.of ?_ ?_) <;> simp -dsimp (disch := try exact zo) only [go_sem]) | refine ⟨by omega, ?_⟩ | (refine zb ?_ ?_ <;> intro hg <;> (try simp only [NB] at hg) <;> (try rw [hg]) <;> try simp only [NM] at hg) | omega | simp -dsimp (disch := try exact zo) only [go_sem, Int.cast_ofNat_Int] | contradiction)
end Go.Proofs.Vx
namespace Go.Proofs.Vx
open Go Go.Sx Go.Proofs
attribute [local irreducible] fnT CallOK CallFr AW effV callV runP runO oneP oneO gcaseP hid
theorem yqq_Nx36 : arT Tryz.prog 139 = none ∧ arT Tryz.prog 142 = some (2, 1, false) ∧ arT Tryz.prog 143 = some (4, 2, true) ∧ plT Tryz.prog 142 = some [(0, 1), (1, 1)] ∧ plT Tryz.prog 143 = some [(0, 2), (2, 2), (4, 2), (6, 2)] ∧ slT Tryz.prog 139 = some (2, 1) ∧ slT Tryz.prog 140 = none ∧ slT Tryz.prog 141 = none ∧ slT Tryz.prog 142 = none ∧ strT Tryz.prog 139 = false ∧ strT Tryz.prog 143 = false ∧ szT Tryz.prog 142 = some 2 ∧ szT Tryz.prog 2 = some 1 ∧ zeT Tryz.prog 141 = some [.lit (.int .i64 0), .lit (.int .i64 0), .lit (.int .i64 0), .lit (.int .i64 0), .lit (.int .i64 0), .lit (.int .i64 0), .lit (.int .i64 0), .lit (.int .i64 0), .lit (.int .i64 0), .lit (.int .i64 0), .lit (.int .i64 0), .lit (.int .i64 0)] ∧ zeT Tryz.prog 142 = some [.lit (.int .i64 0), .lit (.int .i64 0)] ∧ zeT Tryz.prog 143 = some [.lit (.int .i64 0), .lit (.int .i64 0), .lit (.int .i64 0), .lit (.int .i64 0), .lit (.int .i64 0), .lit (.int .i64 0), .lit (.int .i64 0), .lit (.int .i64 0)] ∧ zeT Tryz.prog 2 = some [.lit (.int .i64 0)] := by and_intros <;> kernel_rfl
attribute [go_sem] yqq_Nx36
set_option maxRecDepth 20000 in
set_option maxHeartbeats 40000000 in
theorem c57 : CallOK Tryz.prog 57 [] [] (.agg [.sl (eS worldP)]) [] := by
 refine CallOK.closed Tryz.func57 rfl 77 rfl rfl (by simp -dsimp (disch := try exact zo) only [go_sem, eS_in]) [.cell 0 33] (congrArg Array.toList Tryz.results57) ?_
 simp only [startT, Nat.reduceAdd]
 have hml : maxLen = 9223372036854775807 := rfl
 repeat' (first | refine zg ?_ | refine AW.drawP ymix ?_ | (refine AW.cond rfl ?_ ?_ <;> intro hc <;> first | (cases hc; done) | simp only [NM] at hc | skip) | (refine zr ?_; simp -dsimp (disch := try exact zo) only [go_sem] <;> try rfl) | (first | refine callV.flat _ yfn_67 (c67 1000 (by decide)) rfl rfl ?_ | refine callV.flat _ yfn_67 (c67 (-1) (by decide)) rfl rfl ?_ | refine callV.flat _ yfn_67 (c67 1 (by decide)) rfl rfl ?_) | refine ⟨by omega, ?_⟩ | (refine zb ?_ ?_ <;> intro hg <;> (try simp only [NB] at hg) <;> (try rw [hg]) <;> try simp only [NM] at hg) | omega | simp -dsimp (disch := try exact zo) only [go_sem] | contradiction)
 refine AW.weak (Weak.nilB 9 0 9 _ (by decide) rfl (by simp) rfl (by simp)) ?_
 have hwl : eS (List.take 6 worldP) = eS worldP := rfl
 have hz : eS (worldP.take 0) = [] := rfl
 refine AW.loop (fun z : {i : Nat // i ≤ 3} => ⟨[(11, .lit (.int .i64 z.1)), (2, .loc 11 0), (1, .loc 9 0), (0, .loc 8 0)], [(11, .blk (eZ 1000)), (9, .blk [.ref 14 0 (2 * z.1) (2 * z.1)]), (14, .vec 9 (eS (worldP.take (2 * z.1)))), (8, .blk [.lit (.slice none 0 0)])], 30⟩) (fun z => 3 - z.1) ⟨0, Nat.zero_le _⟩ (Weak.t4 (by refine ⟨?_, ?_, ?_, ?_⟩ <;> simp -dsimp (disch := try exact zo) only [go_sem, Nat.mul_zero, hz, Int.natCast_add, Int.cast_ofNat_Int])) ?_
 rintro ⟨i, hi⟩
 dsimp only
 rcases (show i = 0 ∨ i = 1 ∨ i = 2 ∨ i = 3 by omega) with rfl | rfl | rfl | rfl
 ·have hE : eS (List.take 2 worldP) = eS (List.take 0 worldP) ++ [eG ⟨-1, 0, 0, 1000⟩ [wpt (-1) (-1) (1), wpt (-1) (1) (1), wpt (-1) (1) (-1), wpt (-1) (-1) (-1)]] ++ [eG ⟨1, 0, 0, 1000⟩ [wpt (1) (-1) (-1), wpt (1) (1) (-1), wpt (1) (1) (1), wpt (1) (-1) (1)]] := rfl
  have hlE : (eS (List.take 0 worldP)).length = 0 := rfl
  have he0 : AV.agg [.lit (.bool (Zn (-1))), .lit (.string (Zm (-1))), .lit (.bool false), .lit (.string ⟨#[]⟩), .lit (.bool false), .lit (.string ⟨#[]⟩), .lit (.bool (Zn (1000))), .lit (.string (Zm (1000)))] = .agg (eH ⟨-1, 0, 0, 1000⟩) := by simp only [eH, e4, Zn_zero, Zm_zero]
  have w0 := c122 ⟨-1, 0, 0, 1000⟩ (-1) (-1) (1) (-1) (1) (1) (-1) (1) (-1) (-1) (-1) (-1) (by decide) (by decide) (by decide) (by decide) (by decide) (by decide) (by decide) (by decide) (by decide) (by decide) (by decide) (by decide)
  have he1 : AV.agg [.lit (.bool (Zn (1))), .lit (.string (Zm (1))), .lit (.bool false), .lit (.string ⟨#[]⟩), .lit (.bool false), .lit (.string ⟨#[]⟩), .lit (.bool (Zn (1000))), .lit (.string (Zm (1000)))] = .agg (eH ⟨1, 0, 0, 1000⟩) := by simp only [eH, e4, Zn_zero, Zm_zero]
  have w1 := c122 ⟨1, 0, 0, 1000⟩ (1) (-1) (-1) (1) (1) (-1) (1) (1) (1) (1) (-1) (1) (by decide) (by decide) (by decide) (by decide) (by decide) (by decide) (by decide) (by decide) (by decide) (by decide) (by decide) (by decide)
  simp only [Nat.reduceMul]
  generalize eS (List.take 0 worldP) = E at *
  repeat' (first | refine zg ?_ | refine AW.drawP ymix ?_ | refine AW.unroll 6 ?_ | (refine AW.cond rfl ?_ ?_ <;> intro hc <;> first | (cases hc; done) | simp only [NM] at hc | skip <;> try (exfalso; omega)) | (refine zr ?_; simp -dsimp (disch := try exact zo) only [go_sem, Int.cast_ofNat_Int, hlE, Int.reduceMod, Int.reduceTMod] <;> try rfl) | (first | refine callV.flat _ yfn_67 (c67 1000 (by decide)) rfl rfl ?_ | refine callV.flat _ yfn_67 (c67 (-1) (by decide)) rfl rfl ?_ | refine callV.flat _ yfn_67 (c67 1 (by decide)) rfl rfl ?_) | (refine callV.inout1 _ _ _ _ yfn_121 (CallOK.ren (c121 _ _ _ _ _ _ _ _ _ _ _ _) (by simp -dsimp (disch := try exact zo) only [go_sem]) (by simp -dsimp (disch := try exact zo) only [go_sem]) (.tup _ (by simp)) (by simp [top0]) _) rfl (by simp [In_bs]) (by simp -dsimp (disch := try exact zo) only [go_sem]) (by simp -dsimp (disch := try exact zo) only [go_sem]) (.tup _ (by simp)) rfl ?_) | (first | refine callV.new _ yfn_122 (by simp -dsimp (disch := try exact zo) only [go_sem]; rw [he0]; exact w0) (by simp -dsimp (disch := try exact zo) only [go_sem]) (capFlat _ _).in ?_ | refine callV.new _ yfn_122 (by simp -dsimp (disch := try exact zo) only [go_sem]; rw [he1]; exact w1) (by simp -dsimp (disch := try exact zo) only [go_sem]) (capFlat _ _).in ?_) | refine ⟨by omega, ?_⟩ | (refine zb ?_ ?_ <;> intro hg <;> (try simp only [NB] at hg) <;> (try rw [hg]) <;> try simp only [NM] at hg) | omega | simp -dsimp (disch := try exact zo) only [go_sem, Int.cast_ofNat_Int, hlE, Int.reduceMod, Int.reduceTMod])
  all_goals exact AW.stop ⟨⟨1, by omega⟩, (Weak.to (by simp -dsimp (disch := try exact zo) only [go_sem, Int.cast_ofNat_Int]) (by simp -dsimp (disch := try exact zo) only [go_sem, hE, Int.cast_ofNat_Int]; try rfl) (by decide) (by simp -dsimp (disch := try exact zo) only [go_sem, Int.cast_ofNat_Int]) (by simp -dsimp (disch := try exact zo) only [go_sem, eS_in, Int.cast_ofNat_Int])), by dsimp only; omega⟩
 ·have hE : eS (List.take 4 worldP) = eS (List.take 2 worldP) ++ [eG ⟨0, -1, 0, 1000⟩ [wpt (1) (-1) (-1), wpt (1) (-1) (1), wpt (-1) (-1) (1), wpt (-1) (-1) (-1)]] ++ [eG ⟨0, 1, 0, 1000⟩ [wpt (-1) (1) (-1), wpt (-1) (1) (1), wpt (1) (1) (1), wpt (1) (1) (-1)]] := rfl
  have hlE : (eS (List.take 2 worldP)).length = 2 := rfl
  have he0 : AV.agg [.lit (.bool false), .lit (.string ⟨#[]⟩), .lit (.bool (Zn (-1))), .lit (.string (Zm (-1))), .lit (.bool false), .lit (.string ⟨#[]⟩), .lit (.bool (Zn (1000))), .lit (.string (Zm (1000)))] = .agg (eH ⟨0, -1, 0, 1000⟩) := by simp only [eH, e4, Zn_zero, Zm_zero]
  have w0 := c122 ⟨0, -1, 0, 1000⟩ (1) (-1) (-1) (1) (-1) (1) (-1) (-1) (1) (-1) (-1) (-1) (by decide) (by decide) (by decide) (by decide) (by decide) (by decide) (by decide) (by decide) (by decide) (by decide) (by decide) (by decide)
  have he1 : AV.agg [.lit (.bool false), .lit (.string ⟨#[]⟩), .lit (.bool (Zn (1))), .lit (.string (Zm (1))), .lit (.bool false), .lit (.string ⟨#[]⟩), .lit (.bool (Zn (1000))), .lit (.string (Zm (1000)))] = .agg (eH ⟨0, 1, 0, 1000⟩) := by simp only [eH, e4, Zn_zero, Zm_zero]
  have w1 := c122 ⟨0, 1, 0, 1000⟩ (-1) (1) (-1) (-1) (1) (1) (1) (1) (1) (1) (1) (-1) (by decide) (by decide) (by decide) (by decide) (by decide) (by decide) (by decide) (by decide) (by decide) (by decide) (by decide) (by decide)
  simp only [Nat.reduceMul]
  generalize eS (List.take 2 worldP) = E at *
  repeat' (first | refine zg ?_ | refine AW.drawP ymix ?_ | refine AW.unroll 6 ?_ | (refine AW.cond rfl ?_ ?_ <;> intro hc <;> first | (cases hc; done) | simp only [NM] at hc | skip <;> try (exfalso; omega)) | (refine zr ?_; simp -dsimp (disch := try exact zo) only [go_sem, Int.cast_ofNat_Int, hlE, Int.reduceMod, Int.reduceTMod] <;> try rfl) | (first | refine callV.flat _ yfn_67 (c67 1000 (by decide)) rfl rfl ?_ | refine callV.flat _ yfn_67 (c67 (-1) (by decide)) rfl rfl ?_ | refine callV.flat _ yfn_67 (c67 1 (by decide)) rfl rfl ?_) | (refine callV.inout1 _ _ _ _ yfn_121 (CallOK.ren (c121 _ _ _ _ _ _ _ _ _ _ _ _) (by simp -dsimp (disch := try exact zo) only [go_sem]) (by simp -dsimp (disch := try exact zo) only [go_sem]) (.tup _ (by simp)) (by simp [top0]) _) rfl (by simp [In_bs]) (by simp -dsimp (disch := try exact zo) only [go_sem]) (by simp -dsimp (disch := try exact zo) only [go_sem]) (.tup _ (by simp)) rfl ?_) | (first | refine callV.new _ yfn_122 (by simp -dsimp (disch := try exact zo) only [go_sem]; rw [he0]; exact w0) (by simp -dsimp (disch := try exact zo) only [go_sem]) (capFlat _ _).in ?_ | refine callV.new _ yfn_122 (by simp -dsimp (disch := try exact zo) only [go_sem]; rw [he1]; exact w1) (by simp -dsimp (disch := try exact zo) only [go_sem]) (capFlat _ _).in ?_) | refine ⟨by omega, ?_⟩ | (refine zb ?_ ?_ <;> intro hg <;> (try simp only [NB] at hg) <;> (try rw [hg]) <;> try simp only [NM] at hg) | omega | simp -dsimp (disch := try exact zo) only [go_sem, Int.cast_ofNat_Int, hlE, Int.reduceMod, Int.reduceTMod])
  all_goals exact AW.stop ⟨⟨2, by omega⟩, (Weak.to (by simp -dsimp (disch := try exact zo) only [go_sem, Int.cast_ofNat_Int]) (by simp -dsimp (disch := try exact zo) only [go_sem, hE, Int.cast_ofNat_Int]; try rfl) (by decide) (by simp -dsimp (disch := try exact zo) only [go_sem, Int.cast_ofNat_Int]) (by simp -dsimp (disch := try exact zo) only [go_sem, eS_in, Int.cast_ofNat_Int])), by dsimp only; omega⟩
 ·have hE : eS (List.take 6 worldP) = eS (List.take 4 worldP) ++ [eG ⟨0, 0, -1, 1000⟩ [wpt (-1) (1) (-1), wpt (1) (1) (-1), wpt (1) (-1) (-1), wpt (-1) (-1) (-1)]] ++ [eG ⟨0, 0, 1, 1000⟩ [wpt (-1) (-1) (1), wpt (1) (-1) (1), wpt (1) (1) (1), wpt (-1) (1) (1)]] := rfl
  have hlE : (eS (List.take 4 worldP)).length = 4 := rfl
  have he0 : AV.agg [.lit (.bool false), .lit (.string ⟨#[]⟩), .lit (.bool false), .lit (.string ⟨#[]⟩), .lit (.bool (Zn (-1))), .lit (.string (Zm (-1))), .lit (.bool (Zn (1000))), .lit (.string (Zm (1000)))] = .agg (eH ⟨0, 0, -1, 1000⟩) := by simp only [eH, e4, Zn_zero, Zm_zero]
  have w0 := c122 ⟨0, 0, -1, 1000⟩ (-1) (1) (-1) (1) (1) (-1) (1) (-1) (-1) (-1) (-1) (-1) (by decide) (by decide) (by decide) (by decide) (by decide) (by decide) (by decide) (by decide) (by decide) (by decide) (by decide) (by decide)
  have he1 : AV.agg [.lit (.bool false), .lit (.string ⟨#[]⟩), .lit (.bool false), .lit (.string ⟨#[]⟩), .lit (.bool (Zn (1))), .lit (.string (Zm (1))), .lit (.bool (Zn (1000))), .lit (.string (Zm (1000)))] = .agg (eH ⟨0, 0, 1, 1000⟩) := by simp only [eH, e4, Zn_zero, Zm_zero]
  have w1 := c122 ⟨0, 0, 1, 1000⟩ (-1) (-1) (1) (1) (-1) (1) (1) (1) (1) (-1) (1) (1) (by decide) (by decide) (by decide) (by decide) (by decide) (by decide) (by decide) (by decide) (by decide) (by decide) (by decide) (by decide)
  simp only [Nat.reduceMul]
  generalize eS (List.take 4 worldP) = E at *
  repeat' (first | refine zg ?_ | refine AW.drawP ymix ?_ | refine AW.unroll 6 ?_ | (refine AW.cond rfl ?_ ?_ <;> intro hc <;> first | (cases hc; done) | simp only [NM] at hc | skip <;> try (exfalso; omega)) | (refine zr ?_; simp -dsimp (disch := try exact zo) only [go_sem, Int.cast_ofNat_Int, hlE, Int.reduceMod, Int.reduceTMod] <;> try rfl) | (first | refine callV.flat _ yfn_67 (c67 1000 (by decide)) rfl rfl ?_ | refine callV.flat _ yfn_67 (c67 (-1) (by decide)) rfl rfl ?_ | refine callV.flat _ yfn_67 (c67 1 (by decide)) rfl rfl ?_) | (refine callV.inout1 _ _ _ _ yfn_121 (CallOK.ren (c121 _ _ _ _ _ _ _ _ _ _ _ _) (by simp -dsimp (disch := try exact zo) only [go_sem]) (by simp -dsimp (disch := try exact zo) only [go_sem]) (.tup _ (by simp)) (by simp [top0]) _) rfl (by simp [In_bs]) (by simp -dsimp (disch := try exact zo) only [go_sem]) (by simp -dsimp (disch := try exact zo) only [go_sem]) (.tup _ (by simp)) rfl ?_) | (first | refine callV.new _ yfn_122 (by simp -dsimp (disch := try exact zo) only [go_sem]; rw [he0]; exact w0) (by simp -dsimp (disch := try exact zo) only [go_sem]) (capFlat _ _).in ?_ | refine callV.new _ yfn_122 (by simp -dsimp (disch := try exact zo) only [go_sem]; rw [he1]; exact w1) (by simp -dsimp (disch := try exact zo) only [go_sem]) (capFlat _ _).in ?_) | refine ⟨by omega, ?_⟩ | (refine zb ?_ ?_ <;> intro hg <;> (try simp only [NB] at hg) <;> (try rw [hg]) <;> try simp only [NM] at hg) | omega | simp -dsimp (disch := try exact zo) only [go_sem, Int.cast_ofNat_Int, hlE, Int.reduceMod, Int.reduceTMod])
  all_goals exact AW.stop ⟨⟨3, by omega⟩, (Weak.to (by simp -dsimp (disch := try exact zo) only [go_sem, Int.cast_ofNat_Int]) (by simp -dsimp (disch := try exact zo) only [go_sem, hE, Int.cast_ofNat_Int]; try rfl) (by decide) (by simp -dsimp (disch := try exact zo) only [go_sem, Int.cast_ofNat_Int]) (by simp -dsimp (disch := try exact zo) only [go_sem, eS_in, Int.cast_ofNat_Int])), by dsimp only; omega⟩
 ·repeat' (first | refine zg ?_ | refine AW.drawP ymix ?_ | (refine AW.cond rfl ?_ ?_ <;> intro hc <;> first | (cases hc; done) | simp only [NM] at hc | skip <;> try (exfalso; omega)) | (refine zr ?_; simp -dsimp (disch := try exact zo) only [go_sem, hwl] <;> try rfl) | refine ⟨by omega, ?_⟩ | (refine zb ?_ ?_ <;> intro hg <;> (try simp only [NB] at hg) <;> (try rw [hg]) <;> try simp only [NM] at hg) | omega | simp -dsimp (disch := try exact zo) only [go_sem, hwl] | contradiction)
end Go.Proofs.Vx
namespace Go.Sx
set_option linter.unusedVariables false
def w8 : List Int → Int
 | [] => 0
 | d :: t => d + 256 * w8 t
def Dig8 (xs : List Int) : Prop := ∀ x ∈ xs, 0 ≤ x ∧ x < 256
theorem p256_succ (n : Nat) : (256 : Int) ^ (n + 1) = 256 * 256 ^ n := by rw [Int.pow_succ, Int.mul_comm]
theorem p256_nat (n : Nat) : ((256 ^ n : Nat) : Int) = (256 : Int) ^ n := Int.natCast_pow 256 n
theorem p256_pos (n : Nat) : (0 : Int) < 256 ^ n := Int.pow_pos (by decide)
theorem w8_append (a b : List Int) : w8 (a ++ b) = w8 a + 256 ^ a.length * w8 b := by
 induction a with
 | nil => simp [w8]
 | cons x a ih =>
  simp only [List.cons_append, w8, ih, List.length_cons, p256_succ, Int.mul_add, Int.mul_assoc]
  omega
theorem w8_rep (n : Nat) : w8 (List.replicate n 0) = 0 := by
 induction n with
 | zero => rfl
 | succ n ih => simp [List.replicate_succ, w8, ih]
theorem w8_set {xs : List Int} {i : Nat} (h : i < xs.length) (d : Int) : w8 (xs.set i d) = w8 xs + (d - xs.getD i 0) * 256 ^ i := by
 induction xs generalizing i with
 | nil => simp at h
 | cons x xs ih =>
  cases i with
  | zero => simp [w8]; omega
  | succ i =>
   have := ih (i := i) (by simpa using h)
   simp only [List.set_cons_succ, w8, this, List.getD_cons_succ, p256_succ, Int.mul_add, Int.mul_left_comm (256 : Int)]
   omega
theorem dig8_set {xs : List Int} (h : Dig8 xs) {i : Nat} {d : Int} (hd : 0 ≤ d ∧ d < 256) : Dig8 (xs.set i d) := fun x hx => by
 rcases List.mem_or_eq_of_mem_set hx with hx | rfl
 ·exact h x hx
 ·exact hd
theorem dig8_app {xs : List Int} (h : Dig8 xs) {d : Int} (hd : 0 ≤ d ∧ d < 256) : Dig8 (xs ++ [d]) := fun x hx => by
 rcases List.mem_append.1 hx with hx | hx
 ·exact h x hx
 ·obtain rfl : x = d := by simpa using hx
  exact hd
theorem dig8_getD {xs : List Int} (h : Dig8 xs) (i : Nat) : 0 ≤ xs.getD i 0 ∧ xs.getD i 0 < 256 := by
 rw [List.getD_eq_getElem?_getD]
 by_cases hi : i < xs.length
 ·rw [List.getElem?_eq_getElem hi]; exact h _ (List.getElem_mem hi)
 ·rw [List.getElem?_eq_none (by omega)]; decide
theorem w8_lt {xs : List Int} (h : Dig8 xs) : 0 ≤ w8 xs ∧ w8 xs < 256 ^ xs.length := by
 induction xs with
 | nil => decide
 | cons x xs ih =>
  obtain ⟨i1, i2⟩ := ih fun y hy => h y (by simp [hy])
  have := h x (by simp)
  simp only [w8, List.length_cons, p256_succ]
  omega
theorem nvL_ofI {xs : List Int} (h : Dig8 xs) : (nvL (ofI xs) : Int) = w8 xs := by
 induction xs with
 | nil => rfl
 | cons x xs ih =>
  have ih := ih fun y hy => h y (by simp [hy])
  have hx := h x (by simp)
  have e : (UInt8.ofNat x.toNat).toNat = x.toNat := by
   rw [UInt8.toNat_ofNat']; exact Nat.mod_eq_of_lt (by omega)
  simp only [ofI, List.map_cons, nvL, w8, e] at ih ⊢
  rw [← ih]
  omega
def lowN (m : ByteArray) (i : Nat) : Int := ((nv m % 256 ^ i : Nat) : Int)
theorem lowN_zero (m : ByteArray) : lowN m 0 = 0 := by simp [lowN, Nat.mod_one]
theorem lowN_all {m : ByteArray} {i : Nat} (h : m.size ≤ i) : lowN m i = (nv m : Int) := by
 unfold lowN
 rw [Nat.mod_eq_of_lt (Nat.lt_of_lt_of_le (nv_lt m) (Nat.pow_le_pow_right (by decide) h))]
theorem lowN_succ (m : ByteArray) (i : Nat) : lowN m (i + 1) = lowN m i + bt m i * 256 ^ i := by
 unfold lowN
 rw [bt_div]
 have h : nv m % 256 ^ (i + 1) = nv m % 256 ^ i + 256 ^ i * (nv m / 256 ^ i % 256) := by rw [Nat.pow_succ, Nat.mod_mul]
 rw [h, Int.natCast_add, Int.natCast_mul, p256_nat, Int.mul_comm ((256 : Int) ^ i)]
theorem lowN_lt (m : ByteArray) (i : Nat) : 0 ≤ lowN m i ∧ lowN m i < 256 ^ i := by
 unfold lowN
 have h := Nat.mod_lt (nv m) (Nat.pow_pos (n := i) (show 0 < 256 by decide))
 have h2 := p256_nat i
 omega
theorem lowN_nonneg (m : ByteArray) (i : Nat) : 0 ≤ lowN m i := (lowN_lt m i).1
theorem bt_out {m : ByteArray} {i : Nat} (h : m.size ≤ i) : bt m i = 0 := by
 unfold bt
 have : m.data.getD i 0 = 0 := by
  simp only [Array.getD_eq_getD_getElem?]
  rw [Array.getElem?_eq_none (by exact h)]; rfl
 rw [this]; rfl
def highN (m : ByteArray) (i : Nat) : Nat := nv m / 256 ^ i
theorem highN_zero (m : ByteArray) : highN m 0 = nv m := by simp [highN]
theorem highN_all {m : ByteArray} {i : Nat} (h : m.size ≤ i) : highN m i = 0 := Nat.div_eq_of_lt (Nat.lt_of_lt_of_le (nv_lt m) (Nat.pow_le_pow_right (by decide) h))
theorem highN_succ (m : ByteArray) (i : Nat) : highN m i = (bt m i).toNat + 256 * highN m (i + 1) := by
 unfold highN
 rw [bt_div, Int.toNat_natCast, Nat.pow_succ, ← Nat.div_div_eq_div_mul]
 omega
end Go.Sx
namespace Go.Sx
set_option linter.unusedVariables false
theorem bt_ext {m : ByteArray} {n i : Nat} (hn : n ≤ m.size) (hi : i < n) : bt (m.extract 0 n) i = bt m i := by
 unfold bt
 have h1 : i < m.data.size := Nat.lt_of_lt_of_le hi hn
 have h2 : i < (m.extract 0 n).data.size := by rw [ByteArray.data_extract, Array.size_extract]; omega
 rw [Array.getD_eq_getD_getElem?, Array.getD_eq_getD_getElem?, Array.getElem?_eq_getElem h1, Array.getElem?_eq_getElem h2]
 simp [ByteArray.data_extract]
theorem ext_ext (m : ByteArray) (n k : Nat) (h : k ≤ n) : (m.extract 0 n).extract 0 k = m.extract 0 k := by
 apply ByteArray.ext
 simp only [ByteArray.data_extract, Array.extract_extract]
 congr 1
 omega
theorem ext_size {m : ByteArray} {n : Nat} (h : n ≤ m.size) : (m.extract 0 n).size = n := by rw [ByteArray.size_extract]; omega
theorem ext_chop {m : ByteArray} {n : Nat} (hn : n + 1 ≤ m.size) (hb : bt m n = 0) : nv (m.extract 0 n) = nv (m.extract 0 (n + 1)) := by
 have h1 := ext_size hn
 have := nv_chop (m := m.extract 0 (n + 1)) (by omega) (by rw [h1, bt_ext hn (by omega)]; exact hb)
 rw [h1, ext_ext m (n + 1) _ (by omega)] at this
 exact this
theorem ext_nb {m : ByteArray} {n : Nat} (hn : n ≤ m.size) (hv : nv (m.extract 0 n) = nv m) (h : n = 0 ∨ bt m (n - 1) ≠ 0) : m.extract 0 n = nb (nv m) := by
 rw [← hv, nb_nv]
 rw [ext_size hn]
 rcases h with h | h
 ·exact .inl h
 ·by_cases h0 : n = 0
  ·exact .inl h0
  ·right; rw [bt_ext hn (by omega)]; exact h
theorem ext_all (m : ByteArray) : m.extract 0 m.size = m := by
 apply ByteArray.ext
 simp [ByteArray.data_extract]
end Go.Sx
namespace Go.Sx
theorem nv_cat {m r : ByteArray} {j : Nat} (hj : j < m.size) : nv (m.extract j (j + 1) ++ r) = (bt m j).toNat + 256 * nv r := by
 have h1 : (m.extract j (j + 1) ++ r).data.toList = (m.extract j (j + 1)).data.toList ++ r.data.toList := by simp
 have h2 : (m.extract j (j + 1)).data.toList = [m.data.toList[j]'(by simpa using hj)] := by
  rw [ByteArray.data_extract, Array.toList_extract, List.extract_eq_take_drop]
  have : j < m.data.toList.length := by simpa using hj
  rw [List.drop_eq_getElem_cons this, show j + 1 - j = 1 by omega]
  rfl
 have h3 := bt_get m j (by simpa using hj)
 unfold nv
 rw [h1, h2, h3]
 simp [nvL]
theorem cat_size {m r : ByteArray} {j : Nat} (hj : j < m.size) : (m.extract j (j + 1) ++ r).size = r.size + 1 := by
 rw [ByteArray.size_append, ByteArray.size_extract]; omega
end Go.Sx
