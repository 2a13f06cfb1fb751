import Derived.Test.YtjlfgmhmalbiiaaGreatDoorProg
import Derived.Test.YtjlfgmhmalbiiaaGreatDoorT10
import Derived.Test.YtjlfgmhmalbiiaaGreatDoorT21
import Derived.Test.YtjlfgmhmalbiiaaGreatDoorT22
import Derived.Test.YtjlfgmhmalbiiaaGreatDoorT26
set_option linter.all false
namespace Go.Sx
open Geo (H V Sd)
set_option linter.unusedVariables false
def ddStep (m : List Pt) (x : Pt) : List Pt := if x ∈ m then m else m ++ [x]
def ddP (l : List Pt) : List Pt := l.foldl ddStep []
theorem dd_aux (l m : List Pt) (hm : m.Nodup) : (l.foldl ddStep m).Nodup ∧ ∀ x, x ∈ l.foldl ddStep m ↔ x ∈ m ∨ x ∈ l := by
 induction l generalizing m with
 | nil => exact ⟨hm, fun x => by simp⟩
 | cons a l ih =>
  have h1 : (ddStep m a).Nodup ∧ ∀ x, x ∈ ddStep m a ↔ x ∈ m ∨ x = a := by
   unfold ddStep
   split
   ·rename_i h; exact ⟨hm, fun x => ⟨.inl, fun hh => hh.elim id fun e => e ▸ h⟩⟩
   ·rename_i h
    refine ⟨?_, fun x => by simp⟩
    rw [List.nodup_append]
    exact ⟨hm, by simp, fun p hp q hq e => by simp at hq; exact h (hq ▸ e ▸ hp)⟩
  obtain ⟨i1, i2⟩ := ih _ h1.1
  refine ⟨i1, fun x => ?_⟩
  rw [List.foldl_cons, i2, h1.2, List.mem_cons, or_assoc]
theorem dd_nodup (l : List Pt) : (ddP l).Nodup := (dd_aux l [] (by simp)).1
theorem dd_mem {l : List Pt} {x : Pt} : x ∈ ddP l ↔ x ∈ l := ((dd_aux l [] (by simp)).2 x).trans (by simp)
theorem dd_len (l : List Pt) : (ddP l).length ≤ l.length := by
 have key : ∀ (l m : List Pt), (l.foldl ddStep m).length ≤ m.length + l.length := by
  intro l
  induction l with
  | nil => intro m; simp
  | cons a l ih =>
   intro m
   have := ih (ddStep m a)
   have h2 : (ddStep m a).length ≤ m.length + 1 := by unfold ddStep; split <;> simp
   simp only [List.foldl_cons, List.length_cons]; omega
 simpa [ddP] using key l []
def cornersP (l : PCell) : List Pt := l.flatMap (·.2)
def vertsP (l : PCell) : List Pt := sortP (ddP (cornersP l))
theorem verts_mem {l : PCell} {x : Pt} : x ∈ vertsP l ↔ ∃ s ∈ l, x ∈ s.2 := by
 unfold vertsP cornersP
 rw [sortP_mem, dd_mem, List.mem_flatMap]
theorem verts_congr {l m : PCell} (hl : CanC l) (h : ∀ x, (∃ s ∈ m, x ∈ s.2) ↔ ∃ s ∈ l, x ∈ s.2) : vertsP m = vertsP l := by
 refine sortP_congr (fun p hp => ?_) (dd_nodup _) (dd_nodup _) fun p => ?_
 ·rw [dd_mem] at hp
  obtain ⟨s, hs, hp⟩ := List.mem_flatMap.1 hp
  exact hl.can s hs p hp
 ·rw [dd_mem, dd_mem]
  unfold cornersP
  rw [List.mem_flatMap, List.mem_flatMap]
  exact h p
def OkC (l : PCell) : Prop := l = [] ∨ CellOK l
def beh (b : Pl) (l : PCell) : PCell := (splitP b l).1
structure InnP (l : PCell) (x : V) : Prop where
 ne : l ≠ []
 inn : Geo.Inn (sds l) x
theorem CellOK.ne {l : PCell} (h : CellOK l) : l ≠ [] := fun e => by have := h.cell.four; subst e; simp [sds] at this
theorem OkC.can {l : PCell} (h : OkC l) : CanC l := h.elim (fun e => by subst e; exact ⟨fun s hs => by simp at hs⟩) (·.toCanC)
theorem beh_ok {b : Pl} {l : PCell} (h : OkC l) : OkC (beh b l) := by
 rcases h with rfl | h
 ·exact .inl rfl
 ·exact (split_ok h).1
theorem corner_le {b : Pl} {l : PCell} (h : CellOK l) (hf : frontB b l = false) : ∀ s ∈ sds l, ∀ v ∈ s.vs, (tH b).at v ≤ 0 := by
 intro s hs v hv
 obtain ⟨s0, hs0, rfl⟩ := List.mem_map.1 hs
 obtain ⟨v0, hv0, rfl⟩ := List.mem_map.1 hv
 have h1 : ¬ 0 < (tH b).at (tv v0) := fun hh => by
  have h2 := (at_gt b (h.w hs0 v0 hv0)).1 hh
  have : frontB b l = true := List.any_eq_true.2 ⟨s0, hs0, List.any_eq_true.2 ⟨v0, hv0, decide_eq_true (sg_pos.2 h2)⟩⟩
  rw [hf] at this; contradiction
 grind
theorem beh_inn {b : Pl} {l : PCell} (h : OkC l) (hn : (tH b).n ≠ ⟨0, 0, 0⟩) (x : V) : InnP (beh b l) x ↔ InnP l x ∧ (tH b).at x < 0 := by
 rcases h with rfl | h
 ·exact ⟨fun hh => absurd rfl hh.ne, fun hh => absurd rfl hh.1.ne⟩
 ·unfold beh splitP
  by_cases hf : frontB b l = false
  ·rw [if_pos hf]
   refine ⟨fun hh => ⟨hh, ?_⟩, fun hh => hh.1⟩
   exact Geo.inner_neg hh.inn hn fun y hy => h.cell.hull (corner_le h hf) fun t ht => Rat.le_of_lt (hy t ht)
  ·rw [if_neg hf]
   by_cases hb : behindB b l = false
   ·rw [if_pos hb]
    refine ⟨fun hh => absurd rfl hh.ne, fun hh => ?_⟩
    have hb' : frontB (negP b) l = false := by rw [front_neg]; exact hb
    have := h.cell.hull (corner_le h hb') (x := x) fun t ht => Rat.le_of_lt (hh.1.inn t ht)
    rw [tH_neg, Geo.neg_at] at this
    have h2 := hh.2
    grind
   ·rw [if_neg hb]
    have hf' : frontB b l = true := by simpa using hf
    have hb' : behindB b l = true := by simpa using hb
    have S := spl_of h hf' hb'
    have key := S.inn_iff (cap_ok h S).1 (x := x)
    rw [← sds_b h.toCanC] at key
    exact ⟨fun hh => ⟨⟨h.ne, (key.1 hh.inn).1⟩, (key.1 hh.inn).2⟩, fun hh => ⟨(bcell_ok h S).ne, key.2 ⟨hh.1.inn, hh.2⟩⟩⟩
theorem beh_cl {b : Pl} {l : PCell} (h : OkC l) (hne : beh b l ≠ []) (x : V) : Geo.Cl (sds (beh b l)) x ↔ Geo.Cl (sds l) x ∧ (tH b).at x ≤ 0 := by
 rcases h with rfl | h
 ·exact absurd rfl hne
 ·unfold beh splitP at hne ⊢
  by_cases hf : frontB b l = false
  ·rw [if_pos hf]
   exact ⟨fun hh => ⟨hh, h.cell.hull (corner_le h hf) hh⟩, fun hh => hh.1⟩
  ·rw [if_neg hf] at hne ⊢
   by_cases hb : behindB b l = false
   ·rw [if_pos hb] at hne; exact absurd rfl hne
   ·rw [if_neg hb]
    have hf' : frontB b l = true := by simpa using hf
    have hb' : behindB b l = true := by simpa using hb
    have S := spl_of h hf' hb'
    have key := S.cl_iff (cap_ok h S).1 (x := x)
    rw [← sds_b h.toCanC] at key
    exact key
theorem ext_congr {c d : List Sd} (h : ∀ x, Geo.Cl c x ↔ Geo.Cl d x) (x : V) : Geo.Ext c x ↔ Geo.Ext d x := by
 unfold Geo.Ext
 rw [h]
 refine and_congr Iff.rfl ⟨fun k p q t a1 a2 a3 a4 => k p q t a1 a2 ((h _).2 a3) ((h _).2 a4), fun k p q t a1 a2 a3 a4 => k p q t a1 a2 ((h _).1 a3) ((h _).1 a4)⟩
theorem corner_ext {l : PCell} (h : CellOK l) (p : Pt) (hp : CanP p) : (∃ s ∈ l, p ∈ s.2) ↔ Geo.Ext (sds l) (tv p) := by
 constructor
 ·rintro ⟨s, hs, hps⟩
  exact h.cell.vert_ext (s := sd s) (List.mem_map_of_mem hs) (List.mem_map_of_mem hps)
 ·intro he
  obtain ⟨s, hs, hv⟩ := h.cell.ext_vert he
  obtain ⟨s0, hs0, rfl⟩ := List.mem_map.1 hs
  obtain ⟨p0, hp0, e⟩ := List.mem_map.1 hv
  have := tv_inj (h.can s0 hs0 p0 hp0) hp e
  exact ⟨s0, hs0, this ▸ hp0⟩
theorem verts_same {l m : PCell} (hl : CellOK l) (hm : CellOK m) (h : ∀ x, Geo.Cl (sds m) x ↔ Geo.Cl (sds l) x) : vertsP m = vertsP l := by
 refine verts_congr hl.toCanC fun x => ?_
 constructor
 ·rintro ⟨s, hs, hx⟩
  have hc := hm.can s hs x hx
  exact (corner_ext hl x hc).2 ((ext_congr h _).1 ((corner_ext hm x hc).1 ⟨s, hs, hx⟩))
 ·rintro ⟨s, hs, hx⟩
  have hc := hl.can s hs x hx
  exact (corner_ext hm x hc).2 ((ext_congr h _).2 ((corner_ext hl x hc).1 ⟨s, hs, hx⟩))
theorem InnP.exists {l : PCell} (h : OkC l) (hne : l ≠ []) : ∃ x, InnP l x := by
 rcases h with rfl | h
 ·exact absurd rfl hne
 ·obtain ⟨m, hm⟩ := h.cell.exists_inn
  exact ⟨m, hne, hm⟩
theorem beh_comm {g1 g2 : Pl} {l : PCell} (h : OkC l) (h1 : (tH g1).n ≠ ⟨0, 0, 0⟩) (h2 : (tH g2).n ≠ ⟨0, 0, 0⟩) : vertsP (beh g2 (beh g1 l)) = vertsP (beh g1 (beh g2 l)) := by
 have o1 := beh_ok (b := g1) h
 have o2 := beh_ok (b := g2) h
 have o12 := beh_ok (b := g2) o1
 have o21 := beh_ok (b := g1) o2
 have hi : ∀ x, InnP (beh g2 (beh g1 l)) x ↔ InnP (beh g1 (beh g2 l)) x := fun x => by
  rw [beh_inn o1 h2, beh_inn h h1, beh_inn o2 h1, beh_inn h h2, and_assoc, and_assoc, and_comm (a := (tH g1).at x < 0)]
 by_cases hne : beh g2 (beh g1 l) = []
 ·have : beh g1 (beh g2 l) = [] := by
   apply Classical.byContradiction
   intro hh
   obtain ⟨x, hx⟩ := InnP.exists o21 hh
   exact ((hi x).2 hx).ne hne
  rw [hne, this]
 ·have hne' : beh g1 (beh g2 l) ≠ [] := by
   obtain ⟨x, hx⟩ := InnP.exists o12 hne
   exact ((hi x).1 hx).ne
  have c12 : CellOK (beh g2 (beh g1 l)) := o12.elim (fun e => absurd e hne) id
  have c21 : CellOK (beh g1 (beh g2 l)) := o21.elim (fun e => absurd e hne') id
  have n1 : beh g1 l ≠ [] := fun e => hne (by rw [e]; rfl)
  have n2 : beh g2 l ≠ [] := fun e => hne' (by rw [e]; rfl)
  refine verts_same c21 c12 fun x => ?_
  rw [beh_cl o1 hne, beh_cl h n1, beh_cl o2 hne', beh_cl h n2, and_assoc, and_assoc, and_comm (a := (tH g1).at x ≤ 0)]
theorem front_beh {b : Pl} {l : PCell} (h : OkC l) (hn : (tH b).n ≠ ⟨0, 0, 0⟩) : (splitP b l).2 = beh (negP b) l := by
 rcases h with rfl | h
 ·rfl
 ·unfold beh
  rw [split_flip (cell_off h hn)]
end Go.Sx
namespace Go.Proofs.Vx
open Go Go.Sx Go.Proofs
attribute [local irreducible] fnT CallOK CallFr AW effV callV runP runO oneP oneO gcaseP hid
theorem yqq_Nx28 : fdT Tryz.prog 33 0 = some (0, 1, false) ∧ mpT Tryz.prog 110 = some (51, 4) ∧ zvT Tryz.prog 4 = some (.bool false) := by and_intros <;> kernel_rfl
attribute [go_sem] yqq_Nx28
theorem yfn_27 : fnT Tryz.prog 27 = true := by kernel_rfl
theorem yfn_84 : fnT Tryz.prog 84 = true := by kernel_rfl
theorem corners_sub (l : PCell) (i : Nat) (h : i < l.length) (j : Nat) : (∀ p ∈ cornersP (l.take i) ++ l[i].2.take j, ∃ s ∈ l, p ∈ s.2) ∧ (cornersP (l.take i) ++ l[i].2.take j).length ≤ (cornersP l).length := by
 refine ⟨fun p hp => ?_, ?_⟩
 ·rcases List.mem_append.1 hp with hp | hp
  ·obtain ⟨s, hs, hp⟩ := List.mem_flatMap.1 hp
   exact ⟨s, List.mem_of_mem_take hs, hp⟩
  ·exact ⟨l[i], List.getElem_mem h, List.mem_of_mem_take hp⟩
 ·have e : cornersP l = cornersP (l.take i) ++ (l[i].2 ++ cornersP (l.drop (i + 1))) := by
   unfold cornersP
   conv => lhs; rw [← List.take_append_drop i l, List.drop_eq_getElem_cons h]
   rw [List.flatMap_append, List.flatMap_cons]
  rw [e]
  simp only [List.length_append, List.length_take]
  omega
theorem corners_succ (l : PCell) (i : Nat) (h : i < l.length) : cornersP (l.take i) ++ l[i].2 = cornersP (l.take (i + 1)) := by
 unfold cornersP
 rw [List.take_succ_eq_append_getElem h, List.flatMap_append]
 simp
theorem dd_snoc (l : List Pt) (x : Pt) : ddP (l ++ [x]) = ddStep (ddP l) x := by unfold ddP; rw [List.foldl_append]; rfl
theorem inClo {K : Nat → Prop} (f : Nat) : In K (.clo f []) := .clo f [] (by simp)
theorem eP_inC {K : Nat → Prop} (vs : List Pt) : InC K (.vec 8 (vs.map eP)) := fun e he c hc => (eP_flat vs e he c hc).inn
set_option maxHeartbeats 16000000 in
theorem c27f (l : PCell) (hn : l.length ≤ 1048576) (hv : ∀ s ∈ l, s.2.length ≤ 268435456 ∧ ∀ v ∈ s.2, CanP v ∧ BPt 1073741824 v) (hm : (cornersP l).length ≤ 268435456) : CallFr Tryz.prog 27 [.agg [.sl (eS l)]] 8 (((vertsP l).map eP)) := by
 refine CallFr.flat Tryz.func27 rfl 39 rfl rfl (eP_flat _) [.tmp 2] (congrArg Array.toList Tryz.results27) ?_
 simp only [startT, Nat.reduceAdd]
 have hml : maxLen = 9223372036854775807 := rfl
 have hl : (eS l).length = l.length := List.length_map _
 have hd0 : ddP [] = [] := rfl
 have hm0 : mPB [] = [] := rfl
 have hc0 : cornersP [] = [] := rfl
 repeat' (first | refine zg ?_ | (refine AW.cond rfl ?_ ?_ <;> intro hc <;> first | (cases hc; done) | simp only [NM] at hc | skip) | (refine zr ?_; simp -dsimp (disch := try exact zo) only [go_sem, hl] <;> try rfl) | refine ⟨by omega, ?_⟩ | (refine zb ?_ ?_ <;> intro hg <;> (try simp only [NB] at hg) <;> (try rw [hg]) <;> try simp only [NM] at hg) | omega | simp -dsimp (disch := try exact zo) only [go_sem, hl] | contradiction)
 refine AW.loop (fun z : {i : Nat // i ≤ l.length} => ⟨[(13, .lit (.int .i64 z.1)), (12, .lit (.int .i64 l.length)), (4, .ref 17 0 (ddP (cornersP (l.take z.1))).length (ddP (cornersP (l.take z.1))).length), (11, .sl (eS l)), (3, .mp 10)], [(17, .vec 8 ((ddP (cornersP (l.take z.1))).map eP)), (10, .mpo (mPB (ddP (cornersP (l.take z.1)))))], 60⟩) (fun z => l.length - z.1) ⟨0, Nat.zero_le _⟩ (Weak.trans (Weak.nil 4 8 (by decide) rfl) (Weak.t4 (by refine ⟨?_, ?_, ?_, ?_⟩ <;> simp -dsimp (disch := try exact zo) only [go_sem, List.take_zero, hc0, hd0, hm0, eS_in, eP_in, Int.natCast_add, Int.cast_ofNat_Int]))) ?_
 rintro ⟨i, hi⟩
 dsimp only
 by_cases hlt : i < l.length
 ·have es1 := eS_getD l i hlt
  have hS1 := corners_succ l i hlt
  have hsub := corners_sub l i hlt
  generalize hq : l[i] = sd at *
  obtain ⟨sp, svs⟩ := sd
  dsimp only at es1 hS1 hsub
  have hvn : svs.length ≤ 268435456 := (hv _ (hq ▸ List.getElem_mem hlt)).1
  simp only [eG] at es1
  repeat' (first | refine zg ?_ | (refine AW.cond rfl ?_ ?_ <;> intro hc <;> first | (cases hc; done) | simp only [NM] at hc | skip <;> try (exfalso; omega)) | (refine zr ?_; simp -dsimp (disch := try exact zo) only [go_sem, hl, es1, Int.toNat_natCast, eS_in, eP_in, List.length_map] <;> try rfl) | refine ⟨by omega, ?_⟩ | (refine zb ?_ ?_ <;> intro hg <;> (try simp only [NB] at hg) <;> (try rw [hg]) <;> try simp only [NM] at hg) | omega | simp -dsimp (disch := try exact zo) only [go_sem, hl, es1, Int.toNat_natCast, eS_in, eP_in, List.length_map] | contradiction)
  refine AW.loop (fun z : {j : Nat // j ≤ svs.length} => ⟨[(20, .lit (.int .i64 z.1)), (19, .lit (.int .i64 svs.length)), (18, .sl (svs.map eP)), (13, .lit (.int .i64 i)), (12, .lit (.int .i64 l.length)), (4, .ref 17 0 (ddP (cornersP (l.take i) ++ svs.take z.1)).length (ddP (cornersP (l.take i) ++ svs.take z.1)).length), (11, .sl (eS l)), (3, .mp 10)], [(17, .vec 8 ((ddP (cornersP (l.take i) ++ svs.take z.1)).map eP)), (10, .mpo (mPB (ddP (cornersP (l.take i) ++ svs.take z.1))))], 80⟩) (fun z => svs.length - z.1) ⟨0, Nat.zero_le _⟩ (Weak.t4 (by refine ⟨?_, ?_, ?_, ?_⟩ <;> simp -dsimp (disch := try exact zo) only [go_sem, eS_in, eP_in, List.take_zero, List.append_nil, Int.natCast_add, Int.cast_ofNat_Int])) ?_
  rintro ⟨j, hj⟩
  dsimp only
  by_cases hjt : j < svs.length
  ·have ea := eP_getD svs j hjt
   have hst0 : ddP (cornersP (l.take i) ++ svs.take (j + 1)) = ddStep (ddP (cornersP (l.take i) ++ svs.take j)) svs[j] := by
    rw [List.take_succ_eq_append_getElem hjt, ← List.append_assoc, dd_snoc]
   obtain ⟨hs1, hs2⟩ := hsub j
   have ha0 : svs[j] ∈ svs := List.getElem_mem hjt
   have hsl : (sp, svs) ∈ l := hq ▸ List.getElem_mem hlt
   have ha : BPt 1073741824 svs[j] := ((hv _ hsl).2 _ ha0).2
   have hRn := dd_nodup (cornersP (l.take i) ++ svs.take j)
   have hRl0 := dd_len (cornersP (l.take i) ++ svs.take j)
   have hRb : ∀ p ∈ ddP (cornersP (l.take i) ++ svs.take j), BPt 1073741824 p := fun p hp => by
    obtain ⟨s, hs, hps⟩ := hs1 p (dd_mem.1 hp)
    exact ((hv s hs).2 p hps).2
   generalize ddP (cornersP (l.take i) ++ svs.take j) = R at *
   generalize svs[j] = a at *
   have hRl : (R.map eP).length = R.length := List.length_map _
   have hkey := key51 a ha
   have hko := keysPB hRn hRb
   have hfind := mPB_find R a
   simp only [eP, e4] at ea
   clear hsub hs1 hv
   by_cases q : a ∈ R
   ·have hlk : (mfind (mPB R) (pv a)).getD (.bool false) = .bool true := by rw [hfind, if_pos q]; rfl
    have hst : ddP (cornersP (l.take i) ++ svs.take (j + 1)) = R := by rw [hst0]; unfold ddStep; rw [if_pos q]
    have hput : True := trivial
    have hRm : True := trivial
    clear hst0 hfind
    simp only [pv] at hkey hlk
    repeat' (first | refine zg ?_ | (refine AW.cond rfl ?_ ?_ <;> intro hc <;> first | (cases hc; done) | simp only [NM] at hc | skip <;> try (exfalso; omega)) | (refine zr ?_; simp -dsimp (disch := try exact zo) only [go_sem, hl, es1, ea, hlk, kl51, hkey, hko, hput, Int.toNat_natCast, List.length_map, hRl, eS_in, eP_in, List.toList_toArray, hRm] <;> try rfl) | refine ⟨by omega, ?_⟩ | (refine zb ?_ ?_ <;> intro hg <;> (try simp only [NB] at hg) <;> (try rw [hg]) <;> try simp only [NM] at hg) | omega | simp -dsimp (disch := try exact zo) only [go_sem, hl, es1, ea, hlk, kl51, hkey, hko, hput, Int.toNat_natCast, List.length_map, hRl, eS_in, eP_in, List.toList_toArray, hRm])
    all_goals exact AW.stop ⟨⟨j + 1, by omega⟩, (Weak.t4 (by refine ⟨?_, ?_, ?_, ?_⟩ <;> simp -dsimp (disch := try exact zo) only [go_sem, eS_in, eP_in, hst, Int.natCast_add, Int.cast_ofNat_Int])), by dsimp only; omega⟩
   ·have hlk : (mfind (mPB R) (pv a)).getD (.bool false) = .bool false := by rw [hfind, if_neg q]; rfl
    have hst : ddP (cornersP (l.take i) ++ svs.take (j + 1)) = R ++ [a] := by rw [hst0]; unfold ddStep; rw [if_neg q]
    have hput := mPB_put R a q
    have hRm : (R ++ [a]).map eP = R.map eP ++ [eP a] := by simp
    clear hst0 hfind
    simp only [pv] at hkey hlk hput
    repeat' (first | refine zg ?_ | (refine AW.cond rfl ?_ ?_ <;> intro hc <;> first | (cases hc; done) | simp only [NM] at hc | skip <;> try (exfalso; omega)) | (refine zr ?_; simp -dsimp (disch := try exact zo) only [go_sem, hl, es1, ea, hlk, kl51, hkey, hko, hput, Int.toNat_natCast, List.length_map, hRl, eS_in, eP_in, List.toList_toArray, hRm] <;> try rfl) | refine ⟨by omega, ?_⟩ | (refine zb ?_ ?_ <;> intro hg <;> (try simp only [NB] at hg) <;> (try rw [hg]) <;> try simp only [NM] at hg) | omega | simp -dsimp (disch := try exact zo) only [go_sem, hl, es1, ea, hlk, kl51, hkey, hko, hput, Int.toNat_natCast, List.length_map, hRl, eS_in, eP_in, List.toList_toArray, hRm])
    all_goals exact AW.stop ⟨⟨j + 1, by omega⟩, (Weak.t4 (by refine ⟨?_, ?_, ?_, ?_⟩ <;> first | (simp -dsimp (disch := try exact zo) only [go_sem, hst, hRm, List.length_append, Int.natCast_add, Int.cast_ofNat_Int]; done) | (simp -dsimp (disch := try exact zo) only [go_sem, eS_in, eP_in, hst, Int.natCast_add, Int.cast_ofNat_Int]; done))), by dsimp only; omega⟩
  ·have hjl : j = svs.length := by omega
   subst hjl
   rw [List.take_length]
   clear hv
   repeat' (first | refine zg ?_ | (refine AW.cond rfl ?_ ?_ <;> intro hc <;> first | (cases hc; done) | simp only [NM] at hc | skip <;> try (exfalso; omega)) | (refine zr ?_; simp -dsimp (disch := try exact zo) only [go_sem, hl, List.length_map] <;> try rfl) | refine ⟨by omega, ?_⟩ | (refine zb ?_ ?_ <;> intro hg <;> (try simp only [NB] at hg) <;> (try rw [hg]) <;> try simp only [NM] at hg) | omega | simp -dsimp (disch := try exact zo) only [go_sem, hl, List.length_map] | contradiction)
   all_goals exact AW.stop ⟨⟨i + 1, by omega⟩, (Weak.t4 (by refine ⟨?_, ?_, ?_, ?_⟩ <;> simp -dsimp (disch := try exact zo) only [go_sem, eS_in, eP_in, hS1, Int.natCast_add, Int.cast_ofNat_Int])), by dsimp only; omega⟩
 ·have hil : i = l.length := by omega
  subst hil
  rw [List.take_length]
  have hvR : ∀ p ∈ ddP (cornersP l), CanP p ∧ BPt 1073741824 p := fun p hp => by
   obtain ⟨s, hs, hps⟩ := List.mem_flatMap.1 (dd_mem.1 hp)
   exact (hv s hs).2 p hps
  have hRl := dd_len (cornersP l)
  unfold vertsP
  generalize ddP (cornersP l) = R at *
  have hSl := sortP_len R
  clear hv
  repeat' (first | refine zg ?_ | (refine AW.cond rfl ?_ ?_ <;> intro hc <;> first | (cases hc; done) | simp only [NM] at hc | skip) | (refine AW.ret (RetF.of ?_); simp -dsimp (disch := try exact zo) only [go_sem, hl, List.length_map, hSl] <;> try (exact ⟨_, rfl, rfl⟩)) | (refine callV.inout1 17 _ _ _ yfn_84 (CallOK.ren (c84 R hvR (by omega)) (eP_inC _) (eP_inC _) (.tup _ (by simp)) (by simp [top0, inClo]) 17) rfl (by simp [In_ref, inClo]) (eP_inC _) (eP_inC _) (.tup _ (by simp)) rfl ?_) | refine ⟨by omega, ?_⟩ | (refine zb ?_ ?_ <;> intro hg <;> (try simp only [NB] at hg) <;> (try rw [hg]) <;> try simp only [NM] at hg) | omega | simp -dsimp (disch := try exact zo) only [go_sem, hl, List.length_map, hSl] | contradiction)
theorem c27 (l : PCell) (hn : l.length ≤ 1048576) (hv : ∀ s ∈ l, s.2.length ≤ 268435456 ∧ ∀ v ∈ s.2, CanP v ∧ BPt 1073741824 v) (hm : (cornersP l).length ≤ 268435456) : CallOK Tryz.prog 27 [.agg [.sl (eS l)]] [] (.sl ((vertsP l).map eP)) [] := (c27f l hn hv hm).ok
end Go.Proofs.Vx
namespace Go.Sx
open Geo (H V Sd)
set_option linter.unusedVariables false
def wpt (x y z : Int) : Pt := ⟨1000 * x, 1000 * y, 1000 * z, 1⟩
def worldP : PCell := [
 (⟨-1, 0, 0, 1000⟩, [wpt (-1) (-1) 1, wpt (-1) 1 1, wpt (-1) 1 (-1), wpt (-1) (-1) (-1)]),
 (⟨1, 0, 0, 1000⟩, [wpt 1 (-1) (-1), wpt 1 1 (-1), wpt 1 1 1, wpt 1 (-1) 1]),
 (⟨0, -1, 0, 1000⟩, [wpt 1 (-1) (-1), wpt 1 (-1) 1, wpt (-1) (-1) 1, wpt (-1) (-1) (-1)]),
 (⟨0, 1, 0, 1000⟩, [wpt (-1) 1 (-1), wpt (-1) 1 1, wpt 1 1 1, wpt 1 1 (-1)]),
 (⟨0, 0, -1, 1000⟩, [wpt (-1) 1 (-1), wpt 1 1 (-1), wpt 1 (-1) (-1), wpt (-1) (-1) (-1)]),
 (⟨0, 0, 1, 1000⟩, [wpt (-1) (-1) 1, wpt 1 (-1) 1, wpt 1 1 1, wpt (-1) 1 1])]
def canB (p : Pt) : Bool := decide (0 < p.w) && decide (g4 p.x p.y p.z p.w = 1)
theorem canB_ok {p : Pt} (h : canB p = true) : CanP p := by
 simp only [canB, Bool.and_eq_true, decide_eq_true_eq] at h
 exact ⟨h.1, h.2⟩
def pvB (s : Sd) : Bool := decide (3 ≤ s.vs.length) && decide s.vs.Nodup && (Geo.edges s.vs).all fun e => s.vs.all fun x => decide (x = e.1) || decide (x = e.2) || decide (0 < Geo.ori s.h.n e.1 e.2 x)
theorem pvB_ok {s : Sd} (h : pvB s = true) : Geo.PV s.h.n s.vs := by
 simp only [pvB, Bool.and_eq_true, decide_eq_true_eq, List.all_eq_true, Bool.or_eq_true] at h
 exact ⟨h.1.1, h.1.2, fun e he x hx h1 h2 => (h.2 e he x hx).elim (fun h => h.elim (fun h => absurd h h1) fun h => absurd h h2) id⟩
def apB (xs : List V) (h g : H) : Bool := xs.any fun x => decide (h.at x = 0) && decide (g.at x ≠ 0)
theorem apB_ok {xs : List V} {h g : H} (k : apB xs h g = true) : ¬ Geo.Prp h g := by
 simp only [apB, List.any_eq_true, Bool.and_eq_true, decide_eq_true_eq] at k
 obtain ⟨x, _, h1, h2⟩ := k
 rintro ⟨c, hc, e⟩
 have := e x
 grind
def cellB (c : List Sd) : Bool := c.all pvB && (c.all fun s => s.vs.all fun v => decide (s.h.at v = 0)) && (c.all fun s => c.all fun t => t.vs.all fun v => decide (s.h.at v ≤ 0)) &&
 (Geo.E c).isPerm ((Geo.E c).map Geo.sw) && decide (Geo.E c).Nodup && decide (4 ≤ c.length) && decide (c.Pairwise fun s t => apB (c.flatMap (·.vs)) s.h t.h = true)
theorem cellB_ok {c : List Sd} (h : cellB c = true) : Geo.Cell c := by
 simp only [cellB, Bool.and_eq_true, decide_eq_true_eq, List.all_eq_true, List.isPerm_iff] at h
 obtain ⟨⟨⟨⟨⟨⟨h1, h2⟩, h3⟩, h4⟩, h5⟩, h6⟩, h7⟩ := h
 exact ⟨fun s hs => pvB_ok (h1 s hs), h2, h3, h4, h5, h6, h7.imp fun h => apB_ok h⟩
theorem world_cell : CellOK worldP := by
 refine ⟨⟨fun s hs v hv => ?_⟩, cellB_ok (by decide +kernel)⟩
 have : (worldP.all fun s => s.2.all canB) = true := by decide +kernel
 exact canB_ok (List.all_eq_true.1 (List.all_eq_true.1 this s hs) v hv)
end Go.Sx
namespace Go.Sx
open Geo (H V Sd)
set_option linter.unusedVariables false
theorem tv_mkP (a b c : Rat) : tv (mkP a b c) = ⟨a, b, c⟩ := by
 have ha : (a.den : Int) ≠ 0 := by have := a.den_nz; omega
 have hb : (b.den : Int) ≠ 0 := by have := b.den_nz; omega
 have hc : (c.den : Int) ≠ 0 := by have := c.den_nz; omega
 have hD : 1 * (a.den : Int) * (b.den : Int) * (c.den : Int) ≠ 0 := Int.mul_ne_zero (Int.mul_ne_zero (by simpa using ha) hb) hc
 have key : ∀ (q : Rat) (k : Int), k ≠ 0 → ((q.num * k : Int) : Rat) / (((q.den : Int) * k : Int) : Rat) = q := by
  intro q k hk
  have h := Rat.divInt_mul_right (n := q.num) (d := (q.den : Int)) hk
  rw [← Rat.divInt_eq_div, h, Rat.num_divInt_den]
 unfold mkP
 rw [tv_nrm hD]
 have e1 : 1 * (a.den : Int) * (b.den : Int) * (c.den : Int) / (a.den : Int) = (b.den : Int) * (c.den : Int) := by
  rw [Int.one_mul, Int.mul_assoc]; exact Int.mul_ediv_cancel_left _ ha
 have e2 : 1 * (a.den : Int) * (b.den : Int) * (c.den : Int) / (b.den : Int) = (a.den : Int) * (c.den : Int) := by
  rw [Int.one_mul, Int.mul_comm (a.den : Int), Int.mul_assoc]; exact Int.mul_ediv_cancel_left _ hb
 have e3 : 1 * (a.den : Int) * (b.den : Int) * (c.den : Int) / (c.den : Int) = (a.den : Int) * (b.den : Int) := by
  rw [Int.one_mul]; exact Int.mul_ediv_cancel _ hc
 rw [e1, e2, e3]
 apply V.ext
 ·rw [show 1 * (a.den : Int) * (b.den : Int) * (c.den : Int) = (a.den : Int) * ((b.den : Int) * (c.den : Int)) by rw [Int.one_mul, Int.mul_assoc]]
  exact key a _ (Int.mul_ne_zero hb hc)
 ·rw [show 1 * (a.den : Int) * (b.den : Int) * (c.den : Int) = (b.den : Int) * ((a.den : Int) * (c.den : Int)) by rw [Int.one_mul, Int.mul_comm (a.den : Int), Int.mul_assoc]]
  exact key b _ (Int.mul_ne_zero ha hc)
 ·rw [show 1 * (a.den : Int) * (b.den : Int) * (c.den : Int) = (c.den : Int) * ((a.den : Int) * (b.den : Int)) by rw [Int.one_mul, Int.mul_comm (c.den : Int)]]
  exact key c _ (Int.mul_ne_zero ha hb)
theorem mkP_can (a b c : Rat) : CanP (mkP a b c) := nrm_isCan _ _ _ _
end Go.Sx
namespace Go.Sx
open Geo (H V Sd)
set_option linter.unusedVariables false
structure Bd (S M K : Nat) (l : PCell) : Prop where
 n : l.length ≤ S
 m : ∀ s ∈ l, s.2.length ≤ M
 k : ∀ s ∈ l, ∀ v ∈ s.2, BPt K v
 p : ∀ s ∈ l, BPl K s.1
theorem Bd.mono {S M K S' M' K' : Nat} {l : PCell} (h : Bd S M K l) (h1 : S ≤ S') (h2 : M ≤ M') (h3 : K ≤ K') : Bd S' M' K' l :=
 ⟨Nat.le_trans h.n h1, fun s hs => Nat.le_trans (h.m s hs) h2, fun s hs v hv => (h.k s hs v hv).mono h3, fun s hs => (h.p s hs).mono h3⟩
theorem partI_len (h : Int) (b : Pl) (vs : List Pt) : (partI h b vs).length ≤ 2 * vs.length := by
 rw [← partT_all]; exact partT_length h b vs vs.length
theorem partI_bs {h : Int} {b : Pl} {vs : List Pt} {k K : Nat} (hb : BPl k b) (hv : ∀ v ∈ vs, BPt K v) : ∀ v ∈ partI h b vs, BPt (k + 2 * K + 4) v := by
 intro v hvm
 unfold partI at hvm
 obtain ⟨e, he, hvm⟩ := List.mem_flatMap.1 hvm
 unfold pc at hvm
 rcases List.mem_append.1 hvm with hvm | hvm
 ·split at hvm
  ·obtain rfl : v = e.1 := by simpa using hvm
   exact (hv _ (Geo.mem_fst he)).mono (by omega)
  ·simp at hvm
 ·split at hvm
  ·obtain rfl : v = _ := by simpa using hvm
   exact meet_bs hb (hv _ (Geo.mem_fst he)) (hv _ (Geo.mem_snd he))
  ·simp at hvm
theorem bh_bd {b : Pl} {l : PCell} {S M K k : Nat} (h : Bd S M K l) (hb : BPl k b) : Bd S (2 * M) (k + 2 * K + 4) (bh b l) := by
 refine ⟨Nat.le_trans (List.length_filterMap_le _ _) h.n, fun s hs => ?_, fun s hs v hv => ?_, fun s hs => ?_⟩
 all_goals
  obtain ⟨t, ht, e⟩ := List.mem_filterMap.1 hs
  by_cases hq : someT (-1) b t.2 t.2.length = true
  rotate_left
  ·rw [if_neg hq] at e; contradiction
  rw [if_pos hq] at e
  obtain rfl := Option.some.inj e
 ·have := partI_len (-1) b t.2
  have := h.m t ht
  show (partI (-1) b t.2).length ≤ _
  omega
 ·exact partI_bs hb (h.k t ht) v hv
 ·exact (h.p t ht).mono (by omega)
theorem capP_bs {b : Pl} {l : PCell} {K : Nat} (h : ∀ s ∈ l, ∀ v ∈ s.2, BPt K v) : ∀ v ∈ capP b l, BPt K v := by
 have hI : MInv K (foldS b l) := by
  have f1 : ∀ (es : List (Pt × Pt)) (s : MS), MInv K s → (∀ e ∈ es, BPt K e.1 ∧ BPt K e.2) → MInv K (foldE b s es) := by
   intro es
   induction es with
   | nil => intro s h _; exact h
   | cons e es ih => intro s h he; exact ih _ (h.step (he _ (by simp))) fun q hq => he q (by simp [hq])
  rw [foldS_es]
  refine f1 _ _ ⟨by simp, by simp, BPt_zero K⟩ fun e he => ?_
  obtain ⟨s, hs, he⟩ := List.mem_flatMap.1 he
  exact ⟨h s hs _ (Geo.mem_fst he), h s hs _ (Geo.mem_snd he)⟩
 intro v hv
 unfold capP at hv
 have key : ∀ n x, BPt K x → ∀ v ∈ runP' (nxP (foldS b l).1) n x, BPt K v := by
  intro n
  induction n with
  | zero => intro x _ v hv; simp [runP'] at hv
  | succ n ih =>
   intro x hx v hv
   rcases List.mem_cons.1 hv with rfl | hv
   ·exact hx
   ·exact ih _ (find_bt hI.bt) v hv
 exact key _ _ hI.fb v hv
theorem bcell_bd {b : Pl} {l : PCell} {S M K k : Nat} (hc : CellOK l) (hS : Geo.Spl (sds l) (tH b)) (h : Bd S M K l) (hb : BPl k b) (hSM : S ≤ 2 * M) : Bd (S + 1) (2 * M) (k + 2 * K + 4) (bcell b l) := by
 have h1 := bh_bd h hb
 have h2 := (cap_ok3 hc hS).2.2.1
 refine ⟨?_, fun s hs => ?_, fun s hs v hv => ?_, fun s hs => ?_⟩
 ·unfold bcell; rw [List.length_append]; have := h1.n; simp only [List.length_cons, List.length_nil]; omega
 all_goals rcases List.mem_append.1 hs with hs | hs
 ·exact h1.m s hs
 ·obtain rfl : s = _ := by simpa using hs
  have := h1.n
  show (capP b (bh b l)).length ≤ _
  omega
 ·exact h1.k s hs v hv
 ·obtain rfl : s = _ := by simpa using hs
  exact capP_bs h1.k v hv
 ·exact h1.p s hs
 ·obtain rfl : s = _ := by simpa using hs
  exact hb.mono (by omega)
theorem Bd.nil {S M K : Nat} : Bd S M K [] := ⟨Nat.zero_le _, by simp, by simp, by simp⟩
theorem split_bd {b : Pl} {l : PCell} {S M K k : Nat} (hc : OkC l) (h : Bd S M K l) (hb : BPl k b) (hSM : S ≤ 2 * M) : Bd (S + 1) (2 * M) (k + 2 * K + 4) (splitP b l).1 ∧ Bd (S + 1) (2 * M) (k + 2 * K + 4) (splitP b l).2 := by
 rcases hc with rfl | hc
 ·exact ⟨Bd.nil, Bd.nil⟩
 ·have hm := h.mono (S' := S + 1) (M' := 2 * M) (K' := k + 2 * K + 4) (by omega) (by omega) (by omega)
  unfold splitP
  by_cases hf : frontB b l = false
  ·rw [if_pos hf]; exact ⟨hm, Bd.nil⟩
  ·rw [if_neg hf]
   by_cases hbb : behindB b l = false
   ·rw [if_pos hbb]; exact ⟨Bd.nil, hm⟩
   ·rw [if_neg hbb]
    have hf' : frontB b l = true := by simpa using hf
    have hb' : behindB b l = true := by simpa using hbb
    exact ⟨bcell_bd hc (spl_of hc hf' hb') h hb hSM, bcell_bd hc (spl_of hc (by rw [front_neg]; exact hb') (by rw [behind_neg]; exact hf')) h hb.neg hSM⟩
def cutStep (c : PCell) (p : Pl) : PCell := if (splitP p c).1 = [] then c else (splitP p c).1
def cutP (ps : List Pl) : PCell := ps.foldl cutStep worldP
theorem cutStep_ok {c : PCell} {p : Pl} (h : CellOK c) : CellOK (cutStep c p) := by
 unfold cutStep
 split
 ·exact h
 ·rename_i hne
  exact (split_ok h).1.elim (fun e => absurd e hne) id
theorem cutP_ok (ps : List Pl) : CellOK (cutP ps) := by
 have key : ∀ (ps : List Pl) (c : PCell), CellOK c → CellOK (ps.foldl cutStep c) := by
  intro ps
  induction ps with
  | nil => intro c h; exact h
  | cons p ps ih => intro c h; exact ih _ (cutStep_ok h)
 exact key ps _ world_cell
theorem cutStep_bd {c : PCell} {p : Pl} {S M K k : Nat} (hc : CellOK c) (h : Bd S M K c) (hb : BPl k p) (hSM : S ≤ 2 * M) : Bd (S + 1) (2 * M) (k + 2 * K + 4) (cutStep c p) := by
 unfold cutStep
 split
 ·exact h.mono (by omega) (by omega) (by omega)
 ·exact (split_bd (.inr hc) h hb hSM).1
theorem world_bd : Bd 6 4 2 worldP := by
 refine ⟨by decide, by decide, fun s hs v hv => ?_, fun s hs => ?_⟩
 ·have : (worldP.all fun s => s.2.all fun v => decide ((Zm v.x).size ≤ 2 ∧ (Zm v.y).size ≤ 2 ∧ (Zm v.z).size ≤ 2 ∧ (Zm v.w).size ≤ 2)) = true := by simp only [Zm_size]; decide
  have h := of_decide_eq_true (List.all_eq_true.1 (List.all_eq_true.1 this s hs) v hv)
  exact ⟨⟨h.1, h.2.1, h.2.2.1, h.2.2.2⟩⟩
 ·have : (worldP.all fun s => decide ((Zm s.1.a).size ≤ 2 ∧ (Zm s.1.b).size ≤ 2 ∧ (Zm s.1.c).size ≤ 2 ∧ (Zm s.1.d).size ≤ 2)) = true := by simp only [Zm_size]; decide
  have h := of_decide_eq_true (List.all_eq_true.1 this s hs)
  exact ⟨⟨h.1, h.2.1, h.2.2.1, h.2.2.2⟩⟩
def kB : Nat → Nat
 | 0 => 3
 | n + 1 => 3 + 2 * kB n + 4
theorem mono_kB {j n : Nat} (h : j ≤ n) : 4 * 2 ^ j ≤ 4 * 2 ^ n ∧ kB j ≤ kB n := by
 induction n with
 | zero => have : j = 0 := by omega
           subst this; exact ⟨Nat.le_refl _, Nat.le_refl _⟩
 | succ n ih =>
  by_cases e : j = n + 1
  ·subst e; exact ⟨Nat.le_refl _, Nat.le_refl _⟩
  ·have := ih (by omega)
   simp only [kB, Nat.pow_succ]
   omega
theorem cutP_bd {ps : List Pl} (hb : ∀ p ∈ ps, BPl 3 p) (n : Nat) (hn : ps.length ≤ n) (hn8 : n ≤ 8) : Bd (6 + n) (4 * 2 ^ n) (kB n) (cutP ps) := by
 have key : ∀ (ps : List Pl), (∀ p ∈ ps, BPl 3 p) → ∀ (j : Nat) (c : PCell), j + ps.length ≤ n → CellOK c → Bd (6 + j) (4 * 2 ^ j) (kB j) c → Bd (6 + n) (4 * 2 ^ n) (kB n) (ps.foldl cutStep c) := by
  intro ps
  induction ps with
  | nil => intro _ j c hj hc h; have := mono_kB (j := j) (n := n) (by simpa using hj); exact h.mono (by simp at hj; omega) this.1 this.2
  | cons p ps ih =>
   intro hp j c hj hc h
   simp only [List.length_cons] at hj
   have hSM : 6 + j ≤ 2 * (4 * 2 ^ j) := by
    have : j < 2 ^ j := Nat.lt_two_pow_self
    omega
   have h2 := cutStep_bd hc h (hp p (by simp)) hSM
   refine ih (fun q hq => hp q (by simp [hq])) (j + 1) _ (by omega) (cutStep_ok hc) ?_
   have e1 : 4 * 2 ^ (j + 1) = 2 * (4 * 2 ^ j) := by rw [Nat.pow_succ]; omega
   rw [e1]
   exact h2
 exact key ps hb 0 worldP (by simpa using hn) world_cell (world_bd.mono (by omega) (by decide) (by decide))
end Go.Sx
namespace Go.Sx
set_option linter.unusedVariables false
theorem CallOK.wk {P : Program} {f : Nat} {args : List AV} {pre post : List (Nat × AV)} {r r' : AV} (h : CallOK P f args pre r post) (hr : ∀ g v, Rel g r v → Rel g r' v) : CallOK P f args pre r' post := by
 intro g vals h1 h2 h3
 refine (h g vals h1 h2 h3).mono ?_
 rintro e w' ⟨v, g', k1, k2, k3, k4, k5, k6⟩
 exact ⟨v, g', k1, k2, k3, k4, k5, hr _ _ k6⟩
theorem rel_nil {g : Gh} {v : Value} (h : Rel g (.lit (.slice none 0 0)) v) : Rel g (.sl []) v := by cases h; exact .slnil
theorem rel_cell0 {g : Gh} {v : Value} (h : Rel g (.agg [.lit (.slice none 0 0)]) v) : Rel g (.agg [.sl []]) v := by
 cases h with
 | agg _ vs hs h1 h =>
  refine .agg _ _ hs h1 fun i h2 h3 => ?_
  have hi : i = 0 := by simpa using h2
  subst hi
  exact rel_nil (h 0 (by simp) h3)
theorem rel_pair {g : Gh} {a b a' b' : AV} {v : Value} (ha : ∀ v, Rel g a v → Rel g a' v) (hb : ∀ v, Rel g b v → Rel g b' v) (h : Rel g (.tup [a, b]) v) : Rel g (.tup [a', b']) v := by
 cases h with
 | tup _ vs hs h =>
  refine .tup _ _ hs fun i h2 h3 => ?_
  match i, h2 with
  | 0, _ => exact ha _ (h 0 (by simp) h3)
  | 1, _ => exact hb _ (h 1 (by simp) h3)
def kept (h : Int) (b : Pl) (l : PCell) : PCell := l.filterMap fun s => if someT h b s.2 s.2.length then some (s.1, partI h b s.2) else none
theorem kept_bh (b : Pl) (l : PCell) : kept (-1) b l = bh b l := rfl
theorem kept_bh' {b : Pl} {l : PCell} (h : CanC l) : kept 1 b l = bh (negP b) l := by
 unfold kept bh
 induction l with
 | nil => rfl
 | cons s l ih =>
  rw [List.filterMap_cons, List.filterMap_cons, someT_neg, partI_neg (h.w (s := s) (by simp)), ih ⟨fun t ht => h.can t (by simp [ht])⟩]
theorem kept_succ (h : Int) (b : Pl) (l : PCell) (i : Nat) (hi : i < l.length) : kept h b (l.take (i + 1)) = kept h b (l.take i) ++ (if someT h b l[i].2 l[i].2.length then [(l[i].1, partI h b l[i].2)] else []) := by
 unfold kept
 rw [List.take_succ_eq_append_getElem hi, List.filterMap_append]
 congr 1
 simp only [List.filterMap_cons, List.filterMap_nil]
 split <;> simp_all
theorem kept_len (h : Int) (b : Pl) (l : PCell) : (kept h b l).length ≤ l.length := List.length_filterMap_le _ _
theorem some_ne {h : Int} (hh : h ≠ 0) {b : Pl} {vs : List Pt} (hs : someT h b vs vs.length = true) : partI h b vs ≠ [] := by
 unfold someT at hs
 rw [List.take_length] at hs
 obtain ⟨v, hv, e⟩ := List.any_eq_true.1 hs
 have e := of_decide_eq_true e
 rw [← Geo.edges_fst vs] at hv
 obtain ⟨ed, he, rfl⟩ := List.mem_map.1 hv
 intro hn
 have : ed.1 ∈ partI h b vs := List.mem_flatMap.2 ⟨ed, he, List.mem_append_left _ (by rw [if_pos (by omega)]; simp)⟩
 rw [hn] at this
 simp at this
theorem verts_any (l : PCell) (f : Pt → Bool) : (vertsP l).any f = l.any fun s => s.2.any f := by
 apply Bool.eq_iff_iff.2
 simp only [List.any_eq_true]
 constructor
 ·rintro ⟨v, hv, h⟩
  obtain ⟨s, hs, hv⟩ := verts_mem.1 hv
  exact ⟨s, hs, v, hv, h⟩
 ·rintro ⟨s, hs, v, hv, h⟩
  exact ⟨v, verts_mem.2 ⟨s, hs, hv⟩, h⟩
def anyT (f : Pt → Bool) (vs : List Pt) (i : Nat) : Bool := (vs.take i).any f
theorem anyT_zero (f : Pt → Bool) (vs : List Pt) : anyT f vs 0 = false := rfl
theorem anyT_succ (f : Pt → Bool) (vs : List Pt) (i : Nat) (hi : i < vs.length) : anyT f vs (i + 1) = (anyT f vs i || f vs[i]) := by
 unfold anyT
 rw [List.take_succ_eq_append_getElem hi, List.any_append]
 simp
theorem anyT_all (f : Pt → Bool) (vs : List Pt) : anyT f vs vs.length = vs.any f := by unfold anyT; rw [List.take_length]
theorem verts_len_le (l : PCell) : (vertsP l).length ≤ (cornersP l).length := by unfold vertsP; rw [sortP_len]; exact dd_len _
end Go.Sx
