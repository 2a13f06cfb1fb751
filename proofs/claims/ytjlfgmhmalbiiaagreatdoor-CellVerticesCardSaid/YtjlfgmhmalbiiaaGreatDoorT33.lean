import Derived.Test.YtjlfgmhmalbiiaaGreatDoorProg
import Derived.Test.YtjlfgmhmalbiiaaGreatDoorT10
import Derived.Test.YtjlfgmhmalbiiaaGreatDoorT27
import Derived.Test.YtjlfgmhmalbiiaaGreatDoorT32
set_option linter.all false
namespace Go.Proofs.Vx
open Go Go.Sx Go.Proofs
attribute [local irreducible] fnT CallOK CallFr AW effV callV runP runO oneP oneO gcaseP hid
theorem yfn_30 : fnT Tryz.prog 30 = true := by kernel_rfl
theorem yfn_91 : fnT Tryz.prog 91 = true := by kernel_rfl
theorem yfn_92 : fnT Tryz.prog 92 = true := by kernel_rfl
theorem yfn_93 : fnT Tryz.prog 93 = true := by kernel_rfl
theorem yfn_158 : fnT Tryz.prog 158 = true := by kernel_rfl
theorem yfn_159 : fnT Tryz.prog 159 = true := by kernel_rfl
set_option maxHeartbeats 1600000 in
theorem c158 (p : Pl) (vs : List Pt) (x : Pt) (hp : BPl 1073741824 p) (hx : BPt 1073741824 x) : CallOK Tryz.prog 158 [.agg (eG p vs), .fp (eP x)] [] (.lit (.bool (decide (0 < sideP p x)))) [] := by
 refine CallOK.flat Tryz.func158 rfl 9 rfl rfl rfl [.tmp 3] (congrArg Array.toList Tryz.results158) ?_
 simp only [startT, Nat.reduceAdd]
 simp only [eG]
 repeat' (first | refine zg ?_ | (refine AW.cond rfl ?_ ?_ <;> intro hc <;> first | (cases hc; done) | simp only [NM] at hc | skip <;> try (exfalso; omega)) | (refine zr ?_; simp -dsimp (disch := try exact zo) only [go_sem, eH, e4] <;> try rfl) | (refine callV.flat _ yfn_34 (c34 p x hp hx) rfl rfl ?_) | refine ⟨by omega, ?_⟩ | (refine zb ?_ ?_ <;> intro hg <;> (try simp only [NB] at hg) <;> (try rw [hg]) <;> try simp only [NM] at hg) | omega | simp -dsimp (disch := try exact zo) only [go_sem, eH, e4] | contradiction)
set_option maxHeartbeats 1600000 in
theorem c93 (p : Pl) (vs : List Pt) (x : Pt) (hp : BPl 1073741824 p) (hx : BPt 1073741824 x) : CallOK Tryz.prog 93 [.agg (eG p vs), .fp (eP x)] [] (.lit (.bool (decide (sideP p x = 0)))) [] := by
 refine CallOK.flat Tryz.func93 rfl 9 rfl rfl rfl [.tmp 3] (congrArg Array.toList Tryz.results93) ?_
 simp only [startT, Nat.reduceAdd]
 simp only [eG]
 repeat' (first | refine zg ?_ | (refine AW.cond rfl ?_ ?_ <;> intro hc <;> first | (cases hc; done) | simp only [NM] at hc | skip <;> try (exfalso; omega)) | (refine zr ?_; simp -dsimp (disch := try exact zo) only [go_sem, eH, e4] <;> try rfl) | (refine callV.flat _ yfn_34 (c34 p x hp hx) rfl rfl ?_) | refine ⟨by omega, ?_⟩ | (refine zb ?_ ?_ <;> intro hg <;> (try simp only [NB] at hg) <;> (try rw [hg]) <;> try simp only [NM] at hg) | omega | simp -dsimp (disch := try exact zo) only [go_sem, eH, e4] | contradiction)
theorem eP_in1 {K : Nat → Prop} (x : Pt) : (∀ c ∈ eP x, In K c) = True := eq_true fun c hc => (eP_flat [x] (eP x) (by simp) c hc).inn
def idxP (t : Pl × List Pt → Bool) (l : PCell) : Int := if l.any t then (l.findIdx t : Int) else -1
theorem idxP_at {t : Pl × List Pt → Bool} {l : PCell} {i : Nat} (h : i < l.length) (hb : ∀ j (hj : j < i), t (l[j]'(by omega)) = false) (hi : t l[i] = true) : idxP t l = i := by
 unfold idxP
 rw [if_pos (List.any_eq_true.2 ⟨l[i], List.getElem_mem h, hi⟩)]
 have : l.findIdx t = i := (List.findIdx_eq h).2 ⟨hi, fun j hj => hb j hj⟩
 rw [this]
theorem idxP_no {t : Pl × List Pt → Bool} {l : PCell} (hb : ∀ j (hj : j < l.length), t l[j] = false) : idxP t l = -1 := by
 unfold idxP
 rw [if_neg]
 rw [Bool.not_eq_true, List.any_eq_false]
 intro s hs
 obtain ⟨j, hj, rfl⟩ := List.mem_iff_getElem.1 hs
 rw [hb j hj]; decide
theorem idxP_nonneg (t : Pl × List Pt → Bool) (l : PCell) : (decide (0 ≤ idxP t l)) = l.any t := by
 unfold idxP
 by_cases h : l.any t = true
 ·rw [if_pos h, h]; simp
 ·rw [if_neg h]; simp only [Bool.not_eq_true] at h; rw [h]; decide
set_option maxHeartbeats 1600000 in
theorem c159 (l : PCell) (k : Nat) (x : Pt) (t : Pl × List Pt → Bool) (hn : l.length ≤ 1048576) (hk : fnT Tryz.prog k = true) (ck : ∀ s ∈ l, CallOK Tryz.prog k [.agg (eG s.1 s.2), .fp (eP x)] [] (.lit (.bool (t s))) []) : CallOK Tryz.prog 159 [.sl (eS l), .clo k [.fp (eP x)]] [] (.lit (.int .i64 (idxP t l))) [] := by
 refine CallOK.flat Tryz.func159 rfl 19 rfl rfl rfl [.tmp 4] (congrArg Array.toList Tryz.results159) ?_
 simp only [startT, Nat.reduceAdd]
 have hml : maxLen = 9223372036854775807 := rfl
 have hl : (eS l).length = l.length := List.length_map _
 repeat' (first | refine zg ?_ | (refine AW.cond rfl ?_ ?_ <;> intro hc <;> first | (cases hc; done) | simp only [NM] at hc | skip) | (refine zr ?_; simp -dsimp (disch := try exact zo) only [go_sem, hl] <;> try rfl) | refine ⟨by omega, ?_⟩ | (refine zb ?_ ?_ <;> intro hg <;> (try simp only [NB] at hg) <;> (try rw [hg]) <;> try simp only [NM] at hg) | omega | simp -dsimp (disch := try exact zo) only [go_sem, hl] | contradiction)
 refine AW.loop (fun z : {i : Nat // i ≤ l.length ∧ ∀ j (hj : j < i) (h : j < l.length), t l[j] = false} => ⟨[(8, .lit (.int .i64 z.1)), (7, .lit (.int .i64 l.length)), (0, .sl (eS l)), (1, .clo k [.fp (eP x)])], [], 60⟩) (fun z => l.length - z.1) ⟨0, Nat.zero_le _, fun j hj => by omega⟩ (Weak.t4 (by refine ⟨?_, ?_, ?_, ?_⟩ <;> simp -dsimp (disch := try exact zo) only [go_sem, eS_in, eP_in1, Int.natCast_add, Int.cast_ofNat_Int])) ?_
 rintro ⟨i, hi, hb⟩
 dsimp only
 by_cases hlt : i < l.length
 ·have es1 := eS_getD l i hlt
  have cq := ck l[i] (List.getElem_mem hlt)
  by_cases q : t l[i] = true
  ·rw [idxP_at hlt (fun j hj => hb j hj (by omega)) q]
   rw [q] at cq
   clear hb ck
   generalize l[i] = s at *
   obtain ⟨sp, svs⟩ := s
   simp only [eG] at es1 cq
   repeat' (first | refine zg ?_ | (refine AW.cond rfl ?_ ?_ <;> intro hc <;> first | (cases hc; done) | simp only [NM] at hc | skip <;> try (exfalso; omega)) | (refine zr ?_; simp -dsimp (disch := try exact zo) only [go_sem, hl, es1, Int.toNat_natCast, eS_in] <;> try rfl) | (refine callV.plain _ hk cq (by simp -dsimp (disch := try exact zo) only [go_sem, eP_in, eP_in1]) (.lit _) ?_) | refine ⟨by omega, ?_⟩ | (refine zb ?_ ?_ <;> intro hg <;> (try simp only [NB] at hg) <;> (try rw [hg]) <;> try simp only [NM] at hg) | omega | simp -dsimp (disch := try exact zo) only [go_sem, hl, es1, Int.toNat_natCast, eS_in] | contradiction)
  ·have hb' : ∀ j (hj : j < i + 1) (h : j < l.length), t l[j] = false := fun j hj h => by
    by_cases e : j = i
    ·subst e; simpa using q
    ·exact hb j (by omega) h
   simp only [Bool.not_eq_true] at q
   rw [q] at cq
   clear hb ck q
   generalize l[i] = s at *
   obtain ⟨sp, svs⟩ := s
   simp only [eG] at es1 cq
   generalize hQ : idxP t l = Q
   replace hb' := Hid.mk hb'
   repeat' (first | refine zg ?_ | (refine AW.cond rfl ?_ ?_ <;> intro hc <;> first | (cases hc; done) | simp only [NM] at hc | skip <;> try (exfalso; omega)) | (refine zr ?_; simp -dsimp (disch := try exact zo) only [go_sem, hl, es1, Int.toNat_natCast, eS_in] <;> try rfl) | (refine callV.plain _ hk cq (by simp -dsimp (disch := try exact zo) only [go_sem, eP_in, eP_in1]) (.lit _) ?_) | refine ⟨by omega, ?_⟩ | (refine zb ?_ ?_ <;> intro hg <;> (try simp only [NB] at hg) <;> (try rw [hg]) <;> try simp only [NM] at hg) | omega | simp -dsimp (disch := try exact zo) only [go_sem, hl, es1, Int.toNat_natCast, eS_in] | contradiction)
   all_goals exact AW.stop ⟨⟨i + 1, by omega, hb'.out⟩, (Weak.t4 (by refine ⟨?_, ?_, ?_, ?_⟩ <;> simp -dsimp (disch := try exact zo) only [go_sem, eS_in, eP_in1, Int.natCast_add, Int.cast_ofNat_Int])), by dsimp only; omega⟩
 ·have hil : i = l.length := by omega
  rw [idxP_no (fun j hj => hb j (by omega) hj)]
  clear hb ck
  subst hil
  repeat' (first | refine zg ?_ | (refine AW.cond rfl ?_ ?_ <;> intro hc <;> first | (cases hc; done) | simp only [NM] at hc | skip <;> try (exfalso; omega)) | (refine zr ?_; simp -dsimp (disch := try exact zo) only [go_sem, hl] <;> try rfl) | refine ⟨by omega, ?_⟩ | (refine zb ?_ ?_ <;> intro hg <;> (try simp only [NB] at hg) <;> (try rw [hg]) <;> try simp only [NM] at hg) | omega | simp -dsimp (disch := try exact zo) only [go_sem, hl] | contradiction)
set_option maxHeartbeats 1600000 in
theorem c92 (l : PCell) (k : Nat) (x : Pt) (t : Pl × List Pt → Bool) (hn : l.length ≤ 1048576) (hk : fnT Tryz.prog k = true) (ck : ∀ s ∈ l, CallOK Tryz.prog k [.agg (eG s.1 s.2), .fp (eP x)] [] (.lit (.bool (t s))) []) : CallOK Tryz.prog 92 [.sl (eS l), .clo k [.fp (eP x)]] [] (.lit (.bool (l.any t))) [] := by
 refine CallOK.flat Tryz.func92 rfl 9 rfl rfl rfl [.tmp 4] (congrArg Array.toList Tryz.results92) ?_
 simp only [startT, Nat.reduceAdd]
 have cq := c159 l k x t hn hk ck
 rw [← idxP_nonneg]
 have hr : idxP t l < 2147483648 ∧ -2 < idxP t l := by
  unfold idxP
  split
  ·have := List.findIdx_le_length (xs := l) (p := t)
   omega
  ·omega
 generalize idxP t l = r at *
 clear ck
 repeat' (first | refine zg ?_ | (refine AW.cond rfl ?_ ?_ <;> intro hc <;> first | (cases hc; done) | simp only [NM] at hc | skip <;> try (exfalso; omega)) | (refine zr ?_; simp -dsimp (disch := try exact zo) only [go_sem] <;> try rfl) | (refine callV.plain _ yfn_159 cq (by simp -dsimp (disch := try exact zo) only [go_sem, eS_in, eP_in1]) (.lit _) ?_) | refine ⟨by omega, ?_⟩ | (refine zb ?_ ?_ <;> intro hg <;> (try simp only [NB] at hg) <;> (try rw [hg]) <;> try simp only [NM] at hg) | omega | simp -dsimp (disch := try exact zo) only [go_sem] | contradiction)
def outP (l : PCell) (x : Pt) : Bool := l.any fun s => decide (0 < sideP s.1 x)
def onP (l : PCell) (x : Pt) : Bool := l.any fun s => decide (sideP s.1 x = 0)
def classP (l : PCell) (x : Pt) : Int := if l = [] then -1 else if outP l x then -1 else if onP l x then 0 else 1
set_option maxHeartbeats 1600000 in
theorem c91 (l : PCell) (x : Pt) (hn : l.length ≤ 1048576) (hp : ∀ s ∈ l, BPl 1073741824 s.1) (hx : BPt 1073741824 x) : CallOK Tryz.prog 91 [.agg [.sl (eS l)], .agg (eP x)] [] (.lit (.bool (outP l x))) [] := by
 refine CallOK.flat Tryz.func91 rfl 9 rfl rfl rfl [.tmp 4] (congrArg Array.toList Tryz.results91) ?_
 simp only [startT, Nat.reduceAdd]
 have cq := c92 l 158 x (fun s => decide (0 < sideP s.1 x)) hn yfn_158 fun s hs => c158 s.1 s.2 x (hp s hs) hx
 unfold outP
 generalize (l.any fun s => decide (0 < sideP s.1 x)) = r at *
 clear hp
 simp only [eP, e4] at cq
 simp only [eP, e4]
 repeat' (first | refine zg ?_ | (refine AW.cond rfl ?_ ?_ <;> intro hc <;> first | (cases hc; done) | simp only [NM] at hc | skip <;> try (exfalso; omega)) | (refine zr ?_; simp -dsimp (disch := try exact zo) only [go_sem] <;> try rfl) | (refine callV.lend _ yfn_92 (by simp -dsimp (disch := try exact zo) only [go_sem]; exact cq) (by simp -dsimp (disch := try exact zo) only [go_sem, eS_in]) (.lit _) ?_) | refine ⟨by omega, ?_⟩ | (refine zb ?_ ?_ <;> intro hg <;> (try simp only [NB] at hg) <;> (try rw [hg]) <;> try simp only [NM] at hg) | omega | simp -dsimp (disch := try exact zo) only [go_sem] | contradiction)
set_option maxHeartbeats 1600000 in
theorem c30 (l : PCell) (x : Pt) (hn : l.length ≤ 1048576) (hp : ∀ s ∈ l, BPl 1073741824 s.1) (hx : BPt 1073741824 x) : CallOK Tryz.prog 30 [.agg [.sl (eS l)], .agg (eP x)] [] (.lit (.int .i64 (classP l x))) [] := by
 refine CallOK.flat Tryz.func30 rfl 18 rfl rfl rfl [.tmp 4] (congrArg Array.toList Tryz.results30) ?_
 simp only [startT, Nat.reduceAdd]
 have co := c91 l x hn hp hx
 have cq := c92 l 93 x (fun s => decide (sideP s.1 x = 0)) hn yfn_93 fun s hs => c93 s.1 s.2 x (hp s hs) hx
 have hl : (eS l).length = l.length := List.length_map _
 have hl0 : (l = []) = ((l.length : Int) = 0) := by
  cases l with
  | nil => simp
  | cons a l => simp; omega
 unfold classP
 simp only [hl0]
 change CallOK _ _ _ _ (.lit (.bool (onP l x))) _ at cq
 generalize outP l x = o at *
 generalize onP l x = r at *
 clear hp hl0
 simp only [eP, e4] at cq co
 simp only [eP, e4]
 by_cases h0 : (l.length : Int) = 0
 ·simp only [h0, if_true]
  have hd : True := trivial
  repeat' (first | refine zg ?_ | (refine AW.cond rfl ?_ ?_ <;> intro hc <;> first | (cases hc; done) | simp only [NM] at hc | skip <;> try (exfalso; omega)) | (refine zr ?_; simp -dsimp (disch := try exact zo) only [go_sem, hl, h0] <;> try rfl) | (refine callV.lend _ yfn_92 (by simp -dsimp (disch := try exact zo) only [go_sem]; exact cq) (by simp -dsimp (disch := try exact zo) only [go_sem, eS_in]) (.lit _) ?_) | (refine callV.plain _ yfn_91 co (by simp -dsimp (disch := try exact zo) only [go_sem, eS_in]) (.lit _) ?_) | refine ⟨by omega, ?_⟩ | (refine zb ?_ ?_ <;> intro hg <;> (try simp only [NB] at hg) <;> (try rw [hg]) <;> try simp only [NM] at hg) | omega | simp -dsimp (disch := try exact zo) only [go_sem, hl, h0] | contradiction)
 ·simp only [h0, if_false]
  have hd : decide ((l.length : Int) = 0) = false := decide_eq_false h0
  cases o
  ·cases r
   ·simp only [Bool.false_eq_true, if_false]
    repeat' (first | refine zg ?_ | (refine AW.cond rfl ?_ ?_ <;> intro hc <;> first | (cases hc; done) | simp only [NM] at hc | skip <;> try (exfalso; omega)) | (refine zr ?_; simp -dsimp (disch := try exact zo) only [go_sem, hl, h0, hd] <;> try rfl) | (refine callV.lend _ yfn_92 (by simp -dsimp (disch := try exact zo) only [go_sem]; exact cq) (by simp -dsimp (disch := try exact zo) only [go_sem, eS_in]) (.lit _) ?_) | (refine callV.plain _ yfn_91 co (by simp -dsimp (disch := try exact zo) only [go_sem, eS_in]) (.lit _) ?_) | refine ⟨by omega, ?_⟩ | (refine zb ?_ ?_ <;> intro hg <;> (try simp only [NB] at hg) <;> (try rw [hg]) <;> try simp only [NM] at hg) | omega | simp -dsimp (disch := try exact zo) only [go_sem, hl, h0, hd] | contradiction)
   ·simp only [Bool.false_eq_true, if_false, if_true]
    repeat' (first | refine zg ?_ | (refine AW.cond rfl ?_ ?_ <;> intro hc <;> first | (cases hc; done) | simp only [NM] at hc | skip <;> try (exfalso; omega)) | (refine zr ?_; simp -dsimp (disch := try exact zo) only [go_sem, hl, h0, hd] <;> try rfl) | (refine callV.lend _ yfn_92 (by simp -dsimp (disch := try exact zo) only [go_sem]; exact cq) (by simp -dsimp (disch := try exact zo) only [go_sem, eS_in]) (.lit _) ?_) | (refine callV.plain _ yfn_91 co (by simp -dsimp (disch := try exact zo) only [go_sem, eS_in]) (.lit _) ?_) | refine ⟨by omega, ?_⟩ | (refine zb ?_ ?_ <;> intro hg <;> (try simp only [NB] at hg) <;> (try rw [hg]) <;> try simp only [NM] at hg) | omega | simp -dsimp (disch := try exact zo) only [go_sem, hl, h0, hd] | contradiction)
  ·simp only [if_true]
   repeat' (first | refine zg ?_ | (refine AW.cond rfl ?_ ?_ <;> intro hc <;> first | (cases hc; done) | simp only [NM] at hc | skip <;> try (exfalso; omega)) | (refine zr ?_; simp -dsimp (disch := try exact zo) only [go_sem, hl, h0, hd] <;> try rfl) | (refine callV.lend _ yfn_92 (by simp -dsimp (disch := try exact zo) only [go_sem]; exact cq) (by simp -dsimp (disch := try exact zo) only [go_sem, eS_in]) (.lit _) ?_) | (refine callV.plain _ yfn_91 co (by simp -dsimp (disch := try exact zo) only [go_sem, eS_in]) (.lit _) ?_) | refine ⟨by omega, ?_⟩ | (refine zb ?_ ?_ <;> intro hg <;> (try simp only [NB] at hg) <;> (try rw [hg]) <;> try simp only [NM] at hg) | omega | simp -dsimp (disch := try exact zo) only [go_sem, hl, h0, hd] | contradiction)
end Go.Proofs.Vx
namespace Go.Proofs.Vx
open Go Go.Sx Go.Proofs
attribute [local irreducible] fnT CallOK CallFr AW effV callV runP runO oneP oneO gcaseP hid
theorem yfn_33 : fnT Tryz.prog 33 = true := by kernel_rfl
theorem classP_eq (l : PCell) (x : Pt) : classP l x = clsP l x := by
 unfold classP clsP
 by_cases h : l = []
 ·rw [if_pos h, if_pos (.inl h)]
 ·rw [if_neg h]
  by_cases ho : outP l x = true
  ·have : outB l x = true := ho
   rw [if_pos ho, if_pos (.inr this)]
  ·have h2 : ¬ (l = [] ∨ outB l x = true) := by rintro (e | e) <;> first | exact h e | exact ho e
   rw [if_neg ho, if_neg h2]
   rfl
theorem sum_succ (vs : List Pt) (i : Nat) (h : i < vs.length) : sumV (vs.take (i + 1)) = sumV (vs.take i) + tv vs[i] := by
 unfold sumV
 rw [List.take_succ_eq_append_getElem h, List.foldl_append]
 rfl
theorem sum_qs {vs : List Pt} (hv : ∀ v ∈ vs, CanP v ∧ BPt 2000 v) (i : Nat) (hi : i ≤ vs.length) : QV (2001 * i + 1) (sumV (vs.take i)) := by
 induction i with
 | zero => exact zero_qs (by decide)
 | succ i ih =>
  have h := ih (by omega)
  obtain ⟨h1, h2⟩ := hv _ (List.getElem_mem (show i < vs.length by omega))
  have ht := tv_qs h1 h2
  rw [sum_succ vs i (by omega)]
  exact ⟨(h.x.add ht.x).mono (by omega), (h.y.add ht.y).mono (by omega), (h.z.add ht.z).mono (by omega)⟩
theorem nat_qs {n : Nat} (h : n < 2147483648) : Qs 8 ((n : Nat) : Rat) := by
 have hz : (Zm (n : Int)).size ≤ 8 := (Zm_size n 8).2 (by omega)
 exact ⟨hz, by show (nb 1).size ≤ _; rw [nb_one]; decide⟩
theorem nat_ne {n : Nat} (h : 0 < n) : ((n : Nat) : Rat) ≠ 0 := by
 intro e
 have : n = 0 := by exact_mod_cast e
 omega
set_option maxHeartbeats 40000000 in
theorem c33 (l : PCell) (hc : CanC l) (hB : BdV l) : CallOK Tryz.prog 33 [.agg [.sl (eS l)]] [] (.agg (eP (midP l))) [] := by
 refine CallOK.flat Tryz.func33 rfl 52 rfl rfl rfl [.cell 2 51] (congrArg Array.toList Tryz.results33) ?_
 simp only [startT, Nat.reduceAdd]
 have hml : maxLen = 9223372036854775807 := rfl
 have ct := c27x l hc (hB.mono (by decide) (by decide) (by decide))
 have hvn : (vertsP l).length ≤ 32768 := Nat.le_trans (verts_len_le l) (Nat.le_trans (corners_len hB.m hB.n) (by decide))
 have hv : ∀ v ∈ vertsP l, CanP v ∧ BPt 2000 v := fun v hv => by
  obtain ⟨s, hs, h⟩ := verts_mem.1 hv
  exact ⟨hc.can s hs v h, hB.k s hs v h⟩
 unfold midP
 generalize vertsP l = vs at *
 clear hB hc
 have hl : (vs.map eP).length = vs.length := List.length_map _
 repeat' (first | refine zg ?_ | refine AW.drawP ymix ?_ | (refine AW.cond rfl ?_ ?_ <;> intro hc <;> first | (cases hc; done) | simp only [NM] at hc | skip <;> try (exfalso; omega)) | (refine zr ?_; simp -dsimp (disch := try exact zo) only [go_sem, hl] <;> try rfl) | (refine callV.plain _ yfn_27 ct (by simp -dsimp (disch := try exact zo) only [go_sem, eS_in]) (by rw [In_sl, eP_in]; trivial) ?_) | refine ⟨by omega, ?_⟩ | (refine zb ?_ ?_ <;> intro hg <;> (try simp only [NB] at hg) <;> (try rw [hg]) <;> try simp only [NM] at hg) | omega | simp -dsimp (disch := try exact zo) only [go_sem, hl] | contradiction)
 have hzx : (sumV []).x = 0 := rfl
 have hzy : (sumV []).y = 0 := rfl
 have hzz : (sumV []).z = 0 := rfl
 refine AW.loop (fun z : {i : Nat // i ≤ vs.length} => ⟨[(14, .lit (.int .i64 z.1)), (13, .lit (.int .i64 vs.length)), (12, .sl (vs.map eP)), (3, .sl (vs.map eP)), (2, .loc 9 0), (4, .loc 13 0)], [(9, .blk [.lit (.bool false), .lit (.string ⟨#[]⟩), .lit (.bool false), .lit (.string ⟨#[]⟩), .lit (.bool false), .lit (.string ⟨#[]⟩), .lit (.bool false), .lit (.string ⟨#[]⟩)]), (13, .blk (eV (sumV (vs.take z.1)).x (sumV (vs.take z.1)).y (sumV (vs.take z.1)).z))], 60⟩) (fun z => vs.length - z.1) ⟨0, Nat.zero_le _⟩ (Weak.t4 (by refine ⟨?_, ?_, ?_, ?_⟩ <;> simp -dsimp (disch := try exact zo) only [go_sem, List.take_zero, hzx, hzy, hzz, eV, eQ, Zz, Zmz, Qz, eP_in, Int.natCast_add, Int.cast_ofNat_Int])) ?_
 rintro ⟨i, hi⟩
 dsimp only
 have hs := sum_qs hv i hi
 by_cases hlt : i < vs.length
 ·have ea := eP_getD vs i hlt
  have hst := sum_succ vs i hlt
  obtain ⟨h1, h2⟩ := hv _ (List.getElem_mem hlt)
  have c77v := c77t vs[i] h1 (h2.mono (by decide))
  have ht := tv_qs h1 h2
  clear hv h1 h2
  generalize vs[i] = a at *
  generalize sumV (vs.take i) = A at *
  generalize tv a = T at *
  have hx1 : (sumV (vs.take (i + 1))).x = A.x + T.x := by rw [hst]; rfl
  have hy1 : (sumV (vs.take (i + 1))).y = A.y + T.y := by rw [hst]; rfl
  have hz1 : (sumV (vs.take (i + 1))).z = A.z + T.z := by rw [hst]; rfl
  clear hst
  obtain ⟨b1, b2, b3⟩ := hs.mono (show _ ≤ 17179869184 by omega)
  obtain ⟨t1, t2, t3⟩ := ht.mono (show _ ≤ 17179869184 by omega)
  clear hs ht
  simp only [eP, e4] at ea
  repeat' (first | refine zg ?_ | refine AW.drawP ymix ?_ | refine AW.unroll 6 ?_ | (refine AW.cond rfl ?_ ?_ <;> intro hc <;> first | (cases hc; done) | simp only [NM] at hc | skip <;> try (exfalso; omega)) | (refine zr ?_; simp -dsimp (disch := try exact zo) only [go_sem, hl, ea, Int.toNat_natCast, eP_in] <;> try rfl) | (refine callV.flat _ yfn_77 c77v rfl rfl ?_) | (refine callV.flat _ yfn_25 (c25 _ _ (by assumption) (by assumption)) rfl rfl ?_) | refine ⟨by omega, ?_⟩ | (refine zb ?_ ?_ <;> intro hg <;> (try simp only [NB] at hg) <;> (try rw [hg]) <;> try simp only [NM] at hg) | omega | simp -dsimp (disch := try exact zo) only [go_sem, hl, ea, Int.toNat_natCast, eP_in] | contradiction)
  all_goals exact AW.stop ⟨⟨i + 1, by omega⟩, (Weak.t4 (by refine ⟨?_, ?_, ?_, ?_⟩ <;> simp -dsimp (disch := try exact zo) only [go_sem, eP_in, hx1, hy1, hz1, eV, eQ, Int.natCast_add, Int.cast_ofNat_Int])), by dsimp only; omega⟩
 ·have hil : i = vs.length := by omega
  subst hil
  rw [List.take_length] at hs ⊢
  have hne : ((max vs.length 1 : Nat) : Rat) ≠ 0 := nat_ne (by omega)
  have hq := nat_qs (n := max vs.length 1) (by omega)
  have c68v := c68 (max vs.length 1 : Nat) (by omega)
  have hmx : (if (1 : Int) > (vs.length : Int) then 1 else (vs.length : Int)) = ((max vs.length 1 : Nat) : Int) := by split <;> omega
  obtain ⟨b1, b2, b3⟩ := hs
  have e1 := (b1.div hq hne).mono (show _ ≤ 1073741824 by omega)
  have e2 := (b2.div hq hne).mono (show _ ≤ 1073741824 by omega)
  have e3 := (b3.div hq hne).mono (show _ ≤ 1073741824 by omega)
  have b1' := b1.mono (show _ ≤ 17179869184 by omega)
  have b2' := b2.mono (show _ ≤ 17179869184 by omega)
  have b3' := b3.mono (show _ ≤ 17179869184 by omega)
  have hq' := hq.mono (show _ ≤ 17179869184 by omega)
  clear hv b1 b2 b3 hq
  have hcast : (((max vs.length 1 : Nat) : Int) : Rat) = ((max vs.length 1 : Nat) : Rat) := rfl
  rw [hcast] at c68v
  generalize ((max vs.length 1 : Nat) : Rat) = N at *
  generalize sumV vs = A at *
  repeat' (first | refine zg ?_ | refine AW.drawP ymix ?_ | refine AW.unroll 6 ?_ | (refine AW.cond rfl ?_ ?_ <;> intro hc <;> first | (cases hc; done) | simp only [NM] at hc | skip <;> try (exfalso; omega)) | (refine zr ?_; simp -dsimp (disch := try exact zo) only [go_sem, hl, hmx] <;> try rfl) | (refine callV.flat _ yfn_68 c68v rfl rfl ?_) | (refine callV.flat _ yfn_80 (c80 _ _ (by assumption) (by assumption) hne) rfl rfl ?_) | (refine callV.flat _ yfn_96 (c96 _ _ _ (by assumption) (by assumption) (by assumption)) rfl rfl ?_) | refine ⟨by omega, ?_⟩ | (refine zb ?_ ?_ <;> intro hg <;> (try simp only [NB] at hg) <;> (try rw [hg]) <;> try simp only [NM] at hg) | omega | simp -dsimp (disch := try exact zo) only [go_sem, hl, hmx] | contradiction)
end Go.Proofs.Vx
namespace Go.Proofs.Vx
open Go Go.Sx Go.Proofs
attribute [local irreducible] fnT CallOK CallFr AW effV callV runP runO oneP oneO gcaseP hid
theorem yfn_6 : fnT Tryz.prog 6 = true := by kernel_rfl
set_option maxRecDepth 20000 in
set_option maxHeartbeats 16000000 in
theorem c6bad (rs : List RP) (hbad : ¬ (rs.length ≤ 5 ∧ ∀ r ∈ rs, goodR r = true)) : CallOK Tryz.prog 6 [.sl (eRPs rs)] [] (.lit (.bool true)) [] := by
 refine CallOK.flat Tryz.func6 rfl 79 rfl rfl rfl [.tmp 2] (congrArg Array.toList Tryz.results6) ?_
 simp only [startT, Nat.reduceAdd]
 have hml : maxLen = 9223372036854775807 := rfl
 have pa := badPlanes rs 5 (by decide) hbad
 clear hbad
 repeat' (first | refine zg ?_ | refine AW.drawP ymix ?_ | (refine AW.cond rfl ?_ ?_ <;> intro hc <;> first | (cases hc; done) | simp only [NM] at hc | skip <;> try (exfalso; omega)) | (refine zr ?_; simp -dsimp (disch := try exact zo) only [go_sem, eRPs_in, eHs_in] <;> try rfl) | (refine callV.lend _ yfn_18 (by simp -dsimp (disch := try exact zo) only [go_sem]; exact pa) (by simp -dsimp (disch := try exact zo) only [go_sem, eRPs_in]) flatNo ?_) | (refine callV.flat _ yfn_19 c19 rfl rfl ?_) | refine ⟨by omega, ?_⟩ | (refine zb ?_ ?_ <;> intro hg <;> (try simp only [NB] at hg) <;> (try rw [hg]) <;> try simp only [NM] at hg) | omega | simp -dsimp (disch := try exact zo) only [go_sem, eRPs_in, eHs_in] | contradiction)
theorem mkP_bs {a b c : Rat} {k : Nat} (ha : Qs k a) (hb : Qs k b) (hc : Qs k c) (hk : 1 ≤ k) : BPt (3 * k) (mkP a b c) := by
 have da : (Zm (a.den : Int)).size ≤ k := ha.den
 have db : (Zm (b.den : Int)).size ≤ k := hb.den
 have dc : (Zm (c.den : Int)).size ≤ k := hc.den
 have za : (a.den : Int) ≠ 0 := by have := a.den_nz; omega
 have zb : (b.den : Int) ≠ 0 := by have := b.den_nz; omega
 have zc : (c.den : Int) ≠ 0 := by have := c.den_nz; omega
 have e1 : 1 * (a.den : Int) * (b.den : Int) * (c.den : Int) / (a.den : Int) = (b.den : Int) * (c.den : Int) := by
  rw [Int.one_mul, Int.mul_assoc]; exact Int.mul_ediv_cancel_left _ za
 have e2 : 1 * (a.den : Int) * (b.den : Int) * (c.den : Int) / (b.den : Int) = (a.den : Int) * (c.den : Int) := by
  rw [Int.one_mul, Int.mul_comm (a.den : Int), Int.mul_assoc]; exact Int.mul_ediv_cancel_left _ zb
 have e3 : 1 * (a.den : Int) * (b.den : Int) * (c.den : Int) / (c.den : Int) = (a.den : Int) * (b.den : Int) := by
  rw [Int.one_mul]; exact Int.mul_ediv_cancel _ zc
 unfold mkP
 rw [e1, e2, e3, Int.one_mul]
 refine ⟨nrm_bs ⟨?_, ?_, ?_, ?_⟩ (by omega)⟩
 ·exact Nat.le_trans (zs_mul _ _ ha.num (zs_mul _ _ db dc)) (by omega)
 ·exact Nat.le_trans (zs_mul _ _ hb.num (zs_mul _ _ da dc)) (by omega)
 ·exact Nat.le_trans (zs_mul _ _ hc.num (zs_mul _ _ da db)) (by omega)
 ·exact Nat.le_trans (zs_mul _ _ (zs_mul _ _ da db) dc) (by omega)
theorem mid_bs {l : PCell} (hc : CanC l) (hB : BdV l) : BPt 1073741824 (midP l) := by
 have hvn : (vertsP l).length ≤ 32768 := Nat.le_trans (verts_len_le l) (Nat.le_trans (corners_len hB.m hB.n) (by decide))
 have hv : ∀ v ∈ vertsP l, CanP v ∧ BPt 2000 v := fun v hv => by
  obtain ⟨s, hs, h⟩ := verts_mem.1 hv
  exact ⟨hc.can s hs v h, hB.k s hs v h⟩
 unfold midP
 generalize vertsP l = vs at *
 have hs := sum_qs hv vs.length (Nat.le_refl _)
 rw [List.take_length] at hs
 have hne : ((max vs.length 1 : Nat) : Rat) ≠ 0 := nat_ne (by omega)
 have hq := nat_qs (n := max vs.length 1) (by omega)
 exact (mkP_bs ((hs.x.div hq hne).mono (show _ ≤ 300000000 by omega)) ((hs.y.div hq hne).mono (show _ ≤ 300000000 by omega)) ((hs.z.div hq hne).mono (show _ ≤ 300000000 by omega)) (by decide)).mono (by decide)
def cntP (l : PCell) (x : Pt) : Nat := l.countP fun s => decide (sideP s.1 x = 0)
theorem cnt_nil (x : Pt) : cntP [] x = 0 := rfl
theorem cnt_succ (l : PCell) (x : Pt) (j : Nat) (h : j < l.length) : cntP (l.take (j + 1)) x = cntP (l.take j) x + (if sideP l[j].1 x = 0 then 1 else 0) := by
 unfold cntP
 rw [List.take_succ_eq_append_getElem h, List.countP_append, List.countP_singleton]
 simp
theorem cnt_le (l : PCell) (x : Pt) (j : Nat) : cntP (l.take j) x ≤ j := Nat.le_trans List.countP_le_length (by rw [List.length_take]; omega)
theorem flatPt {p : Pt} : Flat (.agg (eP p)) := .agg _ (fun c hc => eP_flat [p] (eP p) (by simp) c hc)
set_option maxRecDepth 20000 in
set_option maxHeartbeats 40000000 in
theorem c6good (rs : List RP) (hn : rs.length ≤ 5) (hall : ∀ r ∈ rs, goodR r = true) : CallOK Tryz.prog 6 [.sl (eRPs rs)] [] (.lit (.bool true)) [] := by
 refine CallOK.flat Tryz.func6 rfl 79 rfl rfl rfl [.tmp 2] (congrArg Array.toList Tryz.results6) ?_
 simp only [startT, Nat.reduceAdd]
 have hml : maxLen = 9223372036854775807 := rfl
 have pa := c18b rs 5 hn (by decide) hall
 have hps : ∀ p ∈ nrmL rs, BPl 3 p := fun p hp => by
  obtain ⟨r, hr, rfl⟩ := List.mem_map.1 hp
  exact nrm_bs3 (hall r hr)
 have hpn : (nrmL rs).length ≤ 5 := by unfold nrmL; rw [List.length_map]; exact hn
 generalize nrmL rs = ps at *
 have cc := c20 ps hps (by omega)
 have hok := cutP_ok ps
 have hbd := cutP_bd hps 5 hpn (by decide)
 have hk5 : kB 5 = 313 := by decide
 rw [hk5] at hbd
 generalize cutP ps = C at *
 have bV : BdV C := hbd.mono (by decide) (by decide) (by decide)
 have bC : BdC C := hbd.mono (by decide) (by decide) (by decide)
 have hCn : C.length ≤ 1048576 := Nat.le_trans bV.n (by decide)
 have hpl : ∀ s ∈ C, BPl 1073741824 s.1 := fun s hs => (bC.p s hs).mono (by decide)
 have ct := c27x C hok.toCanC bC
 have cm := c33 C hok.toCanC bV
 have ck := c30 C (midP C) hCn hpl (mid_bs hok.toCanC bV)
 rw [classP_eq, cls_mid hok] at ck
 have h4' := verts_len hok
 have hVb : ∀ v ∈ vertsP C, BPt 1073741823 v ∧ CanP v := fun v hv => by
  obtain ⟨s, hs, h⟩ := verts_mem.1 hv
  exact ⟨(bV.k s hs v h).mono (by decide), hok.can s hs v h⟩
 have hVn : (vertsP C).length ≤ 268435456 := verts_bd bC
 have hcv : ∀ v ∈ vertsP C, CallOK Tryz.prog 30 [.agg [.sl (eS C)], .agg (eP v)] [] (.lit (.int .i64 0)) [] := fun v hv => by
  have := c30 C v hCn hpl ((hVb v hv).1.mono (by decide))
  rw [classP_eq, cls_vert hok hv] at this
  exact this
 have hcnt : ∀ v ∈ vertsP C, 3 ≤ cntP (C.take C.length) v := fun v hv => by rw [List.take_length]; exact verts_count hok hv
 have hpw := verts_pw hok.toCanC
 generalize vertsP C = V at *
 generalize midP C = m at *
 have hl : (eS C).length = C.length := List.length_map _
 have hVl : (V.map eP).length = V.length := List.length_map _
 have h4 : ((V.length : Int) < 4) = False := eq_false (by omega)
 clear hall hbd hk5 hok bV bC hpn hps
 replace hcv := Hid.mk hcv
 replace hcnt := Hid.mk hcnt
 replace hpw := Hid.mk hpw
 replace hVb := Hid.mk hVb
 replace hpl := Hid.mk hpl
 simp only [eP, e4] at cm ck
 repeat' (first | refine zg ?_ | refine AW.drawP ymix ?_ | (refine AW.cond rfl ?_ ?_ <;> intro hc <;> first | (cases hc; done) | simp only [NM] at hc | skip <;> try (exfalso; omega)) | (refine zr ?_; simp -dsimp (disch := try exact zo) only [go_sem, eRPs_in, eHs_in, eS_in, hl, hVl, h4] <;> try rfl) | (refine callV.new _ yfn_18 (by simp -dsimp (disch := try exact zo) only [go_sem]; exact pa) (by simp -dsimp (disch := try exact zo) only [go_sem, eRPs_in]) (inPls _) ?_) | (refine callV.plain _ yfn_20 cc (by simp -dsimp (disch := try exact zo) only [go_sem, eHs_in]) (inCell _) ?_) | (refine callV.plain _ yfn_27 ct (by simp -dsimp (disch := try exact zo) only [go_sem, eS_in]) (by rw [In_sl, eP_in]; trivial) ?_) | (refine callV.plain _ yfn_33 cm (by simp -dsimp (disch := try exact zo) only [go_sem, eS_in]) flatPt.in ?_) | (refine callV.plain _ yfn_30 ck (by simp -dsimp (disch := try exact zo) only [go_sem, eS_in]) (.lit _) ?_) | refine ⟨by omega, ?_⟩ | (refine zb ?_ ?_ <;> intro hg <;> (try simp only [NB] at hg) <;> (try rw [hg]) <;> try simp only [NM] at hg) | omega | simp -dsimp (disch := try exact zo) only [go_sem, eRPs_in, eHs_in, eS_in, hl, hVl, h4] | contradiction)
 refine AW.loop (fun z : {i : Nat // i ≤ V.length} => ⟨[(35, .lit (.int .i64 z.1)), (4, .loc 20 0), (5, .sl (V.map eP)), (33, .sl (V.map eP)), (34, .lit (.int .i64 V.length))], [(20, .blk [.sl (eS C)])], 100⟩) (fun z => V.length - z.1) ⟨0, Nat.zero_le _⟩ (Weak.t4 (by refine ⟨?_, ?_, ?_, ?_⟩ <;> simp -dsimp (disch := try exact zo) only [go_sem, eS_in, eP_in, Int.natCast_add, Int.cast_ofNat_Int])) ?_
 rintro ⟨i, hi⟩
 dsimp only
 clear pa cc ct cm ck h4
 by_cases hlt : i < V.length
 ·have ea := eP_getD V i hlt
  have hmem : V[i] ∈ V := List.getElem_mem hlt
  have cv := hcv.out _ hmem
  have h3' := hcnt.out _ hmem
  have hb := hVb.out _ hmem
  have hpr : ∀ (h : 0 < i), cmpP (V[i - 1]'(by omega)) V[i] < 0 := fun h => List.pairwise_iff_getElem.1 hpw.out (i - 1) i (by omega) hlt (by omega)
  have hpb : ∀ (h : 0 < i), CallOK Tryz.prog 35 [.agg (eP (V[i - 1]'(by omega))), .agg (eP V[i])] [] (.lit (.int .i64 (cmpP (V[i - 1]'(by omega)) V[i]))) [] := fun h => by
   have hb' := hVb.out _ (List.getElem_mem (show i - 1 < V.length by omega))
   exact c35 _ _ hb'.2 hb.2 (hb'.1.mono (by decide)).out (hb.1.mono (by decide)).out
  have hpe : ∀ (h : 0 < i), (V.map eP).getD (i - 1) [] = eP (V[i - 1]'(by omega)) := fun h => eP_getD V (i - 1) (by omega)
  have hb1 := hb.1.mono (show 1073741823 ≤ 1073741824 by decide)
  clear hb hmem
  generalize V[i] = v at *
  simp only [eP, e4] at ea
  replace hpr := Hid.mk hpr
  replace hpb := Hid.mk hpb
  replace hpe := Hid.mk hpe
  repeat' (first | refine zg ?_ | refine AW.drawP ymix ?_ | (refine AW.cond rfl ?_ ?_ <;> intro hc <;> first | (cases hc; done) | simp only [NM] at hc | skip <;> try (exfalso; omega)) | (refine zr ?_; simp -dsimp (disch := try exact zo) only [go_sem, hl, ea, hVl, Int.toNat_natCast, eP_in, eS_in] <;> try rfl) | refine ⟨by omega, ?_⟩ | (refine zb ?_ ?_ <;> intro hg <;> (try simp only [NB] at hg) <;> (try rw [hg]) <;> try simp only [NM] at hg) | omega | simp -dsimp (disch := try exact zo) only [go_sem, hl, ea, hVl, Int.toNat_natCast, eP_in, eS_in] | contradiction)
  refine AW.loop (fun z : {j : Nat // j ≤ C.length} => ⟨[(43, .lit (.int .i64 z.1)), (42, .lit (.int .i64 C.length)), (41, .sl (eS C)), (8, .lit (.int .i64 (cntP (C.take z.1) v))), (6, .lit (.int .i64 i)), (7, .loc 104 0), (35, .lit (.int .i64 i)), (4, .loc 20 0), (5, .sl (V.map eP)), (33, .sl (V.map eP)), (34, .lit (.int .i64 V.length))], [(104, .blk (eP v)), (20, .blk [.sl (eS C)])], 140⟩) (fun z => C.length - z.1) ⟨0, Nat.zero_le _⟩ (Weak.t4 (by refine ⟨?_, ?_, ?_, ?_⟩ <;> simp -dsimp (disch := try exact zo) only [go_sem, eS_in, eP_in, cnt_nil, List.take_zero, Int.natCast_zero, Int.natCast_add, Int.cast_ofNat_Int])) ?_
  rintro ⟨j, hj⟩
  dsimp only
  by_cases hjt : j < C.length
  ·have es1 := eS_getD C j hjt
   have hst0 := cnt_succ C v j hjt
   have hcl := cnt_le C v j
   have c34v := c34 C[j].1 v (hpl.out _ (List.getElem_mem hjt)) hb1
   generalize C[j] = sd at *
   obtain ⟨sp, svs⟩ := sd
   dsimp only at es1 hst0 c34v
   simp only [eG] at es1
   generalize cntP (C.take j) v = n at *
   clear cv h3' hb1
   by_cases q : sideP sp v = 0
   ·have hd : (sideP sp v = 0) = True := eq_true q
    have hst : cntP (C.take (j + 1)) v = n + 1 := by rw [hst0, if_pos q]
    clear hst0
    repeat' (first | refine zg ?_ | refine AW.drawP ymix ?_ | (refine AW.cond rfl ?_ ?_ <;> intro hc <;> first | (cases hc; done) | simp only [NM] at hc | skip <;> try (exfalso; omega)) | (refine zr ?_; simp -dsimp (disch := try exact zo) only [go_sem, hl, es1, hd, Int.toNat_natCast, eP_in, eS_in, eP, e4] <;> try rfl) | (refine callV.flat _ yfn_34 c34v rfl rfl ?_) | refine ⟨by omega, ?_⟩ | (refine zb ?_ ?_ <;> intro hg <;> (try simp only [NB] at hg) <;> (try rw [hg]) <;> try simp only [NM] at hg) | omega | simp -dsimp (disch := try exact zo) only [go_sem, hl, es1, hd, Int.toNat_natCast, eP_in, eS_in, eP, e4] | contradiction)
    all_goals exact AW.stop ⟨⟨j + 1, by omega⟩, (Weak.t4 (by refine ⟨?_, ?_, ?_, ?_⟩ <;> simp -dsimp (disch := try exact zo) only [go_sem, eS_in, eP_in, hst, Int.natCast_add, Int.cast_ofNat_Int])), by dsimp only; omega⟩
   ·have hd : (sideP sp v = 0) = False := eq_false q
    have hst : cntP (C.take (j + 1)) v = n := by rw [hst0, if_neg q, Nat.add_zero]
    clear hst0
    repeat' (first | refine zg ?_ | refine AW.drawP ymix ?_ | (refine AW.cond rfl ?_ ?_ <;> intro hc <;> first | (cases hc; done) | simp only [NM] at hc | skip <;> try (exfalso; omega)) | (refine zr ?_; simp -dsimp (disch := try exact zo) only [go_sem, hl, es1, hd, Int.toNat_natCast, eP_in, eS_in, eP, e4] <;> try rfl) | (refine callV.flat _ yfn_34 c34v rfl rfl ?_) | refine ⟨by omega, ?_⟩ | (refine zb ?_ ?_ <;> intro hg <;> (try simp only [NB] at hg) <;> (try rw [hg]) <;> try simp only [NM] at hg) | omega | simp -dsimp (disch := try exact zo) only [go_sem, hl, es1, hd, Int.toNat_natCast, eP_in, eS_in, eP, e4] | contradiction)
    all_goals exact AW.stop ⟨⟨j + 1, by omega⟩, (Weak.t4 (by refine ⟨?_, ?_, ?_, ?_⟩ <;> simp -dsimp (disch := try exact zo) only [go_sem, eS_in, eP_in, hst, Int.natCast_add, Int.cast_ofNat_Int])), by dsimp only; omega⟩
  ·have hjl : j = C.length := by omega
   subst hjl
   have hcl := cnt_le C v C.length
   generalize cntP (C.take C.length) v = n at *
   have h3 : ((n : Int) < 3) = False := eq_false (by omega)
   have h0 : True := trivial
   by_cases hi1 : 0 < i
   ·have hi0 : ((0 : Int) < (i : Int)) = True := eq_true (by omega)
    have c35v := hpb.out hi1
    have eb := hpe.out hi1
    have hcm' := hpr.out hi1
    generalize V[i - 1]'(by omega) = u at *
    have hcm : (0 ≤ cmpP u v) = False := eq_false (by omega)
    have hii : ((i : Int) - 1).toNat = i - 1 := by omega
    generalize cmpP u v = r at *
    rw [← hii] at eb
    simp only [eP, e4] at eb
    clear h3' hb1
    repeat' (first | refine zg ?_ | refine AW.drawP ymix ?_ | (refine AW.cond rfl ?_ ?_ <;> intro hc <;> first | (cases hc; done) | simp only [NM] at hc | skip <;> try (exfalso; omega)) | (refine zr ?_; simp -dsimp (disch := try exact zo) only [go_sem, hl, hVl, h3, h0, hi0, ea, eb, hcm, Int.toNat_natCast, eP_in, eS_in] <;> try rfl) | (refine callV.plain _ yfn_30 cv (by simp -dsimp (disch := try exact zo) only [go_sem, eS_in]) (.lit _) ?_) | (refine callV.flat _ yfn_35 c35v rfl rfl ?_) | refine ⟨by omega, ?_⟩ | (refine zb ?_ ?_ <;> intro hg <;> (try simp only [NB] at hg) <;> (try rw [hg]) <;> try simp only [NM] at hg) | omega | simp -dsimp (disch := try exact zo) only [go_sem, hl, hVl, h3, h0, hi0, ea, eb, hcm, Int.toNat_natCast, eP_in, eS_in] | contradiction)
    all_goals exact AW.stop ⟨⟨i + 1, by omega⟩, (Weak.t4 (by refine ⟨?_, ?_, ?_, ?_⟩ <;> simp -dsimp (disch := try exact zo) only [go_sem, eS_in, eP_in, Int.natCast_add, Int.cast_ofNat_Int])), by dsimp only; omega⟩
   ·have hi0 : ((0 : Int) < (i : Int)) = False := eq_false (by omega)
    have eb : True := trivial
    have hcm : True := trivial
    clear h3' hb1
    repeat' (first | refine zg ?_ | refine AW.drawP ymix ?_ | (refine AW.cond rfl ?_ ?_ <;> intro hc <;> first | (cases hc; done) | simp only [NM] at hc | skip <;> try (exfalso; omega)) | (refine zr ?_; simp -dsimp (disch := try exact zo) only [go_sem, hl, hVl, h3, h0, hi0, ea, eb, hcm, Int.toNat_natCast, eP_in, eS_in] <;> try rfl) | (refine callV.plain _ yfn_30 cv (by simp -dsimp (disch := try exact zo) only [go_sem, eS_in]) (.lit _) ?_) | (refine callV.flat _ yfn_35 c35v rfl rfl ?_) | refine ⟨by omega, ?_⟩ | (refine zb ?_ ?_ <;> intro hg <;> (try simp only [NB] at hg) <;> (try rw [hg]) <;> try simp only [NM] at hg) | omega | simp -dsimp (disch := try exact zo) only [go_sem, hl, hVl, h3, h0, hi0, ea, eb, hcm, Int.toNat_natCast, eP_in, eS_in] | contradiction)
    all_goals exact AW.stop ⟨⟨i + 1, by omega⟩, (Weak.t4 (by refine ⟨?_, ?_, ?_, ?_⟩ <;> simp -dsimp (disch := try exact zo) only [go_sem, eS_in, eP_in, Int.natCast_add, Int.cast_ofNat_Int])), by dsimp only; omega⟩
 ·have hil : i = V.length := by omega
  subst hil
  repeat' (first | refine zg ?_ | refine AW.drawP ymix ?_ | (refine AW.cond rfl ?_ ?_ <;> intro hc <;> first | (cases hc; done) | simp only [NM] at hc | skip <;> try (exfalso; omega)) | (refine zr ?_; simp -dsimp (disch := try exact zo) only [go_sem, hVl] <;> try rfl) | (refine callV.flat _ yfn_19 c19 rfl rfl ?_) | refine ⟨by omega, ?_⟩ | (refine zb ?_ ?_ <;> intro hg <;> (try simp only [NB] at hg) <;> (try rw [hg]) <;> try simp only [NM] at hg) | omega | simp -dsimp (disch := try exact zo) only [go_sem, hVl] | contradiction)
end Go.Proofs.Vx
