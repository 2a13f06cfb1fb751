import Derived.Test.YtjlfgmhmalbiiaaGreatDoorProg
import Derived.Test.YtjlfgmhmalbiiaaGreatDoorT10
import Derived.Test.YtjlfgmhmalbiiaaGreatDoorT13
set_option linter.all false
namespace Go.Proofs.Vx
open Go Go.Sx Go.Proofs
attribute [local irreducible] fnT CallOK CallFr AW effV callV runP runO oneP oneO gcaseP hid
theorem yfn_138 : fnT Tryz.prog 138 = true := by kernel_rfl
theorem yfn_191 : fnT Tryz.prog 191 = true := by kernel_rfl
theorem yfn_238 : fnT Tryz.prog 238 = true := by kernel_rfl
theorem yfn_239 : fnT Tryz.prog 239 = true := by kernel_rfl
theorem yfn_240 : fnT Tryz.prog 240 = true := by kernel_rfl
theorem lm_top {n : Nat} (h : lmN n ≠ []) : (lmN n).getD ((lmN n).length - 1) 0 ≠ 0 := by
 intro h0
 have hl : 1 ≤ (lmN n).length := by cases hq : lmN n <;> simp_all
 have e := wz_take_succ (lmN n) ((lmN n).length - 1)
 rw [take_full (by omega), h0, Int.mul_zero, Int.add_zero, wz_lmN] at e
 have h1 := wz_take_lt (lmN_dig n) ((lmN n).length - 1)
 have h2 : n < B32 ^ ((lmN n).length - 1) := by
  have e2 : ((4294967296 ^ ((lmN n).length - 1) : Nat) : Int) = (4294967296 : Int) ^ ((lmN n).length - 1) := by rw [Int.natCast_pow]; rfl
  show n < 4294967296 ^ ((lmN n).length - 1)
  omega
 have := lmN_len_le h2
 omega
theorem nb_dgp {L : Nat} {v : Int} (h0 : 0 ≤ v) (h : v < 4294967296 ^ L) : nb (wv (dgp L v.toNat)) = nb v.toNat := by
 congr 1
 have := wv_wz (dgp_dig L v.toNat)
 rw [Dig.dgp_of h0 h] at this
 omega
set_option maxHeartbeats 4000000 in
theorem c191 (a b : ByteArray) (ha : a.size < 274877906944) (hb : b.size < 274877906944) : CallOK Tryz.prog 191 [.lit (.string a), .lit (.string b)] [] (.tup [.lit (.string (nb (nv a / nv b))), .lit (.string (if nv b = 0 then nb 0 else nb (nv a % nv b))), .lit (.bool (decide (nv b ≠ 0)))]) [] := by
 refine CallOK.flat Tryz.func191 rfl 54 rfl rfl rfl [.tmp 4, .tmp 5, .tmp 6] (congrArg Array.toList Tryz.results191) ?_
 simp only [startT, Nat.reduceAdd]
 have lD : (lmN (nv b)).length ≤ (b.size + 3) / 4 := lm_len b
 have lX : (lmN (nv a)).length ≤ (a.size + 3) / 4 := lm_len a
 have dD := lmN_dig (nv b)
 have dX := lmN_dig (nv a)
 have wD := wz_lmN (nv b)
 have wX := wz_lmN (nv a)
 have htop0 := lm_top (n := nv b)
 have lXD := lmN_mono (p := nv b) (q := nv a)
 generalize hD : lmN (nv b) = D at *
 generalize hX : lmN (nv a) = X at *
 have hpX := wz_lt dX
 have hpD := wz_lt dD
 by_cases h0 : D.length = 0
 ·have hD0 : D = [] := List.eq_nil_of_length_eq_zero h0
  have hb0 : nv b = 0 := by rw [hD0] at wD; simp [wz] at wD; omega
  simp only [hb0, if_true, Nat.div_zero, nb_zero, ne_eq, not_true_eq_false, decide_false]
  repeat' (first | refine zg ?_ | refine AW.drawP ymix ?_ | (refine AW.cond rfl ?_ ?_ <;> intro hc <;> first | (cases hc; done) | simp only [NM] at hc | skip) | (refine zr ?_; simp -dsimp (disch := try exact zo) only [go_sem, h0] <;> try rfl) | (refine callV.plain (.sl (ints .u32 D)) yfn_193 (hD ▸ c193 b (by omega)) (by simp -dsimp (disch := try exact zo) only [go_sem]) (In_ints _ _) ?_) | refine ⟨by omega, ?_⟩ | (refine zb ?_ ?_ <;> intro hg <;> (try simp only [NB] at hg) <;> (try rw [hg]) <;> try simp only [NM] at hg) | omega | simp -dsimp (disch := try exact zo) only [go_sem, h0] | contradiction)
  all_goals skip
 ·have hb0 : nv b ≠ 0 := by
   intro h
   rw [h, lmN_zero] at hD
   rw [← hD] at h0; simp at h0
  simp only [hb0, if_false, ne_eq, not_false_eq_true, decide_true]
  have htop := htop0 (by intro h; rw [h] at h0; simp at h0)
  clear htop0
  by_cases hlt : nv a < nv b
  ·have hc1 : cmpN (nv a) (nv b) = -1 := by unfold cmpN; rw [if_pos hlt]
   rw [Nat.div_eq_of_lt hlt, Nat.mod_eq_of_lt hlt, nb_zero]
   clear hpX hpD
   repeat' (first | refine zg ?_ | refine AW.drawP ymix ?_ | (refine AW.cond rfl ?_ ?_ <;> intro hc <;> first | (cases hc; done) | simp only [NM] at hc | skip) | (refine zr ?_; simp -dsimp (disch := try exact zo) only [go_sem, hc1] <;> try rfl) | (refine callV.plain (.sl (ints .u32 D)) yfn_193 (hD ▸ c193 b (by omega)) (by simp -dsimp (disch := try exact zo) only [go_sem]) (In_ints _ _) ?_) | (refine callV.flat (.lit (.int .i64 (cmpN (nv a) (nv b)))) yfn_195 (c195 a b (by omega) (by omega)) rfl rfl ?_) | (refine callV.flat (.lit (.string (nb (nv a)))) yfn_143 (c143 a (by omega)) rfl rfl ?_) | refine ⟨by omega, ?_⟩ | (refine zb ?_ ?_ <;> intro hg <;> (try simp only [NB] at hg) <;> (try rw [hg]) <;> try simp only [NM] at hg) | omega | simp -dsimp (disch := try exact zo) only [go_sem, hc1] | contradiction)
   all_goals skip
  ·have lle := lXD (by omega)
   have hc1 : 0 ≤ cmpN (nv a) (nv b) := by unfold cmpN; rw [if_neg hlt]; split <;> omega
   by_cases h1 : D.length = 1
   ·obtain ⟨d, hd⟩ : ∃ d, D = [d] := List.length_eq_one_iff.1 h1
    subst hd
    have hd0 := dD d (by simp)
    have wd : d = nv b := by simp [wz] at wD; omega
    have hdp : 0 < d := by omega
    have q0 : 0 ≤ wz X / d := Int.ediv_nonneg (by omega) (by omega)
    have q1 : wz X / d < 4294967296 ^ X.length := by
     have : wz X / d ≤ wz X := Int.ediv_le_self _ (by omega)
     omega
    have r0 := Int.emod_nonneg (wz X) (show d ≠ 0 by omega)
    have r1 := Int.emod_lt_of_pos (wz X) hdp
    have e1 : nb (nv a / nv b) = nb (wz X / d).toNat := by rw [wX, wd]; congr 1
    have e2 : nb (nv a % nv b) = nb (wz X % d).toNat := by rw [wX, wd]; congr 1
    rw [e1, e2]
    clear hpX hpD wD e1 e2
    repeat' (first | refine zg ?_ | refine AW.drawP ymix ?_ | (refine AW.cond rfl ?_ ?_ <;> intro hc <;> first | (cases hc; done) | simp only [NM] at hc | skip) | (refine zr ?_; simp -dsimp (disch := try exact zo) only [go_sem] <;> try rfl) | (refine callV.plain (.sl (ints .u32 [d])) yfn_193 (hD ▸ c193 b (by omega)) (by simp -dsimp (disch := try exact zo) only [go_sem]) (In_ints _ _) ?_) | (refine callV.flat (.lit (.int .i64 (cmpN (nv a) (nv b)))) yfn_195 (c195 a b (by omega) (by omega)) rfl rfl ?_) | (refine callV.plain (.sl (ints .u32 X)) yfn_193 (hX ▸ c193 a (by omega)) (by simp -dsimp (disch := try exact zo) only [go_sem]) (In_ints _ _) ?_) | (refine callV.plain (.tup [.sl (ints .u32 (dgp X.length (wz X / d).toNat)), .lit (.int .u32 (wz X % d))]) yfn_239 (c239 X d (by omega) (by omega) dX) (by simp -dsimp (disch := try exact zo) only [go_sem, ints_in]) (In_tup2 (In_ints _ _) (.lit _)) ?_) | (refine callV.plain (.lit (.string (nb (wz X / d).toNat))) yfn_184 (nb_dgp (L := X.length) (v := wz X / d) q0 q1 ▸ c184 (dgp X.length (wz X / d).toNat) (by rw [dgp_length]; omega) (dgp_dig _ _)) (by simp -dsimp (disch := try exact zo) only [go_sem, ints_in]) (.lit _) ?_) | (refine callV.flat (.lit (.string (nb (wz X % d).toNat))) yfn_138 (c138 (wz X % d) (by omega)) rfl rfl ?_) | refine ⟨by omega, ?_⟩ | (refine zb ?_ ?_ <;> intro hg <;> (try simp only [NB] at hg) <;> (try rw [hg]) <;> try simp only [NM] at hg) | omega | simp -dsimp (disch := try exact zo) only [go_sem] | contradiction)
    all_goals skip
   ·have hdp : 0 < wz D := by omega
    have q0 : 0 ≤ wz X / wz D := Int.ediv_nonneg (by omega) (by omega)
    have r0 := Int.emod_nonneg (wz X) (show wz D ≠ 0 by omega)
    have r1 := Int.emod_lt_of_pos (wz X) hdp
    have e1 : nb (nv a / nv b) = nb (wz X / wz D).toNat := by rw [wX, wD]; congr 1
    have e2 : nb (nv a % nv b) = nb (wz X % wz D).toNat := by rw [wX, wD]; congr 1
    have q1 : wz X / wz D < 4294967296 ^ (X.length + 1 - D.length) := by
     have hDl : 4294967296 ^ (D.length - 1) ≤ wz D := by
      have e := wz_take_succ D (D.length - 1)
      rw [take_full (by omega)] at e
      have t := wz_nonneg (dD.take (D.length - 1))
      have t1 := dD.getD (D.length - 1)
      have := Int.mul_le_mul_of_nonneg_left (show 1 ≤ D.getD (D.length - 1) 0 by omega) (show (0 : Int) ≤ 4294967296 ^ (D.length - 1) from Int.le_of_lt (Int.pow_pos (by decide)))
      omega
     rw [Int.ediv_lt_iff_lt_mul hdp]
     have hp : (0 : Int) < 4294967296 ^ (X.length + 1 - D.length) := Int.pow_pos (by decide)
     have := Int.mul_le_mul_of_nonneg_left hDl (Int.le_of_lt hp)
     rw [← Int.pow_add, show X.length + 1 - D.length + (D.length - 1) = X.length by omega] at this
     omega
    have r2 : wz X % wz D < 4294967296 ^ D.length := by omega
    rw [e1, e2]
    clear hpX hpD wD e1 e2 hdp
    repeat' (first | refine zg ?_ | refine AW.drawP ymix ?_ | (refine AW.cond rfl ?_ ?_ <;> intro hc <;> first | (cases hc; done) | simp only [NM] at hc | skip) | (refine zr ?_; simp -dsimp (disch := try exact zo) only [go_sem] <;> try rfl) | (refine callV.plain (.sl (ints .u32 D)) yfn_193 (hD ▸ c193 b (by omega)) (by simp -dsimp (disch := try exact zo) only [go_sem]) (In_ints _ _) ?_) | (refine callV.flat (.lit (.int .i64 (cmpN (nv a) (nv b)))) yfn_195 (c195 a b (by omega) (by omega)) rfl rfl ?_) | (refine callV.plain (.sl (ints .u32 X)) yfn_193 (hX ▸ c193 a (by omega)) (by simp -dsimp (disch := try exact zo) only [go_sem]) (In_ints _ _) ?_) | (refine callV.plain (.tup [.sl (ints .u32 (dgp (X.length + 1 - D.length) (wz X / wz D).toNat)), .sl (ints .u32 (dgp D.length (wz X % wz D).toNat))]) yfn_240 (c240 X D (by omega) (by omega) (by omega) dX dD htop) (by simp -dsimp (disch := try exact zo) only [go_sem, ints_in]) (In_tup2 (In_ints _ _) (In_ints _ _)) ?_) | (refine callV.plain (.lit (.string (nb (wz X / wz D).toNat))) yfn_184 (nb_dgp (L := (X.length + 1 - D.length)) (v := wz X / wz D) q0 q1 ▸ c184 (dgp (X.length + 1 - D.length) (wz X / wz D).toNat) (by rw [dgp_length]; omega) (dgp_dig _ _)) (by simp -dsimp (disch := try exact zo) only [go_sem, ints_in]) (.lit _) ?_) | (refine callV.plain (.lit (.string (nb (wz X % wz D).toNat))) yfn_184 (nb_dgp (L := D.length) (v := wz X % wz D) r0 r2 ▸ c184 (dgp D.length (wz X % wz D).toNat) (by rw [dgp_length]; omega) (dgp_dig _ _)) (by simp -dsimp (disch := try exact zo) only [go_sem, ints_in]) (.lit _) ?_) | refine ⟨by omega, ?_⟩ | (refine zb ?_ ?_ <;> intro hg <;> (try simp only [NB] at hg) <;> (try rw [hg]) <;> try simp only [NM] at hg) | omega | simp -dsimp (disch := try exact zo) only [go_sem] | contradiction)
    all_goals skip
set_option maxHeartbeats 4000000 in
theorem c189 (a b : ByteArray) (ha : a.size < 274877906944) (hb : b.size < 274877906944) : CallOK Tryz.prog 189 [.lit (.string a), .lit (.string b)] [] (.lit (.string (nb (Nat.gcd (nv a) (nv b))))) [] := by
 refine CallOK.flat Tryz.func189 rfl 48 rfl rfl rfl [.tmp 4] (congrArg Array.toList Tryz.results189) ?_
 simp only [startT, Nat.reduceAdd]
 repeat' (first | refine zg ?_ | refine AW.drawP ymix ?_ | (refine AW.cond rfl ?_ ?_ <;> intro hc <;> first | (cases hc; done) | simp only [NM] at hc | skip) | (refine zr ?_; simp -dsimp (disch := try exact zo) only [go_sem] <;> try rfl) | refine ⟨by omega, ?_⟩ | (refine zb ?_ ?_ <;> intro hg <;> (try simp only [NB] at hg) <;> (try rw [hg]) <;> try simp only [NM] at hg) | omega | simp -dsimp (disch := try exact zo) only [go_sem] | contradiction)
 refine AW.loop (fun z : {p : ByteArray × ByteArray // p.1.size < 274877906944 ∧ p.2.size < 274877906944 ∧ Nat.gcd (nv p.1) (nv p.2) = Nat.gcd (nv a) (nv b)} => ⟨[(0, .lit (.string z.1.1)), (1, .lit (.string z.1.2))], [], 15⟩) (fun z => nv z.1.2) ⟨(a, b), ha, hb, rfl⟩ (Weak.t4 (by refine ⟨?_, ?_, ?_, ?_⟩ <;> simp -dsimp (disch := try exact zo) only [go_sem, Int.natCast_add, Int.cast_ofNat_Int])) ?_
 rintro ⟨⟨u, v⟩, hu, hv, hg⟩
 dsimp only at hu hv hg ⊢
 rw [← hg]
 clear hg ha hb
 by_cases hv0 : nv v = 0
 ·have hn : (nb (nv v) = ⟨#[]⟩) = True := eq_true ((nb_eq_empty _).2 hv0)
  rw [hv0, Nat.gcd_zero_right]
  clear hv0
  repeat' (first | refine zg ?_ | refine AW.drawP ymix ?_ | (refine AW.cond rfl ?_ ?_ <;> intro hc <;> first | (cases hc; done) | simp only [NM] at hc | skip) | (refine zr ?_; simp -dsimp (disch := try exact zo) only [go_sem, hn] <;> try rfl) | (refine callV.flat (.lit (.string (nb (nv v)))) yfn_143 (c143 v (by omega)) rfl rfl ?_) | (refine callV.flat (.lit (.string (nb (nv u)))) yfn_143 (c143 u (by omega)) rfl rfl ?_) | refine ⟨by omega, ?_⟩ | (refine zb ?_ ?_ <;> intro hg <;> (try simp only [NB] at hg) <;> (try rw [hg]) <;> try simp only [NM] at hg) | omega | simp -dsimp (disch := try exact zo) only [go_sem, hn] | contradiction)
  all_goals skip
 ·have hn : (nb (nv v) = ⟨#[]⟩) = False := eq_false fun h => hv0 ((nb_eq_empty _).1 h)
  by_cases hs : nv u < 18446744073709551616 ∧ nv v < 18446744073709551616
  ·have h1 := eq_true hs.1
   have h2 := eq_true hs.2
   repeat' (first | refine zg ?_ | refine AW.drawP ymix ?_ | (refine AW.cond rfl ?_ ?_ <;> intro hc <;> first | (cases hc; done) | simp only [NM] at hc | skip) | (refine zr ?_; simp -dsimp (disch := try exact zo) only [go_sem, hn, h1, h2] <;> try rfl) | (refine callV.flat (.lit (.string (nb (nv v)))) yfn_143 (c143 v (by omega)) rfl rfl ?_) | (first | refine callV.flat _ yfn_238 (c238 u (by omega)) rfl rfl ?_ | refine callV.flat _ yfn_238 (c238 v (by omega)) rfl rfl ?_) | refine ⟨by omega, ?_⟩ | (refine zb ?_ ?_ <;> intro hg <;> (try simp only [NB] at hg) <;> (try rw [hg]) <;> try simp only [NM] at hg) | omega | simp -dsimp (disch := try exact zo) only [go_sem, hn, h1, h2] | contradiction)
   refine AW.loop (fun z : {p : Nat × Nat // p.1 < 18446744073709551616 ∧ p.2 < 18446744073709551616 ∧ Nat.gcd p.1 p.2 = Nat.gcd (nv u) (nv v)} => ⟨[(5, .lit (.int .u64 z.1.1)), (7, .lit (.int .u64 z.1.2))], [], 30⟩) (fun z => z.1.2) ⟨(nv u, nv v), hs.1, hs.2, rfl⟩ (Weak.t4 (by refine ⟨?_, ?_, ?_, ?_⟩ <;> simp -dsimp (disch := try exact zo) only [go_sem, Int.natCast_add, Int.cast_ofNat_Int])) ?_
   rintro ⟨⟨x, y⟩, hx, hy, hg⟩
   dsimp only at hx hy hg ⊢
   rw [← hg]
   clear hg hs h1 h2 hn hv0
   have hm : 0 < y → x % y < y := Nat.mod_lt x
   have hmi : ((x % y : Nat) : Int) = (x : Int) % (y : Int) := Int.natCast_emod x y
   repeat' (first | refine zg ?_ | refine AW.drawP ymix ?_ | (refine AW.cond rfl ?_ ?_ <;> intro hc <;> first | (cases hc; done) | simp only [NM] at hc | skip) | (refine zr ?_; simp -dsimp (disch := try exact zo) only [go_sem] <;> try rfl) | (refine callV.flat (.lit (.string (nb x))) yfn_138 (c138 (x : Int) (by omega)) rfl rfl ?_) | refine ⟨by omega, ?_⟩ | (refine zb ?_ ?_ <;> intro hg <;> (try simp only [NB] at hg) <;> (try rw [hg]) <;> try simp only [NM] at hg) | omega | simp -dsimp (disch := try exact zo) only [go_sem] | contradiction)
   ·exact AW.stop ⟨⟨(y, x % y), hy, by dsimp only; omega, by dsimp only; rw [Nat.gcd_comm x y, Nat.gcd_rec y x, Nat.gcd_comm]⟩, (Weak.t4 (by refine ⟨?_, ?_, ?_, ?_⟩ <;> simp -dsimp (disch := try exact zo) only [go_sem, Int.natCast_emod, Int.natCast_add, Int.cast_ofNat_Int])), by dsimp only; omega⟩
   ·have : y = 0 := by omega
    rw [this, Nat.gcd_zero_right]
  ·have hm : nv u % nv v < nv v := Nat.mod_lt _ (by omega)
   have hsz : (nb (nv u % nv v)).size ≤ v.size := (nb_size _ _).2 (Nat.lt_trans hm (nv_lt v))
   have hgg : Nat.gcd (nv v) (nv u % nv v) = Nat.gcd (nv u) (nv v) := by rw [Nat.gcd_comm (nv u) (nv v)]; exact (Nat.gcd_comm _ _).trans (Nat.gcd_rec (nv v) (nv u)).symm
   have hif : (if nv v = 0 then nb 0 else nb (nv u % nv v)) = nb (nv u % nv v) := if_neg hv0
   repeat' (first | refine zg ?_ | refine AW.drawP ymix ?_ | (refine AW.cond rfl ?_ ?_ <;> intro hc <;> first | (cases hc; done) | simp only [NM] at hc | skip) | (refine zr ?_; simp -dsimp (disch := try exact zo) only [go_sem, hn] <;> try rfl) | (refine callV.flat (.lit (.string (nb (nv v)))) yfn_143 (c143 v (by omega)) rfl rfl ?_) | (first | refine callV.flat _ yfn_238 (c238 u (by omega)) rfl rfl ?_ | refine callV.flat _ yfn_238 (c238 v (by omega)) rfl rfl ?_) | (refine callV.flat _ yfn_191 (c191 u v (by omega) (by omega)) rfl rfl ?_) | refine ⟨by omega, ?_⟩ | (refine zb ?_ ?_ <;> intro hg <;> (try simp only [NB] at hg) <;> (try rw [hg]) <;> try simp only [NM] at hg) | omega | simp -dsimp (disch := try exact zo) only [go_sem, hn] | contradiction)
   all_goals exact AW.stop ⟨⟨(v, nb (nv u % nv v)), hv, by dsimp only; omega, by dsimp only; rw [nv_nb]; exact hgg⟩, (Weak.t4 (by refine ⟨?_, ?_, ?_, ?_⟩ <;> simp -dsimp (disch := try exact zo) only [go_sem, hif, Int.natCast_add, Int.cast_ofNat_Int])), by dsimp only; rw [nv_nb]; exact hm⟩
end Go.Proofs.Vx
namespace Go.Sx
set_option linter.unusedVariables false
theorem nb_zero_size : (nb 0).size = 0 := by rw [nb_zero]; rfl
theorem Zm_zero : Zm 0 = ⟨#[]⟩ := nb_zero
theorem Zm_neg (z : Int) : Zm (-z) = Zm z := by unfold Zm; rw [Int.natAbs_neg]
theorem natAbs_lt_pow (z : Int) : z.natAbs < 256 ^ (Zm z).size := (Zm_size z _).1 (Nat.le_refl _)
theorem zs_add (a b : Int) {k : Nat} (ha : (Zm a).size ≤ k) (hb : (Zm b).size ≤ k) : (Zm (a + b)).size ≤ k + 1 := by
 rw [Zm_size] at ha hb ⊢
 rw [Nat.pow_succ]
 have := Int.natAbs_add_le a b
 omega
theorem zs_mul (a b : Int) {k l : Nat} (ha : (Zm a).size ≤ k) (hb : (Zm b).size ≤ l) : (Zm (a * b)).size ≤ k + l := by
 rw [Zm_size] at ha hb ⊢
 rw [Int.natAbs_mul, Nat.pow_add]
 exact Nat.mul_lt_mul'' ha hb
theorem zs_sub (a b : Int) {k : Nat} (ha : (Zm a).size ≤ k) (hb : (Zm b).size ≤ k) : (Zm (a - b)).size ≤ k + 1 := by
 rw [Int.sub_eq_add_neg]; exact zs_add a (-b) ha (by rw [Zm_neg]; exact hb)
theorem zs_le {a b : Int} (h : a.natAbs ≤ b.natAbs) : (Zm a).size ≤ (Zm b).size := by
 rw [Zm_size]; exact Nat.lt_of_le_of_lt h (natAbs_lt_pow b)
theorem zs_ediv (a b : Int) : (Zm (a / b)).size ≤ (Zm a).size + 1 := by
 rw [Zm_size, Nat.pow_succ]
 have := natAbs_lt_pow a
 have h := Int.natAbs_ediv_le_natAbs a b
 omega
theorem zs_iv (n : Bool) (m : ByteArray) : (Zm (iv n m)).size ≤ m.size := by
 rw [Zm_size]
 have := nv_lt m
 unfold iv
 cases n <;> simp <;> exact this
theorem zs_nat (k : Nat) : (Zm (k : Int)) = nb k := by unfold Zm; rw [Int.natAbs_natCast]
def sg (z : Int) : Int := if z < 0 then -1 else if z = 0 then 0 else 1
theorem sg_neg {z : Int} : sg z < 0 ↔ z < 0 := by unfold sg; split <;> (try split) <;> omega
theorem sg_pos {z : Int} : 0 < sg z ↔ 0 < z := by unfold sg; split <;> (try split) <;> omega
theorem sg_zero {z : Int} : sg z = 0 ↔ z = 0 := by unfold sg; split <;> (try split) <;> omega
theorem Zn_true {z : Int} (h : z < 0) : Zn z = true := by unfold Zn; simp [h]
theorem Zn_false {z : Int} (h : 0 ≤ z) : Zn z = false := by unfold Zn; simp; omega
theorem Zm_empty {z : Int} : (Zm z = ⟨#[]⟩) ↔ z = 0 := by
 unfold Zm; rw [nb_eq_empty]; omega
theorem eZ_of (n : Bool) (k : Nat) {z : Int} (h : z = if n then -(k : Int) else k) : AV.agg [.lit (.bool (n && !decide (nb k = ⟨#[]⟩))), .lit (.string (nb k))] = .agg (eZ z) := by
 obtain ⟨h1, h2⟩ := of_nb n k
 have e : iv n (nb k) = z := by rw [h]; unfold iv; rw [nv_nb]
 rw [e] at h1 h2
 rw [h1, h2]
theorem eZ_inj {a b : Int} (h : Zn a = Zn b) (h' : Zm a = Zm b) : a = b := by
 have h2 := nb_inj h'
 unfold Zn at h
 have : (a < 0) ↔ (b < 0) := by simpa using h
 omega
end Go.Sx
namespace Go.Proofs.Vx
open Go Go.Sx Go.Proofs
attribute [local irreducible] fnT CallOK CallFr AW effV callV runP runO oneP oneO gcaseP hid
theorem yqq_Nx13 : agT Tryz.prog 2 = some false ∧ agT Tryz.prog 24 = some true ∧ agT Tryz.prog 4 = some false ∧ boT Tryz.prog 2 = false ∧ boT Tryz.prog 4 = true ∧ fdT Tryz.prog 24 0 = some (0, 1, false) ∧ fdT Tryz.prog 24 1 = some (1, 1, false) ∧ kiT Tryz.prog 2 = some .i64 ∧ plT Tryz.prog 24 = some [(0, 1), (1, 1)] ∧ slT Tryz.prog 2 = none ∧ strT Tryz.prog 2 = false ∧ szT Tryz.prog 24 = some 2 ∧ szT Tryz.prog 4 = some 1 ∧ szT Tryz.prog 9 = some 1 ∧ zeT Tryz.prog 24 = some [.lit (.bool false), .lit (.string ⟨#[]⟩)] := by and_intros <;> kernel_rfl
attribute [go_sem] yqq_Nx13
theorem yfn_67 : fnT Tryz.prog 67 = true := by kernel_rfl
theorem yfn_73 : fnT Tryz.prog 73 = true := by kernel_rfl
theorem yfn_76 : fnT Tryz.prog 76 = true := by kernel_rfl
theorem yfn_82 : fnT Tryz.prog 82 = true := by kernel_rfl
theorem yfn_83 : fnT Tryz.prog 83 = true := by kernel_rfl
theorem yfn_97 : fnT Tryz.prog 97 = true := by kernel_rfl
theorem yfn_137 : fnT Tryz.prog 137 = true := by kernel_rfl
theorem yfn_142 : fnT Tryz.prog 142 = true := by kernel_rfl
theorem yfn_147 : fnT Tryz.prog 147 = true := by kernel_rfl
theorem yfn_148 : fnT Tryz.prog 148 = true := by kernel_rfl
theorem yfn_149 : fnT Tryz.prog 149 = true := by kernel_rfl
theorem yfn_165 : fnT Tryz.prog 165 = true := by kernel_rfl
theorem yfn_166 : fnT Tryz.prog 166 = true := by kernel_rfl
theorem yfn_167 : fnT Tryz.prog 167 = true := by kernel_rfl
theorem yfn_189 : fnT Tryz.prog 189 = true := by kernel_rfl
theorem mul_sgn (x y : Int) : x * y = if (!decide (Zn x = Zn y)) = true then -((nv (Zm x) * nv (Zm y) : Nat) : Int) else ((nv (Zm x) * nv (Zm y) : Nat) : Int) := by
 rw [nv_Zm, nv_Zm, ← Int.natAbs_mul]
 unfold Zn
 by_cases hx : x < 0 <;> by_cases hy : y < 0 <;> simp [hx, hy]
 ·have := Int.mul_pos_of_neg_of_neg hx hy; omega
 ·have := Int.mul_nonpos_of_nonpos_of_nonneg (Int.le_of_lt hx) (Int.not_lt.1 hy); omega
 ·have := Int.mul_nonpos_of_nonneg_of_nonpos (Int.not_lt.1 hx) (Int.le_of_lt hy); omega
 ·have := Int.mul_nonneg (Int.not_lt.1 hx) (Int.not_lt.1 hy); omega
set_option maxHeartbeats 1600000 in
theorem c137 (n : Bool) (m : ByteArray) : CallOK Tryz.prog 137 [.lit (.bool n), .lit (.string m)] [] (.agg [.lit (.bool (n && !decide (m = ⟨#[]⟩))), .lit (.string m)]) [] := by
 refine CallOK.flat Tryz.func137 rfl 12 rfl rfl rfl [.cell 4 24] (congrArg Array.toList Tryz.results137) ?_
 simp only [startT, Nat.reduceAdd]
 repeat' (first | refine zg ?_ | (refine AW.cond rfl ?_ ?_ <;> intro hc <;> first | (cases hc; done) | simp only [NM] at hc | skip) | (refine zr ?_; simp -dsimp (disch := try exact zo) only [go_sem] <;> try rfl) | refine ⟨by omega, ?_⟩ | (refine zb ?_ ?_ <;> intro hg <;> (try simp only [NB] at hg) <;> (try rw [hg]) <;> try simp only [NM] at hg) | omega | simp -dsimp (disch := try exact zo) only [go_sem] | contradiction)
 all_goals (cases n <;> simp_all)
theorem c137z (n : Bool) (k : Nat) (z : Int) (h : z = if n then -(k : Int) else k) : CallOK Tryz.prog 137 [.lit (.bool n), .lit (.string (nb k))] [] (.agg (eZ z)) [] := by
 rw [← eZ_of n k h]; exact c137 n (nb k)
set_option maxHeartbeats 1600000 in
theorem c142 (n : Bool) (m : ByteArray) (hm : m.size < 4611686018427387904) : CallOK Tryz.prog 142 [.agg (eI n m)] [] (.agg (eZ (iv n m))) [] := by
 refine CallOK.flat Tryz.func142 rfl 9 rfl rfl rfl [.cell 2 24] (congrArg Array.toList Tryz.results142) ?_
 simp only [startT, Nat.reduceAdd]
 repeat' (first | refine zg ?_ | refine AW.drawP ymix ?_ | (refine AW.cond rfl ?_ ?_ <;> intro hc <;> first | (cases hc; done) | simp only [NM] at hc | skip) | (refine zr ?_; simp -dsimp (disch := try exact zo) only [go_sem] <;> try rfl) | (refine callV.flat _ yfn_143 (c143 _ (by omega)) rfl rfl ?_) | (refine callV.flat (.agg (eZ (iv n m))) yfn_137 (c137z _ (nv m) (iv n m) (rfl)) rfl rfl ?_) | refine ⟨by omega, ?_⟩ | (refine zb ?_ ?_ <;> intro hg <;> (try simp only [NB] at hg) <;> (try rw [hg]) <;> try simp only [NM] at hg) | omega | simp -dsimp (disch := try exact zo) only [go_sem] | contradiction)
theorem c142z (a : Int) (ha : (Zm a).size < 4611686018427387904) : CallOK Tryz.prog 142 [.agg (eZ a)] [] (.agg (eZ a)) [] := by
 have := c142 (Zn a) (Zm a) ha
 rwa [iv_Z] at this
set_option maxHeartbeats 1600000 in
theorem c67 (z : Int) (h : -9223372036854775808 ≤ z ∧ z < 9223372036854775808) : CallOK Tryz.prog 67 [.lit (.int .i64 z)] [] (.agg (eZ z)) [] := by
 refine CallOK.flat Tryz.func67 rfl 16 rfl rfl rfl [.cell 2 24] (congrArg Array.toList Tryz.results67) ?_
 simp only [startT, Nat.reduceAdd]
 repeat' (first | refine zg ?_ | (refine AW.cond rfl ?_ ?_ <;> intro hc <;> first | (cases hc; done) | simp only [NM] at hc | skip) | (refine zr ?_; simp -dsimp (disch := try exact zo) only [go_sem] <;> try rfl) | (first | refine callV.flat (.lit (.string (nb (-z).toNat))) yfn_138 (by have := c138 (0 - (z + 1) + 1) (by omega); rw [show (0 - (z+1)+1 : Int) = -z by omega] at this ⊢; exact this) rfl rfl ?_ | refine callV.flat _ yfn_138 (c138 z (by omega)) rfl rfl ?_) | (first | refine callV.flat (.agg (eZ z)) yfn_137 (c137z true (-z).toNat z (by simp only [reduceIte]; omega)) rfl rfl ?_ | refine callV.flat (.agg (eZ z)) yfn_137 (c137z false z.toNat z (by simp only [Bool.false_eq_true, reduceIte]; omega)) rfl rfl ?_) | refine ⟨by omega, ?_⟩ | (refine zb ?_ ?_ <;> intro hg <;> (try simp only [NB] at hg) <;> (try rw [hg]) <;> try simp only [NM] at hg) | omega | simp -dsimp (disch := try exact zo) only [go_sem] | contradiction)
set_option maxHeartbeats 1600000 in
theorem c76 (n : Bool) (m : ByteArray) (hm : m.size < 4611686018427387904) : CallOK Tryz.prog 76 [.agg (eI n m)] [] (.lit (.int .i64 (sg (iv n m)))) [] := by
 refine CallOK.flat Tryz.func76 rfl 12 rfl rfl rfl [.tmp 2] (congrArg Array.toList Tryz.results76) ?_
 simp only [startT, Nat.reduceAdd]
 repeat' (first | refine zg ?_ | (refine AW.cond rfl ?_ ?_ <;> intro hc <;> first | (cases hc; done) | simp only [NM] at hc | skip) | (refine zr ?_; simp -dsimp (disch := try exact zo) only [go_sem] <;> try rfl) | (refine callV.flat _ yfn_142 (c142 _ _ (by omega)) rfl rfl ?_) | refine ⟨by omega, ?_⟩ | (refine zb ?_ ?_ <;> intro hg <;> (try simp only [NB] at hg) <;> (try rw [hg]) <;> try simp only [NM] at hg) | omega | simp -dsimp (disch := try exact zo) only [go_sem] | contradiction)
 all_goals (unfold sg Zn at *; simp_all [Zm_empty])
set_option maxHeartbeats 1600000 in
theorem c73 (n : Bool) (m : ByteArray) (hm : m.size < 4611686018427387904) : CallOK Tryz.prog 73 [.agg (eI n m)] [] (.agg (eZ (-iv n m))) [] := by
 refine CallOK.flat Tryz.func73 rfl 11 rfl rfl rfl [.cell 2 24] (congrArg Array.toList Tryz.results73) ?_
 simp only [startT, Nat.reduceAdd]
 repeat' (first | refine zg ?_ | (refine AW.cond rfl ?_ ?_ <;> intro hc <;> first | (cases hc; done) | simp only [NM] at hc | skip) | (refine zr ?_; simp -dsimp (disch := try exact zo) only [go_sem] <;> try rfl) | (refine callV.flat _ yfn_142 (c142 _ _ (by omega)) rfl rfl ?_) | (refine callV.flat (.agg (eZ (-iv n m))) yfn_137 (c137z _ ((iv n m).natAbs) (-iv n m) (by unfold Zn; by_cases h : iv n m < 0 <;> simp [h] <;> omega)) rfl rfl ?_) | refine ⟨by omega, ?_⟩ | (refine zb ?_ ?_ <;> intro hg <;> (try simp only [NB] at hg) <;> (try rw [hg]) <;> try simp only [NM] at hg) | omega | simp -dsimp (disch := try exact zo) only [go_sem] | contradiction)
theorem c76z (a : Int) (ha : (Zm a).size < 4611686018427387904) : CallOK Tryz.prog 76 [.agg (eZ a)] [] (.lit (.int .i64 (sg a))) [] := by
 have := c76 (Zn a) (Zm a) ha
 rwa [iv_Z] at this
theorem c73z (a : Int) (ha : (Zm a).size < 4611686018427387904) : CallOK Tryz.prog 73 [.agg (eZ a)] [] (.agg (eZ (-a))) [] := by
 have := c73 (Zn a) (Zm a) ha
 rwa [iv_Z] at this
set_option maxHeartbeats 1600000 in
theorem c83 (n : Bool) (m : ByteArray) (n' : Bool) (m' : ByteArray) (hm : m.size < 68719476736) (hm' : m'.size < 68719476736) : CallOK Tryz.prog 83 [.agg (eI n m), .agg (eI n' m')] [] (.agg (eZ (iv n m * iv n' m'))) [] := by
 refine CallOK.flat Tryz.func83 rfl 20 rfl rfl rfl [.cell 4 24] (congrArg Array.toList Tryz.results83) ?_
 simp only [startT, Nat.reduceAdd]
 have sx := zs_iv n m
 have sy := zs_iv n' m'
 generalize hx : iv n m = x at *
 generalize hy : iv n' m' = y at *
 repeat' (first | refine zg ?_ | refine AW.drawP ymix ?_ | (refine AW.cond rfl ?_ ?_ <;> intro hc <;> first | (cases hc; done) | simp only [NM] at hc | skip) | (refine zr ?_; simp -dsimp (disch := try exact zo) only [go_sem] <;> try rfl) | (first | refine callV.flat (.agg (eZ x)) yfn_142 (hx ▸ c142 n m (by omega)) rfl rfl ?_ | refine callV.flat (.agg (eZ y)) yfn_142 (hy ▸ c142 n' m' (by omega)) rfl rfl ?_) | (refine callV.flat _ yfn_149 (c149 _ _ (by omega) (by omega)) rfl rfl ?_) | (refine callV.flat (.agg (eZ (x * y))) yfn_137 (c137z _ (nv (Zm x) * nv (Zm y)) (x * y) (mul_sgn x y)) rfl rfl ?_) | refine ⟨by omega, ?_⟩ | (refine zb ?_ ?_ <;> intro hg <;> (try simp only [NB] at hg) <;> (try rw [hg]) <;> try simp only [NM] at hg) | omega | simp -dsimp (disch := try exact zo) only [go_sem] | contradiction)
theorem c148t (a b : ByteArray) (ha : a.size < 274877906944) (hb : b.size < 274877906944) (h : nv b ≤ nv a) : CallOK Tryz.prog 148 [.lit (.string a), .lit (.string b)] [] (.tup [.lit (.string (nb (nv a - nv b))), .lit (.bool true)]) [] := by
 have := c148 a b ha hb
 rwa [if_neg (by omega), decide_eq_true h] at this
theorem c148f (a b : ByteArray) (ha : a.size < 274877906944) (hb : b.size < 274877906944) (h : nv a < nv b) : CallOK Tryz.prog 148 [.lit (.string a), .lit (.string b)] [] (.tup [.lit (.string ⟨#[]⟩), .lit (.bool false)]) [] := by
 have := c148 a b ha hb
 rwa [if_pos h, decide_eq_false (by omega)] at this
theorem add_s1 {x y : Int} (hs : Zn x = Zn y) : x + y = if Zn x = true then -((nv (Zm x) + nv (Zm y) : Nat) : Int) else ((nv (Zm x) + nv (Zm y) : Nat) : Int) := by
 simp only [nv_Zm]
 unfold Zn at hs ⊢
 by_cases h : x < 0 <;> by_cases h' : y < 0 <;> simp [h, h'] at hs ⊢ <;> omega
theorem add_s2 {x y : Int} (hs : ¬ Zn x = Zn y) (hle : y.natAbs ≤ x.natAbs) : x + y = if Zn x = true then -((nv (Zm x) - nv (Zm y) : Nat) : Int) else ((nv (Zm x) - nv (Zm y) : Nat) : Int) := by
 simp only [nv_Zm]
 unfold Zn at hs ⊢
 by_cases h : x < 0 <;> by_cases h' : y < 0 <;> simp only [h, h', decide_true, decide_false, reduceIte, not_true_eq_false, Bool.false_eq_true] at hs ⊢ <;> omega
theorem add_s3 {x y : Int} (hs : ¬ Zn x = Zn y) (hle : ¬ y.natAbs ≤ x.natAbs) : x + y = if Zn y = true then -((nv (Zm y) - nv (Zm x) : Nat) : Int) else ((nv (Zm y) - nv (Zm x) : Nat) : Int) := by
 simp only [nv_Zm]
 unfold Zn at hs ⊢
 by_cases h : x < 0 <;> by_cases h' : y < 0 <;> simp only [h, h', decide_true, decide_false, reduceIte, not_true_eq_false, Bool.false_eq_true] at hs ⊢ <;> omega
set_option maxHeartbeats 1600000 in
theorem c82 (n : Bool) (m : ByteArray) (n' : Bool) (m' : ByteArray) (hm : m.size < 68719476736) (hm' : m'.size < 68719476736) : CallOK Tryz.prog 82 [.agg (eI n m), .agg (eI n' m')] [] (.agg (eZ (iv n m + iv n' m'))) [] := by
 refine CallOK.flat Tryz.func82 rfl 51 rfl rfl rfl [.cell 4 24] (congrArg Array.toList Tryz.results82) ?_
 simp only [startT, Nat.reduceAdd]
 have sx := zs_iv n m
 have sy := zs_iv n' m'
 generalize hx : iv n m = x at *
 generalize hy : iv n' m' = y at *
 by_cases hs : Zn x = Zn y
 ·have hT := eq_true hs
  repeat' (first | refine zg ?_ | refine AW.drawP ymix ?_ | (refine AW.cond rfl ?_ ?_ <;> intro hc <;> first | (cases hc; done) | simp only [NM] at hc | skip) | (refine zr ?_; simp -dsimp (disch := try exact zo) only [go_sem, hT] <;> try rfl) | (first | refine callV.flat (.agg (eZ x)) yfn_142 (hx ▸ c142 n m (by omega)) rfl rfl ?_ | refine callV.flat (.agg (eZ y)) yfn_142 (hy ▸ c142 n' m' (by omega)) rfl rfl ?_) | (refine callV.flat _ yfn_147 (c147 _ _ (by omega) (by omega)) rfl rfl ?_) | (first | refine callV.flat _ yfn_148 (c148t _ _ (by omega) (by omega) (by simp only [nv_Zm]; omega)) rfl rfl ?_ | refine callV.flat _ yfn_148 (c148f _ _ (by omega) (by omega) (by simp only [nv_Zm]; omega)) rfl rfl ?_) | (first | refine callV.flat (.agg (eZ (x + y))) yfn_137 (c137z (Zn x) _ _ (add_s1 hs)) rfl rfl ?_ | refine callV.flat (.agg (eZ (x + y))) yfn_137 (c137z (Zn x) _ _ (add_s2 hs hle)) rfl rfl ?_ | refine callV.flat (.agg (eZ (x + y))) yfn_137 (c137z (Zn y) _ _ (add_s3 hs hle)) rfl rfl ?_) | refine ⟨by omega, ?_⟩ | (refine zb ?_ ?_ <;> intro hg <;> (try simp only [NB] at hg) <;> (try rw [hg]) <;> try simp only [NM] at hg) | omega | simp -dsimp (disch := try exact zo) only [go_sem, hT] | contradiction)
 ·have hT := eq_false hs
  by_cases hle : y.natAbs ≤ x.natAbs
  ·repeat' (first | refine zg ?_ | refine AW.drawP ymix ?_ | (refine AW.cond rfl ?_ ?_ <;> intro hc <;> first | (cases hc; done) | simp only [NM] at hc | skip) | (refine zr ?_; simp -dsimp (disch := try exact zo) only [go_sem, hT] <;> try rfl) | (first | refine callV.flat (.agg (eZ x)) yfn_142 (hx ▸ c142 n m (by omega)) rfl rfl ?_ | refine callV.flat (.agg (eZ y)) yfn_142 (hy ▸ c142 n' m' (by omega)) rfl rfl ?_) | (refine callV.flat _ yfn_147 (c147 _ _ (by omega) (by omega)) rfl rfl ?_) | (first | refine callV.flat _ yfn_148 (c148t _ _ (by omega) (by omega) (by simp only [nv_Zm]; omega)) rfl rfl ?_ | refine callV.flat _ yfn_148 (c148f _ _ (by omega) (by omega) (by simp only [nv_Zm]; omega)) rfl rfl ?_) | (first | refine callV.flat (.agg (eZ (x + y))) yfn_137 (c137z (Zn x) _ _ (add_s1 hs)) rfl rfl ?_ | refine callV.flat (.agg (eZ (x + y))) yfn_137 (c137z (Zn x) _ _ (add_s2 hs hle)) rfl rfl ?_ | refine callV.flat (.agg (eZ (x + y))) yfn_137 (c137z (Zn y) _ _ (add_s3 hs hle)) rfl rfl ?_) | refine ⟨by omega, ?_⟩ | (refine zb ?_ ?_ <;> intro hg <;> (try simp only [NB] at hg) <;> (try rw [hg]) <;> try simp only [NM] at hg) | omega | simp -dsimp (disch := try exact zo) only [go_sem, hT] | contradiction)
  ·repeat' (first | refine zg ?_ | refine AW.drawP ymix ?_ | (refine AW.cond rfl ?_ ?_ <;> intro hc <;> first | (cases hc; done) | simp only [NM] at hc | skip) | (refine zr ?_; simp -dsimp (disch := try exact zo) only [go_sem, hT] <;> try rfl) | (first | refine callV.flat (.agg (eZ x)) yfn_142 (hx ▸ c142 n m (by omega)) rfl rfl ?_ | refine callV.flat (.agg (eZ y)) yfn_142 (hy ▸ c142 n' m' (by omega)) rfl rfl ?_) | (refine callV.flat _ yfn_147 (c147 _ _ (by omega) (by omega)) rfl rfl ?_) | (first | refine callV.flat _ yfn_148 (c148t _ _ (by omega) (by omega) (by simp only [nv_Zm]; omega)) rfl rfl ?_ | refine callV.flat _ yfn_148 (c148f _ _ (by omega) (by omega) (by simp only [nv_Zm]; omega)) rfl rfl ?_) | (first | refine callV.flat (.agg (eZ (x + y))) yfn_137 (c137z (Zn x) _ _ (add_s1 hs)) rfl rfl ?_ | refine callV.flat (.agg (eZ (x + y))) yfn_137 (c137z (Zn x) _ _ (add_s2 hs hle)) rfl rfl ?_ | refine callV.flat (.agg (eZ (x + y))) yfn_137 (c137z (Zn y) _ _ (add_s3 hs hle)) rfl rfl ?_) | refine ⟨by omega, ?_⟩ | (refine zb ?_ ?_ <;> intro hg <;> (try simp only [NB] at hg) <;> (try rw [hg]) <;> try simp only [NM] at hg) | omega | simp -dsimp (disch := try exact zo) only [go_sem, hT] | contradiction)
theorem c82z (a b : Int) (ha : (Zm a).size < 68719476736) (hb : (Zm b).size < 68719476736) : CallOK Tryz.prog 82 [.agg (eZ a), .agg (eZ b)] [] (.agg (eZ (a + b))) [] := by
 have := c82 (Zn a) (Zm a) (Zn b) (Zm b) ha hb
 rwa [iv_Z, iv_Z] at this
theorem c83z (a b : Int) (ha : (Zm a).size < 68719476736) (hb : (Zm b).size < 68719476736) : CallOK Tryz.prog 83 [.agg (eZ a), .agg (eZ b)] [] (.agg (eZ (a * b))) [] := by
 have := c83 (Zn a) (Zm a) (Zn b) (Zm b) ha hb
 rwa [iv_Z, iv_Z] at this
set_option maxHeartbeats 1600000 in
theorem c166 (n : Bool) (m : ByteArray) (n' : Bool) (m' : ByteArray) (hm : m.size < 68719476736) (hm' : m'.size < 68719476736) : CallOK Tryz.prog 166 [.agg (eI n m), .agg (eI n' m')] [] (.agg (eZ (iv n m - iv n' m'))) [] := by
 refine CallOK.flat Tryz.func166 rfl 9 rfl rfl rfl [.cell 4 24] (congrArg Array.toList Tryz.results166) ?_
 simp only [startT, Nat.reduceAdd]
 repeat' (first | refine zg ?_ | refine AW.drawP ymix ?_ | (refine AW.cond rfl ?_ ?_ <;> intro hc <;> first | (cases hc; done) | simp only [NM] at hc | skip) | (refine zr ?_; simp -dsimp (disch := try exact zo) only [go_sem] <;> try rfl) | (refine callV.flat _ yfn_73 (c73 n' m' (by omega)) rfl rfl ?_) | (refine callV.flat (.agg (eZ (iv n m - iv n' m'))) yfn_82 (by have := c82 n m (Zn (-iv n' m')) (Zm (-iv n' m')) (by omega) (by rw [Zm_neg]; have := zs_iv n' m'; omega); rw [iv_Z] at this; exact this) rfl rfl ?_) | refine ⟨by omega, ?_⟩ | (refine zb ?_ ?_ <;> intro hg <;> (try simp only [NB] at hg) <;> (try rw [hg]) <;> try simp only [NM] at hg) | omega | simp -dsimp (disch := try exact zo) only [go_sem] | contradiction)
theorem c166z (a b : Int) (ha : (Zm a).size < 68719476736) (hb : (Zm b).size < 68719476736) : CallOK Tryz.prog 166 [.agg (eZ a), .agg (eZ b)] [] (.agg (eZ (a - b))) [] := by
 have := c166 (Zn a) (Zm a) (Zn b) (Zm b) ha hb
 rwa [iv_Z, iv_Z] at this
set_option maxHeartbeats 1600000 in
theorem c97 (n : Bool) (m : ByteArray) (n' : Bool) (m' : ByteArray) (hm : m.size < 68719476736) (hm' : m'.size < 68719476736) : CallOK Tryz.prog 97 [.agg (eI n m), .agg (eI n' m')] [] (.lit (.int .i64 (sg (iv n m - iv n' m')))) [] := by
 refine CallOK.flat Tryz.func97 rfl 9 rfl rfl rfl [.tmp 4] (congrArg Array.toList Tryz.results97) ?_
 simp only [startT, Nat.reduceAdd]
 repeat' (first | refine zg ?_ | (refine AW.cond rfl ?_ ?_ <;> intro hc <;> first | (cases hc; done) | simp only [NM] at hc | skip) | (refine zr ?_; simp -dsimp (disch := try exact zo) only [go_sem] <;> try rfl) | (refine callV.flat _ yfn_166 (c166 n m n' m' (by omega) (by omega)) rfl rfl ?_) | (refine callV.flat _ yfn_76 (c76z (iv n m - iv n' m') (by have := zs_sub (iv n m) (iv n' m') (k := 68719476736) (by have := zs_iv n m; omega) (by have := zs_iv n' m'; omega); omega)) rfl rfl ?_) | refine ⟨by omega, ?_⟩ | (refine zb ?_ ?_ <;> intro hg <;> (try simp only [NB] at hg) <;> (try rw [hg]) <;> try simp only [NM] at hg) | omega | simp -dsimp (disch := try exact zo) only [go_sem] | contradiction)
theorem c97z (a b : Int) (ha : (Zm a).size < 68719476736) (hb : (Zm b).size < 68719476736) : CallOK Tryz.prog 97 [.agg (eZ a), .agg (eZ b)] [] (.lit (.int .i64 (sg (a - b)))) [] := by
 have := c97 (Zn a) (Zm a) (Zn b) (Zm b) ha hb
 rwa [iv_Z, iv_Z] at this
end Go.Proofs.Vx
