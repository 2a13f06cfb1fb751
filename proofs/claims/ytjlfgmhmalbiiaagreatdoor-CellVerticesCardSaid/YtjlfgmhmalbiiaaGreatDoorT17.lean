import Derived.Test.YtjlfgmhmalbiiaaGreatDoorProg
import Derived.Test.YtjlfgmhmalbiiaaGreatDoorT10
import Derived.Test.YtjlfgmhmalbiiaaGreatDoorT16
set_option linter.all false
namespace Go.Proofs.Vx
open Go Go.Sx Go.Proofs
attribute [local irreducible] fnT CallOK CallFr AW effV callV runP runO oneP oneO gcaseP hid
theorem yqq_Nx17 : agT Tryz.prog 103 = some true ∧ agT Tryz.prog 121 = some true ∧ arT Tryz.prog 103 = some (3, 3, true) ∧ arT Tryz.prog 121 = some (3, 2, true) ∧ plT Tryz.prog 121 = some [(0, 2), (2, 2), (4, 2)] ∧ slT Tryz.prog 103 = none ∧ slT Tryz.prog 121 = none ∧ strT Tryz.prog 121 = false ∧ szT Tryz.prog 103 = some 9 ∧ szT Tryz.prog 121 = some 6 ∧ zeT Tryz.prog 103 = some [.lit (.bool false), .lit (.string ⟨#[]⟩), .lit (.string ⟨#[]⟩), .lit (.bool false), .lit (.string ⟨#[]⟩), .lit (.string ⟨#[]⟩), .lit (.bool false), .lit (.string ⟨#[]⟩), .lit (.string ⟨#[]⟩)] ∧ zeT Tryz.prog 121 = some [.lit (.bool false), .lit (.string ⟨#[]⟩), .lit (.bool false), .lit (.string ⟨#[]⟩), .lit (.bool false), .lit (.string ⟨#[]⟩)] := by and_intros <;> kernel_rfl
attribute [go_sem] yqq_Nx17
theorem c98z (x y z w : Int) (h : Bs 17179869183 x y z w) : CallOK Tryz.prog 98 [.agg (e4 x y z w)] [] (.agg (eP (nrm x y z w))) [] := by
 have := c98 (Zn x) (Zm x) (Zn y) (Zm y) (Zn z) (Zm z) (Zn w) (Zm w) (by have := h.a; omega) (by have := h.b; omega) (by have := h.c; omega) (by have := h.d; omega)
 rwa [iv_Z, iv_Z, iv_Z, iv_Z] at this
theorem c98c (p : Pt) (hc : CanP p) (h : Bs 17179869183 p.x p.y p.z p.w) : CallOK Tryz.prog 98 [.agg (eP p)] [] (.agg (eP p)) [] := by
 have := c98z p.x p.y p.z p.w h
 rwa [nrm_can hc] at this
set_option maxHeartbeats 3200000 in
theorem c77 (p : Pt) (hcp : CanP p) (hp : Bs 17179869183 p.x p.y p.z p.w) : CallOK Tryz.prog 77 [.agg (eP p)] [] (.agg (eV (Rat.divInt p.x p.w) (Rat.divInt p.y p.w) (Rat.divInt p.z p.w))) [] := by
 refine CallOK.flat Tryz.func77 rfl 30 rfl rfl rfl [.cell 2 103] (congrArg Array.toList Tryz.results77) ?_
 simp only [startT, Nat.reduceAdd]
 have sp1 := hp.a
 have sp2 := hp.b
 have sp3 := hp.c
 have sp4 := hp.d
 have hw := hcp.w
 repeat' (first | refine zg ?_ | refine AW.unroll 6 ?_ | (refine AW.cond rfl ?_ ?_ <;> intro hc <;> first | (cases hc; done) | simp only [NM] at hc | skip) | (refine zr ?_; simp -dsimp (disch := try exact zo) only [go_sem] <;> try rfl) | (first | refine callV.flat _ yfn_98 (c98c p hcp hp) rfl rfl ?_) | (first | refine callV.flat _ yfn_144 (c144z p.x p.w (by omega) (by omega) (by omega)) rfl rfl ?_ | refine callV.flat _ yfn_144 (c144z p.y p.w (by omega) (by omega) (by omega)) rfl rfl ?_ | refine callV.flat _ yfn_144 (c144z p.z p.w (by omega) (by omega) (by omega)) rfl rfl ?_) | refine ⟨by omega, ?_⟩ | (refine zb ?_ ?_ <;> intro hg <;> (try simp only [NB] at hg) <;> (try rw [hg]) <;> try simp only [NM] at hg) | omega | simp -dsimp (disch := try exact zo) only [go_sem] | contradiction)
set_option maxHeartbeats 6400000 in
theorem c35 (a b : Pt) (hca : CanP a) (hcb : CanP b) (ha : Bs 8589934591 a.x a.y a.z a.w) (hb : Bs 8589934591 b.x b.y b.z b.w) : CallOK Tryz.prog 35 [.agg (eP a), .agg (eP b)] [] (.lit (.int .i64 (cmpP a b))) [] := by
 refine CallOK.flat Tryz.func35 rfl 48 rfl rfl rfl [.tmp 4] (congrArg Array.toList Tryz.results35) ?_
 simp only [startT, Nat.reduceAdd]
 have sa1 := ha.a
 have sa2 := ha.b
 have sa3 := ha.c
 have sa4 := ha.d
 have sb1 := hb.a
 have sb2 := hb.b
 have sb3 := hb.c
 have sb4 := hb.d
 have tx1 := zs_mul a.x b.w sa1 sb4
 have tx2 := zs_mul b.x a.w sb1 sa4
 have ty1 := zs_mul a.y b.w sa2 sb4
 have ty2 := zs_mul b.y a.w sb2 sa4
 have tz1 := zs_mul a.z b.w sa3 sb4
 have tz2 := zs_mul b.z a.w sb3 sa4
 have ha : Bs 17179869183 a.x a.y a.z a.w := ⟨by omega, by omega, by omega, by omega⟩
 have hb : Bs 17179869183 b.x b.y b.z b.w := ⟨by omega, by omega, by omega, by omega⟩
 unfold cmpP
 by_cases q1 : sg (a.x * b.w - b.x * a.w) = 0
 ·have k1 := eq_true q1
  rw [if_neg (by simp [q1])]
  by_cases q2 : sg (a.y * b.w - b.y * a.w) = 0
  ·have k2 := eq_true q2
   rw [if_neg (by simp [q2])]
   by_cases q3 : sg (a.z * b.w - b.z * a.w) = 0
   ·have k3 := eq_true q3
    rw [q3]
    repeat' (first | refine zg ?_ | refine AW.drawP ymix ?_ | refine AW.unroll 6 ?_ | (refine AW.cond rfl ?_ ?_ <;> intro hc <;> first | (cases hc; done) | simp only [NM] at hc | skip) | (refine zr ?_; simp -dsimp (disch := try exact zo) only [go_sem, k1, k2, k3] <;> try rfl) | (first | refine callV.flat _ yfn_98 (c98c a hca ha) rfl rfl ?_ | refine callV.flat _ yfn_98 (c98c b hcb hb) rfl rfl ?_) | (first | refine callV.flat _ yfn_83 (c83z a.x b.w (by omega) (by omega)) rfl rfl ?_ | refine callV.flat _ yfn_83 (c83z b.x a.w (by omega) (by omega)) rfl rfl ?_ | refine callV.flat _ yfn_83 (c83z a.y b.w (by omega) (by omega)) rfl rfl ?_ | refine callV.flat _ yfn_83 (c83z b.y a.w (by omega) (by omega)) rfl rfl ?_ | refine callV.flat _ yfn_83 (c83z a.z b.w (by omega) (by omega)) rfl rfl ?_ | refine callV.flat _ yfn_83 (c83z b.z a.w (by omega) (by omega)) rfl rfl ?_) | (first | refine callV.flat _ yfn_97 (c97z (a.x * b.w) (b.x * a.w) (by omega) (by omega)) rfl rfl ?_ | refine callV.flat _ yfn_97 (c97z (a.y * b.w) (b.y * a.w) (by omega) (by omega)) rfl rfl ?_ | refine callV.flat _ yfn_97 (c97z (a.z * b.w) (b.z * a.w) (by omega) (by omega)) rfl rfl ?_) | refine ⟨by omega, ?_⟩ | (refine zb ?_ ?_ <;> intro hg <;> (try simp only [NB] at hg) <;> (try rw [hg]) <;> try simp only [NM] at hg) | omega | simp -dsimp (disch := try exact zo) only [go_sem, k1, k2, k3] | contradiction)
   ·have k3 := eq_false q3
    repeat' (first | refine zg ?_ | refine AW.drawP ymix ?_ | refine AW.unroll 6 ?_ | (refine AW.cond rfl ?_ ?_ <;> intro hc <;> first | (cases hc; done) | simp only [NM] at hc | skip) | (refine zr ?_; simp -dsimp (disch := try exact zo) only [go_sem, k1, k2, k3] <;> try rfl) | (first | refine callV.flat _ yfn_98 (c98c a hca ha) rfl rfl ?_ | refine callV.flat _ yfn_98 (c98c b hcb hb) rfl rfl ?_) | (first | refine callV.flat _ yfn_83 (c83z a.x b.w (by omega) (by omega)) rfl rfl ?_ | refine callV.flat _ yfn_83 (c83z b.x a.w (by omega) (by omega)) rfl rfl ?_ | refine callV.flat _ yfn_83 (c83z a.y b.w (by omega) (by omega)) rfl rfl ?_ | refine callV.flat _ yfn_83 (c83z b.y a.w (by omega) (by omega)) rfl rfl ?_ | refine callV.flat _ yfn_83 (c83z a.z b.w (by omega) (by omega)) rfl rfl ?_ | refine callV.flat _ yfn_83 (c83z b.z a.w (by omega) (by omega)) rfl rfl ?_) | (first | refine callV.flat _ yfn_97 (c97z (a.x * b.w) (b.x * a.w) (by omega) (by omega)) rfl rfl ?_ | refine callV.flat _ yfn_97 (c97z (a.y * b.w) (b.y * a.w) (by omega) (by omega)) rfl rfl ?_ | refine callV.flat _ yfn_97 (c97z (a.z * b.w) (b.z * a.w) (by omega) (by omega)) rfl rfl ?_) | refine ⟨by omega, ?_⟩ | (refine zb ?_ ?_ <;> intro hg <;> (try simp only [NB] at hg) <;> (try rw [hg]) <;> try simp only [NM] at hg) | omega | simp -dsimp (disch := try exact zo) only [go_sem, k1, k2, k3] | contradiction)
  ·have k2 := eq_false q2
   rw [if_pos q2]
   have k3 : True := trivial
   repeat' (first | refine zg ?_ | refine AW.drawP ymix ?_ | refine AW.unroll 6 ?_ | (refine AW.cond rfl ?_ ?_ <;> intro hc <;> first | (cases hc; done) | simp only [NM] at hc | skip) | (refine zr ?_; simp -dsimp (disch := try exact zo) only [go_sem, k1, k2, k3] <;> try rfl) | (first | refine callV.flat _ yfn_98 (c98c a hca ha) rfl rfl ?_ | refine callV.flat _ yfn_98 (c98c b hcb hb) rfl rfl ?_) | (first | refine callV.flat _ yfn_83 (c83z a.x b.w (by omega) (by omega)) rfl rfl ?_ | refine callV.flat _ yfn_83 (c83z b.x a.w (by omega) (by omega)) rfl rfl ?_ | refine callV.flat _ yfn_83 (c83z a.y b.w (by omega) (by omega)) rfl rfl ?_ | refine callV.flat _ yfn_83 (c83z b.y a.w (by omega) (by omega)) rfl rfl ?_ | refine callV.flat _ yfn_83 (c83z a.z b.w (by omega) (by omega)) rfl rfl ?_ | refine callV.flat _ yfn_83 (c83z b.z a.w (by omega) (by omega)) rfl rfl ?_) | (first | refine callV.flat _ yfn_97 (c97z (a.x * b.w) (b.x * a.w) (by omega) (by omega)) rfl rfl ?_ | refine callV.flat _ yfn_97 (c97z (a.y * b.w) (b.y * a.w) (by omega) (by omega)) rfl rfl ?_ | refine callV.flat _ yfn_97 (c97z (a.z * b.w) (b.z * a.w) (by omega) (by omega)) rfl rfl ?_) | refine ⟨by omega, ?_⟩ | (refine zb ?_ ?_ <;> intro hg <;> (try simp only [NB] at hg) <;> (try rw [hg]) <;> try simp only [NM] at hg) | omega | simp -dsimp (disch := try exact zo) only [go_sem, k1, k2, k3] | contradiction)
 ·have k1 := eq_false q1
  rw [if_pos q1]
  have k2 : True := trivial
  have k3 : True := trivial
  repeat' (first | refine zg ?_ | refine AW.drawP ymix ?_ | refine AW.unroll 6 ?_ | (refine AW.cond rfl ?_ ?_ <;> intro hc <;> first | (cases hc; done) | simp only [NM] at hc | skip) | (refine zr ?_; simp -dsimp (disch := try exact zo) only [go_sem, k1, k2, k3] <;> try rfl) | (first | refine callV.flat _ yfn_98 (c98c a hca ha) rfl rfl ?_ | refine callV.flat _ yfn_98 (c98c b hcb hb) rfl rfl ?_) | (first | refine callV.flat _ yfn_83 (c83z a.x b.w (by omega) (by omega)) rfl rfl ?_ | refine callV.flat _ yfn_83 (c83z b.x a.w (by omega) (by omega)) rfl rfl ?_ | refine callV.flat _ yfn_83 (c83z a.y b.w (by omega) (by omega)) rfl rfl ?_ | refine callV.flat _ yfn_83 (c83z b.y a.w (by omega) (by omega)) rfl rfl ?_ | refine callV.flat _ yfn_83 (c83z a.z b.w (by omega) (by omega)) rfl rfl ?_ | refine callV.flat _ yfn_83 (c83z b.z a.w (by omega) (by omega)) rfl rfl ?_) | (first | refine callV.flat _ yfn_97 (c97z (a.x * b.w) (b.x * a.w) (by omega) (by omega)) rfl rfl ?_ | refine callV.flat _ yfn_97 (c97z (a.y * b.w) (b.y * a.w) (by omega) (by omega)) rfl rfl ?_ | refine callV.flat _ yfn_97 (c97z (a.z * b.w) (b.z * a.w) (by omega) (by omega)) rfl rfl ?_) | refine ⟨by omega, ?_⟩ | (refine zb ?_ ?_ <;> intro hg <;> (try simp only [NB] at hg) <;> (try rw [hg]) <;> try simp only [NM] at hg) | omega | simp -dsimp (disch := try exact zo) only [go_sem, k1, k2, k3] | contradiction)
end Go.Proofs.Vx
namespace Go.Proofs.Vx
open Go Go.Sx Go.Proofs
attribute [local irreducible] fnT CallOK CallFr AW effV callV runP runO oneP oneO gcaseP hid
theorem yqq_Nx18 : agT Tryz.prog 26 = some true ∧ fdT Tryz.prog 26 0 = some (0, 2, true) ∧ fdT Tryz.prog 26 1 = some (2, 2, true) ∧ fdT Tryz.prog 26 2 = some (4, 2, true) ∧ fdT Tryz.prog 26 3 = some (6, 2, true) ∧ plT Tryz.prog 26 = some [(0, 2), (2, 2), (4, 2), (6, 2)] ∧ strT Tryz.prog 103 = false ∧ szT Tryz.prog 26 = some 8 ∧ zeT Tryz.prog 26 = some [.lit (.bool false), .lit (.string ⟨#[]⟩), .lit (.bool false), .lit (.string ⟨#[]⟩), .lit (.bool false), .lit (.string ⟨#[]⟩), .lit (.bool false), .lit (.string ⟨#[]⟩)] := by and_intros <;> kernel_rfl
attribute [go_sem] yqq_Nx18
theorem yfn_22 : fnT Tryz.prog 22 = true := by kernel_rfl
theorem yfn_34 : fnT Tryz.prog 34 = true := by kernel_rfl
theorem yfn_72 : fnT Tryz.prog 72 = true := by kernel_rfl
theorem yfn_74 : fnT Tryz.prog 74 = true := by kernel_rfl
theorem yfn_124 : fnT Tryz.prog 124 = true := by kernel_rfl
theorem yfn_168 : fnT Tryz.prog 168 = true := by kernel_rfl
set_option maxHeartbeats 6400000 in
theorem c96 (a b c : Rat) (ka : Qs 1073741824 a) (kb : Qs 1073741824 b) (kc : Qs 1073741824 c) : CallOK Tryz.prog 96 [.agg (eV a b c)] [] (.agg (eP (mkP a b c))) [] := by
 refine CallOK.flat Tryz.func96 rfl 63 rfl rfl rfl [.cell 2 51] (congrArg Array.toList Tryz.results96) ?_
 simp only [startT, Nat.reduceAdd]
 have na := ka.num
 have da := ka.den'
 have nb := kb.num
 have db := kb.den'
 have nc := kc.num
 have dc := kc.den'
 have z1 : (Zm 1).size ≤ 1 := by rw [Zm_size]; decide
 have w1 := zs_mul 1 (a.den : Int) z1 da
 have w2 := zs_mul (1 * (a.den : Int)) (b.den : Int) w1 db
 have w3 := zs_mul (1 * (a.den : Int) * (b.den : Int)) (c.den : Int) w2 dc
 have qa := Nat.le_trans (zs_ediv (1 * (a.den : Int) * (b.den : Int) * (c.den : Int)) (a.den : Int)) (Nat.succ_le_succ w3)
 have ra := zs_mul a.num ((1 * (a.den : Int) * (b.den : Int) * (c.den : Int)) / (a.den : Int)) na qa
 have qb := Nat.le_trans (zs_ediv (1 * (a.den : Int) * (b.den : Int) * (c.den : Int)) (b.den : Int)) (Nat.succ_le_succ w3)
 have rb := zs_mul b.num ((1 * (a.den : Int) * (b.den : Int) * (c.den : Int)) / (b.den : Int)) nb qb
 have qc := Nat.le_trans (zs_ediv (1 * (a.den : Int) * (b.den : Int) * (c.den : Int)) (c.den : Int)) (Nat.succ_le_succ w3)
 have rc := zs_mul c.num ((1 * (a.den : Int) * (b.den : Int) * (c.den : Int)) / (c.den : Int)) nc qc
 have hbs : Bs 17179869183 (a.num * ((1 * (a.den : Int) * (b.den : Int) * (c.den : Int)) / (a.den : Int))) (b.num * ((1 * (a.den : Int) * (b.den : Int) * (c.den : Int)) / (b.den : Int))) (c.num * ((1 * (a.den : Int) * (b.den : Int) * (c.den : Int)) / (c.den : Int))) (1 * (a.den : Int) * (b.den : Int) * (c.den : Int)) := ⟨by omega, by omega, by omega, by omega⟩
 repeat' (first | refine zg ?_ | refine AW.drawP ymix ?_ | refine AW.unroll 6 ?_ | (refine AW.cond rfl ?_ ?_ <;> intro hc <;> first | (cases hc; done) | simp only [NM] at hc | skip) | (refine zr ?_; simp -dsimp (disch := try exact zo) only [go_sem] <;> try rfl) | (refine callV.flat _ yfn_67 (c67 1 (by omega)) rfl rfl ?_) | (first | refine callV.flat _ yfn_164 (c164 a (Qs.mono ka (by omega))) rfl rfl ?_ | refine callV.flat _ yfn_164 (c164 b (Qs.mono kb (by omega))) rfl rfl ?_ | refine callV.flat _ yfn_164 (c164 c (Qs.mono kc (by omega))) rfl rfl ?_) | (first | refine callV.flat _ yfn_83 (c83z (1) ((a.den : Int)) (by omega) (by omega)) rfl rfl ?_ | refine callV.flat _ yfn_83 (c83z (1 * (a.den : Int)) ((b.den : Int)) (by omega) (by omega)) rfl rfl ?_ | refine callV.flat _ yfn_83 (c83z (1 * (a.den : Int) * (b.den : Int)) ((c.den : Int)) (by omega) (by omega)) rfl rfl ?_ | refine callV.flat _ yfn_83 (c83z (a.num) ((1 * (a.den : Int) * (b.den : Int) * (c.den : Int)) / (a.den : Int)) (by omega) (by omega)) rfl rfl ?_ | refine callV.flat _ yfn_83 (c83z (b.num) ((1 * (a.den : Int) * (b.den : Int) * (c.den : Int)) / (b.den : Int)) (by omega) (by omega)) rfl rfl ?_ | refine callV.flat _ yfn_83 (c83z (c.num) ((1 * (a.den : Int) * (b.den : Int) * (c.den : Int)) / (c.den : Int)) (by omega) (by omega)) rfl rfl ?_) | (first | refine callV.flat _ yfn_165 (c165z (1 * (a.den : Int) * (b.den : Int) * (c.den : Int)) (a.den : Int) (by omega) (by omega) (den_ne a)) rfl rfl ?_ | refine callV.flat _ yfn_165 (c165z (1 * (a.den : Int) * (b.den : Int) * (c.den : Int)) (b.den : Int) (by omega) (by omega) (den_ne b)) rfl rfl ?_ | refine callV.flat _ yfn_165 (c165z (1 * (a.den : Int) * (b.den : Int) * (c.den : Int)) (c.den : Int) (by omega) (by omega) (den_ne c)) rfl rfl ?_) | (refine callV.flat _ yfn_98 (c98z _ _ _ _ hbs) rfl rfl ?_) | refine ⟨by omega, ?_⟩ | (refine zb ?_ ?_ <;> intro hg <;> (try simp only [NB] at hg) <;> (try rw [hg]) <;> try simp only [NM] at hg) | omega | simp -dsimp (disch := try exact zo) only [go_sem] | contradiction)
set_option maxHeartbeats 1600000 in
theorem c72 (n1 : Bool) (m1 : ByteArray) (n2 : Bool) (m2 : ByteArray) (n3 : Bool) (m3 : ByteArray) (n4 : Bool) (m4 : ByteArray) : CallOK Tryz.prog 72 [.agg [.lit (.bool n1), .lit (.string m1), .lit (.bool n2), .lit (.string m2), .lit (.bool n3), .lit (.string m3), .lit (.bool n4), .lit (.string m4)]] [] (.agg [.lit (.bool n1), .lit (.string m1), .lit (.bool n2), .lit (.string m2), .lit (.bool n3), .lit (.string m3), .lit (.bool n4), .lit (.string m4)]) [] := by
 refine CallOK.flat Tryz.func72 rfl 12 rfl rfl rfl [.cell 2 95] (congrArg Array.toList Tryz.results72) ?_
 simp only [startT, Nat.reduceAdd]
 repeat' (first | refine zg ?_ | (refine AW.cond rfl ?_ ?_ <;> intro hc <;> first | (cases hc; done) | simp only [NM] at hc | skip) | (refine zr ?_; simp -dsimp (disch := try exact zo) only [go_sem] <;> try rfl) | refine ⟨by omega, ?_⟩ | (refine zb ?_ ?_ <;> intro hg <;> (try simp only [NB] at hg) <;> (try rw [hg]) <;> try simp only [NM] at hg) | omega | simp -dsimp (disch := try exact zo) only [go_sem] | contradiction)
set_option maxHeartbeats 1600000 in
theorem c74 (n1 : Bool) (m1 : ByteArray) (n2 : Bool) (m2 : ByteArray) (n3 : Bool) (m3 : ByteArray) (n4 : Bool) (m4 : ByteArray) : CallOK Tryz.prog 74 [.agg [.lit (.bool n1), .lit (.string m1), .lit (.bool n2), .lit (.string m2), .lit (.bool n3), .lit (.string m3), .lit (.bool n4), .lit (.string m4)]] [] (.agg [.lit (.bool n1), .lit (.string m1), .lit (.bool n2), .lit (.string m2), .lit (.bool n3), .lit (.string m3), .lit (.bool n4), .lit (.string m4)]) [] := by
 refine CallOK.flat Tryz.func74 rfl 12 rfl rfl rfl [.cell 2 26] (congrArg Array.toList Tryz.results74) ?_
 simp only [startT, Nat.reduceAdd]
 repeat' (first | refine zg ?_ | (refine AW.cond rfl ?_ ?_ <;> intro hc <;> first | (cases hc; done) | simp only [NM] at hc | skip) | (refine zr ?_; simp -dsimp (disch := try exact zo) only [go_sem] <;> try rfl) | refine ⟨by omega, ?_⟩ | (refine zb ?_ ?_ <;> intro hg <;> (try simp only [NB] at hg) <;> (try rw [hg]) <;> try simp only [NM] at hg) | omega | simp -dsimp (disch := try exact zo) only [go_sem] | contradiction)
def g3 (x y z : Int) : Nat := Nat.gcd (Nat.gcd x.natAbs y.natAbs) z.natAbs
theorem natAbs_iv (n : Bool) (m : ByteArray) : (iv n m).natAbs = nv m := by unfold iv; cases n <;> simp
end Go.Proofs.Vx
namespace Go.Sx
set_option linter.unusedVariables false
theorem bo_eq (a b : Int) : decide (Zn a = Zn b ∧ Zm a = Zm b) = decide (a = b) := by
 by_cases h : a = b
 ·subst h; simp
 ·have : ¬ (Zn a = Zn b ∧ Zm a = Zm b) := fun h' => h (eZ_inj h'.1 h'.2)
  simp [h, this]
theorem eq4 (a b c d a' b' c' d' : Int) : eqCs [.lit (.bool (Zn a)), .lit (.string (Zm a)), .lit (.bool (Zn b)), .lit (.string (Zm b)), .lit (.bool (Zn c)), .lit (.string (Zm c)), .lit (.bool (Zn d)), .lit (.string (Zm d))]
  [.lit (.bool (Zn a')), .lit (.string (Zm a')), .lit (.bool (Zn b')), .lit (.string (Zm b')), .lit (.bool (Zn c')), .lit (.string (Zm c')), .lit (.bool (Zn d')), .lit (.string (Zm d'))] = decide (a = a' ∧ b = b' ∧ c = c' ∧ d = d') := by
 have h1 := bo_eq a a'
 have h2 := bo_eq b b'
 have h3 := bo_eq c c'
 have h4 := bo_eq d d'
 simp only [eqCs, ceq, Bool.and_true]
 simp only [decide_eq_decide] at h1 h2 h3 h4
 rw [Bool.eq_iff_iff]
 simp only [Bool.and_eq_true, beq_iff_eq, decide_eq_true_eq]
 constructor
 ·rintro ⟨q1, q2, q3, q4, q5, q6, q7, q8⟩
  exact ⟨h1.1 ⟨q1, q2⟩, h2.1 ⟨q3, q4⟩, h3.1 ⟨q5, q6⟩, h4.1 ⟨q7, q8⟩⟩
 ·rintro ⟨rfl, rfl, rfl, rfl⟩
  simp
attribute [go_sem ↓] eq4
def abv (p : Pl) (x : Pt) : Int := p.a * x.x + p.b * x.y + p.c * x.z - p.d * x.w
def sideP (p : Pl) (x : Pt) : Int := sg (abv p x)
def negP (p : Pl) : Pl := ⟨-p.a, -p.b, -p.c, -p.d⟩
theorem abv_neg (p : Pl) (x : Pt) : abv (negP p) x = - abv p x := by unfold abv negP; simp only [Int.neg_mul]; omega
def meetP (p : Pl) (a b : Pt) : Pt := nrm (a.x * abv p b - b.x * abv p a) (a.y * abv p b - b.y * abv p a) (a.z * abv p b - b.z * abv p a) (a.w * abv p b - b.w * abv p a)
structure BPt (k : Nat) (p : Pt) : Prop where
 out : Bs k p.x p.y p.z p.w
structure BPl (k : Nat) (p : Pl) : Prop where
 out : Bs k p.a p.b p.c p.d
theorem BPt.mono {k l : Nat} {p : Pt} (h : BPt k p) (hl : k ≤ l) : BPt l p := ⟨⟨Nat.le_trans h.out.a hl, Nat.le_trans h.out.b hl, Nat.le_trans h.out.c hl, Nat.le_trans h.out.d hl⟩⟩
theorem BPl.mono {k l : Nat} {p : Pl} (h : BPl k p) (hl : k ≤ l) : BPl l p := ⟨⟨Nat.le_trans h.out.a hl, Nat.le_trans h.out.b hl, Nat.le_trans h.out.c hl, Nat.le_trans h.out.d hl⟩⟩
theorem zs_abv {p : Pl} {x : Pt} {k l : Nat} (hp : BPl k p) (hx : BPt l x) : (Zm (abv p x)).size ≤ k + l + 3 := by
 have h1 := zs_mul p.a x.x hp.out.a hx.out.a
 have h2 := zs_mul p.b x.y hp.out.b hx.out.b
 have h3 := zs_mul p.c x.z hp.out.c hx.out.c
 have h4 := zs_mul p.d x.w hp.out.d hx.out.d
 exact zs_sub _ _ (zs_add _ _ (zs_add _ _ h1 h2) (by omega)) (by omega)
theorem BPl.neg {k : Nat} {p : Pl} (h : BPl k p) : BPl k (negP p) := ⟨⟨by simpa [negP, Zm_neg] using h.out.a, by simpa [negP, Zm_neg] using h.out.b, by simpa [negP, Zm_neg] using h.out.c, by simpa [negP, Zm_neg] using h.out.d⟩⟩
theorem meet_bs {p : Pl} {a b : Pt} {k l : Nat} (hp : BPl k p) (ha : BPt l a) (hb : BPt l b) : BPt (k + 2 * l + 4) (meetP p a b) := by
 have h1 := zs_abv hp ha
 have h2 := zs_abv hp hb
 have key : ∀ x y : Int, (Zm x).size ≤ l → (Zm y).size ≤ l → (Zm (x * abv p b - y * abv p a)).size ≤ k + 2 * l + 4 := fun x y hx hy =>
  Nat.le_trans (zs_sub _ _ (zs_mul x _ hx h2) (zs_mul y _ hy h1)) (by omega)
 exact ⟨nrm_bs ⟨key _ _ ha.out.a hb.out.a, key _ _ ha.out.b hb.out.b, key _ _ ha.out.c hb.out.c, key _ _ ha.out.d hb.out.d⟩ (by omega)⟩
theorem meet_can (p : Pl) (a b : Pt) : CanP (meetP p a b) := nrm_isCan _ _ _ _
end Go.Sx
namespace Go.Proofs.Vx
open Go Go.Sx Go.Proofs
attribute [local irreducible] fnT CallOK CallFr AW effV callV runP runO oneP oneO gcaseP hid
theorem yqq_Nx19 : agT Tryz.prog 193 = some true ∧ arT Tryz.prog 193 = some (3, 2, true) ∧ plT Tryz.prog 193 = some [(0, 2), (2, 2), (4, 2)] ∧ slT Tryz.prog 193 = none ∧ szT Tryz.prog 193 = some 6 ∧ zeT Tryz.prog 193 = some [.lit (.bool false), .lit (.string ⟨#[]⟩), .lit (.bool false), .lit (.string ⟨#[]⟩), .lit (.bool false), .lit (.string ⟨#[]⟩)] := by and_intros <;> kernel_rfl
attribute [go_sem] yqq_Nx19
theorem yfn_141 : fnT Tryz.prog 141 = true := by kernel_rfl
theorem yfn_185 : fnT Tryz.prog 185 = true := by kernel_rfl
theorem yfn_186 : fnT Tryz.prog 186 = true := by kernel_rfl
theorem yfn_187 : fnT Tryz.prog 187 = true := by kernel_rfl
theorem yfn_232 : fnT Tryz.prog 232 = true := by kernel_rfl
theorem yfn_233 : fnT Tryz.prog 233 = true := by kernel_rfl
set_option maxHeartbeats 3200000 in
theorem c34 (p : Pl) (x : Pt) (hp : BPl 1073741824 p) (hx : BPt 1073741824 x) : CallOK Tryz.prog 34 [.agg (eH p), .agg (eP x)] [] (.lit (.int .i64 (sideP p x))) [] := by
 refine CallOK.flat Tryz.func34 rfl 30 rfl rfl rfl [.tmp 4] (congrArg Array.toList Tryz.results34) ?_
 simp only [startT, Nat.reduceAdd]
 have sp1 := hp.out.a
 have sp2 := hp.out.b
 have sp3 := hp.out.c
 have sp4 := hp.out.d
 have sx1 := hx.out.a
 have sx2 := hx.out.b
 have sx3 := hx.out.c
 have sx4 := hx.out.d
 have m1 := zs_mul (p.a) (x.x) sp1 sx1
 have m2 := zs_mul (p.b) (x.y) sp2 sx2
 have m3 := zs_mul (p.c) (x.z) sp3 sx3
 have m4 := zs_mul (p.d) (x.w) sp4 sx4
 have u1 := zs_add _ _ m1 m2
 have u2 := zs_add _ _ u1 (Nat.le_succ_of_le m3)
 repeat' (first | refine zg ?_ | refine AW.drawP ymix ?_ | (refine AW.cond rfl ?_ ?_ <;> intro hc <;> first | (cases hc; done) | simp only [NM] at hc | skip) | (refine zr ?_; simp -dsimp (disch := try exact zo) only [go_sem] <;> try rfl) | (first | refine callV.flat _ yfn_83 (c83z (p.a) (x.x) (by omega) (by omega)) rfl rfl ?_ | refine callV.flat _ yfn_83 (c83z (p.b) (x.y) (by omega) (by omega)) rfl rfl ?_ | refine callV.flat _ yfn_83 (c83z (p.c) (x.z) (by omega) (by omega)) rfl rfl ?_ | refine callV.flat _ yfn_83 (c83z (p.d) (x.w) (by omega) (by omega)) rfl rfl ?_) | (first | refine callV.flat _ yfn_82 (c82z (p.a * x.x) (p.b * x.y) (by omega) (by omega)) rfl rfl ?_ | refine callV.flat _ yfn_82 (c82z (p.a * x.x + p.b * x.y) (p.c * x.z) (by omega) (by omega)) rfl rfl ?_) | (refine callV.flat _ yfn_97 (c97z (p.a * x.x + p.b * x.y + p.c * x.z) (p.d * x.w) (by omega) (by omega)) rfl rfl ?_) | refine ⟨by omega, ?_⟩ | (refine zb ?_ ?_ <;> intro hg <;> (try simp only [NB] at hg) <;> (try rw [hg]) <;> try simp only [NM] at hg) | omega | simp -dsimp (disch := try exact zo) only [go_sem] | contradiction)
set_option maxHeartbeats 1600000 in
theorem c22 (p : Pl) (hp : BPl 1073741824 p) : CallOK Tryz.prog 22 [.agg (eH p)] [] (.agg (eH (negP p))) [] := by
 refine CallOK.flat Tryz.func22 rfl 19 rfl rfl rfl [.cell 2 26] (congrArg Array.toList Tryz.results22) ?_
 simp only [startT, Nat.reduceAdd]
 have sp1 := hp.out.a
 have sp2 := hp.out.b
 have sp3 := hp.out.c
 have sp4 := hp.out.d
 unfold negP
 repeat' (first | refine zg ?_ | refine AW.unroll 6 ?_ | (refine AW.cond rfl ?_ ?_ <;> intro hc <;> first | (cases hc; done) | simp only [NM] at hc | skip) | (refine zr ?_; simp -dsimp (disch := try exact zo) only [go_sem] <;> try rfl) | (refine callV.flat _ yfn_72 (c72 _ _ _ _ _ _ _ _) rfl rfl ?_) | (first | refine callV.flat _ yfn_73 (c73z p.a (by omega)) rfl rfl ?_ | refine callV.flat _ yfn_73 (c73z p.b (by omega)) rfl rfl ?_ | refine callV.flat _ yfn_73 (c73z p.c (by omega)) rfl rfl ?_ | refine callV.flat _ yfn_73 (c73z p.d (by omega)) rfl rfl ?_) | (refine callV.flat _ yfn_74 (c74 _ _ _ _ _ _ _ _) rfl rfl ?_) | refine ⟨by omega, ?_⟩ | (refine zb ?_ ?_ <;> intro hg <;> (try simp only [NB] at hg) <;> (try rw [hg]) <;> try simp only [NM] at hg) | omega | simp -dsimp (disch := try exact zo) only [go_sem] | contradiction)
theorem nb_zero_size' : (Zm 0).size = 0 := nb_zero_size
theorem c82e (x : Int) (h : (Zm x).size < 68719476736) : CallOK Tryz.prog 82 [.agg [.lit (.bool false), .lit (.string ⟨#[]⟩)], .agg (eZ x)] [] (.agg (eZ x)) [] := by
 have := c82z 0 x (by rw [nb_zero_size']; omega) h
 rw [Int.zero_add] at this
 simpa only [eZ, Zm_zero, Zn_false (Int.le_refl 0)] using this
set_option maxHeartbeats 1600000 in
theorem c233 (p : Pl) : CallOK Tryz.prog 233 [.agg (eH p)] [] (.agg [.lit (.bool (Zn p.a)), .lit (.string (Zm p.a)), .lit (.bool (Zn p.b)), .lit (.string (Zm p.b)), .lit (.bool (Zn p.c)), .lit (.string (Zm p.c))]) [] := by
 refine CallOK.flat Tryz.func233 rfl 10 rfl rfl rfl [.cell 2 193] (congrArg Array.toList Tryz.results233) ?_
 simp only [startT, Nat.reduceAdd]
 repeat' (first | refine zg ?_ | (refine AW.cond rfl ?_ ?_ <;> intro hc <;> first | (cases hc; done) | simp only [NM] at hc | skip) | (refine zr ?_; simp -dsimp (disch := try exact zo) only [go_sem] <;> try rfl) | refine ⟨by omega, ?_⟩ | (refine zb ?_ ?_ <;> intro hg <;> (try simp only [NB] at hg) <;> (try rw [hg]) <;> try simp only [NM] at hg) | omega | simp -dsimp (disch := try exact zo) only [go_sem] | contradiction)
set_option maxHeartbeats 3200000 in
theorem c232 (a b c x y z : Int) (h1 : (Zm a).size ≤ 1073741824) (h2 : (Zm b).size ≤ 1073741824) (h3 : (Zm c).size ≤ 1073741824) (k1 : (Zm x).size ≤ 1073741824) (k2 : (Zm y).size ≤ 1073741824) (k3 : (Zm z).size ≤ 1073741824) : CallOK Tryz.prog 232 [.agg [.lit (.bool (Zn a)), .lit (.string (Zm a)), .lit (.bool (Zn b)), .lit (.string (Zm b)), .lit (.bool (Zn c)), .lit (.string (Zm c))], .agg [.lit (.bool (Zn x)), .lit (.string (Zm x)), .lit (.bool (Zn y)), .lit (.string (Zm y)), .lit (.bool (Zn z)), .lit (.string (Zm z))]] [] (.agg (eZ (a * x + b * y + c * z))) [] := by
 refine CallOK.flat Tryz.func232 rfl 21 rfl rfl rfl [.cell 4 24] (congrArg Array.toList Tryz.results232) ?_
 simp only [startT, Nat.reduceAdd]
 have m1 := zs_mul a x h1 k1
 have m2 := zs_mul b y h2 k2
 have m3 := zs_mul c z h3 k3
 have u1 := zs_add (a * x) (b * y) m1 m2
 repeat' (first | refine zg ?_ | refine AW.drawP ymix ?_ | refine AW.unroll 6 ?_ | (refine AW.cond rfl ?_ ?_ <;> intro hc <;> first | (cases hc; done) | simp only [NM] at hc | skip) | (refine zr ?_; simp -dsimp (disch := try exact zo) only [go_sem] <;> try rfl) | (first | refine callV.flat _ yfn_83 (c83z (a) (x) (by omega) (by omega)) rfl rfl ?_ | refine callV.flat _ yfn_83 (c83z (b) (y) (by omega) (by omega)) rfl rfl ?_ | refine callV.flat _ yfn_83 (c83z (c) (z) (by omega) (by omega)) rfl rfl ?_) | (first | refine callV.flat _ yfn_82 (c82e (a * x) (by omega)) rfl rfl ?_ | refine callV.flat _ yfn_82 (c82z (a * x) (b * y) (by omega) (by omega)) rfl rfl ?_ | refine callV.flat _ yfn_82 (c82z (a * x + b * y) (c * z) (by omega) (by omega)) rfl rfl ?_) | refine ⟨by omega, ?_⟩ | (refine zb ?_ ?_ <;> intro hg <;> (try simp only [NB] at hg) <;> (try rw [hg]) <;> try simp only [NM] at hg) | omega | simp -dsimp (disch := try exact zo) only [go_sem] | contradiction)
set_option maxHeartbeats 1600000 in
theorem c187 (x y z w : Int) (hb : Bs 17179869183 x y z w) (hw : w ≠ 0) : CallOK Tryz.prog 187 [.agg [.lit (.bool (Zn x)), .lit (.string (Zm x)), .lit (.bool (Zn y)), .lit (.string (Zm y)), .lit (.bool (Zn z)), .lit (.string (Zm z))], .agg (eZ w)] [] (.tup [.agg (eP (nrm x y z w)), .lit (.bool true)]) [] := by
 refine CallOK.flat Tryz.func187 rfl 19 rfl rfl rfl [.cell 4 51, .tmp 5] (congrArg Array.toList Tryz.results187) ?_
 simp only [startT, Nat.reduceAdd]
 have sw := hb.d
 have hs : (sg w = 0) = False := eq_false fun h => hw (sg_zero.1 h)
 repeat' (first | refine zg ?_ | (refine AW.cond rfl ?_ ?_ <;> intro hc <;> first | (cases hc; done) | simp only [NM] at hc | skip) | (refine zr ?_; simp -dsimp (disch := try exact zo) only [go_sem, hs] <;> try rfl) | (refine callV.flat _ yfn_76 (c76z w (by omega)) rfl rfl ?_) | (refine callV.flat _ yfn_98 (c98z x y z w hb) rfl rfl ?_) | refine ⟨by omega, ?_⟩ | (refine zb ?_ ?_ <;> intro hg <;> (try simp only [NB] at hg) <;> (try rw [hg]) <;> try simp only [NM] at hg) | omega | simp -dsimp (disch := try exact zo) only [go_sem, hs] | contradiction)
set_option maxHeartbeats 1600000 in
theorem c185 (p : Pl) (x : Pt) (hp : BPl 1073741824 p) (hx : BPt 1073741824 x) : CallOK Tryz.prog 185 [.agg (eH p), .agg (eP x)] [] (.agg (eZ (abv p x))) [] := by
 refine CallOK.flat Tryz.func185 rfl 21 rfl rfl rfl [.cell 4 24] (congrArg Array.toList Tryz.results185) ?_
 simp only [startT, Nat.reduceAdd]
 have sp1 := hp.out.a
 have sp2 := hp.out.b
 have sp3 := hp.out.c
 have sp4 := hp.out.d
 have sx1 := hx.out.a
 have sx2 := hx.out.b
 have sx3 := hx.out.c
 have sx4 := hx.out.d
 have m1 := zs_mul (p.a) (x.x) sp1 sx1
 have m2 := zs_mul (p.b) (x.y) sp2 sx2
 have m3 := zs_mul (p.c) (x.z) sp3 sx3
 have m4 := zs_mul (p.d) (x.w) sp4 sx4
 have u1 := zs_add _ _ m1 m2
 have u2 := zs_add _ _ u1 (Nat.le_succ_of_le m3)
 repeat' (first | refine zg ?_ | refine AW.drawP ymix ?_ | (refine AW.cond rfl ?_ ?_ <;> intro hc <;> first | (cases hc; done) | simp only [NM] at hc | skip) | (refine zr ?_; simp -dsimp (disch := try exact zo) only [go_sem] <;> try rfl) | (refine callV.flat _ yfn_233 (c233 p) rfl rfl ?_) | (refine callV.flat _ yfn_232 (c232 p.a p.b p.c x.x x.y x.z sp1 sp2 sp3 sx1 sx2 sx3) rfl rfl ?_) | (refine callV.flat _ yfn_83 (c83z p.d x.w (by omega) (by omega)) rfl rfl ?_) | (refine callV.flat _ yfn_166 (c166z (p.a * x.x + p.b * x.y + p.c * x.z) (p.d * x.w) (by omega) (by omega)) rfl rfl ?_) | refine ⟨by omega, ?_⟩ | (refine zb ?_ ?_ <;> intro hg <;> (try simp only [NB] at hg) <;> (try rw [hg]) <;> try simp only [NM] at hg) | omega | simp -dsimp (disch := try exact zo) only [go_sem] | contradiction)
end Go.Proofs.Vx
namespace Go.Proofs.Vx
open Go Go.Sx Go.Proofs
attribute [local irreducible] fnT CallOK CallFr AW effV callV runP runO oneP oneO gcaseP hid
theorem yqq_Nx20 : boT Tryz.prog 51 = false ∧ Tryz.prog.eqGuardType Tryz.prog.depth 51 = false ∧ lfT Tryz.prog 30 51 = some [.b, .s, .b, .s, .b, .s, .b, .s] := by and_intros <;> kernel_rfl
attribute [go_sem] yqq_Nx20
set_option maxHeartbeats 1600000 in
theorem c186 (x y t s : Int) (hx : (Zm x).size ≤ 4294967296) (hy : (Zm y).size ≤ 4294967296) (ht : (Zm t).size ≤ 4294967296) (hs : (Zm s).size ≤ 4294967296) : CallOK Tryz.prog 186 [.agg (eZ x), .agg (eZ y), .fp (eZ t), .fp (eZ s)] [] (.agg (eZ (x * t - y * s))) [] := by
 refine CallOK.flat Tryz.func186 rfl 14 rfl rfl rfl [.cell 6 24] (congrArg Array.toList Tryz.results186) ?_
 simp only [startT, Nat.reduceAdd]
 have m1 := zs_mul x t hx ht
 have m2 := zs_mul y s hy hs
 repeat' (first | refine zg ?_ | refine AW.drawP ymix ?_ | (refine AW.cond rfl ?_ ?_ <;> intro hc <;> first | (cases hc; done) | simp only [NM] at hc | skip) | (refine zr ?_; simp -dsimp (disch := try exact zo) only [go_sem] <;> try rfl) | (first | refine callV.flat _ yfn_83 (c83z x t (by omega) (by omega)) rfl rfl ?_ | refine callV.flat _ yfn_83 (c83z y s (by omega) (by omega)) rfl rfl ?_) | (refine callV.flat _ yfn_166 (c166z (x * t) (y * s) (by omega) (by omega)) rfl rfl ?_) | refine ⟨by omega, ?_⟩ | (refine zb ?_ ?_ <;> intro hg <;> (try simp only [NB] at hg) <;> (try rw [hg]) <;> try simp only [NM] at hg) | omega | simp -dsimp (disch := try exact zo) only [go_sem] | contradiction)
set_option maxHeartbeats 6400000 in
theorem c141 (p : Pl) (a b : Pt) (hp : BPl 1073741824 p) (ha : BPt 1073741824 a) (hb : BPt 1073741824 b) (hab : a ≠ b) (hw : a.w * abv p b - b.w * abv p a ≠ 0) : CallOK Tryz.prog 141 [.agg (eH p), .agg (eP a), .agg (eP b)] [] (.tup [.agg (eP (meetP p a b)), .lit (.bool true)]) [] := by
 refine CallOK.flat Tryz.func141 rfl 50 rfl rfl rfl [.cell 6 51, .tmp 7] (congrArg Array.toList Tryz.results141) ?_
 simp only [startT, Nat.reduceAdd]
 have hne : (a.x = b.x ∧ a.y = b.y ∧ a.z = b.z ∧ a.w = b.w) = False := eq_false fun h => hab (by cases a; cases b; simp at h; simp [h])
 have va := zs_abv hp ha
 have vb := zs_abv hp hb
 have sa1 := ha.out.a
 have sa2 := ha.out.b
 have sa3 := ha.out.c
 have sa4 := ha.out.d
 have sb1 := hb.out.a
 have sb2 := hb.out.b
 have sb3 := hb.out.c
 have sb4 := hb.out.d
 have mx := zs_mul a.x _ sa1 vb
 have nx := zs_mul b.x _ sb1 va
 have qx := zs_sub _ _ mx nx
 have my := zs_mul a.y _ sa2 vb
 have ny := zs_mul b.y _ sb2 va
 have qy := zs_sub _ _ my ny
 have mz := zs_mul a.z _ sa3 vb
 have nz := zs_mul b.z _ sb3 va
 have qz := zs_sub _ _ mz nz
 have mw := zs_mul a.w _ sa4 vb
 have nw := zs_mul b.w _ sb4 va
 have qw := zs_sub _ _ mw nw
 have hbs : Bs 17179869183 (a.x * abv p b - b.x * abv p a) (a.y * abv p b - b.y * abv p a) (a.z * abv p b - b.z * abv p a) (a.w * abv p b - b.w * abv p a) := ⟨by omega, by omega, by omega, by omega⟩
 unfold meetP
 repeat' (first | refine zg ?_ | refine AW.drawP ymix ?_ | (refine AW.cond rfl ?_ ?_ <;> intro hc <;> first | (cases hc; done) | simp only [NM] at hc | skip) | (refine zr ?_; simp -dsimp (disch := try exact zo) only [go_sem, hne] <;> try rfl) | (first | refine callV.flat _ yfn_185 (c185 p a hp ha) rfl rfl ?_ | refine callV.flat _ yfn_185 (c185 p b hp hb) rfl rfl ?_) | (first | refine callV.lend (.agg (eZ (a.x * abv p b - b.x * abv p a))) yfn_186 (by simp -dsimp (disch := try exact zo) only [go_sem]; exact c186 a.x b.x (abv p b) (abv p a) (by omega) (by omega) (by omega) (by omega)) (by simp -dsimp (disch := try exact zo) only [go_sem]) (.agg _ (by simp; exact ⟨.lit _, .lit _⟩)) ?_ | refine callV.lend (.agg (eZ (a.y * abv p b - b.y * abv p a))) yfn_186 (by simp -dsimp (disch := try exact zo) only [go_sem]; exact c186 a.y b.y (abv p b) (abv p a) (by omega) (by omega) (by omega) (by omega)) (by simp -dsimp (disch := try exact zo) only [go_sem]) (.agg _ (by simp; exact ⟨.lit _, .lit _⟩)) ?_ | refine callV.lend (.agg (eZ (a.z * abv p b - b.z * abv p a))) yfn_186 (by simp -dsimp (disch := try exact zo) only [go_sem]; exact c186 a.z b.z (abv p b) (abv p a) (by omega) (by omega) (by omega) (by omega)) (by simp -dsimp (disch := try exact zo) only [go_sem]) (.agg _ (by simp; exact ⟨.lit _, .lit _⟩)) ?_ | refine callV.lend (.agg (eZ (a.w * abv p b - b.w * abv p a))) yfn_186 (by simp -dsimp (disch := try exact zo) only [go_sem]; exact c186 a.w b.w (abv p b) (abv p a) (by omega) (by omega) (by omega) (by omega)) (by simp -dsimp (disch := try exact zo) only [go_sem]) (.agg _ (by simp; exact ⟨.lit _, .lit _⟩)) ?_) | (refine callV.flat _ yfn_187 (c187 _ _ _ _ hbs hw) rfl rfl ?_) | refine ⟨by omega, ?_⟩ | (refine zb ?_ ?_ <;> intro hg <;> (try simp only [NB] at hg) <;> (try rw [hg]) <;> try simp only [NM] at hg) | omega | simp -dsimp (disch := try exact zo) only [go_sem, hne] | contradiction)
end Go.Proofs.Vx
