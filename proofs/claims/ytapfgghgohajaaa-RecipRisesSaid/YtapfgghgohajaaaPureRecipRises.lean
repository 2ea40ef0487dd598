/- RecipRises: for all numbers of their kinds the law returns true; no condition. -/
import Derived.Test.YtapfgghgohajaaaXRecipRisesx1
import Derived.OpenShut
set_option linter.unusedVariables false
set_option linter.unusedSimpArgs false
namespace Go.Proofs.Ytapfgghgohajaaa.Pure
open Go.RowKit Go.Proofs.Ytapfgghgohajaaa.XRecipRises Go.Proofs.YtapfgghgohajaaaW.PrintWords Go.Proofs.YtapfgghgohajaaaW.PrintLast
/-! What a quotient by a reciprocal is. -/
theorem w32 {x : Int} (h : -2147483648 ≤ x ∧ x ≤ 2147483647) : wrap32 x = x := by unfold wrap32; omega
theorem w64 {x : Int} (h : -9223372036854775808 ≤ x ∧ x ≤ 9223372036854775807) : wrap64 x = x := by unfold wrap64; omega
theorem rc_bounds {n : Int} (h1 : 1 ≤ n) (h2 : n ≤ 1024) : 64 ≤ 65536 / n ∧ 65536 / n ≤ 65536 ∧ 65536 / n * n ≤ 65536 ∧ 65536 < (65536 / n + 1) * n := by
  have hn : (0 : Int) < n := by omega
  have e1 : n * (65536 / n) + 65536 % n = 65536 := Int.mul_ediv_add_emod ..
  have e2 : 0 ≤ 65536 % n := Int.emod_nonneg _ (by omega)
  have e3 : 65536 % n < n := Int.emod_lt_of_pos _ hn
  have e4 : (65536 / n + 1) * n = 65536 / n * n + n := by rw [Int.add_mul, Int.one_mul]
  have e5 : 65536 / n * n = n * (65536 / n) := Int.mul_comm ..
  refine ⟨?_, ?_, by omega, by omega⟩
  · exact (Int.le_ediv_iff_mul_le hn).mpr (by omega)
  · exact Int.ediv_le_self _ (by omega)
theorem prod_bounds {x r : Int} (h1 : -2147483648 ≤ x) (h2 : x ≤ 2147483647) (r0 : 0 ≤ r) (r1 : r ≤ 65536) : -140737488355328 ≤ x * r ∧ x * r ≤ 140737488289792 := by
  constructor
  · have a : -2147483648 * r ≤ x * r := Int.mul_le_mul_of_nonneg_right h1 r0
    omega
  · have a : x * r ≤ 2147483647 * r := Int.mul_le_mul_of_nonneg_right h2 r0
    omega
/-- the quotient -/
def quo (x n : Int) : Int := x * (65536 / n) / 65536
theorem quo_bounds {x n : Int} (h1 : -2147483648 ≤ x) (h2 : x ≤ 2147483647) (n1 : 1 ≤ n) (n2 : n ≤ 1024) : -2147483648 ≤ quo x n ∧ quo x n ≤ 2147483647 := by
  have b := rc_bounds n1 n2
  have c := prod_bounds h1 h2 (r := 65536 / n) (by omega) b.2.1
  unfold quo
  omega
theorem of_in {n : Int} (n1 : 1 ≤ n) (n2 : n ≤ 1024) : recip_Of.f n = some (65536 / n, 0) := by
  have b := rc_bounds n1 n2
  unfold recip_Of.f
  rw [if_neg (by omega), if_neg (by omega), if_neg (by omega), Int.tdiv_eq_ediv_of_nonneg (by decide), w32 (by omega)]
theorem of_out {n : Int} (h : n < 1 ∨ 1024 < n) : recip_Of.f n = some (0, 2) := by
  unfold recip_Of.f
  by_cases c : n < 1
  · rw [if_pos c]
  · rw [if_neg c, if_pos (by omega)]
theorem div_in {x n : Int} (h1 : -2147483648 ≤ x) (h2 : x ≤ 2147483647) (n1 : 1 ≤ n) (n2 : n ≤ 1024) : recip_Div.f x n = some (quo x n, 0) := by
  have b := rc_bounds n1 n2
  have c := prod_bounds h1 h2 (r := 65536 / n) (by omega) b.2.1
  have q := quo_bounds h1 h2 n1 n2
  unfold recip_Div.f
  rw [of_in n1 n2]
  simp only [Option.bind_some, if_true]
  rw [w64 (x := x) (by omega), w64 (x := 65536 / n) (by omega), w64 (by omega), w32 (by unfold quo at q; omega)]
  rfl
theorem div_out {x n : Int} (h : n < 1 ∨ 1024 < n) : recip_Div.f x n = some (0, 2) := by
  unfold recip_Div.f
  rw [of_out h]
  rfl
theorem step_in {p t n : Int} (k : Nat) (p0 : 0 ≤ p) (p1 : p < 65536) (t0 : 0 ≤ t) (t1 : t < 65536) (n1 : 1 ≤ n) (n2 : n ≤ 1024) : recip_Step.f (k + 1) p t n = some (wrap32 (p + quo (t - p) n), 0) := by
  unfold recip_Step.f
  have a : ¬ mn p t < 0 := by unfold mn; split <;> omega
  have b : ¬ mx p t ≥ 65536 := by unfold mx; split <;> omega
  rw [if_neg a, decide_eq_false b]
  simp only [recip_Step.j0]
  rw [if_neg (by decide), w32 (x := t - p) (by omega), div_in (by omega) (by omega) n1 n2]
  rfl
theorem step_out {p t n : Int} (k : Nat) (h : p < 0 ∨ 65536 ≤ p ∨ t < 0 ∨ 65536 ≤ t ∨ n < 1 ∨ 1024 < n) : recip_Step.f (k + 1) p t n = some (0, 2) := by
  unfold recip_Step.f
  by_cases a : mn p t < 0
  · rw [if_pos a]
    simp only [recip_Step.j0, if_true]
  · rw [if_neg a]
    by_cases b : mx p t ≥ 65536
    · rw [decide_eq_true b]
      simp only [recip_Step.j0, if_true]
    · rw [decide_eq_false b]
      simp only [recip_Step.j0]
      rw [if_neg (by decide), div_out]
      · rfl
      · unfold mn at a; unfold mx at b; split at a <;> split at b <;> omega
theorem alive_holds (k : Nat) : bitloftlaw05_alive.f (k + 1) = some true := by
  unfold bitloftlaw05_alive.f bitloftlaw05_div.f bitloftlaw05_step.f
  rw [step_in k (by decide) (by decide) (by decide) (by decide) (by decide) (by decide), step_in k (by decide) (by decide) (by decide) (by decide) (by decide) (by decide)]
  decide +kernel
theorem quo_mono {x y n : Int} (h : x ≤ y) (n1 : 1 ≤ n) (n2 : n ≤ 1024) : quo x n ≤ quo y n := by
  have b := rc_bounds n1 n2
  have a : x * (65536 / n) ≤ y * (65536 / n) := Int.mul_le_mul_of_nonneg_right h (by omega)
  unfold quo
  omega
theorem quo_next {x n : Int} (n1 : 1 ≤ n) (n2 : n ≤ 1024) : quo x n ≤ quo (x + 1) n ∧ quo (x + 1) n ≤ quo x n + 1 := by
  have b := rc_bounds n1 n2
  have a : (x + 1) * (65536 / n) = x * (65536 / n) + 65536 / n := by rw [Int.add_mul, Int.one_mul]
  unfold quo
  rw [a]
  omega
theorem quo_le {x n : Int} (h : x ≤ 2147483646) (n1 : 1 ≤ n) (n2 : n ≤ 1024) : quo x n ≤ 2147483646 := by
  have a := quo_mono h n1 n2
  have b := rc_bounds n1 n2
  have c : quo 2147483646 n ≤ 2147483646 := by unfold quo; omega
  omega
theorem RecipRises : bitloftlaw05_RecipRises.Pure := by
  intro x y n hx hy hn
  replace hx := bounds_i32 hx
  replace hy := bounds_i32 hy
  refine ⟨10, ?_⟩
  unfold bitloftlaw05_RecipRises.f
  by_cases e : 1 ≤ n ∧ n ≤ 1024
  · have last : bitloftlaw05_RecipRises.j1 9 x n (quo x n) false = some true := by
      simp only [bitloftlaw05_RecipRises.j1]
      rw [if_neg (by decide)]
      by_cases c : x = 2147483647
      · rw [if_pos c, alive_holds]
        rfl
      · have q := quo_next (x := x) e.1 e.2
        have l := quo_le (x := x) (by omega) e.1 e.2
        have b := quo_bounds hx.1 hx.2 e.1 e.2
        rw [if_neg c, w32 (x := x + 1) (by omega), div_in (by omega) (by omega) e.1 e.2]
        simp only [Option.bind_some, if_true]
        rw [if_pos q.1, w32 (by omega), if_pos q.2, alive_holds]
        rfl
    rw [div_in hx.1 hx.2 e.1 e.2, div_in hy.1 hy.2 e.1 e.2]
    simp only [Option.bind_some, if_true, bne_self_eq_false, bitloftlaw05_RecipRises.j0]
    rw [if_neg (by decide)]
    by_cases c : x ≤ y
    · have m := quo_mono c e.1 e.2
      rw [if_pos c, if_neg (by omega)]
      by_cases d : x ≥ y
      · have m := quo_mono d e.1 e.2
        rw [if_pos d, decide_eq_false (by omega), last]
      · rw [if_neg d, last]
    · rw [if_neg c]
      by_cases d : x ≥ y
      · have m := quo_mono d e.1 e.2
        rw [if_pos d, decide_eq_false (by omega), last]
      · rw [if_neg d, last]
  · rw [div_out (by omega), div_out (by omega)]
    simp only [Option.bind_some]
    rw [if_neg (by decide)]
    simp only [bitloftlaw05_RecipRises.j0, if_true]
    rw [alive_holds]
    rfl
end Go.Proofs.Ytapfgghgohajaaa.Pure
