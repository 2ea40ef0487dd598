/- RecipMakes: for all numbers of their kinds the program's Of, Div and Step return what the reference's return; no condition. -/
import Derived.Test.YtapfgghgohajaaaXRecipMakesx1
import Derived.OpenShut
set_option linter.unusedVariables false
set_option linter.unusedSimpArgs false
namespace Go.Proofs.Ytapfgghgohajaaa.Pure
open Go.RowKit Go.Proofs.Ytapfgghgohajaaa.XRecipMakes Go.Proofs.YtapfgghgohajaaaW.PrintWords Go.Proofs.YtapfgghgohajaaaW.PrintLast
/-! What a quotient by a reciprocal is. -/
theorem w32 {x : Int} (h : -2147483648 ≤ x ∧ x ≤ 2147483647) : wrap32 x = x := by unfold wrap32; omega
theorem w64 {x : Int} (h : -9223372036854775808 ≤ x ∧ x ≤ 9223372036854775807) : wrap64 x = x := by unfold wrap64; omega
theorem rc_bounds {n : Int} (h1 : 1 ≤ n) (h2 : n ≤ 1024) : 64 ≤ 65536 / n ∧ 65536 / n ≤ 65536 ∧ 65536 / n * n ≤ 65536 ∧ 65536 < (65536 / n + 1) * n := by
  have hn : (0 : Int) < n := by omega
  have e1 : n * (65536 / n) + 65536 % n = 65536 := Int.mul_ediv_add_emod ..
  have e2 : 0 ≤ 65536 % n := Int.emod_nonneg _ (by omega)
  have e3 : 65536 % n < n := Int.emod_lt_of_pos _ hn
  have e4 : (65536 / n + 1) * n = 65536 / n * n + n := by rw [Int.add_mul, Int.one_mul]
  have e5 : 65536 / n * n = n * (65536 / n) := Int.mul_comm ..
  refine ⟨?_, ?_, by omega, by omega⟩
  · exact (Int.le_ediv_iff_mul_le hn).mpr (by omega)
  · exact Int.ediv_le_self _ (by omega)
theorem prod_bounds {x r : Int} (h1 : -2147483648 ≤ x) (h2 : x ≤ 2147483647) (r0 : 0 ≤ r) (r1 : r ≤ 65536) : -140737488355328 ≤ x * r ∧ x * r ≤ 140737488289792 := by
  constructor
  · have a : -2147483648 * r ≤ x * r := Int.mul_le_mul_of_nonneg_right h1 r0
    omega
  · have a : x * r ≤ 2147483647 * r := Int.mul_le_mul_of_nonneg_right h2 r0
    omega
/-- the quotient -/
def quo (x n : Int) : Int := x * (65536 / n) / 65536
theorem quo_bounds {x n : Int} (h1 : -2147483648 ≤ x) (h2 : x ≤ 2147483647) (n1 : 1 ≤ n) (n2 : n ≤ 1024) : -2147483648 ≤ quo x n ∧ quo x n ≤ 2147483647 := by
  have b := rc_bounds n1 n2
  have c := prod_bounds h1 h2 (r := 65536 / n) (by omega) b.2.1
  unfold quo
  omega
theorem of_in {n : Int} (n1 : 1 ≤ n) (n2 : n ≤ 1024) : recip_Of.f n = some (65536 / n, 0) := by
  have b := rc_bounds n1 n2
  unfold recip_Of.f
  rw [if_neg (by omega), if_neg (by omega), if_neg (by omega), Int.tdiv_eq_ediv_of_nonneg (by decide), w32 (by omega)]
theorem of_out {n : Int} (h : n < 1 ∨ 1024 < n) : recip_Of.f n = some (0, 2) := by
  unfold recip_Of.f
  by_cases c : n < 1
  · rw [if_pos c]
  · rw [if_neg c, if_pos (by omega)]
theorem div_in {x n : Int} (h1 : -2147483648 ≤ x) (h2 : x ≤ 2147483647) (n1 : 1 ≤ n) (n2 : n ≤ 1024) : recip_Div.f x n = some (quo x n, 0) := by
  have b := rc_bounds n1 n2
  have c := prod_bounds h1 h2 (r := 65536 / n) (by omega) b.2.1
  have q := quo_bounds h1 h2 n1 n2
  unfold recip_Div.f
  rw [of_in n1 n2]
  simp only [Option.bind_some, if_true]
  rw [w64 (x := x) (by omega), w64 (x := 65536 / n) (by omega), w64 (by omega), w32 (by unfold quo at q; omega)]
  rfl
theorem div_out {x n : Int} (h : n < 1 ∨ 1024 < n) : recip_Div.f x n = some (0, 2) := by
  unfold recip_Div.f
  rw [of_out h]
  rfl
theorem step_in {p t n : Int} (k : Nat) (p0 : 0 ≤ p) (p1 : p < 65536) (t0 : 0 ≤ t) (t1 : t < 65536) (n1 : 1 ≤ n) (n2 : n ≤ 1024) : recip_Step.f (k + 1) p t n = some (wrap32 (p + quo (t - p) n), 0) := by
  unfold recip_Step.f
  have a : ¬ mn p t < 0 := by unfold mn; split <;> omega
  have b : ¬ mx p t ≥ 65536 := by unfold mx; split <;> omega
  rw [if_neg a, decide_eq_false b]
  simp only [recip_Step.j0]
  rw [if_neg (by decide), w32 (x := t - p) (by omega), div_in (by omega) (by omega) n1 n2]
  rfl
theorem step_out {p t n : Int} (k : Nat) (h : p < 0 ∨ 65536 ≤ p ∨ t < 0 ∨ 65536 ≤ t ∨ n < 1 ∨ 1024 < n) : recip_Step.f (k + 1) p t n = some (0, 2) := by
  unfold recip_Step.f
  by_cases a : mn p t < 0
  · rw [if_pos a]
    simp only [recip_Step.j0, if_true]
  · rw [if_neg a]
    by_cases b : mx p t ≥ 65536
    · rw [decide_eq_true b]
      simp only [recip_Step.j0, if_true]
    · rw [decide_eq_false b]
      simp only [recip_Step.j0]
      rw [if_neg (by decide), div_out]
      · rfl
      · unfold mn at a; unfold mx at b; split at a <;> split at b <;> omega
theorem floor_in {x : Int} (h1 : -140737488355328 ≤ x) (h2 : x ≤ 140737488355328) : bitloftref05_Floor.f x 65536 = some (x / 65536) := by
  have e : x.tdiv 65536 = if 0 ≤ x then x / 65536 else -((-x) / 65536) := by
    split
    · exact Int.tdiv_eq_ediv_of_nonneg (by omega)
    · have := Int.neg_tdiv x 65536
      have h := Int.tdiv_eq_ediv_of_nonneg (a := -x) (b := 65536) (by omega)
      omega
  unfold bitloftref05_Floor.f
  rw [if_neg (by decide), e]
  split <;> rename_i c
  · rw [w64 (x := x / 65536) (by omega), w64 (by omega), if_neg (by omega)]
  · rw [w64 (x := -(-x / 65536)) (by omega), w64 (x := -(-x / 65536) * 65536) (by omega)]
    split
    · rw [w64 (by omega)]; congr 1; omega
    · congr 1; omega
theorem fits (n : Int) : bitloftref05_Fits.f n = some (decide (1 ≤ n ∧ n ≤ 1024)) := by
  unfold bitloftref05_Fits.f
  split
  · congr 1; simp; omega
  · congr 1; simp; omega
theorem prob (n : Int) : bitloftref05_Prob.f n = some (decide (0 ≤ n ∧ n < 65536)) := by
  unfold bitloftref05_Prob.f
  split
  · congr 1; simp; omega
  · congr 1; simp; omega
theorem value_in {n : Int} (n1 : 1 ≤ n) (n2 : n ≤ 1024) : bitloftref05_Value.f n = some (65536 / n) := by
  have b := rc_bounds n1 n2
  unfold bitloftref05_Value.f
  rw [if_neg (by omega), Int.tdiv_eq_ediv_of_nonneg (by decide), w32 (by omega), w64 (by omega)]
theorem quotient_in {x n : Int} (h1 : -2147483648 ≤ x) (h2 : x ≤ 2147483647) (n1 : 1 ≤ n) (n2 : n ≤ 1024) : bitloftref05_Quotient.f x n = some (quo x n) := by
  have b := rc_bounds n1 n2
  have c := prod_bounds h1 h2 (r := 65536 / n) (by omega) b.2.1
  have q := quo_bounds h1 h2 n1 n2
  unfold bitloftref05_Quotient.f
  rw [value_in n1 n2]
  simp only [Option.bind_some]
  rw [w64 (x := x) (by omega), w64 (by omega), floor_in (by omega) (by omega)]
  simp only [Option.bind_some]
  rw [w32 (by unfold quo at q; omega)]
  rfl
theorem RecipMakes : bitloftlaw05_RecipMakes.Pure := by
  intro x n p t hx hn hp ht
  replace hx := bounds_i32 hx
  replace hn := bounds_i32 hn
  replace hp := bounds_i32 hp
  replace ht := bounds_i32 ht
  refine ⟨1, ?_⟩
  unfold bitloftlaw05_RecipMakes.f bitloftref05_Of.f bitloftref05_Div.f bitloftref05_Step.f
  simp only [fits, prob, Option.bind_some]
  by_cases c : 1 ≤ n ∧ n ≤ 1024
  · have b := rc_bounds c.1 c.2
    rw [of_in c.1 c.2, div_in hx.1 hx.2 c.1 c.2, value_in c.1 c.2, quotient_in hx.1 hx.2 c.1 c.2, decide_eq_true c]
    simp only [if_true, Option.bind_some]
    rw [w32 (x := 65536 / n) (by omega)]
    by_cases d : 0 ≤ p ∧ p < 65536
    · by_cases e : 0 ≤ t ∧ t < 65536
      · rw [decide_eq_true d, decide_eq_true e, step_in 0 d.1 d.2 e.1 e.2 c.1 c.2, w32 (x := t - p) (by omega), quotient_in (by omega) (by omega) c.1 c.2]
        simp
      · rw [decide_eq_true d, decide_eq_false e, step_out 0 (by omega)]
        simp
    · rw [decide_eq_false d, step_out 0 (by omega)]
      simp
  · rw [of_out (by omega), div_out (by omega), step_out 0 (by omega), decide_eq_false c]
    simp
end Go.Proofs.Ytapfgghgohajaaa.Pure
