/- RecipNear: for all numbers of their kinds the law returns true; no condition. -/
import Derived.Test.YtapfgghgohajaaaXRecipNearx1
import Derived.OpenShut
set_option linter.unusedVariables false
set_option linter.unusedSimpArgs false
namespace Go.Proofs.Ytapfgghgohajaaa.Pure
open Go.RowKit Go.Proofs.Ytapfgghgohajaaa.XRecipNear Go.Proofs.YtapfgghgohajaaaW.PrintWords Go.Proofs.YtapfgghgohajaaaW.PrintLast
/-! What a quotient by a reciprocal is. -/
theorem w32 {x : Int} (h : -2147483648 ≤ x ∧ x ≤ 2147483647) : wrap32 x = x := by unfold wrap32; omega
theorem w64 {x : Int} (h : -9223372036854775808 ≤ x ∧ x ≤ 9223372036854775807) : wrap64 x = x := by unfold wrap64; omega
theorem rc_bounds {n : Int} (h1 : 1 ≤ n) (h2 : n ≤ 1024) : 64 ≤ 65536 / n ∧ 65536 / n ≤ 65536 ∧ 65536 / n * n ≤ 65536 ∧ 65536 < (65536 / n + 1) * n := by
  have hn : (0 : Int) < n := by omega
  have e1 : n * (65536 / n) + 65536 % n = 65536 := Int.mul_ediv_add_emod ..
  have e2 : 0 ≤ 65536 % n := Int.emod_nonneg _ (by omega)
  have e3 : 65536 % n < n := Int.emod_lt_of_pos _ hn
  have e4 : (65536 / n + 1) * n = 65536 / n * n + n := by rw [Int.add_mul, Int.one_mul]
  have e5 : 65536 / n * n = n * (65536 / n) := Int.mul_comm ..
  refine ⟨?_, ?_, by omega, by omega⟩
  · exact (Int.le_ediv_iff_mul_le hn).mpr (by omega)
  · exact Int.ediv_le_self _ (by omega)
theorem prod_bounds {x r : Int} (h1 : -2147483648 ≤ x) (h2 : x ≤ 2147483647) (r0 : 0 ≤ r) (r1 : r ≤ 65536) : -140737488355328 ≤ x * r ∧ x * r ≤ 140737488289792 := by
  constructor
  · have a : -2147483648 * r ≤ x * r := Int.mul_le_mul_of_nonneg_right h1 r0
    omega
  · have a : x * r ≤ 2147483647 * r := Int.mul_le_mul_of_nonneg_right h2 r0
    omega
/-- the quotient -/
def quo (x n : Int) : Int := x * (65536 / n) / 65536
theorem quo_bounds {x n : Int} (h1 : -2147483648 ≤ x) (h2 : x ≤ 2147483647) (n1 : 1 ≤ n) (n2 : n ≤ 1024) : -2147483648 ≤ quo x n ∧ quo x n ≤ 2147483647 := by
  have b := rc_bounds n1 n2
  have c := prod_bounds h1 h2 (r := 65536 / n) (by omega) b.2.1
  unfold quo
  omega
theorem of_in {n : Int} (n1 : 1 ≤ n) (n2 : n ≤ 1024) : recip_Of.f n = some (65536 / n, 0) := by
  have b := rc_bounds n1 n2
  unfold recip_Of.f
  rw [if_neg (by omega), if_neg (by omega), if_neg (by omega), Int.tdiv_eq_ediv_of_nonneg (by decide), w32 (by omega)]
theorem of_out {n : Int} (h : n < 1 ∨ 1024 < n) : recip_Of.f n = some (0, 2) := by
  unfold recip_Of.f
  by_cases c : n < 1
  · rw [if_pos c]
  · rw [if_neg c, if_pos (by omega)]
theorem div_in {x n : Int} (h1 : -2147483648 ≤ x) (h2 : x ≤ 2147483647) (n1 : 1 ≤ n) (n2 : n ≤ 1024) : recip_Div.f x n = some (quo x n, 0) := by
  have b := rc_bounds n1 n2
  have c := prod_bounds h1 h2 (r := 65536 / n) (by omega) b.2.1
  have q := quo_bounds h1 h2 n1 n2
  unfold recip_Div.f
  rw [of_in n1 n2]
  simp only [Option.bind_some, if_true]
  rw [w64 (x := x) (by omega), w64 (x := 65536 / n) (by omega), w64 (by omega), w32 (by unfold quo at q; omega)]
  rfl
theorem div_out {x n : Int} (h : n < 1 ∨ 1024 < n) : recip_Div.f x n = some (0, 2) := by
  unfold recip_Div.f
  rw [of_out h]
  rfl
theorem step_in {p t n : Int} (k : Nat) (p0 : 0 ≤ p) (p1 : p < 65536) (t0 : 0 ≤ t) (t1 : t < 65536) (n1 : 1 ≤ n) (n2 : n ≤ 1024) : recip_Step.f (k + 1) p t n = some (wrap32 (p + quo (t - p) n), 0) := by
  unfold recip_Step.f
  have a : ¬ mn p t < 0 := by unfold mn; split <;> omega
  have b : ¬ mx p t ≥ 65536 := by unfold mx; split <;> omega
  rw [if_neg a, decide_eq_false b]
  simp only [recip_Step.j0]
  rw [if_neg (by decide), w32 (x := t - p) (by omega), div_in (by omega) (by omega) n1 n2]
  rfl
theorem step_out {p t n : Int} (k : Nat) (h : p < 0 ∨ 65536 ≤ p ∨ t < 0 ∨ 65536 ≤ t ∨ n < 1 ∨ 1024 < n) : recip_Step.f (k + 1) p t n = some (0, 2) := by
  unfold recip_Step.f
  by_cases a : mn p t < 0
  · rw [if_pos a]
    simp only [recip_Step.j0, if_true]
  · rw [if_neg a]
    by_cases b : mx p t ≥ 65536
    · rw [decide_eq_true b]
      simp only [recip_Step.j0, if_true]
    · rw [decide_eq_false b]
      simp only [recip_Step.j0]
      rw [if_neg (by decide), div_out]
      · rfl
      · unfold mn at a; unfold mx at b; split at a <;> split at b <;> omega
theorem fits (n : Int) : bitloftref05_Fits.f n = some (decide (1 ≤ n ∧ n ≤ 1024)) := by
  unfold bitloftref05_Fits.f
  split
  · congr 1; simp; omega
  · congr 1; simp; omega
theorem alive_holds (k : Nat) : bitloftlaw05_alive.f (k + 1) = some true := by
  unfold bitloftlaw05_alive.f bitloftlaw05_div.f bitloftlaw05_step.f
  rw [step_in k (by decide) (by decide) (by decide) (by decide) (by decide) (by decide), step_in k (by decide) (by decide) (by decide) (by decide) (by decide) (by decide)]
  decide +kernel
/-- The quotient rounded down. -/
theorem down_in {x n : Int} (h1 : -65535 ≤ x) (h2 : x ≤ 65535) (n1 : 1 ≤ n) (n2 : n ≤ 1024) :
    ∃ d : Int, d * n ≤ x ∧ x < d * n + n ∧ -65535 ≤ d ∧ d ≤ 65535 ∧ (0 ≤ x → wrap32 (Int.tdiv x n) = d) ∧ (x < 0 → Int.tmod x n ≠ 0 → wrap32 (wrap32 (Int.tdiv x n) - 1) = d) ∧ (x < 0 → Int.tmod x n = 0 → wrap32 (Int.tdiv x n) = d) := by
  have hn : (0 : Int) < n := by omega
  by_cases c : 0 ≤ x
  · have e1 : n * (x / n) + x % n = x := Int.mul_ediv_add_emod ..
    have e2 : 0 ≤ x % n := Int.emod_nonneg _ (by omega)
    have e3 : x % n < n := Int.emod_lt_of_pos _ hn
    have e4 : x / n * n = n * (x / n) := Int.mul_comm ..
    have e5 : 0 ≤ x / n := Int.ediv_nonneg c (by omega)
    have e6 : x / n ≤ x := Int.ediv_le_self _ c
    refine ⟨x / n, by omega, by omega, by omega, by omega, fun _ => ?_, fun h => by omega, fun h => by omega⟩
    rw [Int.tdiv_eq_ediv_of_nonneg c, w32 (by omega)]
  · have e1 : n * ((-x) / n) + (-x) % n = -x := Int.mul_ediv_add_emod ..
    have e2 : 0 ≤ (-x) % n := Int.emod_nonneg _ (by omega)
    have e3 : (-x) % n < n := Int.emod_lt_of_pos _ hn
    have e4 : (-x) / n * n = n * ((-x) / n) := Int.mul_comm ..
    have e5 : 0 ≤ (-x) / n := Int.ediv_nonneg (by omega) (by omega)
    have e6 : (-x) / n ≤ -x := Int.ediv_le_self _ (by omega)
    have t1 : Int.tdiv x n = -((-x) / n) := by
      have := Int.neg_tdiv x n
      rw [Int.tdiv_eq_ediv_of_nonneg (by omega)] at this
      omega
    have t2 : Int.tmod x n = -((-x) % n) := by
      have := Int.neg_tmod x n
      rw [Int.tmod_eq_emod_of_nonneg (by omega)] at this
      omega
    have m1 : (-((-x) / n)) * n = -((-x) / n * n) := Int.neg_mul ..
    by_cases z : (-x) % n = 0
    · refine ⟨-((-x) / n), by omega, by omega, by omega, by omega, fun h => absurd h c, fun _ h => absurd h (by omega), fun _ _ => ?_⟩
      rw [t1, w32 (by omega)]
    · have m2 : (-((-x) / n) - 1) * n = (-((-x) / n)) * n - n := by rw [Int.sub_mul, Int.one_mul]
      refine ⟨-((-x) / n) - 1, by omega, by omega, ?_, by omega, fun h => absurd h c, fun _ _ => ?_, fun _ h => absurd h (by omega)⟩
      · have : (-x) / n * 1 ≤ (-x) / n * n := Int.mul_le_mul_of_nonneg_left n1 e5
        omega
      · rw [t1, w32 (x := -(-x / n)) (by omega), w32]
        have : (-x) / n * 1 ≤ (-x) / n * n := Int.mul_le_mul_of_nonneg_left n1 e5
        omega
theorem near_in {x n d : Int} (h1 : -65535 ≤ x) (h2 : x ≤ 65535) (n1 : 1 ≤ n) (n2 : n ≤ 1024) (d1 : d * n ≤ x) (d2 : x < d * n + n) :
    (0 ≤ x → quo x n ≤ d ∧ d - 1 ≤ quo x n) ∧ (x < 0 → d ≤ quo x n ∧ quo x n ≤ d + 1) := by
  have b := rc_bounds n1 n2
  unfold quo
  generalize hr : 65536 / n = r at b ⊢
  have s1 : (r + 1) * n = r * n + n := by rw [Int.add_mul, Int.one_mul]
  constructor
  · intro x0
    have d0 : 0 ≤ d := by
      apply Int.not_lt.mp
      intro h
      have : d * n ≤ -1 * n := Int.mul_le_mul_of_nonneg_right (by omega) (by omega)
      omega
    -- x r n ≤ 65536 x < 65536 (d + 1) n
    have a1 : x * r ≤ (d * n + n - 1) * r := Int.mul_le_mul_of_nonneg_right (by omega) (by omega)
    have a2 : (d * n + n - 1) * r = d * (r * n) + r * n - r := by
      rw [Int.sub_mul, Int.add_mul, Int.one_mul, Int.mul_assoc, Int.mul_comm n r]
    have a3 : d * (r * n) ≤ d * 65536 := Int.mul_le_mul_of_nonneg_left b.2.2.1 d0
    have a4 : d * n * r ≤ x * r := Int.mul_le_mul_of_nonneg_right d1 (by omega)
    have a5 : d * n * r = d * (r * n) := by rw [Int.mul_assoc, Int.mul_comm n r]
    have a6 : d * (65536 - n) ≤ d * (r * n) := Int.mul_le_mul_of_nonneg_left (by omega) d0
    have a7 : d * (65536 - n) = d * 65536 - d * n := Int.mul_sub ..
    omega
  · intro x0
    have d0 : d ≤ -1 := by
      apply Int.not_lt.mp
      intro h
      have : 0 * n ≤ d * n := Int.mul_le_mul_of_nonneg_right (by omega) (by omega)
      omega
    have a4 : d * n * r ≤ x * r := Int.mul_le_mul_of_nonneg_right d1 (by omega)
    have a5 : d * n * r = d * (r * n) := by rw [Int.mul_assoc, Int.mul_comm n r]
    have a3 : d * 65536 ≤ d * (r * n) := Int.mul_le_mul_of_nonpos_left (by omega) b.2.2.1
    have a1 : x * r ≤ ((d + 1) * n - 1) * r := Int.mul_le_mul_of_nonneg_right (by rw [Int.add_mul]; omega) (by omega)
    have a2 : ((d + 1) * n - 1) * r = (d + 1) * (r * n) - r := by
      rw [Int.sub_mul, Int.one_mul, Int.mul_assoc, Int.mul_comm n r]
    have a6 : (d + 1) * (r * n) ≤ (d + 1) * (65536 - n) := Int.mul_le_mul_of_nonpos_left (by omega) (by omega)
    have a7 : (d + 1) * (65536 - n) = (d + 1) * 65536 - (d + 1) * n := Int.mul_sub ..
    have a8 : (d + 1) * n = d * n + n := by rw [Int.add_mul, Int.one_mul]
    omega
theorem RecipNear : bitloftlaw05_RecipNear.Pure := by
  intro x n hx hn
  replace hx := bounds_i32 hx
  refine ⟨10, ?_⟩
  have al : bitloftlaw05_RecipNear.j0 10 x n true = some true := by
    simp only [bitloftlaw05_RecipNear.j0, if_true]
    rw [alive_holds]
    rfl
  unfold bitloftlaw05_RecipNear.f
  rw [fits]
  simp only [Option.bind_some]
  by_cases e : 1 ≤ n ∧ n ≤ 1024
  · rw [decide_eq_true e, if_pos rfl]
    by_cases f : x > 65535
    · rw [if_pos f, al]
    · rw [if_neg f]
      by_cases g : x < -65535
      · rw [decide_eq_true g, al]
      · rw [decide_eq_false g]
        obtain ⟨d, d1, d2, d3, d4, p1, p2, p3⟩ := down_in (x := x) (by omega) (by omega) e.1 e.2
        have q := near_in (by omega) (by omega) e.1 e.2 d1 d2
        have fin : ∀ b, (if b = true then bitloftlaw05_RecipNear.j2 8 x (quo x n) 0 (wrap32 (wrap32 (x.tdiv n) - 1)) else bitloftlaw05_RecipNear.j2 8 x (quo x n) 0 (wrap32 (x.tdiv n))) = bitloftlaw05_RecipNear.j2 8 x (quo x n) 0 d → bitloftlaw05_RecipNear.j1 9 x (quo x n) 0 (wrap32 (Int.tdiv x n)) b = some true := by
          intro b hb
          simp only [bitloftlaw05_RecipNear.j1]
          rw [hb]
          simp only [bitloftlaw05_RecipNear.j2, if_true]
          by_cases c : x ≥ 0
          · rw [if_pos c, if_pos (q.1 c).1, w32 (by omega), if_pos (q.1 c).2, alive_holds]
            rfl
          · rw [if_neg c, if_pos (q.2 (by omega)).1, w32 (by omega), if_pos (q.2 (by omega)).2, alive_holds]
            rfl
        simp only [bitloftlaw05_RecipNear.j0]
        rw [if_neg (by decide), div_in hx.1 hx.2 e.1 e.2]
        simp only [Option.bind_some]
        rw [if_neg (by omega)]
        by_cases c : x < 0
        · rw [if_pos c]
          apply fin
          by_cases z : Int.tmod x n = 0
          · rw [if_neg (by simpa using z), p3 c z]
          · rw [if_pos (by simpa using z), p2 c z]
        · rw [if_neg c]
          apply fin
          rw [if_neg (by decide), p1 (by omega)]
  · rw [decide_eq_false e, if_neg (by decide), al]
end Go.Proofs.Ytapfgghgohajaaa.Pure
