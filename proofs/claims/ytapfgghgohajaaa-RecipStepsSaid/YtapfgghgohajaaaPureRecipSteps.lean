/- RecipSteps: for all numbers of their kinds the law returns true; no condition. -/
import Derived.Test.YtapfgghgohajaaaXRecipStepsx2
import Derived.OpenShut
set_option linter.unusedVariables false
set_option linter.unusedSimpArgs false
namespace Go.Proofs.Ytapfgghgohajaaa.Pure
open Go.RowKit Go.Proofs.Ytapfgghgohajaaa.XRecipSteps Go.Proofs.YtapfgghgohajaaaW.PrintWords Go.Proofs.YtapfgghgohajaaaW.PrintLast
/-! What a quotient by a reciprocal is. -/
theorem w32 {x : Int} (h : -2147483648 ≤ x ∧ x ≤ 2147483647) : wrap32 x = x := by unfold wrap32; omega
theorem w64 {x : Int} (h : -9223372036854775808 ≤ x ∧ x ≤ 9223372036854775807) : wrap64 x = x := by unfold wrap64; omega
theorem rc_bounds {n : Int} (h1 : 1 ≤ n) (h2 : n ≤ 1024) : 64 ≤ 65536 / n ∧ 65536 / n ≤ 65536 ∧ 65536 / n * n ≤ 65536 ∧ 65536 < (65536 / n + 1) * n := by
  have hn : (0 : Int) < n := by omega
  have e1 : n * (65536 / n) + 65536 % n = 65536 := Int.mul_ediv_add_emod ..
  have e2 : 0 ≤ 65536 % n := Int.emod_nonneg _ (by omega)
  have e3 : 65536 % n < n := Int.emod_lt_of_pos _ hn
  have e4 : (65536 / n + 1) * n = 65536 / n * n + n := by rw [Int.add_mul, Int.one_mul]
  have e5 : 65536 / n * n = n * (65536 / n) := Int.mul_comm ..
  refine ⟨?_, ?_, by omega, by omega⟩
  · exact (Int.le_ediv_iff_mul_le hn).mpr (by omega)
  · exact Int.ediv_le_self _ (by omega)
theorem prod_bounds {x r : Int} (h1 : -2147483648 ≤ x) (h2 : x ≤ 2147483647) (r0 : 0 ≤ r) (r1 : r ≤ 65536) : -140737488355328 ≤ x * r ∧ x * r ≤ 140737488289792 := by
  constructor
  · have a : -2147483648 * r ≤ x * r := Int.mul_le_mul_of_nonneg_right h1 r0
    omega
  · have a : x * r ≤ 2147483647 * r := Int.mul_le_mul_of_nonneg_right h2 r0
    omega
/-- the quotient -/
def quo (x n : Int) : Int := x * (65536 / n) / 65536
theorem quo_bounds {x n : Int} (h1 : -2147483648 ≤ x) (h2 : x ≤ 2147483647) (n1 : 1 ≤ n) (n2 : n ≤ 1024) : -2147483648 ≤ quo x n ∧ quo x n ≤ 2147483647 := by
  have b := rc_bounds n1 n2
  have c := prod_bounds h1 h2 (r := 65536 / n) (by omega) b.2.1
  unfold quo
  omega
theorem of_in {n : Int} (n1 : 1 ≤ n) (n2 : n ≤ 1024) : recip_Of.f n = some (65536 / n, 0) := by
  have b := rc_bounds n1 n2
  unfold recip_Of.f
  rw [if_neg (by omega), if_neg (by omega), if_neg (by omega), Int.tdiv_eq_ediv_of_nonneg (by decide), w32 (by omega)]
theorem of_out {n : Int} (h : n < 1 ∨ 1024 < n) : recip_Of.f n = some (0, 2) := by
  unfold recip_Of.f
  by_cases c : n < 1
  · rw [if_pos c]
  · rw [if_neg c, if_pos (by omega)]
theorem div_in {x n : Int} (h1 : -2147483648 ≤ x) (h2 : x ≤ 2147483647) (n1 : 1 ≤ n) (n2 : n ≤ 1024) : recip_Div.f x n = some (quo x n, 0) := by
  have b := rc_bounds n1 n2
  have c := prod_bounds h1 h2 (r := 65536 / n) (by omega) b.2.1
  have q := quo_bounds h1 h2 n1 n2
  unfold recip_Div.f
  rw [of_in n1 n2]
  simp only [Option.bind_some, if_true]
  rw [w64 (x := x) (by omega), w64 (x := 65536 / n) (by omega), w64 (by omega), w32 (by unfold quo at q; omega)]
  rfl
theorem div_out {x n : Int} (h : n < 1 ∨ 1024 < n) : recip_Div.f x n = some (0, 2) := by
  unfold recip_Div.f
  rw [of_out h]
  rfl
theorem step_in {p t n : Int} (k : Nat) (p0 : 0 ≤ p) (p1 : p < 65536) (t0 : 0 ≤ t) (t1 : t < 65536) (n1 : 1 ≤ n) (n2 : n ≤ 1024) : recip_Step.f (k + 1) p t n = some (wrap32 (p + quo (t - p) n), 0) := by
  unfold recip_Step.f
  have a : ¬ mn p t < 0 := by unfold mn; split <;> omega
  have b : ¬ mx p t ≥ 65536 := by unfold mx; split <;> omega
  rw [if_neg a, decide_eq_false b]
  simp only [recip_Step.j0]
  rw [if_neg (by decide), w32 (x := t - p) (by omega), div_in (by omega) (by omega) n1 n2]
  rfl
theorem step_out {p t n : Int} (k : Nat) (h : p < 0 ∨ 65536 ≤ p ∨ t < 0 ∨ 65536 ≤ t ∨ n < 1 ∨ 1024 < n) : recip_Step.f (k + 1) p t n = some (0, 2) := by
  unfold recip_Step.f
  by_cases a : mn p t < 0
  · rw [if_pos a]
    simp only [recip_Step.j0, if_true]
  · rw [if_neg a]
    by_cases b : mx p t ≥ 65536
    · rw [decide_eq_true b]
      simp only [recip_Step.j0, if_true]
    · rw [decide_eq_false b]
      simp only [recip_Step.j0]
      rw [if_neg (by decide), div_out]
      · rfl
      · unfold mn at a; unfold mx at b; split at a <;> split at b <;> omega
theorem fits (n : Int) : bitloftref05_Fits.f n = some (decide (1 ≤ n ∧ n ≤ 1024)) := by
  unfold bitloftref05_Fits.f
  split
  · congr 1; simp; omega
  · congr 1; simp; omega
theorem prob (n : Int) : bitloftref05_Prob.f n = some (decide (0 ≤ n ∧ n < 65536)) := by
  unfold bitloftref05_Prob.f
  split
  · congr 1; simp; omega
  · congr 1; simp; omega
theorem alive_holds (k : Nat) : bitloftlaw05_alive.f (k + 1) = some true := by
  unfold bitloftlaw05_alive.f bitloftlaw05_div.f bitloftlaw05_step.f
  rw [step_in k (by decide) (by decide) (by decide) (by decide) (by decide) (by decide), step_in k (by decide) (by decide) (by decide) (by decide) (by decide) (by decide)]
  decide +kernel
theorem next_in {p t n : Int} (p0 : 0 ≤ p) (p1 : p < 65536) (t0 : 0 ≤ t) (t1 : t < 65536) (n1 : 1 ≤ n) (n2 : n ≤ 1024) :
    (mn p t ≤ p + quo (t - p) n ∧ p + quo (t - p) n ≤ mx p t) ∧ (n = 1 → p + quo (t - p) n = t) ∧ (t < p → p + quo (t - p) n ≠ p) := by
  have b := rc_bounds n1 n2
  unfold quo
  by_cases c : t < p
  · have a1 : (t - p) * 65536 ≤ (t - p) * (65536 / n) := Int.mul_le_mul_of_nonpos_left (by omega) b.2.1
    have a2 : (t - p) * (65536 / n) ≤ (t - p) * 64 := Int.mul_le_mul_of_nonpos_left (by omega) b.1
    refine ⟨⟨?_, ?_⟩, ?_, fun _ => ?_⟩
    · unfold mn; split <;> omega
    · unfold mx; split <;> omega
    · intro h; subst h; simp only [show (65536 : Int) / 1 = 65536 from rfl]; omega
    · omega
  · have a1 : (t - p) * (65536 / n) ≤ (t - p) * 65536 := Int.mul_le_mul_of_nonneg_left b.2.1 (by omega)
    have a2 : (t - p) * 64 ≤ (t - p) * (65536 / n) := Int.mul_le_mul_of_nonneg_left b.1 (by omega)
    refine ⟨⟨?_, ?_⟩, ?_, fun h => absurd h c⟩
    · unfold mn; split <;> omega
    · unfold mx; split <;> omega
    · intro h; subst h; simp only [show (65536 : Int) / 1 = 65536 from rfl]; omega
theorem steps_go {t n many : Int} (t0 : 0 ≤ t) (t1 : t < 65536) (n1 : 1 ≤ n) (n2 : n ≤ 1024) (m1 : many ≤ 50) (d : Nat) : ∀ (k : Nat) (p i : Int), 0 ≤ p → p < 65536 → 0 ≤ i → many - i ≤ d → d + 2 ≤ k →
    bitloftlaw05_RecipSteps.l0 k p t n many i = some true := by
  induction d with
  | zero =>
    intro k p i p0 p1 i0 hd hk
    obtain ⟨k, rfl⟩ : ∃ m, k = m + 2 := ⟨k - 2, by omega⟩
    simp only [bitloftlaw05_RecipSteps.l0]
    rw [if_neg (by omega), alive_holds]
    rfl
  | succ d ih =>
    intro k p i p0 p1 i0 hd hk
    obtain ⟨k, rfl⟩ : ∃ m, k = m + 2 := ⟨k - 2, by omega⟩
    simp only [bitloftlaw05_RecipSteps.l0]
    by_cases c : i < many
    · obtain ⟨⟨h1, h2⟩, h3, h4⟩ := next_in p0 p1 t0 t1 n1 n2
      have lo : 0 ≤ p + quo (t - p) n := by unfold mn at h1; split at h1 <;> omega
      have hi : p + quo (t - p) n < 65536 := by unfold mx at h2; split at h2 <;> omega
      have go : bitloftlaw05_RecipSteps.l0 (k + 1) (p + quo (t - p) n) t n many (wrap64 (i + 1)) = some true := by
        rw [w64 (by omega)]
        exact ih (k + 1) _ (i + 1) lo hi (by omega) (by omega) (by omega)
      rw [if_pos c, step_in k p0 p1 t0 t1 n1 n2]
      simp only [Option.bind_some, if_true]
      rw [w32 (by omega), if_neg (by omega), if_neg (by omega)]
      by_cases e : n = 1
      · rw [if_pos e, if_pos (h3 e)]
        by_cases f : t < p
        · rw [if_pos f, if_neg (h4 f)]; exact go
        · rw [if_neg f]; exact go
      · rw [if_neg e]
        by_cases f : t < p
        · rw [if_pos f, if_neg (h4 f)]; exact go
        · rw [if_neg f]; exact go
    · rw [if_neg c, alive_holds]
      rfl
theorem RecipSteps : bitloftlaw05_RecipSteps.Pure := by
  intro p t n many hp ht hn hm
  refine ⟨60, ?_⟩
  have al : ∀ m, bitloftlaw05_RecipSteps.j0 60 p t n m true = some true := fun m => by
    simp only [bitloftlaw05_RecipSteps.j0, if_true]
    rw [alive_holds]
    rfl
  unfold bitloftlaw05_RecipSteps.f
  simp only [fits, prob, Option.bind_some]
  by_cases c : 0 ≤ p ∧ p < 65536
  · rw [decide_eq_true c, if_pos rfl]
    by_cases d : 0 ≤ t ∧ t < 65536
    · rw [decide_eq_true d, if_pos rfl]
      by_cases e : 1 ≤ n ∧ n ≤ 1024
      · rw [decide_eq_true e, if_pos rfl]
        by_cases f : many < 0
        · rw [if_pos f, al]
        · rw [if_neg f]
          by_cases g : many > 50
          · rw [decide_eq_true g, al]
          · rw [decide_eq_false g]
            simp only [bitloftlaw05_RecipSteps.j0]
            rw [if_neg (by decide)]
            exact steps_go d.1 d.2 e.1 e.2 (by omega) 50 _ p 0 c.1 c.2 (by omega) (by omega) (by omega)
      · rw [decide_eq_false e, if_neg (by decide), al]
    · rw [decide_eq_false d, if_neg (by decide), al]
  · rw [decide_eq_false c, if_neg (by decide), al]
end Go.Proofs.Ytapfgghgohajaaa.Pure
