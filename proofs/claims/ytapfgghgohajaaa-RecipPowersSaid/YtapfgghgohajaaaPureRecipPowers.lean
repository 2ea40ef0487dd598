/- RecipPowers: for all numbers of their kinds the law returns true; no condition. -/
import Derived.Test.YtapfgghgohajaaaXRecipPowersx2
import Derived.OpenShut
set_option linter.unusedVariables false
set_option linter.unusedSimpArgs false
namespace Go.Proofs.Ytapfgghgohajaaa.Pure
open Go.RowKit Go.Proofs.Ytapfgghgohajaaa.XRecipPowers Go.Proofs.YtapfgghgohajaaaW.PrintWords Go.Proofs.YtapfgghgohajaaaW.PrintLast
/-! What a quotient by a reciprocal is. -/
theorem w32 {x : Int} (h : -2147483648 ≤ x ∧ x ≤ 2147483647) : wrap32 x = x := by unfold wrap32; omega
theorem w64 {x : Int} (h : -9223372036854775808 ≤ x ∧ x ≤ 9223372036854775807) : wrap64 x = x := by unfold wrap64; omega
theorem rc_bounds {n : Int} (h1 : 1 ≤ n) (h2 : n ≤ 1024) : 64 ≤ 65536 / n ∧ 65536 / n ≤ 65536 ∧ 65536 / n * n ≤ 65536 ∧ 65536 < (65536 / n + 1) * n := by
  have hn : (0 : Int) < n := by omega
  have e1 : n * (65536 / n) + 65536 % n = 65536 := Int.mul_ediv_add_emod ..
  have e2 : 0 ≤ 65536 % n := Int.emod_nonneg _ (by omega)
  have e3 : 65536 % n < n := Int.emod_lt_of_pos _ hn
  have e4 : (65536 / n + 1) * n = 65536 / n * n + n := by rw [Int.add_mul, Int.one_mul]
  have e5 : 65536 / n * n = n * (65536 / n) := Int.mul_comm ..
  refine ⟨?_, ?_, by omega, by omega⟩
  · exact (Int.le_ediv_iff_mul_le hn).mpr (by omega)
  · exact Int.ediv_le_self _ (by omega)
theorem prod_bounds {x r : Int} (h1 : -2147483648 ≤ x) (h2 : x ≤ 2147483647) (r0 : 0 ≤ r) (r1 : r ≤ 65536) : -140737488355328 ≤ x * r ∧ x * r ≤ 140737488289792 := by
  constructor
  · have a : -2147483648 * r ≤ x * r := Int.mul_le_mul_of_nonneg_right h1 r0
    omega
  · have a : x * r ≤ 2147483647 * r := Int.mul_le_mul_of_nonneg_right h2 r0
    omega
/-- the quotient -/
def quo (x n : Int) : Int := x * (65536 / n) / 65536
theorem quo_bounds {x n : Int} (h1 : -2147483648 ≤ x) (h2 : x ≤ 2147483647) (n1 : 1 ≤ n) (n2 : n ≤ 1024) : -2147483648 ≤ quo x n ∧ quo x n ≤ 2147483647 := by
  have b := rc_bounds n1 n2
  have c := prod_bounds h1 h2 (r := 65536 / n) (by omega) b.2.1
  unfold quo
  omega
theorem of_in {n : Int} (n1 : 1 ≤ n) (n2 : n ≤ 1024) : recip_Of.f n = some (65536 / n, 0) := by
  have b := rc_bounds n1 n2
  unfold recip_Of.f
  rw [if_neg (by omega), if_neg (by omega), if_neg (by omega), Int.tdiv_eq_ediv_of_nonneg (by decide), w32 (by omega)]
theorem of_out {n : Int} (h : n < 1 ∨ 1024 < n) : recip_Of.f n = some (0, 2) := by
  unfold recip_Of.f
  by_cases c : n < 1
  · rw [if_pos c]
  · rw [if_neg c, if_pos (by omega)]
theorem div_in {x n : Int} (h1 : -2147483648 ≤ x) (h2 : x ≤ 2147483647) (n1 : 1 ≤ n) (n2 : n ≤ 1024) : recip_Div.f x n = some (quo x n, 0) := by
  have b := rc_bounds n1 n2
  have c := prod_bounds h1 h2 (r := 65536 / n) (by omega) b.2.1
  have q := quo_bounds h1 h2 n1 n2
  unfold recip_Div.f
  rw [of_in n1 n2]
  simp only [Option.bind_some, if_true]
  rw [w64 (x := x) (by omega), w64 (x := 65536 / n) (by omega), w64 (by omega), w32 (by unfold quo at q; omega)]
  rfl
theorem div_out {x n : Int} (h : n < 1 ∨ 1024 < n) : recip_Div.f x n = some (0, 2) := by
  unfold recip_Div.f
  rw [of_out h]
  rfl
theorem step_in {p t n : Int} (k : Nat) (p0 : 0 ≤ p) (p1 : p < 65536) (t0 : 0 ≤ t) (t1 : t < 65536) (n1 : 1 ≤ n) (n2 : n ≤ 1024) : recip_Step.f (k + 1) p t n = some (wrap32 (p + quo (t - p) n), 0) := by
  unfold recip_Step.f
  have a : ¬ mn p t < 0 := by unfold mn; split <;> omega
  have b : ¬ mx p t ≥ 65536 := by unfold mx; split <;> omega
  rw [if_neg a, decide_eq_false b]
  simp only [recip_Step.j0]
  rw [if_neg (by decide), w32 (x := t - p) (by omega), div_in (by omega) (by omega) n1 n2]
  rfl
theorem step_out {p t n : Int} (k : Nat) (h : p < 0 ∨ 65536 ≤ p ∨ t < 0 ∨ 65536 ≤ t ∨ n < 1 ∨ 1024 < n) : recip_Step.f (k + 1) p t n = some (0, 2) := by
  unfold recip_Step.f
  by_cases a : mn p t < 0
  · rw [if_pos a]
    simp only [recip_Step.j0, if_true]
  · rw [if_neg a]
    by_cases b : mx p t ≥ 65536
    · rw [decide_eq_true b]
      simp only [recip_Step.j0, if_true]
    · rw [decide_eq_false b]
      simp only [recip_Step.j0]
      rw [if_neg (by decide), div_out]
      · rfl
      · unfold mn at a; unfold mx at b; split at a <;> split at b <;> omega
theorem fits (n : Int) : bitloftref05_Fits.f n = some (decide (1 ≤ n ∧ n ≤ 1024)) := by
  unfold bitloftref05_Fits.f
  split
  · congr 1; simp; omega
  · congr 1; simp; omega
theorem alive_holds (k : Nat) : bitloftlaw05_alive.f (k + 1) = some true := by
  unfold bitloftlaw05_alive.f bitloftlaw05_div.f bitloftlaw05_step.f
  rw [step_in k (by decide) (by decide) (by decide) (by decide) (by decide) (by decide), step_in k (by decide) (by decide) (by decide) (by decide) (by decide) (by decide)]
  decide +kernel
theorem shl_in {k : Int} (h1 : 0 ≤ k) (h2 : k ≤ 10) : 1 ≤ shl .i32 1 k ∧ shl .i32 1 k ≤ 1024 ∧ ∀ x : Int, quo x (shl .i32 1 k) = shr .i32 x k := by
  have : k = 0 ∨ k = 1 ∨ k = 2 ∨ k = 3 ∨ k = 4 ∨ k = 5 ∨ k = 6 ∨ k = 7 ∨ k = 8 ∨ k = 9 ∨ k = 10 := by omega
  rcases this with rfl | rfl | rfl | rfl | rfl | rfl | rfl | rfl | rfl | rfl | rfl
  · rw [show shl .i32 1 0 = 1 from by decide +kernel]; refine ⟨by decide, by decide, fun x => ?_⟩; show x * 65536 / 65536 = x / 1; omega
  · rw [show shl .i32 1 1 = 2 from by decide +kernel]; refine ⟨by decide, by decide, fun x => ?_⟩; show x * 32768 / 65536 = x / 2; omega
  · rw [show shl .i32 1 2 = 4 from by decide +kernel]; refine ⟨by decide, by decide, fun x => ?_⟩; show x * 16384 / 65536 = x / 4; omega
  · rw [show shl .i32 1 3 = 8 from by decide +kernel]; refine ⟨by decide, by decide, fun x => ?_⟩; show x * 8192 / 65536 = x / 8; omega
  · rw [show shl .i32 1 4 = 16 from by decide +kernel]; refine ⟨by decide, by decide, fun x => ?_⟩; show x * 4096 / 65536 = x / 16; omega
  · rw [show shl .i32 1 5 = 32 from by decide +kernel]; refine ⟨by decide, by decide, fun x => ?_⟩; show x * 2048 / 65536 = x / 32; omega
  · rw [show shl .i32 1 6 = 64 from by decide +kernel]; refine ⟨by decide, by decide, fun x => ?_⟩; show x * 1024 / 65536 = x / 64; omega
  · rw [show shl .i32 1 7 = 128 from by decide +kernel]; refine ⟨by decide, by decide, fun x => ?_⟩; show x * 512 / 65536 = x / 128; omega
  · rw [show shl .i32 1 8 = 256 from by decide +kernel]; refine ⟨by decide, by decide, fun x => ?_⟩; show x * 256 / 65536 = x / 256; omega
  · rw [show shl .i32 1 9 = 512 from by decide +kernel]; refine ⟨by decide, by decide, fun x => ?_⟩; show x * 128 / 65536 = x / 512; omega
  · rw [show shl .i32 1 10 = 1024 from by decide +kernel]; refine ⟨by decide, by decide, fun x => ?_⟩; show x * 64 / 65536 = x / 1024; omega
theorem of_falls {n m : Int} (n1 : 1 ≤ n) (n2 : n ≤ 1024) (m2 : m ≤ 1024) (h : n ≤ m) : 65536 / m ≤ 65536 / n := by
  have b := rc_bounds n1 n2
  have c := rc_bounds (n := m) (by omega) m2
  have a : 65536 / m * n ≤ 65536 / m * m := Int.mul_le_mul_of_nonneg_left h (by omega)
  exact (Int.le_ediv_iff_mul_le (by omega)).mpr (by omega)
theorem RecipPowers : bitloftlaw05_RecipPowers.Pure := by
  intro x k n m hx hk hn hm
  replace hx := bounds_i32 hx
  refine ⟨10, ?_⟩
  have last : ∀ j, 3 ≤ j → bitloftlaw05_RecipPowers.j1 j n m = some true := by
    intro j hj
    obtain ⟨j, rfl⟩ : ∃ q, j = q + 3 := ⟨j - 3, by omega⟩
    simp only [bitloftlaw05_RecipPowers.j1]
    by_cases e : 1 ≤ n ∧ n ≤ 1024
    · by_cases f : 1 ≤ m ∧ m ≤ 1024
      · have b := rc_bounds e.1 e.2
        rw [of_in e.1 e.2, of_in f.1 f.2]
        simp only [Option.bind_some, if_true, bne_self_eq_false, bitloftlaw05_RecipPowers.j2]
        have s1 : (65536 / n + 1) * n = 65536 / n * n + n := by rw [Int.add_mul, Int.one_mul]
        rw [if_neg (by decide), w32 (x := 65536 / n * n) (by omega), if_pos b.2.2.1, w32 (x := 65536 / n + 1) (by omega), w32 (by omega), if_pos b.2.2.2]
        by_cases c : n > m
        · rw [if_pos c, alive_holds]
          rfl
        · rw [if_neg c, if_pos (of_falls e.1 e.2 f.2 (by omega)), alive_holds]
          rfl
      · rw [of_in e.1 e.2, of_out (n := m) (by omega)]
        simp only [Option.bind_some, if_true, bitloftlaw05_RecipPowers.j2]
        rw [if_pos (by decide), fits, fits, decide_eq_true e, decide_eq_false f, alive_holds]
        rfl
    · rw [of_out (n := n) (by omega)]
      simp only [Option.bind_some]
      by_cases f : 1 ≤ m ∧ m ≤ 1024
      · rw [of_in f.1 f.2]
        simp only [Option.bind_some]
        rw [if_neg (by decide)]
        simp only [bitloftlaw05_RecipPowers.j2, if_true]
        rw [fits, fits, decide_eq_false e, decide_eq_true f, alive_holds]
        rfl
      · rw [of_out (n := m) (by omega)]
        simp only [Option.bind_some]
        rw [if_neg (by decide)]
        simp only [bitloftlaw05_RecipPowers.j2, if_true]
        rw [fits, fits, decide_eq_false e, decide_eq_false f, alive_holds]
        rfl
  unfold bitloftlaw05_RecipPowers.f
  by_cases c : k ≥ 0
  · rw [if_pos c]
    by_cases d : k ≤ 10
    · obtain ⟨s1, s2, s3⟩ := shl_in c d
      rw [decide_eq_true d]
      simp only [bitloftlaw05_RecipPowers.j0, if_true]
      rw [if_pos c, div_in hx.1 hx.2 s1 s2]
      simp only [Option.bind_some, if_true]
      rw [if_pos (s3 x), last _ (by omega)]
    · rw [decide_eq_false d]
      simp only [bitloftlaw05_RecipPowers.j0]
      rw [if_neg (by decide), last _ (by omega)]
  · rw [if_neg c]
    simp only [bitloftlaw05_RecipPowers.j0]
    rw [if_neg (by decide), last _ (by omega)]
end Go.Proofs.Ytapfgghgohajaaa.Pure
