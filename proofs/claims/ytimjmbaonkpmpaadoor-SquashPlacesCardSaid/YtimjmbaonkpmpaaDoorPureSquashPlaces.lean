/- The plain statement of SquashPlaces holds: what the printed functions compute answers true at every input. -/
import Derived.Test.YtimjmbaonkpmpaaDoorXSquashPlacesx2
import Derived.OpenShut
set_option linter.unusedVariables false
set_option linter.unusedSimpArgs false
namespace Go.Proofs.YtimjmbaonkpmpaaDoor.Pure
open Go.RowKit Go.Proofs.YtimjmbaonkpmpaaDoor.XSquashPlaces Go.Proofs.YtimjmbaonkpmpaaDoorW.PrintWords Go.Proofs.YtimjmbaonkpmpaaDoorW.PrintLast
theorem w32 {x : Int} (h : -2147483648 ≤ x ∧ x ≤ 2147483647) : wrap32 x = x := by unfold wrap32; omega
theorem p_f (d : Int) : squash_Squash.f d = some (sq d) := by
  unfold squash_Squash.f sq
  split
  · rfl
  · split <;> rfl
theorem p_steps : ∀ i j : Fin 64, ((i.val : Int) * 64 + j.val < 4094) → sq ((i.val : Int) * 64 + j.val - 2047) ≤ sq ((i.val : Int) * 64 + j.val + 1 - 2047) ∧ sq ((i.val : Int) * 64 + j.val + 1 - 2047) ≤ sq ((i.val : Int) * 64 + j.val - 2047) + 4 := by decide +kernel
theorem p_step {d : Int} (h0 : -2047 ≤ d) (h1 : d ≤ 2046) : sq d ≤ sq (d + 1) ∧ sq (d + 1) ≤ sq d + 4 := by
  obtain ⟨n, hn⟩ : ∃ n : Nat, d + 2047 = (n : Int) := ⟨(d + 2047).toNat, by omega⟩
  have := p_steps ⟨n / 64, by omega⟩ ⟨n % 64, by omega⟩
  dsimp only at this
  rw [show ((n / 64 : Nat) : Int) * 64 + ((n % 64 : Nat) : Int) = (n : Int) from by omega, show (n : Int) - 2047 = d from by omega, show (n : Int) + 1 - 2047 = d + 1 from by omega] at this
  exact this (by omega)
theorem p_in (a : Int) (ha : -2047 ≤ a) (n : Nat) : a + n ≤ 2047 → sq a ≤ sq (a + n) := by
  induction n with
  | zero => intro _; rw [show a + ((0 : Nat) : Int) = a from by omega]; exact Int.le_refl _
  | succ n ih =>
    intro h
    have := ih (by omega)
    have s := (p_step (d := a + n) (by omega) (by omega)).1
    rw [show a + ((n + 1 : Nat) : Int) = a + n + 1 from by omega]
    exact Int.le_trans this s
theorem p_low : sq (-2047) = 1 := by decide +kernel
theorem p_top : sq 2047 = 4094 := by decide +kernel
theorem p_range {d : Int} (h0 : -2047 ≤ d) (h1 : d ≤ 2047) : 1 ≤ sq d ∧ sq d ≤ 4094 := by
  have a := p_in (-2047) (by decide) (d + 2047).toNat (by omega)
  have b := p_in d h0 (2047 - d).toNat (by omega)
  rw [show -2047 + ((d + 2047).toNat : Int) = d from by omega, p_low] at a
  rw [show d + ((2047 - d).toNat : Int) = 2047 from by omega, p_top] at b
  exact ⟨a, b⟩
theorem p_far {d : Int} (h : d > 2047) : sq d = 4095 := by unfold sq; rw [if_pos h]
theorem p_neg {d : Int} (h : d < -2047) : sq d = 0 := by unfold sq; rw [if_neg (by omega), if_pos h]
theorem p_all (d : Int) : 0 ≤ sq d ∧ sq d ≤ 4095 := by
  by_cases a : d > 2047
  · rw [p_far a]; omega
  · by_cases b : d < -2047
    · rw [p_neg b]; omega
    · have := p_range (d := d) (by omega) (by omega); omega
theorem p_mono {d e : Int} (h : d ≤ e) : sq d ≤ sq e := by
  by_cases a : e > 2047
  · rw [p_far a]; exact (p_all d).2
  · by_cases b : d < -2047
    · rw [p_neg b]; exact (p_all e).1
    · have := p_in d (by omega) (e - d).toNat (by omega)
      rwa [show d + ((e - d).toNat : Int) = e from by omega] at this
theorem p_at : ∀ i : Fin 31, sq (128 * ((i.val : Int) + 1 - 16)) = rd sqRow ((i.val : Int) + 1) := by decide +kernel
theorem p_end : rd sqRow 32 = 4094 := by decide
theorem SquashPlaces : bitloftlaw04_SquashPlaces.Pure := by
  intro i w hi hw
  replace hi := bounds_i64 hi
  replace hw := bounds_i32 hw
  refine ⟨9, ?_⟩
  have j0t : ∀ k x y, bitloftlaw04_SquashPlaces.j0 (k + 1) x y true = some true := by
    intro k x y
    simp only [bitloftlaw04_SquashPlaces.j0]
    rw [if_pos trivial]
  unfold bitloftlaw04_SquashPlaces.f
  by_cases a : i < 1
  · rw [if_pos a]; exact j0t _ _ _
  by_cases b : i > 31
  · rw [if_neg a, if_pos b]; exact j0t _ _ _
  by_cases c : w < 0
  · rw [if_neg a, if_neg b, if_pos c]; exact j0t _ _ _
  rw [if_neg a, if_neg b, if_neg c]
  by_cases d : w > 127
  · rw [decide_eq_true d]; exact j0t _ _ _
  rw [decide_eq_false d]
  have w64 : ∀ z : Int, -9223372036854775808 ≤ z → z ≤ 9223372036854775807 → wrap64 z = z := fun z h0 h1 => by unfold wrap64; omega
  simp only [bitloftlaw04_SquashPlaces.j0]
  have hL : ([1, 2, 3, 6, 10, 16, 27, 45, 73, 120, 194, 310, 488, 747, 1101, 1546, 2047, 2549, 2994, 3348, 3607, 3785, 3901, 3975, 4022, 4050, 4068, 4079, 4085, 4089, 4092, 4093, 4094] : List Int) = sqRow := rfl
  simp only [hL]
  clear hL
  rw [if_neg (by decide), w64 (i - 16) (by omega) (by omega), w64 (128 * (i - 16)) (by omega) (by omega), w32 (x := 128 * (i - 16)) (by omega), p_f, Option.bind_some, if_pos (by omega), if_pos (by omega)]
  obtain ⟨n, hn⟩ : ∃ n : Nat, i = (n : Int) + 1 := ⟨(i - 1).toNat, by omega⟩
  have e := p_at ⟨n, by omega⟩
  dsimp only at e
  rw [← hn] at e
  have m0 := p_mono (d := 128 * (i - 16)) (e := 128 * (i - 16) + w) (by omega)
  have m1 : sq (128 * (i - 16) + w) ≤ rd sqRow (i + 1) := by
    by_cases z : i = 31
    · subst z
      rw [show (31 : Int) + 1 = 32 from rfl, p_end]
      exact (p_range (by omega) (by omega)).2
    · have e2 := p_at ⟨n + 1, by omega⟩
      dsimp only at e2
      rw [show ((n + 1 : Nat) : Int) + 1 = i + 1 from by omega] at e2
      rw [← e2]
      exact p_mono (by omega)
  rw [if_pos e, w32 (x := 128 * (i - 16) + w) (by omega), p_f, Option.bind_some, w64 (i + 1) (by omega) (by omega)]
  rw [if_pos (show sq (128 * (i - 16) + w) ≥ rd sqRow i by rw [← e]; exact m0), if_pos (by omega), if_pos (by omega), if_pos m1]
  simp only [bitloftlaw04_SquashPlaces.j1]
end Go.Proofs.YtimjmbaonkpmpaaDoor.Pure
