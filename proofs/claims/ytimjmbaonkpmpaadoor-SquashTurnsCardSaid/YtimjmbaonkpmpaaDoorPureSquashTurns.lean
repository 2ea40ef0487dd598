/- The plain statement of SquashTurns holds: what the printed functions compute answers true at every input. -/
import Derived.Test.YtimjmbaonkpmpaaDoorXSquashTurnsx1
import Derived.OpenShut
set_option linter.unusedVariables false
set_option linter.unusedSimpArgs false
namespace Go.Proofs.YtimjmbaonkpmpaaDoor.Pure
open Go.RowKit Go.Proofs.YtimjmbaonkpmpaaDoor.XSquashTurns Go.Proofs.YtimjmbaonkpmpaaDoorW.PrintWords Go.Proofs.YtimjmbaonkpmpaaDoorW.PrintLast
theorem w32 {x : Int} (h : -2147483648 ≤ x ∧ x ≤ 2147483647) : wrap32 x = x := by unfold wrap32; omega
theorem p_f (d : Int) : squash_Squash.f d = some (sq d) := by
  unfold squash_Squash.f sq
  split
  · rfl
  · split <;> rfl
theorem p_steps : ∀ i j : Fin 64, ((i.val : Int) * 64 + j.val < 4094) → sq ((i.val : Int) * 64 + j.val - 2047) ≤ sq ((i.val : Int) * 64 + j.val + 1 - 2047) ∧ sq ((i.val : Int) * 64 + j.val + 1 - 2047) ≤ sq ((i.val : Int) * 64 + j.val - 2047) + 4 := by decide +kernel
theorem p_step {d : Int} (h0 : -2047 ≤ d) (h1 : d ≤ 2046) : sq d ≤ sq (d + 1) ∧ sq (d + 1) ≤ sq d + 4 := by
  obtain ⟨n, hn⟩ : ∃ n : Nat, d + 2047 = (n : Int) := ⟨(d + 2047).toNat, by omega⟩
  have := p_steps ⟨n / 64, by omega⟩ ⟨n % 64, by omega⟩
  dsimp only at this
  rw [show ((n / 64 : Nat) : Int) * 64 + ((n % 64 : Nat) : Int) = (n : Int) from by omega, show (n : Int) - 2047 = d from by omega, show (n : Int) + 1 - 2047 = d + 1 from by omega] at this
  exact this (by omega)
theorem p_in (a : Int) (ha : -2047 ≤ a) (n : Nat) : a + n ≤ 2047 → sq a ≤ sq (a + n) := by
  induction n with
  | zero => intro _; rw [show a + ((0 : Nat) : Int) = a from by omega]; exact Int.le_refl _
  | succ n ih =>
    intro h
    have := ih (by omega)
    have s := (p_step (d := a + n) (by omega) (by omega)).1
    rw [show a + ((n + 1 : Nat) : Int) = a + n + 1 from by omega]
    exact Int.le_trans this s
theorem p_low : sq (-2047) = 1 := by decide +kernel
theorem p_top : sq 2047 = 4094 := by decide +kernel
theorem p_range {d : Int} (h0 : -2047 ≤ d) (h1 : d ≤ 2047) : 1 ≤ sq d ∧ sq d ≤ 4094 := by
  have a := p_in (-2047) (by decide) (d + 2047).toNat (by omega)
  have b := p_in d h0 (2047 - d).toNat (by omega)
  rw [show -2047 + ((d + 2047).toNat : Int) = d from by omega, p_low] at a
  rw [show d + ((2047 - d).toNat : Int) = 2047 from by omega, p_top] at b
  exact ⟨a, b⟩
theorem p_far {d : Int} (h : d > 2047) : sq d = 4095 := by unfold sq; rw [if_pos h]
theorem p_neg {d : Int} (h : d < -2047) : sq d = 0 := by unfold sq; rw [if_neg (by omega), if_pos h]
theorem p_all (d : Int) : 0 ≤ sq d ∧ sq d ≤ 4095 := by
  by_cases a : d > 2047
  · rw [p_far a]; omega
  · by_cases b : d < -2047
    · rw [p_neg b]; omega
    · have := p_range (d := d) (by omega) (by omega); omega
theorem p_mono {d e : Int} (h : d ≤ e) : sq d ≤ sq e := by
  by_cases a : e > 2047
  · rw [p_far a]; exact (p_all d).2
  · by_cases b : d < -2047
    · rw [p_neg b]; exact (p_all e).1
    · have := p_in d (by omega) (e - d).toNat (by omega)
      rwa [show d + ((e - d).toNat : Int) = e from by omega] at this
theorem p_cut (q : Nat → Bool) (n k : Nat) (hk : k ≤ n) (h0 : ∀ t, t < k → q t = true) (h1 : ∀ t, k ≤ t → t < n → q t = false) : (List.range n).countP q = k := by
  induction n with
  | zero => obtain rfl : k = 0 := by omega
            rfl
  | succ n ih =>
    rw [List.range_succ, List.countP_append]
    by_cases e : k = n + 1
    · subst e
      have : (List.range n).countP q = n := by
        rw [List.countP_eq_length.mpr (fun a ha => h0 a (by have := List.mem_range.mp ha; omega)), List.length_range]
      rw [this]
      simp [h0 n (by omega)]
    · rw [ih (by omega) (fun t a b => h1 t a (by omega))]
      simp [h1 n (by omega) (by omega)]
theorem p_less (p : Int) (k : Nat) (hk : k ≤ 4094) (h0 : k = 0 ∨ sq ((k : Int) - 1 - 2047) < p) (h1 : k = 4094 ∨ p ≤ sq ((k : Int) - 2047)) : lessS p = k := by
  unfold lessS
  refine p_cut _ 4094 k hk (fun t ht => decide_eq_true ?_) (fun t a b => decide_eq_false ?_)
  · have := p_mono (d := (t : Int) - 2047) (e := (k : Int) - 1 - 2047) (by omega)
    rcases h0 with h0 | h0 <;> omega
  · have := p_mono (d := (k : Int) - 2047) (e := (t : Int) - 2047) (by omega)
    rcases h1 with h1 | h1 <;> omega
theorem alive_is : bitloftlaw04_alive.f = some true := rfl
theorem p_turns : ∀ i j : Fin 64, ((i.val : Int) * 64 + j.val ≤ 4094) → 4094 ≤ sq ((i.val : Int) * 64 + j.val - 2047) + sq (-((i.val : Int) * 64 + j.val - 2047)) ∧ sq ((i.val : Int) * 64 + j.val - 2047) + sq (-((i.val : Int) * 64 + j.val - 2047)) ≤ 4096 := by decide +kernel
theorem p_turn (d : Int) : 4094 ≤ sq d + sq (-d) ∧ sq d + sq (-d) ≤ 4096 := by
  by_cases a : d > 2047
  · rw [p_far a, p_neg (by omega)]; omega
  by_cases b : d < -2047
  · rw [p_neg b, p_far (by omega)]; omega
  obtain ⟨n, hn⟩ : ∃ n : Nat, d + 2047 = (n : Int) := ⟨(d + 2047).toNat, by omega⟩
  have := p_turns ⟨n / 64, by omega⟩ ⟨n % 64, by omega⟩
  dsimp only at this
  rw [show ((n / 64 : Nat) : Int) * 64 + ((n % 64 : Nat) : Int) = (n : Int) from by omega, show (n : Int) - 2047 = d from by omega] at this
  exact this (by omega)
theorem SquashTurns : bitloftlaw04_SquashTurns.Pure := by
  intro a ha
  replace ha := bounds_i32 ha
  refine ⟨9, ?_⟩
  unfold bitloftlaw04_SquashTurns.f
  by_cases c : a = -2147483648
  · rw [if_pos c, p_f, Option.bind_some, p_neg (by omega), if_pos rfl, alive_is]
    rfl
  · have t := p_turn a
    rw [if_neg c, p_f, Option.bind_some, w32 (x := -a) (by omega), p_f, Option.bind_some, w32 (by omega), if_pos (by omega), if_pos (by omega), alive_is, Option.bind_some]
    simp only [bitloftlaw04_SquashTurns.j0]
end Go.Proofs.YtimjmbaonkpmpaaDoor.Pure
