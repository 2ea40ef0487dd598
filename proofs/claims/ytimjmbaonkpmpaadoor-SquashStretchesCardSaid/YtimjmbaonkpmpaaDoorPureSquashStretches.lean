/- The plain statement of SquashStretches holds: what the printed functions compute answers true at every input. -/
import Derived.Test.YtimjmbaonkpmpaaDoorXSquashStretchesx1
import Derived.OpenShut
set_option linter.unusedVariables false
set_option linter.unusedSimpArgs false
namespace Go.Proofs.YtimjmbaonkpmpaaDoor.Pure
open Go.RowKit Go.Proofs.YtimjmbaonkpmpaaDoor.XSquashStretches Go.Proofs.YtimjmbaonkpmpaaDoorW.PrintWords Go.Proofs.YtimjmbaonkpmpaaDoorW.PrintLast
theorem w32 {x : Int} (h : -2147483648 ≤ x ∧ x ≤ 2147483647) : wrap32 x = x := by unfold wrap32; omega
theorem p_f (d : Int) : squash_Squash.f d = some (sq d) := by
  unfold squash_Squash.f sq
  split
  · rfl
  · split <;> rfl
theorem p_steps : ∀ i j : Fin 64, ((i.val : Int) * 64 + j.val < 4094) → sq ((i.val : Int) * 64 + j.val - 2047) ≤ sq ((i.val : Int) * 64 + j.val + 1 - 2047) ∧ sq ((i.val : Int) * 64 + j.val + 1 - 2047) ≤ sq ((i.val : Int) * 64 + j.val - 2047) + 4 := by decide +kernel
theorem p_step {d : Int} (h0 : -2047 ≤ d) (h1 : d ≤ 2046) : sq d ≤ sq (d + 1) ∧ sq (d + 1) ≤ sq d + 4 := by
  obtain ⟨n, hn⟩ : ∃ n : Nat, d + 2047 = (n : Int) := ⟨(d + 2047).toNat, by omega⟩
  have := p_steps ⟨n / 64, by omega⟩ ⟨n % 64, by omega⟩
  dsimp only at this
  rw [show ((n / 64 : Nat) : Int) * 64 + ((n % 64 : Nat) : Int) = (n : Int) from by omega, show (n : Int) - 2047 = d from by omega, show (n : Int) + 1 - 2047 = d + 1 from by omega] at this
  exact this (by omega)
theorem p_in (a : Int) (ha : -2047 ≤ a) (n : Nat) : a + n ≤ 2047 → sq a ≤ sq (a + n) := by
  induction n with
  | zero => intro _; rw [show a + ((0 : Nat) : Int) = a from by omega]; exact Int.le_refl _
  | succ n ih =>
    intro h
    have := ih (by omega)
    have s := (p_step (d := a + n) (by omega) (by omega)).1
    rw [show a + ((n + 1 : Nat) : Int) = a + n + 1 from by omega]
    exact Int.le_trans this s
theorem p_low : sq (-2047) = 1 := by decide +kernel
theorem p_top : sq 2047 = 4094 := by decide +kernel
theorem p_range {d : Int} (h0 : -2047 ≤ d) (h1 : d ≤ 2047) : 1 ≤ sq d ∧ sq d ≤ 4094 := by
  have a := p_in (-2047) (by decide) (d + 2047).toNat (by omega)
  have b := p_in d h0 (2047 - d).toNat (by omega)
  rw [show -2047 + ((d + 2047).toNat : Int) = d from by omega, p_low] at a
  rw [show d + ((2047 - d).toNat : Int) = 2047 from by omega, p_top] at b
  exact ⟨a, b⟩
theorem p_far {d : Int} (h : d > 2047) : sq d = 4095 := by unfold sq; rw [if_pos h]
theorem p_neg {d : Int} (h : d < -2047) : sq d = 0 := by unfold sq; rw [if_neg (by omega), if_pos h]
theorem p_all (d : Int) : 0 ≤ sq d ∧ sq d ≤ 4095 := by
  by_cases a : d > 2047
  · rw [p_far a]; omega
  · by_cases b : d < -2047
    · rw [p_neg b]; omega
    · have := p_range (d := d) (by omega) (by omega); omega
theorem p_mono {d e : Int} (h : d ≤ e) : sq d ≤ sq e := by
  by_cases a : e > 2047
  · rw [p_far a]; exact (p_all d).2
  · by_cases b : d < -2047
    · rw [p_neg b]; exact (p_all e).1
    · have := p_in d (by omega) (e - d).toNat (by omega)
      rwa [show d + ((e - d).toNat : Int) = e from by omega] at this
theorem p_cut (q : Nat → Bool) (n k : Nat) (hk : k ≤ n) (h0 : ∀ t, t < k → q t = true) (h1 : ∀ t, k ≤ t → t < n → q t = false) : (List.range n).countP q = k := by
  induction n with
  | zero => obtain rfl : k = 0 := by omega
            rfl
  | succ n ih =>
    rw [List.range_succ, List.countP_append]
    by_cases e : k = n + 1
    · subst e
      have : (List.range n).countP q = n := by
        rw [List.countP_eq_length.mpr (fun a ha => h0 a (by have := List.mem_range.mp ha; omega)), List.length_range]
      rw [this]
      simp [h0 n (by omega)]
    · rw [ih (by omega) (fun t a b => h1 t a (by omega))]
      simp [h1 n (by omega) (by omega)]
theorem p_ex (p : Int) (n : Nat) : ∃ k, k ≤ n ∧ (∀ t : Nat, t < k → sq ((t : Int) - 2047) < p) ∧ (∀ t : Nat, k ≤ t → t < n → p ≤ sq ((t : Int) - 2047)) := by
  induction n with
  | zero => exact ⟨0, Nat.le_refl _, fun t h => by omega, fun t _ h => by omega⟩
  | succ n ih =>
    obtain ⟨k, hk, h0, h1⟩ := ih
    by_cases c : sq ((n : Int) - 2047) < p
    · exact ⟨n + 1, Nat.le_refl _, fun t ht => Int.lt_of_le_of_lt (p_mono (by omega)) c, fun t a b => by omega⟩
    · exact ⟨k, by omega, h0, fun t a b => by
        by_cases e : t = n
        · subst e; omega
        · exact h1 t a (by omega)⟩
theorem p_mid (d : Int) (h0 : -2047 ≤ d) (h1 : d ≤ 2047) : sq d = (rd sqRow (d / 128 + 16) * 128 + (rd sqRow (d / 128 + 17) - rd sqRow (d / 128 + 16)) * (d % 128) + 64) / 128 := by
  unfold sq squash_Squash.mid
  rw [if_neg (by omega), if_neg (by omega)]
theorem p_ref (d : Int) (hd : -2147483648 ≤ d ∧ d ≤ 2147483647) : bitloftref04_Squash.f d = some (sq d) := by
  unfold bitloftref04_Squash.f
  by_cases a : d > 2047
  · rw [if_pos a, p_far a]
  by_cases b : d < -2047
  · rw [if_neg a, if_pos b, p_neg b]
  rw [if_neg a, if_neg b]
  rw [w32 (x := d + 2048) (by omega)]
  have e1 : Int.tdiv (d + 2048) 128 = d / 128 + 16 := by rw [Int.tdiv_eq_ediv_of_nonneg (by omega)]; omega
  have e2 : Int.tmod (d + 2048) 128 = d % 128 := by rw [Int.tmod_eq_emod_of_nonneg (by omega)]; omega
  rw [e1, e2, w32 (x := d / 128 + 16) (by omega), w32 (x := d / 128 + 16 + 1) (by omega)]
  rw [if_pos (by omega), if_pos (by omega), if_pos (by omega), if_pos (by omega), p_mid d (by omega) (by omega)]
  obtain ⟨i, hi⟩ : ∃ i : Nat, d / 128 + 16 = (i : Int) := ⟨(d / 128 + 16).toNat, by omega⟩
  have h := sq_rows ⟨i, by omega⟩
  dsimp only at h
  rw [show d / 128 + 16 + 1 = (i : Int) + 1 from by omega, show d / 128 + 17 = (i : Int) + 1 from by omega, hi]
  show some (wrap32 (Int.tdiv (wrap32 (wrap32 (wrap32 (rd sqRow (i : Int) * wrap32 (128 - d % 128)) + wrap32 (rd sqRow ((i : Int) + 1) * (d % 128))) + 64)) 128)) = _
  generalize rd sqRow (i : Int) = x at h ⊢
  generalize rd sqRow ((i : Int) + 1) = y at h ⊢
  have m0 : 0 ≤ d % 128 := by omega
  have m1 : d % 128 ≤ 127 := by omega
  generalize d % 128 = m at m0 m1 ⊢
  rw [w32 (x := 128 - m) (by omega)]
  have q0 : 0 ≤ (y - x) * m := Int.mul_nonneg h.2.2.1 m0
  have q1 : (y - x) * m ≤ 503 * 127 := Int.mul_le_mul h.2.2.2 m1 m0 (by decide)
  have q2 : 0 ≤ x * m := Int.mul_nonneg h.1 m0
  have q3 : x * m ≤ 4094 * 127 := Int.mul_le_mul h.2.1 m1 m0 (by decide)
  rw [Int.sub_mul] at q0 q1 ⊢
  rw [Int.mul_sub]
  generalize x * m = p at q0 q1 q2 q3 ⊢
  generalize y * m = q at q0 q1 ⊢
  rw [w32 (x := x * 128 - p) (by omega), w32 (x := q) (by omega), w32 (x := x * 128 - p + q) (by omega), w32 (x := x * 128 - p + q + 64) (by omega), Int.tdiv_eq_ediv_of_nonneg (by omega), w32 (by omega)]
  congr 2
  omega
theorem p_walk (p : Int) (k0 : Nat) (hk : k0 ≤ 4094) (a0 : ∀ t : Nat, t < k0 → sq ((t : Int) - 2047) < p) (a1 : ∀ t : Nat, k0 ≤ t → t < 4094 → p ≤ sq ((t : Int) - 2047)) (n : Nat) :
    ∀ (r : Nat) (x : Int), x = (k0 : Int) - n - 2047 → n ≤ k0 → n < r → bitloftref04_Stretch.l0 r p x = some ((k0 : Int) - 2047) := by
  induction n with
  | zero =>
    intro r x hx _ hr
    obtain ⟨r, rfl⟩ : ∃ m, r = m + 1 := ⟨r - 1, by omega⟩
    simp only [bitloftref04_Stretch.l0]
    by_cases c : x < 2047
    · have := a1 k0 (Nat.le_refl _) (by omega)
      rw [if_pos c, p_ref x (by omega), Option.bind_some, show x = (k0 : Int) - 2047 from by omega, if_neg (by omega)]
    · rw [if_neg c, show x = (k0 : Int) - 2047 from by omega]
  | succ n ih =>
    intro r x hx hn hr
    obtain ⟨r, rfl⟩ : ∃ m, r = m + 1 := ⟨r - 1, by omega⟩
    simp only [bitloftref04_Stretch.l0]
    have := a0 (k0 - (n + 1)) (by omega)
    rw [show ((k0 - (n + 1) : Nat) : Int) - 2047 = x from by omega] at this
    rw [if_pos (by omega), p_ref x (by omega), Option.bind_some, if_pos this, w32 (by omega)]
    exact ih r (x + 1) (by omega) (by omega) (by omega)
theorem SquashStretches : bitloftlaw04_SquashStretches.Pure := by
  intro p hp
  obtain ⟨k0, hk, a0, a1⟩ := p_ex p 4094
  have e : lessS p = k0 := p_cut _ 4094 k0 hk (fun t ht => decide_eq_true (a0 t ht)) (fun t a b => decide_eq_false (by have := a1 t a b; omega))
  obtain ⟨K, hK⟩ : ∃ K, K = k0 + 1 := ⟨_, rfl⟩
  refine ⟨K, ?_⟩
  unfold bitloftlaw04_SquashStretches.f bitloftref04_Stretch.f squash_Stretch.f
  rw [Option.bind_some, e, p_walk p k0 hk a0 a1 k0 K (-2047) (by omega) (Nat.le_refl _) (by omega), Option.bind_some]
  simp
end Go.Proofs.YtimjmbaonkpmpaaDoor.Pure
