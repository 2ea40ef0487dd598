/- The plain statement of SquashBack holds: what the printed functions compute answers true at every input. -/
import Derived.Test.YtimjmbaonkpmpaaDoorXSquashBackx1
import Derived.OpenShut
set_option linter.unusedVariables false
set_option linter.unusedSimpArgs false
namespace Go.Proofs.YtimjmbaonkpmpaaDoor.Pure
open Go.RowKit Go.Proofs.YtimjmbaonkpmpaaDoor.XSquashBack Go.Proofs.YtimjmbaonkpmpaaDoorW.PrintWords Go.Proofs.YtimjmbaonkpmpaaDoorW.PrintLast
theorem w32 {x : Int} (h : -2147483648 ≤ x ∧ x ≤ 2147483647) : wrap32 x = x := by unfold wrap32; omega
theorem p_f (d : Int) : squash_Squash.f d = some (sq d) := by
  unfold squash_Squash.f sq
  split
  · rfl
  · split <;> rfl
theorem p_steps : ∀ i j : Fin 64, ((i.val : Int) * 64 + j.val < 4094) → sq ((i.val : Int) * 64 + j.val - 2047) ≤ sq ((i.val : Int) * 64 + j.val + 1 - 2047) ∧ sq ((i.val : Int) * 64 + j.val + 1 - 2047) ≤ sq ((i.val : Int) * 64 + j.val - 2047) + 4 := by decide +kernel
theorem p_step {d : Int} (h0 : -2047 ≤ d) (h1 : d ≤ 2046) : sq d ≤ sq (d + 1) ∧ sq (d + 1) ≤ sq d + 4 := by
  obtain ⟨n, hn⟩ : ∃ n : Nat, d + 2047 = (n : Int) := ⟨(d + 2047).toNat, by omega⟩
  have := p_steps ⟨n / 64, by omega⟩ ⟨n % 64, by omega⟩
  dsimp only at this
  rw [show ((n / 64 : Nat) : Int) * 64 + ((n % 64 : Nat) : Int) = (n : Int) from by omega, show (n : Int) - 2047 = d from by omega, show (n : Int) + 1 - 2047 = d + 1 from by omega] at this
  exact this (by omega)
theorem p_in (a : Int) (ha : -2047 ≤ a) (n : Nat) : a + n ≤ 2047 → sq a ≤ sq (a + n) := by
  induction n with
  | zero => intro _; rw [show a + ((0 : Nat) : Int) = a from by omega]; exact Int.le_refl _
  | succ n ih =>
    intro h
    have := ih (by omega)
    have s := (p_step (d := a + n) (by omega) (by omega)).1
    rw [show a + ((n + 1 : Nat) : Int) = a + n + 1 from by omega]
    exact Int.le_trans this s
theorem p_low : sq (-2047) = 1 := by decide +kernel
theorem p_top : sq 2047 = 4094 := by decide +kernel
theorem p_range {d : Int} (h0 : -2047 ≤ d) (h1 : d ≤ 2047) : 1 ≤ sq d ∧ sq d ≤ 4094 := by
  have a := p_in (-2047) (by decide) (d + 2047).toNat (by omega)
  have b := p_in d h0 (2047 - d).toNat (by omega)
  rw [show -2047 + ((d + 2047).toNat : Int) = d from by omega, p_low] at a
  rw [show d + ((2047 - d).toNat : Int) = 2047 from by omega, p_top] at b
  exact ⟨a, b⟩
theorem p_far {d : Int} (h : d > 2047) : sq d = 4095 := by unfold sq; rw [if_pos h]
theorem p_neg {d : Int} (h : d < -2047) : sq d = 0 := by unfold sq; rw [if_neg (by omega), if_pos h]
theorem p_all (d : Int) : 0 ≤ sq d ∧ sq d ≤ 4095 := by
  by_cases a : d > 2047
  · rw [p_far a]; omega
  · by_cases b : d < -2047
    · rw [p_neg b]; omega
    · have := p_range (d := d) (by omega) (by omega); omega
theorem p_mono {d e : Int} (h : d ≤ e) : sq d ≤ sq e := by
  by_cases a : e > 2047
  · rw [p_far a]; exact (p_all d).2
  · by_cases b : d < -2047
    · rw [p_neg b]; exact (p_all e).1
    · have := p_in d (by omega) (e - d).toNat (by omega)
      rwa [show d + ((e - d).toNat : Int) = e from by omega] at this
theorem p_cut (q : Nat → Bool) (n k : Nat) (hk : k ≤ n) (h0 : ∀ t, t < k → q t = true) (h1 : ∀ t, k ≤ t → t < n → q t = false) : (List.range n).countP q = k := by
  induction n with
  | zero => obtain rfl : k = 0 := by omega
            rfl
  | succ n ih =>
    rw [List.range_succ, List.countP_append]
    by_cases e : k = n + 1
    · subst e
      have : (List.range n).countP q = n := by
        rw [List.countP_eq_length.mpr (fun a ha => h0 a (by have := List.mem_range.mp ha; omega)), List.length_range]
      rw [this]
      simp [h0 n (by omega)]
    · rw [ih (by omega) (fun t a b => h1 t a (by omega))]
      simp [h1 n (by omega) (by omega)]
theorem p_less (p : Int) (k : Nat) (hk : k ≤ 4094) (h0 : k = 0 ∨ sq ((k : Int) - 1 - 2047) < p) (h1 : k = 4094 ∨ p ≤ sq ((k : Int) - 2047)) : lessS p = k := by
  unfold lessS
  refine p_cut _ 4094 k hk (fun t ht => decide_eq_true ?_) (fun t a b => decide_eq_false ?_)
  · have := p_mono (d := (t : Int) - 2047) (e := (k : Int) - 1 - 2047) (by omega)
    rcases h0 with h0 | h0 <;> omega
  · have := p_mono (d := (k : Int) - 2047) (e := (t : Int) - 2047) (by omega)
    rcases h1 with h1 | h1 <;> omega
theorem alive_is : bitloftlaw04_alive.f = some true := rfl
theorem p_le (p : Int) : lessS p ≤ 4094 := by
  have := List.countP_le_length (p := fun i : Nat => decide (sq ((i : Int) - 2047) < p)) (l := List.range 4094)
  rw [List.length_range] at this
  exact this
theorem p_imp {p q : Int} (h : p ≤ q) : lessS p ≤ lessS q := by
  unfold lessS
  exact List.countP_mono_left (fun x _ hx => decide_eq_true (by have := of_decide_eq_true hx; omega))
theorem p_ex (p : Int) (n : Nat) : ∃ k, k ≤ n ∧ (∀ t : Nat, t < k → sq ((t : Int) - 2047) < p) ∧ (∀ t : Nat, k ≤ t → t < n → p ≤ sq ((t : Int) - 2047)) := by
  induction n with
  | zero => exact ⟨0, Nat.le_refl _, fun t h => by omega, fun t _ h => by omega⟩
  | succ n ih =>
    obtain ⟨k, hk, h0, h1⟩ := ih
    by_cases c : sq ((n : Int) - 2047) < p
    · exact ⟨n + 1, Nat.le_refl _, fun t ht => Int.lt_of_le_of_lt (p_mono (by omega)) c, fun t a b => by omega⟩
    · exact ⟨k, by omega, h0, fun t a b => by
        by_cases e : t = n
        · subst e; omega
        · exact h1 t a (by omega)⟩
/-- p is at most the squashed number exactly if the stretched one is at most it. -/
theorem p_iff {p d : Int} (h0 : -2047 ≤ d) (h1 : d ≤ 2047) (hp : p ≤ 4094) : p ≤ sq d ↔ (lessS p : Int) - 2047 ≤ d := by
  obtain ⟨k, hk, a0, a1⟩ := p_ex p 4094
  have e : lessS p = k := p_cut _ 4094 k hk (fun t ht => decide_eq_true (a0 t ht)) (fun t a b => decide_eq_false (by have := a1 t a b; omega))
  rw [e]
  by_cases c : d = 2047
  · subst c; rw [p_top]; omega
  · obtain ⟨n, hn⟩ : ∃ n : Nat, d = (n : Int) - 2047 := ⟨(d + 2047).toNat, by omega⟩
    subst hn
    constructor
    · intro h
      by_cases z : n < k
      · have := a0 n z; omega
      · omega
    · intro h
      exact a1 n (by omega) (by omega)
theorem SquashBack : bitloftlaw04_SquashBack.Pure := by
  intro d p q hd hp hq
  replace hd := bounds_i32 hd
  refine ⟨9, ?_⟩
  have lp := p_le p
  have lq := p_le q
  have j1t : ∀ k x y z, bitloftlaw04_SquashBack.j1 (k + 1) x y z true = some true := by
    intro k x y z
    simp only [bitloftlaw04_SquashBack.j1]
    rw [if_pos trivial, alive_is]
    rfl
  have sf : ∀ z, squash_Stretch.f z = some ((lessS z : Int) - 2047) := fun z => rfl
  have jf : bitloftlaw04_SquashBack.j0 9 d p ((lessS p : Int) - 2047) false = some true := by
    simp only [bitloftlaw04_SquashBack.j0]
    rw [if_neg (by decide)]
    by_cases c : d < -2047
    · rw [if_pos c]; exact j1t ..
    rw [if_neg c]
    by_cases e : d > 2047
    · rw [if_pos e]; exact j1t ..
    rw [if_neg e]
    by_cases g : p > 4094
    · rw [decide_eq_true g]; exact j1t ..
    rw [decide_eq_false g]
    have i1 := p_iff (p := p) (d := d) (by omega) (by omega) (by omega)
    have i2 := (p_iff (p := p) (d := (lessS p : Int) - 2047) (by omega) (by omega) (by omega)).mpr (Int.le_refl _)
    have r := p_range (d := d) (by omega) (by omega)
    have i3 := (p_iff (p := sq d) (d := d) (by omega) (by omega) r.2).mp (Int.le_refl _)
    simp only [bitloftlaw04_SquashBack.j1]
    rw [if_neg (by decide), p_f, Option.bind_some, show decide (p ≤ sq d) = decide ((lessS p : Int) - 2047 ≤ d) from decide_eq_decide.mpr i1, if_pos (by simp), p_f, Option.bind_some, if_pos i2, Option.bind_some, sf, Option.bind_some, if_pos i3, alive_is, Option.bind_some]
    simp only [bitloftlaw04_SquashBack.j2]
  unfold bitloftlaw04_SquashBack.f
  rw [sf, Option.bind_some, sf, Option.bind_some, if_neg (by omega), if_neg (by omega)]
  by_cases c : p ≤ q
  · have m := p_imp c
    rw [if_pos c, if_neg (by omega)]
    by_cases e : p ≥ q
    · have m2 := p_imp e
      rw [if_pos e, decide_eq_false (by omega)]
      exact jf
    · rw [if_neg e]; exact jf
  · have m2 := p_imp (show q ≤ p by omega)
    rw [if_neg c, if_pos (by omega), decide_eq_false (by omega)]
    exact jf
end Go.Proofs.YtimjmbaonkpmpaaDoor.Pure
