/- FixedMakes: for all numbers of their kinds the program's Sat, Add, Sub, Mul and Round return what the reference's return; no condition. -/
import Derived.Test.YtljfebmimipieaaXFixedMakesx1
import Derived.OpenShut
set_option linter.unusedVariables false
set_option linter.unusedSimpArgs false
namespace Go.Proofs.Ytljfebmimipieaa.Pure
open Go.RowKit Go.Proofs.Ytljfebmimipieaa.XFixedMakes Go.Proofs.YtljfebmimipieaaW.PrintWords Go.Proofs.YtljfebmimipieaaW.PrintLast
theorem w32 {x : Int} (h : -2147483648 ≤ x ∧ x ≤ 2147483647) : wrap32 x = x := by unfold wrap32; omega
theorem w64 {x : Int} (h : -9223372036854775808 ≤ x ∧ x ≤ 9223372036854775807) : wrap64 x = x := by unfold wrap64; omega
theorem and1_i64 (m : Int) : Go.bits .and .i64 m 1 = m % 2 := by
  show IntKind.i64.wrap (((BitVec.ofInt 64 m &&& BitVec.ofInt 64 1).toNat : Nat) : Int) = m % 2
  rw [BitVec.toNat_and, BitVec.toNat_ofInt, show (BitVec.ofInt 64 1).toNat = 1 from rfl, Nat.and_one_is_mod, IntKind.wrap_i64]
  omega
theorem pow_pos_ (k : Nat) : (0 : Int) < 2 ^ k := Int.pow_pos (by decide)
theorem div_pow (n : Int) (k : Nat) : n / 2 ^ (k + 1) = n / 2 ^ k / 2 := by
  rw [Int.pow_succ, Int.ediv_ediv_of_nonneg (Int.le_of_lt (pow_pos_ k))]
theorem div_pow_le (n : Int) (k : Nat) (h0 : -9223372036854775808 ≤ n) (h1 : n ≤ 9223372036854775807) : -9223372036854775808 ≤ n / 2 ^ k ∧ n / 2 ^ k ≤ 9223372036854775807 := by
  induction k with
  | zero => simp; omega
  | succ k ih => rw [div_pow]; omega
/-- n, rounded by k places. -/
def rnd (n : Int) : Nat → Int
  | 0 => n
  | k + 1 => (n / 2 ^ k + 1) / 2
theorem round_in {n k : Int} (j : Nat) (h0 : -9223372036854775808 ≤ n) (h1 : n ≤ 9223372036854775807) (k0 : 0 ≤ k) (k1 : k ≤ 62) : fixed_Round.f (j + 1) n k = some (rnd n k.toNat, 0) := by
  unfold fixed_Round.f
  rw [if_neg (by omega), decide_eq_false (by omega)]
  simp only [fixed_Round.j0]
  rw [if_neg (by decide)]
  by_cases c : k = 0
  · subst c
    rw [if_pos rfl]
    rfl
  · obtain ⟨q, rfl⟩ : ∃ q : Nat, k = ((q + 1 : Nat) : Int) := ⟨(k - 1).toNat, by omega⟩
    rw [if_neg c, if_pos k0, w64 (x := ((q + 1 : Nat) : Int) - 1) (by omega), if_pos (by omega), and1_i64]
    have e1 : shr .i64 n ((q + 1 : Nat) : Int) = n / 2 ^ q / 2 := by
      unfold shr
      rw [show min ((q + 1 : Nat) : Int).toNat IntKind.i64.bits = q + 1 from by show min _ 64 = _; omega, div_pow]
    have e2 : shr .i64 n (((q + 1 : Nat) : Int) - 1) = n / 2 ^ q := by
      unfold shr
      rw [show min (((q + 1 : Nat) : Int) - 1).toNat IntKind.i64.bits = q from by show min _ 64 = _; omega]
    rw [e1, e2, show ((q + 1 : Nat) : Int).toNat = q + 1 from by omega]
    have b := div_pow_le n q h0 h1
    have e3 : n / 2 ^ q / 2 + n / 2 ^ q % 2 = (n / 2 ^ q + 1) / 2 := by omega
    rw [e3]
    have b2 : -9223372036854775808 ≤ (n / 2 ^ q + 1) / 2 ∧ (n / 2 ^ q + 1) / 2 ≤ 9223372036854775807 := by omega
    rw [w64 b2]
    rfl
theorem round_out {n k : Int} (j : Nat) (h : k < 0 ∨ 62 < k) : fixed_Round.f (j + 1) n k = some (0, 2) := by
  unfold fixed_Round.f
  by_cases c : k < 0
  · rw [if_pos c]
    simp only [fixed_Round.j0, if_true]
  · rw [if_neg c, decide_eq_true (by omega)]
    simp only [fixed_Round.j0, if_true]
theorem down_is {n : Int} (h0 : -9223372036854775808 ≤ n) (h1 : n ≤ 9223372036854775807) : bitloftref03_Down.f n = some (n / 2) := by
  unfold bitloftref03_Down.f
  by_cases c : n < 0
  · have t1 : Int.tdiv n 2 = -((-n) / 2) := by
      have := Int.neg_tdiv n 2
      rw [Int.tdiv_eq_ediv_of_nonneg (by omega)] at this
      omega
    have t2 : Int.tmod n 2 = -((-n) % 2) := by
      have := Int.neg_tmod n 2
      rw [Int.tmod_eq_emod_of_nonneg (by omega)] at this
      omega
    rw [if_pos c, t1, t2]
    by_cases z : -(-n % 2) = 0
    · rw [if_pos z, w64 (by omega)]
      congr 1
      omega
    · rw [if_neg z, w64 (x := -(-n / 2)) (by omega), w64 (by omega)]
      congr 1
      omega
  · rw [if_neg c, Int.tdiv_eq_ediv_of_nonneg (by omega), w64 (by omega)]
theorem tmod2 (n : Int) : (Int.tmod n 2 = 0) ↔ n % 2 = 0 := by
  by_cases c : n < 0
  · have t2 : Int.tmod n 2 = -((-n) % 2) := by
      have := Int.neg_tmod n 2
      rw [Int.tmod_eq_emod_of_nonneg (by omega)] at this
      omega
    omega
  · rw [Int.tmod_eq_emod_of_nonneg (by omega)]
theorem half_is {n : Int} (h0 : -9223372036854775808 ≤ n) (h1 : n ≤ 9223372036854775807) : (if Int.tmod n 2 = 0 then some (wrap64 (Int.tdiv n 2)) else (bitloftref03_Down.f n).bind fun t => some (wrap64 (t + 1))) = some ((n + 1) / 2) := by
  by_cases z : Int.tmod n 2 = 0
  · rw [if_pos z]
    have z' := (tmod2 n).mp z
    have d := down_is h0 h1
    unfold bitloftref03_Down.f at d
    have : (if n < 0 then some (wrap64 (Int.tdiv n 2)) else some (wrap64 (Int.tdiv n 2))) = some (n / 2) := by
      rw [if_pos z] at d
      exact d
    rw [ite_self] at this
    rw [this]
    congr 1
    omega
  · rw [if_neg z, down_is h0 h1]
    have z' : ¬ n % 2 = 0 := fun h => z ((tmod2 n).mpr h)
    simp only [Option.bind_some]
    rw [w64 (by omega)]
    congr 1
    omega
theorem rounded_go {q : Nat} (hq : q ≤ 62) (d : Nat) : ∀ (j : Nat) (n i : Int), -9223372036854775808 ≤ n → n ≤ 9223372036854775807 → 1 ≤ i → i + d = q + 1 → d < j →
    bitloftref03_Rounded.l0 j n ((q + 1 : Nat) : Int) i = some ((n / 2 ^ d + 1) / 2) := by
  induction d with
  | zero =>
    intro j n i h0 h1 hi hd hj
    obtain ⟨j, rfl⟩ : ∃ m, j = m + 1 := ⟨j - 1, by omega⟩
    simp only [bitloftref03_Rounded.l0]
    rw [if_neg (by omega), half_is h0 h1]
    simp
  | succ d ih =>
    intro j n i h0 h1 hi hd hj
    obtain ⟨j, rfl⟩ : ∃ m, j = m + 1 := ⟨j - 1, by omega⟩
    simp only [bitloftref03_Rounded.l0]
    rw [if_pos (by omega), down_is h0 h1]
    simp only [Option.bind_some]
    rw [w64 (x := i + 1) (by omega), ih j (n / 2) (i + 1) (by omega) (by omega) (by omega) (by omega) (by omega)]
    have : n / 2 ^ (d + 1) = n / 2 / 2 ^ d := by
      rw [Int.pow_succ, Int.mul_comm, Int.ediv_ediv_of_nonneg (by decide)]
    rw [this]
theorem ref_round {n k : Int} (h0 : -9223372036854775808 ≤ n) (h1 : n ≤ 9223372036854775807) (k0 : 0 ≤ k) (k1 : k ≤ 62) : bitloftref03_Round.f 100 n k = some (rnd n k.toNat, 0) := by
  unfold bitloftref03_Round.f bitloftref03_Rounded.f
  rw [if_neg (by omega), if_neg (by omega)]
  by_cases c : k = 0
  · subst c
    rfl
  · obtain ⟨q, rfl⟩ : ∃ q : Nat, k = ((q + 1 : Nat) : Int) := ⟨(k - 1).toNat, by omega⟩
    rw [if_neg c, rounded_go (by omega) q 100 n 1 h0 h1 (by omega) (by omega) (by omega)]
    rfl
theorem ref_round_out {n k : Int} (j : Nat) (h : k < 0 ∨ 62 < k) : bitloftref03_Round.f j n k = some (0, 2) := by
  unfold bitloftref03_Round.f
  by_cases c : k < 0
  · rw [if_pos c]
  · rw [if_neg c, if_pos (by omega)]
theorem sat_same (n : Int) : fixed_Sat.f n = bitloftref03_Sat.f n := by
  unfold fixed_Sat.f bitloftref03_Sat.f mn mx
  by_cases c : n < -2147483648
  · rw [if_pos c, if_pos c, if_neg (by decide)]
  · rw [if_neg c, if_neg c]
    by_cases d : n > 2147483647
    · rw [if_pos d, if_pos d]
    · rw [if_neg d, if_neg d, w32 (by omega)]
theorem sat_some (n : Int) : ∃ r, bitloftref03_Sat.f n = some r := by
  unfold bitloftref03_Sat.f
  repeat' split
  all_goals exact ⟨_, rfl⟩
theorem FixedMakes : bitloftlaw03_FixedMakes.Pure := by
  intro n k a b hn hk ha hb
  replace hn := bounds_i64 hn
  refine ⟨100, ?_⟩
  have R : ∃ p, fixed_Round.f 100 n k = some p ∧ bitloftref03_Round.f 100 n k = some p := by
    by_cases c : 0 ≤ k ∧ k ≤ 62
    · exact ⟨_, round_in 99 hn.1 hn.2 c.1 c.2, ref_round hn.1 hn.2 c.1 c.2⟩
    · exact ⟨_, round_out 99 (by omega), ref_round_out 100 (by omega)⟩
  obtain ⟨p, r1, r2⟩ := R
  unfold bitloftlaw03_FixedMakes.f fixed_Add.f bitloftref03_Add.f fixed_Sub.f bitloftref03_Sub.f fixed_Mul.f bitloftref03_Mul.f
  rw [r1, r2]
  simp only [sat_same, Option.bind_some]
  obtain ⟨s1, e1⟩ := sat_some n
  obtain ⟨s2, e2⟩ := sat_some (wrap64 (wrap64 a + wrap64 b))
  obtain ⟨s3, e3⟩ := sat_some (wrap64 (wrap64 a - wrap64 b))
  obtain ⟨s4, e4⟩ := sat_some (wrap64 (wrap64 a * wrap64 b))
  simp [e1, e2, e3, e4]
end Go.Proofs.Ytljfebmimipieaa.Pure
