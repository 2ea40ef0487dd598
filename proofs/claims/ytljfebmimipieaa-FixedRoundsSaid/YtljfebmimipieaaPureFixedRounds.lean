/- FixedRounds: for all numbers of their kinds (the law itself looks at numbers of at most 2^61 and at most 60 places) the law returns true; no condition. -/
import Derived.Test.YtljfebmimipieaaXFixedRoundsx2
import Derived.OpenShut
set_option linter.unusedVariables false
set_option linter.unusedSimpArgs false
namespace Go.Proofs.Ytljfebmimipieaa.Pure
open Go.RowKit Go.Proofs.Ytljfebmimipieaa.XFixedRounds Go.Proofs.YtljfebmimipieaaW.PrintWords Go.Proofs.YtljfebmimipieaaW.PrintLast
theorem w32 {x : Int} (h : -2147483648 ≤ x ∧ x ≤ 2147483647) : wrap32 x = x := by unfold wrap32; omega
theorem w64 {x : Int} (h : -9223372036854775808 ≤ x ∧ x ≤ 9223372036854775807) : wrap64 x = x := by unfold wrap64; omega
theorem and1_i64 (m : Int) : Go.bits .and .i64 m 1 = m % 2 := by
  show IntKind.i64.wrap (((BitVec.ofInt 64 m &&& BitVec.ofInt 64 1).toNat : Nat) : Int) = m % 2
  rw [BitVec.toNat_and, BitVec.toNat_ofInt, show (BitVec.ofInt 64 1).toNat = 1 from rfl, Nat.and_one_is_mod, IntKind.wrap_i64]
  omega
theorem pow_pos_ (k : Nat) : (0 : Int) < 2 ^ k := Int.pow_pos (by decide)
theorem div_pow (n : Int) (k : Nat) : n / 2 ^ (k + 1) = n / 2 ^ k / 2 := by
  rw [Int.pow_succ, Int.ediv_ediv_of_nonneg (Int.le_of_lt (pow_pos_ k))]
theorem div_pow_le (n : Int) (k : Nat) (h0 : -9223372036854775808 ≤ n) (h1 : n ≤ 9223372036854775807) : -9223372036854775808 ≤ n / 2 ^ k ∧ n / 2 ^ k ≤ 9223372036854775807 := by
  induction k with
  | zero => simp; omega
  | succ k ih => rw [div_pow]; omega
/-- n, rounded by k places. -/
def rnd (n : Int) : Nat → Int
  | 0 => n
  | k + 1 => (n / 2 ^ k + 1) / 2
theorem round_in {n k : Int} (j : Nat) (h0 : -9223372036854775808 ≤ n) (h1 : n ≤ 9223372036854775807) (k0 : 0 ≤ k) (k1 : k ≤ 62) : fixed_Round.f (j + 1) n k = some (rnd n k.toNat, 0) := by
  unfold fixed_Round.f
  rw [if_neg (by omega), decide_eq_false (by omega)]
  simp only [fixed_Round.j0]
  rw [if_neg (by decide)]
  by_cases c : k = 0
  · subst c
    rw [if_pos rfl]
    rfl
  · obtain ⟨q, rfl⟩ : ∃ q : Nat, k = ((q + 1 : Nat) : Int) := ⟨(k - 1).toNat, by omega⟩
    rw [if_neg c, if_pos k0, w64 (x := ((q + 1 : Nat) : Int) - 1) (by omega), if_pos (by omega), and1_i64]
    have e1 : shr .i64 n ((q + 1 : Nat) : Int) = n / 2 ^ q / 2 := by
      unfold shr
      rw [show min ((q + 1 : Nat) : Int).toNat IntKind.i64.bits = q + 1 from by show min _ 64 = _; omega, div_pow]
    have e2 : shr .i64 n (((q + 1 : Nat) : Int) - 1) = n / 2 ^ q := by
      unfold shr
      rw [show min (((q + 1 : Nat) : Int) - 1).toNat IntKind.i64.bits = q from by show min _ 64 = _; omega]
    rw [e1, e2, show ((q + 1 : Nat) : Int).toNat = q + 1 from by omega]
    have b := div_pow_le n q h0 h1
    have e3 : n / 2 ^ q / 2 + n / 2 ^ q % 2 = (n / 2 ^ q + 1) / 2 := by omega
    rw [e3]
    have b2 : -9223372036854775808 ≤ (n / 2 ^ q + 1) / 2 ∧ (n / 2 ^ q + 1) / 2 ≤ 9223372036854775807 := by omega
    rw [w64 b2]
    rfl
theorem round_out {n k : Int} (j : Nat) (h : k < 0 ∨ 62 < k) : fixed_Round.f (j + 1) n k = some (0, 2) := by
  unfold fixed_Round.f
  by_cases c : k < 0
  · rw [if_pos c]
    simp only [fixed_Round.j0, if_true]
  · rw [if_neg c, decide_eq_true (by omega)]
    simp only [fixed_Round.j0, if_true]
theorem alive_holds (k : Nat) (h : 40 ≤ k) : bitloftlaw03_alive.f k = some true := at_rounds bitloftlaw03_alive.mono h (by decide +kernel)
theorem shl_one {k : Int} (k0 : 0 ≤ k) (k1 : k ≤ 60) : shl .i64 1 k = 2 ^ k.toNat := by
  unfold shl
  rw [show min k.toNat IntKind.i64.bits = k.toNat from by show min _ 64 = _; omega, Int.one_mul]
  have a : (2 : Int) ^ k.toNat ≤ 2 ^ 60 := by
    have h := Nat.pow_le_pow_right (n := 2) (by decide) (show k.toNat ≤ 60 by omega)
    have e : ((2 ^ k.toNat : Nat) : Int) ≤ ((2 ^ 60 : Nat) : Int) := Int.ofNat_le.mpr h
    simpa using e
  have b := pow_pos_ k.toNat
  rw [IntKind.wrap_i64]
  have : (2 : Int) ^ 60 = 1152921504606846976 := by decide
  omega
theorem most_is (j : Nat) (h : j ≤ 60) : ∃ T : Int, 2305843009213693952 = T * 2 ^ j ∧ Int.tdiv 2305843009213693952 (2 ^ j) = T ∧ 1 ≤ T ∧ T ≤ 2305843009213693952 := by
  have p := pow_pos_ j
  have e : (2305843009213693952 : Int) = 2 ^ (61 - j) * 2 ^ j := by
    rw [← Int.pow_add, show 61 - j + j = 61 from by omega]
    decide
  have q := pow_pos_ (61 - j)
  refine ⟨2 ^ (61 - j), e, ?_, by omega, ?_⟩
  · rw [Int.tdiv_eq_ediv_of_nonneg (by decide), e, Int.mul_ediv_cancel _ (by omega)]
  · have : 2 ^ (61 - j) * 1 ≤ 2 ^ (61 - j) * (2 : Int) ^ j := Int.mul_le_mul_of_nonneg_left (by omega) (by omega)
    omega
/-- How far a rounded number is off. -/
theorem rnd_off (n : Int) (j : Nat) : -(2 : Int) ^ j ≤ 2 * (n - rnd n j * 2 ^ j) ∧ 2 * (n - rnd n j * 2 ^ j) < 2 ^ j := by
  cases j with
  | zero => simp [rnd]
  | succ q =>
    have p := pow_pos_ q
    rw [Int.pow_succ]
    simp only [rnd]
    generalize (2 : Int) ^ q = u at *
    have e1 : u * (n / u) + n % u = n := Int.mul_ediv_add_emod ..
    have e2 : 0 ≤ n % u := Int.emod_nonneg _ (by omega)
    have e3 : n % u < u := Int.emod_lt_of_pos _ p
    generalize n / u = a at *
    have e4 : ∃ x, (a + 1) / 2 = x ∧ (a = 2 * x - 1 ∨ a = 2 * x) := ⟨_, rfl, by omega⟩
    obtain ⟨x, hx, h⟩ := e4
    rw [hx]
    have e5 : x * (u * 2) = 2 * (u * x) := by rw [Int.mul_comm x, Int.mul_assoc, Int.mul_comm 2 x, ← Int.mul_assoc, Int.mul_comm]
    rw [e5]
    rcases h with rfl | rfl
    · have : u * (2 * x - 1) = 2 * (u * x) - u := by rw [Int.mul_sub, Int.mul_one, ← Int.mul_assoc, Int.mul_comm u 2, Int.mul_assoc]
      omega
    · have : u * (2 * x) = 2 * (u * x) := by rw [← Int.mul_assoc, Int.mul_comm u 2, Int.mul_assoc]
      omega
theorem rnd_mono {m n : Int} (h : m ≤ n) (j : Nat) : rnd m j ≤ rnd n j := by
  cases j with
  | zero => exact h
  | succ q =>
    have := Int.ediv_le_ediv (pow_pos_ q) h
    simp only [rnd]
    omega
theorem rnd_bound {n T : Int} (j : Nat) (h0 : -(T * 2 ^ j) ≤ n) (h1 : n ≤ T * 2 ^ j) : -T ≤ rnd n j ∧ rnd n j ≤ T := by
  have o := rnd_off n j
  have p := pow_pos_ j
  generalize rnd n j = x at *
  generalize (2 : Int) ^ j = u at *
  constructor
  · apply Int.not_lt.mp
    intro c
    have a : x * u ≤ (-T - 1) * u := Int.mul_le_mul_of_nonneg_right (by omega) (by omega)
    have b : (-T - 1) * u = -(T * u) - u := by rw [Int.sub_mul, Int.one_mul, Int.neg_mul]
    omega
  · apply Int.not_lt.mp
    intro c
    have a : (T + 1) * u ≤ x * u := Int.mul_le_mul_of_nonneg_right (by omega) (by omega)
    have b : (T + 1) * u = T * u + u := by rw [Int.add_mul, Int.one_mul]
    omega
theorem FixedRounds : bitloftlaw03_FixedRounds.Pure := by
  intro n m k hn hm hk
  refine ⟨100, ?_⟩
  have jt : bitloftlaw03_FixedRounds.j0 100 n m k true = some true := by
    simp only [bitloftlaw03_FixedRounds.j0, if_true]
    rw [alive_holds _ (by omega)]
    rfl
  unfold bitloftlaw03_FixedRounds.f
  by_cases c1 : n > 2305843009213693952
  · rw [if_pos c1, jt]
  rw [if_neg c1]
  by_cases c2 : n < -2305843009213693952
  · rw [if_pos c2, jt]
  rw [if_neg c2]
  by_cases c3 : m > 2305843009213693952
  · rw [if_pos c3, jt]
  rw [if_neg c3]
  by_cases c4 : m < -2305843009213693952
  · rw [if_pos c4, jt]
  rw [if_neg c4]
  by_cases c5 : k < 0
  · rw [if_pos c5, jt]
  rw [if_neg c5]
  by_cases c6 : k > 60
  · rw [decide_eq_true c6, jt]
  rw [decide_eq_false c6]
  simp only [bitloftlaw03_FixedRounds.j0]
  rw [if_neg (by decide), round_in 98 (by omega) (by omega) (by omega) (by omega), round_in 98 (by omega) (by omega) (by omega) (by omega), shl_one (by omega) (by omega)]
  simp only [Option.bind_some, if_true, alive_holds 99 (by omega)]
  obtain ⟨T, t1, t2, t3, t4⟩ := most_is k.toNat (by omega)
  have x1 := rnd_bound (n := n) k.toNat (T := T) (by omega) (by omega)
  have o := rnd_off n k.toNat
  have p := pow_pos_ k.toNat
  have pm : (2 : Int) ^ k.toNat ≤ 2305843009213693952 := by
    have : 1 * (2 : Int) ^ k.toNat ≤ T * 2 ^ k.toNat := Int.mul_le_mul_of_nonneg_right t3 (by omega)
    omega
  have mono : n ≤ m → rnd n k.toNat ≤ rnd m k.toNat := fun h => rnd_mono h _
  rw [t2]
  generalize (2 : Int) ^ k.toNat = u at *
  generalize rnd n k.toNat = x at *
  generalize rnd m k.toNat = y at *
  rw [w64 (x := T) (by omega), w64 (x := -T) (by omega), w64 (x := x * u) (by omega), w64 (x := n - x * u) (by omega), w64 (x := 2 * (n - x * u)) (by omega), w64 (x := -u) (by omega)]
  rw [if_pos (by omega)]
  by_cases h : n ≤ m
  · have := mono h
    rw [if_pos h, if_neg (by omega), if_neg (by omega), if_neg (by omega), if_neg (by omega), if_pos (by omega), if_pos (by omega)]
  · rw [if_neg h, if_neg (by omega), if_neg (by omega), if_neg (by omega), if_pos (by omega), if_pos (by omega)]
end Go.Proofs.Ytljfebmimipieaa.Pure
