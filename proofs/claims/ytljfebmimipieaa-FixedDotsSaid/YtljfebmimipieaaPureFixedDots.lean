/- FixedDots: for all rows (the law itself looks at rows of at most 40 numbers) the law returns true; no condition. -/
import Derived.Test.YtljfebmimipieaaXFixedDotsx1
import Derived.OpenShut
set_option linter.unusedVariables false
set_option linter.unusedSimpArgs false
namespace Go.Proofs.Ytljfebmimipieaa.Pure
open Go.RowKit Go.Proofs.Ytljfebmimipieaa.XFixedDots Go.Proofs.YtljfebmimipieaaW.PrintWords Go.Proofs.YtljfebmimipieaaW.PrintLast
theorem w32 {x : Int} (h : -2147483648 ≤ x ∧ x ≤ 2147483647) : wrap32 x = x := by unfold wrap32; omega
theorem w64 {x : Int} (h : -9223372036854775808 ≤ x ∧ x ≤ 9223372036854775807) : wrap64 x = x := by unfold wrap64; omega
/-- The exact sum of the first n products. -/
def dsum (a b : List Int) : Nat → Int
  | 0 => 0
  | n + 1 => dsum a b n + a.getD n 0 * b.getD n 0
/-- A number, kept within 32 bits. -/
def clamp (n : Int) : Int := if n < -2147483648 then -2147483648 else if n > 2147483647 then 2147483647 else n
def In32 (l : List Int) : Prop := ∀ n : Nat, -2147483648 ≤ l.getD n 0 ∧ l.getD n 0 ≤ 2147483647
theorem in32 {l : List Int} (h : ∀ x ∈ l, (Lit.int .i32 x).wf = true) : In32 l := by
  intro n
  by_cases c : n < l.length
  · have := bounds_i32 (h l[n] (List.getElem_mem c))
    simpa [List.getD_eq_getElem?_getD, c] using this
  · have : l.getD n 0 = 0 := by simp [List.getD_eq_getElem?_getD, Nat.le_of_not_lt c]
    omega
theorem prod_in {x y : Int} (hx : -2147483648 ≤ x ∧ x ≤ 2147483647) (hy : -2147483648 ≤ y ∧ y ≤ 2147483647) : -4611686018427387904 ≤ x * y ∧ x * y ≤ 4611686018427387904 := by
  by_cases c : 0 ≤ y
  · have a1 : -2147483648 * y ≤ x * y := Int.mul_le_mul_of_nonneg_right hx.1 c
    have a2 : x * y ≤ 2147483647 * y := Int.mul_le_mul_of_nonneg_right hx.2 c
    omega
  · have a1 : x * y ≤ -2147483648 * y := Int.mul_le_mul_of_nonpos_right hx.1 (by omega)
    have a2 : 2147483647 * y ≤ x * y := Int.mul_le_mul_of_nonpos_right hx.2 (by omega)
    omega
theorem dsum_in {a b : List Int} (ha : In32 a) (hb : In32 b) (n : Nat) : -4611686018427387904 * (n : Int) ≤ dsum a b n ∧ dsum a b n ≤ 4611686018427387904 * (n : Int) := by
  induction n with
  | zero => simp [dsum]
  | succ n ih =>
    have p := prod_in (ha n) (hb n)
    simp only [dsum]
    omega
theorem sat_is (n : Int) : fixed_Sat.f n = some (clamp n) := by
  unfold fixed_Sat.f mn mx clamp
  by_cases c : n < -2147483648
  · rw [if_pos c, if_pos c, if_neg (by decide)]
  · rw [if_neg c, if_neg c]
theorem dot_go {a b : List Int} (ha : In32 a) (hb : In32 b) (hl : b.length = a.length) (hm : a.length ≤ 16) (d : Nat) : ∀ (k i : Nat) (hi lo : Int), i + d = a.length → d + 2 ≤ k → 0 ≤ lo → lo < 18446744073709551616 → hi * 18446744073709551616 + lo = dsum a b i →
    fixed_Dot.l0 k b hi lo a (a.length : Int) (i : Int) = some (clamp (dsum a b a.length), 0) := by
  induction d with
  | zero =>
    intro k i hi lo hd hk l0 l1 hs
    obtain ⟨k, rfl⟩ : ∃ m, k = m + 2 := ⟨k - 2, by omega⟩
    obtain rfl : i = a.length := by omega
    have S := dsum_in ha hb a.length
    generalize dsum a b a.length = s at hs S ⊢
    simp only [fixed_Dot.l0]
    rw [if_neg (by omega)]
    have jt : fixed_Dot.j1 (k + 1) hi lo true = some (2147483647, 0) := by simp only [fixed_Dot.j1, if_true]
    have jf : (hi < 0 ∨ (hi = 0 ∧ lo ≤ 9223372036854775807)) → fixed_Dot.j1 (k + 1) hi lo false = some (clamp s, 0) := by
      intro h
      simp only [fixed_Dot.j1]
      rw [if_neg (by decide), sat_is]
      simp only [Option.bind_some]
      by_cases c1 : hi < -1
      · rw [if_pos c1]
        unfold clamp
        rw [if_pos (by omega)]
      · rw [if_neg c1]
        by_cases c2 : hi = -1
        · rw [if_pos c2]
          by_cases c3 : lo ≤ 9223372036854775807
          · rw [if_pos c3]
            unfold clamp
            rw [if_pos (by omega)]
          · rw [if_neg c3, show wrap64 lo = s from by unfold wrap64; omega]
        · rw [if_neg c2, show wrap64 lo = s from by unfold wrap64; omega]
    by_cases c : hi > 0
    · rw [if_pos c, jt]
      unfold clamp
      rw [if_neg (by omega), if_pos (by omega)]
    · rw [if_neg c]
      by_cases z : hi = 0
      · rw [if_pos z]
        by_cases y : lo > 9223372036854775807
        · rw [decide_eq_true y, jt]
          unfold clamp
          rw [if_neg (by omega), if_pos (by omega)]
        · rw [decide_eq_false y, jf (by omega)]
      · rw [if_neg z, jf (by omega)]
  | succ d ih =>
    intro k i hi lo hd hk l0 l1 hs
    obtain ⟨k, rfl⟩ : ∃ m, k = m + 1 := ⟨k - 1, by omega⟩
    have S := dsum_in ha hb i
    have p := prod_in (ha i) (hb i)
    have e1 : rd a (i : Int) = a.getD i 0 := by simp [rd]
    have e2 : rd b (i : Int) = b.getD i 0 := by simp [rd]
    simp only [fixed_Dot.l0]
    rw [if_pos (by omega), if_pos (by omega), if_pos (by omega), if_pos (by omega), e1, e2]
    have ba := ha i
    have bb := hb i
    have hd1 : dsum a b (i + 1) = dsum a b i + a.getD i 0 * b.getD i 0 := rfl
    generalize a.getD i 0 = x at *
    generalize b.getD i 0 = y at *
    rw [w64 (x := x) (by omega), w64 (x := y) (by omega), w64 (x := x * y) (by omega), w64 (x := (i : Int) + 1) (by omega)]
    generalize x * y = q at *
    have u : IntKind.u64.wrap q = q % 18446744073709551616 := by simp [IntKind.wrap, IntKind.bits, IntKind.signed]
    have r1 : bits_Add64.r1 lo (IntKind.u64.wrap q) 0 = (lo + q % 18446744073709551616) % 18446744073709551616 := by
      rw [u]; unfold bits_Add64.r1; omega
    have r2 : bits_Add64.r2 lo (IntKind.u64.wrap q) 0 = (lo + q % 18446744073709551616) / 18446744073709551616 := by
      rw [u]; unfold bits_Add64.r2; omega
    rw [r1, r2, w64 (x := hi + q / 9223372036854775808) (by omega), w64 (x := (lo + q % 18446744073709551616) / 18446744073709551616) (by omega), w64 (by omega)]
    exact ih k (i + 1) _ _ (by omega) (by omega) (by omega) (by omega) (by rw [hd1]; omega)
theorem dot_in {a b : List Int} (ha : In32 a) (hb : In32 b) (hl : a.length = b.length) (hm : a.length ≤ 16) (k : Nat) (hk : 18 ≤ k) : fixed_Dot.f k a b = some (clamp (dsum a b a.length), 0) := by
  unfold fixed_Dot.f
  have e : ¬ mx (a.length : Int) (b.length : Int) > 16 := by unfold mx; split <;> omega
  rw [if_neg e, if_pos (by omega)]
  exact dot_go ha hb hl.symm hm a.length k 0 0 0 (by omega) (by omega) (by omega) (by omega) (by simp [dsum])
theorem dot_many {a b : List Int} (h : 16 < a.length ∨ 16 < b.length) (k : Nat) : fixed_Dot.f k a b = some (0, 4) := by
  unfold fixed_Dot.f
  have e : mx (a.length : Int) (b.length : Int) > 16 := by unfold mx; split <;> omega
  rw [if_pos e]
theorem dot_arg {a b : List Int} (h : a.length ≤ 16) (h' : b.length ≤ 16) (hn : a.length ≠ b.length) (k : Nat) : fixed_Dot.f k a b = some (0, 2) := by
  unfold fixed_Dot.f
  have e : ¬ mx (a.length : Int) (b.length : Int) > 16 := by unfold mx; split <;> omega
  rw [if_neg e, if_neg (by omega)]
theorem tdm (x : Int) : x.tdiv 4294967296 * 4294967296 + x.tmod 4294967296 = x ∧ (-4294967296 < x.tmod 4294967296 ∧ x.tmod 4294967296 < 4294967296) := by
  have e1 := Int.mul_tdiv_add_tmod x 4294967296
  refine ⟨by omega, ?_⟩
  by_cases c : 0 ≤ x
  · rw [Int.tmod_eq_emod_of_nonneg c]; omega
  · have := Int.neg_tmod x 4294967296
    rw [Int.tmod_eq_emod_of_nonneg (by omega)] at this
    omega
theorem exact_go {a b : List Int} (ha : In32 a) (hb : In32 b) (hl : b.length = a.length) (hm : a.length ≤ 16) (d : Nat) : ∀ (k i : Nat) (t r : Int), i + d = a.length → d + 1 ≤ k → -4294967296 * (i : Int) ≤ r → r ≤ 4294967296 * (i : Int) → t * 4294967296 + r = dsum a b i →
    ∃ T R, bitloftref03_Exact.l0 k a b t r (i : Int) = some (T, R) ∧ T * 4294967296 + R = dsum a b a.length ∧ -4294967296 < R ∧ R < 4294967296 := by
  induction d with
  | zero =>
    intro k i t r hd hk r0 r1 hs
    obtain ⟨k, rfl⟩ : ∃ m, k = m + 1 := ⟨k - 1, by omega⟩
    obtain rfl : i = a.length := by omega
    have S := dsum_in ha hb a.length
    obtain ⟨m1, m2, m3⟩ := tdm r
    refine ⟨t + r.tdiv 4294967296, r.tmod 4294967296, ?_, by omega, m2, m3⟩
    simp only [bitloftref03_Exact.l0]
    rw [if_neg (by omega), w64 (x := r.tdiv 4294967296) (by omega), w64 (by omega)]
  | succ d ih =>
    intro k i t r hd hk r0 r1 hs
    obtain ⟨k, rfl⟩ : ∃ m, k = m + 1 := ⟨k - 1, by omega⟩
    have S := dsum_in ha hb i
    have p := prod_in (ha i) (hb i)
    have e1 : rd a (i : Int) = a.getD i 0 := by simp [rd]
    have e2 : rd b (i : Int) = b.getD i 0 := by simp [rd]
    simp only [bitloftref03_Exact.l0]
    rw [if_pos (by omega), if_pos (by omega), if_pos (by omega), e1, e2]
    have ba := ha i
    have bb := hb i
    have hd1 : dsum a b (i + 1) = dsum a b i + a.getD i 0 * b.getD i 0 := rfl
    generalize a.getD i 0 = x at *
    generalize b.getD i 0 = y at *
    rw [w64 (x := x) (by omega), w64 (x := y) (by omega), w64 (x := x * y) (by omega), w64 (x := (i : Int) + 1) (by omega)]
    generalize x * y = q at *
    obtain ⟨m1, m2, m3⟩ := tdm q
    rw [w64 (x := q.tdiv 4294967296) (by omega), w64 (x := t + q.tdiv 4294967296) (by omega), w64 (x := r + q.tmod 4294967296) (by omega)]
    exact ih k (i + 1) _ _ (by omega) (by omega) (by omega) (by omega) (by rw [hd1]; omega)
theorem rsat_is (n : Int) : bitloftref03_Sat.f n = some (clamp n) := by
  unfold bitloftref03_Sat.f clamp
  by_cases c : n < -2147483648
  · rw [if_pos c, if_pos c]
  · rw [if_neg c, if_neg c]
    by_cases d : n > 2147483647
    · rw [if_pos d, if_pos d]
    · rw [if_neg d, if_neg d, w32 (by omega)]
theorem rdot_in {a b : List Int} (ha : In32 a) (hb : In32 b) (hl : a.length = b.length) (hm : a.length ≤ 16) : bitloftref03_Dot.f 40 a b = some (clamp (dsum a b a.length), 0) := by
  obtain ⟨T, R, e, h1, h2, h3⟩ := exact_go ha hb hl.symm hm a.length 39 0 0 0 (by omega) (by omega) (by omega) (by omega) (by simp [dsum])
  have S := dsum_in ha hb a.length
  unfold bitloftref03_Dot.f
  rw [if_neg (by omega), decide_eq_false (by omega)]
  simp only [bitloftref03_Dot.j0]
  rw [if_neg (by decide), if_pos (by omega)]
  unfold bitloftref03_Exact.f
  rw [show bitloftref03_Exact.l0 39 a b 0 0 0 = some (T, R) from e]
  simp only [Option.bind_some, rsat_is]
  generalize dsum a b a.length = s at *
  by_cases c : T > 2
  · rw [if_pos c]
    unfold clamp
    rw [if_neg (by decide), if_neg (by decide), if_neg (by omega), if_pos (by omega)]
  · rw [if_neg c]
    by_cases d : T < -2
    · rw [if_pos d]
      unfold clamp
      rw [if_neg (by decide), if_neg (by decide), if_pos (by omega)]
    · rw [if_neg d, w64 (x := 4294967296 * T) (by omega), w64 (by omega), show 4294967296 * T + R = s from by omega]
theorem FixedDots : bitloftlaw03_FixedDots.Pure := by
  intro a b _ _ ha _ _ hb
  replace ha := in32 ha
  replace hb := in32 hb
  refine ⟨41, ?_⟩
  unfold bitloftlaw03_FixedDots.f
  have jt : bitloftlaw03_FixedDots.j0 41 a b true = some true := by simp only [bitloftlaw03_FixedDots.j0, if_true]
  have jf : bitloftlaw03_FixedDots.j0 41 a b false = some true := by
    have P : ∃ p, fixed_Dot.f 40 a b = some p ∧ bitloftref03_Dot.f 40 a b = some p := by
      by_cases c : 16 < a.length ∨ 16 < b.length
      · refine ⟨_, dot_many c _, ?_⟩
        unfold bitloftref03_Dot.f
        by_cases e : (a.length : Int) > 16
        · rw [if_pos e]
          simp only [bitloftref03_Dot.j0, if_true]
        · rw [if_neg e, decide_eq_true (by omega)]
          simp only [bitloftref03_Dot.j0, if_true]
      · by_cases e : a.length = b.length
        · exact ⟨_, dot_in ha hb e (by omega) _ (by omega), rdot_in ha hb e (by omega)⟩
        · refine ⟨_, dot_arg (by omega) (by omega) e _, ?_⟩
          unfold bitloftref03_Dot.f
          rw [if_neg (by omega), decide_eq_false (by omega)]
          simp only [bitloftref03_Dot.j0]
          rw [if_neg (by decide), if_neg (by omega)]
    obtain ⟨p, p1, p2⟩ := P
    simp only [bitloftlaw03_FixedDots.j0]
    rw [if_neg (by decide), p1, p2]
    simp
  by_cases c : (a.length : Int) > 40
  · rw [if_pos c, jt]
  · rw [if_neg c]
    by_cases d : (b.length : Int) > 40
    · rw [decide_eq_true d, jt]
    · rw [decide_eq_false d, jf]
end Go.Proofs.Ytljfebmimipieaa.Pure
