/- FixedExact: for all rows (the law itself looks at rows of at most 16 numbers) the law returns true; no condition. -/
import Derived.Test.YtljfebmimipieaaXFixedExactx2
import Derived.OpenShut
set_option linter.unusedVariables false
set_option linter.unusedSimpArgs false
namespace Go.Proofs.Ytljfebmimipieaa.Pure
open Go.RowKit Go.Proofs.Ytljfebmimipieaa.XFixedExact Go.Proofs.YtljfebmimipieaaW.PrintWords Go.Proofs.YtljfebmimipieaaW.PrintLast
theorem w32 {x : Int} (h : -2147483648 ≤ x ∧ x ≤ 2147483647) : wrap32 x = x := by unfold wrap32; omega
theorem w64 {x : Int} (h : -9223372036854775808 ≤ x ∧ x ≤ 9223372036854775807) : wrap64 x = x := by unfold wrap64; omega
/-- The exact sum of the first n products. -/
def dsum (a b : List Int) : Nat → Int
  | 0 => 0
  | n + 1 => dsum a b n + a.getD n 0 * b.getD n 0
/-- A number, kept within 32 bits. -/
def clamp (n : Int) : Int := if n < -2147483648 then -2147483648 else if n > 2147483647 then 2147483647 else n
def In32 (l : List Int) : Prop := ∀ n : Nat, -2147483648 ≤ l.getD n 0 ∧ l.getD n 0 ≤ 2147483647
theorem in32 {l : List Int} (h : ∀ x ∈ l, (Lit.int .i32 x).wf = true) : In32 l := by
  intro n
  by_cases c : n < l.length
  · have := bounds_i32 (h l[n] (List.getElem_mem c))
    simpa [List.getD_eq_getElem?_getD, c] using this
  · have : l.getD n 0 = 0 := by simp [List.getD_eq_getElem?_getD, Nat.le_of_not_lt c]
    omega
theorem prod_in {x y : Int} (hx : -2147483648 ≤ x ∧ x ≤ 2147483647) (hy : -2147483648 ≤ y ∧ y ≤ 2147483647) : -4611686018427387904 ≤ x * y ∧ x * y ≤ 4611686018427387904 := by
  by_cases c : 0 ≤ y
  · have a1 : -2147483648 * y ≤ x * y := Int.mul_le_mul_of_nonneg_right hx.1 c
    have a2 : x * y ≤ 2147483647 * y := Int.mul_le_mul_of_nonneg_right hx.2 c
    omega
  · have a1 : x * y ≤ -2147483648 * y := Int.mul_le_mul_of_nonpos_right hx.1 (by omega)
    have a2 : 2147483647 * y ≤ x * y := Int.mul_le_mul_of_nonpos_right hx.2 (by omega)
    omega
theorem dsum_in {a b : List Int} (ha : In32 a) (hb : In32 b) (n : Nat) : -4611686018427387904 * (n : Int) ≤ dsum a b n ∧ dsum a b n ≤ 4611686018427387904 * (n : Int) := by
  induction n with
  | zero => simp [dsum]
  | succ n ih =>
    have p := prod_in (ha n) (hb n)
    simp only [dsum]
    omega
theorem sat_is (n : Int) : fixed_Sat.f n = some (clamp n) := by
  unfold fixed_Sat.f mn mx clamp
  by_cases c : n < -2147483648
  · rw [if_pos c, if_pos c, if_neg (by decide)]
  · rw [if_neg c, if_neg c]
theorem dot_go {a b : List Int} (ha : In32 a) (hb : In32 b) (hl : b.length = a.length) (hm : a.length ≤ 16) (d : Nat) : ∀ (k i : Nat) (hi lo : Int), i + d = a.length → d + 2 ≤ k → 0 ≤ lo → lo < 18446744073709551616 → hi * 18446744073709551616 + lo = dsum a b i →
    fixed_Dot.l0 k b hi lo a (a.length : Int) (i : Int) = some (clamp (dsum a b a.length), 0) := by
  induction d with
  | zero =>
    intro k i hi lo hd hk l0 l1 hs
    obtain ⟨k, rfl⟩ : ∃ m, k = m + 2 := ⟨k - 2, by omega⟩
    obtain rfl : i = a.length := by omega
    have S := dsum_in ha hb a.length
    generalize dsum a b a.length = s at hs S ⊢
    simp only [fixed_Dot.l0]
    rw [if_neg (by omega)]
    have jt : fixed_Dot.j1 (k + 1) hi lo true = some (2147483647, 0) := by simp only [fixed_Dot.j1, if_true]
    have jf : (hi < 0 ∨ (hi = 0 ∧ lo ≤ 9223372036854775807)) → fixed_Dot.j1 (k + 1) hi lo false = some (clamp s, 0) := by
      intro h
      simp only [fixed_Dot.j1]
      rw [if_neg (by decide), sat_is]
      simp only [Option.bind_some]
      by_cases c1 : hi < -1
      · rw [if_pos c1]
        unfold clamp
        rw [if_pos (by omega)]
      · rw [if_neg c1]
        by_cases c2 : hi = -1
        · rw [if_pos c2]
          by_cases c3 : lo ≤ 9223372036854775807
          · rw [if_pos c3]
            unfold clamp
            rw [if_pos (by omega)]
          · rw [if_neg c3, show wrap64 lo = s from by unfold wrap64; omega]
        · rw [if_neg c2, show wrap64 lo = s from by unfold wrap64; omega]
    by_cases c : hi > 0
    · rw [if_pos c, jt]
      unfold clamp
      rw [if_neg (by omega), if_pos (by omega)]
    · rw [if_neg c]
      by_cases z : hi = 0
      · rw [if_pos z]
        by_cases y : lo > 9223372036854775807
        · rw [decide_eq_true y, jt]
          unfold clamp
          rw [if_neg (by omega), if_pos (by omega)]
        · rw [decide_eq_false y, jf (by omega)]
      · rw [if_neg z, jf (by omega)]
  | succ d ih =>
    intro k i hi lo hd hk l0 l1 hs
    obtain ⟨k, rfl⟩ : ∃ m, k = m + 1 := ⟨k - 1, by omega⟩
    have S := dsum_in ha hb i
    have p := prod_in (ha i) (hb i)
    have e1 : rd a (i : Int) = a.getD i 0 := by simp [rd]
    have e2 : rd b (i : Int) = b.getD i 0 := by simp [rd]
    simp only [fixed_Dot.l0]
    rw [if_pos (by omega), if_pos (by omega), if_pos (by omega), if_pos (by omega), e1, e2]
    have ba := ha i
    have bb := hb i
    have hd1 : dsum a b (i + 1) = dsum a b i + a.getD i 0 * b.getD i 0 := rfl
    generalize a.getD i 0 = x at *
    generalize b.getD i 0 = y at *
    rw [w64 (x := x) (by omega), w64 (x := y) (by omega), w64 (x := x * y) (by omega), w64 (x := (i : Int) + 1) (by omega)]
    generalize x * y = q at *
    have u : IntKind.u64.wrap q = q % 18446744073709551616 := by simp [IntKind.wrap, IntKind.bits, IntKind.signed]
    have r1 : bits_Add64.r1 lo (IntKind.u64.wrap q) 0 = (lo + q % 18446744073709551616) % 18446744073709551616 := by
      rw [u]; unfold bits_Add64.r1; omega
    have r2 : bits_Add64.r2 lo (IntKind.u64.wrap q) 0 = (lo + q % 18446744073709551616) / 18446744073709551616 := by
      rw [u]; unfold bits_Add64.r2; omega
    rw [r1, r2, w64 (x := hi + q / 9223372036854775808) (by omega), w64 (x := (lo + q % 18446744073709551616) / 18446744073709551616) (by omega), w64 (by omega)]
    exact ih k (i + 1) _ _ (by omega) (by omega) (by omega) (by omega) (by rw [hd1]; omega)
theorem dot_in {a b : List Int} (ha : In32 a) (hb : In32 b) (hl : a.length = b.length) (hm : a.length ≤ 16) (k : Nat) (hk : 18 ≤ k) : fixed_Dot.f k a b = some (clamp (dsum a b a.length), 0) := by
  unfold fixed_Dot.f
  have e : ¬ mx (a.length : Int) (b.length : Int) > 16 := by unfold mx; split <;> omega
  rw [if_neg e, if_pos (by omega)]
  exact dot_go ha hb hl.symm hm a.length k 0 0 0 (by omega) (by omega) (by omega) (by omega) (by simp [dsum])
theorem dot_many {a b : List Int} (h : 16 < a.length ∨ 16 < b.length) (k : Nat) : fixed_Dot.f k a b = some (0, 4) := by
  unfold fixed_Dot.f
  have e : mx (a.length : Int) (b.length : Int) > 16 := by unfold mx; split <;> omega
  rw [if_pos e]
theorem dot_arg {a b : List Int} (h : a.length ≤ 16) (h' : b.length ≤ 16) (hn : a.length ≠ b.length) (k : Nat) : fixed_Dot.f k a b = some (0, 2) := by
  unfold fixed_Dot.f
  have e : ¬ mx (a.length : Int) (b.length : Int) > 16 := by unfold mx; split <;> omega
  rw [if_neg e, if_neg (by omega)]
theorem clamp_in (n : Int) : -2147483648 ≤ clamp n ∧ clamp n ≤ 2147483647 := by unfold clamp; repeat' split; all_goals omega
theorem near_holds (n : Int) : bitloftlaw03_near.f (clamp n) n = some true := by
  have c := clamp_in n
  unfold bitloftlaw03_near.f
  by_cases h : n > 2147483647
  · rw [if_pos h]
    unfold clamp
    rw [if_neg (by omega), if_pos h]
    rfl
  · rw [if_neg h]
    by_cases g : n < -2147483648
    · rw [if_pos g]
      unfold clamp
      rw [if_pos g]
      rfl
    · rw [if_neg g]
      unfold clamp
      rw [if_neg g, if_neg h, w64 (by omega)]
      simp
theorem alive_holds (k : Nat) (h : 40 ≤ k) : bitloftlaw03_alive.f k = some true := at_rounds bitloftlaw03_alive.mono h (by decide +kernel)
theorem small_prod {x y : Int} (hx : -134217728 ≤ x ∧ x ≤ 134217728) (hy : -134217728 ≤ y ∧ y ≤ 134217728) : -18014398509481984 ≤ x * y ∧ x * y ≤ 18014398509481984 := by
  by_cases c : 0 ≤ y
  · have a1 : -134217728 * y ≤ x * y := Int.mul_le_mul_of_nonneg_right hx.1 c
    have a2 : x * y ≤ 134217728 * y := Int.mul_le_mul_of_nonneg_right hx.2 c
    omega
  · have a1 : x * y ≤ -134217728 * y := Int.mul_le_mul_of_nonpos_right hx.1 (by omega)
    have a2 : 134217728 * y ≤ x * y := Int.mul_le_mul_of_nonpos_right hx.2 (by omega)
    omega
theorem exact_goes {a b : List Int} (ha : In32 a) (hb : In32 b) (hl : a.length = b.length) (hm : a.length ≤ 16) (d : Nat) : ∀ (k i : Nat), i + d = a.length → d + 41 ≤ k → -18014398509481984 * (i : Int) ≤ dsum a b i ∧ dsum a b i ≤ 18014398509481984 * (i : Int) →
    bitloftlaw03_FixedExact.l0 k a b (dsum a b i) (i : Int) = some true := by
  induction d with
  | zero =>
    intro k i hd hk S
    obtain ⟨k, rfl⟩ : ∃ m, k = m + 1 := ⟨k - 1, by omega⟩
    obtain rfl : i = a.length := by omega
    simp only [bitloftlaw03_FixedExact.l0]
    rw [if_neg (by omega), dot_in ha hb hl hm k (by omega)]
    simp only [Option.bind_some, if_true, near_holds, alive_holds k (by omega)]
  | succ d ih =>
    intro k i hd hk S
    obtain ⟨k, rfl⟩ : ∃ m, k = m + 1 := ⟨k - 1, by omega⟩
    have e1 : rd a (i : Int) = a.getD i 0 := by simp [rd]
    have e2 : rd b (i : Int) = b.getD i 0 := by simp [rd]
    simp only [bitloftlaw03_FixedExact.l0, alive_holds k (by omega), Option.bind_some]
    rw [if_pos (by omega), if_pos (by omega), e1, e2]
    by_cases c1 : a.getD i 0 > 134217728
    · rw [if_pos c1]
    rw [if_neg c1]
    by_cases c2 : a.getD i 0 < -134217728
    · rw [if_pos c2]
    rw [if_neg c2, if_pos (by omega)]
    by_cases c3 : b.getD i 0 > 134217728
    · rw [if_pos c3]
    rw [if_neg c3]
    by_cases c4 : b.getD i 0 < -134217728
    · rw [if_pos c4]
    rw [if_neg c4]
    have p := small_prod (x := a.getD i 0) (y := b.getD i 0) (by omega) (by omega)
    have hd1 : dsum a b (i + 1) = dsum a b i + a.getD i 0 * b.getD i 0 := rfl
    rw [w64 (x := a.getD i 0) (by omega), w64 (x := b.getD i 0) (by omega), w64 (x := a.getD i 0 * b.getD i 0) (by omega), w64 (x := (i : Int) + 1) (by omega), w64 (by omega), ← hd1]
    exact ih k (i + 1) (by omega) (by omega) (by omega)
theorem FixedExact : bitloftlaw03_FixedExact.Pure := by
  intro a b _ _ ha _ _ hb
  replace ha := in32 ha
  replace hb := in32 hb
  refine ⟨100, ?_⟩
  unfold bitloftlaw03_FixedExact.f
  have jt : bitloftlaw03_FixedExact.j0 100 a b true = some true := by
    simp only [bitloftlaw03_FixedExact.j0, if_true]
    rw [alive_holds _ (by omega)]
    rfl
  by_cases c : (a.length : Int) > 16
  · rw [if_pos c, jt]
  · rw [if_neg c]
    by_cases d : a.length = b.length
    · rw [show ((b.length : Int) != (a.length : Int)) = false from by simp [d]]
      simp only [bitloftlaw03_FixedExact.j0]
      rw [if_neg (by decide)]
      exact exact_goes ha hb d (by omega) a.length 99 0 (by omega) (by omega) (by simp [dsum])
    · rw [show ((b.length : Int) != (a.length : Int)) = true from by simp; omega, jt]
end Go.Proofs.Ytljfebmimipieaa.Pure
