/- FixedTurns: for all rows and indexes (the law itself looks at rows of at most 15 numbers) the law returns true; no condition. -/
import Derived.Test.YtljfebmimipieaaXFixedTurnsx2
import Derived.OpenShut
set_option linter.unusedVariables false
set_option linter.unusedSimpArgs false
namespace Go.Proofs.Ytljfebmimipieaa.Pure
open Go.RowKit Go.Proofs.Ytljfebmimipieaa.XFixedTurns Go.Proofs.YtljfebmimipieaaW.PrintWords Go.Proofs.YtljfebmimipieaaW.PrintLast
theorem w32 {x : Int} (h : -2147483648 ≤ x ∧ x ≤ 2147483647) : wrap32 x = x := by unfold wrap32; omega
theorem w64 {x : Int} (h : -9223372036854775808 ≤ x ∧ x ≤ 9223372036854775807) : wrap64 x = x := by unfold wrap64; omega
/-- The exact sum of the first n products. -/
def dsum (a b : List Int) : Nat → Int
  | 0 => 0
  | n + 1 => dsum a b n + a.getD n 0 * b.getD n 0
/-- A number, kept within 32 bits. -/
def clamp (n : Int) : Int := if n < -2147483648 then -2147483648 else if n > 2147483647 then 2147483647 else n
def In32 (l : List Int) : Prop := ∀ n : Nat, -2147483648 ≤ l.getD n 0 ∧ l.getD n 0 ≤ 2147483647
theorem in32 {l : List Int} (h : ∀ x ∈ l, (Lit.int .i32 x).wf = true) : In32 l := by
  intro n
  by_cases c : n < l.length
  · have := bounds_i32 (h l[n] (List.getElem_mem c))
    simpa [List.getD_eq_getElem?_getD, c] using this
  · have : l.getD n 0 = 0 := by simp [List.getD_eq_getElem?_getD, Nat.le_of_not_lt c]
    omega
theorem prod_in {x y : Int} (hx : -2147483648 ≤ x ∧ x ≤ 2147483647) (hy : -2147483648 ≤ y ∧ y ≤ 2147483647) : -4611686018427387904 ≤ x * y ∧ x * y ≤ 4611686018427387904 := by
  by_cases c : 0 ≤ y
  · have a1 : -2147483648 * y ≤ x * y := Int.mul_le_mul_of_nonneg_right hx.1 c
    have a2 : x * y ≤ 2147483647 * y := Int.mul_le_mul_of_nonneg_right hx.2 c
    omega
  · have a1 : x * y ≤ -2147483648 * y := Int.mul_le_mul_of_nonpos_right hx.1 (by omega)
    have a2 : 2147483647 * y ≤ x * y := Int.mul_le_mul_of_nonpos_right hx.2 (by omega)
    omega
theorem dsum_in {a b : List Int} (ha : In32 a) (hb : In32 b) (n : Nat) : -4611686018427387904 * (n : Int) ≤ dsum a b n ∧ dsum a b n ≤ 4611686018427387904 * (n : Int) := by
  induction n with
  | zero => simp [dsum]
  | succ n ih =>
    have p := prod_in (ha n) (hb n)
    simp only [dsum]
    omega
theorem sat_is (n : Int) : fixed_Sat.f n = some (clamp n) := by
  unfold fixed_Sat.f mn mx clamp
  by_cases c : n < -2147483648
  · rw [if_pos c, if_pos c, if_neg (by decide)]
  · rw [if_neg c, if_neg c]
theorem dot_go {a b : List Int} (ha : In32 a) (hb : In32 b) (hl : b.length = a.length) (hm : a.length ≤ 16) (d : Nat) : ∀ (k i : Nat) (hi lo : Int), i + d = a.length → d + 2 ≤ k → 0 ≤ lo → lo < 18446744073709551616 → hi * 18446744073709551616 + lo = dsum a b i →
    fixed_Dot.l0 k b hi lo a (a.length : Int) (i : Int) = some (clamp (dsum a b a.length), 0) := by
  induction d with
  | zero =>
    intro k i hi lo hd hk l0 l1 hs
    obtain ⟨k, rfl⟩ : ∃ m, k = m + 2 := ⟨k - 2, by omega⟩
    obtain rfl : i = a.length := by omega
    have S := dsum_in ha hb a.length
    generalize dsum a b a.length = s at hs S ⊢
    simp only [fixed_Dot.l0]
    rw [if_neg (by omega)]
    have jt : fixed_Dot.j1 (k + 1) hi lo true = some (2147483647, 0) := by simp only [fixed_Dot.j1, if_true]
    have jf : (hi < 0 ∨ (hi = 0 ∧ lo ≤ 9223372036854775807)) → fixed_Dot.j1 (k + 1) hi lo false = some (clamp s, 0) := by
      intro h
      simp only [fixed_Dot.j1]
      rw [if_neg (by decide), sat_is]
      simp only [Option.bind_some]
      by_cases c1 : hi < -1
      · rw [if_pos c1]
        unfold clamp
        rw [if_pos (by omega)]
      · rw [if_neg c1]
        by_cases c2 : hi = -1
        · rw [if_pos c2]
          by_cases c3 : lo ≤ 9223372036854775807
          · rw [if_pos c3]
            unfold clamp
            rw [if_pos (by omega)]
          · rw [if_neg c3, show wrap64 lo = s from by unfold wrap64; omega]
        · rw [if_neg c2, show wrap64 lo = s from by unfold wrap64; omega]
    by_cases c : hi > 0
    · rw [if_pos c, jt]
      unfold clamp
      rw [if_neg (by omega), if_pos (by omega)]
    · rw [if_neg c]
      by_cases z : hi = 0
      · rw [if_pos z]
        by_cases y : lo > 9223372036854775807
        · rw [decide_eq_true y, jt]
          unfold clamp
          rw [if_neg (by omega), if_pos (by omega)]
        · rw [decide_eq_false y, jf (by omega)]
      · rw [if_neg z, jf (by omega)]
  | succ d ih =>
    intro k i hi lo hd hk l0 l1 hs
    obtain ⟨k, rfl⟩ : ∃ m, k = m + 1 := ⟨k - 1, by omega⟩
    have S := dsum_in ha hb i
    have p := prod_in (ha i) (hb i)
    have e1 : rd a (i : Int) = a.getD i 0 := by simp [rd]
    have e2 : rd b (i : Int) = b.getD i 0 := by simp [rd]
    simp only [fixed_Dot.l0]
    rw [if_pos (by omega), if_pos (by omega), if_pos (by omega), if_pos (by omega), e1, e2]
    have ba := ha i
    have bb := hb i
    have hd1 : dsum a b (i + 1) = dsum a b i + a.getD i 0 * b.getD i 0 := rfl
    generalize a.getD i 0 = x at *
    generalize b.getD i 0 = y at *
    rw [w64 (x := x) (by omega), w64 (x := y) (by omega), w64 (x := x * y) (by omega), w64 (x := (i : Int) + 1) (by omega)]
    generalize x * y = q at *
    have u : IntKind.u64.wrap q = q % 18446744073709551616 := by simp [IntKind.wrap, IntKind.bits, IntKind.signed]
    have r1 : bits_Add64.r1 lo (IntKind.u64.wrap q) 0 = (lo + q % 18446744073709551616) % 18446744073709551616 := by
      rw [u]; unfold bits_Add64.r1; omega
    have r2 : bits_Add64.r2 lo (IntKind.u64.wrap q) 0 = (lo + q % 18446744073709551616) / 18446744073709551616 := by
      rw [u]; unfold bits_Add64.r2; omega
    rw [r1, r2, w64 (x := hi + q / 9223372036854775808) (by omega), w64 (x := (lo + q % 18446744073709551616) / 18446744073709551616) (by omega), w64 (by omega)]
    exact ih k (i + 1) _ _ (by omega) (by omega) (by omega) (by omega) (by rw [hd1]; omega)
theorem dot_in {a b : List Int} (ha : In32 a) (hb : In32 b) (hl : a.length = b.length) (hm : a.length ≤ 16) (k : Nat) (hk : 18 ≤ k) : fixed_Dot.f k a b = some (clamp (dsum a b a.length), 0) := by
  unfold fixed_Dot.f
  have e : ¬ mx (a.length : Int) (b.length : Int) > 16 := by unfold mx; split <;> omega
  rw [if_neg e, if_pos (by omega)]
  exact dot_go ha hb hl.symm hm a.length k 0 0 0 (by omega) (by omega) (by omega) (by omega) (by simp [dsum])
theorem dot_many {a b : List Int} (h : 16 < a.length ∨ 16 < b.length) (k : Nat) : fixed_Dot.f k a b = some (0, 4) := by
  unfold fixed_Dot.f
  have e : mx (a.length : Int) (b.length : Int) > 16 := by unfold mx; split <;> omega
  rw [if_pos e]
theorem dot_arg {a b : List Int} (h : a.length ≤ 16) (h' : b.length ≤ 16) (hn : a.length ≠ b.length) (k : Nat) : fixed_Dot.f k a b = some (0, 2) := by
  unfold fixed_Dot.f
  have e : ¬ mx (a.length : Int) (b.length : Int) > 16 := by unfold mx; split <;> omega
  rw [if_neg e, if_neg (by omega)]
theorem alive_holds (k : Nat) (h : 40 ≤ k) : bitloftlaw03_alive.f k = some true := at_rounds bitloftlaw03_alive.mono h (by decide +kernel)
def zsum (l : List (Int × Int)) : Int := (l.map fun p => p.1 * p.2).sum
theorem zsum_append (l m : List (Int × Int)) : zsum (l ++ m) = zsum l + zsum m := by simp [zsum]
theorem dsum_zip {a b : List Int} (hl : a.length = b.length) (n : Nat) (hn : n ≤ a.length) : dsum a b n = zsum ((a.zip b).take n) := by
  induction n with
  | zero => simp [dsum, zsum]
  | succ n ih =>
    have h1 : n < a.length := by omega
    have h2 : n < b.length := by omega
    have h3 : n < (a.zip b).length := by simp; omega
    rw [List.take_succ_eq_append_getElem h3, zsum_append, dsum, ih (by omega)]
    simp [zsum, List.getD_eq_getElem?_getD, h1, h2]
theorem dsum_all {a b : List Int} (hl : a.length = b.length) : dsum a b a.length = zsum (a.zip b) := by
  rw [dsum_zip hl _ (Nat.le_refl _), List.take_of_length_le (by simp; omega)]
theorem zsum_turn {a b : List Int} (hl : a.length = b.length) (i : Nat) (hi : i ≤ a.length) : zsum ((a.drop i ++ a.take i).zip (b.drop i ++ b.take i)) = zsum (a.zip b) := by
  rw [List.zip_append (by simp; omega), zsum_append, Int.add_comm, ← zsum_append]
  congr 1
  have e : a.zip b = (a.take i ++ a.drop i).zip (b.take i ++ b.drop i) := by rw [List.take_append_drop, List.take_append_drop]
  rw [e, List.zip_append (by simp; omega)]
theorem zsum_swap (a b : List Int) : zsum (b.zip a) = zsum (a.zip b) := by
  induction a generalizing b with
  | nil => simp [zsum]
  | cons x a ih =>
    cases b with
    | nil => simp [zsum]
    | cons y b =>
      have := ih b
      simp only [zsum, List.zip_cons_cons, List.map_cons, List.sum_cons] at this ⊢
      rw [this, Int.mul_comm]
theorem zsum_own (a : List Int) : 0 ≤ zsum (a.zip a) := by
  induction a with
  | nil => simp [zsum]
  | cons x a ih =>
    simp only [zsum, List.zip_cons_cons, List.map_cons, List.sum_cons] at ih ⊢
    have : 0 ≤ x * x := by
      by_cases c : 0 ≤ x
      · exact Int.mul_nonneg c c
      · exact Int.mul_nonneg_of_nonpos_of_nonpos (by omega) (by omega)
    omega
def All32 (l : List Int) : Prop := ∀ x ∈ l, -2147483648 ≤ x ∧ x ≤ 2147483647
theorem all_in {l : List Int} (h : All32 l) : In32 l := by
  intro n
  by_cases c : n < l.length
  · have := h l[n] (List.getElem_mem c)
    simpa [List.getD_eq_getElem?_getD, c] using this
  · rw [show l.getD n 0 = 0 from by simp [List.getD_eq_getElem?_getD, Nat.le_of_not_lt c]]
    decide
theorem all_append {l m : List Int} (h : All32 l) (h' : All32 m) : All32 (l ++ m) := fun x hx => (List.mem_append.mp hx).elim (h x) (h' x)
theorem all_drop {l : List Int} (h : All32 l) (i : Nat) : All32 (l.drop i) := fun x hx => h x (List.mem_of_mem_drop hx)
theorem all_take {l : List Int} (h : All32 l) (i : Nat) : All32 (l.take i) := fun x hx => h x (List.mem_of_mem_take hx)
theorem dot_zip {a b : List Int} (ha : All32 a) (hb : All32 b) (hl : a.length = b.length) (hm : a.length ≤ 16) (k : Nat) (hk : 18 ≤ k) : fixed_Dot.f k a b = some (clamp (zsum (a.zip b)), 0) := by
  rw [dot_in (all_in ha) (all_in hb) hl hm k hk, dsum_all hl]
theorem FixedTurns : bitloftlaw03_FixedTurns.Pure := by
  intro a b i ya _ ha yb _ hb hi
  have za : All32 a := fun x hx => bounds_i32 (ha x hx)
  have zb : All32 b := fun x hx => bounds_i32 (hb x hx)
  refine ⟨100, ?_⟩
  have jt : bitloftlaw03_FixedTurns.j0 100 a b i true = some true := by
    simp only [bitloftlaw03_FixedTurns.j0, if_true]
    rw [alive_holds _ (by omega)]
    rfl
  unfold bitloftlaw03_FixedTurns.f
  by_cases c1 : (a.length : Int) > 15
  · rw [if_pos c1, jt]
  rw [if_neg c1]
  by_cases c2 : (b.length : Int) = (a.length : Int)
  rotate_left
  · rw [if_neg c2, jt]
  rw [if_pos c2]
  by_cases c3 : i < 0
  · rw [if_pos c3, jt]
  rw [if_neg c3]
  by_cases c4 : i > (a.length : Int)
  · rw [decide_eq_true c4, jt]
  rw [decide_eq_false c4]
  have hl : a.length = b.length := by omega
  have hn : i.toNat ≤ a.length := by omega
  have n1 : All32 [0] := by intro x hx; simp at hx; omega
  have n2 : All32 [-2147483648] := by intro x hx; simp at hx; omega
  simp only [bitloftlaw03_FixedTurns.j0]
  rw [if_neg (by decide), dot_zip za zb hl (by omega) 99 (by omega), dot_zip zb za hl.symm (by omega) 99 (by omega), dot_zip za za rfl (by omega) 99 (by omega)]
  simp only [Option.bind_some, List.nil_append, List.length_nil]
  rw [dot_zip (all_append (all_drop za _) (all_take za _)) (all_append (all_drop zb _) (all_take zb _)) (by simp; omega) (by simp; omega) 99 (by omega)]
  rw [dot_zip (all_append za n1) (all_append zb n2) (by simp; omega) (by simp; omega) 99 (by omega)]
  rw [zsum_turn hl _ hn, zsum_swap a b]
  have e : zsum ((a ++ [0]).zip (b ++ [-2147483648])) = zsum (a.zip b) := by
    rw [List.zip_append hl, zsum_append]
    simp [zsum]
  rw [e]
  have o := zsum_own a
  have oc : clamp (zsum (a.zip a)) ≥ 0 := by unfold clamp; repeat' split; all_goals omega
  rw [if_pos (by omega), if_pos (by omega), if_pos (by simp; omega), if_pos (by simp; omega), if_pos (by omega), if_pos (by simp; omega), if_pos (by simp; omega)]
  simp only [Option.bind_some]
  rw [if_pos (by omega), if_pos (by omega), if_pos (by omega), if_pos (by omega)]
  simp only [Option.bind_some, if_true]
  rw [if_pos oc, alive_holds _ (by omega)]
  simp only [Option.bind_some, bitloftlaw03_FixedTurns.j1]
end Go.Proofs.Ytljfebmimipieaa.Pure
