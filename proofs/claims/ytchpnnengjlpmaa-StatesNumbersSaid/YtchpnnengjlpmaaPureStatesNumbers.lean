/- Different counts have different states, and the count of the number is the count. -/
import Derived.Test.YtchpnnengjlpmaaXStatesNumbersx4
import Derived.OpenShut
set_option linter.unusedVariables false
set_option linter.unusedSimpArgs false
namespace Go.Proofs.Ytchpnnengjlpmaa.Pure
open Go.RowKit Go.Proofs.Ytchpnnengjlpmaa.XStatesNumbers Go.Proofs.YtchpnnengjlpmaaW.PrintWords Go.Proofs.YtchpnnengjlpmaaW.PrintLast
theorem w32 {x : Int} (h : -2147483648 ≤ x ∧ x ≤ 2147483647) : wrap32 x = x := by unfold wrap32; omega
theorem w64 {x : Int} (h : -9223372036854775808 ≤ x ∧ x ≤ 9223372036854775807) : wrap64 x = x := by unfold wrap64; omega
/-- A valid count: two numbers and the last bit. -/
def Valid (a b c : Int) : Prop := (a = 0 ∧ b = 0 ∧ c = 0) ∨ (c = 0 ∧ 1 ≤ a ∧ a ≤ 12 ∧ 0 ≤ b ∧ b ≤ 7) ∨ (c = 1 ∧ 1 ≤ b ∧ b ≤ 12 ∧ 0 ≤ a ∧ a ≤ 7)
theorem Valid.bounds {a b c : Int} (h : Valid a b c) : 0 ≤ a ∧ a ≤ 12 ∧ 0 ≤ b ∧ b ≤ 12 ∧ 0 ≤ c ∧ c ≤ 1 := by unfold Valid at h; omega
theorem check_in {a b c : Int} (h : Valid a b c) : counts_Check.f a b c = some 0 := by
  unfold Valid at h
  unfold counts_Check.f
  rw [if_neg (by omega)]
  by_cases z : a = 0 ∧ b = 0 ∧ c = 0
  · rw [if_pos z]
  · rw [if_neg z, if_neg (by omega)]
    by_cases y : c = 0
    · rw [if_pos y, if_neg (by omega)]
    · rw [if_neg y, if_neg (by omega)]
theorem check_out {a b c : Int} (hc : 0 ≤ c) (h : ¬ Valid a b c) : counts_Check.f a b c = some 8 := by
  unfold Valid at h
  unfold counts_Check.f
  rw [if_neg (by omega), if_neg (by omega)]
  by_cases x : c > 1
  · rw [if_pos x]
  · rw [if_neg x]
    by_cases y : c = 0
    · rw [if_pos y, if_pos (by omega)]
    · rw [if_neg y, if_pos (by omega)]
theorem less_in {x : Int} (h0 : 0 ≤ x) (h1 : x ≤ 12) : 0 ≤ counts_next.less x ∧ counts_next.less x ≤ 7 ∧ counts_next.less x ≤ x := by unfold counts_next.less; split <;> omega
/-- The count after a bit. -/
def nxt (a b d : Int) : Int × Int × Int := if d = 0 then (if a < 12 then a + 1 else 12, counts_next.less b, 0) else (counts_next.less a, if b < 12 then b + 1 else 12, 1)
theorem next_valid {a b d : Int} (ha : 0 ≤ a) (ha' : a ≤ 12) (hb : 0 ≤ b) (hb' : b ≤ 12) : Valid (nxt a b d).1 (nxt a b d).2.1 (nxt a b d).2.2 := by
  have la := less_in ha ha'
  have lb := less_in hb hb'
  unfold nxt Valid
  by_cases h : d = 0
  · rw [if_pos h]
    right; left
    refine ⟨rfl, ?_, ?_, lb.1, lb.2.1⟩ <;> (dsimp only; split <;> omega)
  · rw [if_neg h]
    right; right
    refine ⟨rfl, ?_, ?_, la.1, la.2.1⟩ <;> (dsimp only; split <;> omega)
theorem next_in {a b c d : Int} (h : Valid a b c) (hd : d = 0 ∨ d = 1) : counts_next.f a b c d = some (nxt a b d) := by
  have v := h.bounds
  unfold counts_next.f nxt
  rw [if_pos (by omega)]
  rcases hd with rfl | rfl
  · rw [if_pos rfl, if_pos rfl]
  · rw [if_neg (show ¬ (1 : Int) = 0 by decide), if_pos rfl, if_neg (show ¬ (1 : Int) = 0 by decide)]
def cnt (s : Int) : Int × Int × Int := if s = 0 then (0, 0, 0) else if s ≤ 96 then ((s - 1) / 8 + 1, (s - 1) % 8, 0) else ((s - 1) % 8, (s - 1) / 8 - 11, 1)
theorem cnt_valid {s : Int} (h0 : 0 ≤ s) (h1 : s ≤ 192) : Valid (cnt s).1 (cnt s).2.1 (cnt s).2.2 := by
  unfold cnt Valid
  split
  · left; exact ⟨rfl, rfl, rfl⟩
  · split
    · right; left; dsimp only; omega
    · right; right; dsimp only; omega
theorem count_in {s : Int} (h0 : 0 ≤ s) (h1 : s ≤ 192) : states_Count.f s = some ((cnt s).1, (cnt s).2.1, (cnt s).2.2, 0) := by
  unfold states_Count.f cnt
  rw [if_neg (by omega), if_neg (by omega)]
  by_cases z : s = 0
  · rw [if_pos z, if_pos z]
  · rw [if_neg z, if_neg z]
    by_cases y : s ≤ 96
    · rw [if_pos y, if_pos y]
      have : (s - 1) / 8 % 12 = (s - 1) / 8 := by omega
      rw [this]
    · rw [if_neg y, if_neg y]
      have : (s - 1) / 8 % 12 + 1 = (s - 1) / 8 - 11 := by omega
      rw [this]
theorem count_out {s : Int} (h0 : 193 ≤ s) (h1 : s ≤ 255) : states_Count.f s = some (0, 0, 0, 2) := by
  unfold states_Count.f
  rw [if_neg (by omega), if_pos (by omega)]
def num (a b c : Int) : Int := if a = 0 ∧ b = 0 then 0 else if c = 0 then (a - 1) * 8 + b + 1 else (12 + b - 1) * 8 + a + 1
theorem num_bounds {a b c : Int} (h : Valid a b c) : 0 ≤ num a b c ∧ num a b c ≤ 192 := by
  unfold Valid at h
  unfold num
  split
  · omega
  · split <;> omega
theorem number_in {a b c : Int} (h : Valid a b c) : states_number.f a b c = some (num a b c) := by
  have v := h.bounds
  unfold Valid at h
  unfold states_number.f num
  rw [if_pos (by omega)]
  by_cases z : a = 0 ∧ b = 0
  · rw [if_pos (by omega), if_pos z]
  · rw [if_neg (by omega), if_neg z]
    by_cases y : c = 0
    · rw [if_pos y, if_pos y, if_pos (by omega)]
    · rw [if_neg y, if_neg y, if_pos (by omega), if_pos (by omega)]
theorem num_cnt {s : Int} (h0 : 0 ≤ s) (h1 : s ≤ 192) : num (cnt s).1 (cnt s).2.1 (cnt s).2.2 = s := by
  unfold num cnt
  by_cases z : s = 0
  · rw [if_pos z]; simp [z]
  · rw [if_neg z]
    by_cases y : s ≤ 96
    · rw [if_pos y]; dsimp only; rw [if_neg (by omega), if_pos rfl]; omega
    · rw [if_neg y]; dsimp only; rw [if_neg (by omega), if_neg (by decide)]; omega
theorem cnt_num {a b c : Int} (h : Valid a b c) : cnt (num a b c) = (a, b, c) := by
  unfold Valid at h
  unfold num
  by_cases z : a = 0 ∧ b = 0
  · rw [if_pos z]
    obtain ⟨rfl, rfl⟩ := z
    have : c = 0 := by omega
    subst this
    rfl
  · rw [if_neg z]
    unfold cnt
    by_cases y : c = 0
    · rw [if_pos y, if_neg (by omega), if_pos (by omega)]
      subst y
      refine Prod.ext ?_ (Prod.ext ?_ rfl) <;> dsimp only <;> omega
    · rw [if_neg y, if_neg (by omega), if_neg (by omega)]
      have : c = 1 := by omega
      subst this
      refine Prod.ext ?_ (Prod.ext ?_ rfl) <;> dsimp only <;> omega
theorem Number_in {a b c : Int} (h : Valid a b c) : states_Number.f a b c = some (num a b c, 0) := by
  unfold states_Number.f
  rw [check_in h]
  simp only [Option.bind_some, if_true]
  rw [number_in h]
  rfl
theorem Number_out {a b c : Int} (hc : 0 ≤ c) (h : ¬ Valid a b c) : states_Number.f a b c = some (0, 8) := by
  unfold states_Number.f
  rw [check_out hc h]
  rfl
theorem rcheck_in {a b c : Int} (k : Nat) (h : Valid a b c) : bitloftref07_Check.f (k + 1) a b c = some 0 := by
  unfold Valid at h
  have jt : bitloftref07_Check.j0 (k + 1) true a b c = some 0 := by simp only [bitloftref07_Check.j0, if_true]
  have jf : ¬ (a = 0 ∧ b = 0 ∧ c = 0) → bitloftref07_Check.j0 (k + 1) false a b c = some 0 := by
    intro z
    simp only [bitloftref07_Check.j0]
    rw [if_neg (by decide)]
    by_cases y : c = 1
    · rw [if_pos y, if_neg (by omega), if_neg (by omega), if_neg (by omega), if_neg (by omega), if_neg (by omega)]
    · rw [if_neg y, if_neg (by omega), if_neg (by omega), if_neg (by omega), if_neg (by omega), if_neg (by omega)]
  unfold bitloftref07_Check.f
  by_cases x : a = 0
  · rw [if_pos x]
    by_cases y : b = 0
    · rw [if_pos y]
      by_cases z : c = 0
      · rw [show (c == 0) = true from by simp [z], jt]
      · rw [show (c == 0) = false from by simp [z], jf (by omega)]
    · rw [if_neg y, jf (by omega)]
  · rw [if_neg x, jf (by omega)]
theorem rcheck_out {a b c : Int} (k : Nat) (hc : 0 ≤ c) (h : ¬ Valid a b c) : bitloftref07_Check.f (k + 1) a b c = some 8 := by
  unfold Valid at h
  have jf : bitloftref07_Check.j0 (k + 1) false a b c = some 8 := by
    simp only [bitloftref07_Check.j0]
    rw [if_neg (by decide)]
    by_cases y : c = 1
    · rw [if_pos y]
      repeat' split
      all_goals first | rfl | omega
    · rw [if_neg y]
      repeat' split
      all_goals first | rfl | omega
  unfold bitloftref07_Check.f
  by_cases x : a = 0
  · rw [if_pos x]
    by_cases y : b = 0
    · rw [if_pos y, show (c == 0) = false from by simp; omega, jf]
    · rw [if_neg y, jf]
  · rw [if_neg x, jf]
theorem numbers_eq {a b c d e f : Int} (h : Valid a b c) (g : Valid d e f) : (num a b c == num d e f) = (a == d && (b == e && c == f)) := by
  by_cases x : a = d ∧ b = e ∧ c = f
  · obtain ⟨rfl, rfl, rfl⟩ := x
    simp
  · have : num a b c ≠ num d e f := by
      intro y
      have z := cnt_num h
      rw [y, cnt_num g] at z
      simp only [Prod.mk.injEq] at z
      exact x ⟨z.1.symm, z.2.1.symm, z.2.2.symm⟩
    rw [beq_eq_false_iff_ne.mpr this]
    symm
    simp only [Bool.and_eq_false_iff, beq_eq_false_iff_ne, ne_eq]
    omega
theorem StatesNumbers : bitloftlaw08_StatesNumbers.Pure := by
  intro a b c d e f ha hb hc hd he hf
  replace hc := bounds_u8 hc
  replace hf := bounds_u8 hf
  refine ⟨9, ?_⟩
  have N : ∀ {a b c : Int}, 0 ≤ c → ∃ n x, states_Number.f a b c = some (n, x) ∧ bitloftref07_Check.f 9 a b c = some x ∧ ((x = 0 ∧ Valid a b c ∧ n = num a b c) ∨ x = 8) := by
    intro a b c h0
    by_cases h : Valid a b c
    · exact ⟨_, _, Number_in h, rcheck_in 8 h, .inl ⟨rfl, h, rfl⟩⟩
    · exact ⟨_, _, Number_out h0 h, rcheck_out 8 h0 h, .inr rfl⟩
  obtain ⟨n, x, n1, n2, n3⟩ := N (a := a) (b := b) hc.1
  obtain ⟨m, y, m1, m2, m3⟩ := N (a := d) (b := e) hf.1
  unfold bitloftlaw08_StatesNumbers.f
  rw [n1, Option.bind_some, m1, Option.bind_some, n2, Option.bind_some, m2]
  dsimp only
  rw [if_neg (by simp), Option.bind_some]
  rw [show ((y == 0) != (y == 0)) = false from by simp]
  simp only [bitloftlaw08_StatesNumbers.j0]
  rw [if_neg (by decide)]
  have al : ∀ a b c d e f n m k, bitloftlaw08_StatesNumbers.j1 (k + 1) n m true a b c d e f = some true := by
    intro a b c d e f n m k
    simp only [bitloftlaw08_StatesNumbers.j1]
    rw [if_pos trivial]
    rfl
  rcases n3 with ⟨rfl, hv, rfl⟩ | rfl
  · rcases m3 with ⟨rfl, gv, rfl⟩ | rfl
    · rw [if_pos rfl]
      have nb := num_bounds hv
      simp only [bitloftlaw08_StatesNumbers.j1]
      rw [if_neg (by decide), count_in nb.1 nb.2, Option.bind_some, cnt_num hv]
      dsimp only
      rw [if_pos rfl, if_pos (by simp), numbers_eq hv gv, if_pos (by simp), w64 (by omega)]
      unfold states_Size.f
      rw [Option.bind_some, if_pos (by omega)]
      rfl
    · rw [if_pos rfl]
      exact al ..
  · rw [if_neg (by decide)]
    exact al ..
end Go.Proofs.Ytchpnnengjlpmaa.Pure
