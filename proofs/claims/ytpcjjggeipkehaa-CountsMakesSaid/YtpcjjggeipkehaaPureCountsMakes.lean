/- CountsMakes: for all counts and bits of their kinds the program's Check, Next, Total and Turn return what the reference's return; no condition. -/
import Derived.Test.YtpcjjggeipkehaaXCountsMakesx4
import Derived.OpenShut
set_option linter.unusedVariables false
set_option linter.unusedSimpArgs false
namespace Go.Proofs.Ytpcjjggeipkehaa.Pure
open Go.RowKit Go.Proofs.Ytpcjjggeipkehaa.XCountsMakes Go.Proofs.YtpcjjggeipkehaaW.PrintWords Go.Proofs.YtpcjjggeipkehaaW.PrintLast
theorem w32 {x : Int} (h : -2147483648 ≤ x ∧ x ≤ 2147483647) : wrap32 x = x := by unfold wrap32; omega
theorem w64 {x : Int} (h : -9223372036854775808 ≤ x ∧ x ≤ 9223372036854775807) : wrap64 x = x := by unfold wrap64; omega
/-- A valid count: two numbers and the last bit. -/
def Valid (a b c : Int) : Prop := (a = 0 ∧ b = 0 ∧ c = 0) ∨ (c = 0 ∧ 1 ≤ a ∧ a ≤ 12 ∧ 0 ≤ b ∧ b ≤ 7) ∨ (c = 1 ∧ 1 ≤ b ∧ b ≤ 12 ∧ 0 ≤ a ∧ a ≤ 7)
theorem Valid.bounds {a b c : Int} (h : Valid a b c) : 0 ≤ a ∧ a ≤ 12 ∧ 0 ≤ b ∧ b ≤ 12 ∧ 0 ≤ c ∧ c ≤ 1 := by unfold Valid at h; omega
theorem check_in {a b c : Int} (h : Valid a b c) : counts_Check.f a b c = some 0 := by
  unfold Valid at h
  unfold counts_Check.f
  rw [if_neg (by omega)]
  by_cases z : a = 0 ∧ b = 0 ∧ c = 0
  · rw [if_pos z]
  · rw [if_neg z, if_neg (by omega)]
    by_cases y : c = 0
    · rw [if_pos y, if_neg (by omega)]
    · rw [if_neg y, if_neg (by omega)]
theorem check_out {a b c : Int} (hc : 0 ≤ c) (h : ¬ Valid a b c) : counts_Check.f a b c = some 8 := by
  unfold Valid at h
  unfold counts_Check.f
  rw [if_neg (by omega), if_neg (by omega)]
  by_cases x : c > 1
  · rw [if_pos x]
  · rw [if_neg x]
    by_cases y : c = 0
    · rw [if_pos y, if_pos (by omega)]
    · rw [if_neg y, if_pos (by omega)]
theorem less_in {x : Int} (h0 : 0 ≤ x) (h1 : x ≤ 12) : 0 ≤ counts_next.less x ∧ counts_next.less x ≤ 7 ∧ counts_next.less x ≤ x := by unfold counts_next.less; split <;> omega
/-- The count after a bit. -/
def nxt (a b d : Int) : Int × Int × Int := if d = 0 then (if a < 12 then a + 1 else 12, counts_next.less b, 0) else (counts_next.less a, if b < 12 then b + 1 else 12, 1)
theorem next_valid {a b d : Int} (ha : 0 ≤ a) (ha' : a ≤ 12) (hb : 0 ≤ b) (hb' : b ≤ 12) : Valid (nxt a b d).1 (nxt a b d).2.1 (nxt a b d).2.2 := by
  have la := less_in ha ha'
  have lb := less_in hb hb'
  unfold nxt Valid
  by_cases h : d = 0
  · rw [if_pos h]
    right; left
    refine ⟨rfl, ?_, ?_, lb.1, lb.2.1⟩ <;> (dsimp only; split <;> omega)
  · rw [if_neg h]
    right; right
    refine ⟨rfl, ?_, ?_, la.1, la.2.1⟩ <;> (dsimp only; split <;> omega)
theorem next_in {a b c d : Int} (h : Valid a b c) (hd : d = 0 ∨ d = 1) : counts_next.f a b c d = some (nxt a b d) := by
  have v := h.bounds
  unfold counts_next.f nxt
  rw [if_pos (by omega)]
  rcases hd with rfl | rfl
  · rw [if_pos rfl, if_pos rfl]
  · rw [if_neg (show ¬ (1 : Int) = 0 by decide), if_pos rfl, if_neg (show ¬ (1 : Int) = 0 by decide)]
theorem rcheck_in {a b c : Int} (k : Nat) (h : Valid a b c) : bitloftref07_Check.f (k + 1) a b c = some 0 := by
  unfold Valid at h
  have jt : bitloftref07_Check.j0 (k + 1) true a b c = some 0 := by simp only [bitloftref07_Check.j0, if_true]
  have jf : ¬ (a = 0 ∧ b = 0 ∧ c = 0) → bitloftref07_Check.j0 (k + 1) false a b c = some 0 := by
    intro z
    simp only [bitloftref07_Check.j0]
    rw [if_neg (by decide)]
    by_cases y : c = 1
    · rw [if_pos y, if_neg (by omega), if_neg (by omega), if_neg (by omega), if_neg (by omega), if_neg (by omega)]
    · rw [if_neg y, if_neg (by omega), if_neg (by omega), if_neg (by omega), if_neg (by omega), if_neg (by omega)]
  unfold bitloftref07_Check.f
  by_cases x : a = 0
  · rw [if_pos x]
    by_cases y : b = 0
    · rw [if_pos y]
      by_cases z : c = 0
      · rw [show (c == 0) = true from by simp [z], jt]
      · rw [show (c == 0) = false from by simp [z], jf (by omega)]
    · rw [if_neg y, jf (by omega)]
  · rw [if_neg x, jf (by omega)]
theorem rcheck_out {a b c : Int} (k : Nat) (hc : 0 ≤ c) (h : ¬ Valid a b c) : bitloftref07_Check.f (k + 1) a b c = some 8 := by
  unfold Valid at h
  have jf : bitloftref07_Check.j0 (k + 1) false a b c = some 8 := by
    simp only [bitloftref07_Check.j0]
    rw [if_neg (by decide)]
    by_cases y : c = 1
    · rw [if_pos y]
      repeat' split
      all_goals first | rfl | omega
    · rw [if_neg y]
      repeat' split
      all_goals first | rfl | omega
  unfold bitloftref07_Check.f
  by_cases x : a = 0
  · rw [if_pos x]
    by_cases y : b = 0
    · rw [if_pos y, show (c == 0) = false from by simp; omega, jf]
    · rw [if_neg y, jf]
  · rw [if_neg x, jf]
theorem shrunk_in {x : Int} (h0 : 0 ≤ x) (h1 : x ≤ 12) : bitloftref07_Shrunk.f x = some (counts_next.less x) := by
  unfold bitloftref07_Shrunk.f counts_next.less
  by_cases c : x ≤ 2
  · rw [if_pos c, if_neg (by omega)]
  · rw [if_neg c, if_pos (by omega), Int.tdiv_eq_ediv_of_nonneg h0, w32 (x := x / 2) (by omega), w32 (by omega)]
theorem after_in {a b c d : Int} (h : Valid a b c) (hd : d = 0 ∨ d = 1) : bitloftref07_After.f a b c d = some (nxt a b d) := by
  have v := h.bounds
  unfold bitloftref07_After.f nxt
  rw [shrunk_in v.1 v.2.1, shrunk_in v.2.2.1 v.2.2.2.1, w32 (x := a + 1) (by omega), w32 (x := b + 1) (by omega)]
  simp only [Option.bind_some]
  have e1 : mn (a + 1) 12 = if a < 12 then a + 1 else 12 := by unfold mn; split <;> split <;> omega
  have e2 : mn (b + 1) 12 = if b < 12 then b + 1 else 12 := by unfold mn; split <;> split <;> omega
  rw [e1, e2]
  by_cases z : d = 0
  · rw [if_pos z, if_pos z]
  · rw [if_neg z, if_neg z]
theorem next_ok {a b c d : Int} (h : Valid a b c) (hd : d = 0 ∨ d = 1) : counts_Next.f a b c d = some ((nxt a b d).1, (nxt a b d).2.1, (nxt a b d).2.2, 0) := by
  unfold counts_Next.f
  rw [check_in h]
  simp only [Option.bind_some, if_true]
  rw [if_neg (by omega), next_in h hd]
  rfl
/-- A count, turned. -/
def trn (a b c : Int) : Int × Int × Int := if a = 0 ∧ b = 0 then (a, b, c) else (b, a, 1 - c)
theorem turn_valid {a b c : Int} (h : Valid a b c) : Valid (trn a b c).1 (trn a b c).2.1 (trn a b c).2.2 := by
  unfold trn
  by_cases z : a = 0 ∧ b = 0
  · rw [if_pos z]; exact h
  · rw [if_neg z]; unfold Valid at h ⊢; dsimp only; omega
theorem turn_in {a b c : Int} (h : Valid a b c) : counts_Turn.f a b c = some ((trn a b c).1, (trn a b c).2.1, (trn a b c).2.2, 0) := by
  unfold counts_Turn.f trn
  rw [check_in h]
  simp only [Option.bind_some, if_true]
  by_cases z : a = 0 ∧ b = 0
  · have : c = 0 := by unfold Valid at h; omega
    rw [if_pos z, if_pos (by simp [z.1, z.2, this])]
  · rw [if_neg z, if_neg (by simp; omega)]
    have : c = 0 ∨ c = 1 := by have := h.bounds; omega
    rcases this with rfl | rfl
    · rfl
    · rfl
theorem rturned_in {a b c : Int} (h : Valid a b c) : bitloftref07_Turned.f a b c = some (trn a b c) := by
  have v := h.bounds
  unfold bitloftref07_Turned.f trn
  by_cases x : a = 0
  · rw [if_pos x]
    by_cases y : b = 0
    · rw [if_pos y, if_pos ⟨x, y⟩]
    · rw [if_neg y, if_neg (by omega), show (1 - c) % 256 = 1 - c from by omega]
  · rw [if_neg x, if_neg (by omega), show (1 - c) % 256 = 1 - c from by omega]
theorem CountsMakes : bitloftlaw07_CountsMakes.Pure := by
  intro a b c d ha hb hc hd
  replace hc := bounds_u8 hc
  replace hd := bounds_u8 hd
  refine ⟨9, ?_⟩
  unfold bitloftlaw07_CountsMakes.f bitloftref07_Next.f bitloftref07_Total.f bitloftref07_Turn.f
  by_cases h : Valid a b c
  · have N : ∃ p, counts_Next.f a b c d = some p ∧ (if d > 1 then some (0, 0, 0, 2) else (bitloftref07_After.f a b c d).bind fun q => some (q.1, q.2.1, q.2.2, 0)) = some p := by
      by_cases e : d > 1
      · refine ⟨_, ?_, if_pos e⟩
        unfold counts_Next.f
        rw [check_in h]
        simp only [Option.bind_some, if_true]
        rw [if_pos e]
      · refine ⟨_, next_ok h (by omega), ?_⟩
        rw [if_neg e, after_in h (by omega)]
        rfl
    obtain ⟨p, n1, n2⟩ := N
    have T : counts_Total.f a b c = some (wrap32 (a + b), 0) := by
      unfold counts_Total.f
      rw [check_in h]
      rfl
    simp only [rcheck_in 8 h, check_in h, Option.bind_some, if_true]
    rw [n1, n2, T, turn_in h, rturned_in h]
    simp [bitloftlaw07_CountsMakes.j0]
  · have n1 : counts_Next.f a b c d = some (0, 0, 0, 8) := by
      unfold counts_Next.f
      rw [check_out hc.1 h]
      rfl
    have n2 : counts_Total.f a b c = some (0, 8) := by
      unfold counts_Total.f
      rw [check_out hc.1 h]
      rfl
    have n3 : counts_Turn.f a b c = some (0, 0, 0, 8) := by
      unfold counts_Turn.f
      rw [check_out hc.1 h]
      rfl
    simp only [rcheck_out 8 hc.1 h, check_out hc.1 h, n1, n2, n3, Option.bind_some]
    rfl
end Go.Proofs.Ytpcjjggeipkehaa.Pure
