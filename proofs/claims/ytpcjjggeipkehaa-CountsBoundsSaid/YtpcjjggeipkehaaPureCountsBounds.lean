/- CountsBounds: for all counts and bits of their kinds the law returns true; no condition. -/
import Derived.Test.YtpcjjggeipkehaaXCountsBoundsx4
import Derived.OpenShut
set_option linter.unusedVariables false
set_option linter.unusedSimpArgs false
namespace Go.Proofs.Ytpcjjggeipkehaa.Pure
open Go.RowKit Go.Proofs.Ytpcjjggeipkehaa.XCountsBounds Go.Proofs.YtpcjjggeipkehaaW.PrintWords Go.Proofs.YtpcjjggeipkehaaW.PrintLast
theorem w32 {x : Int} (h : -2147483648 ≤ x ∧ x ≤ 2147483647) : wrap32 x = x := by unfold wrap32; omega
theorem w64 {x : Int} (h : -9223372036854775808 ≤ x ∧ x ≤ 9223372036854775807) : wrap64 x = x := by unfold wrap64; omega
/-- A valid count: two numbers and the last bit. -/
def Valid (a b c : Int) : Prop := (a = 0 ∧ b = 0 ∧ c = 0) ∨ (c = 0 ∧ 1 ≤ a ∧ a ≤ 12 ∧ 0 ≤ b ∧ b ≤ 7) ∨ (c = 1 ∧ 1 ≤ b ∧ b ≤ 12 ∧ 0 ≤ a ∧ a ≤ 7)
theorem Valid.bounds {a b c : Int} (h : Valid a b c) : 0 ≤ a ∧ a ≤ 12 ∧ 0 ≤ b ∧ b ≤ 12 ∧ 0 ≤ c ∧ c ≤ 1 := by unfold Valid at h; omega
theorem check_in {a b c : Int} (h : Valid a b c) : counts_Check.f a b c = some 0 := by
  unfold Valid at h
  unfold counts_Check.f
  rw [if_neg (by omega)]
  by_cases z : a = 0 ∧ b = 0 ∧ c = 0
  · rw [if_pos z]
  · rw [if_neg z, if_neg (by omega)]
    by_cases y : c = 0
    · rw [if_pos y, if_neg (by omega)]
    · rw [if_neg y, if_neg (by omega)]
theorem check_out {a b c : Int} (hc : 0 ≤ c) (h : ¬ Valid a b c) : counts_Check.f a b c = some 8 := by
  unfold Valid at h
  unfold counts_Check.f
  rw [if_neg (by omega), if_neg (by omega)]
  by_cases x : c > 1
  · rw [if_pos x]
  · rw [if_neg x]
    by_cases y : c = 0
    · rw [if_pos y, if_pos (by omega)]
    · rw [if_neg y, if_pos (by omega)]
theorem less_in {x : Int} (h0 : 0 ≤ x) (h1 : x ≤ 12) : 0 ≤ counts_next.less x ∧ counts_next.less x ≤ 7 ∧ counts_next.less x ≤ x := by unfold counts_next.less; split <;> omega
/-- The count after a bit. -/
def nxt (a b d : Int) : Int × Int × Int := if d = 0 then (if a < 12 then a + 1 else 12, counts_next.less b, 0) else (counts_next.less a, if b < 12 then b + 1 else 12, 1)
theorem next_valid {a b d : Int} (ha : 0 ≤ a) (ha' : a ≤ 12) (hb : 0 ≤ b) (hb' : b ≤ 12) : Valid (nxt a b d).1 (nxt a b d).2.1 (nxt a b d).2.2 := by
  have la := less_in ha ha'
  have lb := less_in hb hb'
  unfold nxt Valid
  by_cases h : d = 0
  · rw [if_pos h]
    right; left
    refine ⟨rfl, ?_, ?_, lb.1, lb.2.1⟩ <;> (dsimp only; split <;> omega)
  · rw [if_neg h]
    right; right
    refine ⟨rfl, ?_, ?_, la.1, la.2.1⟩ <;> (dsimp only; split <;> omega)
theorem next_in {a b c d : Int} (h : Valid a b c) (hd : d = 0 ∨ d = 1) : counts_next.f a b c d = some (nxt a b d) := by
  have v := h.bounds
  unfold counts_next.f nxt
  rw [if_pos (by omega)]
  rcases hd with rfl | rfl
  · rw [if_pos rfl, if_pos rfl]
  · rw [if_neg (show ¬ (1 : Int) = 0 by decide), if_pos rfl, if_neg (show ¬ (1 : Int) = 0 by decide)]
theorem rcheck_in {a b c : Int} (k : Nat) (h : Valid a b c) : bitloftref07_Check.f (k + 1) a b c = some 0 := by
  unfold Valid at h
  have jt : bitloftref07_Check.j0 (k + 1) true a b c = some 0 := by simp only [bitloftref07_Check.j0, if_true]
  have jf : ¬ (a = 0 ∧ b = 0 ∧ c = 0) → bitloftref07_Check.j0 (k + 1) false a b c = some 0 := by
    intro z
    simp only [bitloftref07_Check.j0]
    rw [if_neg (by decide)]
    by_cases y : c = 1
    · rw [if_pos y, if_neg (by omega), if_neg (by omega), if_neg (by omega), if_neg (by omega), if_neg (by omega)]
    · rw [if_neg y, if_neg (by omega), if_neg (by omega), if_neg (by omega), if_neg (by omega), if_neg (by omega)]
  unfold bitloftref07_Check.f
  by_cases x : a = 0
  · rw [if_pos x]
    by_cases y : b = 0
    · rw [if_pos y]
      by_cases z : c = 0
      · rw [show (c == 0) = true from by simp [z], jt]
      · rw [show (c == 0) = false from by simp [z], jf (by omega)]
    · rw [if_neg y, jf (by omega)]
  · rw [if_neg x, jf (by omega)]
theorem rcheck_out {a b c : Int} (k : Nat) (hc : 0 ≤ c) (h : ¬ Valid a b c) : bitloftref07_Check.f (k + 1) a b c = some 8 := by
  unfold Valid at h
  have jf : bitloftref07_Check.j0 (k + 1) false a b c = some 8 := by
    simp only [bitloftref07_Check.j0]
    rw [if_neg (by decide)]
    by_cases y : c = 1
    · rw [if_pos y]
      repeat' split
      all_goals first | rfl | omega
    · rw [if_neg y]
      repeat' split
      all_goals first | rfl | omega
  unfold bitloftref07_Check.f
  by_cases x : a = 0
  · rw [if_pos x]
    by_cases y : b = 0
    · rw [if_pos y, show (c == 0) = false from by simp; omega, jf]
    · rw [if_neg y, jf]
  · rw [if_neg x, jf]
theorem next_ok {a b c d : Int} (h : Valid a b c) (hd : d = 0 ∨ d = 1) : counts_Next.f a b c d = some ((nxt a b d).1, (nxt a b d).2.1, (nxt a b d).2.2, 0) := by
  unfold counts_Next.f
  rw [check_in h]
  simp only [Option.bind_some, if_true]
  rw [if_neg (by omega), next_in h hd]
  rfl
theorem CountsBounds : bitloftlaw07_CountsBounds.Pure := by
  intro a b c d ha hb hc hd
  replace hc := bounds_u8 hc
  replace hd := bounds_u8 hd
  refine ⟨9, ?_⟩
  have jt : bitloftlaw07_CountsBounds.j0 9 d true a b c = some true := by simp only [bitloftlaw07_CountsBounds.j0, if_true]; rfl
  unfold bitloftlaw07_CountsBounds.f
  by_cases h : Valid a b c
  · rw [rcheck_in 8 h]
    simp only [Option.bind_some, if_true]
    by_cases e : d > 1
    · rw [decide_eq_true e, jt]
    · rw [decide_eq_false e]
      have bd := h.bounds
      have V := next_valid (a := a) (b := b) (d := d) bd.1 bd.2.1 bd.2.2.1 bd.2.2.2.1
      have B := V.bounds
      have la := less_in bd.1 bd.2.1
      have lb := less_in bd.2.2.1 bd.2.2.2.1
      simp only [bitloftlaw07_CountsBounds.j0]
      rw [if_neg (by decide), next_ok h (by omega)]
      simp only [Option.bind_some]
      unfold counts_Total.f
      rw [check_in V, rcheck_in 7 V]
      simp only [Option.bind_some, if_true]
      have e3 : (nxt a b d).2.2 = d := by unfold nxt; by_cases z : d = 0 <;> simp [z] ; omega
      rw [if_pos e3]
      simp only [bne_self_eq_false, bitloftlaw07_CountsBounds.j1]
      rw [if_neg (by decide)]
      by_cases z : d = 0
      · rw [if_pos z]
        unfold nxt
        rw [if_pos z]
        dsimp only
        rw [w32 (x := a + 1) (by omega), if_pos (by unfold mn; split <;> split <;> omega), if_pos lb.2.2]
        have q : ((decide (b ≤ 2)) == (counts_next.less b == b)) = true := by
          unfold counts_next.less
          by_cases g : b > 2
          · rw [if_pos g, decide_eq_false (by omega)]
            simp
            omega
          · rw [if_neg g, decide_eq_true (by omega)]
            simp
        rw [if_pos q]
        rfl
      · rw [if_neg z]
        unfold nxt
        rw [if_neg z]
        dsimp only
        rw [w32 (x := b + 1) (by omega), if_pos (by unfold mn; split <;> split <;> omega), if_pos la.2.2]
        have q : ((decide (a ≤ 2)) == (counts_next.less a == a)) = true := by
          unfold counts_next.less
          by_cases g : a > 2
          · rw [if_pos g, decide_eq_false (by omega)]
            simp
            omega
          · rw [if_neg g, decide_eq_true (by omega)]
            simp
        rw [if_pos q]
        rfl
  · rw [rcheck_out 8 (by omega) h]
    simp only [Option.bind_some]
    rw [if_neg (by decide), jt]
end Go.Proofs.Ytpcjjggeipkehaa.Pure
