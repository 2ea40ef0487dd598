/- CountsNames: the law (it has no arguments) returns true; no condition. -/
import Derived.Test.YtpcjjggeipkehaaXCountsNamesx4
import Derived.OpenShut
set_option linter.unusedVariables false
set_option linter.unusedSimpArgs false
namespace Go.Proofs.Ytpcjjggeipkehaa.Pure
open Go.RowKit Go.Proofs.Ytpcjjggeipkehaa.XCountsNames Go.Proofs.YtpcjjggeipkehaaW.PrintWords Go.Proofs.YtpcjjggeipkehaaW.PrintLast
theorem w32 {x : Int} (h : -2147483648 ≤ x ∧ x ≤ 2147483647) : wrap32 x = x := by unfold wrap32; omega
theorem w64 {x : Int} (h : -9223372036854775808 ≤ x ∧ x ≤ 9223372036854775807) : wrap64 x = x := by unfold wrap64; omega
/-- A valid count: two numbers and the last bit. -/
def Valid (a b c : Int) : Prop := (a = 0 ∧ b = 0 ∧ c = 0) ∨ (c = 0 ∧ 1 ≤ a ∧ a ≤ 12 ∧ 0 ≤ b ∧ b ≤ 7) ∨ (c = 1 ∧ 1 ≤ b ∧ b ≤ 12 ∧ 0 ≤ a ∧ a ≤ 7)
theorem Valid.bounds {a b c : Int} (h : Valid a b c) : 0 ≤ a ∧ a ≤ 12 ∧ 0 ≤ b ∧ b ≤ 12 ∧ 0 ≤ c ∧ c ≤ 1 := by unfold Valid at h; omega
theorem check_in {a b c : Int} (h : Valid a b c) : counts_Check.f a b c = some 0 := by
  unfold Valid at h
  unfold counts_Check.f
  rw [if_neg (by omega)]
  by_cases z : a = 0 ∧ b = 0 ∧ c = 0
  · rw [if_pos z]
  · rw [if_neg z, if_neg (by omega)]
    by_cases y : c = 0
    · rw [if_pos y, if_neg (by omega)]
    · rw [if_neg y, if_neg (by omega)]
theorem check_out {a b c : Int} (hc : 0 ≤ c) (h : ¬ Valid a b c) : counts_Check.f a b c = some 8 := by
  unfold Valid at h
  unfold counts_Check.f
  rw [if_neg (by omega), if_neg (by omega)]
  by_cases x : c > 1
  · rw [if_pos x]
  · rw [if_neg x]
    by_cases y : c = 0
    · rw [if_pos y, if_pos (by omega)]
    · rw [if_neg y, if_pos (by omega)]
theorem less_in {x : Int} (h0 : 0 ≤ x) (h1 : x ≤ 12) : 0 ≤ counts_next.less x ∧ counts_next.less x ≤ 7 ∧ counts_next.less x ≤ x := by unfold counts_next.less; split <;> omega
/-- The count after a bit. -/
def nxt (a b d : Int) : Int × Int × Int := if d = 0 then (if a < 12 then a + 1 else 12, counts_next.less b, 0) else (counts_next.less a, if b < 12 then b + 1 else 12, 1)
theorem next_valid {a b d : Int} (ha : 0 ≤ a) (ha' : a ≤ 12) (hb : 0 ≤ b) (hb' : b ≤ 12) : Valid (nxt a b d).1 (nxt a b d).2.1 (nxt a b d).2.2 := by
  have la := less_in ha ha'
  have lb := less_in hb hb'
  unfold nxt Valid
  by_cases h : d = 0
  · rw [if_pos h]
    right; left
    refine ⟨rfl, ?_, ?_, lb.1, lb.2.1⟩ <;> (dsimp only; split <;> omega)
  · rw [if_neg h]
    right; right
    refine ⟨rfl, ?_, ?_, la.1, la.2.1⟩ <;> (dsimp only; split <;> omega)
theorem next_in {a b c d : Int} (h : Valid a b c) (hd : d = 0 ∨ d = 1) : counts_next.f a b c d = some (nxt a b d) := by
  have v := h.bounds
  unfold counts_next.f nxt
  rw [if_pos (by omega)]
  rcases hd with rfl | rfl
  · rw [if_pos rfl, if_pos rfl]
  · rw [if_neg (show ¬ (1 : Int) = 0 by decide), if_pos rfl, if_neg (show ¬ (1 : Int) = 0 by decide)]
instance (a b c : Int) : Decidable (Valid a b c) := by unfold Valid; infer_instance
theorem drop_rd {l : List Int} {i : Nat} (h : i < l.length) : l.drop i = rd l (i : Int) :: l.drop (i + 1) := by
  have e : rd l (i : Int) = l[i] := by simp [rd, List.getD_eq_getElem?_getD, h]
  rw [e]
  exact List.drop_eq_getElem_cons h
/-- Are all of a list bits? -/
def bits (l : List Int) : Bool := l.all fun x => decide (x ≤ 1)
theorem bits_cons (x : Int) (l : List Int) : bits (x :: l) = (decide (x ≤ 1) && bits l) := rfl
/-- The count after bits. -/
def rn : List Int → Int → Int → Int → Int × Int × Int
  | [], a, b, c => (a, b, c)
  | d :: l, a, b, _ => rn l (nxt a b d).1 (nxt a b d).2.1 (nxt a b d).2.2
theorem rn_valid (l : List Int) : ∀ a b c, Valid a b c → Valid (rn l a b c).1 (rn l a b c).2.1 (rn l a b c).2.2 := by
  induction l with
  | nil => exact fun a b c h => h
  | cons d l ih =>
    intro a b c h
    have v := h.bounds
    exact ih _ _ _ (next_valid v.1 v.2.1 v.2.2.1 v.2.2.2.1)
theorem rn_append (l m : List Int) : ∀ a b c, rn (l ++ m) a b c = rn m (rn l a b c).1 (rn l a b c).2.1 (rn l a b c).2.2 := by
  induction l with
  | nil => exact fun a b c => rfl
  | cons d l ih => exact fun a b c => ih _ _ _
theorem max_go {l : List Int} (hl : l.length ≤ 140737488351232) (d : Nat) : ∀ (k i : Nat) (m : Int), i + d = l.length → d < k → ∃ r, slices_Max_uint8_uint8.l0 k l m (i : Int) = some r ∧ (r > 1 ↔ ¬ (m ≤ 1 ∧ bits (l.drop i) = true)) := by
  induction d with
  | zero =>
    intro k i m hd hk
    obtain ⟨k, rfl⟩ : ∃ q, k = q + 1 := ⟨k - 1, by omega⟩
    refine ⟨m, ?_, ?_⟩
    · simp only [slices_Max_uint8_uint8.l0]
      rw [if_neg (by omega)]
    · rw [List.drop_of_length_le (by omega)]
      simp [bits]
  | succ d ih =>
    intro k i m hd hk
    obtain ⟨k, rfl⟩ : ∃ q, k = q + 1 := ⟨k - 1, by omega⟩
    obtain ⟨r, h1, h2⟩ := ih k (i + 1) (mx m (rd l (i : Int))) (by omega) (by omega)
    refine ⟨r, ?_, ?_⟩
    · simp only [slices_Max_uint8_uint8.l0]
      rw [if_pos (by omega), if_pos (by omega), w64 (by omega)]
      exact h1
    · rw [h2, drop_rd (l := l) (i := i) (by omega), bits_cons]
      have : mx m (rd l (i : Int)) ≤ 1 ↔ m ≤ 1 ∧ rd l (i : Int) ≤ 1 := by unfold mx; split <;> omega
      rw [this]
      simp only [Bool.and_eq_true, decide_eq_true_eq, and_assoc]
theorem max_bits {l : List Int} (hl : l.length ≤ 140737488351232) (h0 : 0 < l.length) (k : Nat) (hk : l.length < k) : ∃ r, slices_Max_uint8_uint8.f k l = some r ∧ (r > 1 ↔ ¬ bits l = true) := by
  obtain ⟨r, h1, h2⟩ := max_go hl (l.length - 1) k 1 (rd l 0) (by omega) (by omega)
  refine ⟨r, ?_, ?_⟩
  · unfold slices_Max_uint8_uint8.f
    rw [if_neg (by omega), if_pos (by omega)]
    exact h1
  · rw [h2]
    have e := congrArg bits (drop_rd (l := l) (i := 0) h0)
    rw [List.drop_zero, bits_cons] at e
    rw [e]
    simp
theorem run_go {l : List Int} (hl : l.length ≤ 140737488351232) (h01 : ∀ x ∈ l, 0 ≤ x) (hb : bits l = true) (d : Nat) : ∀ (k i : Nat) (a b c : Int), i + d = l.length → d < k → Valid a b c →
    counts_Run.l0 k l (l.length : Int) (i : Int) a b c = some ((rn (l.drop i) a b c).1, (rn (l.drop i) a b c).2.1, (rn (l.drop i) a b c).2.2, 0) := by
  induction d with
  | zero =>
    intro k i a b c hd hk h
    obtain ⟨k, rfl⟩ : ∃ q, k = q + 1 := ⟨k - 1, by omega⟩
    simp only [counts_Run.l0]
    rw [if_neg (by omega), List.drop_of_length_le (by omega)]
    rfl
  | succ d ih =>
    intro k i a b c hd hk h
    obtain ⟨k, rfl⟩ : ∃ q, k = q + 1 := ⟨k - 1, by omega⟩
    have v := h.bounds
    have e : rd l (i : Int) = l[i]'(by omega) := by simp [rd, List.getD_eq_getElem?_getD, show i < l.length by omega]
    have m0 : 0 ≤ rd l (i : Int) := by rw [e]; exact h01 _ (List.getElem_mem _)
    have m1 : rd l (i : Int) ≤ 1 := by
      rw [e]
      have := List.all_eq_true.mp hb _ (List.getElem_mem (by omega : i < l.length))
      simpa using this
    simp only [counts_Run.l0]
    rw [if_pos (by omega), if_pos (by omega), if_pos (by omega), next_in h (by omega)]
    simp only [Option.bind_some]
    rw [w64 (by omega), drop_rd (l := l) (i := i) (by omega)]
    exact ih k (i + 1) _ _ _ (by omega) (by omega) (next_valid v.1 v.2.1 v.2.2.1 v.2.2.2.1)
/-- What a run answers. -/
def RunAns (a b c : Int) (l : List Int) : Int × Int × Int × Int :=
  if Valid a b c then (if l.length > 20000 then (0, 0, 0, 4) else if bits l = true then ((rn l a b c).1, (rn l a b c).2.1, (rn l a b c).2.2, 0) else (0, 0, 0, 2)) else (0, 0, 0, 8)
theorem run_is {a b c : Int} {l : List Int} (hc : 0 ≤ c) (h01 : ∀ x ∈ l, 0 ≤ x) (k : Nat) (hk : 20002 ≤ k ∨ l.length + 2 ≤ k) : counts_Run.f k a b c l = some (RunAns a b c l) := by
  unfold counts_Run.f RunAns
  by_cases h : Valid a b c
  · rw [check_in h, if_pos h]
    simp only [Option.bind_some, if_true]
    by_cases g : l.length > 20000
    · rw [if_pos (by omega), if_pos g]
    · rw [if_neg (by omega), if_neg g]
      have go : bits l = true → counts_Run.j0 k l a b c = some ((rn l a b c).1, (rn l a b c).2.1, (rn l a b c).2.2, 0) := by
        intro hb
        obtain ⟨k, rfl⟩ : ∃ q, k = q + 1 := ⟨k - 1, by omega⟩
        simp only [counts_Run.j0]
        exact run_go (by omega) h01 hb l.length k 0 a b c (by omega) (by omega) h
      by_cases z : 0 < l.length
      · obtain ⟨r, r1, r2⟩ := max_bits (l := l) (by omega) z k (by omega)
        rw [if_pos (by omega), r1]
        simp only [Option.bind_some]
        by_cases hb : bits l = true
        · rw [if_neg (by rw [r2]; simp [hb]), if_pos hb, go hb]
        · rw [if_pos (r2.mpr hb), if_neg hb]
      · have e : l = [] := List.eq_nil_of_length_eq_zero (by omega)
        rw [if_neg (by omega), if_pos (by rw [e]; rfl), go (by rw [e]; rfl)]
  · rw [check_out hc h, if_neg h]
    simp only [Option.bind_some]
    rw [if_neg (by decide)]
theorem next_ok {a b c d : Int} (h : Valid a b c) (hd : d = 0 ∨ d = 1) : counts_Next.f a b c d = some ((nxt a b d).1, (nxt a b d).2.1, (nxt a b d).2.2, 0) := by
  unfold counts_Next.f
  rw [check_in h]
  simp only [Option.bind_some, if_true]
  rw [if_neg (by omega), next_in h hd]
  rfl
/-- A number, shrunk n times. -/
def itr : Nat → Int → Int
  | 0, x => x
  | n + 1, x => itr n (counts_next.less x)
theorem itr_small (n : Nat) : ∀ x, 0 ≤ x → x ≤ 2 → itr n x = x := by
  induction n with
  | zero => exact fun x _ _ => rfl
  | succ n ih =>
    intro x h0 h2
    show itr n (counts_next.less x) = x
    rw [show counts_next.less x = x from by unfold counts_next.less; rw [if_neg (by omega)]]
    exact ih x h0 h2
theorem itr_four (n : Nat) (x : Int) (h0 : 0 ≤ x) (h1 : x ≤ 12) : itr (n + 4) x ≤ 2 := by
  have e : itr (n + 4) x = itr n (counts_next.less (counts_next.less (counts_next.less (counts_next.less x)))) := rfl
  have b : 0 ≤ counts_next.less (counts_next.less (counts_next.less (counts_next.less x))) ∧ counts_next.less (counts_next.less (counts_next.less (counts_next.less x))) ≤ 2 := by
    unfold counts_next.less
    repeat' split
    all_goals omega
  rw [e, itr_small n _ b.1 b.2]
  exact b.2
theorem rn_zeros (n : Nat) : ∀ a b c, 0 ≤ a → a ≤ 12 → rn (List.replicate (n + 1) 0) a b c = (if a + (n + 1 : Nat) < 12 then a + (n + 1 : Nat) else 12, itr (n + 1) b, 0) := by
  induction n with
  | zero =>
    intro a b c h0 h1
    simp only [List.replicate, rn, nxt, if_true, itr]
    congr 1
    split <;> split <;> omega
  | succ n ih =>
    intro a b c h0 h1
    show rn (List.replicate (n + 1) 0) (nxt a b 0).1 (nxt a b 0).2.1 (nxt a b 0).2.2 = _
    simp only [nxt, if_true]
    rw [ih _ _ _ (by split <;> omega) (by split <;> omega)]
    congr 1
    repeat' split
    all_goals omega
theorem rn_ones (n : Nat) : ∀ a b c, 0 ≤ b → b ≤ 12 → rn (List.replicate (n + 1) 1) a b c = (itr (n + 1) a, if b + (n + 1 : Nat) < 12 then b + (n + 1 : Nat) else 12, 1) := by
  induction n with
  | zero =>
    intro a b c h0 h1
    show nxt a b 1 = _
    unfold nxt
    rw [if_neg (by decide)]
    congr 2
    split <;> split <;> omega
  | succ n ih =>
    intro a b c h0 h1
    show rn (List.replicate (n + 1) 1) (nxt a b 1).1 (nxt a b 1).2.1 (nxt a b 1).2.2 = _
    have e : nxt a b 1 = (counts_next.less a, if b < 12 then b + 1 else 12, 1) := by unfold nxt; rw [if_neg (by decide)]
    rw [e]
    dsimp only
    rw [ih _ _ _ (by split <;> omega) (by split <;> omega)]
    refine Prod.ext rfl (Prod.ext ?_ rfl)
    dsimp only
    repeat' split
    all_goals omega
theorem run_zeros_n (n k : Nat) (hn : n + 1 ≤ 20000) (h12 : 12 ≤ n) (hk : 20002 ≤ k) : counts_Run.f k 0 0 0 (List.replicate (n + 1) 0) = some (12, 0, 0, 0) := by
  have b1 : bits (List.replicate (n + 1) 0) = true := List.all_eq_true.mpr fun x hx => by
    have := List.eq_of_mem_replicate hx
    simp
    omega
  have v : Valid 0 0 0 := .inl ⟨rfl, rfl, rfl⟩
  have r := run_is (a := 0) (b := 0) (c := 0) (l := List.replicate (n + 1) 0) (by decide) (fun x hx => by have := List.eq_of_mem_replicate hx; omega) k (.inl hk)
  unfold RunAns at r
  rw [if_pos v, if_neg (by rw [List.length_replicate]; omega), if_pos b1, rn_zeros n 0 0 0 (by decide) (by decide), itr_small _ 0 (by decide) (by decide), if_neg (by omega)] at r
  exact r
theorem run_zeros (k : Nat) (hk : 20002 ≤ k) : counts_Run.f k 0 0 0 (List.replicate 20000 0) = some (12, 0, 0, 0) := run_zeros_n 19999 k (by decide) (by decide) hk
theorem ones_go (k : Nat) (hk : 20004 ≤ k) : bitloftlaw07_CountsNames.l1 k [0, 1, 2, 2, 3, 3, 4, 4, 5, 5, 6, 6, 7] 13 = some true := by
  obtain ⟨k, rfl⟩ : ∃ q, k = q + 2 := ⟨k - 2, by omega⟩
  simp only [bitloftlaw07_CountsNames.l1]
  rw [if_neg (by decide), run_zeros _ (by omega)]
  simp [bitloftlaw07_CountsNames.j3]
theorem one_step (k : Nat) (n : Int) (h : n = 1 ∨ n = 2 ∨ n = 3 ∨ n = 4 ∨ n = 5 ∨ n = 6 ∨ n = 7 ∨ n = 8 ∨ n = 9 ∨ n = 10 ∨ n = 11 ∨ n = 12) :
    bitloftlaw07_CountsNames.l1 (k + 1) [0, 1, 2, 2, 3, 3, 4, 4, 5, 5, 6, 6, 7] n = bitloftlaw07_CountsNames.l1 k [0, 1, 2, 2, 3, 3, 4, 4, 5, 5, 6, 6, 7] (n + 1) := by
  simp only [bitloftlaw07_CountsNames.l1]
  rcases h with rfl | rfl | rfl | rfl | rfl | rfl | rfl | rfl | rfl | rfl | rfl | rfl
  all_goals
    rw [if_pos (by decide), next_ok (by unfold Valid; omega) (.inr rfl)]
    simp only [Option.bind_some, if_true]
    rw [if_pos (by decide), if_pos (by decide), if_neg (by decide), w32 (by decide)]
theorem ones_all (k : Nat) (hk : 20020 ≤ k) : bitloftlaw07_CountsNames.l1 k [0, 1, 2, 2, 3, 3, 4, 4, 5, 5, 6, 6, 7] 1 = some true := by
  obtain ⟨k, rfl⟩ : ∃ q, k = q + 12 := ⟨k - 12, by omega⟩
  rw [one_step _ 1 (by omega), one_step _ _ (by omega), one_step _ _ (by omega), one_step _ _ (by omega), one_step _ _ (by omega), one_step _ _ (by omega), one_step _ _ (by omega), one_step _ _ (by omega), one_step _ _ (by omega), one_step _ _ (by omega), one_step _ _ (by omega), one_step _ _ (by omega)]
  exact ones_go k (by omega)
def bad : List S23 := [⟨0, 0, 1⟩, ⟨1, 0, 1⟩, ⟨0, 1, 0⟩, ⟨13, 0, 0⟩, ⟨1, 8, 0⟩, ⟨-1, 0, 0⟩, ⟨1, -1, 0⟩, ⟨1, 1, 2⟩, ⟨8, 1, 1⟩, ⟨0, 13, 1⟩, ⟨0, 0, 255⟩]
theorem bad_checks : ∀ i : Fin 11, counts_Check.f (rd_T23 bad (i.val : Int)).f0 (rd_T23 bad (i.val : Int)).f1 (rd_T23 bad (i.val : Int)).f2 = some 8 := by decide +kernel
theorem bads_go (d : Nat) : ∀ (k i : Nat), i + d = 11 → 2 * d + 20022 ≤ k → bitloftlaw07_CountsNames.l0 k bad (i : Int) = some true := by
  induction d with
  | zero =>
    intro k i hd hk
    obtain ⟨k, rfl⟩ : ∃ q, k = q + 1 := ⟨k - 1, by omega⟩
    obtain rfl : i = 11 := by omega
    simp only [bitloftlaw07_CountsNames.l0]
    rw [if_neg (by decide)]
    exact ones_all k (by omega)
  | succ d ih =>
    intro k i hd hk
    obtain ⟨k, rfl⟩ : ∃ q, k = q + 2 := ⟨k - 2, by omega⟩
    have c := bad_checks ⟨i, by omega⟩
    dsimp only at c
    simp only [bitloftlaw07_CountsNames.l0]
    rw [if_pos (by show (i : Int) < 11; omega), if_pos (by omega)]
    unfold counts_Next.f counts_Run.f counts_Total.f counts_Turn.f
    rw [c]
    simp only [Option.bind_some]
    rw [if_neg (by decide)]
    simp only [Option.bind_some, if_true, bne_self_eq_false, bitloftlaw07_CountsNames.j1]
    rw [if_neg (by decide)]
    simp only [Option.bind_some, if_true, bne_self_eq_false, bitloftlaw07_CountsNames.j1]
    rw [if_neg (by decide), w64 (by omega)]
    exact ih k (i + 1) (by omega) (by omega)
theorem CountsNames : bitloftlaw07_CountsNames.Pure := ⟨21000, bads_go 11 21000 0 (by omega) (by omega)⟩
end Go.Proofs.Ytpcjjggeipkehaa.Pure
