/- A run in two parts is a run, and its state is the one that the bits lead to, for all valid maps, states, rows of at most 100 bits and indices. -/
import Derived.Test.YtmncppbhnjngkaaDoorXAdaptPartsx7
import Derived.OpenShut
set_option linter.unusedVariables false
set_option linter.unusedSimpArgs false
namespace Go.Proofs.YtmncppbhnjngkaaDoor.Pure
open Go.RowKit Go.Proofs.YtmncppbhnjngkaaDoor.XAdaptParts Go.Proofs.YtmncppbhnjngkaaDoorW.PrintWords Go.Proofs.YtmncppbhnjngkaaDoorW.PrintLast
namespace C
theorem w32 {x : Int} (h : -2147483648 ≤ x ∧ x ≤ 2147483647) : wrap32 x = x := by unfold wrap32; omega
theorem w64 {x : Int} (h : -9223372036854775808 ≤ x ∧ x ≤ 9223372036854775807) : wrap64 x = x := by unfold wrap64; omega
/-- A valid count: two numbers and the last bit. -/
def Valid (a b c : Int) : Prop := (a = 0 ∧ b = 0 ∧ c = 0) ∨ (c = 0 ∧ 1 ≤ a ∧ a ≤ 12 ∧ 0 ≤ b ∧ b ≤ 7) ∨ (c = 1 ∧ 1 ≤ b ∧ b ≤ 12 ∧ 0 ≤ a ∧ a ≤ 7)
theorem Valid.bounds {a b c : Int} (h : Valid a b c) : 0 ≤ a ∧ a ≤ 12 ∧ 0 ≤ b ∧ b ≤ 12 ∧ 0 ≤ c ∧ c ≤ 1 := by unfold Valid at h; omega
theorem check_in {a b c : Int} (h : Valid a b c) : counts_Check.f a b c = some 0 := by
  unfold Valid at h
  unfold counts_Check.f
  rw [if_neg (by omega)]
  by_cases z : a = 0 ∧ b = 0 ∧ c = 0
  · rw [if_pos z]
  · rw [if_neg z, if_neg (by omega)]
    by_cases y : c = 0
    · rw [if_pos y, if_neg (by omega)]
    · rw [if_neg y, if_neg (by omega)]
theorem check_out {a b c : Int} (hc : 0 ≤ c) (h : ¬ Valid a b c) : counts_Check.f a b c = some 8 := by
  unfold Valid at h
  unfold counts_Check.f
  rw [if_neg (by omega), if_neg (by omega)]
  by_cases x : c > 1
  · rw [if_pos x]
  · rw [if_neg x]
    by_cases y : c = 0
    · rw [if_pos y, if_pos (by omega)]
    · rw [if_neg y, if_pos (by omega)]
theorem less_in {x : Int} (h0 : 0 ≤ x) (h1 : x ≤ 12) : 0 ≤ counts_next.less x ∧ counts_next.less x ≤ 7 ∧ counts_next.less x ≤ x := by unfold counts_next.less; split <;> omega
/-- The count after a bit. -/
def nxt (a b d : Int) : Int × Int × Int := if d = 0 then (if a < 12 then a + 1 else 12, counts_next.less b, 0) else (counts_next.less a, if b < 12 then b + 1 else 12, 1)
theorem next_valid {a b d : Int} (ha : 0 ≤ a) (ha' : a ≤ 12) (hb : 0 ≤ b) (hb' : b ≤ 12) : Valid (nxt a b d).1 (nxt a b d).2.1 (nxt a b d).2.2 := by
  have la := less_in ha ha'
  have lb := less_in hb hb'
  unfold nxt Valid
  by_cases h : d = 0
  · rw [if_pos h]
    right; left
    refine ⟨rfl, ?_, ?_, lb.1, lb.2.1⟩ <;> (dsimp only; split <;> omega)
  · rw [if_neg h]
    right; right
    refine ⟨rfl, ?_, ?_, la.1, la.2.1⟩ <;> (dsimp only; split <;> omega)
theorem next_in {a b c d : Int} (h : Valid a b c) (hd : d = 0 ∨ d = 1) : counts_next.f a b c d = some (nxt a b d) := by
  have v := h.bounds
  unfold counts_next.f nxt
  rw [if_pos (by omega)]
  rcases hd with rfl | rfl
  · rw [if_pos rfl, if_pos rfl]
  · rw [if_neg (show ¬ (1 : Int) = 0 by decide), if_pos rfl, if_neg (show ¬ (1 : Int) = 0 by decide)]
instance (a b c : Int) : Decidable (Valid a b c) := by unfold Valid; infer_instance
theorem drop_rd {l : List Int} {i : Nat} (h : i < l.length) : l.drop i = rd l (i : Int) :: l.drop (i + 1) := by
  have e : rd l (i : Int) = l[i] := by simp [rd, List.getD_eq_getElem?_getD, h]
  rw [e]
  exact List.drop_eq_getElem_cons h
/-- Are all of a list bits? -/
def bits (l : List Int) : Bool := l.all fun x => decide (x ≤ 1)
theorem bits_cons (x : Int) (l : List Int) : bits (x :: l) = (decide (x ≤ 1) && bits l) := rfl
/-- The count after bits. -/
def rn : List Int → Int → Int → Int → Int × Int × Int
  | [], a, b, c => (a, b, c)
  | d :: l, a, b, _ => rn l (nxt a b d).1 (nxt a b d).2.1 (nxt a b d).2.2
theorem rn_valid (l : List Int) : ∀ a b c, Valid a b c → Valid (rn l a b c).1 (rn l a b c).2.1 (rn l a b c).2.2 := by
  induction l with
  | nil => exact fun a b c h => h
  | cons d l ih =>
    intro a b c h
    have v := h.bounds
    exact ih _ _ _ (next_valid v.1 v.2.1 v.2.2.1 v.2.2.2.1)
theorem rn_append (l m : List Int) : ∀ a b c, rn (l ++ m) a b c = rn m (rn l a b c).1 (rn l a b c).2.1 (rn l a b c).2.2 := by
  induction l with
  | nil => exact fun a b c => rfl
  | cons d l ih => exact fun a b c => ih _ _ _
theorem max_go {l : List Int} (hl : l.length ≤ 140737488351232) (d : Nat) : ∀ (k i : Nat) (m : Int), i + d = l.length → d < k → ∃ r, slices_Max_uint8_uint8.l0 k l m (i : Int) = some r ∧ (r > 1 ↔ ¬ (m ≤ 1 ∧ bits (l.drop i) = true)) := by
  induction d with
  | zero =>
    intro k i m hd hk
    obtain ⟨k, rfl⟩ : ∃ q, k = q + 1 := ⟨k - 1, by omega⟩
    refine ⟨m, ?_, ?_⟩
    · simp only [slices_Max_uint8_uint8.l0]
      rw [if_neg (by omega)]
    · rw [List.drop_of_length_le (by omega)]
      simp [bits]
  | succ d ih =>
    intro k i m hd hk
    obtain ⟨k, rfl⟩ : ∃ q, k = q + 1 := ⟨k - 1, by omega⟩
    obtain ⟨r, h1, h2⟩ := ih k (i + 1) (mx m (rd l (i : Int))) (by omega) (by omega)
    refine ⟨r, ?_, ?_⟩
    · simp only [slices_Max_uint8_uint8.l0]
      rw [if_pos (by omega), if_pos (by omega), w64 (by omega)]
      exact h1
    · rw [h2, drop_rd (l := l) (i := i) (by omega), bits_cons]
      have : mx m (rd l (i : Int)) ≤ 1 ↔ m ≤ 1 ∧ rd l (i : Int) ≤ 1 := by unfold mx; split <;> omega
      rw [this]
      simp only [Bool.and_eq_true, decide_eq_true_eq, and_assoc]
theorem max_bits {l : List Int} (hl : l.length ≤ 140737488351232) (h0 : 0 < l.length) (k : Nat) (hk : l.length < k) : ∃ r, slices_Max_uint8_uint8.f k l = some r ∧ (r > 1 ↔ ¬ bits l = true) := by
  obtain ⟨r, h1, h2⟩ := max_go hl (l.length - 1) k 1 (rd l 0) (by omega) (by omega)
  refine ⟨r, ?_, ?_⟩
  · unfold slices_Max_uint8_uint8.f
    rw [if_neg (by omega), if_pos (by omega)]
    exact h1
  · rw [h2]
    have e := congrArg bits (drop_rd (l := l) (i := 0) h0)
    rw [List.drop_zero, bits_cons] at e
    rw [e]
    simp
theorem run_go {l : List Int} (hl : l.length ≤ 140737488351232) (h01 : ∀ x ∈ l, 0 ≤ x) (hb : bits l = true) (d : Nat) : ∀ (k i : Nat) (a b c : Int), i + d = l.length → d < k → Valid a b c →
    counts_Run.l0 k l (l.length : Int) (i : Int) a b c = some ((rn (l.drop i) a b c).1, (rn (l.drop i) a b c).2.1, (rn (l.drop i) a b c).2.2, 0) := by
  induction d with
  | zero =>
    intro k i a b c hd hk h
    obtain ⟨k, rfl⟩ : ∃ q, k = q + 1 := ⟨k - 1, by omega⟩
    simp only [counts_Run.l0]
    rw [if_neg (by omega), List.drop_of_length_le (by omega)]
    rfl
  | succ d ih =>
    intro k i a b c hd hk h
    obtain ⟨k, rfl⟩ : ∃ q, k = q + 1 := ⟨k - 1, by omega⟩
    have v := h.bounds
    have e : rd l (i : Int) = l[i]'(by omega) := by simp [rd, List.getD_eq_getElem?_getD, show i < l.length by omega]
    have m0 : 0 ≤ rd l (i : Int) := by rw [e]; exact h01 _ (List.getElem_mem _)
    have m1 : rd l (i : Int) ≤ 1 := by
      rw [e]
      have := List.all_eq_true.mp hb _ (List.getElem_mem (by omega : i < l.length))
      simpa using this
    simp only [counts_Run.l0]
    rw [if_pos (by omega), if_pos (by omega), if_pos (by omega), next_in h (by omega)]
    simp only [Option.bind_some]
    rw [w64 (by omega), drop_rd (l := l) (i := i) (by omega)]
    exact ih k (i + 1) _ _ _ (by omega) (by omega) (next_valid v.1 v.2.1 v.2.2.1 v.2.2.2.1)
/-- What a run answers. -/
def RunAns (a b c : Int) (l : List Int) : Int × Int × Int × Int :=
  if Valid a b c then (if l.length > 20000 then (0, 0, 0, 4) else if bits l = true then ((rn l a b c).1, (rn l a b c).2.1, (rn l a b c).2.2, 0) else (0, 0, 0, 2)) else (0, 0, 0, 8)
theorem run_is {a b c : Int} {l : List Int} (hc : 0 ≤ c) (h01 : ∀ x ∈ l, 0 ≤ x) (k : Nat) (hk : 20002 ≤ k ∨ l.length + 2 ≤ k) : counts_Run.f k a b c l = some (RunAns a b c l) := by
  unfold counts_Run.f RunAns
  by_cases h : Valid a b c
  · rw [check_in h, if_pos h]
    simp only [Option.bind_some, if_true]
    by_cases g : l.length > 20000
    · rw [if_pos (by omega), if_pos g]
    · rw [if_neg (by omega), if_neg g]
      have go : bits l = true → counts_Run.j0 k l a b c = some ((rn l a b c).1, (rn l a b c).2.1, (rn l a b c).2.2, 0) := by
        intro hb
        obtain ⟨k, rfl⟩ : ∃ q, k = q + 1 := ⟨k - 1, by omega⟩
        simp only [counts_Run.j0]
        exact run_go (by omega) h01 hb l.length k 0 a b c (by omega) (by omega) h
      by_cases z : 0 < l.length
      · obtain ⟨r, r1, r2⟩ := max_bits (l := l) (by omega) z k (by omega)
        rw [if_pos (by omega), r1]
        simp only [Option.bind_some]
        by_cases hb : bits l = true
        · rw [if_neg (by rw [r2]; simp [hb]), if_pos hb, go hb]
        · rw [if_pos (r2.mpr hb), if_neg hb]
      · have e : l = [] := List.eq_nil_of_length_eq_zero (by omega)
        rw [if_neg (by omega), if_pos (by rw [e]; rfl), go (by rw [e]; rfl)]
  · rw [check_out hc h, if_neg h]
    simp only [Option.bind_some]
    rw [if_neg (by decide)]
def cnt (s : Int) : Int × Int × Int := if s = 0 then (0, 0, 0) else if s ≤ 96 then ((s - 1) / 8 + 1, (s - 1) % 8, 0) else ((s - 1) % 8, (s - 1) / 8 - 11, 1)
theorem cnt_valid {s : Int} (h0 : 0 ≤ s) (h1 : s ≤ 192) : Valid (cnt s).1 (cnt s).2.1 (cnt s).2.2 := by
  unfold cnt Valid
  split
  · left; exact ⟨rfl, rfl, rfl⟩
  · split
    · right; left; dsimp only; omega
    · right; right; dsimp only; omega
theorem count_in {s : Int} (h0 : 0 ≤ s) (h1 : s ≤ 192) : states_Count.f s = some ((cnt s).1, (cnt s).2.1, (cnt s).2.2, 0) := by
  unfold states_Count.f cnt
  rw [if_neg (by omega), if_neg (by omega)]
  by_cases z : s = 0
  · rw [if_pos z, if_pos z]
  · rw [if_neg z, if_neg z]
    by_cases y : s ≤ 96
    · rw [if_pos y, if_pos y]
      have : (s - 1) / 8 % 12 = (s - 1) / 8 := by omega
      rw [this]
    · rw [if_neg y, if_neg y]
      have : (s - 1) / 8 % 12 + 1 = (s - 1) / 8 - 11 := by omega
      rw [this]
theorem count_out {s : Int} (h0 : 193 ≤ s) (h1 : s ≤ 255) : states_Count.f s = some (0, 0, 0, 2) := by
  unfold states_Count.f
  rw [if_neg (by omega), if_pos (by omega)]
def num (a b c : Int) : Int := if a = 0 ∧ b = 0 then 0 else if c = 0 then (a - 1) * 8 + b + 1 else (12 + b - 1) * 8 + a + 1
theorem num_bounds {a b c : Int} (h : Valid a b c) : 0 ≤ num a b c ∧ num a b c ≤ 192 := by
  unfold Valid at h
  unfold num
  split
  · omega
  · split <;> omega
theorem number_in {a b c : Int} (h : Valid a b c) : states_number.f a b c = some (num a b c) := by
  have v := h.bounds
  unfold Valid at h
  unfold states_number.f num
  rw [if_pos (by omega)]
  by_cases z : a = 0 ∧ b = 0
  · rw [if_pos (by omega), if_pos z]
  · rw [if_neg (by omega), if_neg z]
    by_cases y : c = 0
    · rw [if_pos y, if_pos y, if_pos (by omega)]
    · rw [if_neg y, if_neg y, if_pos (by omega), if_pos (by omega)]
theorem num_cnt {s : Int} (h0 : 0 ≤ s) (h1 : s ≤ 192) : num (cnt s).1 (cnt s).2.1 (cnt s).2.2 = s := by
  unfold num cnt
  by_cases z : s = 0
  · rw [if_pos z]; simp [z]
  · rw [if_neg z]
    by_cases y : s ≤ 96
    · rw [if_pos y]; dsimp only; rw [if_neg (by omega), if_pos rfl]; omega
    · rw [if_neg y]; dsimp only; rw [if_neg (by omega), if_neg (by decide)]; omega
theorem cnt_num {a b c : Int} (h : Valid a b c) : cnt (num a b c) = (a, b, c) := by
  unfold Valid at h
  unfold num
  by_cases z : a = 0 ∧ b = 0
  · rw [if_pos z]
    obtain ⟨rfl, rfl⟩ := z
    have : c = 0 := by omega
    subst this
    rfl
  · rw [if_neg z]
    unfold cnt
    by_cases y : c = 0
    · rw [if_pos y, if_neg (by omega), if_pos (by omega)]
      subst y
      refine Prod.ext ?_ (Prod.ext ?_ rfl) <;> dsimp only <;> omega
    · rw [if_neg y, if_neg (by omega), if_neg (by omega)]
      have : c = 1 := by omega
      subst this
      refine Prod.ext ?_ (Prod.ext ?_ rfl) <;> dsimp only <;> omega
theorem contains_is {l : List Int} (hl : l.length ≤ 20000) : slices_ContainsFunc_uint8_uint8_states_Run_1.f l = some (!bits l) := by
  unfold slices_ContainsFunc_uint8_uint8_states_Run_1.f bits
  rw [if_neg (by omega), List.not_all_eq_any_not]
  congr 2
  funext x
  by_cases c : x ≤ 1
  · rw [decide_eq_true c, decide_eq_false (by omega)]; rfl
  · rw [decide_eq_false c, decide_eq_true (by omega)]; rfl
def SRun (s : Int) (l : List Int) : Int × Int := if s > 192 then (0, 2) else if l.length > 20000 then (0, 4) else if bits l = true then (num (rn l (cnt s).1 (cnt s).2.1 (cnt s).2.2).1 (rn l (cnt s).1 (cnt s).2.1 (cnt s).2.2).2.1 (rn l (cnt s).1 (cnt s).2.1 (cnt s).2.2).2.2, 0) else (0, 2)
theorem srun_is {s : Int} {l : List Int} (h0 : 0 ≤ s) (h1 : s ≤ 255) (h01 : ∀ x ∈ l, 0 ≤ x) (k : Nat) (hk : 20002 ≤ k ∨ l.length + 2 ≤ k) : states_Run.f k s l = some (SRun s l) := by
  unfold states_Run.f SRun
  by_cases c : s > 192
  · rw [count_out (by omega) h1, if_pos c]
    rfl
  · rw [count_in h0 (by omega), if_neg c]
    simp only [Option.bind_some, if_true]
    by_cases g : l.length > 20000
    · rw [if_pos (by omega), if_pos g]
    · rw [if_neg (by omega), if_neg g, contains_is (by omega)]
      simp only [Option.bind_some]
      have v := cnt_valid h0 (by omega : s ≤ 192)
      by_cases hb : bits l = true
      · rw [hb, if_neg (by decide), if_pos rfl, run_is v.bounds.2.2.2.2.1 h01 k hk]
        unfold RunAns
        rw [if_pos v, if_neg g, if_pos hb]
        simp only [Option.bind_some, if_true]
        rw [number_in (rn_valid l _ _ _ v)]
        rfl
      · rw [if_neg hb, if_pos (by simpa using hb)]
theorem snext_is {s d : Int} (h0 : 0 ≤ s) (h1 : s ≤ 192) (hd : d = 0 ∨ d = 1) (k : Nat) (hk : 3 ≤ k) : states_Next.f k s d = some (num (nxt (cnt s).1 (cnt s).2.1 d).1 (nxt (cnt s).1 (cnt s).2.1 d).2.1 (nxt (cnt s).1 (cnt s).2.1 d).2.2, 0) := by
  unfold states_Next.f
  rw [srun_is h0 (by omega) (by intro x hx; simp at hx; omega) k (.inr (by simpa using hk))]
  unfold SRun
  rw [if_neg (by omega), if_neg (by simp), if_pos (by simp [bits]; omega)]
  rfl
theorem snext_far {s d : Int} (h0 : 0 ≤ s) (h1 : s ≤ 255) (hd : 0 ≤ d) (h : s > 192 ∨ d > 1) (k : Nat) (hk : 3 ≤ k) : states_Next.f k s d = some (0, 2) := by
  unfold states_Next.f
  rw [srun_is h0 (by omega) (by intro x hx; simp at hx; omega) k (.inr (by simpa using hk))]
  unfold SRun
  by_cases c : s > 192
  · rw [if_pos c]; rfl
  · rw [if_neg c, if_neg (by simp), if_neg (by simp [bits]; omega)]; rfl
theorem bits_go {l : List Int} (hl : l.length ≤ 140737488351232) (d : Nat) : ∀ (k i : Nat), i + d = l.length → d < k → bitloftref07_Bits.l0 k l (i : Int) = some (bits (l.drop i)) := by
  induction d with
  | zero =>
    intro k i hd hk
    obtain ⟨k, rfl⟩ : ∃ q, k = q + 1 := ⟨k - 1, by omega⟩
    simp only [bitloftref07_Bits.l0]
    rw [if_neg (by omega), List.drop_of_length_le (by omega)]
    rfl
  | succ d ih =>
    intro k i hd hk
    obtain ⟨k, rfl⟩ : ∃ q, k = q + 1 := ⟨k - 1, by omega⟩
    simp only [bitloftref07_Bits.l0]
    rw [if_pos (by omega), if_pos (by omega), w64 (by omega), drop_rd (l := l) (i := i) (by omega), bits_cons]
    by_cases c : rd l (i : Int) > 1
    · rw [if_pos c, decide_eq_false (by omega)]
      rfl
    · rw [if_neg c, decide_eq_true (by omega)]
      exact ih k (i + 1) (by omega) (by omega)
theorem bits_is {l : List Int} (hl : l.length ≤ 140737488351232) (k : Nat) (hk : l.length < k) : bitloftref07_Bits.f k l = some (bits l) := bits_go hl l.length k 0 (by omega) hk
end C
/-! What a quotient by a reciprocal is. -/
theorem w32 {x : Int} (h : -2147483648 ≤ x ∧ x ≤ 2147483647) : wrap32 x = x := by unfold wrap32; omega
theorem w64 {x : Int} (h : -9223372036854775808 ≤ x ∧ x ≤ 9223372036854775807) : wrap64 x = x := by unfold wrap64; omega
theorem rc_bounds {n : Int} (h1 : 1 ≤ n) (h2 : n ≤ 1024) : 64 ≤ 65536 / n ∧ 65536 / n ≤ 65536 ∧ 65536 / n * n ≤ 65536 ∧ 65536 < (65536 / n + 1) * n := by
  have hn : (0 : Int) < n := by omega
  have e1 : n * (65536 / n) + 65536 % n = 65536 := Int.mul_ediv_add_emod ..
  have e2 : 0 ≤ 65536 % n := Int.emod_nonneg _ (by omega)
  have e3 : 65536 % n < n := Int.emod_lt_of_pos _ hn
  have e4 : (65536 / n + 1) * n = 65536 / n * n + n := by rw [Int.add_mul, Int.one_mul]
  have e5 : 65536 / n * n = n * (65536 / n) := Int.mul_comm ..
  refine ⟨?_, ?_, by omega, by omega⟩
  · exact (Int.le_ediv_iff_mul_le hn).mpr (by omega)
  · exact Int.ediv_le_self _ (by omega)
theorem prod_bounds {x r : Int} (h1 : -2147483648 ≤ x) (h2 : x ≤ 2147483647) (r0 : 0 ≤ r) (r1 : r ≤ 65536) : -140737488355328 ≤ x * r ∧ x * r ≤ 140737488289792 := by
  constructor
  · have a : -2147483648 * r ≤ x * r := Int.mul_le_mul_of_nonneg_right h1 r0
    omega
  · have a : x * r ≤ 2147483647 * r := Int.mul_le_mul_of_nonneg_right h2 r0
    omega
/-- the quotient -/
def quo (x n : Int) : Int := x * (65536 / n) / 65536
theorem quo_bounds {x n : Int} (h1 : -2147483648 ≤ x) (h2 : x ≤ 2147483647) (n1 : 1 ≤ n) (n2 : n ≤ 1024) : -2147483648 ≤ quo x n ∧ quo x n ≤ 2147483647 := by
  have b := rc_bounds n1 n2
  have c := prod_bounds h1 h2 (r := 65536 / n) (by omega) b.2.1
  unfold quo
  omega
theorem of_in {n : Int} (n1 : 1 ≤ n) (n2 : n ≤ 1024) : recip_Of.f n = some (65536 / n, 0) := by
  have b := rc_bounds n1 n2
  unfold recip_Of.f
  rw [if_neg (by omega), if_neg (by omega), if_neg (by omega), Int.tdiv_eq_ediv_of_nonneg (by decide), w32 (by omega)]
theorem of_out {n : Int} (h : n < 1 ∨ 1024 < n) : recip_Of.f n = some (0, 2) := by
  unfold recip_Of.f
  by_cases c : n < 1
  · rw [if_pos c]
  · rw [if_neg c, if_pos (by omega)]
theorem div_in {x n : Int} (h1 : -2147483648 ≤ x) (h2 : x ≤ 2147483647) (n1 : 1 ≤ n) (n2 : n ≤ 1024) : recip_Div.f x n = some (quo x n, 0) := by
  have b := rc_bounds n1 n2
  have c := prod_bounds h1 h2 (r := 65536 / n) (by omega) b.2.1
  have q := quo_bounds h1 h2 n1 n2
  unfold recip_Div.f
  rw [of_in n1 n2]
  simp only [Option.bind_some, if_true]
  rw [w64 (x := x) (by omega), w64 (x := 65536 / n) (by omega), w64 (by omega), w32 (by unfold quo at q; omega)]
  rfl
theorem div_out {x n : Int} (h : n < 1 ∨ 1024 < n) : recip_Div.f x n = some (0, 2) := by
  unfold recip_Div.f
  rw [of_out h]
  rfl
theorem step_in {p t n : Int} (k : Nat) (p0 : 0 ≤ p) (p1 : p < 65536) (t0 : 0 ≤ t) (t1 : t < 65536) (n1 : 1 ≤ n) (n2 : n ≤ 1024) : recip_Step.f (k + 1) p t n = some (wrap32 (p + quo (t - p) n), 0) := by
  unfold recip_Step.f
  have a : ¬ mn p t < 0 := by unfold mn; split <;> omega
  have b : ¬ mx p t ≥ 65536 := by unfold mx; split <;> omega
  rw [if_neg a, decide_eq_false b]
  simp only [recip_Step.j0]
  rw [if_neg (by decide), w32 (x := t - p) (by omega), div_in (by omega) (by omega) n1 n2]
  rfl
theorem step_out {p t n : Int} (k : Nat) (h : p < 0 ∨ 65536 ≤ p ∨ t < 0 ∨ 65536 ≤ t ∨ n < 1 ∨ 1024 < n) : recip_Step.f (k + 1) p t n = some (0, 2) := by
  unfold recip_Step.f
  by_cases a : mn p t < 0
  · rw [if_pos a]
    simp only [recip_Step.j0, if_true]
  · rw [if_neg a]
    by_cases b : mx p t ≥ 65536
    · rw [decide_eq_true b]
      simp only [recip_Step.j0, if_true]
    · rw [decide_eq_false b]
      simp only [recip_Step.j0]
      rw [if_neg (by decide), div_out]
      · rfl
      · unfold mn at a; unfold mx at b; split at a <;> split at b <;> omega
theorem next_in {p t n : Int} (p0 : 0 ≤ p) (p1 : p < 65536) (t0 : 0 ≤ t) (t1 : t < 65536) (n1 : 1 ≤ n) (n2 : n ≤ 1024) :
    (mn p t ≤ p + quo (t - p) n ∧ p + quo (t - p) n ≤ mx p t) ∧ (n = 1 → p + quo (t - p) n = t) ∧ (t < p → p + quo (t - p) n ≠ p) := by
  have b := rc_bounds n1 n2
  unfold quo
  by_cases c : t < p
  · have a1 : (t - p) * 65536 ≤ (t - p) * (65536 / n) := Int.mul_le_mul_of_nonpos_left (by omega) b.2.1
    have a2 : (t - p) * (65536 / n) ≤ (t - p) * 64 := Int.mul_le_mul_of_nonpos_left (by omega) b.1
    refine ⟨⟨?_, ?_⟩, ?_, fun _ => ?_⟩
    · unfold mn; split <;> omega
    · unfold mx; split <;> omega
    · intro h; subst h; simp only [show (65536 : Int) / 1 = 65536 from rfl]; omega
    · omega
  · have a1 : (t - p) * (65536 / n) ≤ (t - p) * 65536 := Int.mul_le_mul_of_nonneg_left b.2.1 (by omega)
    have a2 : (t - p) * 64 ≤ (t - p) * (65536 / n) := Int.mul_le_mul_of_nonneg_left b.1 (by omega)
    refine ⟨⟨?_, ?_⟩, ?_, fun h => absurd h c⟩
    · unfold mn; split <;> omega
    · unfold mx; split <;> omega
    · intro h; subst h; simp only [show (65536 : Int) / 1 = 65536 from rfl]; omega
theorem prob (n : Int) : bitloftref05_Prob.f n = some (decide (0 ≤ n ∧ n < 65536)) := by
  unfold bitloftref05_Prob.f
  split
  · congr 1; simp; omega
  · congr 1; simp; omega
theorem adrop_rd {l : List Int} {i : Nat} (h : i < l.length) : l.drop i = rd l (i : Int) :: l.drop (i + 1) := by
  have e : rd l (i : Int) = l[i] := by simp [rd, List.getD_eq_getElem?_getD, h]
  rw [e]
  exact List.drop_eq_getElem_cons h
theorem ard_mem {l : List Int} {i : Int} (h0 : 0 ≤ i) (h : i < l.length) : rd l i ∈ l := by
  obtain ⟨n, rfl⟩ := Int.eq_ofNat_of_zero_le h0
  have e : rd l (n : Int) = l[n]'(by omega) := by simp [rd, List.getD_eq_getElem?_getD, show n < l.length by omega]
  rw [e]
  exact List.getElem_mem _
theorem amin_go {l : List Int} (hl : l.length ≤ 1000) (d : Nat) : ∀ (k i : Nat) (m : Int), i + d = l.length → d < k → ∃ r, slices_Min_int32_int32.l0 k l m (i : Int) = some r ∧ (r < 0 ↔ ¬ (0 ≤ m ∧ ∀ x ∈ l.drop i, 0 ≤ x)) := by
  induction d with
  | zero =>
    intro k i m hd hk
    obtain ⟨k, rfl⟩ : ∃ q, k = q + 1 := ⟨k - 1, by omega⟩
    refine ⟨m, ?_, ?_⟩
    · simp only [slices_Min_int32_int32.l0]
      rw [if_neg (by omega)]
    · rw [List.drop_of_length_le (by omega)]
      simp
  | succ d ih =>
    intro k i m hd hk
    obtain ⟨k, rfl⟩ : ∃ q, k = q + 1 := ⟨k - 1, by omega⟩
    obtain ⟨r, h1, h2⟩ := ih k (i + 1) (mn m (rd l (i : Int))) (by omega) (by omega)
    refine ⟨r, ?_, ?_⟩
    · simp only [slices_Min_int32_int32.l0]
      rw [if_pos (by omega), if_pos (by omega), w64 (by omega)]
      exact h1
    · rw [h2, adrop_rd (l := l) (i := i) (by omega), List.forall_mem_cons]
      have : 0 ≤ mn m (rd l (i : Int)) ↔ 0 ≤ m ∧ 0 ≤ rd l (i : Int) := by unfold mn; split <;> omega
      rw [this, and_assoc]
theorem amax_go {l : List Int} (hl : l.length ≤ 1000) (a : Int) (d : Nat) : ∀ (k i : Nat) (m : Int), i + d = l.length → d < k → ∃ r, slices_Max_int32_int32.l0 k l m (i : Int) = some r ∧ (r > a ↔ ¬ (m ≤ a ∧ ∀ x ∈ l.drop i, x ≤ a)) := by
  induction d with
  | zero =>
    intro k i m hd hk
    obtain ⟨k, rfl⟩ : ∃ q, k = q + 1 := ⟨k - 1, by omega⟩
    refine ⟨m, ?_, ?_⟩
    · simp only [slices_Max_int32_int32.l0]
      rw [if_neg (by omega)]
    · rw [List.drop_of_length_le (by omega)]
      simp
  | succ d ih =>
    intro k i m hd hk
    obtain ⟨k, rfl⟩ : ∃ q, k = q + 1 := ⟨k - 1, by omega⟩
    obtain ⟨r, h1, h2⟩ := ih k (i + 1) (mx m (rd l (i : Int))) (by omega) (by omega)
    refine ⟨r, ?_, ?_⟩
    · simp only [slices_Max_int32_int32.l0]
      rw [if_pos (by omega), if_pos (by omega), w64 (by omega)]
      exact h1
    · rw [h2, adrop_rd (l := l) (i := i) (by omega), List.forall_mem_cons]
      have : mx m (rd l (i : Int)) ≤ a ↔ m ≤ a ∧ rd l (i : Int) ≤ a := by unfold mx; split <;> omega
      rw [this, and_assoc]
/-- A row of 193 numbers from 0 to a. -/
def rowOk (l : List Int) (a : Int) : Prop := l.length = 193 ∧ ∀ x ∈ l, 0 ≤ x ∧ x ≤ a
instance (l : List Int) (a : Int) : Decidable (rowOk l a) := by unfold rowOk; infer_instance
theorem outside_is (l : List Int) (a : Int) {k : Nat} (hk : 400 ≤ k) : adapt_outside.f k l a = some (!decide (rowOk l a)) := by
  unfold adapt_outside.f
  by_cases h : l.length = 193
  · rw [if_pos (by omega)]
    obtain ⟨r, h1, h2⟩ := amin_go (l := l) (by omega) 192 k 1 (rd l 0) (by omega) (by omega)
    obtain ⟨s, g1, g2⟩ := amax_go (l := l) (by omega) a 192 k 1 (rd l 0) (by omega) (by omega)
    have e := adrop_rd (l := l) (i := 0) (by omega)
    rw [List.drop_zero] at e
    have h2' : r < 0 ↔ ¬ ∀ x ∈ l, 0 ≤ x := by
      rw [h2]; conv => rhs; rw [e, List.forall_mem_cons]
      exact Iff.rfl
    have g2' : s > a ↔ ¬ ∀ x ∈ l, x ≤ a := by
      rw [g2]; conv => rhs; rw [e, List.forall_mem_cons]
      exact Iff.rfl
    have m1 : slices_Min_int32_int32.f k l = some r := by unfold slices_Min_int32_int32.f; rw [if_neg (by omega), if_pos (by omega)]; exact h1
    have m2 : slices_Max_int32_int32.f k l = some s := by unfold slices_Max_int32_int32.f; rw [if_neg (by omega), if_pos (by omega)]; exact g1
    rw [m1, Option.bind_some]
    by_cases c : r < 0
    · rw [if_pos c]
      have : ¬ rowOk l a := fun z => (h2'.mp c) (fun x hx => (z.2 x hx).1)
      simp [this]
    · rw [if_neg c, m2, Option.bind_some]
      have p : ∀ x ∈ l, 0 ≤ x := by
        by_cases q : ∀ x ∈ l, 0 ≤ x
        · exact q
        · exact absurd (h2'.mpr q) c
      by_cases f : s > a
      · have : ¬ rowOk l a := fun z => (g2'.mp f) (fun x hx => (z.2 x hx).2)
        simp [this, f]
      · have q : ∀ x ∈ l, x ≤ a := by
          by_cases q : ∀ x ∈ l, x ≤ a
          · exact q
          · exact absurd (g2'.mpr q) f
        have : rowOk l a := ⟨h, fun x hx => ⟨p x hx, q x hx⟩⟩
        simp [this]
        omega
  · rw [if_neg (by omega)]
    have : ¬ rowOk l a := fun z => h z.1
    simp [this]
/-- A map as the program takes it. -/
def good (m : Int) (P N : List Int) : Prop := (1 ≤ m ∧ m ≤ 1000) ∧ rowOk P 65535 ∧ rowOk N m
instance (m : Int) (P N : List Int) : Decidable (good m P N) := by unfold good; infer_instance
theorem pchk (m : Int) (P N : List Int) {k : Nat} (hk : 400 ≤ k) : adapt_Check.f k m P N = some (if good m P N then 0 else 8) := by
  unfold adapt_Check.f
  by_cases a : m < 1
  · rw [if_pos a, if_neg (show ¬ good m P N from fun z => by have := z.1; omega)]
  · rw [if_neg a]
    by_cases b : m > 1000
    · rw [if_pos b, if_neg (show ¬ good m P N from fun z => by have := z.1; omega)]
    · rw [if_neg b, show rd tgRow 1 = 65535 from rfl, outside_is P 65535 hk, Option.bind_some]
      by_cases c : rowOk P 65535
      · rw [decide_eq_true c, if_neg (by decide), outside_is N m hk, Option.bind_some]
        by_cases d : rowOk N m
        · rw [decide_eq_true d, if_neg (by decide), if_pos (show good m P N from ⟨by omega, c, d⟩)]
        · rw [decide_eq_false d, if_pos (by decide), if_neg (show ¬ good m P N from fun z => d z.2.2)]
      · rw [decide_eq_false c, if_pos (by decide), if_neg (show ¬ good m P N from fun z => c z.2.1)]
/-- The error of a map and a state. -/
def atE (m : Int) (P N : List Int) (s : Int) : Int := if good m P N then (if s < 193 then 0 else 2) else 8
theorem atE_ok {m s : Int} {P N : List Int} (h : atE m P N s = 0) : good m P N ∧ s < 193 := by
  unfold atE at h
  by_cases g : good m P N
  · rw [if_pos g] at h
    by_cases o : s < 193
    · exact ⟨g, o⟩
    · rw [if_neg o] at h; omega
  · rw [if_neg g] at h; omega
theorem atE_in {m s : Int} {P N : List Int} (g : good m P N) (o : s < 193) : atE m P N s = 0 := by unfold atE; rw [if_pos g, if_pos o]
theorem pat (m : Int) (P N : List Int) (s : Int) {k : Nat} (hk : 400 ≤ k) : adapt_at.f k m P N s = some (atE m P N s) := by
  unfold adapt_at.f atE
  rw [pchk m P N hk, Option.bind_some]
  by_cases g : good m P N
  · rw [if_pos g, if_pos rfl, if_pos g]
    by_cases o : s < 193
    · rw [if_neg (by omega), if_pos o]
    · rw [if_pos (by omega), if_neg o]
  · rw [if_neg g, if_neg (by decide), if_neg g]
theorem clone_in {l : List Int} (h : l.length ≤ 1000) : slices_Clone_int32_int32.f l = some l := by
  unfold slices_Clone_int32_int32.f
  rw [if_pos (by omega)]
theorem atwin_in {m : Int} {P N : List Int} (h1 : P.length ≤ 1000) (h2 : N.length ≤ 1000) : adapt_twin.f m P N = some (m, P, N) := by
  unfold adapt_twin.f
  rw [clone_in h1, Option.bind_some, clone_in h2, Option.bind_some]
/-- The count behind a change, and the probability. -/
def nN (m : Int) (N : List Int) (s : Int) : Int := mn (rd N s + 1) m
def nP (m : Int) (P N : List Int) (s d : Int) : Int := rd P s + quo (65535 * d - rd P s) (nN m N s + 1)
theorem nN_bd {m s : Int} {P N : List Int} (g : good m P N) (h0 : 0 ≤ s) (h1 : s < 193) : 1 ≤ nN m N s ∧ nN m N s ≤ m ∧ m ≤ 1000 ∧ 0 ≤ rd N s ∧ rd N s ≤ m := by
  have hm := g.1
  have l := g.2.2.1
  have := g.2.2.2 _ (ard_mem h0 (show s < N.length by omega))
  unfold nN mn
  split <;> omega
theorem P_bd {m s : Int} {P N : List Int} (g : good m P N) (h0 : 0 ≤ s) (h1 : s < 193) : 0 ≤ rd P s ∧ rd P s ≤ 65535 := by
  have l := g.2.1.1
  exact g.2.1.2 _ (ard_mem h0 (show s < P.length by omega))
theorem nP_bd {m s d : Int} {P N : List Int} (g : good m P N) (h0 : 0 ≤ s) (h1 : s < 193) (hd : d = 0 ∨ d = 1) : 0 ≤ nP m P N s d ∧ nP m P N s d ≤ 65535 := by
  have p := P_bd g h0 h1
  have n := nN_bd g h0 h1
  have x := (next_in (p := rd P s) (t := 65535 * d) (n := nN m N s + 1) p.1 (by omega) (by omega) (by omega) (by omega) (by omega)).1
  unfold nP
  unfold mn mx at x
  split at x <;> split at x <;> omega
theorem change_in {m s d : Int} {P N : List Int} (g : good m P N) (h0 : 0 ≤ s) (h1 : s < 193) (hd : d = 0 ∨ d = 1) {k : Nat} (hk : 1 ≤ k) : adapt_change.f k m P N s d = some (0, P.set s.toNat (nP m P N s d), N.set s.toNat (nN m N s)) := by
  have p := P_bd g h0 h1
  have n := nN_bd g h0 h1
  have q := nP_bd g h0 h1 hd
  have lP := g.2.1.1
  have lN := g.2.2.1
  obtain ⟨k, rfl⟩ : ∃ r, k = r + 1 := ⟨k - 1, by omega⟩
  have t : rd tgRow d = 65535 * d := by rcases hd with rfl | rfl <;> rfl
  unfold adapt_change.f
  rw [if_pos h0, if_pos (by omega), if_pos (by omega), if_pos (by omega), if_pos (by omega), w32 (x := rd N s + 1) (by omega)]
  rw [show mn (rd N s + 1) m = nN m N s from rfl, w32 (x := nN m N s + 1) (by omega), t]
  rw [step_in k p.1 (by omega) (by omega) (by omega) (by omega) (by omega), Option.bind_some, show rd P s + quo (65535 * d - rd P s) (nN m N s + 1) = nP m P N s d from rfl, w32 (by omega)]
theorem good_upd {m s d : Int} {P N : List Int} (g : good m P N) (h0 : 0 ≤ s) (h1 : s < 193) (hd : d = 0 ∨ d = 1) : good m (P.set s.toNat (nP m P N s d)) (N.set s.toNat (nN m N s)) := by
  have q := nP_bd g h0 h1 hd
  have n := nN_bd g h0 h1
  refine ⟨g.1, ⟨by rw [List.length_set]; exact g.2.1.1, fun x hx => ?_⟩, ⟨by rw [List.length_set]; exact g.2.2.1, fun x hx => ?_⟩⟩
  · rcases List.mem_or_eq_of_mem_set hx with y | y
    · exact g.2.1.2 x y
    · rw [y]; exact q
  · rcases List.mem_or_eq_of_mem_set hx with y | y
    · exact g.2.2.2 x y
    · rw [y]; omega
theorem u8_in {x : Int} (h : (Lit.int .u8 x).wf = true) : 0 ≤ x ∧ x ≤ 255 := by
  simp only [Lit.wf, IntKind.min, IntKind.max, IntKind.signed, IntKind.bits, Bool.and_eq_true] at h
  simp at h
  omega
theorem i32_in {x : Int} (h : (Lit.int .i32 x).wf = true) : -2147483648 ≤ x ∧ x ≤ 2147483647 := by
  simp only [Lit.wf, IntKind.min, IntKind.max, IntKind.signed, IntKind.bits, Bool.and_eq_true] at h
  simp at h
  omega
def updA (m : Int) (P N : List Int) (s d : Int) : Int × List Int × List Int × Int := if atE m P N s = 0 then (if d > 1 then (0, [], [], 2) else (m, P.set s.toNat (nP m P N s d), N.set s.toNat (nN m N s), 0)) else (0, [], [], atE m P N s)
theorem pupd {m s d : Int} {P N : List Int} (h0 : 0 ≤ s) (hd : 0 ≤ d) {k : Nat} (hk : 400 ≤ k) : adapt_Update.f k m P N s d = some (updA m P N s d) := by
  unfold adapt_Update.f updA
  rw [pat m P N s hk, Option.bind_some]
  by_cases e : atE m P N s = 0
  · have g := atE_ok e
    have lP := g.1.2.1.1
    have lN := g.1.2.2.1
    rw [if_pos e, if_pos e]
    by_cases x : d > 1
    · rw [if_pos x, if_pos x]
    · rw [if_neg x, if_neg x, atwin_in (by omega) (by omega), Option.bind_some]
      dsimp only
      rw [change_in g.1 h0 g.2 (by omega) (by omega), Option.bind_some, if_pos rfl]
  · rw [if_neg e, if_neg e]
theorem rchk_go {m : Int} {P N : List Int} (lP : P.length = 193) (lN : N.length = 193) (e : Nat) : ∀ (k i : Nat), i + e = 193 → e < k → bitloftref09_Check.l0 k (i : Int) m P N = some (if (∀ x ∈ P.drop i, 0 ≤ x ∧ x ≤ 65535) ∧ ∀ x ∈ N.drop i, 0 ≤ x ∧ x ≤ m then 0 else 8) := by
  induction e with
  | zero =>
    intro k i hd hk
    obtain ⟨k, rfl⟩ : ∃ q, k = q + 1 := ⟨k - 1, by omega⟩
    simp only [bitloftref09_Check.l0]
    rw [if_neg (by omega), List.drop_of_length_le (by omega), List.drop_of_length_le (by omega), if_pos (by simp)]
  | succ e ih =>
    intro k i hd hk
    obtain ⟨k, rfl⟩ : ∃ q, k = q + 1 := ⟨k - 1, by omega⟩
    simp only [bitloftref09_Check.l0]
    rw [if_pos (by omega), if_pos (by omega), if_pos (by omega), prob, Option.bind_some, adrop_rd (l := P) (i := i) (by omega), adrop_rd (l := N) (i := i) (by omega), w64 (by omega), show (i : Int) + 1 = ((i + 1 : Nat) : Int) from rfl, ih k (i + 1) (by omega) (by omega)]
    simp only [List.forall_mem_cons]
    by_cases a : 0 ≤ rd P (i : Int) ∧ rd P (i : Int) < 65536
    · rw [if_pos (by simpa using a), if_pos (by omega)]
      by_cases b : rd N (i : Int) < 0
      · rw [if_pos b, if_neg (fun z => by have := z.2.1.1; omega)]
      · rw [if_neg b]
        by_cases c : rd N (i : Int) > m
        · rw [if_pos c, if_neg (fun z => by have := z.2.1.2; omega)]
        · rw [if_neg c]
          have h1 : 0 ≤ rd P (i : Int) ∧ rd P (i : Int) ≤ 65535 := by omega
          have h2 : 0 ≤ rd N (i : Int) ∧ rd N (i : Int) ≤ m := by omega
          simp only [h1, h2, true_and, and_self]
    · rw [if_neg (by simpa using a), if_neg (fun z => by have := z.1.1; omega)]
theorem rchk {m : Int} {P N : List Int} {k : Nat} (hk : 400 ≤ k) : bitloftref09_Check.f k m P N = some (if good m P N then 0 else 8) := by
  have hj : ∀ z : Bool, ((1 ≤ m ∧ m ≤ 1000) ∧ P.length = 193) → (z = true ↔ ¬ N.length = 193) → bitloftref09_Check.j0 k z m P N = some (if good m P N then 0 else 8) := by
    intro z hh hz
    obtain ⟨k, rfl⟩ : ∃ q, k = q + 1 := ⟨k - 1, by omega⟩
    simp only [bitloftref09_Check.j0]
    by_cases y : N.length = 193
    · rw [if_neg (fun x => hz.mp x y)]
      have := rchk_go (m := m) hh.2 y 193 k 0 (by omega) (by omega)
      rw [List.drop_zero, List.drop_zero] at this
      refine (show bitloftref09_Check.l0 k 0 m P N = _ from this).trans ?_
      by_cases g : good m P N
      · rw [if_pos g, if_pos ⟨g.2.1.2, g.2.2.2⟩]
      · rw [if_neg g, if_neg (fun w => g ⟨hh.1, ⟨hh.2, w.1⟩, ⟨y, w.2⟩⟩)]
    · rw [if_pos (hz.mpr y), if_neg (show ¬ good m P N from fun z => y z.2.2.1)]
  have ht : ¬ ((1 ≤ m ∧ m ≤ 1000) ∧ P.length = 193) → bitloftref09_Check.j0 k true m P N = some (if good m P N then 0 else 8) := by
    intro hh
    obtain ⟨k, rfl⟩ : ∃ q, k = q + 1 := ⟨k - 1, by omega⟩
    simp only [bitloftref09_Check.j0]
    rw [if_pos trivial, if_neg (show ¬ good m P N from fun z => hh ⟨z.1, z.2.1.1⟩)]
  unfold bitloftref09_Check.f
  by_cases a : m < 1
  · rw [if_pos a]; exact ht (by omega)
  · rw [if_neg a]
    by_cases b : m > 1000
    · rw [if_pos b]; exact ht (by omega)
    · rw [if_neg b]
      by_cases c : P.length = 193
      · rw [if_pos (by omega)]; exact hj _ ⟨by omega, c⟩ (by simp; omega)
      · rw [if_neg (by omega)]; exact ht (by omega)
theorem rat (m : Int) (P N : List Int) (s : Int) {k : Nat} (hk : 400 ≤ k) : bitloftref09_At.f k m P N s = some (atE m P N s) := by
  unfold bitloftref09_At.f atE bitloftref08_State.f
  rw [rchk hk, Option.bind_some]
  by_cases g : good m P N
  · rw [if_pos g, if_pos rfl, Option.bind_some, if_pos g]
    by_cases o : s < 193
    · rw [if_pos (by simpa using o), if_pos o]
    · rw [if_neg (by simpa using o), if_neg o]
  · rw [if_neg g, if_neg (by decide), if_neg g]
theorem rows_go {l : List Int} (hl : l.length ≤ 1000) (e : Nat) : ∀ (k i : Nat), i + e = l.length → e < k → bitloftref09_SameRows.l0 k l l (i : Int) = some true := by
  induction e with
  | zero =>
    intro k i hd hk
    obtain ⟨k, rfl⟩ : ∃ q, k = q + 1 := ⟨k - 1, by omega⟩
    simp only [bitloftref09_SameRows.l0]
    rw [if_neg (by omega)]
  | succ e ih =>
    intro k i hd hk
    obtain ⟨k, rfl⟩ : ∃ q, k = q + 1 := ⟨k - 1, by omega⟩
    simp only [bitloftref09_SameRows.l0]
    rw [if_pos (by omega), if_pos (by omega), if_pos (by omega), if_pos trivial, w64 (by omega), show (i : Int) + 1 = ((i + 1 : Nat) : Int) from rfl]
    exact ih k (i + 1) (by omega) (by omega)
theorem rows_in {l : List Int} (hl : l.length ≤ 1000) {k : Nat} (hk : 1001 ≤ k) : bitloftref09_SameRows.f k l l = some true := by
  unfold bitloftref09_SameRows.f
  rw [if_pos rfl]
  exact rows_go hl l.length k 0 (by omega) (by omega)
theorem same_in {m : Int} {P N : List Int} (h1 : P.length ≤ 1000) (h2 : N.length ≤ 1000) {k : Nat} (hk : 1001 ≤ k) : bitloftref09_Same.f k m P N m P N = some true := by
  unfold bitloftref09_Same.f
  rw [if_pos rfl, rows_in h1 hk, Option.bind_some, if_pos rfl, rows_in h2 hk, Option.bind_some]
theorem great_is (m : Int) (P N : List Int) : bitloftref09_Great.f m P N = some (decide (300 < P.length ∨ 300 < N.length)) := by
  unfold bitloftref09_Great.f
  by_cases a : P.length > 300
  · rw [if_pos (by omega), decide_eq_true (Or.inl a)]
  · rw [if_neg (by omega)]
    by_cases b : N.length > 300
    · rw [decide_eq_true (show (N.length : Int) > 300 by omega), decide_eq_true (Or.inr b)]
    · rw [decide_eq_false (show ¬ (N.length : Int) > 300 by omega), decide_eq_false (by omega)]
theorem fit_is (m : Int) (P N : List Int) (s d : Int) {k : Nat} (hk : 400 ≤ k) : ∃ b, bitloftlaw09_fit.f k m P N s d = some b ∧ (b = true → atE m P N s = 0 ∧ d ≤ 1) := by
  unfold bitloftlaw09_fit.f
  rw [great_is, Option.bind_some]
  by_cases gr : 300 < P.length ∨ 300 < N.length
  · rw [decide_eq_true gr, if_pos rfl]
    exact ⟨_, rfl, by simp⟩
  · rw [decide_eq_false gr, if_neg (by decide), rat m P N s hk, Option.bind_some]
    by_cases e : atE m P N s = 0
    · rw [if_pos e]
      exact ⟨_, rfl, fun h => ⟨e, of_decide_eq_true h⟩⟩
    · rw [if_neg e]
      exact ⟨_, rfl, by simp⟩
theorem updA_in {m s d : Int} {P N : List Int} (g : good m P N) (h1 : s < 193) (hd : d = 0 ∨ d = 1) : updA m P N s d = (m, P.set s.toNat (nP m P N s d), N.set s.toNat (nN m N s), 0) := by
  unfold updA
  rw [if_pos (atE_in g h1), if_neg (by omega)]
theorem bit_of {l : List Int} (hb : C.bits l = true) (h0 : ∀ x ∈ l, 0 ≤ x) : ∀ x ∈ l, x = 0 ∨ x = 1 := by
  intro x hx
  have a := of_decide_eq_true (List.all_eq_true.mp hb x hx)
  have b := h0 x hx
  omega
/-- The state behind a bit; a map and a state behind bits. -/
def stn (s d : Int) : Int := C.num (C.nxt (C.cnt s).1 (C.cnt s).2.1 d).1 (C.nxt (C.cnt s).1 (C.cnt s).2.1 d).2.1 (C.nxt (C.cnt s).1 (C.cnt s).2.1 d).2.2
theorem stn_bd {s d : Int} (h0 : 0 ≤ s) (h1 : s < 193) : 0 ≤ stn s d ∧ stn s d < 193 := by
  have v := (C.cnt_valid h0 (show s ≤ 192 by omega)).bounds
  have := C.num_bounds (C.next_valid (d := d) v.1 v.2.1 v.2.2.1 v.2.2.2.1)
  unfold stn
  omega
def arun (m : Int) : List Int → List Int → List Int → Int → List Int × List Int × Int
  | [], P, N, s => (P, N, s)
  | d :: l, P, N, s => arun m l (P.set s.toNat (nP m P N s d)) (N.set s.toNat (nN m N s)) (stn s d)
theorem arun_append (m : Int) (l l' : List Int) : ∀ P N s, arun m (l ++ l') P N s = arun m l' (arun m l P N s).1 (arun m l P N s).2.1 (arun m l P N s).2.2 := by
  induction l with
  | nil => exact fun P N s => rfl
  | cons d l ih => exact fun P N s => ih _ _ _
theorem arun_good {m : Int} (l : List Int) (hb : ∀ x ∈ l, x = 0 ∨ x = 1) : ∀ P N s, good m P N → 0 ≤ s → s < 193 → good m (arun m l P N s).1 (arun m l P N s).2.1 ∧ 0 ≤ (arun m l P N s).2.2 ∧ (arun m l P N s).2.2 < 193 := by
  induction l with
  | nil => exact fun P N s g h0 h1 => ⟨g, h0, h1⟩
  | cons d l ih =>
    intro P N s g h0 h1
    have b := stn_bd (d := d) h0 h1
    exact ih (fun x hx => hb x (List.mem_cons_of_mem _ hx)) _ _ _ (good_upd g h0 h1 (hb d (List.mem_cons_self ..))) b.1 b.2
theorem arun_rn (m : Int) (l : List Int) : ∀ P N s, 0 ≤ s → s < 193 → (arun m l P N s).2.2 = C.num (C.rn l (C.cnt s).1 (C.cnt s).2.1 (C.cnt s).2.2).1 (C.rn l (C.cnt s).1 (C.cnt s).2.1 (C.cnt s).2.2).2.1 (C.rn l (C.cnt s).1 (C.cnt s).2.1 (C.cnt s).2.2).2.2 := by
  induction l with
  | nil => exact fun P N s h0 h1 => (C.num_cnt h0 (by omega)).symm
  | cons d l ih =>
    intro P N s h0 h1
    have b := stn_bd (d := d) h0 h1
    have v := (C.cnt_valid h0 (show s ≤ 192 by omega)).bounds
    have e := ih (P.set s.toNat (nP m P N s d)) (N.set s.toNat (nN m N s)) (stn s d) b.1 b.2
    rw [show C.cnt (stn s d) = C.nxt (C.cnt s).1 (C.cnt s).2.1 d from C.cnt_num (C.next_valid v.1 v.2.1 v.2.2.1 v.2.2.2.1)] at e
    exact e
def runA (m : Int) (P N : List Int) (s : Int) (l : List Int) : Int × List Int × List Int × Int × Int := if atE m P N s = 0 then (if l.length > 20000 then (0, [], [], 0, 4) else if C.bits l = true then (m, (arun m l P N s).1, (arun m l P N s).2.1, (arun m l P N s).2.2, 0) else (0, [], [], 0, 2)) else (0, [], [], 0, atE m P N s)
theorem runA_in {m s : Int} {P N l : List Int} (g : good m P N) (h : s < 193) (hl : l.length ≤ 20000) (hb : C.bits l = true) : runA m P N s l = (m, (arun m l P N s).1, (arun m l P N s).2.1, (arun m l P N s).2.2, 0) := by
  unfold runA
  rw [if_pos (atE_in g h), if_neg (by omega), if_pos hb]
theorem runA_len {m s : Int} {P N l : List Int} (h0 : 0 ≤ s) (hl : ∀ x ∈ l, 0 ≤ x) : (runA m P N s l).2.1.length ≤ 1000 ∧ (runA m P N s l).2.2.1.length ≤ 1000 := by
  unfold runA
  by_cases e : atE m P N s = 0
  · rw [if_pos e]
    by_cases a : l.length > 20000
    · rw [if_pos a]; simp
    · rw [if_neg a]
      by_cases b : C.bits l = true
      · rw [if_pos b]
        have g := (arun_good l (bit_of b hl) P N s (atE_ok e).1 h0 (atE_ok e).2).1
        exact ⟨g.2.1.1.symm ▸ (by decide), g.2.2.1.symm ▸ (by decide)⟩
      · rw [if_neg b]; simp
  · rw [if_neg e]; simp
theorem arun_go {m : Int} {l : List Int} (hl : l.length ≤ 20000) (hb : ∀ x ∈ l, x = 0 ∨ x = 1) (e : Nat) : ∀ (k i : Nat) (P N : List Int) (s : Int), i + e = l.length → e + 4 ≤ k → good m P N → 0 ≤ s → s < 193 →
    adapt_Run.l0 k s l (l.length : Int) (i : Int) m P N = some (m, (arun m (l.drop i) P N s).1, (arun m (l.drop i) P N s).2.1, (arun m (l.drop i) P N s).2.2, 0) := by
  induction e with
  | zero =>
    intro k i P N s hd hk g h0 h1
    obtain ⟨k, rfl⟩ : ∃ q, k = q + 1 := ⟨k - 1, by omega⟩
    simp only [adapt_Run.l0]
    rw [if_neg (by omega), List.drop_of_length_le (by omega)]
    rfl
  | succ e ih =>
    intro k i P N s hd hk g h0 h1
    obtain ⟨k, rfl⟩ : ∃ q, k = q + 1 := ⟨k - 1, by omega⟩
    have d01 := hb (rd l (i : Int)) (ard_mem (by omega) (by omega))
    have b := stn_bd (d := rd l (i : Int)) h0 h1
    simp only [adapt_Run.l0]
    rw [if_pos (by omega), if_pos (by omega), if_pos (by omega), change_in g h0 h1 d01 (by omega), Option.bind_some, if_pos rfl, C.snext_is h0 (by omega) d01 k (by omega), Option.bind_some, adrop_rd (l := l) (i := i) (by omega), w64 (by omega), show (i : Int) + 1 = ((i + 1 : Nat) : Int) from rfl]
    exact ih k (i + 1) _ _ _ (by omega) (by omega) (good_upd g h0 h1 d01) b.1 b.2
theorem prun {m s : Int} {P N l : List Int} (h0 : 0 ≤ s) (hl : ∀ x ∈ l, 0 ≤ x) (hm : l.length ≤ 30000) {k : Nat} (hk : 31000 ≤ k) : adapt_Run.f k m P N s l = some (runA m P N s l) := by
  unfold adapt_Run.f runA
  rw [pat m P N s (by omega), Option.bind_some]
  by_cases e : atE m P N s = 0
  · rw [if_pos e, if_pos e]
    have g := atE_ok e
    by_cases a : l.length > 20000
    · rw [if_pos (by omega), if_pos a]
    · rw [if_neg (by omega), if_neg a]
      have nx : C.bits l = true → adapt_Run.j0 k s l m P N = some (m, (arun m l P N s).1, (arun m l P N s).2.1, (arun m l P N s).2.2, 0) := by
        intro hb
        obtain ⟨k, rfl⟩ : ∃ q, k = q + 1 := ⟨k - 1, by omega⟩
        have lP := g.1.2.1.1
        have lN := g.1.2.2.1
        have := arun_go (m := m) (l := l) (by omega) (bit_of hb hl) l.length k 0 P N s (by omega) (by omega) g.1 h0 g.2
        rw [List.drop_zero] at this
        simp only [adapt_Run.j0]
        rw [atwin_in (by omega) (by omega), Option.bind_some]
        exact this
      by_cases z : l.length > 0
      · rw [if_pos (by omega)]
        obtain ⟨r, r1, r2⟩ := C.max_bits (l := l) (by omega) z k (by omega)
        rw [r1, Option.bind_some]
        by_cases b : C.bits l = true
        · rw [if_neg (fun h => r2.mp h b), if_pos b]
          exact nx b
        · rw [if_pos (r2.mpr b), if_neg b]
      · rw [if_neg (by omega)]
        have : l = [] := List.length_eq_zero_iff.mp (by omega)
        subst this
        rw [if_pos (show C.bits [] = true from rfl)]
        exact nx rfl
  · rw [if_neg e, if_neg e]
theorem take_bits {l : List Int} (hb : C.bits l = true) (n : Nat) : C.bits (l.take n) = true := List.all_eq_true.mpr (fun x hx => List.all_eq_true.mp hb x (List.mem_of_mem_take hx))
theorem drop_bits {l : List Int} (hb : C.bits l = true) (n : Nat) : C.bits (l.drop n) = true := List.all_eq_true.mpr (fun x hx => List.all_eq_true.mp hb x (List.mem_of_mem_drop hx))
theorem cut_one {l : List Int} {n : Nat} (h : n < l.length) : (l.take (n + 1)).drop n = [rd l (n : Int)] := by
  rw [List.drop_take, show n + 1 - n = 1 from by omega, adrop_rd h]
  rfl
theorem AdaptParts : bitloftlaw09_AdaptParts.Pure := by
  intro m P N s l a _ _ _ _ _ hs hm hm2 hl _
  have hs0 := (u8_in hs).1
  have hs1 := (u8_in hs).2
  have hl0 : ∀ x ∈ l, 0 ≤ x := fun x hx => (u8_in (hl x hx)).1
  obtain ⟨K, hK⟩ : ∃ K : Nat, K = 40000 := ⟨_, rfl⟩
  refine ⟨K, ?_⟩
  have jt : bitloftlaw09_AdaptParts.j0 K s l a true m P N = some true := by
    obtain ⟨k, rfl⟩ : ∃ r, K = r + 1 := ⟨K - 1, by omega⟩
    simp only [bitloftlaw09_AdaptParts.j0, if_true]
  unfold bitloftlaw09_AdaptParts.f
  obtain ⟨b, fb, ft⟩ := fit_is m P N s 0 (k := K) (by omega)
  rw [fb, Option.bind_some]
  by_cases c : b = true
  rotate_left
  · rw [if_neg c, jt]
  obtain ⟨e, _⟩ := ft c
  have g := atE_ok e
  rw [if_pos c]
  by_cases ll : l.length > 100
  · rw [if_pos (by omega), jt]
  rw [if_neg (by omega), C.bits_is (by omega) K (by omega), Option.bind_some]
  by_cases hb : C.bits l = true
  rotate_left
  · rw [if_neg hb, jt]
  rw [if_pos hb]
  by_cases a0 : a < 0
  · rw [if_pos a0, jt]
  rw [if_neg a0]
  by_cases a1 : a > (l.length : Int)
  · rw [decide_eq_true a1, jt]
  rw [decide_eq_false a1]
  obtain ⟨n, rfl⟩ := Int.eq_ofNat_of_zero_le (show 0 ≤ a by omega)
  have tb := take_bits hb n
  have db := drop_bits hb n
  have t0 : ∀ x ∈ l.take n, 0 ≤ x := fun x hx => hl0 x (List.mem_of_mem_take hx)
  have d0 : ∀ x ∈ l.drop n, 0 ≤ x := fun x hx => hl0 x (List.mem_of_mem_drop hx)
  have lt : (l.take n).length = n := by rw [List.length_take]; omega
  have ld : (l.drop n).length = l.length - n := List.length_drop ..
  have gt := arun_good (m := m) (l.take n) (bit_of tb t0) P N s g.1 hs0 g.2
  have ap := arun_append m (l.take n) (l.drop n) P N s
  rw [List.take_append_drop] at ap
  have rn := arun_rn m l P N s hs0 g.2
  have ga := arun_good (m := m) l (bit_of hb hl0) P N s g.1 hs0 g.2
  have lA := ga.1.2.1.1
  have lB := ga.1.2.2.1
  obtain ⟨B, hB⟩ : ∃ B, B = arun m (l.take n) P N s := ⟨_, rfl⟩
  rw [← hB] at gt ap
  have R1 : runA m P N s l = (m, (arun m l P N s).1, (arun m l P N s).2.1, (arun m l P N s).2.2, 0) := runA_in g.1 g.2 (by omega) hb
  have R2 : runA m P N s (l.take n) = (m, B.1, B.2.1, B.2.2, 0) := by rw [hB]; exact runA_in g.1 g.2 (by omega) tb
  have R3 : runA m B.1 B.2.1 B.2.2 (l.drop n) = (m, (arun m l P N s).1, (arun m l P N s).2.1, (arun m l P N s).2.2, 0) := by rw [ap]; exact runA_in gt.1 gt.2.2 (by omega) db
  have R4 : ∀ k, 31000 ≤ k → states_Run.f k s l = some ((arun m l P N s).2.2, 0) := by
    intro k hk
    rw [C.srun_is hs0 hs1 hl0 k (Or.inl (by omega)), rn]
    unfold C.SRun
    rw [if_neg (by omega), if_neg (by omega), if_pos hb]
  obtain ⟨k, rfl⟩ : ∃ r, K = r + 1 := ⟨K - 1, by omega⟩
  simp only [bitloftlaw09_AdaptParts.j0]
  rw [if_neg (by decide), prun hs0 hl0 (by omega) (by omega), R1, Option.bind_some]
  dsimp only
  rw [if_pos (by omega), if_pos (by omega), Int.toNat_natCast, prun hs0 t0 (by omega) (by omega), R2, Option.bind_some]
  dsimp only
  rw [prun gt.2.1 d0 (by omega) (by omega), R3, Option.bind_some, R4 k (by omega), Option.bind_some]
  dsimp only
  rw [if_pos rfl, if_pos rfl, if_pos rfl, if_pos rfl, same_in (by omega) (by omega) (by omega), Option.bind_some, if_pos rfl, if_pos rfl]
  obtain ⟨k, rfl⟩ : ∃ r, k = r + 1 := ⟨k - 1, by omega⟩
  simp only [bitloftlaw09_AdaptParts.j1]
  rw [if_neg (by simp)]
  by_cases nl : (n : Int) = (l.length : Int)
  · rw [if_pos nl]
    obtain ⟨k, rfl⟩ : ∃ r, k = r + 1 := ⟨k - 1, by omega⟩
    simp only [bitloftlaw09_AdaptParts.j2, if_true]
  rw [if_neg nl]
  unfold bitloftref08_State.f
  rw [decide_eq_true (by omega), Option.bind_some]
  obtain ⟨k, rfl⟩ : ∃ r, k = r + 1 := ⟨k - 1, by omega⟩
  have dm := hl0 _ (ard_mem (l := l) (i := (n : Int)) (by omega) (by omega))
  have d01 := bit_of hb hl0 _ (ard_mem (l := l) (i := (n : Int)) (by omega) (by omega))
  have gu := good_upd gt.1 gt.2.1 gt.2.2 d01
  have o1 : C.bits [rd l (n : Int)] = true := by unfold C.bits; simp; omega
  have R5 : runA m B.1 B.2.1 B.2.2 [rd l (n : Int)] = (m, B.1.set B.2.2.toNat (nP m B.1 B.2.1 B.2.2 (rd l (n : Int))), B.2.1.set B.2.2.toNat (nN m B.2.1 B.2.2), stn B.2.2 (rd l (n : Int)), 0) := runA_in gt.1 gt.2.2 (by simp) o1
  simp only [bitloftlaw09_AdaptParts.j2]
  rw [if_neg (by decide), w64 (by omega), if_pos (by omega), if_pos (by omega), if_pos (by omega), Int.toNat_natCast, show ((n : Int) + 1).toNat = n + 1 from by omega, cut_one (by omega)]
  rw [prun gt.2.1 (by intro x hx; rw [List.mem_singleton.mp hx]; exact dm) (by simp) (by omega), R5, Option.bind_some]
  dsimp only
  rw [if_pos (by omega), pupd gt.2.1 dm (by omega), updA_in gt.1 gt.2.2 d01, Option.bind_some]
  dsimp only
  rw [C.snext_is gt.2.1 (by omega) d01 k (by omega), Option.bind_some]
  dsimp only
  rw [if_pos rfl, if_pos rfl, if_pos rfl, same_in (gu.2.1.1.symm ▸ (by decide)) (gu.2.2.1.symm ▸ (by decide)) (by omega), Option.bind_some, if_pos rfl]
  unfold stn
  rw [if_pos rfl]
  obtain ⟨k, rfl⟩ : ∃ r, k = r + 1 := ⟨k - 1, by omega⟩
  simp only [bitloftlaw09_AdaptParts.j3]
end Go.Proofs.YtmncppbhnjngkaaDoor.Pure
