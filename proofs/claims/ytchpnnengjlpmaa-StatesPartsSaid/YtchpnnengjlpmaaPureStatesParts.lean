/- A run in two parts is a run, bit by bit. -/
import Derived.Test.YtchpnnengjlpmaaXStatesPartsx4
import Derived.OpenShut
set_option linter.unusedVariables false
set_option linter.unusedSimpArgs false
namespace Go.Proofs.Ytchpnnengjlpmaa.Pure
open Go.RowKit Go.Proofs.Ytchpnnengjlpmaa.XStatesParts Go.Proofs.YtchpnnengjlpmaaW.PrintWords Go.Proofs.YtchpnnengjlpmaaW.PrintLast
theorem w32 {x : Int} (h : -2147483648 ≤ x ∧ x ≤ 2147483647) : wrap32 x = x := by unfold wrap32; omega
theorem w64 {x : Int} (h : -9223372036854775808 ≤ x ∧ x ≤ 9223372036854775807) : wrap64 x = x := by unfold wrap64; omega
/-- A valid count: two numbers and the last bit. -/
def Valid (a b c : Int) : Prop := (a = 0 ∧ b = 0 ∧ c = 0) ∨ (c = 0 ∧ 1 ≤ a ∧ a ≤ 12 ∧ 0 ≤ b ∧ b ≤ 7) ∨ (c = 1 ∧ 1 ≤ b ∧ b ≤ 12 ∧ 0 ≤ a ∧ a ≤ 7)
theorem Valid.bounds {a b c : Int} (h : Valid a b c) : 0 ≤ a ∧ a ≤ 12 ∧ 0 ≤ b ∧ b ≤ 12 ∧ 0 ≤ c ∧ c ≤ 1 := by unfold Valid at h; omega
theorem check_in {a b c : Int} (h : Valid a b c) : counts_Check.f a b c = some 0 := by
  unfold Valid at h
  unfold counts_Check.f
  rw [if_neg (by omega)]
  by_cases z : a = 0 ∧ b = 0 ∧ c = 0
  · rw [if_pos z]
  · rw [if_neg z, if_neg (by omega)]
    by_cases y : c = 0
    · rw [if_pos y, if_neg (by omega)]
    · rw [if_neg y, if_neg (by omega)]
theorem check_out {a b c : Int} (hc : 0 ≤ c) (h : ¬ Valid a b c) : counts_Check.f a b c = some 8 := by
  unfold Valid at h
  unfold counts_Check.f
  rw [if_neg (by omega), if_neg (by omega)]
  by_cases x : c > 1
  · rw [if_pos x]
  · rw [if_neg x]
    by_cases y : c = 0
    · rw [if_pos y, if_pos (by omega)]
    · rw [if_neg y, if_pos (by omega)]
theorem less_in {x : Int} (h0 : 0 ≤ x) (h1 : x ≤ 12) : 0 ≤ counts_next.less x ∧ counts_next.less x ≤ 7 ∧ counts_next.less x ≤ x := by unfold counts_next.less; split <;> omega
/-- The count after a bit. -/
def nxt (a b d : Int) : Int × Int × Int := if d = 0 then (if a < 12 then a + 1 else 12, counts_next.less b, 0) else (counts_next.less a, if b < 12 then b + 1 else 12, 1)
theorem next_valid {a b d : Int} (ha : 0 ≤ a) (ha' : a ≤ 12) (hb : 0 ≤ b) (hb' : b ≤ 12) : Valid (nxt a b d).1 (nxt a b d).2.1 (nxt a b d).2.2 := by
  have la := less_in ha ha'
  have lb := less_in hb hb'
  unfold nxt Valid
  by_cases h : d = 0
  · rw [if_pos h]
    right; left
    refine ⟨rfl, ?_, ?_, lb.1, lb.2.1⟩ <;> (dsimp only; split <;> omega)
  · rw [if_neg h]
    right; right
    refine ⟨rfl, ?_, ?_, la.1, la.2.1⟩ <;> (dsimp only; split <;> omega)
theorem next_in {a b c d : Int} (h : Valid a b c) (hd : d = 0 ∨ d = 1) : counts_next.f a b c d = some (nxt a b d) := by
  have v := h.bounds
  unfold counts_next.f nxt
  rw [if_pos (by omega)]
  rcases hd with rfl | rfl
  · rw [if_pos rfl, if_pos rfl]
  · rw [if_neg (show ¬ (1 : Int) = 0 by decide), if_pos rfl, if_neg (show ¬ (1 : Int) = 0 by decide)]
instance (a b c : Int) : Decidable (Valid a b c) := by unfold Valid; infer_instance
theorem drop_rd {l : List Int} {i : Nat} (h : i < l.length) : l.drop i = rd l (i : Int) :: l.drop (i + 1) := by
  have e : rd l (i : Int) = l[i] := by simp [rd, List.getD_eq_getElem?_getD, h]
  rw [e]
  exact List.drop_eq_getElem_cons h
/-- Are all of a list bits? -/
def bits (l : List Int) : Bool := l.all fun x => decide (x ≤ 1)
theorem bits_cons (x : Int) (l : List Int) : bits (x :: l) = (decide (x ≤ 1) && bits l) := rfl
/-- The count after bits. -/
def rn : List Int → Int → Int → Int → Int × Int × Int
  | [], a, b, c => (a, b, c)
  | d :: l, a, b, _ => rn l (nxt a b d).1 (nxt a b d).2.1 (nxt a b d).2.2
theorem rn_valid (l : List Int) : ∀ a b c, Valid a b c → Valid (rn l a b c).1 (rn l a b c).2.1 (rn l a b c).2.2 := by
  induction l with
  | nil => exact fun a b c h => h
  | cons d l ih =>
    intro a b c h
    have v := h.bounds
    exact ih _ _ _ (next_valid v.1 v.2.1 v.2.2.1 v.2.2.2.1)
theorem rn_append (l m : List Int) : ∀ a b c, rn (l ++ m) a b c = rn m (rn l a b c).1 (rn l a b c).2.1 (rn l a b c).2.2 := by
  induction l with
  | nil => exact fun a b c => rfl
  | cons d l ih => exact fun a b c => ih _ _ _
theorem max_go {l : List Int} (hl : l.length ≤ 140737488351232) (d : Nat) : ∀ (k i : Nat) (m : Int), i + d = l.length → d < k → ∃ r, slices_Max_uint8_uint8.l0 k l m (i : Int) = some r ∧ (r > 1 ↔ ¬ (m ≤ 1 ∧ bits (l.drop i) = true)) := by
  induction d with
  | zero =>
    intro k i m hd hk
    obtain ⟨k, rfl⟩ : ∃ q, k = q + 1 := ⟨k - 1, by omega⟩
    refine ⟨m, ?_, ?_⟩
    · simp only [slices_Max_uint8_uint8.l0]
      rw [if_neg (by omega)]
    · rw [List.drop_of_length_le (by omega)]
      simp [bits]
  | succ d ih =>
    intro k i m hd hk
    obtain ⟨k, rfl⟩ : ∃ q, k = q + 1 := ⟨k - 1, by omega⟩
    obtain ⟨r, h1, h2⟩ := ih k (i + 1) (mx m (rd l (i : Int))) (by omega) (by omega)
    refine ⟨r, ?_, ?_⟩
    · simp only [slices_Max_uint8_uint8.l0]
      rw [if_pos (by omega), if_pos (by omega), w64 (by omega)]
      exact h1
    · rw [h2, drop_rd (l := l) (i := i) (by omega), bits_cons]
      have : mx m (rd l (i : Int)) ≤ 1 ↔ m ≤ 1 ∧ rd l (i : Int) ≤ 1 := by unfold mx; split <;> omega
      rw [this]
      simp only [Bool.and_eq_true, decide_eq_true_eq, and_assoc]
theorem max_bits {l : List Int} (hl : l.length ≤ 140737488351232) (h0 : 0 < l.length) (k : Nat) (hk : l.length < k) : ∃ r, slices_Max_uint8_uint8.f k l = some r ∧ (r > 1 ↔ ¬ bits l = true) := by
  obtain ⟨r, h1, h2⟩ := max_go hl (l.length - 1) k 1 (rd l 0) (by omega) (by omega)
  refine ⟨r, ?_, ?_⟩
  · unfold slices_Max_uint8_uint8.f
    rw [if_neg (by omega), if_pos (by omega)]
    exact h1
  · rw [h2]
    have e := congrArg bits (drop_rd (l := l) (i := 0) h0)
    rw [List.drop_zero, bits_cons] at e
    rw [e]
    simp
theorem run_go {l : List Int} (hl : l.length ≤ 140737488351232) (h01 : ∀ x ∈ l, 0 ≤ x) (hb : bits l = true) (d : Nat) : ∀ (k i : Nat) (a b c : Int), i + d = l.length → d < k → Valid a b c →
    counts_Run.l0 k l (l.length : Int) (i : Int) a b c = some ((rn (l.drop i) a b c).1, (rn (l.drop i) a b c).2.1, (rn (l.drop i) a b c).2.2, 0) := by
  induction d with
  | zero =>
    intro k i a b c hd hk h
    obtain ⟨k, rfl⟩ : ∃ q, k = q + 1 := ⟨k - 1, by omega⟩
    simp only [counts_Run.l0]
    rw [if_neg (by omega), List.drop_of_length_le (by omega)]
    rfl
  | succ d ih =>
    intro k i a b c hd hk h
    obtain ⟨k, rfl⟩ : ∃ q, k = q + 1 := ⟨k - 1, by omega⟩
    have v := h.bounds
    have e : rd l (i : Int) = l[i]'(by omega) := by simp [rd, List.getD_eq_getElem?_getD, show i < l.length by omega]
    have m0 : 0 ≤ rd l (i : Int) := by rw [e]; exact h01 _ (List.getElem_mem _)
    have m1 : rd l (i : Int) ≤ 1 := by
      rw [e]
      have := List.all_eq_true.mp hb _ (List.getElem_mem (by omega : i < l.length))
      simpa using this
    simp only [counts_Run.l0]
    rw [if_pos (by omega), if_pos (by omega), if_pos (by omega), next_in h (by omega)]
    simp only [Option.bind_some]
    rw [w64 (by omega), drop_rd (l := l) (i := i) (by omega)]
    exact ih k (i + 1) _ _ _ (by omega) (by omega) (next_valid v.1 v.2.1 v.2.2.1 v.2.2.2.1)
/-- What a run answers. -/
def RunAns (a b c : Int) (l : List Int) : Int × Int × Int × Int :=
  if Valid a b c then (if l.length > 20000 then (0, 0, 0, 4) else if bits l = true then ((rn l a b c).1, (rn l a b c).2.1, (rn l a b c).2.2, 0) else (0, 0, 0, 2)) else (0, 0, 0, 8)
theorem run_is {a b c : Int} {l : List Int} (hc : 0 ≤ c) (h01 : ∀ x ∈ l, 0 ≤ x) (k : Nat) (hk : 20002 ≤ k ∨ l.length + 2 ≤ k) : counts_Run.f k a b c l = some (RunAns a b c l) := by
  unfold counts_Run.f RunAns
  by_cases h : Valid a b c
  · rw [check_in h, if_pos h]
    simp only [Option.bind_some, if_true]
    by_cases g : l.length > 20000
    · rw [if_pos (by omega), if_pos g]
    · rw [if_neg (by omega), if_neg g]
      have go : bits l = true → counts_Run.j0 k l a b c = some ((rn l a b c).1, (rn l a b c).2.1, (rn l a b c).2.2, 0) := by
        intro hb
        obtain ⟨k, rfl⟩ : ∃ q, k = q + 1 := ⟨k - 1, by omega⟩
        simp only [counts_Run.j0]
        exact run_go (by omega) h01 hb l.length k 0 a b c (by omega) (by omega) h
      by_cases z : 0 < l.length
      · obtain ⟨r, r1, r2⟩ := max_bits (l := l) (by omega) z k (by omega)
        rw [if_pos (by omega), r1]
        simp only [Option.bind_some]
        by_cases hb : bits l = true
        · rw [if_neg (by rw [r2]; simp [hb]), if_pos hb, go hb]
        · rw [if_pos (r2.mpr hb), if_neg hb]
      · have e : l = [] := List.eq_nil_of_length_eq_zero (by omega)
        rw [if_neg (by omega), if_pos (by rw [e]; rfl), go (by rw [e]; rfl)]
  · rw [check_out hc h, if_neg h]
    simp only [Option.bind_some]
    rw [if_neg (by decide)]
def cnt (s : Int) : Int × Int × Int := if s = 0 then (0, 0, 0) else if s ≤ 96 then ((s - 1) / 8 + 1, (s - 1) % 8, 0) else ((s - 1) % 8, (s - 1) / 8 - 11, 1)
theorem cnt_valid {s : Int} (h0 : 0 ≤ s) (h1 : s ≤ 192) : Valid (cnt s).1 (cnt s).2.1 (cnt s).2.2 := by
  unfold cnt Valid
  split
  · left; exact ⟨rfl, rfl, rfl⟩
  · split
    · right; left; dsimp only; omega
    · right; right; dsimp only; omega
theorem count_in {s : Int} (h0 : 0 ≤ s) (h1 : s ≤ 192) : states_Count.f s = some ((cnt s).1, (cnt s).2.1, (cnt s).2.2, 0) := by
  unfold states_Count.f cnt
  rw [if_neg (by omega), if_neg (by omega)]
  by_cases z : s = 0
  · rw [if_pos z, if_pos z]
  · rw [if_neg z, if_neg z]
    by_cases y : s ≤ 96
    · rw [if_pos y, if_pos y]
      have : (s - 1) / 8 % 12 = (s - 1) / 8 := by omega
      rw [this]
    · rw [if_neg y, if_neg y]
      have : (s - 1) / 8 % 12 + 1 = (s - 1) / 8 - 11 := by omega
      rw [this]
theorem count_out {s : Int} (h0 : 193 ≤ s) (h1 : s ≤ 255) : states_Count.f s = some (0, 0, 0, 2) := by
  unfold states_Count.f
  rw [if_neg (by omega), if_pos (by omega)]
def num (a b c : Int) : Int := if a = 0 ∧ b = 0 then 0 else if c = 0 then (a - 1) * 8 + b + 1 else (12 + b - 1) * 8 + a + 1
theorem num_bounds {a b c : Int} (h : Valid a b c) : 0 ≤ num a b c ∧ num a b c ≤ 192 := by
  unfold Valid at h
  unfold num
  split
  · omega
  · split <;> omega
theorem number_in {a b c : Int} (h : Valid a b c) : states_number.f a b c = some (num a b c) := by
  have v := h.bounds
  unfold Valid at h
  unfold states_number.f num
  rw [if_pos (by omega)]
  by_cases z : a = 0 ∧ b = 0
  · rw [if_pos (by omega), if_pos z]
  · rw [if_neg (by omega), if_neg z]
    by_cases y : c = 0
    · rw [if_pos y, if_pos y, if_pos (by omega)]
    · rw [if_neg y, if_neg y, if_pos (by omega), if_pos (by omega)]
theorem num_cnt {s : Int} (h0 : 0 ≤ s) (h1 : s ≤ 192) : num (cnt s).1 (cnt s).2.1 (cnt s).2.2 = s := by
  unfold num cnt
  by_cases z : s = 0
  · rw [if_pos z]; simp [z]
  · rw [if_neg z]
    by_cases y : s ≤ 96
    · rw [if_pos y]; dsimp only; rw [if_neg (by omega), if_pos rfl]; omega
    · rw [if_neg y]; dsimp only; rw [if_neg (by omega), if_neg (by decide)]; omega
theorem cnt_num {a b c : Int} (h : Valid a b c) : cnt (num a b c) = (a, b, c) := by
  unfold Valid at h
  unfold num
  by_cases z : a = 0 ∧ b = 0
  · rw [if_pos z]
    obtain ⟨rfl, rfl⟩ := z
    have : c = 0 := by omega
    subst this
    rfl
  · rw [if_neg z]
    unfold cnt
    by_cases y : c = 0
    · rw [if_pos y, if_neg (by omega), if_pos (by omega)]
      subst y
      refine Prod.ext ?_ (Prod.ext ?_ rfl) <;> dsimp only <;> omega
    · rw [if_neg y, if_neg (by omega), if_neg (by omega)]
      have : c = 1 := by omega
      subst this
      refine Prod.ext ?_ (Prod.ext ?_ rfl) <;> dsimp only <;> omega
theorem Number_in {a b c : Int} (h : Valid a b c) : states_Number.f a b c = some (num a b c, 0) := by
  unfold states_Number.f
  rw [check_in h]
  simp only [Option.bind_some, if_true]
  rw [number_in h]
  rfl
theorem Number_out {a b c : Int} (hc : 0 ≤ c) (h : ¬ Valid a b c) : states_Number.f a b c = some (0, 8) := by
  unfold states_Number.f
  rw [check_out hc h]
  rfl
theorem contains_is {l : List Int} (hl : l.length ≤ 20000) : slices_ContainsFunc_uint8_uint8_states_Run_1.f l = some (!bits l) := by
  unfold slices_ContainsFunc_uint8_uint8_states_Run_1.f bits
  rw [if_neg (by omega), List.not_all_eq_any_not]
  congr 2
  funext x
  by_cases c : x ≤ 1
  · rw [decide_eq_true c, decide_eq_false (by omega)]; rfl
  · rw [decide_eq_false c, decide_eq_true (by omega)]; rfl
def SRun (s : Int) (l : List Int) : Int × Int := if s > 192 then (0, 2) else if l.length > 20000 then (0, 4) else if bits l = true then (num (rn l (cnt s).1 (cnt s).2.1 (cnt s).2.2).1 (rn l (cnt s).1 (cnt s).2.1 (cnt s).2.2).2.1 (rn l (cnt s).1 (cnt s).2.1 (cnt s).2.2).2.2, 0) else (0, 2)
theorem srun_is {s : Int} {l : List Int} (h0 : 0 ≤ s) (h1 : s ≤ 255) (h01 : ∀ x ∈ l, 0 ≤ x) (k : Nat) (hk : 20002 ≤ k ∨ l.length + 2 ≤ k) : states_Run.f k s l = some (SRun s l) := by
  unfold states_Run.f SRun
  by_cases c : s > 192
  · rw [count_out (by omega) h1, if_pos c]
    rfl
  · rw [count_in h0 (by omega), if_neg c]
    simp only [Option.bind_some, if_true]
    by_cases g : l.length > 20000
    · rw [if_pos (by omega), if_pos g]
    · rw [if_neg (by omega), if_neg g, contains_is (by omega)]
      simp only [Option.bind_some]
      have v := cnt_valid h0 (by omega : s ≤ 192)
      by_cases hb : bits l = true
      · rw [hb, if_neg (by decide), if_pos rfl, run_is v.bounds.2.2.2.2.1 h01 k hk]
        unfold RunAns
        rw [if_pos v, if_neg g, if_pos hb]
        simp only [Option.bind_some, if_true]
        rw [number_in (rn_valid l _ _ _ v)]
        rfl
      · rw [if_neg hb, if_pos (by simpa using hb)]
theorem snext_is {s d : Int} (h0 : 0 ≤ s) (h1 : s ≤ 192) (hd : d = 0 ∨ d = 1) (k : Nat) (hk : 3 ≤ k) : states_Next.f k s d = some (num (nxt (cnt s).1 (cnt s).2.1 d).1 (nxt (cnt s).1 (cnt s).2.1 d).2.1 (nxt (cnt s).1 (cnt s).2.1 d).2.2, 0) := by
  unfold states_Next.f
  rw [srun_is h0 (by omega) (by intro x hx; simp at hx; omega) k (.inr (by simpa using hk))]
  unfold SRun
  rw [if_neg (by omega), if_neg (by simp), if_pos (by simp [bits]; omega)]
  rfl
theorem snext_far {s d : Int} (h0 : 0 ≤ s) (h1 : s ≤ 255) (hd : 0 ≤ d) (h : s > 192 ∨ d > 1) (k : Nat) (hk : 3 ≤ k) : states_Next.f k s d = some (0, 2) := by
  unfold states_Next.f
  rw [srun_is h0 (by omega) (by intro x hx; simp at hx; omega) k (.inr (by simpa using hk))]
  unfold SRun
  by_cases c : s > 192
  · rw [if_pos c]; rfl
  · rw [if_neg c, if_neg (by simp), if_neg (by simp [bits]; omega)]; rfl
theorem bits_go {l : List Int} (hl : l.length ≤ 140737488351232) (d : Nat) : ∀ (k i : Nat), i + d = l.length → d < k → bitloftref07_Bits.l0 k l (i : Int) = some (bits (l.drop i)) := by
  induction d with
  | zero =>
    intro k i hd hk
    obtain ⟨k, rfl⟩ : ∃ q, k = q + 1 := ⟨k - 1, by omega⟩
    simp only [bitloftref07_Bits.l0]
    rw [if_neg (by omega), List.drop_of_length_le (by omega)]
    rfl
  | succ d ih =>
    intro k i hd hk
    obtain ⟨k, rfl⟩ : ∃ q, k = q + 1 := ⟨k - 1, by omega⟩
    simp only [bitloftref07_Bits.l0]
    rw [if_pos (by omega), if_pos (by omega), w64 (by omega), drop_rd (l := l) (i := i) (by omega), bits_cons]
    by_cases c : rd l (i : Int) > 1
    · rw [if_pos c, decide_eq_false (by omega)]
      rfl
    · rw [if_neg c, decide_eq_true (by omega)]
      exact ih k (i + 1) (by omega) (by omega)
theorem bits_is {l : List Int} (hl : l.length ≤ 140737488351232) (k : Nat) (hk : l.length < k) : bitloftref07_Bits.f k l = some (bits l) := bits_go hl l.length k 0 (by omega) hk
theorem sparts_go {l : List Int} {N : Int} (hl : l.length ≤ 100) (hb : ∀ x ∈ l, x = 0 ∨ x = 1) (d : Nat) : ∀ (k i : Nat) (a b c : Int), i + d = l.length → d + 6 ≤ k → Valid a b c → num (rn (l.drop i) a b c).1 (rn (l.drop i) a b c).2.1 (rn (l.drop i) a b c).2.2 = N →
    bitloftlaw08_StatesParts.l0 k (num a b c) l N 0 0 N 0 0 0 N 0 (i : Int) = some true := by
  induction d with
  | zero =>
    intro k i a b c hd hk h hr
    obtain ⟨k, rfl⟩ : ∃ q, k = q + 2 := ⟨k - 2, by omega⟩
    rw [List.drop_of_length_le (by omega)] at hr
    simp only [rn] at hr
    simp only [bitloftlaw08_StatesParts.l0]
    rw [if_neg (by omega), hr]
    simp [bitloftlaw08_StatesParts.j2, bitloftlaw08_alive.f]
  | succ d ih =>
    intro k i a b c hd hk h hr
    obtain ⟨k, rfl⟩ : ∃ q, k = q + 1 := ⟨k - 1, by omega⟩
    have v := h.bounds
    have e : rd l (i : Int) = l[i]'(by omega) := by simp [rd, List.getD_eq_getElem?_getD, show i < l.length by omega]
    have x01 := hb _ (List.getElem_mem (by omega : i < l.length))
    have nb := num_bounds h
    rw [drop_rd (by omega)] at hr
    have st := snext_is nb.1 nb.2 (d := rd l (i : Int)) (by rw [e]; exact x01) k (by omega)
    rw [cnt_num h] at st
    dsimp only at st
    simp only [bitloftlaw08_StatesParts.l0]
    rw [if_pos (by omega), if_pos (by omega), st, Option.bind_some]
    dsimp only
    rw [if_pos rfl, w64 (by omega)]
    exact ih k (i + 1) _ _ _ (by omega) (by omega) (next_valid v.1 v.2.1 v.2.2.1 v.2.2.2.1) hr
theorem StatesParts : bitloftlaw08_StatesParts.Pure := by
  intro s l i hs _ hl hw hi
  replace hs := bounds_u8 hs
  have h01 : ∀ x ∈ l, 0 ≤ x := fun x hx => (bounds_u8 (hw x hx)).1
  obtain ⟨K, hK⟩ : ∃ K, K = l.length + 400 := ⟨_, rfl⟩
  refine ⟨K + 1, ?_⟩
  have jt : bitloftlaw08_StatesParts.j0 (K + 1) s l i true = some true := by simp only [bitloftlaw08_StatesParts.j0]; rw [if_pos trivial]; rfl
  unfold bitloftlaw08_StatesParts.f bitloftref08_State.f
  rw [Option.bind_some]
  by_cases h : s > 192
  · rw [if_neg (by simp; omega), jt]
  rw [if_pos (by simp; omega)]
  by_cases g : (l.length : Int) > 100
  · rw [if_pos g, jt]
  rw [if_neg g, bits_is (by omega) _ (by omega), Option.bind_some]
  by_cases z : bits l = true
  · rw [if_pos z]
    by_cases u : i < 0
    · rw [if_pos u, jt]
    rw [if_neg u]
    by_cases t : i > (l.length : Int)
    · rw [decide_eq_true t, jt]
    rw [decide_eq_false t]
    have b01 : ∀ x ∈ l, x = 0 ∨ x = 1 := fun x hx => by
      have x0 := h01 x hx
      have x1 := List.all_eq_true.mp z x hx
      simp at x1
      omega
    have zt : bits (l.take i.toNat) = true := List.all_eq_true.mpr fun x hx => List.all_eq_true.mp z x (List.mem_of_mem_take hx)
    have zd : bits (l.drop i.toNat) = true := List.all_eq_true.mpr fun x hx => List.all_eq_true.mp z x (List.mem_of_mem_drop hx)
    have v := cnt_valid hs.1 (by omega : s ≤ 192)
    have vt := rn_valid (l.take i.toNat) _ _ _ v
    have vl := rn_valid l _ _ _ v
    have nt := num_bounds vt
    have r0 := srun_is hs.1 (by omega) h01 K (.inr (by omega))
    have r1 := srun_is hs.1 (by omega) (fun x hx => h01 x (List.mem_of_mem_take hx)) K (.inr (by simp; omega)) (l := l.take i.toNat)
    have r2 := srun_is nt.1 (by omega) (fun x hx => h01 x (List.mem_of_mem_drop hx)) K (.inr (by simp; omega)) (l := l.drop i.toNat)
    have r3 := run_is v.bounds.2.2.2.2.1 h01 K (.inr (by omega)) (a := (cnt s).1) (b := (cnt s).2.1)
    unfold SRun at r0 r1 r2
    unfold RunAns at r3
    rw [if_neg h, if_neg (by omega), if_pos z] at r0
    rw [if_neg h, if_neg (by simp; omega), if_pos zt] at r1
    rw [cnt_num vt] at r2
    dsimp only at r2
    rw [if_neg (by omega), if_neg (by simp; omega), if_pos zd, ← rn_append, List.take_append_drop] at r2
    rw [if_pos v, if_neg (by omega), if_pos z] at r3
    simp only [bitloftlaw08_StatesParts.j0]
    rw [if_neg (by decide), r0, Option.bind_some, if_pos (by omega), if_pos (by omega), r1, Option.bind_some]
    dsimp only
    rw [r2, Option.bind_some, count_in hs.1 (by omega), Option.bind_some]
    dsimp only
    rw [r3, Option.bind_some]
    dsimp only
    rw [Number_in vl, Option.bind_some]
    dsimp only
    have go := sparts_go (N := num (rn l (cnt s).1 (cnt s).2.1 (cnt s).2.2).1 (rn l (cnt s).1 (cnt s).2.1 (cnt s).2.2).2.1 (rn l (cnt s).1 (cnt s).2.1 (cnt s).2.2).2.2) (by omega) b01 l.length K 0 (cnt s).1 (cnt s).2.1 (cnt s).2.2 (by omega) (by omega) v rfl
    rw [num_cnt hs.1 (by omega : s ≤ 192)] at go
    exact go
  · rw [if_neg z]
    exact jt
end Go.Proofs.Ytchpnnengjlpmaa.Pure
