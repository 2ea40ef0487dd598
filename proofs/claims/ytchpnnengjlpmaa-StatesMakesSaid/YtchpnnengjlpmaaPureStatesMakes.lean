/- Next, Count, Number and Total are the reference's. -/
import Derived.Test.YtchpnnengjlpmaaXStatesMakesx5
import Derived.OpenShut
set_option linter.unusedVariables false
set_option linter.unusedSimpArgs false
namespace Go.Proofs.Ytchpnnengjlpmaa.Pure
open Go.RowKit Go.Proofs.Ytchpnnengjlpmaa.XStatesMakes Go.Proofs.YtchpnnengjlpmaaW.PrintWords Go.Proofs.YtchpnnengjlpmaaW.PrintLast
theorem w32 {x : Int} (h : -2147483648 ≤ x ∧ x ≤ 2147483647) : wrap32 x = x := by unfold wrap32; omega
theorem w64 {x : Int} (h : -9223372036854775808 ≤ x ∧ x ≤ 9223372036854775807) : wrap64 x = x := by unfold wrap64; omega
/-- A valid count: two numbers and the last bit. -/
def Valid (a b c : Int) : Prop := (a = 0 ∧ b = 0 ∧ c = 0) ∨ (c = 0 ∧ 1 ≤ a ∧ a ≤ 12 ∧ 0 ≤ b ∧ b ≤ 7) ∨ (c = 1 ∧ 1 ≤ b ∧ b ≤ 12 ∧ 0 ≤ a ∧ a ≤ 7)
theorem Valid.bounds {a b c : Int} (h : Valid a b c) : 0 ≤ a ∧ a ≤ 12 ∧ 0 ≤ b ∧ b ≤ 12 ∧ 0 ≤ c ∧ c ≤ 1 := by unfold Valid at h; omega
theorem check_in {a b c : Int} (h : Valid a b c) : counts_Check.f a b c = some 0 := by
  unfold Valid at h
  unfold counts_Check.f
  rw [if_neg (by omega)]
  by_cases z : a = 0 ∧ b = 0 ∧ c = 0
  · rw [if_pos z]
  · rw [if_neg z, if_neg (by omega)]
    by_cases y : c = 0
    · rw [if_pos y, if_neg (by omega)]
    · rw [if_neg y, if_neg (by omega)]
theorem check_out {a b c : Int} (hc : 0 ≤ c) (h : ¬ Valid a b c) : counts_Check.f a b c = some 8 := by
  unfold Valid at h
  unfold counts_Check.f
  rw [if_neg (by omega), if_neg (by omega)]
  by_cases x : c > 1
  · rw [if_pos x]
  · rw [if_neg x]
    by_cases y : c = 0
    · rw [if_pos y, if_pos (by omega)]
    · rw [if_neg y, if_pos (by omega)]
theorem less_in {x : Int} (h0 : 0 ≤ x) (h1 : x ≤ 12) : 0 ≤ counts_next.less x ∧ counts_next.less x ≤ 7 ∧ counts_next.less x ≤ x := by unfold counts_next.less; split <;> omega
/-- The count after a bit. -/
def nxt (a b d : Int) : Int × Int × Int := if d = 0 then (if a < 12 then a + 1 else 12, counts_next.less b, 0) else (counts_next.less a, if b < 12 then b + 1 else 12, 1)
theorem next_valid {a b d : Int} (ha : 0 ≤ a) (ha' : a ≤ 12) (hb : 0 ≤ b) (hb' : b ≤ 12) : Valid (nxt a b d).1 (nxt a b d).2.1 (nxt a b d).2.2 := by
  have la := less_in ha ha'
  have lb := less_in hb hb'
  unfold nxt Valid
  by_cases h : d = 0
  · rw [if_pos h]
    right; left
    refine ⟨rfl, ?_, ?_, lb.1, lb.2.1⟩ <;> (dsimp only; split <;> omega)
  · rw [if_neg h]
    right; right
    refine ⟨rfl, ?_, ?_, la.1, la.2.1⟩ <;> (dsimp only; split <;> omega)
theorem next_in {a b c d : Int} (h : Valid a b c) (hd : d = 0 ∨ d = 1) : counts_next.f a b c d = some (nxt a b d) := by
  have v := h.bounds
  unfold counts_next.f nxt
  rw [if_pos (by omega)]
  rcases hd with rfl | rfl
  · rw [if_pos rfl, if_pos rfl]
  · rw [if_neg (show ¬ (1 : Int) = 0 by decide), if_pos rfl, if_neg (show ¬ (1 : Int) = 0 by decide)]
instance (a b c : Int) : Decidable (Valid a b c) := by unfold Valid; infer_instance
theorem drop_rd {l : List Int} {i : Nat} (h : i < l.length) : l.drop i = rd l (i : Int) :: l.drop (i + 1) := by
  have e : rd l (i : Int) = l[i] := by simp [rd, List.getD_eq_getElem?_getD, h]
  rw [e]
  exact List.drop_eq_getElem_cons h
/-- Are all of a list bits? -/
def bits (l : List Int) : Bool := l.all fun x => decide (x ≤ 1)
theorem bits_cons (x : Int) (l : List Int) : bits (x :: l) = (decide (x ≤ 1) && bits l) := rfl
/-- The count after bits. -/
def rn : List Int → Int → Int → Int → Int × Int × Int
  | [], a, b, c => (a, b, c)
  | d :: l, a, b, _ => rn l (nxt a b d).1 (nxt a b d).2.1 (nxt a b d).2.2
theorem rn_valid (l : List Int) : ∀ a b c, Valid a b c → Valid (rn l a b c).1 (rn l a b c).2.1 (rn l a b c).2.2 := by
  induction l with
  | nil => exact fun a b c h => h
  | cons d l ih =>
    intro a b c h
    have v := h.bounds
    exact ih _ _ _ (next_valid v.1 v.2.1 v.2.2.1 v.2.2.2.1)
theorem rn_append (l m : List Int) : ∀ a b c, rn (l ++ m) a b c = rn m (rn l a b c).1 (rn l a b c).2.1 (rn l a b c).2.2 := by
  induction l with
  | nil => exact fun a b c => rfl
  | cons d l ih => exact fun a b c => ih _ _ _
theorem max_go {l : List Int} (hl : l.length ≤ 140737488351232) (d : Nat) : ∀ (k i : Nat) (m : Int), i + d = l.length → d < k → ∃ r, slices_Max_uint8_uint8.l0 k l m (i : Int) = some r ∧ (r > 1 ↔ ¬ (m ≤ 1 ∧ bits (l.drop i) = true)) := by
  induction d with
  | zero =>
    intro k i m hd hk
    obtain ⟨k, rfl⟩ : ∃ q, k = q + 1 := ⟨k - 1, by omega⟩
    refine ⟨m, ?_, ?_⟩
    · simp only [slices_Max_uint8_uint8.l0]
      rw [if_neg (by omega)]
    · rw [List.drop_of_length_le (by omega)]
      simp [bits]
  | succ d ih =>
    intro k i m hd hk
    obtain ⟨k, rfl⟩ : ∃ q, k = q + 1 := ⟨k - 1, by omega⟩
    obtain ⟨r, h1, h2⟩ := ih k (i + 1) (mx m (rd l (i : Int))) (by omega) (by omega)
    refine ⟨r, ?_, ?_⟩
    · simp only [slices_Max_uint8_uint8.l0]
      rw [if_pos (by omega), if_pos (by omega), w64 (by omega)]
      exact h1
    · rw [h2, drop_rd (l := l) (i := i) (by omega), bits_cons]
      have : mx m (rd l (i : Int)) ≤ 1 ↔ m ≤ 1 ∧ rd l (i : Int) ≤ 1 := by unfold mx; split <;> omega
      rw [this]
      simp only [Bool.and_eq_true, decide_eq_true_eq, and_assoc]
theorem max_bits {l : List Int} (hl : l.length ≤ 140737488351232) (h0 : 0 < l.length) (k : Nat) (hk : l.length < k) : ∃ r, slices_Max_uint8_uint8.f k l = some r ∧ (r > 1 ↔ ¬ bits l = true) := by
  obtain ⟨r, h1, h2⟩ := max_go hl (l.length - 1) k 1 (rd l 0) (by omega) (by omega)
  refine ⟨r, ?_, ?_⟩
  · unfold slices_Max_uint8_uint8.f
    rw [if_neg (by omega), if_pos (by omega)]
    exact h1
  · rw [h2]
    have e := congrArg bits (drop_rd (l := l) (i := 0) h0)
    rw [List.drop_zero, bits_cons] at e
    rw [e]
    simp
theorem run_go {l : List Int} (hl : l.length ≤ 140737488351232) (h01 : ∀ x ∈ l, 0 ≤ x) (hb : bits l = true) (d : Nat) : ∀ (k i : Nat) (a b c : Int), i + d = l.length → d < k → Valid a b c →
    counts_Run.l0 k l (l.length : Int) (i : Int) a b c = some ((rn (l.drop i) a b c).1, (rn (l.drop i) a b c).2.1, (rn (l.drop i) a b c).2.2, 0) := by
  induction d with
  | zero =>
    intro k i a b c hd hk h
    obtain ⟨k, rfl⟩ : ∃ q, k = q + 1 := ⟨k - 1, by omega⟩
    simp only [counts_Run.l0]
    rw [if_neg (by omega), List.drop_of_length_le (by omega)]
    rfl
  | succ d ih =>
    intro k i a b c hd hk h
    obtain ⟨k, rfl⟩ : ∃ q, k = q + 1 := ⟨k - 1, by omega⟩
    have v := h.bounds
    have e : rd l (i : Int) = l[i]'(by omega) := by simp [rd, List.getD_eq_getElem?_getD, show i < l.length by omega]
    have m0 : 0 ≤ rd l (i : Int) := by rw [e]; exact h01 _ (List.getElem_mem _)
    have m1 : rd l (i : Int) ≤ 1 := by
      rw [e]
      have := List.all_eq_true.mp hb _ (List.getElem_mem (by omega : i < l.length))
      simpa using this
    simp only [counts_Run.l0]
    rw [if_pos (by omega), if_pos (by omega), if_pos (by omega), next_in h (by omega)]
    simp only [Option.bind_some]
    rw [w64 (by omega), drop_rd (l := l) (i := i) (by omega)]
    exact ih k (i + 1) _ _ _ (by omega) (by omega) (next_valid v.1 v.2.1 v.2.2.1 v.2.2.2.1)
/-- What a run answers. -/
def RunAns (a b c : Int) (l : List Int) : Int × Int × Int × Int :=
  if Valid a b c then (if l.length > 20000 then (0, 0, 0, 4) else if bits l = true then ((rn l a b c).1, (rn l a b c).2.1, (rn l a b c).2.2, 0) else (0, 0, 0, 2)) else (0, 0, 0, 8)
theorem run_is {a b c : Int} {l : List Int} (hc : 0 ≤ c) (h01 : ∀ x ∈ l, 0 ≤ x) (k : Nat) (hk : 20002 ≤ k ∨ l.length + 2 ≤ k) : counts_Run.f k a b c l = some (RunAns a b c l) := by
  unfold counts_Run.f RunAns
  by_cases h : Valid a b c
  · rw [check_in h, if_pos h]
    simp only [Option.bind_some, if_true]
    by_cases g : l.length > 20000
    · rw [if_pos (by omega), if_pos g]
    · rw [if_neg (by omega), if_neg g]
      have go : bits l = true → counts_Run.j0 k l a b c = some ((rn l a b c).1, (rn l a b c).2.1, (rn l a b c).2.2, 0) := by
        intro hb
        obtain ⟨k, rfl⟩ : ∃ q, k = q + 1 := ⟨k - 1, by omega⟩
        simp only [counts_Run.j0]
        exact run_go (by omega) h01 hb l.length k 0 a b c (by omega) (by omega) h
      by_cases z : 0 < l.length
      · obtain ⟨r, r1, r2⟩ := max_bits (l := l) (by omega) z k (by omega)
        rw [if_pos (by omega), r1]
        simp only [Option.bind_some]
        by_cases hb : bits l = true
        · rw [if_neg (by rw [r2]; simp [hb]), if_pos hb, go hb]
        · rw [if_pos (r2.mpr hb), if_neg hb]
      · have e : l = [] := List.eq_nil_of_length_eq_zero (by omega)
        rw [if_neg (by omega), if_pos (by rw [e]; rfl), go (by rw [e]; rfl)]
  · rw [check_out hc h, if_neg h]
    simp only [Option.bind_some]
    rw [if_neg (by decide)]
def cnt (s : Int) : Int × Int × Int := if s = 0 then (0, 0, 0) else if s ≤ 96 then ((s - 1) / 8 + 1, (s - 1) % 8, 0) else ((s - 1) % 8, (s - 1) / 8 - 11, 1)
theorem cnt_valid {s : Int} (h0 : 0 ≤ s) (h1 : s ≤ 192) : Valid (cnt s).1 (cnt s).2.1 (cnt s).2.2 := by
  unfold cnt Valid
  split
  · left; exact ⟨rfl, rfl, rfl⟩
  · split
    · right; left; dsimp only; omega
    · right; right; dsimp only; omega
theorem count_in {s : Int} (h0 : 0 ≤ s) (h1 : s ≤ 192) : states_Count.f s = some ((cnt s).1, (cnt s).2.1, (cnt s).2.2, 0) := by
  unfold states_Count.f cnt
  rw [if_neg (by omega), if_neg (by omega)]
  by_cases z : s = 0
  · rw [if_pos z, if_pos z]
  · rw [if_neg z, if_neg z]
    by_cases y : s ≤ 96
    · rw [if_pos y, if_pos y]
      have : (s - 1) / 8 % 12 = (s - 1) / 8 := by omega
      rw [this]
    · rw [if_neg y, if_neg y]
      have : (s - 1) / 8 % 12 + 1 = (s - 1) / 8 - 11 := by omega
      rw [this]
theorem count_out {s : Int} (h0 : 193 ≤ s) (h1 : s ≤ 255) : states_Count.f s = some (0, 0, 0, 2) := by
  unfold states_Count.f
  rw [if_neg (by omega), if_pos (by omega)]
def num (a b c : Int) : Int := if a = 0 ∧ b = 0 then 0 else if c = 0 then (a - 1) * 8 + b + 1 else (12 + b - 1) * 8 + a + 1
theorem num_bounds {a b c : Int} (h : Valid a b c) : 0 ≤ num a b c ∧ num a b c ≤ 192 := by
  unfold Valid at h
  unfold num
  split
  · omega
  · split <;> omega
theorem number_in {a b c : Int} (h : Valid a b c) : states_number.f a b c = some (num a b c) := by
  have v := h.bounds
  unfold Valid at h
  unfold states_number.f num
  rw [if_pos (by omega)]
  by_cases z : a = 0 ∧ b = 0
  · rw [if_pos (by omega), if_pos z]
  · rw [if_neg (by omega), if_neg z]
    by_cases y : c = 0
    · rw [if_pos y, if_pos y, if_pos (by omega)]
    · rw [if_neg y, if_neg y, if_pos (by omega), if_pos (by omega)]
theorem num_cnt {s : Int} (h0 : 0 ≤ s) (h1 : s ≤ 192) : num (cnt s).1 (cnt s).2.1 (cnt s).2.2 = s := by
  unfold num cnt
  by_cases z : s = 0
  · rw [if_pos z]; simp [z]
  · rw [if_neg z]
    by_cases y : s ≤ 96
    · rw [if_pos y]; dsimp only; rw [if_neg (by omega), if_pos rfl]; omega
    · rw [if_neg y]; dsimp only; rw [if_neg (by omega), if_neg (by decide)]; omega
theorem cnt_num {a b c : Int} (h : Valid a b c) : cnt (num a b c) = (a, b, c) := by
  unfold Valid at h
  unfold num
  by_cases z : a = 0 ∧ b = 0
  · rw [if_pos z]
    obtain ⟨rfl, rfl⟩ := z
    have : c = 0 := by omega
    subst this
    rfl
  · rw [if_neg z]
    unfold cnt
    by_cases y : c = 0
    · rw [if_pos y, if_neg (by omega), if_pos (by omega)]
      subst y
      refine Prod.ext ?_ (Prod.ext ?_ rfl) <;> dsimp only <;> omega
    · rw [if_neg y, if_neg (by omega), if_neg (by omega)]
      have : c = 1 := by omega
      subst this
      refine Prod.ext ?_ (Prod.ext ?_ rfl) <;> dsimp only <;> omega
theorem Number_in {a b c : Int} (h : Valid a b c) : states_Number.f a b c = some (num a b c, 0) := by
  unfold states_Number.f
  rw [check_in h]
  simp only [Option.bind_some, if_true]
  rw [number_in h]
  rfl
theorem Number_out {a b c : Int} (hc : 0 ≤ c) (h : ¬ Valid a b c) : states_Number.f a b c = some (0, 8) := by
  unfold states_Number.f
  rw [check_out hc h]
  rfl
theorem contains_is {l : List Int} (hl : l.length ≤ 20000) : slices_ContainsFunc_uint8_uint8_states_Run_1.f l = some (!bits l) := by
  unfold slices_ContainsFunc_uint8_uint8_states_Run_1.f bits
  rw [if_neg (by omega), List.not_all_eq_any_not]
  congr 2
  funext x
  by_cases c : x ≤ 1
  · rw [decide_eq_true c, decide_eq_false (by omega)]; rfl
  · rw [decide_eq_false c, decide_eq_true (by omega)]; rfl
def SRun (s : Int) (l : List Int) : Int × Int := if s > 192 then (0, 2) else if l.length > 20000 then (0, 4) else if bits l = true then (num (rn l (cnt s).1 (cnt s).2.1 (cnt s).2.2).1 (rn l (cnt s).1 (cnt s).2.1 (cnt s).2.2).2.1 (rn l (cnt s).1 (cnt s).2.1 (cnt s).2.2).2.2, 0) else (0, 2)
theorem srun_is {s : Int} {l : List Int} (h0 : 0 ≤ s) (h1 : s ≤ 255) (h01 : ∀ x ∈ l, 0 ≤ x) (k : Nat) (hk : 20002 ≤ k ∨ l.length + 2 ≤ k) : states_Run.f k s l = some (SRun s l) := by
  unfold states_Run.f SRun
  by_cases c : s > 192
  · rw [count_out (by omega) h1, if_pos c]
    rfl
  · rw [count_in h0 (by omega), if_neg c]
    simp only [Option.bind_some, if_true]
    by_cases g : l.length > 20000
    · rw [if_pos (by omega), if_pos g]
    · rw [if_neg (by omega), if_neg g, contains_is (by omega)]
      simp only [Option.bind_some]
      have v := cnt_valid h0 (by omega : s ≤ 192)
      by_cases hb : bits l = true
      · rw [hb, if_neg (by decide), if_pos rfl, run_is v.bounds.2.2.2.2.1 h01 k hk]
        unfold RunAns
        rw [if_pos v, if_neg g, if_pos hb]
        simp only [Option.bind_some, if_true]
        rw [number_in (rn_valid l _ _ _ v)]
        rfl
      · rw [if_neg hb, if_pos (by simpa using hb)]
theorem snext_is {s d : Int} (h0 : 0 ≤ s) (h1 : s ≤ 192) (hd : d = 0 ∨ d = 1) (k : Nat) (hk : 3 ≤ k) : states_Next.f k s d = some (num (nxt (cnt s).1 (cnt s).2.1 d).1 (nxt (cnt s).1 (cnt s).2.1 d).2.1 (nxt (cnt s).1 (cnt s).2.1 d).2.2, 0) := by
  unfold states_Next.f
  rw [srun_is h0 (by omega) (by intro x hx; simp at hx; omega) k (.inr (by simpa using hk))]
  unfold SRun
  rw [if_neg (by omega), if_neg (by simp), if_pos (by simp [bits]; omega)]
  rfl
theorem snext_far {s d : Int} (h0 : 0 ≤ s) (h1 : s ≤ 255) (hd : 0 ≤ d) (h : s > 192 ∨ d > 1) (k : Nat) (hk : 3 ≤ k) : states_Next.f k s d = some (0, 2) := by
  unfold states_Next.f
  rw [srun_is h0 (by omega) (by intro x hx; simp at hx; omega) k (.inr (by simpa using hk))]
  unfold SRun
  by_cases c : s > 192
  · rw [if_pos c]; rfl
  · rw [if_neg c, if_neg (by simp), if_neg (by simp [bits]; omega)]; rfl
theorem back_in {s : Int} (h0 : 0 ≤ s) (h1 : s ≤ 192) : bitloftref08_Back.f s = some (cnt s) := by
  unfold bitloftref08_Back.f cnt
  by_cases z : s = 0
  · rw [if_pos z, if_pos z]
  · rw [if_neg z, if_neg z, w32 (x := s) (by omega), w32 (x := s - 1) (by omega), Int.tdiv_eq_ediv_of_nonneg (by omega), Int.tmod_eq_emod_of_nonneg (by omega), w32 (x := (s - 1) / 8) (by omega)]
    by_cases y : s ≤ 96
    · rw [if_pos y, if_pos (by omega), w32 (by omega)]
    · rw [if_neg y, if_neg (by omega), w32 (x := (s - 1) / 8 - 12) (by omega), w32 (by omega), show (s - 1) / 8 - 12 + 1 = (s - 1) / 8 - 11 from by omega]
theorem of_in {a b c : Int} (k : Nat) (h : Valid a b c) : bitloftref08_Of.f (k + 1) a b c = some (num a b c) := by
  have v := h.bounds
  have n := num_bounds h
  unfold bitloftref08_Of.f
  have j : ∀ z : Bool, (z = true ↔ a = 0 ∧ b = 0) → bitloftref08_Of.j0 (k + 1) z a b c = some (num a b c) := by
    intro z hz
    simp only [bitloftref08_Of.j0]
    unfold num at n ⊢
    by_cases e : a = 0 ∧ b = 0
    · rw [if_pos (hz.mpr e), if_pos e]
    · rw [if_neg e] at n ⊢
      rw [if_neg (fun x => e (hz.mp x))]
      by_cases y : c = 0
      · rw [if_pos y] at n ⊢
        rw [if_pos y, w32 (x := a - 1) (by omega), w32 (x := (a - 1) * 8) (by omega), w32 (x := (a - 1) * 8 + b) (by omega), w32 (by omega), Int.emod_eq_of_lt (by omega) (by omega)]
      · rw [if_neg y] at n ⊢
        rw [if_neg y, w32 (x := 12 + b) (by omega), w32 (x := 12 + b - 1) (by omega), w32 (x := (12 + b - 1) * 8) (by omega), w32 (x := (12 + b - 1) * 8 + a) (by omega), w32 (by omega), Int.emod_eq_of_lt (by omega) (by omega)]
  by_cases x : a = 0
  · rw [if_pos x]
    exact j _ (by simp [x])
  · rw [if_neg x]
    exact j _ (by simp [x])
theorem rcheck_in {a b c : Int} (k : Nat) (h : Valid a b c) : bitloftref07_Check.f (k + 1) a b c = some 0 := by
  unfold Valid at h
  have jt : bitloftref07_Check.j0 (k + 1) true a b c = some 0 := by simp only [bitloftref07_Check.j0, if_true]
  have jf : ¬ (a = 0 ∧ b = 0 ∧ c = 0) → bitloftref07_Check.j0 (k + 1) false a b c = some 0 := by
    intro z
    simp only [bitloftref07_Check.j0]
    rw [if_neg (by decide)]
    by_cases y : c = 1
    · rw [if_pos y, if_neg (by omega), if_neg (by omega), if_neg (by omega), if_neg (by omega), if_neg (by omega)]
    · rw [if_neg y, if_neg (by omega), if_neg (by omega), if_neg (by omega), if_neg (by omega), if_neg (by omega)]
  unfold bitloftref07_Check.f
  by_cases x : a = 0
  · rw [if_pos x]
    by_cases y : b = 0
    · rw [if_pos y]
      by_cases z : c = 0
      · rw [show (c == 0) = true from by simp [z], jt]
      · rw [show (c == 0) = false from by simp [z], jf (by omega)]
    · rw [if_neg y, jf (by omega)]
  · rw [if_neg x, jf (by omega)]
theorem rcheck_out {a b c : Int} (k : Nat) (hc : 0 ≤ c) (h : ¬ Valid a b c) : bitloftref07_Check.f (k + 1) a b c = some 8 := by
  unfold Valid at h
  have jf : bitloftref07_Check.j0 (k + 1) false a b c = some 8 := by
    simp only [bitloftref07_Check.j0]
    rw [if_neg (by decide)]
    by_cases y : c = 1
    · rw [if_pos y]
      repeat' split
      all_goals first | rfl | omega
    · rw [if_neg y]
      repeat' split
      all_goals first | rfl | omega
  unfold bitloftref07_Check.f
  by_cases x : a = 0
  · rw [if_pos x]
    by_cases y : b = 0
    · rw [if_pos y, show (c == 0) = false from by simp; omega, jf]
    · rw [if_neg y, jf]
  · rw [if_neg x, jf]
theorem shrunk_in {x : Int} (h0 : 0 ≤ x) (h1 : x ≤ 12) : bitloftref07_Shrunk.f x = some (counts_next.less x) := by
  unfold bitloftref07_Shrunk.f counts_next.less
  by_cases c : x ≤ 2
  · rw [if_pos c, if_neg (by omega)]
  · rw [if_neg c, if_pos (by omega), Int.tdiv_eq_ediv_of_nonneg h0, w32 (x := x / 2) (by omega), w32 (by omega)]
theorem after_in {a b c d : Int} (h : Valid a b c) (hd : d = 0 ∨ d = 1) : bitloftref07_After.f a b c d = some (nxt a b d) := by
  have v := h.bounds
  unfold bitloftref07_After.f nxt
  rw [shrunk_in v.1 v.2.1, shrunk_in v.2.2.1 v.2.2.2.1, w32 (x := a + 1) (by omega), w32 (x := b + 1) (by omega)]
  simp only [Option.bind_some]
  have e1 : mn (a + 1) 12 = if a < 12 then a + 1 else 12 := by unfold mn; split <;> split <;> omega
  have e2 : mn (b + 1) 12 = if b < 12 then b + 1 else 12 := by unfold mn; split <;> split <;> omega
  rw [e1, e2]
  by_cases z : d = 0
  · rw [if_pos z, if_pos z]
  · rw [if_neg z, if_neg z]
theorem then_in {s d : Int} (h0 : 0 ≤ s) (h1 : s ≤ 192) (hd : d = 0 ∨ d = 1) (k : Nat) : bitloftref08_Then.f (k + 1) s d = some (num (nxt (cnt s).1 (cnt s).2.1 d).1 (nxt (cnt s).1 (cnt s).2.1 d).2.1 (nxt (cnt s).1 (cnt s).2.1 d).2.2) := by
  have v := cnt_valid h0 h1
  unfold bitloftref08_Then.f
  rw [back_in h0 h1]
  simp only [Option.bind_some]
  rw [after_in v hd]
  simp only [Option.bind_some]
  rw [of_in k (next_valid v.bounds.1 v.bounds.2.1 v.bounds.2.2.1 v.bounds.2.2.2.1)]
  rfl
theorem StatesMakes : bitloftlaw08_StatesMakes.Pure := by
  intro s d a b c hs hd ha hb hc
  replace hs := bounds_u8 hs
  replace hd := bounds_u8 hd
  replace hc := bounds_u8 hc
  refine ⟨9, ?_⟩
  have M : ∃ p, states_Number.f a b c = some p ∧ bitloftref08_Number.f 9 a b c = some p := by
    by_cases h : Valid a b c
    · refine ⟨_, Number_in h, ?_⟩
      unfold bitloftref08_Number.f
      rw [rcheck_in 8 h, Option.bind_some, if_pos rfl, of_in 8 h, Option.bind_some]
    · refine ⟨_, Number_out hc.1 h, ?_⟩
      unfold bitloftref08_Number.f
      rw [rcheck_out 8 hc.1 h, Option.bind_some, if_neg (by decide), Option.bind_some]
  have X : ∃ p, states_Next.f 9 s d = some p ∧ bitloftref08_Next.f 9 s d = some p := by
    unfold bitloftref08_Next.f bitloftref08_State.f
    rw [Option.bind_some]
    by_cases e : s > 192 ∨ d > 1
    · refine ⟨_, snext_far hs.1 (by omega) hd.1 e 9 (by omega), ?_⟩
      by_cases f : s < 193
      · rw [if_pos (by simp; omega), if_pos (by omega)]
      · rw [if_neg (by simp; omega)]
    · refine ⟨_, snext_is hs.1 (by omega) (by omega) 9 (by omega), ?_⟩
      rw [if_pos (by simp; omega), if_neg (by omega), then_in hs.1 (by omega) (by omega) 8, Option.bind_some]
  have C : ∃ p, states_Count.f s = some p ∧ bitloftref08_Count.f s = some p := by
    unfold bitloftref08_Count.f bitloftref08_State.f
    rw [Option.bind_some]
    by_cases e : s > 192
    · exact ⟨_, count_out (by omega) (by omega), by rw [if_neg (by simp; omega)]⟩
    · exact ⟨_, count_in hs.1 (by omega), by rw [if_pos (by simp; omega), back_in hs.1 (by omega), Option.bind_some]⟩
  have T : ∃ p, states_Total.f s = some p ∧ bitloftref08_Total.f s = some p := by
    unfold bitloftref08_Total.f bitloftref08_State.f states_Total.f bitloftref08_Seen.f
    rw [Option.bind_some]
    by_cases e : s > 192
    · rw [count_out (by omega) (by omega)]
      exact ⟨(0, 2), by rw [Option.bind_some]; simp [w32], by rw [if_neg (by simp; omega)]⟩
    · rw [count_in hs.1 (by omega), back_in hs.1 (by omega)]
      exact ⟨_, rfl, by rw [if_pos (by simp; omega)]; rfl⟩
  obtain ⟨p, p1, p2⟩ := M
  obtain ⟨q, q1, q2⟩ := X
  obtain ⟨r, r1, r2⟩ := C
  obtain ⟨t, t1, t2⟩ := T
  unfold bitloftlaw08_StatesMakes.f
  rw [p1, p2, q1, q2, r1, r2, t1, t2]
  simp [states_Size.f, bitloftlaw08_StatesMakes.j0]
end Go.Proofs.Ytchpnnengjlpmaa.Pure
