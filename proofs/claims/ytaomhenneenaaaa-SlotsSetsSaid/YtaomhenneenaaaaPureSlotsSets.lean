/- Get, Set and Bit answer as the reference does; no condition. -/
import Derived.Test.YtaomhenneenaaaaXSlotsSetsx9
import Derived.OpenShut
set_option linter.unusedVariables false
set_option linter.unusedSimpArgs false
namespace Go.Proofs.Ytaomhenneenaaaa.Pure
open Go.RowKit Go.Proofs.Ytaomhenneenaaaa.XSlotsSets Go.Proofs.YtaomhenneenaaaaW.PrintWords Go.Proofs.YtaomhenneenaaaaW.PrintLast
theorem w32 {x : Int} (h : -2147483648 ≤ x ∧ x ≤ 2147483647) : wrap32 x = x := by unfold wrap32; omega
theorem w64 {x : Int} (h : -9223372036854775808 ≤ x ∧ x ≤ 9223372036854775807) : wrap64 x = x := by unfold wrap64; omega
/-- A valid count: two numbers and the last bit. -/
def Valid (a b c : Int) : Prop := (a = 0 ∧ b = 0 ∧ c = 0) ∨ (c = 0 ∧ 1 ≤ a ∧ a ≤ 12 ∧ 0 ≤ b ∧ b ≤ 7) ∨ (c = 1 ∧ 1 ≤ b ∧ b ≤ 12 ∧ 0 ≤ a ∧ a ≤ 7)
theorem Valid.bounds {a b c : Int} (h : Valid a b c) : 0 ≤ a ∧ a ≤ 12 ∧ 0 ≤ b ∧ b ≤ 12 ∧ 0 ≤ c ∧ c ≤ 1 := by unfold Valid at h; omega
theorem check_in {a b c : Int} (h : Valid a b c) : counts_Check.f a b c = some 0 := by
  unfold Valid at h
  unfold counts_Check.f
  rw [if_neg (by omega)]
  by_cases z : a = 0 ∧ b = 0 ∧ c = 0
  · rw [if_pos z]
  · rw [if_neg z, if_neg (by omega)]
    by_cases y : c = 0
    · rw [if_pos y, if_neg (by omega)]
    · rw [if_neg y, if_neg (by omega)]
theorem check_out {a b c : Int} (hc : 0 ≤ c) (h : ¬ Valid a b c) : counts_Check.f a b c = some 8 := by
  unfold Valid at h
  unfold counts_Check.f
  rw [if_neg (by omega), if_neg (by omega)]
  by_cases x : c > 1
  · rw [if_pos x]
  · rw [if_neg x]
    by_cases y : c = 0
    · rw [if_pos y, if_pos (by omega)]
    · rw [if_neg y, if_pos (by omega)]
theorem less_in {x : Int} (h0 : 0 ≤ x) (h1 : x ≤ 12) : 0 ≤ counts_next.less x ∧ counts_next.less x ≤ 7 ∧ counts_next.less x ≤ x := by unfold counts_next.less; split <;> omega
/-- The count after a bit. -/
def nxt (a b d : Int) : Int × Int × Int := if d = 0 then (if a < 12 then a + 1 else 12, counts_next.less b, 0) else (counts_next.less a, if b < 12 then b + 1 else 12, 1)
theorem next_valid {a b d : Int} (ha : 0 ≤ a) (ha' : a ≤ 12) (hb : 0 ≤ b) (hb' : b ≤ 12) : Valid (nxt a b d).1 (nxt a b d).2.1 (nxt a b d).2.2 := by
  have la := less_in ha ha'
  have lb := less_in hb hb'
  unfold nxt Valid
  by_cases h : d = 0
  · rw [if_pos h]
    right; left
    refine ⟨rfl, ?_, ?_, lb.1, lb.2.1⟩ <;> (dsimp only; split <;> omega)
  · rw [if_neg h]
    right; right
    refine ⟨rfl, ?_, ?_, la.1, la.2.1⟩ <;> (dsimp only; split <;> omega)
theorem next_in {a b c d : Int} (h : Valid a b c) (hd : d = 0 ∨ d = 1) : counts_next.f a b c d = some (nxt a b d) := by
  have v := h.bounds
  unfold counts_next.f nxt
  rw [if_pos (by omega)]
  rcases hd with rfl | rfl
  · rw [if_pos rfl, if_pos rfl]
  · rw [if_neg (show ¬ (1 : Int) = 0 by decide), if_pos rfl, if_neg (show ¬ (1 : Int) = 0 by decide)]
instance (a b c : Int) : Decidable (Valid a b c) := by unfold Valid; infer_instance
theorem drop_rd {l : List Int} {i : Nat} (h : i < l.length) : l.drop i = rd l (i : Int) :: l.drop (i + 1) := by
  have e : rd l (i : Int) = l[i] := by simp [rd, List.getD_eq_getElem?_getD, h]
  rw [e]
  exact List.drop_eq_getElem_cons h
/-- Are all of a list bits? -/
def bits (l : List Int) : Bool := l.all fun x => decide (x ≤ 1)
theorem bits_cons (x : Int) (l : List Int) : bits (x :: l) = (decide (x ≤ 1) && bits l) := rfl
/-- The count after bits. -/
def rn : List Int → Int → Int → Int → Int × Int × Int
  | [], a, b, c => (a, b, c)
  | d :: l, a, b, _ => rn l (nxt a b d).1 (nxt a b d).2.1 (nxt a b d).2.2
theorem rn_valid (l : List Int) : ∀ a b c, Valid a b c → Valid (rn l a b c).1 (rn l a b c).2.1 (rn l a b c).2.2 := by
  induction l with
  | nil => exact fun a b c h => h
  | cons d l ih =>
    intro a b c h
    have v := h.bounds
    exact ih _ _ _ (next_valid v.1 v.2.1 v.2.2.1 v.2.2.2.1)
theorem rn_append (l m : List Int) : ∀ a b c, rn (l ++ m) a b c = rn m (rn l a b c).1 (rn l a b c).2.1 (rn l a b c).2.2 := by
  induction l with
  | nil => exact fun a b c => rfl
  | cons d l ih => exact fun a b c => ih _ _ _
theorem max_go {l : List Int} (hl : l.length ≤ 140737488351232) (d : Nat) : ∀ (k i : Nat) (m : Int), i + d = l.length → d < k → ∃ r, slices_Max_uint8_uint8.l0 k l m (i : Int) = some r ∧ (r > 1 ↔ ¬ (m ≤ 1 ∧ bits (l.drop i) = true)) := by
  induction d with
  | zero =>
    intro k i m hd hk
    obtain ⟨k, rfl⟩ : ∃ q, k = q + 1 := ⟨k - 1, by omega⟩
    refine ⟨m, ?_, ?_⟩
    · simp only [slices_Max_uint8_uint8.l0]
      rw [if_neg (by omega)]
    · rw [List.drop_of_length_le (by omega)]
      simp [bits]
  | succ d ih =>
    intro k i m hd hk
    obtain ⟨k, rfl⟩ : ∃ q, k = q + 1 := ⟨k - 1, by omega⟩
    obtain ⟨r, h1, h2⟩ := ih k (i + 1) (mx m (rd l (i : Int))) (by omega) (by omega)
    refine ⟨r, ?_, ?_⟩
    · simp only [slices_Max_uint8_uint8.l0]
      rw [if_pos (by omega), if_pos (by omega), w64 (by omega)]
      exact h1
    · rw [h2, drop_rd (l := l) (i := i) (by omega), bits_cons]
      have : mx m (rd l (i : Int)) ≤ 1 ↔ m ≤ 1 ∧ rd l (i : Int) ≤ 1 := by unfold mx; split <;> omega
      rw [this]
      simp only [Bool.and_eq_true, decide_eq_true_eq, and_assoc]
theorem max_bits {l : List Int} (hl : l.length ≤ 140737488351232) (h0 : 0 < l.length) (k : Nat) (hk : l.length < k) : ∃ r, slices_Max_uint8_uint8.f k l = some r ∧ (r > 1 ↔ ¬ bits l = true) := by
  obtain ⟨r, h1, h2⟩ := max_go hl (l.length - 1) k 1 (rd l 0) (by omega) (by omega)
  refine ⟨r, ?_, ?_⟩
  · unfold slices_Max_uint8_uint8.f
    rw [if_neg (by omega), if_pos (by omega)]
    exact h1
  · rw [h2]
    have e := congrArg bits (drop_rd (l := l) (i := 0) h0)
    rw [List.drop_zero, bits_cons] at e
    rw [e]
    simp
theorem run_go {l : List Int} (hl : l.length ≤ 140737488351232) (h01 : ∀ x ∈ l, 0 ≤ x) (hb : bits l = true) (d : Nat) : ∀ (k i : Nat) (a b c : Int), i + d = l.length → d < k → Valid a b c →
    counts_Run.l0 k l (l.length : Int) (i : Int) a b c = some ((rn (l.drop i) a b c).1, (rn (l.drop i) a b c).2.1, (rn (l.drop i) a b c).2.2, 0) := by
  induction d with
  | zero =>
    intro k i a b c hd hk h
    obtain ⟨k, rfl⟩ : ∃ q, k = q + 1 := ⟨k - 1, by omega⟩
    simp only [counts_Run.l0]
    rw [if_neg (by omega), List.drop_of_length_le (by omega)]
    rfl
  | succ d ih =>
    intro k i a b c hd hk h
    obtain ⟨k, rfl⟩ : ∃ q, k = q + 1 := ⟨k - 1, by omega⟩
    have v := h.bounds
    have e : rd l (i : Int) = l[i]'(by omega) := by simp [rd, List.getD_eq_getElem?_getD, show i < l.length by omega]
    have m0 : 0 ≤ rd l (i : Int) := by rw [e]; exact h01 _ (List.getElem_mem _)
    have m1 : rd l (i : Int) ≤ 1 := by
      rw [e]
      have := List.all_eq_true.mp hb _ (List.getElem_mem (by omega : i < l.length))
      simpa using this
    simp only [counts_Run.l0]
    rw [if_pos (by omega), if_pos (by omega), if_pos (by omega), next_in h (by omega)]
    simp only [Option.bind_some]
    rw [w64 (by omega), drop_rd (l := l) (i := i) (by omega)]
    exact ih k (i + 1) _ _ _ (by omega) (by omega) (next_valid v.1 v.2.1 v.2.2.1 v.2.2.2.1)
/-- What a run answers. -/
def RunAns (a b c : Int) (l : List Int) : Int × Int × Int × Int :=
  if Valid a b c then (if l.length > 20000 then (0, 0, 0, 4) else if bits l = true then ((rn l a b c).1, (rn l a b c).2.1, (rn l a b c).2.2, 0) else (0, 0, 0, 2)) else (0, 0, 0, 8)
theorem run_is {a b c : Int} {l : List Int} (hc : 0 ≤ c) (h01 : ∀ x ∈ l, 0 ≤ x) (k : Nat) (hk : 20002 ≤ k ∨ l.length + 2 ≤ k) : counts_Run.f k a b c l = some (RunAns a b c l) := by
  unfold counts_Run.f RunAns
  by_cases h : Valid a b c
  · rw [check_in h, if_pos h]
    simp only [Option.bind_some, if_true]
    by_cases g : l.length > 20000
    · rw [if_pos (by omega), if_pos g]
    · rw [if_neg (by omega), if_neg g]
      have go : bits l = true → counts_Run.j0 k l a b c = some ((rn l a b c).1, (rn l a b c).2.1, (rn l a b c).2.2, 0) := by
        intro hb
        obtain ⟨k, rfl⟩ : ∃ q, k = q + 1 := ⟨k - 1, by omega⟩
        simp only [counts_Run.j0]
        exact run_go (by omega) h01 hb l.length k 0 a b c (by omega) (by omega) h
      by_cases z : 0 < l.length
      · obtain ⟨r, r1, r2⟩ := max_bits (l := l) (by omega) z k (by omega)
        rw [if_pos (by omega), r1]
        simp only [Option.bind_some]
        by_cases hb : bits l = true
        · rw [if_neg (by rw [r2]; simp [hb]), if_pos hb, go hb]
        · rw [if_pos (r2.mpr hb), if_neg hb]
      · have e : l = [] := List.eq_nil_of_length_eq_zero (by omega)
        rw [if_neg (by omega), if_pos (by rw [e]; rfl), go (by rw [e]; rfl)]
  · rw [check_out hc h, if_neg h]
    simp only [Option.bind_some]
    rw [if_neg (by decide)]
def cnt (s : Int) : Int × Int × Int := if s = 0 then (0, 0, 0) else if s ≤ 96 then ((s - 1) / 8 + 1, (s - 1) % 8, 0) else ((s - 1) % 8, (s - 1) / 8 - 11, 1)
theorem cnt_valid {s : Int} (h0 : 0 ≤ s) (h1 : s ≤ 192) : Valid (cnt s).1 (cnt s).2.1 (cnt s).2.2 := by
  unfold cnt Valid
  split
  · left; exact ⟨rfl, rfl, rfl⟩
  · split
    · right; left; dsimp only; omega
    · right; right; dsimp only; omega
theorem count_in {s : Int} (h0 : 0 ≤ s) (h1 : s ≤ 192) : states_Count.f s = some ((cnt s).1, (cnt s).2.1, (cnt s).2.2, 0) := by
  unfold states_Count.f cnt
  rw [if_neg (by omega), if_neg (by omega)]
  by_cases z : s = 0
  · rw [if_pos z, if_pos z]
  · rw [if_neg z, if_neg z]
    by_cases y : s ≤ 96
    · rw [if_pos y, if_pos y]
      have : (s - 1) / 8 % 12 = (s - 1) / 8 := by omega
      rw [this]
    · rw [if_neg y, if_neg y]
      have : (s - 1) / 8 % 12 + 1 = (s - 1) / 8 - 11 := by omega
      rw [this]
theorem count_out {s : Int} (h0 : 193 ≤ s) (h1 : s ≤ 255) : states_Count.f s = some (0, 0, 0, 2) := by
  unfold states_Count.f
  rw [if_neg (by omega), if_pos (by omega)]
def num (a b c : Int) : Int := if a = 0 ∧ b = 0 then 0 else if c = 0 then (a - 1) * 8 + b + 1 else (12 + b - 1) * 8 + a + 1
theorem num_bounds {a b c : Int} (h : Valid a b c) : 0 ≤ num a b c ∧ num a b c ≤ 192 := by
  unfold Valid at h
  unfold num
  split
  · omega
  · split <;> omega
theorem number_in {a b c : Int} (h : Valid a b c) : states_number.f a b c = some (num a b c) := by
  have v := h.bounds
  unfold Valid at h
  unfold states_number.f num
  rw [if_pos (by omega)]
  by_cases z : a = 0 ∧ b = 0
  · rw [if_pos (by omega), if_pos z]
  · rw [if_neg (by omega), if_neg z]
    by_cases y : c = 0
    · rw [if_pos y, if_pos y, if_pos (by omega)]
    · rw [if_neg y, if_neg y, if_pos (by omega), if_pos (by omega)]
theorem num_cnt {s : Int} (h0 : 0 ≤ s) (h1 : s ≤ 192) : num (cnt s).1 (cnt s).2.1 (cnt s).2.2 = s := by
  unfold num cnt
  by_cases z : s = 0
  · rw [if_pos z]; simp [z]
  · rw [if_neg z]
    by_cases y : s ≤ 96
    · rw [if_pos y]; dsimp only; rw [if_neg (by omega), if_pos rfl]; omega
    · rw [if_neg y]; dsimp only; rw [if_neg (by omega), if_neg (by decide)]; omega
theorem cnt_num {a b c : Int} (h : Valid a b c) : cnt (num a b c) = (a, b, c) := by
  unfold Valid at h
  unfold num
  by_cases z : a = 0 ∧ b = 0
  · rw [if_pos z]
    obtain ⟨rfl, rfl⟩ := z
    have : c = 0 := by omega
    subst this
    rfl
  · rw [if_neg z]
    unfold cnt
    by_cases y : c = 0
    · rw [if_pos y, if_neg (by omega), if_pos (by omega)]
      subst y
      refine Prod.ext ?_ (Prod.ext ?_ rfl) <;> dsimp only <;> omega
    · rw [if_neg y, if_neg (by omega), if_neg (by omega)]
      have : c = 1 := by omega
      subst this
      refine Prod.ext ?_ (Prod.ext ?_ rfl) <;> dsimp only <;> omega
theorem contains_is {l : List Int} (hl : l.length ≤ 20000) : slices_ContainsFunc_uint8_uint8_states_Run_1.f l = some (!bits l) := by
  unfold slices_ContainsFunc_uint8_uint8_states_Run_1.f bits
  rw [if_neg (by omega), List.not_all_eq_any_not]
  congr 2
  funext x
  by_cases c : x ≤ 1
  · rw [decide_eq_true c, decide_eq_false (by omega)]; rfl
  · rw [decide_eq_false c, decide_eq_true (by omega)]; rfl
def SRun (s : Int) (l : List Int) : Int × Int := if s > 192 then (0, 2) else if l.length > 20000 then (0, 4) else if bits l = true then (num (rn l (cnt s).1 (cnt s).2.1 (cnt s).2.2).1 (rn l (cnt s).1 (cnt s).2.1 (cnt s).2.2).2.1 (rn l (cnt s).1 (cnt s).2.1 (cnt s).2.2).2.2, 0) else (0, 2)
theorem srun_is {s : Int} {l : List Int} (h0 : 0 ≤ s) (h1 : s ≤ 255) (h01 : ∀ x ∈ l, 0 ≤ x) (k : Nat) (hk : 20002 ≤ k ∨ l.length + 2 ≤ k) : states_Run.f k s l = some (SRun s l) := by
  unfold states_Run.f SRun
  by_cases c : s > 192
  · rw [count_out (by omega) h1, if_pos c]
    rfl
  · rw [count_in h0 (by omega), if_neg c]
    simp only [Option.bind_some, if_true]
    by_cases g : l.length > 20000
    · rw [if_pos (by omega), if_pos g]
    · rw [if_neg (by omega), if_neg g, contains_is (by omega)]
      simp only [Option.bind_some]
      have v := cnt_valid h0 (by omega : s ≤ 192)
      by_cases hb : bits l = true
      · rw [hb, if_neg (by decide), if_pos rfl, run_is v.bounds.2.2.2.2.1 h01 k hk]
        unfold RunAns
        rw [if_pos v, if_neg g, if_pos hb]
        simp only [Option.bind_some, if_true]
        rw [number_in (rn_valid l _ _ _ v)]
        rfl
      · rw [if_neg hb, if_pos (by simpa using hb)]
theorem snext_is {s d : Int} (h0 : 0 ≤ s) (h1 : s ≤ 192) (hd : d = 0 ∨ d = 1) (k : Nat) (hk : 3 ≤ k) : states_Next.f k s d = some (num (nxt (cnt s).1 (cnt s).2.1 d).1 (nxt (cnt s).1 (cnt s).2.1 d).2.1 (nxt (cnt s).1 (cnt s).2.1 d).2.2, 0) := by
  unfold states_Next.f
  rw [srun_is h0 (by omega) (by intro x hx; simp at hx; omega) k (.inr (by simpa using hk))]
  unfold SRun
  rw [if_neg (by omega), if_neg (by simp), if_pos (by simp [bits]; omega)]
  rfl
theorem snext_far {s d : Int} (h0 : 0 ≤ s) (h1 : s ≤ 255) (hd : 0 ≤ d) (h : s > 192 ∨ d > 1) (k : Nat) (hk : 3 ≤ k) : states_Next.f k s d = some (0, 2) := by
  unfold states_Next.f
  rw [srun_is h0 (by omega) (by intro x hx; simp at hx; omega) k (.inr (by simpa using hk))]
  unfold SRun
  by_cases c : s > 192
  · rw [if_pos c]; rfl
  · rw [if_neg c, if_neg (by simp), if_neg (by simp [bits]; omega)]; rfl
theorem shrunk_in {x : Int} (h0 : 0 ≤ x) (h1 : x ≤ 12) : bitloftref07_Shrunk.f x = some (counts_next.less x) := by
  unfold bitloftref07_Shrunk.f counts_next.less
  by_cases c : x ≤ 2
  · rw [if_pos c, if_neg (by omega)]
  · rw [if_neg c, if_pos (by omega), Int.tdiv_eq_ediv_of_nonneg h0, w32 (x := x / 2) (by omega), w32 (by omega)]
theorem after_in {a b c d : Int} (h : Valid a b c) (hd : d = 0 ∨ d = 1) : bitloftref07_After.f a b c d = some (nxt a b d) := by
  have v := h.bounds
  unfold bitloftref07_After.f nxt
  rw [shrunk_in v.1 v.2.1, shrunk_in v.2.2.1 v.2.2.2.1, w32 (x := a + 1) (by omega), w32 (x := b + 1) (by omega)]
  simp only [Option.bind_some]
  have e1 : mn (a + 1) 12 = if a < 12 then a + 1 else 12 := by unfold mn; split <;> split <;> omega
  have e2 : mn (b + 1) 12 = if b < 12 then b + 1 else 12 := by unfold mn; split <;> split <;> omega
  rw [e1, e2]
  by_cases z : d = 0
  · rw [if_pos z, if_pos z]
  · rw [if_neg z, if_neg z]
theorem back_in {s : Int} (h0 : 0 ≤ s) (h1 : s ≤ 192) : bitloftref08_Back.f s = some (cnt s) := by
  unfold bitloftref08_Back.f cnt
  by_cases z : s = 0
  · rw [if_pos z, if_pos z]
  · rw [if_neg z, if_neg z, w32 (x := s) (by omega), w32 (x := s - 1) (by omega), Int.tdiv_eq_ediv_of_nonneg (by omega), Int.tmod_eq_emod_of_nonneg (by omega), w32 (x := (s - 1) / 8) (by omega)]
    by_cases y : s ≤ 96
    · rw [if_pos y, if_pos (by omega), w32 (by omega)]
    · rw [if_neg y, if_neg (by omega), w32 (x := (s - 1) / 8 - 12) (by omega), w32 (by omega), show (s - 1) / 8 - 12 + 1 = (s - 1) / 8 - 11 from by omega]
theorem of_in {a b c : Int} (k : Nat) (h : Valid a b c) : bitloftref08_Of.f (k + 1) a b c = some (num a b c) := by
  have v := h.bounds
  have n := num_bounds h
  unfold bitloftref08_Of.f
  have j : ∀ z : Bool, (z = true ↔ a = 0 ∧ b = 0) → bitloftref08_Of.j0 (k + 1) z a b c = some (num a b c) := by
    intro z hz
    simp only [bitloftref08_Of.j0]
    unfold num at n ⊢
    by_cases e : a = 0 ∧ b = 0
    · rw [if_pos (hz.mpr e), if_pos e]
    · rw [if_neg e] at n ⊢
      rw [if_neg (fun x => e (hz.mp x))]
      by_cases y : c = 0
      · rw [if_pos y] at n ⊢
        rw [if_pos y, w32 (x := a - 1) (by omega), w32 (x := (a - 1) * 8) (by omega), w32 (x := (a - 1) * 8 + b) (by omega), w32 (by omega), Int.emod_eq_of_lt (by omega) (by omega)]
      · rw [if_neg y] at n ⊢
        rw [if_neg y, w32 (x := 12 + b) (by omega), w32 (x := 12 + b - 1) (by omega), w32 (x := (12 + b - 1) * 8) (by omega), w32 (x := (12 + b - 1) * 8 + a) (by omega), w32 (by omega), Int.emod_eq_of_lt (by omega) (by omega)]
  by_cases x : a = 0
  · rw [if_pos x]
    exact j _ (by simp [x])
  · rw [if_neg x]
    exact j _ (by simp [x])
theorem then_in {s d : Int} (h0 : 0 ≤ s) (h1 : s ≤ 192) (hd : d = 0 ∨ d = 1) (k : Nat) : bitloftref08_Then.f (k + 1) s d = some (num (nxt (cnt s).1 (cnt s).2.1 d).1 (nxt (cnt s).1 (cnt s).2.1 d).2.1 (nxt (cnt s).1 (cnt s).2.1 d).2.2) := by
  have v := cnt_valid h0 h1
  unfold bitloftref08_Then.f
  rw [back_in h0 h1]
  simp only [Option.bind_some]
  rw [after_in v hd]
  simp only [Option.bind_some]
  rw [of_in k (next_valid v.bounds.1 v.bounds.2.1 v.bounds.2.2.1 v.bounds.2.2.2.1)]
  rfl
/-- The states of a slot. -/
def sts (s : S42) : List Int := [s.f1.f0, s.f1.f1, s.f1.f2, s.f1.f3, s.f1.f4, s.f1.f5, s.f1.f6, s.f1.f7, s.f1.f8, s.f1.f9, s.f1.f10, s.f1.f11, s.f1.f12, s.f1.f13, s.f1.f14]
def okS (s : S42) : Prop := ∀ x ∈ sts s, x < 193
instance (s : S42) : Decidable (okS s) := by unfold okS; infer_instance
/-- A table as the program takes it. -/
def good (v : Int) (l : List S42) : Prop := (0 ≤ v ∧ v ≤ 7 ∧ (l.length : Int) = 16 * 2 ^ v.toNat) ∧ ∀ s ∈ l, okS s
instance (v : Int) (l : List S42) : Decidable (good v l) := by unfold good; infer_instance
theorem sdrop_rd {l : List Int} {i : Nat} (h : i < l.length) : l.drop i = rd l (i : Int) :: l.drop (i + 1) := by
  have e : rd l (i : Int) = l[i] := by simp [rd, List.getD_eq_getElem?_getD, h]
  rw [e]
  exact List.drop_eq_getElem_cons h
theorem drop_rt {l : List S42} {i : Nat} (h : i < l.length) : l.drop i = rd_T42 l (i : Int) :: l.drop (i + 1) := by
  have e : rd_T42 l (i : Int) = l[i] := by simp [rd_T42, List.getD_eq_getElem?_getD, h]
  rw [e]
  exact List.drop_eq_getElem_cons h
theorem rt_mem {l : List S42} {i : Int} (h0 : 0 ≤ i) (h : i < l.length) : rd_T42 l i ∈ l := by
  obtain ⟨n, rfl⟩ := Int.eq_ofNat_of_zero_le h0
  have e : rd_T42 l (n : Int) = l[n]'(by omega) := by simp [rd_T42, List.getD_eq_getElem?_getD, show n < l.length by omega]
  rw [e]
  exact List.getElem_mem _
theorem smax_go {l : List Int} (hl : l.length ≤ 100) (d : Nat) : ∀ (k i : Nat) (m : Int), i + d = l.length → d < k → ∃ r, slices_Max_uint8_uint8.l0 k l m (i : Int) = some r ∧ (r ≥ 193 ↔ ¬ (m < 193 ∧ ∀ x ∈ l.drop i, x < 193)) := by
  induction d with
  | zero =>
    intro k i m hd hk
    obtain ⟨k, rfl⟩ : ∃ q, k = q + 1 := ⟨k - 1, by omega⟩
    refine ⟨m, ?_, ?_⟩
    · simp only [slices_Max_uint8_uint8.l0]
      rw [if_neg (by omega)]
    · rw [List.drop_of_length_le (by omega)]
      simp
  | succ d ih =>
    intro k i m hd hk
    obtain ⟨k, rfl⟩ : ∃ q, k = q + 1 := ⟨k - 1, by omega⟩
    obtain ⟨r, h1, h2⟩ := ih k (i + 1) (mx m (rd l (i : Int))) (by omega) (by omega)
    refine ⟨r, ?_, ?_⟩
    · simp only [slices_Max_uint8_uint8.l0]
      rw [if_pos (by omega), if_pos (by omega), w64 (by omega)]
      exact h1
    · rw [h2, sdrop_rd (l := l) (i := i) (by omega), List.forall_mem_cons]
      have : mx m (rd l (i : Int)) < 193 ↔ m < 193 ∧ rd l (i : Int) < 193 := by unfold mx; split <;> omega
      rw [this, and_assoc]
theorem sts_len (s : S42) : (sts s).length = 15 := rfl
theorem max_sts (s : S42) (k : Nat) (hk : 20 ≤ k) : ∃ r, slices_Max_uint8_uint8.f k (sts s) = some r ∧ (r ≥ 193 ↔ ¬ okS s) := by
  obtain ⟨r, h1, h2⟩ := smax_go (l := sts s) (by rw [sts_len]; omega) 14 k 1 (rd (sts s) 0) (by rfl) (by omega)
  refine ⟨r, ?_, ?_⟩
  · unfold slices_Max_uint8_uint8.f
    rw [if_neg (by rw [sts_len]; omega), if_pos (by rw [sts_len]; omega)]
    exact h1
  · rw [h2]
    unfold okS
    have e := sdrop_rd (l := sts s) (i := 0) (by rw [sts_len]; omega)
    rw [List.drop_zero] at e
    conv => rhs; rw [e, List.forall_mem_cons]
    rfl
theorem pchk_go {l : List S42} (hl : l.length ≤ 5000) (d : Nat) : ∀ (k i : Nat), i + d = l.length → d + 20 < k → slots_Check.l0 k l (l.length : Int) (i : Int) = some (if ∀ s ∈ l.drop i, okS s then 0 else 8) := by
  induction d with
  | zero =>
    intro k i hd hk
    obtain ⟨k, rfl⟩ : ∃ q, k = q + 1 := ⟨k - 1, by omega⟩
    simp only [slots_Check.l0]
    rw [if_neg (by omega), List.drop_of_length_le (by omega), if_pos (by simp)]
  | succ d ih =>
    intro k i hd hk
    obtain ⟨k, rfl⟩ : ∃ q, k = q + 1 := ⟨k - 1, by omega⟩
    obtain ⟨r, h1, h2⟩ := max_sts (rd_T42 l (i : Int)) k (by omega)
    simp only [slots_Check.l0]
    rw [if_pos (by omega), if_pos (by omega), if_pos (by omega)]
    unfold sts at h1
    rw [h1, Option.bind_some, w64 (by omega), drop_rt (l := l) (i := i) (by omega), show (i : Int) + 1 = ((i + 1 : Nat) : Int) from rfl, ih k (i + 1) (by omega) (by omega)]
    simp only [List.forall_mem_cons]
    by_cases y : okS (rd_T42 l (i : Int))
    · rw [if_neg (by rw [h2]; simpa using y)]
      simp [y]
    · rw [if_pos (h2.mpr y), if_neg (fun z => y z.1)]
theorem shl_in {v : Int} (h0 : 0 ≤ v) (h1 : v ≤ 7) : shl .i64 16 v = 16 * 2 ^ v.toNat := by
  obtain ⟨n, rfl⟩ := Int.eq_ofNat_of_zero_le h0
  have : n ≤ 7 := by omega
  have h : ∀ m : Fin 8, shl .i64 16 (m.val : Int) = 16 * 2 ^ m.val := by decide
  exact h ⟨n, by omega⟩
theorem psize_in {v : Int} (h0 : 0 ≤ v) (h1 : v ≤ 7) : slots_size.f v = some (16 * 2 ^ v.toNat) := by
  unfold slots_size.f
  rw [if_pos h0, shl_in h0 h1]
theorem pow_le {v : Int} (h0 : 0 ≤ v) (h1 : v ≤ 7) : (2 : Int) ^ v.toNat ≤ 128 ∧ 1 ≤ (2 : Int) ^ v.toNat := by
  obtain ⟨n, rfl⟩ := Int.eq_ofNat_of_zero_le h0
  have h : ∀ m : Fin 8, (2 : Int) ^ m.val ≤ 128 ∧ 1 ≤ (2 : Int) ^ m.val := by decide
  exact h ⟨n, by omega⟩
theorem if_iff {p q : Prop} [Decidable p] [Decidable q] {a b : Int} (h : p ↔ q) : (if p then a else b) = if q then a else b := by
  by_cases y : p
  · rw [if_pos y, if_pos (h.mp y)]
  · rw [if_neg y, if_neg (fun z => y (h.mpr z))]
theorem pchk {v : Int} {l : List S42} (hl : l.length ≤ 5000) {k : Nat} (hk : l.length + 30 ≤ k) : slots_Check.f k v l = some (if good v l then 0 else 8) := by
  have hj : ∀ z : Bool, (z = true ↔ ¬ (0 ≤ v ∧ v ≤ 7 ∧ (l.length : Int) = 16 * 2 ^ v.toNat)) → slots_Check.j0 k z v l = some (if good v l then 0 else 8) := by
    intro z hz
    obtain ⟨k, rfl⟩ : ∃ q, k = q + 1 := ⟨k - 1, by omega⟩
    simp only [slots_Check.j0]
    by_cases y : 0 ≤ v ∧ v ≤ 7 ∧ (l.length : Int) = 16 * 2 ^ v.toNat
    · rw [if_neg (fun x => hz.mp x y)]
      have := pchk_go hl l.length k 0 (by omega) (by omega)
      rw [List.drop_zero] at this
      exact (show slots_Check.l0 k l (l.length : Int) 0 = _ from this).trans (congrArg some (if_iff ⟨fun z => ⟨y, z⟩, fun z => z.2⟩))
    · rw [if_pos (hz.mpr y), if_neg (fun x => y x.1)]
  unfold slots_Check.f
  by_cases a : v < 0
  · rw [if_pos a]; exact hj _ (by simp; omega)
  · rw [if_neg a]
    by_cases b : v > 7
    · rw [if_pos b]; exact hj _ (by simp; omega)
    · rw [if_neg b, psize_in (by omega) (by omega), Option.bind_some]
      exact hj _ (by simp; omega)
/-! The reference's check. -/
theorem rsize_go (d : Nat) : ∀ (k i : Nat) (x : Int), i + d ≤ 7 → d < k → bitloftref11_Size.l0 k ((i + d : Nat) : Int) (16 * 2 ^ i) (i : Int) = some (16 * 2 ^ (i + d)) := by
  induction d with
  | zero =>
    intro k i x hd hk
    obtain ⟨k, rfl⟩ : ∃ q, k = q + 1 := ⟨k - 1, by omega⟩
    simp only [bitloftref11_Size.l0]
    rw [if_neg (by omega)]; rfl
  | succ d ih =>
    intro k i x hd hk
    obtain ⟨k, rfl⟩ : ∃ q, k = q + 1 := ⟨k - 1, by omega⟩
    simp only [bitloftref11_Size.l0]
    have hp : (2 : Int) ^ i ≤ 128 := by
      have h : ∀ m : Fin 8, (2 : Int) ^ m.val ≤ 128 := by decide
      exact h ⟨i, by omega⟩
    have hq : (0 : Int) ≤ 2 ^ i := by
      have h : ∀ m : Fin 8, (0 : Int) ≤ 2 ^ m.val := by decide
      exact h ⟨i, by omega⟩
    rw [if_pos (by omega), w64 (by omega), w64 (by omega)]
    have := ih k (i + 1) x (by omega) (by omega)
    rw [show i + 1 + d = i + (d + 1) from by omega] at this
    rw [show (16 : Int) * 2 ^ i * 2 = 16 * 2 ^ (i + 1) from by rw [Int.pow_succ]; omega]
    exact this
theorem rsize_in {v : Int} (h0 : 0 ≤ v) (h1 : v ≤ 7) {k : Nat} (hk : 10 ≤ k) : bitloftref11_Size.f k v = some (16 * 2 ^ v.toNat) := by
  obtain ⟨n, rfl⟩ := Int.eq_ofNat_of_zero_le h0
  have := rsize_go n k 0 0 (by omega) (by omega)
  simp only [Nat.zero_add] at this
  exact this
theorem rlevel (v : Int) : bitloftref11_Level.f v = some (decide (0 ≤ v ∧ v ≤ 7)) := by
  unfold bitloftref11_Level.f
  by_cases a : v ≥ 0
  · rw [if_pos a]; simp; omega
  · rw [if_neg a]; simp; omega
theorem rchk1_go {l : List S42} {v : Int} {i : Nat} (hi : i < l.length) (hl : l.length ≤ 5000) {R : Option Int} {K : Nat} (hR : ∀ k, K ≤ k → bitloftref11_Check.l0 k ((i + 1 : Nat) : Int) v l = R) (d : Nat) :
    ∀ (k j : Nat), j + d = 15 → K + d < k → bitloftref11_Check.l1 k (i : Int) (j : Int) v l = if ∀ x ∈ (sts (rd_T42 l (i : Int))).drop j, x < 193 then R else some 8 := by
  induction d with
  | zero =>
    intro k j hd hk
    obtain ⟨k, rfl⟩ : ∃ q, k = q + 1 := ⟨k - 1, by omega⟩
    simp only [bitloftref11_Check.l1]
    rw [if_neg (by omega), w64 (by omega), show (i : Int) + 1 = ((i + 1 : Nat) : Int) from rfl, hR k (by omega), List.drop_of_length_le (by show 15 ≤ j; omega), if_pos (by simp)]
  | succ d ih =>
    intro k j hd hk
    obtain ⟨k, rfl⟩ : ∃ q, k = q + 1 := ⟨k - 1, by omega⟩
    simp only [bitloftref11_Check.l1]
    rw [if_pos (by omega), if_pos (by omega), if_pos (by omega), if_pos (by omega)]
    unfold bitloftref08_State.f
    rw [Option.bind_some, w64 (by omega), show (j : Int) + 1 = ((j + 1 : Nat) : Int) from rfl, ih k (j + 1) (by omega) (by omega)]
    rw [sdrop_rd (l := sts (rd_T42 l (i : Int))) (i := j) (by show j < 15; omega)]
    simp only [List.forall_mem_cons]
    show (if decide (rd (sts (rd_T42 l (i : Int))) (j : Int) < 193) = true then _ else _) = _
    by_cases y : rd (sts (rd_T42 l (i : Int))) (j : Int) < 193
    · rw [if_pos (by simpa using y)]; simp [y]
    · rw [if_neg (by simpa using y), if_neg (fun z => y z.1)]
theorem rchk_go {l : List S42} {v : Int} (hl : l.length ≤ 5000) (d : Nat) : ∀ (k i : Nat), i + d = l.length → d * 20 < k → bitloftref11_Check.l0 k (i : Int) v l = some (if ∀ s ∈ l.drop i, okS s then 0 else 8) := by
  induction d with
  | zero =>
    intro k i hd hk
    obtain ⟨k, rfl⟩ : ∃ q, k = q + 1 := ⟨k - 1, by omega⟩
    simp only [bitloftref11_Check.l0]
    rw [if_neg (by omega), List.drop_of_length_le (by omega), if_pos (by simp)]
  | succ d ih =>
    intro k i hd hk
    obtain ⟨k, rfl⟩ : ∃ q, k = q + 1 := ⟨k - 1, by omega⟩
    simp only [bitloftref11_Check.l0]
    rw [if_pos (by omega), show (0 : Int) = ((0 : Nat) : Int) from rfl, rchk1_go (by omega) hl (K := d * 20 + 1) (fun q hq => ih q (i + 1) (by omega) (by omega)) 15 k 0 (by omega) (by omega), drop_rt (l := l) (i := i) (by omega)]
    simp only [List.forall_mem_cons, List.drop_zero]
    by_cases y : okS (rd_T42 l (i : Int))
    · rw [if_pos (show ∀ x ∈ sts (rd_T42 l (i : Int)), x < 193 from y)]; simp [y]
    · rw [if_neg (show ¬ ∀ x ∈ sts (rd_T42 l (i : Int)), x < 193 from y), if_neg (fun z => y z.1)]
theorem rchk {v : Int} {l : List S42} (hl : l.length ≤ 5000) {k : Nat} (hk : l.length * 20 + 30 ≤ k) : bitloftref11_Check.f k v l = some (if good v l then 0 else 8) := by
  have hj : ∀ z : Bool, (z = true ↔ ¬ (0 ≤ v ∧ v ≤ 7 ∧ (l.length : Int) = 16 * 2 ^ v.toNat)) → bitloftref11_Check.j0 k z v l = some (if good v l then 0 else 8) := by
    intro z hz
    obtain ⟨k, rfl⟩ : ∃ q, k = q + 1 := ⟨k - 1, by omega⟩
    simp only [bitloftref11_Check.j0]
    by_cases y : 0 ≤ v ∧ v ≤ 7 ∧ (l.length : Int) = 16 * 2 ^ v.toNat
    · rw [if_neg (fun x => hz.mp x y)]
      have := rchk_go (v := v) hl l.length k 0 (by omega) (by omega)
      rw [List.drop_zero] at this
      exact (show bitloftref11_Check.l0 k 0 v l = _ from this).trans (congrArg some (if_iff ⟨fun z => ⟨y, z⟩, fun z => z.2⟩))
    · rw [if_pos (hz.mpr y), if_neg (fun x => y x.1)]
  unfold bitloftref11_Check.f
  rw [rlevel, Option.bind_some]
  by_cases a : 0 ≤ v ∧ v ≤ 7
  · rw [if_pos (by simpa using a), rsize_in a.1 a.2 (by omega), Option.bind_some]
    exact hj _ (by simp; omega)
  · rw [if_neg (by simpa using a)]
    exact hj _ (by simp; omega)
theorem u8_in {x : Int} (h : (Lit.int .u8 x).wf = true) : 0 ≤ x ∧ x ≤ 255 := by
  simp only [Lit.wf, IntKind.min, IntKind.max, IntKind.signed, IntKind.bits, Bool.and_eq_true] at h
  simp at h
  omega
theorem same_go {l : List S42} (v : Int) (hl : l.length ≤ 5000) (d : Nat) : ∀ (k i : Nat), i + d = l.length → d < k → bitloftref11_Same.l0 k (i : Int) v l v l = some true := by
  induction d with
  | zero =>
    intro k i hd hk
    obtain ⟨k, rfl⟩ : ∃ q, k = q + 1 := ⟨k - 1, by omega⟩
    simp only [bitloftref11_Same.l0]
    rw [if_neg (by omega)]
  | succ d ih =>
    intro k i hd hk
    obtain ⟨k, rfl⟩ : ∃ q, k = q + 1 := ⟨k - 1, by omega⟩
    simp only [bitloftref11_Same.l0]
    rw [if_pos (by omega), if_pos (by omega), if_pos (by omega)]
    simp only [beq_self_eq_true, Bool.not_true, Bool.or_false, Bool.false_eq_true, if_false]
    rw [w64 (by omega), show (i : Int) + 1 = ((i + 1 : Nat) : Int) from rfl]
    exact ih k (i + 1) (by omega) (by omega)
theorem same_in {v : Int} {l : List S42} (hl : l.length ≤ 5000) {k : Nat} (hk : l.length + 2 ≤ k) : bitloftref11_Same.f k v l v l = some true := by
  obtain ⟨k, rfl⟩ : ∃ q, k = q + 1 := ⟨k - 1, by omega⟩
  unfold bitloftref11_Same.f
  rw [if_pos rfl]
  simp only [bitloftref11_Same.j0]
  rw [if_neg (by simp)]
  exact same_go v hl l.length k 0 (by omega) (by omega)
/-- May a place and a node be asked? -/
def okAt (l : List S42) (p n : Int) : Prop := 0 ≤ p ∧ p < l.length ∧ 1 ≤ n ∧ n ≤ 15
instance (l : List S42) (p n : Int) : Decidable (okAt l p n) := by unfold okAt; infer_instance
def atE (v : Int) (l : List S42) (p n : Int) : Int := if good v l then (if okAt l p n then 0 else 2) else 8
theorem at_ite {l : List S42} {p n : Int} : (if p < 0 then (some 2) else (if p ≥ (l.length : Int) then (some 2) else (if n < 1 then (some 2) else (if n > 15 then (some 2) else (some 0))))) = some (if okAt l p n then (0 : Int) else 2) := by
  by_cases a : p < 0
  · rw [if_pos a, if_neg (show ¬ okAt l p n by unfold okAt; omega)]
  · rw [if_neg a]
    by_cases b : p ≥ (l.length : Int)
    · rw [if_pos b, if_neg (show ¬ okAt l p n by unfold okAt; omega)]
    · rw [if_neg b]
      by_cases c : n < 1
      · rw [if_pos c, if_neg (show ¬ okAt l p n by unfold okAt; omega)]
      · rw [if_neg c]
        by_cases d : n > 15
        · rw [if_pos d, if_neg (show ¬ okAt l p n by unfold okAt; omega)]
        · rw [if_neg d, if_pos (show okAt l p n by unfold okAt; omega)]
theorem pat_in {v : Int} {l : List S42} {p n : Int} (hl : l.length ≤ 2100) {k : Nat} (hk : 50000 ≤ k) : slots_at.f k v l p n = some (atE v l p n) := by
  unfold slots_at.f atE
  rw [pchk (by omega) (by omega), Option.bind_some]
  by_cases g : good v l
  · rw [if_pos g, if_pos rfl, at_ite, if_pos g]
  · rw [if_neg g, if_neg (by decide), if_neg g]
/-- The state at a place and a node. -/
def stAt (l : List S42) (p n : Int) : Int := rd (sts (rd_T42 l p)) (n - 1)
/-- A table with another state. -/
def wth (l : List S42) (p n s : Int) : List S42 := l.set p.toNat ⟨(rd_T42 l p).f0, upd40 ((rd_T42 l p).f1) (n - 1) s⟩
theorem atE_ok {v : Int} {l : List S42} {p n : Int} (h : atE v l p n = 0) : good v l ∧ okAt l p n := by
  unfold atE at h
  by_cases g : good v l
  · rw [if_pos g] at h
    by_cases o : okAt l p n
    · exact ⟨g, o⟩
    · rw [if_neg o] at h; omega
  · rw [if_neg g] at h; omega
theorem atE_in {v : Int} {l : List S42} {p n : Int} (g : good v l) (o : okAt l p n) : atE v l p n = 0 := by unfold atE; rw [if_pos g, if_pos o]
theorem pget_in {v : Int} {l : List S42} {p n : Int} (hl : l.length ≤ 2100) {k : Nat} (hk : 50000 ≤ k) : slots_Get.f k v l p n = some (if atE v l p n = 0 then (stAt l p n, 0) else (0, atE v l p n)) := by
  unfold slots_Get.f
  rw [pat_in hl hk, Option.bind_some]
  by_cases e : atE v l p n = 0
  · have o := (atE_ok e).2
    unfold okAt at o
    rw [if_pos e, if_pos e, w64 (by omega), if_pos (by omega), if_pos (by omega), if_pos (by omega), if_pos (by omega)]; rfl
  · rw [if_neg e, if_neg e]
def setA (v : Int) (l : List S42) (p n s : Int) : Int × List S42 × Int := if atE v l p n = 0 then (if s ≥ 193 then (0, [], 2) else (v, wth l p n s, 0)) else (0, [], atE v l p n)
theorem pset_in {v : Int} {l : List S42} {p n s : Int} (hl : l.length ≤ 2100) {k : Nat} (hk : 50000 ≤ k) : slots_Set.f k v l p n s = some (setA v l p n s) := by
  unfold slots_Set.f setA
  rw [pat_in hl hk, Option.bind_some]
  by_cases e : atE v l p n = 0
  · have o := (atE_ok e).2
    unfold okAt at o
    rw [if_pos e, if_pos e]
    by_cases x : s ≥ 193
    · rw [if_pos x, if_pos x]
    · unfold slices_Clone_api_Slot_api_Slot.f
      rw [if_neg x, if_neg x, if_pos (by omega), Option.bind_some, w64 (by omega), if_pos (by omega), if_pos (by omega), if_pos (by omega), if_pos (by omega)]; rfl
  · rw [if_neg e, if_neg e]
theorem sts_bd {v : Int} {l : List S42} (g : good v l) (hw : ∀ s ∈ l, wf42 s) {p n : Int} (o : okAt l p n) : 0 ≤ stAt l p n ∧ stAt l p n ≤ 192 := by
  unfold okAt at o
  have m := rt_mem o.1 o.2.1
  have w := (hw _ m).2
  have b := g.2 _ m
  have hm : stAt l p n ∈ sts (rd_T42 l p) := by
    obtain ⟨q, hq⟩ := Int.eq_ofNat_of_zero_le (show 0 ≤ n - 1 by omega)
    unfold stAt
    have e : rd (sts (rd_T42 l p)) (n - 1) = (sts (rd_T42 l p))[q]'(by rw [sts_len]; omega) := by
      rw [hq, rd, Int.toNat_natCast, List.getD_eq_getElem?_getD, List.getElem?_eq_getElem (by rw [sts_len]; omega)]; rfl
    rw [e]
    exact List.getElem_mem _
  have h := b _ hm
  have all : ∀ x ∈ sts (rd_T42 l p), 0 ≤ x := by
    unfold wf40 at w
    obtain ⟨w0, w1, w2, w3, w4, w5, w6, w7, w8, w9, wa, wb, wc, wd, we⟩ := w
    intro x hx
    simp only [sts, List.mem_cons, List.not_mem_nil, or_false] at hx
    rcases hx with h | h | h | h | h | h | h | h | h | h | h | h | h | h | h <;> subst h
    all_goals first | exact (u8_in w0).1 | exact (u8_in w1).1 | exact (u8_in w2).1 | exact (u8_in w3).1 | exact (u8_in w4).1 | exact (u8_in w5).1 | exact (u8_in w6).1 | exact (u8_in w7).1 | exact (u8_in w8).1 | exact (u8_in w9).1 | exact (u8_in wa).1 | exact (u8_in wb).1 | exact (u8_in wc).1 | exact (u8_in wd).1 | exact (u8_in we).1
  exact ⟨all _ hm, by omega⟩
/-- The state after a bit. -/
def thn (s d : Int) : Int := num (nxt (cnt s).1 (cnt s).2.1 d).1 (nxt (cnt s).1 (cnt s).2.1 d).2.1 (nxt (cnt s).1 (cnt s).2.1 d).2.2
theorem thn_bd {s d : Int} (h0 : 0 ≤ s) (h1 : s ≤ 192) : 0 ≤ thn s d ∧ thn s d ≤ 192 := by
  have v := (cnt_valid h0 h1).bounds
  exact num_bounds (next_valid v.1 v.2.1 v.2.2.1 v.2.2.2.1)
def bitA (v : Int) (l : List S42) (p n d : Int) : Int × List S42 × Int := if atE v l p n = 0 then (if d > 1 then (0, [], 2) else (v, wth l p n (thn (stAt l p n) d), 0)) else (0, [], atE v l p n)
theorem pbit_in {v : Int} {l : List S42} {p n d : Int} (hl : l.length ≤ 2100) (hw : ∀ s ∈ l, wf42 s) (hd : 0 ≤ d) {k : Nat} (hk : 50000 ≤ k) : slots_Bit.f k v l p n d = some (bitA v l p n d) := by
  unfold slots_Bit.f bitA
  rw [pget_in hl hk, Option.bind_some]
  by_cases e : atE v l p n = 0
  · have go := atE_ok e
    have b := sts_bd go.1 hw go.2
    rw [if_pos e, if_pos e]
    dsimp only
    rw [if_pos rfl]
    by_cases x : d > 1
    · rw [snext_far b.1 (by omega) hd (Or.inr x) k (by omega), Option.bind_some, if_neg (by decide), if_pos x]
    · have t := thn_bd (d := d) b.1 b.2
      rw [snext_is b.1 b.2 (by omega) k (by omega), Option.bind_some]
      dsimp only
      rw [if_pos rfl, pset_in hl hk, Option.bind_some, if_neg x]
      show some ((setA v l p n (thn (stAt l p n) d)).1, (setA v l p n (thn (stAt l p n) d)).2.1, (setA v l p n (thn (stAt l p n) d)).2.2) = _
      unfold setA
      rw [if_pos e, if_neg (by omega)]
  · rw [if_neg e, if_neg e]
    dsimp only
    rw [if_neg e]
theorem rat_in {v : Int} {l : List S42} {p n : Int} (hl : l.length ≤ 2100) {k : Nat} (hk : 50000 ≤ k) : bitloftref11_At.f k v l p n = some (atE v l p n) := by
  unfold bitloftref11_At.f atE
  rw [rchk (by omega) (by omega), Option.bind_some]
  by_cases g : good v l
  · rw [if_pos g, if_pos rfl, at_ite, if_pos g]
  · rw [if_neg g, if_neg (by decide), if_neg g]
theorem rget_in {v : Int} {l : List S42} {p n : Int} (hl : l.length ≤ 2100) {k : Nat} (hk : 50000 ≤ k) : bitloftref11_Get.f k v l p n = some (if atE v l p n = 0 then (stAt l p n, 0) else (0, atE v l p n)) := by
  unfold bitloftref11_Get.f
  rw [rat_in hl hk, Option.bind_some]
  by_cases e : atE v l p n = 0
  · have o := (atE_ok e).2
    unfold okAt at o
    rw [if_pos e, if_pos e, w64 (by omega), if_pos (by omega), if_pos (by omega), if_pos (by omega), if_pos (by omega)]; rfl
  · rw [if_neg e, if_neg e]
theorem twin_in {v : Int} {l : List S42} (hl : l.length ≤ 2100) : bitloftref11_Twin.f v l = some (v, l) := by
  unfold bitloftref11_Twin.f
  rw [Option.bind_some, if_pos (by simp only [List.length_nil]; omega)]; rfl
theorem with_in {v : Int} {l : List S42} {p n s : Int} (hl : l.length ≤ 2100) (o : okAt l p n) : bitloftref11_With.f v l p n s = some (v, wth l p n s) := by
  unfold okAt at o
  unfold bitloftref11_With.f
  rw [twin_in hl, Option.bind_some]
  dsimp only
  rw [w64 (by omega), if_pos (by omega), if_pos (by omega), if_pos (by omega), if_pos (by omega)]; rfl
theorem rset_in {v : Int} {l : List S42} {p n s : Int} (hl : l.length ≤ 2100) {k : Nat} (hk : 50000 ≤ k) : bitloftref11_Set.f k v l p n s = some (setA v l p n s) := by
  unfold bitloftref11_Set.f setA bitloftref08_State.f
  rw [rat_in hl hk, Option.bind_some]
  by_cases e : atE v l p n = 0
  · rw [if_pos e, if_pos e, Option.bind_some]
    by_cases x : s ≥ 193
    · rw [if_neg (by simpa using x), if_pos x]
    · rw [if_pos (by simpa using x), if_neg x, with_in hl (atE_ok e).2, Option.bind_some]
  · rw [if_neg e, if_neg e]
theorem rbit_in {v : Int} {l : List S42} {p n d : Int} (hl : l.length ≤ 2100) (hw : ∀ s ∈ l, wf42 s) (hd : 0 ≤ d) {k : Nat} (hk : 50000 ≤ k) : bitloftref11_Bit.f k v l p n d = some (bitA v l p n d) := by
  unfold bitloftref11_Bit.f bitA
  rw [rat_in hl hk, Option.bind_some]
  by_cases e : atE v l p n = 0
  · have go := atE_ok e
    have b := sts_bd go.1 hw go.2
    have o := go.2
    unfold okAt at o
    rw [if_pos e, if_pos e]
    by_cases x : d > 1
    · rw [if_pos x, if_pos x]
    · obtain ⟨q, rfl⟩ : ∃ q, k = q + 1 := ⟨k - 1, by omega⟩
      rw [if_neg x, if_neg x, w64 (by omega), if_pos (by omega), if_pos (by omega), if_pos (by omega), if_pos (by omega)]
      have t := then_in b.1 b.2 (show d = 0 ∨ d = 1 by omega) q
      unfold stAt sts at t
      rw [t, Option.bind_some, with_in hl go.2, Option.bind_some]
      rfl
  · rw [if_neg e, if_neg e]
theorem setA_len {v : Int} {l : List S42} {p n s : Int} (hl : l.length ≤ 2100) : (setA v l p n s).2.1.length ≤ 2100 := by
  unfold setA wth
  split
  · split
    · simp
    · rw [List.length_set]; exact hl
  · simp
theorem bitA_len {v : Int} {l : List S42} {p n d : Int} (hl : l.length ≤ 2100) : (bitA v l p n d).2.1.length ≤ 2100 := by
  unfold bitA wth
  split
  · split
    · simp
    · rw [List.length_set]; exact hl
  · simp
theorem SlotsSets : bitloftlaw11_SlotsSets.Pure := by
  intro v l p n s d _ _ hw _ _ _ hd
  have hd0 := (u8_in hd).1
  by_cases gr : l.length > 2100
  · refine ⟨0, ?_⟩
    unfold bitloftlaw11_SlotsSets.f bitloftref11_Great.f
    rw [Option.bind_some, if_pos (by rw [decide_eq_true_eq]; omega)]
  · have hl : l.length ≤ 2100 := by omega
    obtain ⟨K, hK⟩ : ∃ K : Nat, K = 60000 := ⟨_, rfl⟩
    refine ⟨K, ?_⟩
    have a := setA_len (v := v) (p := p) (n := n) (s := s) hl
    have b := bitA_len (v := v) (p := p) (n := n) (d := d) hl
    unfold bitloftlaw11_SlotsSets.f bitloftref11_Great.f
    rw [Option.bind_some, if_neg (by rw [decide_eq_true_eq]; omega), twin_in hl, Option.bind_some]
    dsimp only
    rw [pget_in hl (by omega), Option.bind_some, rget_in hl (by omega), Option.bind_some, pset_in hl (by omega), Option.bind_some, rset_in hl (by omega), Option.bind_some, pbit_in hl hw hd0 (by omega), Option.bind_some, rbit_in hl hw hd0 (by omega), Option.bind_some]
    rw [if_pos rfl, if_pos rfl, same_in (by omega) (by omega), Option.bind_some, if_pos rfl, if_pos rfl, same_in (by omega) (by omega), Option.bind_some, if_pos rfl, if_pos rfl, same_in (by omega) (by omega), Option.bind_some]
    obtain ⟨k, rfl⟩ : ∃ q, K = q + 1 := ⟨K - 1, by omega⟩
    simp only [bitloftlaw11_SlotsSets.j0]
end Go.Proofs.Ytaomhenneenaaaa.Pure
