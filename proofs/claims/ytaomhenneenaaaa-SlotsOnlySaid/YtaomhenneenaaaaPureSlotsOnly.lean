/- What is set in one slot changes no other state, for all valid tables, places, nodes and states. -/
import Derived.Test.YtaomhenneenaaaaXSlotsOnlyx7
import Derived.OpenShut
set_option linter.unusedVariables false
set_option linter.unusedSimpArgs false
namespace Go.Proofs.Ytaomhenneenaaaa.Pure
open Go.RowKit Go.Proofs.Ytaomhenneenaaaa.XSlotsOnly Go.Proofs.YtaomhenneenaaaaW.PrintWords Go.Proofs.YtaomhenneenaaaaW.PrintLast
theorem w32 {x : Int} (h : -2147483648 ≤ x ∧ x ≤ 2147483647) : wrap32 x = x := by unfold wrap32; omega
theorem w64 {x : Int} (h : -9223372036854775808 ≤ x ∧ x ≤ 9223372036854775807) : wrap64 x = x := by unfold wrap64; omega
/-- A valid count: two numbers and the last bit. -/
def Valid (a b c : Int) : Prop := (a = 0 ∧ b = 0 ∧ c = 0) ∨ (c = 0 ∧ 1 ≤ a ∧ a ≤ 12 ∧ 0 ≤ b ∧ b ≤ 7) ∨ (c = 1 ∧ 1 ≤ b ∧ b ≤ 12 ∧ 0 ≤ a ∧ a ≤ 7)
theorem Valid.bounds {a b c : Int} (h : Valid a b c) : 0 ≤ a ∧ a ≤ 12 ∧ 0 ≤ b ∧ b ≤ 12 ∧ 0 ≤ c ∧ c ≤ 1 := by unfold Valid at h; omega
theorem check_in {a b c : Int} (h : Valid a b c) : counts_Check.f a b c = some 0 := by
  unfold Valid at h
  unfold counts_Check.f
  rw [if_neg (by omega)]
  by_cases z : a = 0 ∧ b = 0 ∧ c = 0
  · rw [if_pos z]
  · rw [if_neg z, if_neg (by omega)]
    by_cases y : c = 0
    · rw [if_pos y, if_neg (by omega)]
    · rw [if_neg y, if_neg (by omega)]
theorem check_out {a b c : Int} (hc : 0 ≤ c) (h : ¬ Valid a b c) : counts_Check.f a b c = some 8 := by
  unfold Valid at h
  unfold counts_Check.f
  rw [if_neg (by omega), if_neg (by omega)]
  by_cases x : c > 1
  · rw [if_pos x]
  · rw [if_neg x]
    by_cases y : c = 0
    · rw [if_pos y, if_pos (by omega)]
    · rw [if_neg y, if_pos (by omega)]
theorem less_in {x : Int} (h0 : 0 ≤ x) (h1 : x ≤ 12) : 0 ≤ counts_next.less x ∧ counts_next.less x ≤ 7 ∧ counts_next.less x ≤ x := by unfold counts_next.less; split <;> omega
/-- The count after a bit. -/
def nxt (a b d : Int) : Int × Int × Int := if d = 0 then (if a < 12 then a + 1 else 12, counts_next.less b, 0) else (counts_next.less a, if b < 12 then b + 1 else 12, 1)
theorem next_valid {a b d : Int} (ha : 0 ≤ a) (ha' : a ≤ 12) (hb : 0 ≤ b) (hb' : b ≤ 12) : Valid (nxt a b d).1 (nxt a b d).2.1 (nxt a b d).2.2 := by
  have la := less_in ha ha'
  have lb := less_in hb hb'
  unfold nxt Valid
  by_cases h : d = 0
  · rw [if_pos h]
    right; left
    refine ⟨rfl, ?_, ?_, lb.1, lb.2.1⟩ <;> (dsimp only; split <;> omega)
  · rw [if_neg h]
    right; right
    refine ⟨rfl, ?_, ?_, la.1, la.2.1⟩ <;> (dsimp only; split <;> omega)
theorem next_in {a b c d : Int} (h : Valid a b c) (hd : d = 0 ∨ d = 1) : counts_next.f a b c d = some (nxt a b d) := by
  have v := h.bounds
  unfold counts_next.f nxt
  rw [if_pos (by omega)]
  rcases hd with rfl | rfl
  · rw [if_pos rfl, if_pos rfl]
  · rw [if_neg (show ¬ (1 : Int) = 0 by decide), if_pos rfl, if_neg (show ¬ (1 : Int) = 0 by decide)]
instance (a b c : Int) : Decidable (Valid a b c) := by unfold Valid; infer_instance
theorem drop_rd {l : List Int} {i : Nat} (h : i < l.length) : l.drop i = rd l (i : Int) :: l.drop (i + 1) := by
  have e : rd l (i : Int) = l[i] := by simp [rd, List.getD_eq_getElem?_getD, h]
  rw [e]
  exact List.drop_eq_getElem_cons h
/-- Are all of a list bits? -/
def bits (l : List Int) : Bool := l.all fun x => decide (x ≤ 1)
theorem bits_cons (x : Int) (l : List Int) : bits (x :: l) = (decide (x ≤ 1) && bits l) := rfl
/-- The count after bits. -/
def rn : List Int → Int → Int → Int → Int × Int × Int
  | [], a, b, c => (a, b, c)
  | d :: l, a, b, _ => rn l (nxt a b d).1 (nxt a b d).2.1 (nxt a b d).2.2
theorem rn_valid (l : List Int) : ∀ a b c, Valid a b c → Valid (rn l a b c).1 (rn l a b c).2.1 (rn l a b c).2.2 := by
  induction l with
  | nil => exact fun a b c h => h
  | cons d l ih =>
    intro a b c h
    have v := h.bounds
    exact ih _ _ _ (next_valid v.1 v.2.1 v.2.2.1 v.2.2.2.1)
theorem rn_append (l m : List Int) : ∀ a b c, rn (l ++ m) a b c = rn m (rn l a b c).1 (rn l a b c).2.1 (rn l a b c).2.2 := by
  induction l with
  | nil => exact fun a b c => rfl
  | cons d l ih => exact fun a b c => ih _ _ _
theorem max_go {l : List Int} (hl : l.length ≤ 140737488351232) (d : Nat) : ∀ (k i : Nat) (m : Int), i + d = l.length → d < k → ∃ r, slices_Max_uint8_uint8.l0 k l m (i : Int) = some r ∧ (r > 1 ↔ ¬ (m ≤ 1 ∧ bits (l.drop i) = true)) := by
  induction d with
  | zero =>
    intro k i m hd hk
    obtain ⟨k, rfl⟩ : ∃ q, k = q + 1 := ⟨k - 1, by omega⟩
    refine ⟨m, ?_, ?_⟩
    · simp only [slices_Max_uint8_uint8.l0]
      rw [if_neg (by omega)]
    · rw [List.drop_of_length_le (by omega)]
      simp [bits]
  | succ d ih =>
    intro k i m hd hk
    obtain ⟨k, rfl⟩ : ∃ q, k = q + 1 := ⟨k - 1, by omega⟩
    obtain ⟨r, h1, h2⟩ := ih k (i + 1) (mx m (rd l (i : Int))) (by omega) (by omega)
    refine ⟨r, ?_, ?_⟩
    · simp only [slices_Max_uint8_uint8.l0]
      rw [if_pos (by omega), if_pos (by omega), w64 (by omega)]
      exact h1
    · rw [h2, drop_rd (l := l) (i := i) (by omega), bits_cons]
      have : mx m (rd l (i : Int)) ≤ 1 ↔ m ≤ 1 ∧ rd l (i : Int) ≤ 1 := by unfold mx; split <;> omega
      rw [this]
      simp only [Bool.and_eq_true, decide_eq_true_eq, and_assoc]
theorem max_bits {l : List Int} (hl : l.length ≤ 140737488351232) (h0 : 0 < l.length) (k : Nat) (hk : l.length < k) : ∃ r, slices_Max_uint8_uint8.f k l = some r ∧ (r > 1 ↔ ¬ bits l = true) := by
  obtain ⟨r, h1, h2⟩ := max_go hl (l.length - 1) k 1 (rd l 0) (by omega) (by omega)
  refine ⟨r, ?_, ?_⟩
  · unfold slices_Max_uint8_uint8.f
    rw [if_neg (by omega), if_pos (by omega)]
    exact h1
  · rw [h2]
    have e := congrArg bits (drop_rd (l := l) (i := 0) h0)
    rw [List.drop_zero, bits_cons] at e
    rw [e]
    simp
theorem run_go {l : List Int} (hl : l.length ≤ 140737488351232) (h01 : ∀ x ∈ l, 0 ≤ x) (hb : bits l = true) (d : Nat) : ∀ (k i : Nat) (a b c : Int), i + d = l.length → d < k → Valid a b c →
    counts_Run.l0 k l (l.length : Int) (i : Int) a b c = some ((rn (l.drop i) a b c).1, (rn (l.drop i) a b c).2.1, (rn (l.drop i) a b c).2.2, 0) := by
  induction d with
  | zero =>
    intro k i a b c hd hk h
    obtain ⟨k, rfl⟩ : ∃ q, k = q + 1 := ⟨k - 1, by omega⟩
    simp only [counts_Run.l0]
    rw [if_neg (by omega), List.drop_of_length_le (by omega)]
    rfl
  | succ d ih =>
    intro k i a b c hd hk h
    obtain ⟨k, rfl⟩ : ∃ q, k = q + 1 := ⟨k - 1, by omega⟩
    have v := h.bounds
    have e : rd l (i : Int) = l[i]'(by omega) := by simp [rd, List.getD_eq_getElem?_getD, show i < l.length by omega]
    have m0 : 0 ≤ rd l (i : Int) := by rw [e]; exact h01 _ (List.getElem_mem _)
    have m1 : rd l (i : Int) ≤ 1 := by
      rw [e]
      have := List.all_eq_true.mp hb _ (List.getElem_mem (by omega : i < l.length))
      simpa using this
    simp only [counts_Run.l0]
    rw [if_pos (by omega), if_pos (by omega), if_pos (by omega), next_in h (by omega)]
    simp only [Option.bind_some]
    rw [w64 (by omega), drop_rd (l := l) (i := i) (by omega)]
    exact ih k (i + 1) _ _ _ (by omega) (by omega) (next_valid v.1 v.2.1 v.2.2.1 v.2.2.2.1)
/-- What a run answers. -/
def RunAns (a b c : Int) (l : List Int) : Int × Int × Int × Int :=
  if Valid a b c then (if l.length > 20000 then (0, 0, 0, 4) else if bits l = true then ((rn l a b c).1, (rn l a b c).2.1, (rn l a b c).2.2, 0) else (0, 0, 0, 2)) else (0, 0, 0, 8)
theorem run_is {a b c : Int} {l : List Int} (hc : 0 ≤ c) (h01 : ∀ x ∈ l, 0 ≤ x) (k : Nat) (hk : 20002 ≤ k ∨ l.length + 2 ≤ k) : counts_Run.f k a b c l = some (RunAns a b c l) := by
  unfold counts_Run.f RunAns
  by_cases h : Valid a b c
  · rw [check_in h, if_pos h]
    simp only [Option.bind_some, if_true]
    by_cases g : l.length > 20000
    · rw [if_pos (by omega), if_pos g]
    · rw [if_neg (by omega), if_neg g]
      have go : bits l = true → counts_Run.j0 k l a b c = some ((rn l a b c).1, (rn l a b c).2.1, (rn l a b c).2.2, 0) := by
        intro hb
        obtain ⟨k, rfl⟩ : ∃ q, k = q + 1 := ⟨k - 1, by omega⟩
        simp only [counts_Run.j0]
        exact run_go (by omega) h01 hb l.length k 0 a b c (by omega) (by omega) h
      by_cases z : 0 < l.length
      · obtain ⟨r, r1, r2⟩ := max_bits (l := l) (by omega) z k (by omega)
        rw [if_pos (by omega), r1]
        simp only [Option.bind_some]
        by_cases hb : bits l = true
        · rw [if_neg (by rw [r2]; simp [hb]), if_pos hb, go hb]
        · rw [if_pos (r2.mpr hb), if_neg hb]
      · have e : l = [] := List.eq_nil_of_length_eq_zero (by omega)
        rw [if_neg (by omega), if_pos (by rw [e]; rfl), go (by rw [e]; rfl)]
  · rw [check_out hc h, if_neg h]
    simp only [Option.bind_some]
    rw [if_neg (by decide)]
def cnt (s : Int) : Int × Int × Int := if s = 0 then (0, 0, 0) else if s ≤ 96 then ((s - 1) / 8 + 1, (s - 1) % 8, 0) else ((s - 1) % 8, (s - 1) / 8 - 11, 1)
theorem cnt_valid {s : Int} (h0 : 0 ≤ s) (h1 : s ≤ 192) : Valid (cnt s).1 (cnt s).2.1 (cnt s).2.2 := by
  unfold cnt Valid
  split
  · left; exact ⟨rfl, rfl, rfl⟩
  · split
    · right; left; dsimp only; omega
    · right; right; dsimp only; omega
theorem count_in {s : Int} (h0 : 0 ≤ s) (h1 : s ≤ 192) : states_Count.f s = some ((cnt s).1, (cnt s).2.1, (cnt s).2.2, 0) := by
  unfold states_Count.f cnt
  rw [if_neg (by omega), if_neg (by omega)]
  by_cases z : s = 0
  · rw [if_pos z, if_pos z]
  · rw [if_neg z, if_neg z]
    by_cases y : s ≤ 96
    · rw [if_pos y, if_pos y]
      have : (s - 1) / 8 % 12 = (s - 1) / 8 := by omega
      rw [this]
    · rw [if_neg y, if_neg y]
      have : (s - 1) / 8 % 12 + 1 = (s - 1) / 8 - 11 := by omega
      rw [this]
theorem count_out {s : Int} (h0 : 193 ≤ s) (h1 : s ≤ 255) : states_Count.f s = some (0, 0, 0, 2) := by
  unfold states_Count.f
  rw [if_neg (by omega), if_pos (by omega)]
def num (a b c : Int) : Int := if a = 0 ∧ b = 0 then 0 else if c = 0 then (a - 1) * 8 + b + 1 else (12 + b - 1) * 8 + a + 1
theorem num_bounds {a b c : Int} (h : Valid a b c) : 0 ≤ num a b c ∧ num a b c ≤ 192 := by
  unfold Valid at h
  unfold num
  split
  · omega
  · split <;> omega
theorem number_in {a b c : Int} (h : Valid a b c) : states_number.f a b c = some (num a b c) := by
  have v := h.bounds
  unfold Valid at h
  unfold states_number.f num
  rw [if_pos (by omega)]
  by_cases z : a = 0 ∧ b = 0
  · rw [if_pos (by omega), if_pos z]
  · rw [if_neg (by omega), if_neg z]
    by_cases y : c = 0
    · rw [if_pos y, if_pos y, if_pos (by omega)]
    · rw [if_neg y, if_neg y, if_pos (by omega), if_pos (by omega)]
theorem num_cnt {s : Int} (h0 : 0 ≤ s) (h1 : s ≤ 192) : num (cnt s).1 (cnt s).2.1 (cnt s).2.2 = s := by
  unfold num cnt
  by_cases z : s = 0
  · rw [if_pos z]; simp [z]
  · rw [if_neg z]
    by_cases y : s ≤ 96
    · rw [if_pos y]; dsimp only; rw [if_neg (by omega), if_pos rfl]; omega
    · rw [if_neg y]; dsimp only; rw [if_neg (by omega), if_neg (by decide)]; omega
theorem cnt_num {a b c : Int} (h : Valid a b c) : cnt (num a b c) = (a, b, c) := by
  unfold Valid at h
  unfold num
  by_cases z : a = 0 ∧ b = 0
  · rw [if_pos z]
    obtain ⟨rfl, rfl⟩ := z
    have : c = 0 := by omega
    subst this
    rfl
  · rw [if_neg z]
    unfold cnt
    by_cases y : c = 0
    · rw [if_pos y, if_neg (by omega), if_pos (by omega)]
      subst y
      refine Prod.ext ?_ (Prod.ext ?_ rfl) <;> dsimp only <;> omega
    · rw [if_neg y, if_neg (by omega), if_neg (by omega)]
      have : c = 1 := by omega
      subst this
      refine Prod.ext ?_ (Prod.ext ?_ rfl) <;> dsimp only <;> omega
theorem contains_is {l : List Int} (hl : l.length ≤ 20000) : slices_ContainsFunc_uint8_uint8_states_Run_1.f l = some (!bits l) := by
  unfold slices_ContainsFunc_uint8_uint8_states_Run_1.f bits
  rw [if_neg (by omega), List.not_all_eq_any_not]
  congr 2
  funext x
  by_cases c : x ≤ 1
  · rw [decide_eq_true c, decide_eq_false (by omega)]; rfl
  · rw [decide_eq_false c, decide_eq_true (by omega)]; rfl
def SRun (s : Int) (l : List Int) : Int × Int := if s > 192 then (0, 2) else if l.length > 20000 then (0, 4) else if bits l = true then (num (rn l (cnt s).1 (cnt s).2.1 (cnt s).2.2).1 (rn l (cnt s).1 (cnt s).2.1 (cnt s).2.2).2.1 (rn l (cnt s).1 (cnt s).2.1 (cnt s).2.2).2.2, 0) else (0, 2)
theorem srun_is {s : Int} {l : List Int} (h0 : 0 ≤ s) (h1 : s ≤ 255) (h01 : ∀ x ∈ l, 0 ≤ x) (k : Nat) (hk : 20002 ≤ k ∨ l.length + 2 ≤ k) : states_Run.f k s l = some (SRun s l) := by
  unfold states_Run.f SRun
  by_cases c : s > 192
  · rw [count_out (by omega) h1, if_pos c]
    rfl
  · rw [count_in h0 (by omega), if_neg c]
    simp only [Option.bind_some, if_true]
    by_cases g : l.length > 20000
    · rw [if_pos (by omega), if_pos g]
    · rw [if_neg (by omega), if_neg g, contains_is (by omega)]
      simp only [Option.bind_some]
      have v := cnt_valid h0 (by omega : s ≤ 192)
      by_cases hb : bits l = true
      · rw [hb, if_neg (by decide), if_pos rfl, run_is v.bounds.2.2.2.2.1 h01 k hk]
        unfold RunAns
        rw [if_pos v, if_neg g, if_pos hb]
        simp only [Option.bind_some, if_true]
        rw [number_in (rn_valid l _ _ _ v)]
        rfl
      · rw [if_neg hb, if_pos (by simpa using hb)]
theorem snext_is {s d : Int} (h0 : 0 ≤ s) (h1 : s ≤ 192) (hd : d = 0 ∨ d = 1) (k : Nat) (hk : 3 ≤ k) : states_Next.f k s d = some (num (nxt (cnt s).1 (cnt s).2.1 d).1 (nxt (cnt s).1 (cnt s).2.1 d).2.1 (nxt (cnt s).1 (cnt s).2.1 d).2.2, 0) := by
  unfold states_Next.f
  rw [srun_is h0 (by omega) (by intro x hx; simp at hx; omega) k (.inr (by simpa using hk))]
  unfold SRun
  rw [if_neg (by omega), if_neg (by simp), if_pos (by simp [bits]; omega)]
  rfl
theorem snext_far {s d : Int} (h0 : 0 ≤ s) (h1 : s ≤ 255) (hd : 0 ≤ d) (h : s > 192 ∨ d > 1) (k : Nat) (hk : 3 ≤ k) : states_Next.f k s d = some (0, 2) := by
  unfold states_Next.f
  rw [srun_is h0 (by omega) (by intro x hx; simp at hx; omega) k (.inr (by simpa using hk))]
  unfold SRun
  by_cases c : s > 192
  · rw [if_pos c]; rfl
  · rw [if_neg c, if_neg (by simp), if_neg (by simp [bits]; omega)]; rfl
/-- The states of a slot. -/
def sts (s : S42) : List Int := [s.f1.f0, s.f1.f1, s.f1.f2, s.f1.f3, s.f1.f4, s.f1.f5, s.f1.f6, s.f1.f7, s.f1.f8, s.f1.f9, s.f1.f10, s.f1.f11, s.f1.f12, s.f1.f13, s.f1.f14]
def okS (s : S42) : Prop := ∀ x ∈ sts s, x < 193
instance (s : S42) : Decidable (okS s) := by unfold okS; infer_instance
/-- A table as the program takes it. -/
def good (v : Int) (l : List S42) : Prop := (0 ≤ v ∧ v ≤ 7 ∧ (l.length : Int) = 16 * 2 ^ v.toNat) ∧ ∀ s ∈ l, okS s
instance (v : Int) (l : List S42) : Decidable (good v l) := by unfold good; infer_instance
theorem sdrop_rd {l : List Int} {i : Nat} (h : i < l.length) : l.drop i = rd l (i : Int) :: l.drop (i + 1) := by
  have e : rd l (i : Int) = l[i] := by simp [rd, List.getD_eq_getElem?_getD, h]
  rw [e]
  exact List.drop_eq_getElem_cons h
theorem drop_rt {l : List S42} {i : Nat} (h : i < l.length) : l.drop i = rd_T42 l (i : Int) :: l.drop (i + 1) := by
  have e : rd_T42 l (i : Int) = l[i] := by simp [rd_T42, List.getD_eq_getElem?_getD, h]
  rw [e]
  exact List.drop_eq_getElem_cons h
theorem rt_mem {l : List S42} {i : Int} (h0 : 0 ≤ i) (h : i < l.length) : rd_T42 l i ∈ l := by
  obtain ⟨n, rfl⟩ := Int.eq_ofNat_of_zero_le h0
  have e : rd_T42 l (n : Int) = l[n]'(by omega) := by simp [rd_T42, List.getD_eq_getElem?_getD, show n < l.length by omega]
  rw [e]
  exact List.getElem_mem _
theorem smax_go {l : List Int} (hl : l.length ≤ 100) (d : Nat) : ∀ (k i : Nat) (m : Int), i + d = l.length → d < k → ∃ r, slices_Max_uint8_uint8.l0 k l m (i : Int) = some r ∧ (r ≥ 193 ↔ ¬ (m < 193 ∧ ∀ x ∈ l.drop i, x < 193)) := by
  induction d with
  | zero =>
    intro k i m hd hk
    obtain ⟨k, rfl⟩ : ∃ q, k = q + 1 := ⟨k - 1, by omega⟩
    refine ⟨m, ?_, ?_⟩
    · simp only [slices_Max_uint8_uint8.l0]
      rw [if_neg (by omega)]
    · rw [List.drop_of_length_le (by omega)]
      simp
  | succ d ih =>
    intro k i m hd hk
    obtain ⟨k, rfl⟩ : ∃ q, k = q + 1 := ⟨k - 1, by omega⟩
    obtain ⟨r, h1, h2⟩ := ih k (i + 1) (mx m (rd l (i : Int))) (by omega) (by omega)
    refine ⟨r, ?_, ?_⟩
    · simp only [slices_Max_uint8_uint8.l0]
      rw [if_pos (by omega), if_pos (by omega), w64 (by omega)]
      exact h1
    · rw [h2, sdrop_rd (l := l) (i := i) (by omega), List.forall_mem_cons]
      have : mx m (rd l (i : Int)) < 193 ↔ m < 193 ∧ rd l (i : Int) < 193 := by unfold mx; split <;> omega
      rw [this, and_assoc]
theorem sts_len (s : S42) : (sts s).length = 15 := rfl
theorem max_sts (s : S42) (k : Nat) (hk : 20 ≤ k) : ∃ r, slices_Max_uint8_uint8.f k (sts s) = some r ∧ (r ≥ 193 ↔ ¬ okS s) := by
  obtain ⟨r, h1, h2⟩ := smax_go (l := sts s) (by rw [sts_len]; omega) 14 k 1 (rd (sts s) 0) (by rfl) (by omega)
  refine ⟨r, ?_, ?_⟩
  · unfold slices_Max_uint8_uint8.f
    rw [if_neg (by rw [sts_len]; omega), if_pos (by rw [sts_len]; omega)]
    exact h1
  · rw [h2]
    unfold okS
    have e := sdrop_rd (l := sts s) (i := 0) (by rw [sts_len]; omega)
    rw [List.drop_zero] at e
    conv => rhs; rw [e, List.forall_mem_cons]
    rfl
theorem pchk_go {l : List S42} (hl : l.length ≤ 5000) (d : Nat) : ∀ (k i : Nat), i + d = l.length → d + 20 < k → slots_Check.l0 k l (l.length : Int) (i : Int) = some (if ∀ s ∈ l.drop i, okS s then 0 else 8) := by
  induction d with
  | zero =>
    intro k i hd hk
    obtain ⟨k, rfl⟩ : ∃ q, k = q + 1 := ⟨k - 1, by omega⟩
    simp only [slots_Check.l0]
    rw [if_neg (by omega), List.drop_of_length_le (by omega), if_pos (by simp)]
  | succ d ih =>
    intro k i hd hk
    obtain ⟨k, rfl⟩ : ∃ q, k = q + 1 := ⟨k - 1, by omega⟩
    obtain ⟨r, h1, h2⟩ := max_sts (rd_T42 l (i : Int)) k (by omega)
    simp only [slots_Check.l0]
    rw [if_pos (by omega), if_pos (by omega), if_pos (by omega)]
    unfold sts at h1
    rw [h1, Option.bind_some, w64 (by omega), drop_rt (l := l) (i := i) (by omega), show (i : Int) + 1 = ((i + 1 : Nat) : Int) from rfl, ih k (i + 1) (by omega) (by omega)]
    simp only [List.forall_mem_cons]
    by_cases y : okS (rd_T42 l (i : Int))
    · rw [if_neg (by rw [h2]; simpa using y)]
      simp [y]
    · rw [if_pos (h2.mpr y), if_neg (fun z => y z.1)]
theorem shl_in {v : Int} (h0 : 0 ≤ v) (h1 : v ≤ 7) : shl .i64 16 v = 16 * 2 ^ v.toNat := by
  obtain ⟨n, rfl⟩ := Int.eq_ofNat_of_zero_le h0
  have : n ≤ 7 := by omega
  have h : ∀ m : Fin 8, shl .i64 16 (m.val : Int) = 16 * 2 ^ m.val := by decide
  exact h ⟨n, by omega⟩
theorem psize_in {v : Int} (h0 : 0 ≤ v) (h1 : v ≤ 7) : slots_size.f v = some (16 * 2 ^ v.toNat) := by
  unfold slots_size.f
  rw [if_pos h0, shl_in h0 h1]
theorem pow_le {v : Int} (h0 : 0 ≤ v) (h1 : v ≤ 7) : (2 : Int) ^ v.toNat ≤ 128 ∧ 1 ≤ (2 : Int) ^ v.toNat := by
  obtain ⟨n, rfl⟩ := Int.eq_ofNat_of_zero_le h0
  have h : ∀ m : Fin 8, (2 : Int) ^ m.val ≤ 128 ∧ 1 ≤ (2 : Int) ^ m.val := by decide
  exact h ⟨n, by omega⟩
theorem if_iff {p q : Prop} [Decidable p] [Decidable q] {a b : Int} (h : p ↔ q) : (if p then a else b) = if q then a else b := by
  by_cases y : p
  · rw [if_pos y, if_pos (h.mp y)]
  · rw [if_neg y, if_neg (fun z => y (h.mpr z))]
theorem pchk {v : Int} {l : List S42} (hl : l.length ≤ 5000) {k : Nat} (hk : l.length + 30 ≤ k) : slots_Check.f k v l = some (if good v l then 0 else 8) := by
  have hj : ∀ z : Bool, (z = true ↔ ¬ (0 ≤ v ∧ v ≤ 7 ∧ (l.length : Int) = 16 * 2 ^ v.toNat)) → slots_Check.j0 k z v l = some (if good v l then 0 else 8) := by
    intro z hz
    obtain ⟨k, rfl⟩ : ∃ q, k = q + 1 := ⟨k - 1, by omega⟩
    simp only [slots_Check.j0]
    by_cases y : 0 ≤ v ∧ v ≤ 7 ∧ (l.length : Int) = 16 * 2 ^ v.toNat
    · rw [if_neg (fun x => hz.mp x y)]
      have := pchk_go hl l.length k 0 (by omega) (by omega)
      rw [List.drop_zero] at this
      exact (show slots_Check.l0 k l (l.length : Int) 0 = _ from this).trans (congrArg some (if_iff ⟨fun z => ⟨y, z⟩, fun z => z.2⟩))
    · rw [if_pos (hz.mpr y), if_neg (fun x => y x.1)]
  unfold slots_Check.f
  by_cases a : v < 0
  · rw [if_pos a]; exact hj _ (by simp; omega)
  · rw [if_neg a]
    by_cases b : v > 7
    · rw [if_pos b]; exact hj _ (by simp; omega)
    · rw [if_neg b, psize_in (by omega) (by omega), Option.bind_some]
      exact hj _ (by simp; omega)
/-! The reference's check. -/
theorem rsize_go (d : Nat) : ∀ (k i : Nat) (x : Int), i + d ≤ 7 → d < k → bitloftref11_Size.l0 k ((i + d : Nat) : Int) (16 * 2 ^ i) (i : Int) = some (16 * 2 ^ (i + d)) := by
  induction d with
  | zero =>
    intro k i x hd hk
    obtain ⟨k, rfl⟩ : ∃ q, k = q + 1 := ⟨k - 1, by omega⟩
    simp only [bitloftref11_Size.l0]
    rw [if_neg (by omega)]; rfl
  | succ d ih =>
    intro k i x hd hk
    obtain ⟨k, rfl⟩ : ∃ q, k = q + 1 := ⟨k - 1, by omega⟩
    simp only [bitloftref11_Size.l0]
    have hp : (2 : Int) ^ i ≤ 128 := by
      have h : ∀ m : Fin 8, (2 : Int) ^ m.val ≤ 128 := by decide
      exact h ⟨i, by omega⟩
    have hq : (0 : Int) ≤ 2 ^ i := by
      have h : ∀ m : Fin 8, (0 : Int) ≤ 2 ^ m.val := by decide
      exact h ⟨i, by omega⟩
    rw [if_pos (by omega), w64 (by omega), w64 (by omega)]
    have := ih k (i + 1) x (by omega) (by omega)
    rw [show i + 1 + d = i + (d + 1) from by omega] at this
    rw [show (16 : Int) * 2 ^ i * 2 = 16 * 2 ^ (i + 1) from by rw [Int.pow_succ]; omega]
    exact this
theorem rsize_in {v : Int} (h0 : 0 ≤ v) (h1 : v ≤ 7) {k : Nat} (hk : 10 ≤ k) : bitloftref11_Size.f k v = some (16 * 2 ^ v.toNat) := by
  obtain ⟨n, rfl⟩ := Int.eq_ofNat_of_zero_le h0
  have := rsize_go n k 0 0 (by omega) (by omega)
  simp only [Nat.zero_add] at this
  exact this
theorem rlevel (v : Int) : bitloftref11_Level.f v = some (decide (0 ≤ v ∧ v ≤ 7)) := by
  unfold bitloftref11_Level.f
  by_cases a : v ≥ 0
  · rw [if_pos a]; simp; omega
  · rw [if_neg a]; simp; omega
theorem rchk1_go {l : List S42} {v : Int} {i : Nat} (hi : i < l.length) (hl : l.length ≤ 5000) {R : Option Int} {K : Nat} (hR : ∀ k, K ≤ k → bitloftref11_Check.l0 k ((i + 1 : Nat) : Int) v l = R) (d : Nat) :
    ∀ (k j : Nat), j + d = 15 → K + d < k → bitloftref11_Check.l1 k (i : Int) (j : Int) v l = if ∀ x ∈ (sts (rd_T42 l (i : Int))).drop j, x < 193 then R else some 8 := by
  induction d with
  | zero =>
    intro k j hd hk
    obtain ⟨k, rfl⟩ : ∃ q, k = q + 1 := ⟨k - 1, by omega⟩
    simp only [bitloftref11_Check.l1]
    rw [if_neg (by omega), w64 (by omega), show (i : Int) + 1 = ((i + 1 : Nat) : Int) from rfl, hR k (by omega), List.drop_of_length_le (by show 15 ≤ j; omega), if_pos (by simp)]
  | succ d ih =>
    intro k j hd hk
    obtain ⟨k, rfl⟩ : ∃ q, k = q + 1 := ⟨k - 1, by omega⟩
    simp only [bitloftref11_Check.l1]
    rw [if_pos (by omega), if_pos (by omega), if_pos (by omega), if_pos (by omega)]
    unfold bitloftref08_State.f
    rw [Option.bind_some, w64 (by omega), show (j : Int) + 1 = ((j + 1 : Nat) : Int) from rfl, ih k (j + 1) (by omega) (by omega)]
    rw [sdrop_rd (l := sts (rd_T42 l (i : Int))) (i := j) (by show j < 15; omega)]
    simp only [List.forall_mem_cons]
    show (if decide (rd (sts (rd_T42 l (i : Int))) (j : Int) < 193) = true then _ else _) = _
    by_cases y : rd (sts (rd_T42 l (i : Int))) (j : Int) < 193
    · rw [if_pos (by simpa using y)]; simp [y]
    · rw [if_neg (by simpa using y), if_neg (fun z => y z.1)]
theorem rchk_go {l : List S42} {v : Int} (hl : l.length ≤ 5000) (d : Nat) : ∀ (k i : Nat), i + d = l.length → d * 20 < k → bitloftref11_Check.l0 k (i : Int) v l = some (if ∀ s ∈ l.drop i, okS s then 0 else 8) := by
  induction d with
  | zero =>
    intro k i hd hk
    obtain ⟨k, rfl⟩ : ∃ q, k = q + 1 := ⟨k - 1, by omega⟩
    simp only [bitloftref11_Check.l0]
    rw [if_neg (by omega), List.drop_of_length_le (by omega), if_pos (by simp)]
  | succ d ih =>
    intro k i hd hk
    obtain ⟨k, rfl⟩ : ∃ q, k = q + 1 := ⟨k - 1, by omega⟩
    simp only [bitloftref11_Check.l0]
    rw [if_pos (by omega), show (0 : Int) = ((0 : Nat) : Int) from rfl, rchk1_go (by omega) hl (K := d * 20 + 1) (fun q hq => ih q (i + 1) (by omega) (by omega)) 15 k 0 (by omega) (by omega), drop_rt (l := l) (i := i) (by omega)]
    simp only [List.forall_mem_cons, List.drop_zero]
    by_cases y : okS (rd_T42 l (i : Int))
    · rw [if_pos (show ∀ x ∈ sts (rd_T42 l (i : Int)), x < 193 from y)]; simp [y]
    · rw [if_neg (show ¬ ∀ x ∈ sts (rd_T42 l (i : Int)), x < 193 from y), if_neg (fun z => y z.1)]
theorem rchk {v : Int} {l : List S42} (hl : l.length ≤ 5000) {k : Nat} (hk : l.length * 20 + 30 ≤ k) : bitloftref11_Check.f k v l = some (if good v l then 0 else 8) := by
  have hj : ∀ z : Bool, (z = true ↔ ¬ (0 ≤ v ∧ v ≤ 7 ∧ (l.length : Int) = 16 * 2 ^ v.toNat)) → bitloftref11_Check.j0 k z v l = some (if good v l then 0 else 8) := by
    intro z hz
    obtain ⟨k, rfl⟩ : ∃ q, k = q + 1 := ⟨k - 1, by omega⟩
    simp only [bitloftref11_Check.j0]
    by_cases y : 0 ≤ v ∧ v ≤ 7 ∧ (l.length : Int) = 16 * 2 ^ v.toNat
    · rw [if_neg (fun x => hz.mp x y)]
      have := rchk_go (v := v) hl l.length k 0 (by omega) (by omega)
      rw [List.drop_zero] at this
      exact (show bitloftref11_Check.l0 k 0 v l = _ from this).trans (congrArg some (if_iff ⟨fun z => ⟨y, z⟩, fun z => z.2⟩))
    · rw [if_pos (hz.mpr y), if_neg (fun x => y x.1)]
  unfold bitloftref11_Check.f
  rw [rlevel, Option.bind_some]
  by_cases a : 0 ≤ v ∧ v ≤ 7
  · rw [if_pos (by simpa using a), rsize_in a.1 a.2 (by omega), Option.bind_some]
    exact hj _ (by simp; omega)
  · rw [if_neg (by simpa using a)]
    exact hj _ (by simp; omega)
theorem u8_in {x : Int} (h : (Lit.int .u8 x).wf = true) : 0 ≤ x ∧ x ≤ 255 := by
  simp only [Lit.wf, IntKind.min, IntKind.max, IntKind.signed, IntKind.bits, Bool.and_eq_true] at h
  simp at h
  omega
def home (l : List S42) (h : Int) : Int := h % (l.length : Int)
def bs (p : Int) : Int := if p % 2 = 0 then p + 1 else p - 1
def seen (x : Int) : Int := (cnt x).1 + (cnt x).2.1
def pr (l : List S42) (p : Int) : Int := seen (rd_T42 l p).f1.f0
def ck (h : Int) : Int := h / 16777216
def look (l : List S42) (h : Int) : Int × Bool :=
  if (rd_T42 l (home l h)).f0 = ck h then (home l h, true) else if (rd_T42 l (bs (home l h))).f0 = ck h then (bs (home l h), true)
  else if pr l (bs (home l h)) < pr l (home l h) then (bs (home l h), false) else (home l h, false)
def fnd (l : List S42) (h : Int) : List S42 := if (look l h).2 = true then l else l.set (look l h).1.toNat ⟨ck h, (⟨0, 0, 0, 0, 0, 0, 0, 0, 0, 0, 0, 0, 0, 0, 0⟩ : S40)⟩
theorem good_len {v : Int} {l : List S42} (g : good v l) : ∃ n : Fin 8, l.length = 16 * 2 ^ n.val := by
  obtain ⟨⟨h0, h1, h2⟩, _⟩ := g
  obtain ⟨n, rfl⟩ := Int.eq_ofNat_of_zero_le h0
  refine ⟨⟨n, by omega⟩, ?_⟩
  show l.length = 16 * 2 ^ n
  have : (l.length : Int) = ((16 * 2 ^ n : Nat) : Int) := by rw [h2]; simp
  omega
theorem good_bd {v : Int} {l : List S42} (g : good v l) : 16 ≤ l.length ∧ l.length ≤ 2048 ∧ l.length % 2 = 0 := by
  obtain ⟨n, hn⟩ := good_len g
  have h : ∀ n : Fin 8, 16 ≤ 16 * 2 ^ n.val ∧ 16 * 2 ^ n.val ≤ 2048 ∧ 16 * 2 ^ n.val % 2 = 0 := by decide
  rw [hn]; exact h n
theorem home_bd {v : Int} {l : List S42} (g : good v l) (h : Int) : 0 ≤ home l h ∧ home l h < l.length := by
  have := good_bd g
  unfold home
  exact ⟨Int.emod_nonneg _ (by omega), Int.emod_lt_of_pos _ (by omega)⟩
theorem bs_bd {v : Int} {l : List S42} (g : good v l) {p : Int} (h0 : 0 ≤ p) (h1 : p < l.length) : 0 ≤ bs p ∧ bs p < l.length := by
  have := good_bd g
  unfold bs
  split <;> omega
theorem look_bd {v : Int} {l : List S42} (g : good v l) (h : Int) : 0 ≤ (look l h).1 ∧ (look l h).1 < l.length := by
  have a := home_bd g h
  have b := bs_bd g a.1 a.2
  unfold look
  split
  · exact a
  · split
    · exact b
    · split
      · exact b
      · exact a
theorem wraps_i64 (n : Int) (h0 : 0 ≤ n) (h1 : n < 2 ^ 63) : IntKind.i64.wrap n = n := by rw [IntKind.wrap_i64]; omega
theorem place_in {v : Int} {l : List S42} (g : good v l) {h : Int} (h0 : 0 ≤ h) (h1 : h < 4294967296) : hashes_Place.f h (l.length : Int) = some (home l h, 0) := by
  have bd := good_bd g
  obtain ⟨n, hn⟩ := good_len g
  have hz : ∀ n : Fin 8, Go.bits .and .i64 ((16 * 2 ^ n.val : Nat) : Int) (((16 * 2 ^ n.val : Nat) : Int) - 1) = 0 := by decide +kernel
  have hp : ∀ n : Fin 8, (((16 * 2 ^ n.val : Nat) : Int) - 1) = 2 ^ (n.val + 4) - 1 ∧ ((16 * 2 ^ n.val : Nat) : Int) = 2 ^ (n.val + 4) := by decide
  unfold hashes_Place.f home
  rw [if_neg (by omega), if_neg (by omega), w64 (x := (l.length : Int) - 1) (by omega), hn, if_pos (hz n), w64 (by omega), (hp n).1, bits_mask .i64 63 (by decide) wraps_i64 (n.val + 4) (by omega) h h0 (by omega), (hp n).2]
theorem pck {h : Int} (h0 : 0 ≤ h) (h1 : h < 4294967296) : hashes_Check.f h = some (ck h) := by
  unfold hashes_Check.f ck
  rw [Int.emod_eq_of_lt (by omega) (by omega)]
theorem xor_in {p : Int} (h0 : 0 ≤ p) (h1 : p < 2048) : Go.bits .xor .i64 p 1 = bs p := by
  obtain ⟨n, rfl⟩ := Int.eq_ofNat_of_zero_le h0
  have h : ∀ i j : Fin 64, ((i.val * 64 + j.val < 2048)) → Go.bits .xor .i64 ((i.val * 64 + j.val : Nat) : Int) 1 = bs ((i.val * 64 + j.val : Nat) : Int) := by decide +kernel
  have := h ⟨n / 64, by omega⟩ ⟨n % 64, by omega⟩
  dsimp only at this
  rw [show n / 64 * 64 + n % 64 = n from by omega] at this
  exact this (by omega)
theorem cnt_bd {s : Int} (h0 : 0 ≤ s) (h1 : s ≤ 192) : 0 ≤ (cnt s).1 ∧ (cnt s).1 ≤ 12 ∧ 0 ≤ (cnt s).2.1 ∧ (cnt s).2.1 ≤ 13 := by
  unfold cnt
  split
  · decide
  · split <;> (dsimp only; omega)
theorem total_in {s : Int} (h0 : 0 ≤ s) (h1 : s ≤ 192) : states_Total.f s = some (seen s, 0) := by
  have b := cnt_bd h0 h1
  unfold states_Total.f seen
  rw [count_in h0 h1, Option.bind_some, w32 (by dsimp only; omega)]
theorem prio_in {s : Int} (h0 : 0 ≤ s) (h1 : s ≤ 192) (c a1 a2 a3 a4 a5 a6 a7 a8 a9 a10 a11 a12 a13 a14 : Int) : slots_priority.f c s a1 a2 a3 a4 a5 a6 a7 a8 a9 a10 a11 a12 a13 a14 = some (seen s) := by
  unfold slots_priority.f
  rw [total_in h0 h1, Option.bind_some]
theorem st0 {v : Int} {l : List S42} (g : good v l) (hw : ∀ s ∈ l, wf42 s) {p : Int} (h0 : 0 ≤ p) (h1 : p < l.length) : 0 ≤ (rd_T42 l p).f1.f0 ∧ (rd_T42 l p).f1.f0 ≤ 192 := by
  have m := rt_mem h0 h1
  have a := u8_in (hw _ m).2.1
  have b := g.2 _ m (rd_T42 l p).f1.f0 (by simp [sts])
  omega
theorem pfind_j {v : Int} {l : List S42} {p c : Int} (h0 : 0 ≤ p) (h1 : p < l.length) {k : Nat} (hk : 0 < k) : slots_Find.j0 k p c v l = some (v, l.set p.toNat ⟨c, (⟨0, 0, 0, 0, 0, 0, 0, 0, 0, 0, 0, 0, 0, 0, 0⟩ : S40)⟩, p, 0) := by
  obtain ⟨k, rfl⟩ : ∃ q, k = q + 1 := ⟨k - 1, by omega⟩
  simp only [slots_Find.j0]
  rw [if_pos h0, if_pos h1]
theorem pfind_in {v : Int} {l : List S42} (g : good v l) (hw : ∀ s ∈ l, wf42 s) {h : Int} (h0 : 0 ≤ h) (h1 : h < 4294967296) {k : Nat} (hk : 4000 ≤ k) : slots_Find.f k v l h = some (v, fnd l h, (look l h).1, 0) := by
  have bd := good_bd g
  have a := home_bd g h
  have b := bs_bd g a.1 a.2
  have s := st0 g hw a.1 a.2
  have t := st0 g hw b.1 b.2
  unfold slots_Find.f
  rw [pchk (by omega) (by omega), Option.bind_some, if_pos g, if_pos rfl, place_in g h0 h1, Option.bind_some]
  dsimp only
  rw [if_pos rfl, pck h0 h1, Option.bind_some]
  unfold slices_Clone_api_Slot_api_Slot.f
  rw [if_pos (by omega), Option.bind_some, if_pos a.1, if_pos a.2, xor_in a.1 (by omega)]
  unfold fnd look
  by_cases x : (rd_T42 l (home l h)).f0 = ck h
  · rw [if_pos x, if_pos x]; rfl
  · rw [if_neg x, if_neg x, if_pos b.1, if_pos b.2]
    by_cases y : (rd_T42 l (bs (home l h))).f0 = ck h
    · rw [if_pos y, if_pos y]; rfl
    · rw [if_neg y, if_neg y, prio_in t.1 t.2, Option.bind_some, prio_in s.1 s.2, Option.bind_some]
      show (if pr l (bs (home l h)) < pr l (home l h) then _ else _) = _
      by_cases z : pr l (bs (home l h)) < pr l (home l h)
      · rw [if_pos z, if_pos z, pfind_j b.1 b.2 (by omega)]; rfl
      · rw [if_neg z, if_neg z, pfind_j a.1 a.2 (by omega)]; rfl
theorem pfind_out {v : Int} {l : List S42} (hl : l.length ≤ 2100) (g : ¬ good v l) {h : Int} {k : Nat} (hk : 4000 ≤ k) : slots_Find.f k v l h = some (0, [], 0, 8) := by
  unfold slots_Find.f
  rw [pchk (by omega) (by omega), Option.bind_some, if_neg g, if_neg (by decide)]
theorem same_go {l : List S42} (v : Int) (hl : l.length ≤ 5000) (d : Nat) : ∀ (k i : Nat), i + d = l.length → d < k → bitloftref11_Same.l0 k (i : Int) v l v l = some true := by
  induction d with
  | zero =>
    intro k i hd hk
    obtain ⟨k, rfl⟩ : ∃ q, k = q + 1 := ⟨k - 1, by omega⟩
    simp only [bitloftref11_Same.l0]
    rw [if_neg (by omega)]
  | succ d ih =>
    intro k i hd hk
    obtain ⟨k, rfl⟩ : ∃ q, k = q + 1 := ⟨k - 1, by omega⟩
    simp only [bitloftref11_Same.l0]
    rw [if_pos (by omega), if_pos (by omega), if_pos (by omega)]
    simp only [beq_self_eq_true, Bool.not_true, Bool.or_false, Bool.false_eq_true, if_false]
    rw [w64 (by omega), show (i : Int) + 1 = ((i + 1 : Nat) : Int) from rfl]
    exact ih k (i + 1) (by omega) (by omega)
theorem same_in {v : Int} {l : List S42} (hl : l.length ≤ 5000) {k : Nat} (hk : l.length + 2 ≤ k) : bitloftref11_Same.f k v l v l = some true := by
  obtain ⟨k, rfl⟩ : ∃ q, k = q + 1 := ⟨k - 1, by omega⟩
  unfold bitloftref11_Same.f
  rw [if_pos rfl]
  simp only [bitloftref11_Same.j0]
  rw [if_neg (by simp)]
  exact same_go v hl l.length k 0 (by omega) (by omega)
/-- May a place and a node be asked? -/
def okAt (l : List S42) (p n : Int) : Prop := 0 ≤ p ∧ p < l.length ∧ 1 ≤ n ∧ n ≤ 15
instance (l : List S42) (p n : Int) : Decidable (okAt l p n) := by unfold okAt; infer_instance
def atE (v : Int) (l : List S42) (p n : Int) : Int := if good v l then (if okAt l p n then 0 else 2) else 8
theorem at_ite {l : List S42} {p n : Int} : (if p < 0 then (some 2) else (if p ≥ (l.length : Int) then (some 2) else (if n < 1 then (some 2) else (if n > 15 then (some 2) else (some 0))))) = some (if okAt l p n then (0 : Int) else 2) := by
  by_cases a : p < 0
  · rw [if_pos a, if_neg (show ¬ okAt l p n by unfold okAt; omega)]
  · rw [if_neg a]
    by_cases b : p ≥ (l.length : Int)
    · rw [if_pos b, if_neg (show ¬ okAt l p n by unfold okAt; omega)]
    · rw [if_neg b]
      by_cases c : n < 1
      · rw [if_pos c, if_neg (show ¬ okAt l p n by unfold okAt; omega)]
      · rw [if_neg c]
        by_cases d : n > 15
        · rw [if_pos d, if_neg (show ¬ okAt l p n by unfold okAt; omega)]
        · rw [if_neg d, if_pos (show okAt l p n by unfold okAt; omega)]
theorem pat_in {v : Int} {l : List S42} {p n : Int} (hl : l.length ≤ 2100) {k : Nat} (hk : 50000 ≤ k) : slots_at.f k v l p n = some (atE v l p n) := by
  unfold slots_at.f atE
  rw [pchk (by omega) (by omega), Option.bind_some]
  by_cases g : good v l
  · rw [if_pos g, if_pos rfl, at_ite, if_pos g]
  · rw [if_neg g, if_neg (by decide), if_neg g]
/-- The state at a place and a node. -/
def stAt (l : List S42) (p n : Int) : Int := rd (sts (rd_T42 l p)) (n - 1)
/-- A table with another state. -/
def wth (l : List S42) (p n s : Int) : List S42 := l.set p.toNat ⟨(rd_T42 l p).f0, upd40 ((rd_T42 l p).f1) (n - 1) s⟩
theorem atE_ok {v : Int} {l : List S42} {p n : Int} (h : atE v l p n = 0) : good v l ∧ okAt l p n := by
  unfold atE at h
  by_cases g : good v l
  · rw [if_pos g] at h
    by_cases o : okAt l p n
    · exact ⟨g, o⟩
    · rw [if_neg o] at h; omega
  · rw [if_neg g] at h; omega
theorem atE_in {v : Int} {l : List S42} {p n : Int} (g : good v l) (o : okAt l p n) : atE v l p n = 0 := by unfold atE; rw [if_pos g, if_pos o]
theorem pget_in {v : Int} {l : List S42} {p n : Int} (hl : l.length ≤ 2100) {k : Nat} (hk : 50000 ≤ k) : slots_Get.f k v l p n = some (if atE v l p n = 0 then (stAt l p n, 0) else (0, atE v l p n)) := by
  unfold slots_Get.f
  rw [pat_in hl hk, Option.bind_some]
  by_cases e : atE v l p n = 0
  · have o := (atE_ok e).2
    unfold okAt at o
    rw [if_pos e, if_pos e, w64 (by omega), if_pos (by omega), if_pos (by omega), if_pos (by omega), if_pos (by omega)]; rfl
  · rw [if_neg e, if_neg e]
def setA (v : Int) (l : List S42) (p n s : Int) : Int × List S42 × Int := if atE v l p n = 0 then (if s ≥ 193 then (0, [], 2) else (v, wth l p n s, 0)) else (0, [], atE v l p n)
theorem pset_in {v : Int} {l : List S42} {p n s : Int} (hl : l.length ≤ 2100) {k : Nat} (hk : 50000 ≤ k) : slots_Set.f k v l p n s = some (setA v l p n s) := by
  unfold slots_Set.f setA
  rw [pat_in hl hk, Option.bind_some]
  by_cases e : atE v l p n = 0
  · have o := (atE_ok e).2
    unfold okAt at o
    rw [if_pos e, if_pos e]
    by_cases x : s ≥ 193
    · rw [if_pos x, if_pos x]
    · unfold slices_Clone_api_Slot_api_Slot.f
      rw [if_neg x, if_neg x, if_pos (by omega), Option.bind_some, w64 (by omega), if_pos (by omega), if_pos (by omega), if_pos (by omega), if_pos (by omega)]; rfl
  · rw [if_neg e, if_neg e]
theorem sts_bd {v : Int} {l : List S42} (g : good v l) (hw : ∀ s ∈ l, wf42 s) {p n : Int} (o : okAt l p n) : 0 ≤ stAt l p n ∧ stAt l p n ≤ 192 := by
  unfold okAt at o
  have m := rt_mem o.1 o.2.1
  have w := (hw _ m).2
  have b := g.2 _ m
  have hm : stAt l p n ∈ sts (rd_T42 l p) := by
    obtain ⟨q, hq⟩ := Int.eq_ofNat_of_zero_le (show 0 ≤ n - 1 by omega)
    unfold stAt
    have e : rd (sts (rd_T42 l p)) (n - 1) = (sts (rd_T42 l p))[q]'(by rw [sts_len]; omega) := by
      rw [hq, rd, Int.toNat_natCast, List.getD_eq_getElem?_getD, List.getElem?_eq_getElem (by rw [sts_len]; omega)]; rfl
    rw [e]
    exact List.getElem_mem _
  have h := b _ hm
  have all : ∀ x ∈ sts (rd_T42 l p), 0 ≤ x := by
    unfold wf40 at w
    obtain ⟨w0, w1, w2, w3, w4, w5, w6, w7, w8, w9, wa, wb, wc, wd, we⟩ := w
    intro x hx
    simp only [sts, List.mem_cons, List.not_mem_nil, or_false] at hx
    rcases hx with h | h | h | h | h | h | h | h | h | h | h | h | h | h | h <;> subst h
    all_goals first | exact (u8_in w0).1 | exact (u8_in w1).1 | exact (u8_in w2).1 | exact (u8_in w3).1 | exact (u8_in w4).1 | exact (u8_in w5).1 | exact (u8_in w6).1 | exact (u8_in w7).1 | exact (u8_in w8).1 | exact (u8_in w9).1 | exact (u8_in wa).1 | exact (u8_in wb).1 | exact (u8_in wc).1 | exact (u8_in wd).1 | exact (u8_in we).1
  exact ⟨all _ hm, by omega⟩
/-- The state after a bit. -/
def thn (s d : Int) : Int := num (nxt (cnt s).1 (cnt s).2.1 d).1 (nxt (cnt s).1 (cnt s).2.1 d).2.1 (nxt (cnt s).1 (cnt s).2.1 d).2.2
theorem thn_bd {s d : Int} (h0 : 0 ≤ s) (h1 : s ≤ 192) : 0 ≤ thn s d ∧ thn s d ≤ 192 := by
  have v := (cnt_valid h0 h1).bounds
  exact num_bounds (next_valid v.1 v.2.1 v.2.2.1 v.2.2.2.1)
def bitA (v : Int) (l : List S42) (p n d : Int) : Int × List S42 × Int := if atE v l p n = 0 then (if d > 1 then (0, [], 2) else (v, wth l p n (thn (stAt l p n) d), 0)) else (0, [], atE v l p n)
theorem pbit_in {v : Int} {l : List S42} {p n d : Int} (hl : l.length ≤ 2100) (hw : ∀ s ∈ l, wf42 s) (hd : 0 ≤ d) {k : Nat} (hk : 50000 ≤ k) : slots_Bit.f k v l p n d = some (bitA v l p n d) := by
  unfold slots_Bit.f bitA
  rw [pget_in hl hk, Option.bind_some]
  by_cases e : atE v l p n = 0
  · have go := atE_ok e
    have b := sts_bd go.1 hw go.2
    rw [if_pos e, if_pos e]
    dsimp only
    rw [if_pos rfl]
    by_cases x : d > 1
    · rw [snext_far b.1 (by omega) hd (Or.inr x) k (by omega), Option.bind_some, if_neg (by decide), if_pos x]
    · have t := thn_bd (d := d) b.1 b.2
      rw [snext_is b.1 b.2 (by omega) k (by omega), Option.bind_some]
      dsimp only
      rw [if_pos rfl, pset_in hl hk, Option.bind_some, if_neg x]
      show some ((setA v l p n (thn (stAt l p n) d)).1, (setA v l p n (thn (stAt l p n) d)).2.1, (setA v l p n (thn (stAt l p n) d)).2.2) = _
      unfold setA
      rw [if_pos e, if_neg (by omega)]
  · rw [if_neg e, if_neg e]
    dsimp only
    rw [if_neg e]
theorem rat_in {v : Int} {l : List S42} {p n : Int} (hl : l.length ≤ 2100) {k : Nat} (hk : 50000 ≤ k) : bitloftref11_At.f k v l p n = some (atE v l p n) := by
  unfold bitloftref11_At.f atE
  rw [rchk (by omega) (by omega), Option.bind_some]
  by_cases g : good v l
  · rw [if_pos g, if_pos rfl, at_ite, if_pos g]
  · rw [if_neg g, if_neg (by decide), if_neg g]
theorem fnd_len (l : List S42) (h : Int) : (fnd l h).length = l.length := by
  unfold fnd
  split
  · rfl
  · exact List.length_set
theorem rt_set {l : List S42} {p i : Int} (x : S42) (h0 : 0 ≤ p) (h1 : p < l.length) (h2 : 0 ≤ i) (h3 : i < l.length) : rd_T42 (l.set p.toNat x) i = if i = p then x else rd_T42 l i := by
  obtain ⟨n, rfl⟩ := Int.eq_ofNat_of_zero_le h0
  obtain ⟨m, rfl⟩ := Int.eq_ofNat_of_zero_le h2
  simp only [rd_T42, Int.toNat_natCast, List.getD_eq_getElem?_getD]
  by_cases e : (m : Int) = (n : Int)
  · have : m = n := by omega
    subst this
    rw [if_pos rfl, List.getElem?_set_self (by omega)]; rfl
  · rw [if_neg e, List.getElem?_set_ne (by omega)]
theorem bs_bs {p : Int} (h : 0 ≤ p) : bs (bs p) = p := by unfold bs; split <;> split <;> omega
theorem bs_half {p : Int} (h : 0 ≤ p) : bs p / 2 = p / 2 := by unfold bs; split <;> omega
theorem bs_ne (p : Int) : bs p ≠ p := by unfold bs; split <;> omega
theorem u32_in {x : Int} (h : (Lit.int .u32 x).wf = true) : 0 ≤ x ∧ x < 4294967296 := by
  simp only [Lit.wf, IntKind.min, IntKind.max, IntKind.signed, IntKind.bits, Bool.and_eq_true] at h
  simp at h
  omega
theorem u8_wf {x : Int} (h0 : 0 ≤ x) (h1 : x ≤ 255) : (Lit.int .u8 x).wf = true := by
  simp only [Lit.wf, IntKind.min, IntKind.max, IntKind.signed, IntKind.bits, Bool.and_eq_true]
  simp
  omega
theorem wf_to (x : S40) : wf40 x ↔ ∀ y ∈ to40 x, (Lit.int .u8 y).wf = true := by
  simp only [wf40, to40, List.forall_mem_cons, List.not_mem_nil, false_imp_iff, implies_true, and_true]
theorem to_of {L : List Int} (h : L.length = 15) : to40 (of40 L) = L := by
  match L, h with
  | [_, _, _, _, _, _, _, _, _, _, _, _, _, _, _], _ => rfl
theorem to_upd (x : S40) (i v : Int) : to40 (upd40 x i v) = (to40 x).set i.toNat v := by
  unfold upd40
  exact to_of (by rw [List.length_set]; rfl)
theorem sts_to (s : S42) : sts s = to40 s.f1 := rfl
theorem wf_upd {x : S40} (h : wf40 x) {i v : Int} (hv : (Lit.int .u8 v).wf = true) : wf40 (upd40 x i v) := by
  rw [wf_to] at h ⊢
  intro y hy
  rw [to_upd] at hy
  rcases List.mem_or_eq_of_mem_set hy with m | e
  · exact h y m
  · rw [e]; exact hv
theorem wf_set {l : List S42} {n : Nat} {x : S42} (h : ∀ s ∈ l, wf42 s) (hx : wf42 x) : ∀ s ∈ l.set n x, wf42 s := by
  intro s hs
  rcases List.mem_or_eq_of_mem_set hs with m | e
  · exact h s m
  · rw [e]; exact hx
theorem good_set {v : Int} {l : List S42} {n : Nat} {x : S42} (g : good v l) (hx : okS x) : good v (l.set n x) := by
  refine ⟨by rw [List.length_set]; exact g.1, ?_⟩
  intro s hs
  rcases List.mem_or_eq_of_mem_set hs with m | e
  · exact g.2 s m
  · rw [e]; exact hx
theorem wth_wf {l : List S42} (hw : ∀ s ∈ l, wf42 s) {p n s : Int} (o : okAt l p n) (h0 : 0 ≤ s) (h1 : s ≤ 192) : ∀ s_ ∈ wth l p n s, wf42 s_ := by
  have m := hw _ (rt_mem o.1 o.2.1)
  exact wf_set hw ⟨m.1, wf_upd m.2 (u8_wf h0 (by omega))⟩
theorem wth_good {v : Int} {l : List S42} (g : good v l) {p n s : Int} (o : okAt l p n) (h1 : s ≤ 192) : good v (wth l p n s) := by
  have m := g.2 _ (rt_mem o.1 o.2.1)
  refine good_set g ?_
  intro y hy
  rw [sts_to] at hy
  dsimp only at hy
  rw [to_upd] at hy
  rcases List.mem_or_eq_of_mem_set hy with q | e
  · exact m y q
  · rw [e]; omega
theorem wth_len (l : List S42) (p n s : Int) : (wth l p n s).length = l.length := List.length_set
theorem wth_check {l : List S42} {p n s i : Int} (o : okAt l p n) (h0 : 0 ≤ i) (h1 : i < l.length) : (rd_T42 (wth l p n s) i).f0 = (rd_T42 l i).f0 := by
  unfold wth
  rw [rt_set _ o.1 o.2.1 h0 h1]
  by_cases e : i = p
  · rw [if_pos e, e]
  · rw [if_neg e]
theorem alive_holds {k : Nat} (h : 400 ≤ k) : bitloftlaw11_alive.f k = some true := at_rounds bitloftlaw11_alive.mono h (by decide +kernel)
theorem rd_set {L : List Int} {i k v : Int} (h0 : 0 ≤ i) (h1 : i < L.length) (k0 : 0 ≤ k) : rd (L.set i.toNat v) k = if k = i then v else rd L k := by
  obtain ⟨m, rfl⟩ := Int.eq_ofNat_of_zero_le h0
  obtain ⟨q, rfl⟩ := Int.eq_ofNat_of_zero_le k0
  simp only [rd, Int.toNat_natCast, List.getD_eq_getElem?_getD]
  by_cases e : (q : Int) = (m : Int)
  · have : q = m := by omega
    subst this
    rw [if_pos rfl, List.getElem?_set_self (by omega)]; rfl
  · rw [if_neg e, List.getElem?_set_ne (by omega)]
theorem to_len (x : S40) : (to40 x).length = 15 := rfl
theorem of_to (x : S40) : of40 (to40 x) = x := rfl
theorem st_wth {l : List S42} {p n s : Int} (o : okAt l p n) : stAt (wth l p n s) p n = s := by
  unfold okAt at o
  unfold stAt wth
  rw [rt_set _ o.1 o.2.1 o.1 o.2.1, if_pos rfl, sts_to]
  dsimp only
  rw [to_upd, rd_set (by omega) (by rw [to_len]; omega) (by omega), if_pos rfl]
theorem upd_back (x : S40) {i s : Int} (h0 : 0 ≤ i) (h1 : i < 15) : upd40 (upd40 x i s) i (rd (to40 x) i) = x := by
  have e : upd40 (upd40 x i s) i (rd (to40 x) i) = of40 ((to40 (upd40 x i s)).set i.toNat (rd (to40 x) i)) := rfl
  obtain ⟨m, rfl⟩ := Int.eq_ofNat_of_zero_le h0
  rw [e, to_upd, List.set_set, Int.toNat_natCast]
  have : (to40 x).set m (rd (to40 x) (m : Int)) = to40 x := by
    have hm : m < (to40 x).length := by rw [to_len]; omega
    have g : rd (to40 x) (m : Int) = (to40 x)[m] := by simp [rd, List.getD_eq_getElem?_getD, hm]
    rw [g, List.set_getElem_self]
  rw [this, of_to]
theorem wth_len' (l : List S42) (p n s : Int) : (wth l p n s).length = l.length := wth_len l p n s
theorem ok_wth {l : List S42} {p n s : Int} (o : okAt l p n) : okAt (wth l p n s) p n := by
  unfold okAt at o ⊢
  rw [wth_len]; exact o
theorem wth_back {l : List S42} {p n s : Int} (o : okAt l p n) : wth (wth l p n s) p n (stAt l p n) = l := by
  have oo := o
  unfold okAt at o
  have e : wth (wth l p n s) p n (stAt l p n) = (wth l p n s).set p.toNat ⟨(rd_T42 (wth l p n s) p).f0, upd40 (rd_T42 (wth l p n s) p).f1 (n - 1) (stAt l p n)⟩ := rfl
  rw [e, wth_check oo o.1 o.2.1]
  have g : (rd_T42 (wth l p n s) p).f1 = upd40 (rd_T42 l p).f1 (n - 1) s := by
    unfold wth
    rw [rt_set _ o.1 o.2.1 o.1 o.2.1, if_pos rfl]
  rw [g, show stAt l p n = rd (to40 (rd_T42 l p).f1) (n - 1) from rfl, upd_back _ (by omega) (by omega)]
  unfold wth
  rw [List.set_set]
  obtain ⟨m, hm⟩ := Int.eq_ofNat_of_zero_le o.1
  have hl : m < l.length := by omega
  have r : rd_T42 l p = l[m] := by rw [hm]; simp [rd_T42, List.getD_eq_getElem?_getD, hl]
  rw [r, hm, Int.toNat_natCast]
  exact List.set_getElem_self hl
theorem only_st {l : List S42} {p n s : Int} (o : okAt l p n) {i k : Int} (hi0 : 0 ≤ i) (hi : i < l.length) (hk0 : 0 ≤ k) : (i = p ∧ k = n - 1) ∨ rd (to40 (rd_T42 (wth l p n s) i).f1) k = rd (to40 (rd_T42 l i).f1) k := by
  have oo := o
  unfold okAt at o
  unfold wth
  rw [rt_set _ o.1 o.2.1 hi0 hi]
  by_cases e : i = p
  · rw [if_pos e]
    dsimp only
    rw [to_upd, rd_set (by omega) (by rw [to_len]; omega) hk0]
    by_cases f : k = n - 1
    · exact Or.inl ⟨e, f⟩
    · rw [if_neg f, e]; exact Or.inr rfl
  · rw [if_neg e]; exact Or.inr rfl
theorem only_l1 {v p n s d : Int} {l u : List S42} (hl : l.length ≤ 2100) (hu : u.length = l.length) (hn0 : 1 ≤ n) (hn1 : n ≤ 15) {i : Nat} (hi : i < l.length)
    (hc : (rd_T42 u (i : Int)).f0 = (rd_T42 l (i : Int)).f0) (hr : ∀ k : Int, 0 ≤ k → ((i : Int) = p ∧ k = n - 1) ∨ rd (to40 (rd_T42 u (i : Int)).f1) k = rd (to40 (rd_T42 l (i : Int)).f1) k)
    {R : Option Bool} {K0 : Nat} (hR : ∀ k, K0 ≤ k → bitloftlaw11_SlotsOnly.l0 k p n s d ((i + 1 : Nat) : Int) v l v u = R) (e : Nat) :
    ∀ (k j : Nat), j + e = 15 → K0 + 2 * e < k → bitloftlaw11_SlotsOnly.l1 k p n s d (i : Int) (j : Int) v l v u = R := by
  induction e with
  | zero =>
    intro k j hd hk
    obtain ⟨k, rfl⟩ : ∃ q, k = q + 1 := ⟨k - 1, by omega⟩
    rw [bitloftlaw11_SlotsOnly.l1, if_neg (by omega), w64 (by omega)]
    exact hR k (by omega)
  | succ e ih =>
    intro k j hd hk
    obtain ⟨k, rfl⟩ : ∃ q, k = q + 1 + 1 := ⟨k - 2, by omega⟩
    have nx := ih k (j + 1) (by omega) (by omega)
    have j4 : bitloftlaw11_SlotsOnly.j4 (k + 1) p n s d (i : Int) (j : Int) false v l v u = R := by
      rw [bitloftlaw11_SlotsOnly.j4, if_neg (by decide), w64 (by omega)]
      exact nx
    rw [bitloftlaw11_SlotsOnly.l1, if_pos (by omega), w64 (x := n - 1) (by omega), hc, bne_self_eq_false]
    by_cases a : (i : Int) = p
    · rw [if_pos a]
      by_cases b : (j : Int) = n - 1
      · rw [if_pos b, if_pos (by omega), if_pos (by omega), if_pos (by omega)]
        exact j4
      · rw [if_neg b, if_pos (by omega), if_pos (by omega), if_pos (by omega), if_pos (by omega)]
        rcases hr (j : Int) (by omega) with h | h
        · exact absurd h.2 b
        · rw [if_pos h]; exact j4
    · rw [if_neg a, if_pos (by omega), if_pos (by omega), if_pos (by omega), if_pos (by omega)]
      rcases hr (j : Int) (by omega) with h | h
      · exact absurd h.1 a
      · rw [if_pos h]; exact j4
theorem only_l0 {v p n s d : Int} {l u : List S42} (hl : l.length ≤ 2100) (hu : u.length = l.length) (hn0 : 1 ≤ n) (hn1 : n ≤ 15)
    (hc : ∀ i : Int, 0 ≤ i → i < l.length → (rd_T42 u i).f0 = (rd_T42 l i).f0) (hr : ∀ i k : Int, 0 ≤ i → i < l.length → 0 ≤ k → (i = p ∧ k = n - 1) ∨ rd (to40 (rd_T42 u i).f1) k = rd (to40 (rd_T42 l i).f1) k)
    {R : Option Bool} {K0 : Nat} (hR : ∀ k, K0 ≤ k → bitloftlaw11_SlotsOnly.l0 k p n s d (l.length : Int) v l v u = R) (e : Nat) :
    ∀ (k i : Nat), i + e = l.length → K0 + 40 * e ≤ k → bitloftlaw11_SlotsOnly.l0 k p n s d (i : Int) v l v u = R := by
  induction e with
  | zero =>
    intro k i hd hk
    have : i = l.length := by omega
    subst this
    exact hR k (by omega)
  | succ e ih =>
    intro k i hd hk
    obtain ⟨k, rfl⟩ : ∃ q, k = q + 1 := ⟨k - 1, by omega⟩
    rw [bitloftlaw11_SlotsOnly.l0, if_pos (by omega)]
    exact only_l1 hl hu hn0 hn1 (by omega) (hc i (by omega) (by omega)) (fun k hk => hr i k (by omega) (by omega) hk) (K0 := K0 + 40 * e) (fun q hq => ih q (i + 1) (by omega) (by omega)) 15 k 0 (by omega) (by omega)
theorem SlotsOnly : bitloftlaw11_SlotsOnly.Pure := by
  intro v l p n s d _ _ hw hp hn hs hd
  have hs0 := u8_in hs
  have hd0 := u8_in hd
  obtain ⟨K, hK⟩ : ∃ K : Nat, K = 200000 := ⟨_, rfl⟩
  refine ⟨K, ?_⟩
  have dead : ∀ q, 500 ≤ q → bitloftlaw11_SlotsOnly.j0 q p n s d true v l = some true := by
    intro q hq
    obtain ⟨q, rfl⟩ : ∃ r, q = r + 1 := ⟨q - 1, by omega⟩
    rw [bitloftlaw11_SlotsOnly.j0, if_pos rfl, alive_holds (by omega), Option.bind_some]
  unfold bitloftlaw11_SlotsOnly.f bitloftlaw11_fit.f bitloftref11_Great.f
  rw [Option.bind_some]
  by_cases gr : l.length > 2100
  · rw [if_pos (by rw [decide_eq_true_eq]; omega), Option.bind_some, if_neg (by decide), dead K (by omega)]
  · have hl : l.length ≤ 2100 := by omega
    rw [if_neg (by rw [decide_eq_true_eq]; omega), rchk (by omega) (by omega), Option.bind_some, Option.bind_some]
    by_cases g : good v l
    · rw [if_pos g, if_pos (by decide), rat_in hl (by omega), Option.bind_some]
      by_cases a : atE v l p n = 0
      · have o := (atE_ok a).2
        have oo := o
        unfold okAt at oo
        rw [if_pos a]
        unfold bitloftref08_State.f
        rw [Option.bind_some]
        by_cases b : s < 193
        · rw [if_pos (by simpa using b)]
          by_cases c : d > 1
          · rw [show decide (d > 1) = true from by simpa using c, dead K (by omega)]
          · rw [show decide (d > 1) = false from by simpa using c]
            obtain ⟨k, rfl⟩ : ∃ r, K = r + 1 := ⟨K - 1, by omega⟩
            have ug := wth_good g o (s := s) (by omega)
            have uw := wth_wf hw o (s := s) hs0.1 (by omega)
            have ul := wth_len l p n s
            have uo := ok_wth (s := s) o
            have ua := atE_in ug uo
            have sb := sts_bd g hw o
            have s1 : slots_Set.f k v l p n s = some (v, wth l p n s, 0) := by
              rw [pset_in hl (by omega)]; unfold setA; rw [if_pos a, if_neg (by omega)]
            have g1 : slots_Get.f k v (wth l p n s) p n = some (s, 0) := by
              rw [pget_in (by omega) (by omega), if_pos ua, st_wth o]
            have s2 : slots_Set.f k v (wth l p n s) p n (rd (to40 (rd_T42 l p).f1) (wrap64 (n - 1))) = some (v, l, 0) := by
              rw [w64 (by omega), show rd (to40 (rd_T42 l p).f1) (n - 1) = stAt l p n from rfl, pset_in (by omega) (by omega)]; unfold setA; rw [if_pos ua, if_neg (by omega), wth_back o]
            rw [bitloftlaw11_SlotsOnly.j0, if_neg (by decide), s1, Option.bind_some]
            dsimp only
            rw [g1, Option.bind_some, if_pos (by omega), if_pos (by omega), if_pos (by rw [w64 (by omega)]; omega), if_pos (by rw [w64 (by omega)]; omega), s2, Option.bind_some]
            dsimp only
            rw [if_pos rfl, if_pos rfl, if_pos rfl, if_pos rfl, same_in (by omega) (by omega), Option.bind_some, if_pos rfl, if_pos (by rw [ul]), bne_self_eq_false]
            obtain ⟨k, rfl⟩ : ∃ r, k = r + 1 := ⟨k - 1, by omega⟩
            rw [bitloftlaw11_SlotsOnly.j1, if_neg (by decide)]
            refine only_l0 hl ul (by omega) (by omega) (fun i h0 h1 => wth_check o h0 h1) (fun i k h0 h1 h2 => only_st o h0 h1 h2) (K0 := 60000) ?_ l.length k 0 (by omega) (by omega)
            intro q hq
            obtain ⟨q, rfl⟩ : ∃ r, q = r + 1 + 1 := ⟨q - 2, by omega⟩
            have tb := thn_bd (d := d) hs0.1 (show s ≤ 192 by omega)
            have nx : states_Next.f (q + 1) s d = some (thn s d, 0) := snext_is hs0.1 (by omega) (by omega) (q + 1) (by omega)
            have b1 : slots_Bit.f (q + 1) v (wth l p n s) p n d = some (v, wth (wth l p n s) p n (thn s d), 0) := by
              rw [pbit_in (by omega) uw hd0.1 (by omega)]; unfold bitA; rw [if_pos ua, if_neg c, st_wth o]
            have s3 : slots_Set.f (q + 1) v (wth l p n s) p n (thn s d) = some (v, wth (wth l p n s) p n (thn s d), 0) := by
              rw [pset_in (by omega) (by omega)]; unfold setA; rw [if_pos ua, if_neg (by omega)]
            have wl2 := wth_len (wth l p n s) p n (thn s d)
            rw [bitloftlaw11_SlotsOnly.l0, if_neg (by omega), nx, Option.bind_some, b1, Option.bind_some]
            dsimp only
            rw [s3, Option.bind_some]
            dsimp only
            rw [if_pos rfl, if_pos rfl, if_pos rfl, same_in (by omega) (by omega), Option.bind_some, if_pos rfl, alive_holds (by omega), Option.bind_some]
            rfl
        · rw [if_neg (by simpa using b), dead K (by omega)]
      · rw [if_neg a, dead K (by omega)]
    · rw [if_neg g, if_neg (by decide), dead K (by omega)]
end Go.Proofs.Ytaomhenneenaaaa.Pure
