/- The kept functions New, Check, P and Update tell what the reference tells, for all maps of at most 300 numbers, and leave the map as it is. -/
import Derived.Test.YtmncppbhnjngkaaDoorXAdaptMakesx5
import Derived.OpenShut
set_option linter.unusedVariables false
set_option linter.unusedSimpArgs false
namespace Go.Proofs.YtmncppbhnjngkaaDoor.Pure
open Go.RowKit Go.Proofs.YtmncppbhnjngkaaDoor.XAdaptMakes Go.Proofs.YtmncppbhnjngkaaDoorW.PrintWords Go.Proofs.YtmncppbhnjngkaaDoorW.PrintLast
/-! What a quotient by a reciprocal is. -/
theorem w32 {x : Int} (h : -2147483648 ≤ x ∧ x ≤ 2147483647) : wrap32 x = x := by unfold wrap32; omega
theorem w64 {x : Int} (h : -9223372036854775808 ≤ x ∧ x ≤ 9223372036854775807) : wrap64 x = x := by unfold wrap64; omega
theorem rc_bounds {n : Int} (h1 : 1 ≤ n) (h2 : n ≤ 1024) : 64 ≤ 65536 / n ∧ 65536 / n ≤ 65536 ∧ 65536 / n * n ≤ 65536 ∧ 65536 < (65536 / n + 1) * n := by
  have hn : (0 : Int) < n := by omega
  have e1 : n * (65536 / n) + 65536 % n = 65536 := Int.mul_ediv_add_emod ..
  have e2 : 0 ≤ 65536 % n := Int.emod_nonneg _ (by omega)
  have e3 : 65536 % n < n := Int.emod_lt_of_pos _ hn
  have e4 : (65536 / n + 1) * n = 65536 / n * n + n := by rw [Int.add_mul, Int.one_mul]
  have e5 : 65536 / n * n = n * (65536 / n) := Int.mul_comm ..
  refine ⟨?_, ?_, by omega, by omega⟩
  · exact (Int.le_ediv_iff_mul_le hn).mpr (by omega)
  · exact Int.ediv_le_self _ (by omega)
theorem prod_bounds {x r : Int} (h1 : -2147483648 ≤ x) (h2 : x ≤ 2147483647) (r0 : 0 ≤ r) (r1 : r ≤ 65536) : -140737488355328 ≤ x * r ∧ x * r ≤ 140737488289792 := by
  constructor
  · have a : -2147483648 * r ≤ x * r := Int.mul_le_mul_of_nonneg_right h1 r0
    omega
  · have a : x * r ≤ 2147483647 * r := Int.mul_le_mul_of_nonneg_right h2 r0
    omega
/-- the quotient -/
def quo (x n : Int) : Int := x * (65536 / n) / 65536
theorem quo_bounds {x n : Int} (h1 : -2147483648 ≤ x) (h2 : x ≤ 2147483647) (n1 : 1 ≤ n) (n2 : n ≤ 1024) : -2147483648 ≤ quo x n ∧ quo x n ≤ 2147483647 := by
  have b := rc_bounds n1 n2
  have c := prod_bounds h1 h2 (r := 65536 / n) (by omega) b.2.1
  unfold quo
  omega
theorem of_in {n : Int} (n1 : 1 ≤ n) (n2 : n ≤ 1024) : recip_Of.f n = some (65536 / n, 0) := by
  have b := rc_bounds n1 n2
  unfold recip_Of.f
  rw [if_neg (by omega), if_neg (by omega), if_neg (by omega), Int.tdiv_eq_ediv_of_nonneg (by decide), w32 (by omega)]
theorem of_out {n : Int} (h : n < 1 ∨ 1024 < n) : recip_Of.f n = some (0, 2) := by
  unfold recip_Of.f
  by_cases c : n < 1
  · rw [if_pos c]
  · rw [if_neg c, if_pos (by omega)]
theorem div_in {x n : Int} (h1 : -2147483648 ≤ x) (h2 : x ≤ 2147483647) (n1 : 1 ≤ n) (n2 : n ≤ 1024) : recip_Div.f x n = some (quo x n, 0) := by
  have b := rc_bounds n1 n2
  have c := prod_bounds h1 h2 (r := 65536 / n) (by omega) b.2.1
  have q := quo_bounds h1 h2 n1 n2
  unfold recip_Div.f
  rw [of_in n1 n2]
  simp only [Option.bind_some, if_true]
  rw [w64 (x := x) (by omega), w64 (x := 65536 / n) (by omega), w64 (by omega), w32 (by unfold quo at q; omega)]
  rfl
theorem div_out {x n : Int} (h : n < 1 ∨ 1024 < n) : recip_Div.f x n = some (0, 2) := by
  unfold recip_Div.f
  rw [of_out h]
  rfl
theorem step_in {p t n : Int} (k : Nat) (p0 : 0 ≤ p) (p1 : p < 65536) (t0 : 0 ≤ t) (t1 : t < 65536) (n1 : 1 ≤ n) (n2 : n ≤ 1024) : recip_Step.f (k + 1) p t n = some (wrap32 (p + quo (t - p) n), 0) := by
  unfold recip_Step.f
  have a : ¬ mn p t < 0 := by unfold mn; split <;> omega
  have b : ¬ mx p t ≥ 65536 := by unfold mx; split <;> omega
  rw [if_neg a, decide_eq_false b]
  simp only [recip_Step.j0]
  rw [if_neg (by decide), w32 (x := t - p) (by omega), div_in (by omega) (by omega) n1 n2]
  rfl
theorem step_out {p t n : Int} (k : Nat) (h : p < 0 ∨ 65536 ≤ p ∨ t < 0 ∨ 65536 ≤ t ∨ n < 1 ∨ 1024 < n) : recip_Step.f (k + 1) p t n = some (0, 2) := by
  unfold recip_Step.f
  by_cases a : mn p t < 0
  · rw [if_pos a]
    simp only [recip_Step.j0, if_true]
  · rw [if_neg a]
    by_cases b : mx p t ≥ 65536
    · rw [decide_eq_true b]
      simp only [recip_Step.j0, if_true]
    · rw [decide_eq_false b]
      simp only [recip_Step.j0]
      rw [if_neg (by decide), div_out]
      · rfl
      · unfold mn at a; unfold mx at b; split at a <;> split at b <;> omega
theorem next_in {p t n : Int} (p0 : 0 ≤ p) (p1 : p < 65536) (t0 : 0 ≤ t) (t1 : t < 65536) (n1 : 1 ≤ n) (n2 : n ≤ 1024) :
    (mn p t ≤ p + quo (t - p) n ∧ p + quo (t - p) n ≤ mx p t) ∧ (n = 1 → p + quo (t - p) n = t) ∧ (t < p → p + quo (t - p) n ≠ p) := by
  have b := rc_bounds n1 n2
  unfold quo
  by_cases c : t < p
  · have a1 : (t - p) * 65536 ≤ (t - p) * (65536 / n) := Int.mul_le_mul_of_nonpos_left (by omega) b.2.1
    have a2 : (t - p) * (65536 / n) ≤ (t - p) * 64 := Int.mul_le_mul_of_nonpos_left (by omega) b.1
    refine ⟨⟨?_, ?_⟩, ?_, fun _ => ?_⟩
    · unfold mn; split <;> omega
    · unfold mx; split <;> omega
    · intro h; subst h; simp only [show (65536 : Int) / 1 = 65536 from rfl]; omega
    · omega
  · have a1 : (t - p) * (65536 / n) ≤ (t - p) * 65536 := Int.mul_le_mul_of_nonneg_left b.2.1 (by omega)
    have a2 : (t - p) * 64 ≤ (t - p) * (65536 / n) := Int.mul_le_mul_of_nonneg_left b.1 (by omega)
    refine ⟨⟨?_, ?_⟩, ?_, fun h => absurd h c⟩
    · unfold mn; split <;> omega
    · unfold mx; split <;> omega
    · intro h; subst h; simp only [show (65536 : Int) / 1 = 65536 from rfl]; omega
theorem prob (n : Int) : bitloftref05_Prob.f n = some (decide (0 ≤ n ∧ n < 65536)) := by
  unfold bitloftref05_Prob.f
  split
  · congr 1; simp; omega
  · congr 1; simp; omega
theorem floor_in {x : Int} (h1 : -140737488355328 ≤ x) (h2 : x ≤ 140737488355328) : bitloftref05_Floor.f x 65536 = some (x / 65536) := by
  have e : x.tdiv 65536 = if 0 ≤ x then x / 65536 else -((-x) / 65536) := by
    split
    · exact Int.tdiv_eq_ediv_of_nonneg (by omega)
    · have := Int.neg_tdiv x 65536
      have h := Int.tdiv_eq_ediv_of_nonneg (a := -x) (b := 65536) (by omega)
      omega
  unfold bitloftref05_Floor.f
  rw [if_neg (by decide), e]
  split <;> rename_i c
  · rw [w64 (x := x / 65536) (by omega), w64 (by omega), if_neg (by omega)]
  · rw [w64 (x := -(-x / 65536)) (by omega), w64 (x := -(-x / 65536) * 65536) (by omega)]
    split
    · rw [w64 (by omega)]; congr 1; omega
    · congr 1; omega
theorem value_in {n : Int} (n1 : 1 ≤ n) (n2 : n ≤ 1024) : bitloftref05_Value.f n = some (65536 / n) := by
  have b := rc_bounds n1 n2
  unfold bitloftref05_Value.f
  rw [if_neg (by omega), Int.tdiv_eq_ediv_of_nonneg (by decide), w32 (by omega), w64 (by omega)]
theorem quotient_in {x n : Int} (h1 : -2147483648 ≤ x) (h2 : x ≤ 2147483647) (n1 : 1 ≤ n) (n2 : n ≤ 1024) : bitloftref05_Quotient.f x n = some (quo x n) := by
  have b := rc_bounds n1 n2
  have c := prod_bounds h1 h2 (r := 65536 / n) (by omega) b.2.1
  have q := quo_bounds h1 h2 n1 n2
  unfold bitloftref05_Quotient.f
  rw [value_in n1 n2]
  simp only [Option.bind_some]
  rw [w64 (x := x) (by omega), w64 (by omega), floor_in (by omega) (by omega)]
  simp only [Option.bind_some]
  rw [w32 (by unfold quo at q; omega)]
  rfl
theorem adrop_rd {l : List Int} {i : Nat} (h : i < l.length) : l.drop i = rd l (i : Int) :: l.drop (i + 1) := by
  have e : rd l (i : Int) = l[i] := by simp [rd, List.getD_eq_getElem?_getD, h]
  rw [e]
  exact List.drop_eq_getElem_cons h
theorem ard_mem {l : List Int} {i : Int} (h0 : 0 ≤ i) (h : i < l.length) : rd l i ∈ l := by
  obtain ⟨n, rfl⟩ := Int.eq_ofNat_of_zero_le h0
  have e : rd l (n : Int) = l[n]'(by omega) := by simp [rd, List.getD_eq_getElem?_getD, show n < l.length by omega]
  rw [e]
  exact List.getElem_mem _
theorem amin_go {l : List Int} (hl : l.length ≤ 1000) (d : Nat) : ∀ (k i : Nat) (m : Int), i + d = l.length → d < k → ∃ r, slices_Min_int32_int32.l0 k l m (i : Int) = some r ∧ (r < 0 ↔ ¬ (0 ≤ m ∧ ∀ x ∈ l.drop i, 0 ≤ x)) := by
  induction d with
  | zero =>
    intro k i m hd hk
    obtain ⟨k, rfl⟩ : ∃ q, k = q + 1 := ⟨k - 1, by omega⟩
    refine ⟨m, ?_, ?_⟩
    · simp only [slices_Min_int32_int32.l0]
      rw [if_neg (by omega)]
    · rw [List.drop_of_length_le (by omega)]
      simp
  | succ d ih =>
    intro k i m hd hk
    obtain ⟨k, rfl⟩ : ∃ q, k = q + 1 := ⟨k - 1, by omega⟩
    obtain ⟨r, h1, h2⟩ := ih k (i + 1) (mn m (rd l (i : Int))) (by omega) (by omega)
    refine ⟨r, ?_, ?_⟩
    · simp only [slices_Min_int32_int32.l0]
      rw [if_pos (by omega), if_pos (by omega), w64 (by omega)]
      exact h1
    · rw [h2, adrop_rd (l := l) (i := i) (by omega), List.forall_mem_cons]
      have : 0 ≤ mn m (rd l (i : Int)) ↔ 0 ≤ m ∧ 0 ≤ rd l (i : Int) := by unfold mn; split <;> omega
      rw [this, and_assoc]
theorem amax_go {l : List Int} (hl : l.length ≤ 1000) (a : Int) (d : Nat) : ∀ (k i : Nat) (m : Int), i + d = l.length → d < k → ∃ r, slices_Max_int32_int32.l0 k l m (i : Int) = some r ∧ (r > a ↔ ¬ (m ≤ a ∧ ∀ x ∈ l.drop i, x ≤ a)) := by
  induction d with
  | zero =>
    intro k i m hd hk
    obtain ⟨k, rfl⟩ : ∃ q, k = q + 1 := ⟨k - 1, by omega⟩
    refine ⟨m, ?_, ?_⟩
    · simp only [slices_Max_int32_int32.l0]
      rw [if_neg (by omega)]
    · rw [List.drop_of_length_le (by omega)]
      simp
  | succ d ih =>
    intro k i m hd hk
    obtain ⟨k, rfl⟩ : ∃ q, k = q + 1 := ⟨k - 1, by omega⟩
    obtain ⟨r, h1, h2⟩ := ih k (i + 1) (mx m (rd l (i : Int))) (by omega) (by omega)
    refine ⟨r, ?_, ?_⟩
    · simp only [slices_Max_int32_int32.l0]
      rw [if_pos (by omega), if_pos (by omega), w64 (by omega)]
      exact h1
    · rw [h2, adrop_rd (l := l) (i := i) (by omega), List.forall_mem_cons]
      have : mx m (rd l (i : Int)) ≤ a ↔ m ≤ a ∧ rd l (i : Int) ≤ a := by unfold mx; split <;> omega
      rw [this, and_assoc]
/-- A row of 193 numbers from 0 to a. -/
def rowOk (l : List Int) (a : Int) : Prop := l.length = 193 ∧ ∀ x ∈ l, 0 ≤ x ∧ x ≤ a
instance (l : List Int) (a : Int) : Decidable (rowOk l a) := by unfold rowOk; infer_instance
theorem outside_is (l : List Int) (a : Int) {k : Nat} (hk : 400 ≤ k) : adapt_outside.f k l a = some (!decide (rowOk l a)) := by
  unfold adapt_outside.f
  by_cases h : l.length = 193
  · rw [if_pos (by omega)]
    obtain ⟨r, h1, h2⟩ := amin_go (l := l) (by omega) 192 k 1 (rd l 0) (by omega) (by omega)
    obtain ⟨s, g1, g2⟩ := amax_go (l := l) (by omega) a 192 k 1 (rd l 0) (by omega) (by omega)
    have e := adrop_rd (l := l) (i := 0) (by omega)
    rw [List.drop_zero] at e
    have h2' : r < 0 ↔ ¬ ∀ x ∈ l, 0 ≤ x := by
      rw [h2]; conv => rhs; rw [e, List.forall_mem_cons]
      exact Iff.rfl
    have g2' : s > a ↔ ¬ ∀ x ∈ l, x ≤ a := by
      rw [g2]; conv => rhs; rw [e, List.forall_mem_cons]
      exact Iff.rfl
    have m1 : slices_Min_int32_int32.f k l = some r := by unfold slices_Min_int32_int32.f; rw [if_neg (by omega), if_pos (by omega)]; exact h1
    have m2 : slices_Max_int32_int32.f k l = some s := by unfold slices_Max_int32_int32.f; rw [if_neg (by omega), if_pos (by omega)]; exact g1
    rw [m1, Option.bind_some]
    by_cases c : r < 0
    · rw [if_pos c]
      have : ¬ rowOk l a := fun z => (h2'.mp c) (fun x hx => (z.2 x hx).1)
      simp [this]
    · rw [if_neg c, m2, Option.bind_some]
      have p : ∀ x ∈ l, 0 ≤ x := by
        by_cases q : ∀ x ∈ l, 0 ≤ x
        · exact q
        · exact absurd (h2'.mpr q) c
      by_cases f : s > a
      · have : ¬ rowOk l a := fun z => (g2'.mp f) (fun x hx => (z.2 x hx).2)
        simp [this, f]
      · have q : ∀ x ∈ l, x ≤ a := by
          by_cases q : ∀ x ∈ l, x ≤ a
          · exact q
          · exact absurd (g2'.mpr q) f
        have : rowOk l a := ⟨h, fun x hx => ⟨p x hx, q x hx⟩⟩
        simp [this]
        omega
  · rw [if_neg (by omega)]
    have : ¬ rowOk l a := fun z => h z.1
    simp [this]
/-- A map as the program takes it. -/
def good (m : Int) (P N : List Int) : Prop := (1 ≤ m ∧ m ≤ 1000) ∧ rowOk P 65535 ∧ rowOk N m
instance (m : Int) (P N : List Int) : Decidable (good m P N) := by unfold good; infer_instance
theorem pchk (m : Int) (P N : List Int) {k : Nat} (hk : 400 ≤ k) : adapt_Check.f k m P N = some (if good m P N then 0 else 8) := by
  unfold adapt_Check.f
  by_cases a : m < 1
  · rw [if_pos a, if_neg (show ¬ good m P N from fun z => by have := z.1; omega)]
  · rw [if_neg a]
    by_cases b : m > 1000
    · rw [if_pos b, if_neg (show ¬ good m P N from fun z => by have := z.1; omega)]
    · rw [if_neg b, show rd tgRow 1 = 65535 from rfl, outside_is P 65535 hk, Option.bind_some]
      by_cases c : rowOk P 65535
      · rw [decide_eq_true c, if_neg (by decide), outside_is N m hk, Option.bind_some]
        by_cases d : rowOk N m
        · rw [decide_eq_true d, if_neg (by decide), if_pos (show good m P N from ⟨by omega, c, d⟩)]
        · rw [decide_eq_false d, if_pos (by decide), if_neg (show ¬ good m P N from fun z => d z.2.2)]
      · rw [decide_eq_false c, if_pos (by decide), if_neg (show ¬ good m P N from fun z => c z.2.1)]
/-- The error of a map and a state. -/
def atE (m : Int) (P N : List Int) (s : Int) : Int := if good m P N then (if s < 193 then 0 else 2) else 8
theorem atE_ok {m s : Int} {P N : List Int} (h : atE m P N s = 0) : good m P N ∧ s < 193 := by
  unfold atE at h
  by_cases g : good m P N
  · rw [if_pos g] at h
    by_cases o : s < 193
    · exact ⟨g, o⟩
    · rw [if_neg o] at h; omega
  · rw [if_neg g] at h; omega
theorem atE_in {m s : Int} {P N : List Int} (g : good m P N) (o : s < 193) : atE m P N s = 0 := by unfold atE; rw [if_pos g, if_pos o]
theorem pat (m : Int) (P N : List Int) (s : Int) {k : Nat} (hk : 400 ≤ k) : adapt_at.f k m P N s = some (atE m P N s) := by
  unfold adapt_at.f atE
  rw [pchk m P N hk, Option.bind_some]
  by_cases g : good m P N
  · rw [if_pos g, if_pos rfl, if_pos g]
    by_cases o : s < 193
    · rw [if_neg (by omega), if_pos o]
    · rw [if_pos (by omega), if_neg o]
  · rw [if_neg g, if_neg (by decide), if_neg g]
theorem clone_in {l : List Int} (h : l.length ≤ 1000) : slices_Clone_int32_int32.f l = some l := by
  unfold slices_Clone_int32_int32.f
  rw [if_pos (by omega)]
theorem atwin_in {m : Int} {P N : List Int} (h1 : P.length ≤ 1000) (h2 : N.length ≤ 1000) : adapt_twin.f m P N = some (m, P, N) := by
  unfold adapt_twin.f
  rw [clone_in h1, Option.bind_some, clone_in h2, Option.bind_some]
/-- The count behind a change, and the probability. -/
def nN (m : Int) (N : List Int) (s : Int) : Int := mn (rd N s + 1) m
def nP (m : Int) (P N : List Int) (s d : Int) : Int := rd P s + quo (65535 * d - rd P s) (nN m N s + 1)
theorem nN_bd {m s : Int} {P N : List Int} (g : good m P N) (h0 : 0 ≤ s) (h1 : s < 193) : 1 ≤ nN m N s ∧ nN m N s ≤ m ∧ m ≤ 1000 ∧ 0 ≤ rd N s ∧ rd N s ≤ m := by
  have hm := g.1
  have l := g.2.2.1
  have := g.2.2.2 _ (ard_mem h0 (show s < N.length by omega))
  unfold nN mn
  split <;> omega
theorem P_bd {m s : Int} {P N : List Int} (g : good m P N) (h0 : 0 ≤ s) (h1 : s < 193) : 0 ≤ rd P s ∧ rd P s ≤ 65535 := by
  have l := g.2.1.1
  exact g.2.1.2 _ (ard_mem h0 (show s < P.length by omega))
theorem nP_bd {m s d : Int} {P N : List Int} (g : good m P N) (h0 : 0 ≤ s) (h1 : s < 193) (hd : d = 0 ∨ d = 1) : 0 ≤ nP m P N s d ∧ nP m P N s d ≤ 65535 := by
  have p := P_bd g h0 h1
  have n := nN_bd g h0 h1
  have x := (next_in (p := rd P s) (t := 65535 * d) (n := nN m N s + 1) p.1 (by omega) (by omega) (by omega) (by omega) (by omega)).1
  unfold nP
  unfold mn mx at x
  split at x <;> split at x <;> omega
theorem change_in {m s d : Int} {P N : List Int} (g : good m P N) (h0 : 0 ≤ s) (h1 : s < 193) (hd : d = 0 ∨ d = 1) {k : Nat} (hk : 1 ≤ k) : adapt_change.f k m P N s d = some (0, P.set s.toNat (nP m P N s d), N.set s.toNat (nN m N s)) := by
  have p := P_bd g h0 h1
  have n := nN_bd g h0 h1
  have q := nP_bd g h0 h1 hd
  have lP := g.2.1.1
  have lN := g.2.2.1
  obtain ⟨k, rfl⟩ : ∃ r, k = r + 1 := ⟨k - 1, by omega⟩
  have t : rd tgRow d = 65535 * d := by rcases hd with rfl | rfl <;> rfl
  unfold adapt_change.f
  rw [if_pos h0, if_pos (by omega), if_pos (by omega), if_pos (by omega), if_pos (by omega), w32 (x := rd N s + 1) (by omega)]
  rw [show mn (rd N s + 1) m = nN m N s from rfl, w32 (x := nN m N s + 1) (by omega), t]
  rw [step_in k p.1 (by omega) (by omega) (by omega) (by omega) (by omega), Option.bind_some, show rd P s + quo (65535 * d - rd P s) (nN m N s + 1) = nP m P N s d from rfl, w32 (by omega)]
theorem good_upd {m s d : Int} {P N : List Int} (g : good m P N) (h0 : 0 ≤ s) (h1 : s < 193) (hd : d = 0 ∨ d = 1) : good m (P.set s.toNat (nP m P N s d)) (N.set s.toNat (nN m N s)) := by
  have q := nP_bd g h0 h1 hd
  have n := nN_bd g h0 h1
  refine ⟨g.1, ⟨by rw [List.length_set]; exact g.2.1.1, fun x hx => ?_⟩, ⟨by rw [List.length_set]; exact g.2.2.1, fun x hx => ?_⟩⟩
  · rcases List.mem_or_eq_of_mem_set hx with y | y
    · exact g.2.1.2 x y
    · rw [y]; exact q
  · rcases List.mem_or_eq_of_mem_set hx with y | y
    · exact g.2.2.2 x y
    · rw [y]; omega
theorem u8_in {x : Int} (h : (Lit.int .u8 x).wf = true) : 0 ≤ x ∧ x ≤ 255 := by
  simp only [Lit.wf, IntKind.min, IntKind.max, IntKind.signed, IntKind.bits, Bool.and_eq_true] at h
  simp at h
  omega
theorem i32_in {x : Int} (h : (Lit.int .i32 x).wf = true) : -2147483648 ≤ x ∧ x ≤ 2147483647 := by
  simp only [Lit.wf, IntKind.min, IntKind.max, IntKind.signed, IntKind.bits, Bool.and_eq_true] at h
  simp at h
  omega
theorem pP (m : Int) (P N : List Int) {s : Int} (hs : 0 ≤ s) {k : Nat} (hk : 400 ≤ k) : adapt_P.f k m P N s = some (if atE m P N s = 0 then (rd P s, 0) else (0, atE m P N s)) := by
  unfold adapt_P.f
  rw [pat m P N s hk, Option.bind_some]
  by_cases e : atE m P N s = 0
  · have g := atE_ok e
    have := g.1.2.1.1
    rw [if_pos e, if_pos e, if_pos hs, if_pos (by omega)]
  · rw [if_neg e, if_neg e]
def updA (m : Int) (P N : List Int) (s d : Int) : Int × List Int × List Int × Int := if atE m P N s = 0 then (if d > 1 then (0, [], [], 2) else (m, P.set s.toNat (nP m P N s d), N.set s.toNat (nN m N s), 0)) else (0, [], [], atE m P N s)
theorem pupd {m s d : Int} {P N : List Int} (h0 : 0 ≤ s) (hd : 0 ≤ d) {k : Nat} (hk : 400 ≤ k) : adapt_Update.f k m P N s d = some (updA m P N s d) := by
  unfold adapt_Update.f updA
  rw [pat m P N s hk, Option.bind_some]
  by_cases e : atE m P N s = 0
  · have g := atE_ok e
    have lP := g.1.2.1.1
    have lN := g.1.2.2.1
    rw [if_pos e, if_pos e]
    by_cases x : d > 1
    · rw [if_pos x, if_pos x]
    · rw [if_neg x, if_neg x, atwin_in (by omega) (by omega), Option.bind_some]
      dsimp only
      rw [change_in g.1 h0 g.2 (by omega) (by omega), Option.bind_some, if_pos rfl]
  · rw [if_neg e, if_neg e]
theorem rchk_go {m : Int} {P N : List Int} (lP : P.length = 193) (lN : N.length = 193) (e : Nat) : ∀ (k i : Nat), i + e = 193 → e < k → bitloftref09_Check.l0 k (i : Int) m P N = some (if (∀ x ∈ P.drop i, 0 ≤ x ∧ x ≤ 65535) ∧ ∀ x ∈ N.drop i, 0 ≤ x ∧ x ≤ m then 0 else 8) := by
  induction e with
  | zero =>
    intro k i hd hk
    obtain ⟨k, rfl⟩ : ∃ q, k = q + 1 := ⟨k - 1, by omega⟩
    simp only [bitloftref09_Check.l0]
    rw [if_neg (by omega), List.drop_of_length_le (by omega), List.drop_of_length_le (by omega), if_pos (by simp)]
  | succ e ih =>
    intro k i hd hk
    obtain ⟨k, rfl⟩ : ∃ q, k = q + 1 := ⟨k - 1, by omega⟩
    simp only [bitloftref09_Check.l0]
    rw [if_pos (by omega), if_pos (by omega), if_pos (by omega), prob, Option.bind_some, adrop_rd (l := P) (i := i) (by omega), adrop_rd (l := N) (i := i) (by omega), w64 (by omega), show (i : Int) + 1 = ((i + 1 : Nat) : Int) from rfl, ih k (i + 1) (by omega) (by omega)]
    simp only [List.forall_mem_cons]
    by_cases a : 0 ≤ rd P (i : Int) ∧ rd P (i : Int) < 65536
    · rw [if_pos (by simpa using a), if_pos (by omega)]
      by_cases b : rd N (i : Int) < 0
      · rw [if_pos b, if_neg (fun z => by have := z.2.1.1; omega)]
      · rw [if_neg b]
        by_cases c : rd N (i : Int) > m
        · rw [if_pos c, if_neg (fun z => by have := z.2.1.2; omega)]
        · rw [if_neg c]
          have h1 : 0 ≤ rd P (i : Int) ∧ rd P (i : Int) ≤ 65535 := by omega
          have h2 : 0 ≤ rd N (i : Int) ∧ rd N (i : Int) ≤ m := by omega
          simp only [h1, h2, true_and, and_self]
    · rw [if_neg (by simpa using a), if_neg (fun z => by have := z.1.1; omega)]
theorem rchk {m : Int} {P N : List Int} {k : Nat} (hk : 400 ≤ k) : bitloftref09_Check.f k m P N = some (if good m P N then 0 else 8) := by
  have hj : ∀ z : Bool, ((1 ≤ m ∧ m ≤ 1000) ∧ P.length = 193) → (z = true ↔ ¬ N.length = 193) → bitloftref09_Check.j0 k z m P N = some (if good m P N then 0 else 8) := by
    intro z hh hz
    obtain ⟨k, rfl⟩ : ∃ q, k = q + 1 := ⟨k - 1, by omega⟩
    simp only [bitloftref09_Check.j0]
    by_cases y : N.length = 193
    · rw [if_neg (fun x => hz.mp x y)]
      have := rchk_go (m := m) hh.2 y 193 k 0 (by omega) (by omega)
      rw [List.drop_zero, List.drop_zero] at this
      refine (show bitloftref09_Check.l0 k 0 m P N = _ from this).trans ?_
      by_cases g : good m P N
      · rw [if_pos g, if_pos ⟨g.2.1.2, g.2.2.2⟩]
      · rw [if_neg g, if_neg (fun w => g ⟨hh.1, ⟨hh.2, w.1⟩, ⟨y, w.2⟩⟩)]
    · rw [if_pos (hz.mpr y), if_neg (show ¬ good m P N from fun z => y z.2.2.1)]
  have ht : ¬ ((1 ≤ m ∧ m ≤ 1000) ∧ P.length = 193) → bitloftref09_Check.j0 k true m P N = some (if good m P N then 0 else 8) := by
    intro hh
    obtain ⟨k, rfl⟩ : ∃ q, k = q + 1 := ⟨k - 1, by omega⟩
    simp only [bitloftref09_Check.j0]
    rw [if_pos trivial, if_neg (show ¬ good m P N from fun z => hh ⟨z.1, z.2.1.1⟩)]
  unfold bitloftref09_Check.f
  by_cases a : m < 1
  · rw [if_pos a]; exact ht (by omega)
  · rw [if_neg a]
    by_cases b : m > 1000
    · rw [if_pos b]; exact ht (by omega)
    · rw [if_neg b]
      by_cases c : P.length = 193
      · rw [if_pos (by omega)]; exact hj _ ⟨by omega, c⟩ (by simp; omega)
      · rw [if_neg (by omega)]; exact ht (by omega)
theorem rat (m : Int) (P N : List Int) (s : Int) {k : Nat} (hk : 400 ≤ k) : bitloftref09_At.f k m P N s = some (atE m P N s) := by
  unfold bitloftref09_At.f atE bitloftref08_State.f
  rw [rchk hk, Option.bind_some]
  by_cases g : good m P N
  · rw [if_pos g, if_pos rfl, Option.bind_some, if_pos g]
    by_cases o : s < 193
    · rw [if_pos (by simpa using o), if_pos o]
    · rw [if_neg (by simpa using o), if_neg o]
  · rw [if_neg g, if_neg (by decide), if_neg g]
theorem twin_in {m : Int} {P N : List Int} (h1 : P.length ≤ 1000) (h2 : N.length ≤ 1000) : bitloftref09_Twin.f m P N = some (m, P, N) := by
  unfold bitloftref09_Twin.f
  rw [Option.bind_some, if_pos (by simp only [List.length_nil]; omega), Option.bind_some, if_pos (by simp only [List.length_nil]; omega)]
  rfl
theorem rP (m : Int) (P N : List Int) {s : Int} (hs : 0 ≤ s) {k : Nat} (hk : 400 ≤ k) : bitloftref09_P.f k m P N s = some (if atE m P N s = 0 then (rd P s, 0) else (0, atE m P N s)) := by
  unfold bitloftref09_P.f
  rw [rat m P N s hk, Option.bind_some]
  by_cases e : atE m P N s = 0
  · have g := atE_ok e
    have := g.1.2.1.1
    rw [if_pos e, if_pos e, if_pos hs, if_pos (by omega)]
  · rw [if_neg e, if_neg e]
theorem move_in {m s d : Int} {P N : List Int} (g : good m P N) (h0 : 0 ≤ s) (h1 : s < 193) (hd : d = 0 ∨ d = 1) : bitloftref09_Move.f m P N s d = some (P.set s.toNat (nP m P N s d), N.set s.toNat (nN m N s)) := by
  have p := P_bd g h0 h1
  have n := nN_bd g h0 h1
  have q := nP_bd g h0 h1 hd
  have lP := g.2.1.1
  have lN := g.2.2.1
  unfold bitloftref09_Move.f
  rw [if_pos h0, if_pos (by omega), w32 (x := rd N s + 1) (by omega), show mn (rd N s + 1) m = nN m N s from rfl, w32 (x := nN m N s + 1) (by omega)]
  unfold nP at q ⊢
  rcases hd with rfl | rfl
  · rw [if_neg (by decide), if_pos (by omega), w32 (x := -(rd P s)) (by omega), quotient_in (by omega) (by omega) (by omega) (by omega), Option.bind_some]
    rw [show (65535 : Int) * 0 - rd P s = -(rd P s) from by omega] at q ⊢
    rw [w32 (by omega)]
  · rw [if_pos rfl, if_pos (by omega), w32 (x := 65535 - rd P s) (by omega), quotient_in (by omega) (by omega) (by omega) (by omega), Option.bind_some]
    rw [show (65535 : Int) * 1 - rd P s = 65535 - rd P s from by omega] at q ⊢
    rw [w32 (by omega)]
theorem rupd {m s d : Int} {P N : List Int} (h0 : 0 ≤ s) (hd : 0 ≤ d) {k : Nat} (hk : 400 ≤ k) : bitloftref09_Update.f k m P N s d = some (updA m P N s d) := by
  unfold bitloftref09_Update.f updA
  rw [rat m P N s hk, Option.bind_some]
  by_cases e : atE m P N s = 0
  · have g := atE_ok e
    have lP := g.1.2.1.1
    have lN := g.1.2.2.1
    rw [if_pos e, if_pos e]
    by_cases x : d > 1
    · rw [if_pos x, if_pos x]
    · unfold bitloftref09_Moved.f
      rw [if_neg x, if_neg x, twin_in (by omega) (by omega), Option.bind_some]
      dsimp only
      rw [move_in g.1 h0 g.2 (by omega), Option.bind_some, Option.bind_some]
  · rw [if_neg e, if_neg e]
theorem rows_go {l : List Int} (hl : l.length ≤ 1000) (e : Nat) : ∀ (k i : Nat), i + e = l.length → e < k → bitloftref09_SameRows.l0 k l l (i : Int) = some true := by
  induction e with
  | zero =>
    intro k i hd hk
    obtain ⟨k, rfl⟩ : ∃ q, k = q + 1 := ⟨k - 1, by omega⟩
    simp only [bitloftref09_SameRows.l0]
    rw [if_neg (by omega)]
  | succ e ih =>
    intro k i hd hk
    obtain ⟨k, rfl⟩ : ∃ q, k = q + 1 := ⟨k - 1, by omega⟩
    simp only [bitloftref09_SameRows.l0]
    rw [if_pos (by omega), if_pos (by omega), if_pos (by omega), if_pos trivial, w64 (by omega), show (i : Int) + 1 = ((i + 1 : Nat) : Int) from rfl]
    exact ih k (i + 1) (by omega) (by omega)
theorem rows_in {l : List Int} (hl : l.length ≤ 1000) {k : Nat} (hk : 1001 ≤ k) : bitloftref09_SameRows.f k l l = some true := by
  unfold bitloftref09_SameRows.f
  rw [if_pos rfl]
  exact rows_go hl l.length k 0 (by omega) (by omega)
theorem same_in {m : Int} {P N : List Int} (h1 : P.length ≤ 1000) (h2 : N.length ≤ 1000) {k : Nat} (hk : 1001 ≤ k) : bitloftref09_Same.f k m P N m P N = some true := by
  unfold bitloftref09_Same.f
  rw [if_pos rfl, rows_in h1 hk, Option.bind_some, if_pos rfl, rows_in h2 hk, Option.bind_some]
theorem pnew_in {a : Int} (h0 : 1 ≤ a) (h1 : a ≤ 1000) : adapt_New.f a = some (a, List.replicate 193 32768, List.replicate 193 0, 0) := by
  unfold adapt_New.f slices_Repeat_int32_int32.f
  rw [if_neg (by omega), if_neg (by omega), if_pos (by decide), Option.bind_some, w32 (by omega)]
  rfl
theorem pnew_out {a : Int} (h : a < 1 ∨ 1000 < a) : adapt_New.f a = some (0, [], [], 2) := by
  unfold adapt_New.f
  by_cases c : a < 1
  · rw [if_pos c]
  · rw [if_neg c, if_pos (by omega)]
theorem great_is (m : Int) (P N : List Int) : bitloftref09_Great.f m P N = some (decide (300 < P.length ∨ 300 < N.length)) := by
  unfold bitloftref09_Great.f
  by_cases a : P.length > 300
  · rw [if_pos (by omega), decide_eq_true (Or.inl a)]
  · rw [if_neg (by omega)]
    by_cases b : N.length > 300
    · rw [decide_eq_true (show (N.length : Int) > 300 by omega), decide_eq_true (Or.inr b)]
    · rw [decide_eq_false (show ¬ (N.length : Int) > 300 by omega), decide_eq_false (by omega)]
theorem begin_go {a : Int} (e : Nat) : ∀ (k i : Nat), i + e = 193 → e < k → bitloftref09_Begin.l0 k (i : Int) a (List.replicate i 32768) (List.replicate i 0) = some (a, List.replicate 193 32768, List.replicate 193 0) := by
  induction e with
  | zero =>
    intro k i hd hk
    obtain ⟨k, rfl⟩ : ∃ q, k = q + 1 := ⟨k - 1, by omega⟩
    obtain rfl : i = 193 := by omega
    simp only [bitloftref09_Begin.l0]
    rw [if_neg (by omega)]
  | succ e ih =>
    intro k i hd hk
    obtain ⟨k, rfl⟩ : ∃ q, k = q + 1 := ⟨k - 1, by omega⟩
    simp only [bitloftref09_Begin.l0]
    rw [if_pos (by omega), Option.bind_some, if_pos (by rw [List.length_replicate]; simp only [List.length_cons, List.length_nil]; omega), Option.bind_some, if_pos (by rw [List.length_replicate]; simp only [List.length_cons, List.length_nil]; omega), w64 (by omega), ← List.replicate_succ', ← List.replicate_succ']
    exact ih k (i + 1) (by omega) (by omega)
theorem rnew_in {a : Int} (h0 : 1 ≤ a) (h1 : a ≤ 1000) {k : Nat} (hk : 400 ≤ k) : bitloftref09_New.f k a = some (a, List.replicate 193 32768, List.replicate 193 0, 0) := by
  unfold bitloftref09_New.f bitloftref09_Begin.f
  have b := begin_go (a := a) 193 k 0 (by omega) (by omega)
  rw [if_neg (by omega), if_neg (by omega), w32 (by omega)]
  rw [show bitloftref09_Begin.l0 k 0 a [] [] = _ from b, Option.bind_some]
theorem rnew_out {a : Int} (h : a < 1 ∨ 1000 < a) (k : Nat) : bitloftref09_New.f k a = some (0, [], [], 2) := by
  unfold bitloftref09_New.f
  by_cases c : a < 1
  · rw [if_pos c]
  · rw [if_neg c, if_pos (by omega)]
theorem new_both (a : Int) : ∃ (c : Int) (P N : List Int) (e : Int), P.length ≤ 1000 ∧ N.length ≤ 1000 ∧ ∀ k, 400 ≤ k → adapt_New.f a = some (c, P, N, e) ∧ bitloftref09_New.f k a = some (c, P, N, e) := by
  by_cases h : 1 ≤ a ∧ a ≤ 1000
  · exact ⟨a, _, _, 0, by rw [List.length_replicate]; omega, by rw [List.length_replicate]; omega, fun k hk => ⟨pnew_in h.1 h.2, rnew_in h.1 h.2 hk⟩⟩
  · exact ⟨0, [], [], 2, by simp, by simp, fun k hk => ⟨pnew_out (by omega), rnew_out (by omega) k⟩⟩
theorem updA_len {m s d : Int} {P N : List Int} (h1 : P.length ≤ 1000) (h2 : N.length ≤ 1000) : (updA m P N s d).2.1.length ≤ 1000 ∧ (updA m P N s d).2.2.1.length ≤ 1000 := by
  unfold updA
  split
  · split
    · simp
    · simp only [List.length_set]; exact ⟨h1, h2⟩
  · simp
theorem AdaptMakes : bitloftlaw09_AdaptMakes.Pure := by
  intro a m P N s d _ _ _ _ _ _ hs hd
  have hs0 := (u8_in hs).1
  have hd0 := (u8_in hd).1
  obtain ⟨K, hK⟩ : ∃ K : Nat, K = 3000 := ⟨_, rfl⟩
  refine ⟨K, ?_⟩
  unfold bitloftlaw09_AdaptMakes.f
  rw [great_is, Option.bind_some]
  by_cases gr : 300 < P.length ∨ 300 < N.length
  · rw [decide_eq_true gr, if_pos rfl]
  · rw [decide_eq_false gr, if_neg (by decide)]
    have h1 : P.length ≤ 1000 := by omega
    have h2 : N.length ≤ 1000 := by omega
    obtain ⟨c, P', N', e, p1, p2, hn⟩ := new_both a
    have nk := hn K (by omega)
    have ul := updA_len (m := m) (s := s) (d := d) h1 h2
    rw [twin_in h1 h2, Option.bind_some, nk.1, Option.bind_some, nk.2, Option.bind_some]
    dsimp only
    rw [pP m P N hs0 (by omega), Option.bind_some, rP m P N hs0 (by omega), Option.bind_some, pupd hs0 hd0 (by omega), Option.bind_some, rupd hs0 hd0 (by omega), Option.bind_some]
    rw [same_in p1 p2 (by omega), Option.bind_some, if_pos rfl, if_pos rfl, pchk m P N (by omega), Option.bind_some, rchk (by omega), Option.bind_some, if_pos rfl, if_pos rfl, if_pos rfl, same_in ul.1 ul.2 (by omega), Option.bind_some, if_pos rfl, if_pos rfl, same_in h1 h2 (by omega), Option.bind_some]
    obtain ⟨k, rfl⟩ : ∃ r, K = r + 1 := ⟨K - 1, by omega⟩
    rfl
end Go.Proofs.YtmncppbhnjngkaaDoor.Pure
