/- New, Check and Find answer as the reference does; no condition. -/
import Derived.Test.YtaomhenneenaaaaXSlotsFindsx6
import Derived.OpenShut
set_option linter.unusedVariables false
set_option linter.unusedSimpArgs false
namespace Go.Proofs.Ytaomhenneenaaaa.Pure
open Go.RowKit Go.Proofs.Ytaomhenneenaaaa.XSlotsFinds Go.Proofs.YtaomhenneenaaaaW.PrintWords Go.Proofs.YtaomhenneenaaaaW.PrintLast
theorem w32 {x : Int} (h : -2147483648 ≤ x ∧ x ≤ 2147483647) : wrap32 x = x := by unfold wrap32; omega
theorem w64 {x : Int} (h : -9223372036854775808 ≤ x ∧ x ≤ 9223372036854775807) : wrap64 x = x := by unfold wrap64; omega
/-- The states of a slot. -/
def sts (s : S42) : List Int := [s.f1.f0, s.f1.f1, s.f1.f2, s.f1.f3, s.f1.f4, s.f1.f5, s.f1.f6, s.f1.f7, s.f1.f8, s.f1.f9, s.f1.f10, s.f1.f11, s.f1.f12, s.f1.f13, s.f1.f14]
def okS (s : S42) : Prop := ∀ x ∈ sts s, x < 193
instance (s : S42) : Decidable (okS s) := by unfold okS; infer_instance
/-- A table as the program takes it. -/
def good (v : Int) (l : List S42) : Prop := (0 ≤ v ∧ v ≤ 7 ∧ (l.length : Int) = 16 * 2 ^ v.toNat) ∧ ∀ s ∈ l, okS s
instance (v : Int) (l : List S42) : Decidable (good v l) := by unfold good; infer_instance
theorem sdrop_rd {l : List Int} {i : Nat} (h : i < l.length) : l.drop i = rd l (i : Int) :: l.drop (i + 1) := by
  have e : rd l (i : Int) = l[i] := by simp [rd, List.getD_eq_getElem?_getD, h]
  rw [e]
  exact List.drop_eq_getElem_cons h
theorem drop_rt {l : List S42} {i : Nat} (h : i < l.length) : l.drop i = rd_T42 l (i : Int) :: l.drop (i + 1) := by
  have e : rd_T42 l (i : Int) = l[i] := by simp [rd_T42, List.getD_eq_getElem?_getD, h]
  rw [e]
  exact List.drop_eq_getElem_cons h
theorem rt_mem {l : List S42} {i : Int} (h0 : 0 ≤ i) (h : i < l.length) : rd_T42 l i ∈ l := by
  obtain ⟨n, rfl⟩ := Int.eq_ofNat_of_zero_le h0
  have e : rd_T42 l (n : Int) = l[n]'(by omega) := by simp [rd_T42, List.getD_eq_getElem?_getD, show n < l.length by omega]
  rw [e]
  exact List.getElem_mem _
theorem smax_go {l : List Int} (hl : l.length ≤ 100) (d : Nat) : ∀ (k i : Nat) (m : Int), i + d = l.length → d < k → ∃ r, slices_Max_uint8_uint8.l0 k l m (i : Int) = some r ∧ (r ≥ 193 ↔ ¬ (m < 193 ∧ ∀ x ∈ l.drop i, x < 193)) := by
  induction d with
  | zero =>
    intro k i m hd hk
    obtain ⟨k, rfl⟩ : ∃ q, k = q + 1 := ⟨k - 1, by omega⟩
    refine ⟨m, ?_, ?_⟩
    · simp only [slices_Max_uint8_uint8.l0]
      rw [if_neg (by omega)]
    · rw [List.drop_of_length_le (by omega)]
      simp
  | succ d ih =>
    intro k i m hd hk
    obtain ⟨k, rfl⟩ : ∃ q, k = q + 1 := ⟨k - 1, by omega⟩
    obtain ⟨r, h1, h2⟩ := ih k (i + 1) (mx m (rd l (i : Int))) (by omega) (by omega)
    refine ⟨r, ?_, ?_⟩
    · simp only [slices_Max_uint8_uint8.l0]
      rw [if_pos (by omega), if_pos (by omega), w64 (by omega)]
      exact h1
    · rw [h2, sdrop_rd (l := l) (i := i) (by omega), List.forall_mem_cons]
      have : mx m (rd l (i : Int)) < 193 ↔ m < 193 ∧ rd l (i : Int) < 193 := by unfold mx; split <;> omega
      rw [this, and_assoc]
theorem sts_len (s : S42) : (sts s).length = 15 := rfl
theorem max_sts (s : S42) (k : Nat) (hk : 20 ≤ k) : ∃ r, slices_Max_uint8_uint8.f k (sts s) = some r ∧ (r ≥ 193 ↔ ¬ okS s) := by
  obtain ⟨r, h1, h2⟩ := smax_go (l := sts s) (by rw [sts_len]; omega) 14 k 1 (rd (sts s) 0) (by rfl) (by omega)
  refine ⟨r, ?_, ?_⟩
  · unfold slices_Max_uint8_uint8.f
    rw [if_neg (by rw [sts_len]; omega), if_pos (by rw [sts_len]; omega)]
    exact h1
  · rw [h2]
    unfold okS
    have e := sdrop_rd (l := sts s) (i := 0) (by rw [sts_len]; omega)
    rw [List.drop_zero] at e
    conv => rhs; rw [e, List.forall_mem_cons]
    rfl
theorem pchk_go {l : List S42} (hl : l.length ≤ 5000) (d : Nat) : ∀ (k i : Nat), i + d = l.length → d + 20 < k → slots_Check.l0 k l (l.length : Int) (i : Int) = some (if ∀ s ∈ l.drop i, okS s then 0 else 8) := by
  induction d with
  | zero =>
    intro k i hd hk
    obtain ⟨k, rfl⟩ : ∃ q, k = q + 1 := ⟨k - 1, by omega⟩
    simp only [slots_Check.l0]
    rw [if_neg (by omega), List.drop_of_length_le (by omega), if_pos (by simp)]
  | succ d ih =>
    intro k i hd hk
    obtain ⟨k, rfl⟩ : ∃ q, k = q + 1 := ⟨k - 1, by omega⟩
    obtain ⟨r, h1, h2⟩ := max_sts (rd_T42 l (i : Int)) k (by omega)
    simp only [slots_Check.l0]
    rw [if_pos (by omega), if_pos (by omega), if_pos (by omega)]
    unfold sts at h1
    rw [h1, Option.bind_some, w64 (by omega), drop_rt (l := l) (i := i) (by omega), show (i : Int) + 1 = ((i + 1 : Nat) : Int) from rfl, ih k (i + 1) (by omega) (by omega)]
    simp only [List.forall_mem_cons]
    by_cases y : okS (rd_T42 l (i : Int))
    · rw [if_neg (by rw [h2]; simpa using y)]
      simp [y]
    · rw [if_pos (h2.mpr y), if_neg (fun z => y z.1)]
theorem shl_in {v : Int} (h0 : 0 ≤ v) (h1 : v ≤ 7) : shl .i64 16 v = 16 * 2 ^ v.toNat := by
  obtain ⟨n, rfl⟩ := Int.eq_ofNat_of_zero_le h0
  have : n ≤ 7 := by omega
  have h : ∀ m : Fin 8, shl .i64 16 (m.val : Int) = 16 * 2 ^ m.val := by decide
  exact h ⟨n, by omega⟩
theorem psize_in {v : Int} (h0 : 0 ≤ v) (h1 : v ≤ 7) : slots_size.f v = some (16 * 2 ^ v.toNat) := by
  unfold slots_size.f
  rw [if_pos h0, shl_in h0 h1]
theorem pow_le {v : Int} (h0 : 0 ≤ v) (h1 : v ≤ 7) : (2 : Int) ^ v.toNat ≤ 128 ∧ 1 ≤ (2 : Int) ^ v.toNat := by
  obtain ⟨n, rfl⟩ := Int.eq_ofNat_of_zero_le h0
  have h : ∀ m : Fin 8, (2 : Int) ^ m.val ≤ 128 ∧ 1 ≤ (2 : Int) ^ m.val := by decide
  exact h ⟨n, by omega⟩
theorem if_iff {p q : Prop} [Decidable p] [Decidable q] {a b : Int} (h : p ↔ q) : (if p then a else b) = if q then a else b := by
  by_cases y : p
  · rw [if_pos y, if_pos (h.mp y)]
  · rw [if_neg y, if_neg (fun z => y (h.mpr z))]
theorem pchk {v : Int} {l : List S42} (hl : l.length ≤ 5000) {k : Nat} (hk : l.length + 30 ≤ k) : slots_Check.f k v l = some (if good v l then 0 else 8) := by
  have hj : ∀ z : Bool, (z = true ↔ ¬ (0 ≤ v ∧ v ≤ 7 ∧ (l.length : Int) = 16 * 2 ^ v.toNat)) → slots_Check.j0 k z v l = some (if good v l then 0 else 8) := by
    intro z hz
    obtain ⟨k, rfl⟩ : ∃ q, k = q + 1 := ⟨k - 1, by omega⟩
    simp only [slots_Check.j0]
    by_cases y : 0 ≤ v ∧ v ≤ 7 ∧ (l.length : Int) = 16 * 2 ^ v.toNat
    · rw [if_neg (fun x => hz.mp x y)]
      have := pchk_go hl l.length k 0 (by omega) (by omega)
      rw [List.drop_zero] at this
      exact (show slots_Check.l0 k l (l.length : Int) 0 = _ from this).trans (congrArg some (if_iff ⟨fun z => ⟨y, z⟩, fun z => z.2⟩))
    · rw [if_pos (hz.mpr y), if_neg (fun x => y x.1)]
  unfold slots_Check.f
  by_cases a : v < 0
  · rw [if_pos a]; exact hj _ (by simp; omega)
  · rw [if_neg a]
    by_cases b : v > 7
    · rw [if_pos b]; exact hj _ (by simp; omega)
    · rw [if_neg b, psize_in (by omega) (by omega), Option.bind_some]
      exact hj _ (by simp; omega)
/-! The reference's check. -/
theorem rsize_go (d : Nat) : ∀ (k i : Nat) (x : Int), i + d ≤ 7 → d < k → bitloftref11_Size.l0 k ((i + d : Nat) : Int) (16 * 2 ^ i) (i : Int) = some (16 * 2 ^ (i + d)) := by
  induction d with
  | zero =>
    intro k i x hd hk
    obtain ⟨k, rfl⟩ : ∃ q, k = q + 1 := ⟨k - 1, by omega⟩
    simp only [bitloftref11_Size.l0]
    rw [if_neg (by omega)]; rfl
  | succ d ih =>
    intro k i x hd hk
    obtain ⟨k, rfl⟩ : ∃ q, k = q + 1 := ⟨k - 1, by omega⟩
    simp only [bitloftref11_Size.l0]
    have hp : (2 : Int) ^ i ≤ 128 := by
      have h : ∀ m : Fin 8, (2 : Int) ^ m.val ≤ 128 := by decide
      exact h ⟨i, by omega⟩
    have hq : (0 : Int) ≤ 2 ^ i := by
      have h : ∀ m : Fin 8, (0 : Int) ≤ 2 ^ m.val := by decide
      exact h ⟨i, by omega⟩
    rw [if_pos (by omega), w64 (by omega), w64 (by omega)]
    have := ih k (i + 1) x (by omega) (by omega)
    rw [show i + 1 + d = i + (d + 1) from by omega] at this
    rw [show (16 : Int) * 2 ^ i * 2 = 16 * 2 ^ (i + 1) from by rw [Int.pow_succ]; omega]
    exact this
theorem rsize_in {v : Int} (h0 : 0 ≤ v) (h1 : v ≤ 7) {k : Nat} (hk : 10 ≤ k) : bitloftref11_Size.f k v = some (16 * 2 ^ v.toNat) := by
  obtain ⟨n, rfl⟩ := Int.eq_ofNat_of_zero_le h0
  have := rsize_go n k 0 0 (by omega) (by omega)
  simp only [Nat.zero_add] at this
  exact this
theorem rlevel (v : Int) : bitloftref11_Level.f v = some (decide (0 ≤ v ∧ v ≤ 7)) := by
  unfold bitloftref11_Level.f
  by_cases a : v ≥ 0
  · rw [if_pos a]; simp; omega
  · rw [if_neg a]; simp; omega
theorem rchk1_go {l : List S42} {v : Int} {i : Nat} (hi : i < l.length) (hl : l.length ≤ 5000) {R : Option Int} {K : Nat} (hR : ∀ k, K ≤ k → bitloftref11_Check.l0 k ((i + 1 : Nat) : Int) v l = R) (d : Nat) :
    ∀ (k j : Nat), j + d = 15 → K + d < k → bitloftref11_Check.l1 k (i : Int) (j : Int) v l = if ∀ x ∈ (sts (rd_T42 l (i : Int))).drop j, x < 193 then R else some 8 := by
  induction d with
  | zero =>
    intro k j hd hk
    obtain ⟨k, rfl⟩ : ∃ q, k = q + 1 := ⟨k - 1, by omega⟩
    simp only [bitloftref11_Check.l1]
    rw [if_neg (by omega), w64 (by omega), show (i : Int) + 1 = ((i + 1 : Nat) : Int) from rfl, hR k (by omega), List.drop_of_length_le (by show 15 ≤ j; omega), if_pos (by simp)]
  | succ d ih =>
    intro k j hd hk
    obtain ⟨k, rfl⟩ : ∃ q, k = q + 1 := ⟨k - 1, by omega⟩
    simp only [bitloftref11_Check.l1]
    rw [if_pos (by omega), if_pos (by omega), if_pos (by omega), if_pos (by omega)]
    unfold bitloftref08_State.f
    rw [Option.bind_some, w64 (by omega), show (j : Int) + 1 = ((j + 1 : Nat) : Int) from rfl, ih k (j + 1) (by omega) (by omega)]
    rw [sdrop_rd (l := sts (rd_T42 l (i : Int))) (i := j) (by show j < 15; omega)]
    simp only [List.forall_mem_cons]
    show (if decide (rd (sts (rd_T42 l (i : Int))) (j : Int) < 193) = true then _ else _) = _
    by_cases y : rd (sts (rd_T42 l (i : Int))) (j : Int) < 193
    · rw [if_pos (by simpa using y)]; simp [y]
    · rw [if_neg (by simpa using y), if_neg (fun z => y z.1)]
theorem rchk_go {l : List S42} {v : Int} (hl : l.length ≤ 5000) (d : Nat) : ∀ (k i : Nat), i + d = l.length → d * 20 < k → bitloftref11_Check.l0 k (i : Int) v l = some (if ∀ s ∈ l.drop i, okS s then 0 else 8) := by
  induction d with
  | zero =>
    intro k i hd hk
    obtain ⟨k, rfl⟩ : ∃ q, k = q + 1 := ⟨k - 1, by omega⟩
    simp only [bitloftref11_Check.l0]
    rw [if_neg (by omega), List.drop_of_length_le (by omega), if_pos (by simp)]
  | succ d ih =>
    intro k i hd hk
    obtain ⟨k, rfl⟩ : ∃ q, k = q + 1 := ⟨k - 1, by omega⟩
    simp only [bitloftref11_Check.l0]
    rw [if_pos (by omega), show (0 : Int) = ((0 : Nat) : Int) from rfl, rchk1_go (by omega) hl (K := d * 20 + 1) (fun q hq => ih q (i + 1) (by omega) (by omega)) 15 k 0 (by omega) (by omega), drop_rt (l := l) (i := i) (by omega)]
    simp only [List.forall_mem_cons, List.drop_zero]
    by_cases y : okS (rd_T42 l (i : Int))
    · rw [if_pos (show ∀ x ∈ sts (rd_T42 l (i : Int)), x < 193 from y)]; simp [y]
    · rw [if_neg (show ¬ ∀ x ∈ sts (rd_T42 l (i : Int)), x < 193 from y), if_neg (fun z => y z.1)]
theorem rchk {v : Int} {l : List S42} (hl : l.length ≤ 5000) {k : Nat} (hk : l.length * 20 + 30 ≤ k) : bitloftref11_Check.f k v l = some (if good v l then 0 else 8) := by
  have hj : ∀ z : Bool, (z = true ↔ ¬ (0 ≤ v ∧ v ≤ 7 ∧ (l.length : Int) = 16 * 2 ^ v.toNat)) → bitloftref11_Check.j0 k z v l = some (if good v l then 0 else 8) := by
    intro z hz
    obtain ⟨k, rfl⟩ : ∃ q, k = q + 1 := ⟨k - 1, by omega⟩
    simp only [bitloftref11_Check.j0]
    by_cases y : 0 ≤ v ∧ v ≤ 7 ∧ (l.length : Int) = 16 * 2 ^ v.toNat
    · rw [if_neg (fun x => hz.mp x y)]
      have := rchk_go (v := v) hl l.length k 0 (by omega) (by omega)
      rw [List.drop_zero] at this
      exact (show bitloftref11_Check.l0 k 0 v l = _ from this).trans (congrArg some (if_iff ⟨fun z => ⟨y, z⟩, fun z => z.2⟩))
    · rw [if_pos (hz.mpr y), if_neg (fun x => y x.1)]
  unfold bitloftref11_Check.f
  rw [rlevel, Option.bind_some]
  by_cases a : 0 ≤ v ∧ v ≤ 7
  · rw [if_pos (by simpa using a), rsize_in a.1 a.2 (by omega), Option.bind_some]
    exact hj _ (by simp; omega)
  · rw [if_neg (by simpa using a)]
    exact hj _ (by simp; omega)
theorem u8_in {x : Int} (h : (Lit.int .u8 x).wf = true) : 0 ≤ x ∧ x ≤ 255 := by
  simp only [Lit.wf, IntKind.min, IntKind.max, IntKind.signed, IntKind.bits, Bool.and_eq_true] at h
  simp at h
  omega
def cnt (s : Int) : Int × Int × Int := if s = 0 then (0, 0, 0) else if s ≤ 96 then ((s - 1) / 8 + 1, (s - 1) % 8, 0) else ((s - 1) % 8, (s - 1) / 8 - 11, 1)
theorem count_in {s : Int} (h0 : 0 ≤ s) (h1 : s ≤ 192) : states_Count.f s = some ((cnt s).1, (cnt s).2.1, (cnt s).2.2, 0) := by
  unfold states_Count.f cnt
  rw [if_neg (by omega), if_neg (by omega)]
  by_cases z : s = 0
  · rw [if_pos z, if_pos z]
  · rw [if_neg z, if_neg z]
    by_cases y : s ≤ 96
    · rw [if_pos y, if_pos y]
      have : (s - 1) / 8 % 12 = (s - 1) / 8 := by omega
      rw [this]
    · rw [if_neg y, if_neg y]
      have : (s - 1) / 8 % 12 + 1 = (s - 1) / 8 - 11 := by omega
      rw [this]
theorem back_in {s : Int} (h0 : 0 ≤ s) (h1 : s ≤ 192) : bitloftref08_Back.f s = some (cnt s) := by
  unfold bitloftref08_Back.f cnt
  by_cases z : s = 0
  · rw [if_pos z, if_pos z]
  · rw [if_neg z, if_neg z, w32 (x := s) (by omega), w32 (x := s - 1) (by omega), Int.tdiv_eq_ediv_of_nonneg (by omega), Int.tmod_eq_emod_of_nonneg (by omega), w32 (x := (s - 1) / 8) (by omega)]
    by_cases y : s ≤ 96
    · rw [if_pos y, if_pos (by omega), w32 (by omega)]
    · rw [if_neg y, if_neg (by omega), w32 (x := (s - 1) / 8 - 12) (by omega), w32 (by omega), show (s - 1) / 8 - 12 + 1 = (s - 1) / 8 - 11 from by omega]
def home (l : List S42) (h : Int) : Int := h % (l.length : Int)
def bs (p : Int) : Int := if p % 2 = 0 then p + 1 else p - 1
def seen (x : Int) : Int := (cnt x).1 + (cnt x).2.1
def pr (l : List S42) (p : Int) : Int := seen (rd_T42 l p).f1.f0
def ck (h : Int) : Int := h / 16777216
def look (l : List S42) (h : Int) : Int × Bool :=
  if (rd_T42 l (home l h)).f0 = ck h then (home l h, true) else if (rd_T42 l (bs (home l h))).f0 = ck h then (bs (home l h), true)
  else if pr l (bs (home l h)) < pr l (home l h) then (bs (home l h), false) else (home l h, false)
def fnd (l : List S42) (h : Int) : List S42 := if (look l h).2 = true then l else l.set (look l h).1.toNat ⟨ck h, (⟨0, 0, 0, 0, 0, 0, 0, 0, 0, 0, 0, 0, 0, 0, 0⟩ : S40)⟩
theorem good_len {v : Int} {l : List S42} (g : good v l) : ∃ n : Fin 8, l.length = 16 * 2 ^ n.val := by
  obtain ⟨⟨h0, h1, h2⟩, _⟩ := g
  obtain ⟨n, rfl⟩ := Int.eq_ofNat_of_zero_le h0
  refine ⟨⟨n, by omega⟩, ?_⟩
  show l.length = 16 * 2 ^ n
  have : (l.length : Int) = ((16 * 2 ^ n : Nat) : Int) := by rw [h2]; simp
  omega
theorem good_bd {v : Int} {l : List S42} (g : good v l) : 16 ≤ l.length ∧ l.length ≤ 2048 ∧ l.length % 2 = 0 := by
  obtain ⟨n, hn⟩ := good_len g
  have h : ∀ n : Fin 8, 16 ≤ 16 * 2 ^ n.val ∧ 16 * 2 ^ n.val ≤ 2048 ∧ 16 * 2 ^ n.val % 2 = 0 := by decide
  rw [hn]; exact h n
theorem home_bd {v : Int} {l : List S42} (g : good v l) (h : Int) : 0 ≤ home l h ∧ home l h < l.length := by
  have := good_bd g
  unfold home
  exact ⟨Int.emod_nonneg _ (by omega), Int.emod_lt_of_pos _ (by omega)⟩
theorem bs_bd {v : Int} {l : List S42} (g : good v l) {p : Int} (h0 : 0 ≤ p) (h1 : p < l.length) : 0 ≤ bs p ∧ bs p < l.length := by
  have := good_bd g
  unfold bs
  split <;> omega
theorem look_bd {v : Int} {l : List S42} (g : good v l) (h : Int) : 0 ≤ (look l h).1 ∧ (look l h).1 < l.length := by
  have a := home_bd g h
  have b := bs_bd g a.1 a.2
  unfold look
  split
  · exact a
  · split
    · exact b
    · split
      · exact b
      · exact a
theorem wraps_i64 (n : Int) (h0 : 0 ≤ n) (h1 : n < 2 ^ 63) : IntKind.i64.wrap n = n := by rw [IntKind.wrap_i64]; omega
theorem place_in {v : Int} {l : List S42} (g : good v l) {h : Int} (h0 : 0 ≤ h) (h1 : h < 4294967296) : hashes_Place.f h (l.length : Int) = some (home l h, 0) := by
  have bd := good_bd g
  obtain ⟨n, hn⟩ := good_len g
  have hz : ∀ n : Fin 8, Go.bits .and .i64 ((16 * 2 ^ n.val : Nat) : Int) (((16 * 2 ^ n.val : Nat) : Int) - 1) = 0 := by decide +kernel
  have hp : ∀ n : Fin 8, (((16 * 2 ^ n.val : Nat) : Int) - 1) = 2 ^ (n.val + 4) - 1 ∧ ((16 * 2 ^ n.val : Nat) : Int) = 2 ^ (n.val + 4) := by decide
  unfold hashes_Place.f home
  rw [if_neg (by omega), if_neg (by omega), w64 (x := (l.length : Int) - 1) (by omega), hn, if_pos (hz n), w64 (by omega), (hp n).1, bits_mask .i64 63 (by decide) wraps_i64 (n.val + 4) (by omega) h h0 (by omega), (hp n).2]
theorem pck {h : Int} (h0 : 0 ≤ h) (h1 : h < 4294967296) : hashes_Check.f h = some (ck h) := by
  unfold hashes_Check.f ck
  rw [Int.emod_eq_of_lt (by omega) (by omega)]
theorem xor_in {p : Int} (h0 : 0 ≤ p) (h1 : p < 2048) : Go.bits .xor .i64 p 1 = bs p := by
  obtain ⟨n, rfl⟩ := Int.eq_ofNat_of_zero_le h0
  have h : ∀ i j : Fin 64, ((i.val * 64 + j.val < 2048)) → Go.bits .xor .i64 ((i.val * 64 + j.val : Nat) : Int) 1 = bs ((i.val * 64 + j.val : Nat) : Int) := by decide +kernel
  have := h ⟨n / 64, by omega⟩ ⟨n % 64, by omega⟩
  dsimp only at this
  rw [show n / 64 * 64 + n % 64 = n from by omega] at this
  exact this (by omega)
theorem cnt_bd {s : Int} (h0 : 0 ≤ s) (h1 : s ≤ 192) : 0 ≤ (cnt s).1 ∧ (cnt s).1 ≤ 12 ∧ 0 ≤ (cnt s).2.1 ∧ (cnt s).2.1 ≤ 13 := by
  unfold cnt
  split
  · decide
  · split <;> (dsimp only; omega)
theorem total_in {s : Int} (h0 : 0 ≤ s) (h1 : s ≤ 192) : states_Total.f s = some (seen s, 0) := by
  have b := cnt_bd h0 h1
  unfold states_Total.f seen
  rw [count_in h0 h1, Option.bind_some, w32 (by dsimp only; omega)]
theorem prio_in {s : Int} (h0 : 0 ≤ s) (h1 : s ≤ 192) (c a1 a2 a3 a4 a5 a6 a7 a8 a9 a10 a11 a12 a13 a14 : Int) : slots_priority.f c s a1 a2 a3 a4 a5 a6 a7 a8 a9 a10 a11 a12 a13 a14 = some (seen s) := by
  unfold slots_priority.f
  rw [total_in h0 h1, Option.bind_some]
theorem st0 {v : Int} {l : List S42} (g : good v l) (hw : ∀ s ∈ l, wf42 s) {p : Int} (h0 : 0 ≤ p) (h1 : p < l.length) : 0 ≤ (rd_T42 l p).f1.f0 ∧ (rd_T42 l p).f1.f0 ≤ 192 := by
  have m := rt_mem h0 h1
  have a := u8_in (hw _ m).2.1
  have b := g.2 _ m (rd_T42 l p).f1.f0 (by simp [sts])
  omega
theorem pfind_j {v : Int} {l : List S42} {p c : Int} (h0 : 0 ≤ p) (h1 : p < l.length) {k : Nat} (hk : 0 < k) : slots_Find.j0 k p c v l = some (v, l.set p.toNat ⟨c, (⟨0, 0, 0, 0, 0, 0, 0, 0, 0, 0, 0, 0, 0, 0, 0⟩ : S40)⟩, p, 0) := by
  obtain ⟨k, rfl⟩ : ∃ q, k = q + 1 := ⟨k - 1, by omega⟩
  simp only [slots_Find.j0]
  rw [if_pos h0, if_pos h1]
theorem pfind_in {v : Int} {l : List S42} (g : good v l) (hw : ∀ s ∈ l, wf42 s) {h : Int} (h0 : 0 ≤ h) (h1 : h < 4294967296) {k : Nat} (hk : 4000 ≤ k) : slots_Find.f k v l h = some (v, fnd l h, (look l h).1, 0) := by
  have bd := good_bd g
  have a := home_bd g h
  have b := bs_bd g a.1 a.2
  have s := st0 g hw a.1 a.2
  have t := st0 g hw b.1 b.2
  unfold slots_Find.f
  rw [pchk (by omega) (by omega), Option.bind_some, if_pos g, if_pos rfl, place_in g h0 h1, Option.bind_some]
  dsimp only
  rw [if_pos rfl, pck h0 h1, Option.bind_some]
  unfold slices_Clone_api_Slot_api_Slot.f
  rw [if_pos (by omega), Option.bind_some, if_pos a.1, if_pos a.2, xor_in a.1 (by omega)]
  unfold fnd look
  by_cases x : (rd_T42 l (home l h)).f0 = ck h
  · rw [if_pos x, if_pos x]; rfl
  · rw [if_neg x, if_neg x, if_pos b.1, if_pos b.2]
    by_cases y : (rd_T42 l (bs (home l h))).f0 = ck h
    · rw [if_pos y, if_pos y]; rfl
    · rw [if_neg y, if_neg y, prio_in t.1 t.2, Option.bind_some, prio_in s.1 s.2, Option.bind_some]
      show (if pr l (bs (home l h)) < pr l (home l h) then _ else _) = _
      by_cases z : pr l (bs (home l h)) < pr l (home l h)
      · rw [if_pos z, if_pos z, pfind_j b.1 b.2 (by omega)]; rfl
      · rw [if_neg z, if_neg z, pfind_j a.1 a.2 (by omega)]; rfl
theorem pfind_out {v : Int} {l : List S42} (hl : l.length ≤ 2100) (g : ¬ good v l) {h : Int} {k : Nat} (hk : 4000 ≤ k) : slots_Find.f k v l h = some (0, [], 0, 8) := by
  unfold slots_Find.f
  rw [pchk (by omega) (by omega), Option.bind_some, if_neg g, if_neg (by decide)]
theorem beside_in {p : Int} (h0 : 0 ≤ p) (h1 : p < 2048) : bitloftref11_Beside.f p = some (bs p) := by
  unfold bitloftref11_Beside.f bs
  rw [Int.tmod_eq_emod_of_nonneg h0]
  split
  · rw [w64 (by omega)]
  · rw [w64 (by omega)]
theorem rck {h : Int} (h0 : 0 ≤ h) (h1 : h < 4294967296) : bitloftref06_Check.f h = some (ck h) := by
  unfold bitloftref06_Check.f ck
  rw [Int.tdiv_eq_ediv_of_nonneg (by omega), Int.emod_eq_of_lt (a := h / 16777216) (by omega) (by omega), Int.emod_eq_of_lt (by omega) (by omega)]
theorem seen_in {s : Int} (h0 : 0 ≤ s) (h1 : s ≤ 192) : bitloftref08_Seen.f s = some (seen s) := by
  have b := cnt_bd h0 h1
  unfold bitloftref08_Seen.f seen
  rw [back_in h0 h1, Option.bind_some, Option.bind_some, w32 (by omega)]
theorem rprio_in {s : Int} (h0 : 0 ≤ s) (h1 : s ≤ 192) (c a1 a2 a3 a4 a5 a6 a7 a8 a9 a10 a11 a12 a13 a14 : Int) : bitloftref11_Priority.f c s a1 a2 a3 a4 a5 a6 a7 a8 a9 a10 a11 a12 a13 a14 = some (seen s) := by
  unfold bitloftref11_Priority.f
  rw [seen_in h0 h1, Option.bind_some]
theorem rlook_in {v : Int} {l : List S42} (g : good v l) (hw : ∀ s ∈ l, wf42 s) {h : Int} (h0 : 0 ≤ h) (h1 : h < 4294967296) : bitloftref11_Look.f v l h = some (look l h) := by
  have bd := good_bd g
  have a := home_bd g h
  have b := bs_bd g a.1 a.2
  have s := st0 g hw a.1 a.2
  have t := st0 g hw b.1 b.2
  have e : wrap64 (Int.tmod h ((l.length : Int) % 4294967296)) = home l h := by
    rw [Int.emod_eq_of_lt (a := (l.length : Int)) (by omega) (by omega), Int.tmod_eq_emod_of_nonneg h0]
    exact w64 (by unfold home at a; omega)
  unfold bitloftref11_Look.f
  rw [Int.emod_eq_of_lt (a := (l.length : Int)) (by omega) (by omega)] at e ⊢
  rw [if_neg (by omega), e, beside_in a.1 (by omega), Option.bind_some, rck h0 h1, Option.bind_some, if_pos a.1, if_pos a.2]
  unfold look
  by_cases x : (rd_T42 l (home l h)).f0 = ck h
  · rw [if_pos x, if_pos x]
  · rw [if_neg x, if_neg x, if_pos b.1, if_pos b.2]
    by_cases y : (rd_T42 l (bs (home l h))).f0 = ck h
    · rw [if_pos y, if_pos y]
    · rw [if_neg y, if_neg y, rprio_in t.1 t.2, Option.bind_some, rprio_in s.1 s.2, Option.bind_some]
      show (if pr l (bs (home l h)) < pr l (home l h) then _ else _) = _
      by_cases z : pr l (bs (home l h)) < pr l (home l h)
      · rw [if_pos z, if_pos z]
      · rw [if_neg z, if_neg z]
theorem twin_in {v : Int} {l : List S42} (hl : l.length ≤ 2100) : bitloftref11_Twin.f v l = some (v, l) := by
  unfold bitloftref11_Twin.f
  rw [Option.bind_some, if_pos (by simp only [List.length_nil]; omega)]; rfl
theorem rfind_in {v : Int} {l : List S42} (g : good v l) (hw : ∀ s ∈ l, wf42 s) {h : Int} (h0 : 0 ≤ h) (h1 : h < 4294967296) {k : Nat} (hk : 50000 ≤ k) : bitloftref11_Find.f k v l h = some (v, fnd l h, (look l h).1, 0) := by
  have bd := good_bd g
  have b := look_bd g h
  unfold bitloftref11_Find.f
  rw [rchk (by omega) (by omega), Option.bind_some, if_pos g, if_pos rfl]
  unfold bitloftref11_Found.f
  rw [twin_in (by omega), Option.bind_some, rlook_in g hw h0 h1, Option.bind_some]
  unfold fnd
  by_cases x : (look l h).2 = true
  · rw [if_pos x, if_pos x]; rfl
  · rw [if_neg x, if_neg x, rck h0 h1, Option.bind_some, if_pos b.1, if_pos b.2]; rfl
theorem rfind_out {v : Int} {l : List S42} (hl : l.length ≤ 2100) (g : ¬ good v l) {h : Int} {k : Nat} (hk : 50000 ≤ k) : bitloftref11_Find.f k v l h = some (0, [], 0, 8) := by
  unfold bitloftref11_Find.f
  rw [rchk (by omega) (by omega), Option.bind_some, if_neg g, if_neg (by decide)]
theorem same_go {l : List S42} (v : Int) (hl : l.length ≤ 5000) (d : Nat) : ∀ (k i : Nat), i + d = l.length → d < k → bitloftref11_Same.l0 k (i : Int) v l v l = some true := by
  induction d with
  | zero =>
    intro k i hd hk
    obtain ⟨k, rfl⟩ : ∃ q, k = q + 1 := ⟨k - 1, by omega⟩
    simp only [bitloftref11_Same.l0]
    rw [if_neg (by omega)]
  | succ d ih =>
    intro k i hd hk
    obtain ⟨k, rfl⟩ : ∃ q, k = q + 1 := ⟨k - 1, by omega⟩
    simp only [bitloftref11_Same.l0]
    rw [if_pos (by omega), if_pos (by omega), if_pos (by omega)]
    simp only [beq_self_eq_true, Bool.not_true, Bool.or_false, Bool.false_eq_true, if_false]
    rw [w64 (by omega), show (i : Int) + 1 = ((i + 1 : Nat) : Int) from rfl]
    exact ih k (i + 1) (by omega) (by omega)
theorem same_in {v : Int} {l : List S42} (hl : l.length ≤ 5000) {k : Nat} (hk : l.length + 2 ≤ k) : bitloftref11_Same.f k v l v l = some true := by
  obtain ⟨k, rfl⟩ : ∃ q, k = q + 1 := ⟨k - 1, by omega⟩
  unfold bitloftref11_Same.f
  rw [if_pos rfl]
  simp only [bitloftref11_Same.j0]
  rw [if_neg (by simp)]
  exact same_go v hl l.length k 0 (by omega) (by omega)
theorem pnew_in {a : Int} (h0 : 0 ≤ a) (h1 : a ≤ 7) : slots_New.f a = some (a, List.replicate (16 * 2 ^ a.toNat : Int).toNat z42, 0) := by
  have p := pow_le h0 h1
  unfold slots_New.f
  rw [if_neg (by omega), if_neg (by omega), psize_in h0 h1, Option.bind_some, if_pos (by omega), if_pos (by omega)]
theorem pnew_out {a : Int} (h : ¬ (0 ≤ a ∧ a ≤ 7)) : slots_New.f a = some (0, [], 2) := by
  unfold slots_New.f
  by_cases x : a < 0
  · rw [if_pos x]
  · rw [if_neg x, if_pos (by omega)]
theorem rnew_in {a : Int} (h0 : 0 ≤ a) (h1 : a ≤ 7) {k : Nat} (hk : 10 ≤ k) : bitloftref11_New.f k a = some (a, List.replicate (16 * 2 ^ a.toNat : Int).toNat z42, 0) := by
  have p := pow_le h0 h1
  unfold bitloftref11_New.f bitloftref11_Begin.f
  rw [rlevel, Option.bind_some, if_pos (by simpa using ⟨h0, h1⟩), rsize_in h0 h1 hk, Option.bind_some, if_pos (by omega), if_pos (by omega), Option.bind_some]
theorem rnew_out {a : Int} (h : ¬ (0 ≤ a ∧ a ≤ 7)) (k : Nat) : bitloftref11_New.f k a = some (0, [], 2) := by
  unfold bitloftref11_New.f
  rw [rlevel, Option.bind_some, if_neg (by simpa using h)]
theorem finds_go {v c p e : Int} {t : List S42} (ht : t.length ≤ 5000) (d : Nat) : ∀ (k i : Nat) (own : List S42), own.length ≤ 5000 → i + d = own.length → d + t.length + 10 < k → bitloftlaw11_SlotsFinds.l0 k p e p e (i : Int) v own c t c t = some true := by
  induction d with
  | zero =>
    intro k i own ho hd hk
    obtain ⟨k, rfl⟩ : ∃ q, k = q + 1 + 1 := ⟨k - 2, by omega⟩
    simp only [bitloftlaw11_SlotsFinds.l0]
    rw [if_neg (by omega), same_in ht (by omega), Option.bind_some, if_pos rfl, if_pos trivial]
    simp [bitloftlaw11_SlotsFinds.j2]
  | succ d ih =>
    intro k i own ho hd hk
    obtain ⟨k, rfl⟩ : ∃ q, k = q + 1 := ⟨k - 1, by omega⟩
    simp only [bitloftlaw11_SlotsFinds.l0]
    rw [if_pos (by omega), if_pos (by omega), w64 (by omega), show (i : Int) + 1 = ((i + 1 : Nat) : Int) from rfl]
    exact ih k (i + 1) _ (by rw [List.length_set]; exact ho) (by rw [List.length_set]; omega) (by omega)
theorem u32_in {x : Int} (h : (Lit.int .u32 x).wf = true) : 0 ≤ x ∧ x < 4294967296 := by
  simp only [Lit.wf, IntKind.min, IntKind.max, IntKind.signed, IntKind.bits, Bool.and_eq_true] at h
  simp at h
  omega
theorem fnd_len (l : List S42) (h : Int) : (fnd l h).length = l.length := by
  unfold fnd
  split
  · rfl
  · exact List.length_set
/-- Both searches answer alike. -/
theorem find_both {v h : Int} {l : List S42} (hl : l.length ≤ 2100) (hw : ∀ s ∈ l, wf42 s) (h0 : 0 ≤ h) (h1 : h < 4294967296) : ∃ (c : Int) (t : List S42) (p e : Int), t.length ≤ 2100 ∧ ∀ k, 50000 ≤ k → slots_Find.f k v l h = some (c, t, p, e) ∧ bitloftref11_Find.f k v l h = some (c, t, p, e) := by
  by_cases g : good v l
  · exact ⟨v, fnd l h, (look l h).1, 0, by rw [fnd_len]; exact hl, fun k hk => ⟨pfind_in g hw h0 h1 (by omega), rfind_in g hw h0 h1 hk⟩⟩
  · exact ⟨0, [], 0, 8, by simp, fun k hk => ⟨pfind_out hl g (by omega), rfind_out hl g hk⟩⟩
theorem new_both (a : Int) : ∃ (c : Int) (t : List S42) (e : Int), t.length ≤ 5000 ∧ ∀ k, 50000 ≤ k → slots_New.f a = some (c, t, e) ∧ bitloftref11_New.f k a = some (c, t, e) := by
  by_cases g : 0 ≤ a ∧ a ≤ 7
  · have p := pow_le g.1 g.2
    exact ⟨a, _, 0, by rw [List.length_replicate]; omega, fun k hk => ⟨pnew_in g.1 g.2, rnew_in g.1 g.2 (by omega)⟩⟩
  · exact ⟨0, [], 2, by simp, fun k hk => ⟨pnew_out g, rnew_out g k⟩⟩
theorem SlotsFinds : bitloftlaw11_SlotsFinds.Pure := by
  intro a v l h _ _ _ hw hh
  have hb := u32_in hh
  by_cases gr : l.length > 2100
  · refine ⟨0, ?_⟩
    unfold bitloftlaw11_SlotsFinds.f bitloftref11_Great.f
    rw [Option.bind_some, if_pos (by rw [decide_eq_true_eq]; omega)]
  · have hl : l.length ≤ 2100 := by omega
    obtain ⟨c, t, p, e, ht, hf⟩ := find_both (v := v) hl hw hb.1 hb.2
    obtain ⟨c', t', e', ht', hn⟩ := new_both a
    obtain ⟨K, hK⟩ : ∃ K : Nat, K = 60000 := ⟨_, rfl⟩
    refine ⟨K, ?_⟩
    have fk := hf K (by omega)
    have nk := hn K (by omega)
    unfold bitloftlaw11_SlotsFinds.f bitloftref11_Great.f
    rw [Option.bind_some, if_neg (by rw [decide_eq_true_eq]; omega), twin_in hl, Option.bind_some, nk.1, Option.bind_some, nk.2, Option.bind_some, fk.1, Option.bind_some, fk.2, Option.bind_some]
    dsimp only
    rw [same_in ht' (by omega), Option.bind_some, if_pos rfl, if_pos rfl, pchk (by omega) (by omega), Option.bind_some, rchk (by omega) (by omega), Option.bind_some, if_pos rfl, same_in (by omega) (by omega), Option.bind_some]
    obtain ⟨k, rfl⟩ : ∃ q, K = q + 1 := ⟨K - 1, by omega⟩
    simp only [bitloftlaw11_SlotsFinds.j0]
    rw [if_neg (by decide)]
    exact finds_go (by omega) l.length k 0 l (by omega) (by omega) (by omega)
end Go.Proofs.Ytaomhenneenaaaa.Pure
