/- What Protect has told of a list brings it back, where no group has lost more than one, and tells ErrLost otherwise. -/
import Derived.Test.YtejamobohmljfaaDoorXParityRecoversx6
import Derived.OpenShut
set_option linter.unusedVariables false
set_option linter.unusedSimpArgs false
namespace Go.Proofs.YtejamobohmljfaaDoor.Pure
open Go.RowKit Go.Proofs.YtejamobohmljfaaDoor.XParityRecovers Go.Proofs.YtejamobohmljfaaDoorW.PrintWords Go.Proofs.YtejamobohmljfaaDoorW.PrintLast
/-! ### bytes -/
theorem w64_ {x : Int} (h : -9223372036854775808 ≤ x ∧ x ≤ 9223372036854775807) : wrap64 x = x := by unfold wrap64; omega
theorem xor8 (a b : Nat) (ha : a < 256) (hb : b < 256) : bits .xor .u8 (a : Int) (b : Int) = ((a ^^^ b : Nat) : Int) := by
  have hx : a ^^^ b < 2 ^ 8 := Nat.xor_lt_two_pow (by omega) (by omega)
  have e (c : Nat) (hc : c < 256) : (BitVec.ofInt 8 (c : Int)).toNat = c := by
    rw [BitVec.ofInt_natCast, BitVec.toNat_ofNat]; exact Nat.mod_eq_of_lt (by omega)
  show IntKind.u8.wrap ((BitVec.ofInt 8 (a : Int) ^^^ BitVec.ofInt 8 (b : Int)).toNat : Int) = _
  rw [BitVec.toNat_xor, e a ha, e b hb, show IntKind.u8.wrap ((a ^^^ b : Nat) : Int) = ((a ^^^ b : Nat) : Int) % 256 by simp [IntKind.wrap, IntKind.bits, IntKind.signed]]
  omega
def isB (l : List Int) : Prop := ∀ x ∈ l, 0 ≤ x ∧ x ≤ 255
def nn (l : List Int) (i : Nat) : Nat := (rd l (i : Int)).toNat
/-- A string in its frame, place by place. -/
def nd (s : List Int) (i : Nat) : Nat := if i = 0 then s.length / 256 % 256 else if i = 1 then s.length % 256 else nn s (i - 2)
theorem rdn (l : List Int) (i : Nat) : rd l (i : Int) = l.getD i 0 := by unfold rd; rw [Int.toNat_natCast]
theorem rd_in (l : List Int) (i : Nat) (h : i < l.length) : rd l (i : Int) = l[i] := by
  rw [rdn, List.getD_eq_getElem?_getD, List.getElem?_eq_getElem h]; rfl
theorem rd_out (l : List Int) (i : Nat) (h : l.length ≤ i) : rd l (i : Int) = 0 := by
  rw [rdn, List.getD_eq_getElem?_getD, List.getElem?_eq_none h]; rfl
theorem isB_rd {l : List Int} (h : isB l) (i : Nat) : 0 ≤ rd l (i : Int) ∧ rd l (i : Int) ≤ 255 := by
  by_cases hi : i < l.length
  · rw [rd_in l i hi]; exact h _ (List.getElem_mem hi)
  · rw [rd_out l i (by omega)]; omega
theorem nn_lt {l : List Int} (h : isB l) (i : Nat) : nn l i < 256 := by have := isB_rd h i; unfold nn; omega
theorem nn_rd {l : List Int} (h : isB l) (i : Nat) : rd l (i : Int) = (nn l i : Int) := by have := isB_rd h i; unfold nn; omega
theorem nn_out (l : List Int) (i : Nat) (h : l.length ≤ i) : nn l i = 0 := by unfold nn; rw [rd_out l i h]; rfl
theorem nd_lt {s : List Int} (h : isB s) (i : Nat) : nd s i < 256 := by
  unfold nd
  split
  · exact Nat.mod_lt _ (by omega)
  · split
    · exact Nat.mod_lt _ (by omega)
    · exact nn_lt h _
theorem nd_out (s : List Int) (i : Nat) (h : s.length + 2 ≤ i) : nd s i = 0 := by
  unfold nd
  rw [if_neg (by omega), if_neg (by omega), nn_out _ _ (by omega)]
theorem xlt {a b : Nat} (ha : a < 256) (hb : b < 256) : a ^^^ b < 256 := by
  have : a ^^^ b < 2 ^ 8 := Nat.xor_lt_two_pow (by omega) (by omega)
  omega
theorem list_ext {a b : List Int} (hl : a.length = b.length) (h : ∀ i : Nat, i < a.length → rd a (i : Int) = rd b (i : Int)) : a = b := by
  apply List.ext_getElem hl
  intro i h1 h2
  have := h i h1
  rwa [rd_in a i h1, rd_in b i h2] at this
theorem isB_of {l : List Int} (h : ∀ i : Nat, i < l.length → 0 ≤ rd l (i : Int) ∧ rd l (i : Int) ≤ 255) : isB l := by
  intro x hx
  obtain ⟨i, hi, rfl⟩ := List.getElem_of_mem hx
  have := h i hi
  rwa [rd_in l i hi] at this
theorem isB_nil : isB [] := fun x hx => absurd hx (by simp)
/-! ### add -/
theorem rd_set_ (L : List Int) (i k : Nat) (v : Int) (h : i < L.length) : rd (L.set i v) (k : Int) = if k = i then v else rd L (k : Int) := by
  rw [rdn, rdn, List.getD_eq_getElem?_getD, List.getD_eq_getElem?_getD]
  by_cases e : k = i
  · subst e; rw [if_pos rfl, List.getElem?_set_self h]; rfl
  · rw [if_neg e, List.getElem?_set_ne (by omega)]
theorem row_rd {xs s : List Int} (hx : isB xs) (hs : isB s) (h : s.length + 2 ≤ xs.length) : ∀ k : Nat, k ≤ s.length → ∀ i : Nat, rd (parity_add.row xs s k) (i : Int) = if i < k + 2 then ((nn xs i ^^^ nd s i : Nat) : Int) else rd xs (i : Int)
  | 0, _, i => by
    have e0 : (s.length : Int) / 256 % 256 = ((s.length / 256 % 256 : Nat) : Int) := by omega
    have e1 : (s.length : Int) % 256 = ((s.length % 256 : Nat) : Int) := by omega
    have r0 : rd xs 0 = (nn xs 0 : Int) := nn_rd hx 0
    have r1 : rd xs 1 = (nn xs 1 : Int) := nn_rd hx 1
    rw [parity_add.row, e0, e1, r0, r1, xor8 _ _ (nn_lt hx 0) (Nat.mod_lt _ (by omega)), xor8 _ _ (nn_lt hx 1) (Nat.mod_lt _ (by omega)), rd_set_ _ 1 i _ (by rw [List.length_set]; omega), rd_set_ _ 0 i _ (by omega)]
    by_cases c1 : i = 1
    · subst c1; rw [if_pos rfl, if_pos (by omega)]; rfl
    · rw [if_neg c1]
      by_cases c0 : i = 0
      · subst c0; rw [if_pos rfl, if_pos (by omega)]; rfl
      · rw [if_neg c0, if_neg (by omega)]
  | k + 1, hk, i => by
    have ih := row_rd hx hs h k (by omega)
    have hl := parity_add.row_len xs s k
    have r0 : rd (parity_add.row xs s k) (2 + (k : Int)) = (nn xs (2 + k) : Int) := by
      rw [show 2 + (k : Int) = ((2 + k : Nat) : Int) by omega, ih (2 + k), if_neg (by omega), nn_rd hx]
    rw [parity_add.row, r0, nn_rd hs k, xor8 _ _ (nn_lt hx _) (nn_lt hs _), rd_set_ _ (2 + k) i _ (by rw [hl]; omega)]
    by_cases c : i = 2 + k
    · subst c
      rw [if_pos rfl, if_pos (by omega)]
      congr 2
      unfold nd
      rw [if_neg (by omega), if_neg (by omega), show 2 + k - 2 = k by omega]
    · rw [if_neg c, ih i]
      by_cases c2 : i < k + 2
      · rw [if_pos c2, if_pos (by omega)]
      · rw [if_neg c2, if_neg (by omega)]
theorem add_rd {xs s : List Int} (hx : isB xs) (hs : isB s) (h : s.length + 2 ≤ xs.length) (i : Nat) : rd (parity_add.row xs s s.length) (i : Int) = ((nn xs i ^^^ nd s i : Nat) : Int) := by
  rw [row_rd hx hs h s.length (Nat.le_refl _) i]
  by_cases c : i < s.length + 2
  · rw [if_pos c]
  · rw [if_neg c, nd_out s i (by omega), Nat.xor_zero, nn_rd hx]
theorem add_B {xs s : List Int} (hx : isB xs) (hs : isB s) (h : s.length + 2 ≤ xs.length) : isB (parity_add.row xs s s.length) := isB_of (fun i _ => by
  have := xlt (nn_lt hx i) (nd_lt hs i)
  rw [add_rd hx hs h]; omega)
theorem nn_of {l : List Int} {i m : Nat} (h : rd l (i : Int) = (m : Int)) : nn l i = m := by unfold nn; omega
/-! ### many strings -/
theorem gD {l : List (List Int)} (hB : ∀ x ∈ l, isB x) (k : Nat) : isB (l.getD k []) := by
  by_cases h : k < l.length
  · rw [List.getD_eq_getElem?_getD, List.getElem?_eq_getElem h]; exact hB _ (List.getElem_mem h)
  · rw [List.getD_eq_getElem?_getD, List.getElem?_eq_none (by omega)]; exact isB_nil
/-- What the first k strings make, place by place. -/
def XA (l : List (List Int)) (i : Nat) : Nat → Nat
  | 0 => 0
  | k + 1 => XA l i k ^^^ nd (l.getD k []) i
/-- The same but for one of them. -/
def XB (l : List (List Int)) (lost : Nat) (i : Nat) : Nat → Nat
  | 0 => 0
  | k + 1 => if k = lost then XB l lost i k else XB l lost i k ^^^ nd (l.getD k []) i
theorem XA_lt {l : List (List Int)} (hB : ∀ x ∈ l, isB x) (i : Nat) : ∀ k, XA l i k < 256
  | 0 => by rw [XA]; omega
  | k + 1 => by rw [XA]; exact xlt (XA_lt hB i k) (nd_lt (gD hB k) i)
theorem XB_lt {l : List (List Int)} (hB : ∀ x ∈ l, isB x) (lost i : Nat) : ∀ k, XB l lost i k < 256
  | 0 => by rw [XB]; omega
  | k + 1 => by
    rw [XB]
    split
    · exact XB_lt hB lost i k
    · exact xlt (XB_lt hB lost i k) (nd_lt (gD hB k) i)
theorem XA_le (l : List (List Int)) (lost i : Nat) : ∀ k, k ≤ lost → XA l i k = XB l lost i k
  | 0, _ => rfl
  | k + 1, h => by rw [XA, XB, if_neg (by omega), XA_le l lost i k (by omega)]
theorem xor_r (a b c : Nat) : a ^^^ b ^^^ c = a ^^^ c ^^^ b := by rw [Nat.xor_assoc, Nat.xor_comm b c, Nat.xor_assoc]
theorem XA_split (l : List (List Int)) (lost i : Nat) : ∀ k, lost < k → XA l i k = XB l lost i k ^^^ nd (l.getD lost []) i
  | 0, h => absurd h (Nat.not_lt_zero _)
  | k + 1, h => by
    rw [XA, XB]
    by_cases c : k = lost
    · subst c; rw [if_pos rfl, XA_le l k i k (Nat.le_refl _)]
    · rw [if_neg c, XA_split l lost i k (by omega), xor_r]
theorem getD_set_ne (l : List (List Int)) (lost k : Nat) (s : List Int) (h : k ≠ lost) : (l.set lost s).getD k [] = l.getD k [] := by
  rw [List.getD_eq_getElem?_getD, List.getD_eq_getElem?_getD, List.getElem?_set_ne (by omega)]
theorem getD_set_eq (l : List (List Int)) (lost : Nat) (s : List Int) (h : lost < l.length) : (l.set lost s).getD lost [] = s := by
  rw [List.getD_eq_getElem?_getD, List.getElem?_set_self h]; rfl
theorem XB_set (l : List (List Int)) (lost i : Nat) (s : List Int) : ∀ k, XB (l.set lost s) lost i k = XB l lost i k
  | 0 => rfl
  | k + 1 => by
    rw [XB, XB]
    by_cases c : k = lost
    · rw [if_pos c, if_pos c, XB_set l lost i s k]
    · rw [if_neg c, if_neg c, XB_set l lost i s k, getD_set_ne _ _ _ _ c]
theorem XA_set {l : List (List Int)} {lost : Nat} (i : Nat) (s : List Int) {k : Nat} (h : lost < k) (hl : lost < l.length) : XA (l.set lost s) i k = XB l lost i k ^^^ nd s i := by
  rw [XA_split _ lost i k h, XB_set, getD_set_eq l lost s hl]
/-! ### sum -/
theorem acc_rd {l : List (List Int)} {m : Nat} (hB : ∀ x ∈ l, isB x) : ∀ k : Nat, (∀ j, j < k → (l.getD j []).length ≤ m) → (isB (parity_sum.acc l m k) ∧ ∀ i : Nat, rd (parity_sum.acc l m k) (i : Int) = ((XA l i k : Nat) : Int))
  | 0, _ => by
    have e : ∀ i : Nat, rd (parity_sum.acc l m 0) (i : Int) = ((XA l i 0 : Nat) : Int) := fun i => by
      rw [parity_sum.acc, XA, rdn, List.getD_eq_getElem?_getD, List.getElem?_replicate]
      split <;> rfl
    exact ⟨isB_of (fun i _ => by rw [e i, XA]; omega), e⟩
  | k + 1, h => by
    obtain ⟨ib, ir⟩ := acc_rd hB k (fun j hj => h j (by omega))
    have hl : (l.getD k []).length + 2 ≤ (parity_sum.acc l m k).length := by rw [parity_sum.acc_len]; have := h k (by omega); omega
    refine ⟨add_B ib (gD hB k) hl, fun i => ?_⟩
    rw [parity_sum.acc, add_rd ib (gD hB k) hl i, XA, nn_of (ir i)]
theorem wide_le (l : List (List Int)) (M : Nat) : ∀ n : Nat, (∀ j, j < n → (l.getD j []).length ≤ M) → parity_sum.wide l n ≤ M
  | 0, _ => by rw [parity_sum.wide]; omega
  | n + 1, h => by
    have := wide_le l M n (fun j hj => h j (by omega))
    have := h n (by omega)
    rw [parity_sum.wide]; omega
theorem getD_in {l : List (List Int)} {j : Nat} (h : j < l.length) : l.getD j [] = l[j] := by
  rw [List.getD_eq_getElem?_getD, List.getElem?_eq_getElem h]; rfl
/-- A group: at most 16 strings, none too long. -/
def grp (l : List (List Int)) : Prop := l.length ≤ 16 ∧ ∀ x ∈ l, x.length ≤ 5000
def wd (l : List (List Int)) : Nat := parity_sum.wide l l.length
def par (l : List (List Int)) : List Int := parity_sum.acc l (wd l) l.length
theorem wd_le {l : List (List Int)} (h : grp l) : wd l ≤ 5000 := wide_le l 5000 _ (fun j hj => by rw [getD_in hj]; exact h.2 _ (List.getElem_mem hj))
theorem of_grp {l : List (List Int)} (h : grp l) : parity_Of.f l = some (par l, 0) := by
  have hw := wd_le h
  have hn := h.1
  unfold parity_Of.f
  rw [if_neg (by omega), slices_ContainsFunc_byte_byte_parity_long.f, if_neg (by omega), Option.bind_some, if_neg, parity_sum.f, if_pos ⟨by omega, by unfold wd at hw; omega⟩]
  · rfl
  · rw [List.any_eq_true]
    rintro ⟨x, hx, hd⟩
    have := h.2 x hx
    have := of_decide_eq_true hd
    omega
theorem le_wd (l : List (List Int)) (j : Nat) (h : j < l.length) : (l.getD j []).length ≤ wd l := parity_sum.wide_le l l.length j h
theorem par_len (l : List (List Int)) : (par l).length = wd l + 2 := parity_sum.acc_len _ _ _
theorem par_rd {l : List (List Int)} (hB : ∀ x ∈ l, isB x) (i : Nat) : rd (par l) (i : Int) = ((XA l i l.length : Nat) : Int) := (acc_rd hB l.length (le_wd l)).2 i
theorem par_B {l : List (List Int)} (hB : ∀ x ∈ l, isB x) : isB (par l) := (acc_rd hB l.length (le_wd l)).1
/-! ### Repair -/
theorem rows_rd {l : List (List Int)} {lost : Nat} {p : List Int} (hB : ∀ x ∈ l, isB x) (hp : isB p) : ∀ k : Nat, (∀ j, j < k → j ≠ lost → (l.getD j []).length + 2 ≤ p.length) → (isB (parity_Repair.rows l (lost : Int) p k) ∧ ∀ i : Nat, rd (parity_Repair.rows l (lost : Int) p k) (i : Int) = ((nn p i ^^^ XB l lost i k : Nat) : Int))
  | 0, _ => ⟨hp, fun i => by rw [parity_Repair.rows, XB, Nat.xor_zero, nn_rd hp]⟩
  | k + 1, h => by
    obtain ⟨ib, ir⟩ := rows_rd hB hp k (fun j hj => h j (by omega))
    rw [parity_Repair.rows]
    by_cases c : k = lost
    · rw [if_pos (by omega)]
      exact ⟨ib, fun i => by rw [ir i, XB, if_pos c]⟩
    · have hl : (l.getD k []).length + 2 ≤ (parity_Repair.rows l (lost : Int) p k).length := by rw [parity_Repair.rows_len]; exact h k (by omega) c
      rw [if_neg (by omega)]
      refine ⟨add_B ib (gD hB k) hl, fun i => ?_⟩
      rw [add_rd ib (gD hB k) hl i, XB, if_neg c, nn_of (ir i), Nat.xor_assoc]
theorem far_no {l : List (List Int)} {lost m : Nat} : ∀ k : Nat, parity_Repair.farB l (lost : Int) m k = false ↔ ∀ j, j < k → j ≠ lost → (l.getD j []).length ≤ m
  | 0 => ⟨fun _ j hj => absurd hj (Nat.not_lt_zero _), fun _ => rfl⟩
  | k + 1 => by
    rw [parity_Repair.farB, Bool.or_eq_false_iff, far_no k, Bool.and_eq_false_iff, decide_eq_false_iff_not, decide_eq_false_iff_not]
    refine ⟨fun ⟨h1, h2⟩ j hj hne => ?_, fun h => ⟨fun j hj => h j (by omega), ?_⟩⟩
    · by_cases e : j = k
      · subst e
        rcases h2 with h2 | h2 <;> omega
      · exact h1 j (by omega) hne
    · by_cases e : k = lost
      · exact Or.inl (by omega)
      · exact Or.inr (by have := h k (by omega) e; omega)
/-- What a row that holds a string's frame tells. -/
theorem tell_of {r s : List Int} (hs : isB s) (hr : isB r) (hl : s.length + 2 ≤ r.length) (hm : s.length ≤ 5000) (h : ∀ i : Nat, i < r.length → nn r i = nd s i) : parity_Repair.tell r = some (s, 0) := by
  have b0 : 0 ≤ rd r 0 ∧ rd r 0 ≤ 255 := isB_rd hr 0
  have b1 : 0 ≤ rd r 1 ∧ rd r 1 ≤ 255 := isB_rd hr 1
  have e0 : rd r 0 = (nn r 0 : Int) := nn_rd hr 0
  have e1 : rd r 1 = (nn r 1 : Int) := nn_rd hr 1
  have n0 : nn r 0 = s.length / 256 % 256 := (h 0 (by omega)).trans (by unfold nd; rw [if_pos rfl])
  have n1 : nn r 1 = s.length % 256 := (h 1 (by omega)).trans (by unfold nd; rw [if_neg (by omega), if_pos rfl])
  have hmm : parity_Repair.m r = (s.length : Int) := by unfold parity_Repair.m; omega
  have hd : ∀ i : Nat, rd r ((2 + i : Nat) : Int) = rd s (i : Int) := fun i => by
    by_cases hi : 2 + i < r.length
    · rw [nn_rd hr, h _ hi, nn_rd hs]
      unfold nd
      rw [if_neg (by omega), if_neg (by omega), show 2 + i - 2 = i by omega]
    · rw [rd_out r _ (by omega), rd_out s _ (by omega)]
  unfold parity_Repair.tell
  rw [if_neg (by omega), hmm, Int.toNat_natCast, if_neg]
  · congr 2
    apply list_ext
    · rw [List.length_drop, List.length_take]; omega
    · intro i hi
      rw [List.length_drop, List.length_take] at hi
      rw [← hd i, rdn, rdn, List.getD_eq_getElem?_getD, List.getD_eq_getElem?_getD, List.getElem?_drop, List.getElem?_take_of_lt (by omega)]
  · intro hh
    rcases hh with hh | hh
    · omega
    · obtain ⟨j, hj, hz⟩ := (parity_Repair.any_ _).mp hh
      apply hz
      rw [parity_Repair.rd_drop, show 2 + s.length + j = 2 + (s.length + j) by omega, hd, rd_out s _ (by omega)]
/-- What a row tells, told the other way. -/
theorem of_tell {r s : List Int} {e : Int} (hr : isB r) (hl : 2 ≤ r.length) (h : parity_Repair.tell r = some (s, e)) : (s = [] ∧ e = 12) ∨ (e = 0 ∧ isB s ∧ s.length + 2 ≤ r.length ∧ ∀ i : Nat, i < r.length → nn r i = nd s i) := by
  have b0 : 0 ≤ rd r 0 ∧ rd r 0 ≤ 255 := isB_rd hr 0
  have b1 : 0 ≤ rd r 1 ∧ rd r 1 ≤ 255 := isB_rd hr 1
  have e0 : rd r 0 = (nn r 0 : Int) := nn_rd hr 0
  have e1 : rd r 1 = (nn r 1 : Int) := nn_rd hr 1
  unfold parity_Repair.tell at h
  rw [if_neg (by omega)] at h
  by_cases hh : (r.length : Int) - 2 < parity_Repair.m r ∨ (r.drop (2 + (parity_Repair.m r).toNat)).any (fun x => x != 0) = true
  · rw [if_pos hh] at h
    injection h with h
    injection h with h1 h2
    exact Or.inl ⟨h1.symm, h2.symm⟩
  · rw [if_neg hh] at h
    injection h with h
    injection h with h1 h2
    right
    obtain ⟨M, hM⟩ : ∃ M : Nat, parity_Repair.m r = (M : Int) := ⟨(parity_Repair.m r).toNat, by unfold parity_Repair.m; omega⟩
    rw [hM, Int.toNat_natCast] at hh h1
    have hMr : M + 2 ≤ r.length := by
      rcases Nat.lt_or_ge r.length (M + 2) with q | q
      · exact absurd (Or.inl (by omega)) hh
      · exact q
    have hM2 : (M : Int) = (nn r 0 : Int) * 256 + (nn r 1 : Int) := by rw [← hM]; unfold parity_Repair.m; rw [e0, e1]
    have l0 := nn_lt hr 0
    have l1 := nn_lt hr 1
    have hsl : s.length = M := by rw [← h1, List.length_drop, List.length_take]; omega
    have hd : ∀ i : Nat, i < M → rd s (i : Int) = rd r ((2 + i : Nat) : Int) := fun i hi => by
      rw [← h1, rdn, rdn, List.getD_eq_getElem?_getD, List.getD_eq_getElem?_getD, List.getElem?_drop, List.getElem?_take_of_lt (by omega)]
    refine ⟨h2.symm, isB_of (fun i hi => by rw [hd i (by omega)]; exact isB_rd hr _), by omega, fun i hi => ?_⟩
    unfold nd
    by_cases c0 : i = 0
    · subst c0; rw [if_pos rfl]; omega
    · rw [if_neg c0]
      by_cases c1 : i = 1
      · subst c1; rw [if_pos rfl]; omega
      · rw [if_neg c1]
        by_cases c2 : i - 2 < M
        · unfold nn
          rw [hd (i - 2) c2, show 2 + (i - 2) = i by omega]
        · rw [nn_out s _ (by omega)]
          unfold nn
          by_cases hz : rd r (i : Int) = 0
          · rw [hz]; rfl
          · exfalso
            apply hh
            right
            refine (parity_Repair.any_ _).mpr ⟨i - (2 + M), by rw [List.length_drop]; omega, ?_⟩
            rw [parity_Repair.rd_drop, show 2 + M + (i - (2 + M)) = i by omega]
            exact hz
/-! ### the reference's parity -/
theorem rL_ (l : List (List Int)) (i : Nat) : rd_L1 l (i : Int) = l.getD i [] := by unfold rd_L1; rw [Int.toNat_natCast]
theorem rd_app_l (a b : List Int) (i : Nat) (h : i < a.length) : rd (a ++ b) (i : Int) = rd a (i : Int) := by
  rw [rdn, rdn, List.getD_eq_getElem?_getD, List.getD_eq_getElem?_getD, List.getElem?_append_left h]
theorem rd_app_r (a b : List Int) (i : Nat) (h : a.length ≤ i) : rd (a ++ b) (i : Int) = rd b ((i - a.length : Nat) : Int) := by
  rw [rdn, rdn, List.getD_eq_getElem?_getD, List.getD_eq_getElem?_getD, List.getElem?_append_right h]
theorem rd_rep (n : Nat) (i : Nat) : rd (List.replicate n 0) (i : Int) = 0 := by
  rw [rdn, List.getD_eq_getElem?_getD, List.getElem?_replicate]; split <;> rfl
def frm (s : List Int) (w : Nat) : List Int := [(s.length : Int) / 256 % 256, (s.length : Int) % 256] ++ s ++ List.replicate (w - s.length) 0
theorem frm_len (s : List Int) (w : Nat) (h : s.length ≤ w) : (frm s w).length = w + 2 := by
  unfold frm
  rw [List.length_append, List.length_append, List.length_replicate]
  show 2 + s.length + (w - s.length) = w + 2
  omega
theorem frm_rd {s : List Int} (hs : isB s) (w i : Nat) : rd (frm s w) (i : Int) = (nd s i : Int) := by
  unfold frm
  by_cases h : i < s.length + 2
  · rw [rd_app_l _ _ i (by rw [List.length_append]; show i < 2 + s.length; omega)]
    unfold nd
    by_cases c0 : i = 0
    · subst c0
      rw [if_pos rfl]
      show (s.length : Int) / 256 % 256 = _
      omega
    · rw [if_neg c0]
      by_cases c1 : i = 1
      · subst c1
        rw [if_pos rfl]
        show (s.length : Int) % 256 = _
        omega
      · rw [if_neg c1, rd_app_r _ _ i (by show 2 ≤ i; omega), ← nn_rd hs]
        rfl
  · rw [nd_out s i (by omega), rd_app_r _ _ i (by rw [List.length_append]; show 2 + s.length ≤ i; omega), rd_rep]; rfl
theorem fr_l0 (w : Nat) (hw : w ≤ 1000000) : ∀ (d : Nat) (x : List Int) (k : Nat), x.length + d = w + 2 → d < k → bitloftref42_framed.l0 k (w : Int) x = some (x ++ List.replicate d 0)
  | 0, x, k, h, hk => by
    obtain ⟨k, rfl⟩ : ∃ m, k = m + 1 := ⟨k - 1, by omega⟩
    rw [bitloftref42_framed.l0, w64_ (by omega), if_neg (by omega)]
    simp
  | d + 1, x, k, h, hk => by
    obtain ⟨k, rfl⟩ : ∃ m, k = m + 1 := ⟨k - 1, by omega⟩
    rw [bitloftref42_framed.l0, w64_ (by omega), if_pos (by omega), if_pos (by omega), fr_l0 w hw d (x ++ [0]) k (by rw [List.length_append]; show x.length + 1 + d = _; omega) (by omega), List.append_assoc]
    rfl
theorem fr_ev (s : List Int) (w k : Nat) (hw : w ≤ 1000000) (hs : s.length ≤ w) (hk : w < k) : bitloftref42_framed.f k s (w : Int) = some (frm s w) := by
  unfold bitloftref42_framed.f
  rw [Option.bind_some, w64_ (by omega), if_pos (by show 2 + s.length < _; omega), fr_l0 w hw (w - s.length) _ k (by rw [List.length_append]; show 2 + s.length + _ = _; omega) (by omega)]
  rfl
def mxd (a b : List Int) (n : Nat) : List Int := (List.range n).map fun i : Nat => bits .xor .u8 (rd a (i : Int)) (rd b (i : Int))
theorem mxd_len (a b : List Int) (n : Nat) : (mxd a b n).length = n := by simp [mxd]
theorem mxd_rd (a b : List Int) (n i : Nat) (h : i < n) : rd (mxd a b n) (i : Int) = bits .xor .u8 (rd a (i : Int)) (rd b (i : Int)) := by
  rw [rdn, List.getD_eq_getElem?_getD, mxd, List.getElem?_map, List.getElem?_range h]; rfl
theorem mxd_succ (a b : List Int) (i : Nat) : mxd a b (i + 1) = mxd a b i ++ [bits .xor .u8 (rd a (i : Int)) (rd b (i : Int))] := by
  rw [mxd, List.range_succ, List.map_append]; rfl
theorem mi_l0 (a b : List Int) (hl : a.length ≤ b.length) (hb : b.length ≤ 1000002) : ∀ (d i k : Nat), i + d = a.length → d < k → bitloftref42_mixed.l0 k a b (mxd a b i) (i : Int) = some (mxd a b a.length)
  | 0, i, k, h, hk => by
    obtain ⟨k, rfl⟩ : ∃ m, k = m + 1 := ⟨k - 1, by omega⟩
    rw [bitloftref42_mixed.l0, if_neg (by omega), show i = a.length by omega]
  | d + 1, i, k, h, hk => by
    obtain ⟨k, rfl⟩ : ∃ m, k = m + 1 := ⟨k - 1, by omega⟩
    rw [bitloftref42_mixed.l0, if_pos (by omega), if_pos (by omega), if_pos (by omega), if_pos (by rw [mxd_len]; omega), w64_ (by omega), ← mxd_succ, show (i : Int) + 1 = ((i + 1 : Nat) : Int) by omega]
    exact mi_l0 a b hl hb d (i + 1) k (by omega) (by omega)
theorem mi_ev (a b : List Int) (k : Nat) (hl : a.length ≤ b.length) (hb : b.length ≤ 1000002) (hk : a.length < k) : bitloftref42_mixed.f k a b = some (mxd a b a.length) := by
  unfold bitloftref42_mixed.f
  exact mi_l0 a b hl hb a.length 0 k (by omega) hk
theorem mx_row {xs s : List Int} {w : Nat} (hx : isB xs) (hs : isB s) (h : s.length ≤ w) (hl : xs.length = w + 2) : mxd xs (frm s w) xs.length = parity_add.row xs s s.length := by
  apply list_ext
  · rw [mxd_len, parity_add.row_len]
  · intro i hi
    rw [mxd_len] at hi
    rw [mxd_rd _ _ _ _ hi, add_rd hx hs (by omega), frm_rd hs, nn_rd hx, xor8 _ _ (nn_lt hx i) (nd_lt hs i)]
theorem zero_frm (l : List (List Int)) (w : Nat) : frm [] w = parity_sum.acc l w 0 := by
  rw [parity_sum.acc]
  unfold frm
  rfl
theorem mxn (a b : Nat) : mx (a : Int) (b : Int) = ((max a b : Nat) : Int) := by unfold mx; split <;> omega
theorem pa_l0 (l : List (List Int)) (hn : l.length ≤ 1000000) : ∀ (d i k : Nat), i + d = l.length → bitloftref42_parity.l0 (k + d + 1) l (parity_sum.wide l i : Int) (i : Int) = (bitloftref42_framed.f k ([] : List Int) (wd l : Int)).bind fun t => bitloftref42_parity.l1 k l (wd l : Int) t 0
  | 0, i, k, h => by
    rw [Nat.add_zero, bitloftref42_parity.l0, if_neg (by omega), show i = l.length by omega]; rfl
  | d + 1, i, k, h => by
    rw [show k + (d + 1) + 1 = (k + d + 1) + 1 by omega, bitloftref42_parity.l0, if_pos (by omega), if_pos (by omega), rL_, w64_ (by omega), mxn, show (i : Int) + 1 = ((i + 1 : Nat) : Int) by omega]
    exact pa_l0 l hn d (i + 1) k (by omega)
theorem pa_l1 {l : List (List Int)} (hB : ∀ x ∈ l, isB x) (hn : l.length ≤ 1000000) (hw : wd l ≤ 1000000) : ∀ (d i k : Nat), i + d = l.length → d + wd l + 3 < k → bitloftref42_parity.l1 k l (wd l : Int) (parity_sum.acc l (wd l) i) (i : Int) = some (par l)
  | 0, i, k, h, hk => by
    obtain ⟨k, rfl⟩ : ∃ m, k = m + 1 := ⟨k - 1, by omega⟩
    rw [bitloftref42_parity.l1, if_neg (by omega), show i = l.length by omega]; rfl
  | d + 1, i, k, h, hk => by
    obtain ⟨k, rfl⟩ : ∃ m, k = m + 1 := ⟨k - 1, by omega⟩
    have hi : i < l.length := by omega
    have hle := le_wd l i hi
    have hal := parity_sum.acc_len l (wd l) i
    have hib := (acc_rd (m := wd l) hB i (fun j hj => le_wd l j (by omega))).1
    rw [bitloftref42_parity.l1, if_pos (by omega), if_pos (by omega), rL_, fr_ev _ (wd l) k hw hle (by omega), Option.bind_some,
      mi_ev _ _ k (by rw [hal, frm_len _ _ hle]; omega) (by rw [frm_len _ _ hle]; omega) (by rw [hal]; omega), Option.bind_some, mx_row hib (gD hB i) hle hal, w64_ (by omega), show (i : Int) + 1 = ((i + 1 : Nat) : Int) by omega]
    exact pa_l1 hB hn hw d (i + 1) k (by omega) (by omega)
theorem pa_ev {l : List (List Int)} (hB : ∀ x ∈ l, isB x) (hn : l.length ≤ 1000000) (hw : wd l ≤ 1000000) (k : Nat) (hk : 2 * l.length + wd l + 5 < k) : bitloftref42_parity.f k l = some (par l) := by
  obtain ⟨q, rfl⟩ : ∃ q, k = q + l.length + 1 := ⟨k - l.length - 1, by omega⟩
  unfold bitloftref42_parity.f
  have h := pa_l0 l hn l.length 0 q (by omega)
  rw [show ((0 : Nat) : Int) = 0 from rfl, show ((parity_sum.wide l 0 : Nat) : Int) = 0 from rfl] at h
  rw [h, fr_ev [] (wd l) q hw (Nat.zero_le _) (by omega), Option.bind_some, zero_frm l (wd l)]
  exact pa_l1 hB hn hw l.length 0 q (by omega) (by omega)
/-! ### is one too long? -/
theorem far_mono (l : List (List Int)) (but : Int) (m : Nat) : ∀ {i n : Nat}, i ≤ n → parity_Repair.farB l but m i = true → parity_Repair.farB l but m n = true := by
  intro i n h
  induction h with
  | refl => exact id
  | step h ih => intro h2; rw [parity_Repair.farB, ih h2]; rfl
theorem lo_l0 (l : List (List Int)) (but : Int) (hn : l.length ≤ 9223372036854775807) : ∀ (d i k : Nat), i + d = l.length → d < k → parity_Repair.farB l but 5000 i = false → bitloftref42_long.l0 k l but (i : Int) = some (parity_Repair.farB l but 5000 l.length)
  | 0, i, k, h, hk, hf => by
    obtain ⟨k, rfl⟩ : ∃ m, k = m + 1 := ⟨k - 1, by omega⟩
    rw [bitloftref42_long.l0, if_neg (by omega), ← hf, show i = l.length by omega]
  | d + 1, i, k, h, hk, hf => by
    obtain ⟨k, rfl⟩ : ∃ m, k = m + 1 := ⟨k - 1, by omega⟩
    rw [bitloftref42_long.l0, if_pos (by omega)]
    by_cases c : (i : Int) = but
    · rw [if_pos c, w64_ (by omega), show (i : Int) + 1 = ((i + 1 : Nat) : Int) by omega]
      refine lo_l0 l but hn d (i + 1) k (by omega) (by omega) ?_
      rw [parity_Repair.farB, hf, decide_eq_false (fun h => h c)]; rfl
    · rw [if_neg c, if_pos (by omega), rL_]
      by_cases c2 : ((l.getD i []).length : Int) > 5000
      · rw [if_pos c2, far_mono l but 5000 (i := i + 1) (by omega)]
        rw [parity_Repair.farB, hf, decide_eq_true c, decide_eq_true (by omega)]; rfl
      · rw [if_neg c2, w64_ (by omega), show (i : Int) + 1 = ((i + 1 : Nat) : Int) by omega]
        refine lo_l0 l but hn d (i + 1) k (by omega) (by omega) ?_
        rw [parity_Repair.farB, hf, decide_eq_false (p := 5000 < _) (by omega), Bool.and_false]; rfl
theorem lo_ev (l : List (List Int)) (but : Int) (hn : l.length ≤ 9223372036854775807) (k : Nat) (hk : l.length < k) : bitloftref42_long.f k l but = some (parity_Repair.farB l but 5000 l.length) := lo_l0 l but hn l.length 0 k (by omega) hk rfl
theorem far_all (l : List (List Int)) (m : Nat) : parity_Repair.farB l (-1) m l.length = false ↔ ∀ x ∈ l, x.length ≤ m := by
  have key : ∀ k, parity_Repair.farB l (-1) m k = false ↔ ∀ j, j < k → (l.getD j []).length ≤ m := by
    intro k
    induction k with
    | zero => exact ⟨fun _ j hj => absurd hj (Nat.not_lt_zero _), fun _ => rfl⟩
    | succ k ih =>
      rw [parity_Repair.farB, Bool.or_eq_false_iff, ih, Bool.and_eq_false_iff, decide_eq_false_iff_not, decide_eq_false_iff_not]
      refine ⟨fun ⟨h1, h2⟩ j hj => ?_, fun h => ⟨fun j hj => h j (by omega), Or.inr (by have := h k (by omega); omega)⟩⟩
      by_cases e : j = k
      · subst e; rcases h2 with h2 | h2 <;> omega
      · exact h1 j (by omega)
  rw [key]
  refine ⟨fun h x hx => ?_, fun h j hj => by rw [getD_in hj]; exact h _ (List.getElem_mem hj)⟩
  obtain ⟨j, hj, rfl⟩ := List.getElem_of_mem hx
  have := h j hj
  rwa [getD_in hj] at this
theorem gr_l0 (l : List (List Int)) (hn : l.length ≤ 9223372036854775807) : ∀ (d i : Nat) (x : Int) , i + d = l.length → ∃ k b, bitloftref42_Great.l0 k l x (i : Int) = some b := by
  have stop : ∀ (i : Int) (x : Int), ∃ b, bitloftref42_Great.j1 1 l x i false = some b := fun i x => by
    rw [bitloftref42_Great.j1, if_neg (by decide)]
    split
    · exact ⟨_, rfl⟩
    · split
      · split
        · exact ⟨_, rfl⟩
        · exact ⟨_, rfl⟩
      · exact ⟨_, rfl⟩
  intro d
  induction d with
  | zero =>
    intro i x h
    obtain ⟨b, hb⟩ := stop i x
    exact ⟨2, b, by rw [bitloftref42_Great.l0, if_neg (by omega)]; exact hb⟩
  | succ d ih =>
    intro i x h
    by_cases c : (i : Int) ≤ 100
    · by_cases c2 : ((l.getD i []).length : Int) ≤ 5000
      · obtain ⟨k, b, hb⟩ := ih (i + 1) (wrap64 (x + ((l.getD i []).length : Int))) (by omega)
        exact ⟨k + 2, b, by rw [bitloftref42_Great.l0, if_pos (by omega), decide_eq_true c, bitloftref42_Great.j1, if_pos rfl, if_pos (by omega), if_pos (by omega), rL_, if_pos c2, w64_ (x := (i : Int) + 1) (by omega), show (i : Int) + 1 = ((i + 1 : Nat) : Int) by omega]; exact hb⟩
      · obtain ⟨k, b, hb⟩ := ih (i + 1) x (by omega)
        exact ⟨k + 2, b, by rw [bitloftref42_Great.l0, if_pos (by omega), decide_eq_true c, bitloftref42_Great.j1, if_pos rfl, if_pos (by omega), if_pos (by omega), rL_, if_neg c2, w64_ (x := (i : Int) + 1) (by omega), show (i : Int) + 1 = ((i + 1 : Nat) : Int) by omega]; exact hb⟩
    · obtain ⟨b, hb⟩ := stop i x
      exact ⟨2, b, by rw [bitloftref42_Great.l0, if_pos (by omega), decide_eq_false c]; exact hb⟩
theorem gr_ev (l : List (List Int)) (hn : l.length ≤ 9223372036854775807) : ∃ b, Ev (fun k => bitloftref42_Great.f k l) b := by
  obtain ⟨k, b, hb⟩ := gr_l0 l hn l.length 0 0 (by omega)
  exact ⟨b, Ev.of (fun k => bitloftref42_Great.mono _ k) (k := k) hb⟩
/-! ### repaired is what was there -/
theorem rep_back {l : List (List Int)} {lost : Nat} {o : List Int} (hB : ∀ x ∈ l, isB x) (ho : isB o) (hg : grp l) (hl : lost < l.length) : parity_Repair.f (l.set lost o) (lost : Int) (par l) = some (l.getD lost [], 0) := by
  have hn := hg.1
  have hw := wd_le hg
  have hpl := par_len l
  have hB2 : ∀ x ∈ l.set lost o, isB x := fun x hx => by
    rcases List.mem_or_eq_of_mem_set hx with h | h
    · exact hB x h
    · rw [h]; exact ho
  have hoth : ∀ j, j < l.length → j ≠ lost → ((l.set lost o).getD j []).length ≤ wd l := fun j hj hne => by rw [getD_set_ne _ _ _ _ hne]; exact le_wd l j hj
  have f1 : parity_Repair.farB (l.set lost o) (lost : Int) 5000 (l.set lost o).length = false := (far_no _).mpr (fun j hj hne => by rw [List.length_set] at hj; have := hoth j hj hne; omega)
  have f2 : parity_Repair.farB (l.set lost o) (lost : Int) ((par l).length - 2) (l.set lost o).length = false := (far_no _).mpr (fun j hj hne => by rw [List.length_set] at hj; have := hoth j hj hne; omega)
  have hll : (l.set lost o).length = l.length := List.length_set
  obtain ⟨rb, rr⟩ := rows_rd (p := par l) hB2 (par_B hB) (l.set lost o).length (fun j hj hne => by rw [hll] at hj; have := hoth j hj hne; omega)
  have rl := parity_Repair.rows_len (l.set lost o) (lost : Int) (par l) (l.set lost o).length
  have hs := le_wd l lost hl
  rw [parity_Repair.f, if_neg (by omega), if_neg (by rw [f1]; simp; omega), if_neg (by omega), if_neg (by rw [f2]; simp; omega)]
  refine tell_of (gD hB lost) rb (by omega) (by omega) (fun i hi => ?_)
  rw [nn_of (rr i), nn_of (par_rd hB i), XB_set, hll, XA_split l lost i l.length hl, Nat.xor_comm (XB l lost i l.length), Nat.xor_assoc, Nat.xor_self, Nat.xor_zero]
/-! ### groups -/
def ch (l : List (List Int)) (g k : Nat) : List (List Int) := (l.drop (k * g)).take g
def nK (n g : Nat) : Nat := (n + g - 1) / g
theorem lt_nK {n g : Nat} (hg : 1 ≤ g) (k : Nat) : k * g < n ↔ k < nK n g := parity_groups.count n g hg k
theorem div_nK {n g j : Nat} (hg : 1 ≤ g) (h : j < n) : j / g < nK n g := (lt_nK hg _).mp (Nat.lt_of_le_of_lt (Nat.div_mul_le_self j g) h)
theorem nK_le {n g : Nat} (hg : 1 ≤ g) : nK n g ≤ n := by
  rcases Nat.eq_zero_or_pos (nK n g) with e | e
  · omega
  · have h1 := (lt_nK (n := n) hg (nK n g - 1)).mpr (by omega)
    have h2 : (nK n g - 1) * 1 ≤ (nK n g - 1) * g := Nat.mul_le_mul_left _ hg
    omega
theorem rm_len {α : Type} (f : Nat → α) (m : Nat) : ((List.range m).map f).length = m := by simp
theorem rm_get {α : Type} (f : Nat → α) (m k : Nat) (d : α) (h : k < m) : ((List.range m).map f).getD k d = f k := by
  rw [List.getD_eq_getElem?_getD, List.getElem?_map, List.getElem?_range h]; rfl
theorem rm_congr {α : Type} {f f' : Nat → α} {m : Nat} (h : ∀ j, j < m → f j = f' j) : (List.range m).map f = (List.range m).map f' := List.map_congr_left (fun j hj => h j (List.mem_range.mp hj))
theorem rm_set {α : Type} (f : Nat → α) (m k : Nat) (v : α) : ((List.range m).map f).set k v = (List.range m).map (fun j => if j = k then v else f j) := by
  apply List.ext_getElem?
  intro j
  rw [List.getElem?_map]
  by_cases hj : j < m
  · rw [List.getElem?_range hj, Option.map_some]
    by_cases e : j = k
    · subst e
      rw [if_pos rfl, List.getElem?_set_self (by rw [rm_len]; exact hj)]
    · rw [if_neg e, List.getElem?_set_ne (by omega), List.getElem?_map, List.getElem?_range hj, Option.map_some]
  · rw [List.getElem?_eq_none (l := List.range m) (by rw [List.length_range]; omega), List.getElem?_eq_none (by rw [List.length_set, rm_len]; omega)]
    rfl
theorem rm_rd (f : Nat → Int) (m k : Nat) (h : k < m) : rd ((List.range m).map f) (k : Int) = f k := by rw [rdn, rm_get f m k 0 h]
theorem list_rm (l : List (List Int)) : (List.range l.length).map (fun j => l.getD j []) = l := by
  apply List.ext_getElem
  · rw [rm_len]
  · intro i h1 h2
    rw [List.getElem_map, List.getElem_range, getD_in h2]
theorem chunks_len (l : List (List Int)) (g : Nat) : (parity_groups.chunks l g).length = nK l.length g := by unfold parity_groups.chunks nK; rw [rm_len]
theorem chunks_get (l : List (List Int)) (g k : Nat) (h : k < nK l.length g) : (parity_groups.chunks l g).getD k [] = ch l g k := by
  show ((List.range (nK l.length g)).map fun k => (l.drop (k * g)).take g).getD k [] = _
  rw [rm_get _ _ _ _ h]; rfl
theorem r2_ (l : List (List (List Int))) (i : Nat) : rd_L2 l (i : Int) = l.getD i [] := by unfold rd_L2; rw [Int.toNat_natCast]
theorem groups_f {l : List (List Int)} {g : Nat} (hg : 1 ≤ g) (hg2 : g ≤ 16) (hn : l.length ≤ 1000000) : parity_groups.f l (g : Int) = some (parity_groups.chunks l g) := by
  unfold parity_groups.f
  rw [if_pos ⟨by omega, by omega, hn⟩, Int.toNat_natCast]
theorem ch_mem {l : List (List Int)} {g k : Nat} {x : List Int} (h : x ∈ ch l g k) : x ∈ l := List.mem_of_mem_drop (List.mem_of_mem_take h)
theorem ch_len (l : List (List Int)) (g k : Nat) : (ch l g k).length = min g (l.length - k * g) := by unfold ch; rw [List.length_take, List.length_drop]
theorem ch_grp {l : List (List Int)} {g k : Nat} (hg : g ≤ 16) (h : ∀ x ∈ l, x.length ≤ 5000) : grp (ch l g k) := ⟨by rw [ch_len]; omega, fun x hx => h x (ch_mem hx)⟩
theorem ch_get (l : List (List Int)) (g k t : Nat) (h : t < g) : (ch l g k).getD t [] = l.getD (k * g + t) [] := by
  unfold ch
  rw [List.getD_eq_getElem?_getD, List.getD_eq_getElem?_getD, List.getElem?_take_of_lt h, List.getElem?_drop]
/-! ### Protect -/
theorem sum_par {l : List (List Int)} (h : grp l) : parity_sum.f l = some (par l) := by
  have hw := wd_le h
  have hn := h.1
  unfold parity_sum.f
  rw [if_pos ⟨by omega, by unfold wd at hw; omega⟩]
  rfl
theorem any_far (l : List (List Int)) : (l.any fun x => decide (5000 < x.length)) = parity_Repair.farB l (-1) 5000 l.length := by
  cases h : parity_Repair.farB l (-1) 5000 l.length
  · have h2 := (far_all l 5000).mp h
    rw [List.any_eq_false]
    intro x hx
    have := h2 x hx
    simp
    omega
  · rw [List.any_eq_true]
    by_cases q : ∃ x, x ∈ l ∧ decide (5000 < x.length) = true
    · exact q
    · exfalso
      have := (far_all l 5000).mpr (fun x hx => by
        rcases Nat.lt_or_ge 5000 x.length with c | c
        · exact absurd ⟨x, hx, decide_eq_true c⟩ q
        · exact c)
      rw [this] at h; cases h
def protS (l : List (List Int)) (a : Int) : List (List Int) × Int := if a < 1 ∨ 16 < a then ([], 2) else if 100 < l.length ∨ parity_Repair.farB l (-1) 5000 l.length = true then ([], 4) else ((parity_groups.chunks l a.toNat).map par, 0)
theorem map_take_succ {α β : Type} (f : α → β) (l : List α) (i : Nat) (h : i < l.length) : (l.map f).take (i + 1) = (l.map f).take i ++ [f l[i]] := by
  rw [List.take_succ_eq_append_getElem (by rw [List.length_map]; exact h), List.getElem_map]
theorem prot_l0 (gs : List (List (List Int))) (hgs : ∀ c ∈ gs, grp c) (hn : gs.length ≤ 1000000) : ∀ (d i k : Nat), i + d = gs.length → d < k → parity_Protect.l0 k ((gs.map par).take i) gs (gs.length : Int) (i : Int) = some (gs.map par, 0)
  | 0, i, k, h, hk => by
    obtain ⟨k, rfl⟩ : ∃ m, k = m + 1 := ⟨k - 1, by omega⟩
    rw [parity_Protect.l0, if_neg (by omega), List.take_of_length_le (by rw [List.length_map]; omega)]
  | d + 1, i, k, h, hk => by
    obtain ⟨k, rfl⟩ : ∃ m, k = m + 1 := ⟨k - 1, by omega⟩
    have hi : i < gs.length := by omega
    have e : gs.getD i [] = gs[i] := by rw [List.getD_eq_getElem?_getD, List.getElem?_eq_getElem hi]; rfl
    rw [parity_Protect.l0, if_pos (by omega), if_pos (by omega), if_pos (by omega), r2_, e, sum_par (hgs _ (List.getElem_mem hi)), Option.bind_some, if_pos (by rw [List.length_take, List.length_map]; omega), ← map_take_succ par gs i hi, w64_ (by omega), show (i : Int) + 1 = ((i + 1 : Nat) : Int) by omega]
    exact prot_l0 gs hgs hn d (i + 1) k (by omega) (by omega)
theorem prot_ev {l : List (List Int)} (a : Int) (hn : l.length ≤ 9223372036854775807) : ∀ k, l.length + 5 < k → parity_Protect.f k l a = some (protS l a) := by
  intro k hk
  obtain ⟨k, rfl⟩ : ∃ m, k = m + 2 := ⟨k - 2, by omega⟩
  unfold protS
  rw [parity_Protect.f]
  by_cases c1 : a < 1
  · rw [if_pos c1, if_pos (Or.inl c1), parity_Protect.j0, if_pos rfl]
  rw [if_neg c1]
  by_cases c2 : a > 16
  · rw [decide_eq_true c2, parity_Protect.j0, if_pos rfl, if_pos (Or.inr c2)]
  rw [decide_eq_false c2, parity_Protect.j0, if_neg (by decide), if_neg (show ¬ (a < 1 ∨ 16 < a) by omega)]
  by_cases c3 : (l.length : Int) > 100
  · rw [if_pos c3, parity_Protect.j1, if_pos rfl, if_pos (Or.inl (by omega))]
  rw [if_neg c3, slices_ContainsFunc_byte_byte_parity_long.f, if_neg (show ¬ l.length > 9223372036854775807 by omega), Option.bind_some, any_far, parity_Protect.j1]
  cases hf : parity_Repair.farB l (-1) 5000 l.length
  · obtain ⟨g, rfl⟩ := Int.eq_ofNat_of_zero_le (show 0 ≤ a by omega)
    have hx := (far_all l 5000).mp hf
    have hgs : ∀ c ∈ parity_groups.chunks l g, grp c := fun c hc => by
      unfold parity_groups.chunks at hc
      obtain ⟨j, _, rfl⟩ := List.mem_map.mp hc
      exact ch_grp (by omega) hx
    have hkl := chunks_len l g
    have hle := nK_le (n := l.length) (g := g) (by omega)
    have h := prot_l0 (parity_groups.chunks l g) hgs (by omega) (parity_groups.chunks l g).length 0 k (by omega) (by omega)
    rw [if_neg (by decide), groups_f (by omega) (by omega) (by omega), Option.bind_some, if_neg (show ¬ (100 < l.length ∨ false = true) by simp; omega), Int.toNat_natCast]
    exact h
  · rw [if_pos rfl, if_pos (Or.inr rfl)]
/-! ### the reference's Protect -/
theorem mnn (a b : Nat) : mn (a : Int) (b : Int) = ((min a b : Nat) : Int) := by unfold mn; split <;> omega
theorem cut_ch (l : List (List Int)) (g i : Nat) (hg : 1 ≤ g) (hi : i * g < l.length) : (l.take (min (i * g + g) l.length)).drop (i * g) = ch l g i := by
  unfold ch
  rw [List.drop_take, show min (i * g + g) l.length - i * g = min g (l.length - i * g) by omega]
  rcases Nat.le_total g (l.length - i * g) with h | h
  · rw [Nat.min_eq_left h]
  · rw [Nat.min_eq_right h, List.take_of_length_le (by rw [List.length_drop]; exact Nat.le_refl _), List.take_of_length_le (by rw [List.length_drop]; exact h)]
theorem rp_l0 {l : List (List Int)} {g : Nat} (hB : ∀ x ∈ l, isB x) (hg : 1 ≤ g) (hg2 : g ≤ 16) (hn : l.length ≤ 100) (hx : ∀ x ∈ l, x.length ≤ 5000) : ∀ (d i k : Nat), i + d = nK l.length g → d + 5100 < k → bitloftref42_Protect.l0 k l (g : Int) (((parity_groups.chunks l g).map par).take i) ((i * g : Nat) : Int) = some ((parity_groups.chunks l g).map par, 0)
  | 0, i, k, h, hk => by
    obtain ⟨k, rfl⟩ : ∃ m, k = m + 1 := ⟨k - 1, by omega⟩
    have hi : ¬ i * g < l.length := fun q => by have := (lt_nK hg i).mp q; omega
    rw [bitloftref42_Protect.l0, if_neg (by omega), List.take_of_length_le (by rw [List.length_map, chunks_len]; omega)]
  | d + 1, i, k, h, hk => by
    obtain ⟨k, rfl⟩ : ∃ m, k = m + 1 := ⟨k - 1, by omega⟩
    have hi : i * g < l.length := (lt_nK hg i).mpr (by omega)
    have hw : wrap64 (((i * g : Nat) : Int) + (g : Int)) = ((i * g + g : Nat) : Int) := by rw [w64_ (by omega)]; omega
    have hc : (parity_groups.chunks l g)[i]'(by rw [chunks_len]; omega) = ch l g i := by
      have := chunks_get l g i (by omega)
      rwa [List.getD_eq_getElem?_getD, List.getElem?_eq_getElem (by rw [chunks_len]; omega), Option.getD_some] at this
    have hgr := ch_grp (k := i) hg2 hx
    have hwd := wd_le hgr
    have hl := hgr.1
    rw [bitloftref42_Protect.l0, if_pos (by omega), if_pos (by omega), hw, mnn, if_pos (by omega), if_pos (by omega), Int.toNat_natCast, Int.toNat_natCast, cut_ch l g i hg hi, pa_ev (fun x h => hB x (ch_mem h)) (by omega) (by omega) k (by omega), Option.bind_some, if_pos (by rw [List.length_take, List.length_map, chunks_len]; have := nK_le (n := l.length) hg; omega)]
    have hs := map_take_succ par (parity_groups.chunks l g) i (by rw [chunks_len]; omega)
    rw [hc] at hs
    rw [← hs, show i * g + g = (i + 1) * g by rw [Nat.succ_mul]]
    exact rp_l0 hB hg hg2 hn hx d (i + 1) k (by omega) (by omega)
theorem rprot_ev {l : List (List Int)} (a : Int) (hB : ∀ x ∈ l, isB x) (hn : l.length ≤ 9223372036854775807) : ∀ k, l.length + 5300 < k → bitloftref42_Protect.f k l a = some (protS l a) := by
  intro k hk
  obtain ⟨k, rfl⟩ : ∃ m, k = m + 2 := ⟨k - 2, by omega⟩
  unfold protS
  rw [bitloftref42_Protect.f]
  by_cases c1 : a < 1
  · rw [if_pos c1, if_pos (Or.inl c1), bitloftref42_Protect.j0, if_pos rfl]
  rw [if_neg c1]
  by_cases c2 : a > 16
  · rw [decide_eq_true c2, bitloftref42_Protect.j0, if_pos rfl, if_pos (Or.inr c2)]
  rw [decide_eq_false c2, bitloftref42_Protect.j0, if_neg (by decide), if_neg (show ¬ (a < 1 ∨ 16 < a) by omega)]
  by_cases c3 : (l.length : Int) > 100
  · rw [if_pos c3, bitloftref42_Protect.j1, if_pos rfl, if_pos (Or.inl (by omega))]
  rw [if_neg c3, lo_ev l (-1) hn (k + 1) (by omega), Option.bind_some, bitloftref42_Protect.j1]
  cases hf : parity_Repair.farB l (-1) 5000 l.length
  · obtain ⟨g, rfl⟩ := Int.eq_ofNat_of_zero_le (show 0 ≤ a by omega)
    have hx := (far_all l 5000).mp hf
    have hle := nK_le (n := l.length) (g := g) (by omega)
    have h := rp_l0 (g := g) hB (by omega) (by omega) (by omega) hx (nK l.length g) 0 k (by omega) (by omega)
    rw [if_neg (by decide), if_neg (show ¬ (100 < l.length ∨ false = true) by simp; omega), Int.toNat_natCast]
    rw [Nat.zero_mul] at h
    exact h
  · rw [if_pos rfl, if_pos (Or.inr rfl)]
/-! ### which are lost -/
def lb (lo : List Bool) (i : Nat) : Bool := lo.getD i false
theorem rdb (lo : List Bool) (i : Nat) : rdOf false lo (i : Int) = lb lo i := by unfold rdOf lb; rw [Int.toNat_natCast]
/-- The last one of group k that is lost, among the first i; or -1. -/
def gn (lo : List Bool) (g k : Nat) : Nat → Int
  | 0 => -1
  | i + 1 => if lb lo i = true ∧ i / g = k then ((i % g : Nat) : Int) else gn lo g k i
/-- Has a group lost two, among the first i? -/
def tw (lo : List Bool) (g : Nat) : Nat → Bool
  | 0 => false
  | i + 1 => if lb lo i = true then (tw lo g i || decide (gn lo g (i / g) i ≥ 0)) else tw lo g i
/-- How many group k has lost, among the first i. -/
def cn (lo : List Bool) (g k : Nat) : Nat → Nat
  | 0 => 0
  | i + 1 => if lb lo i = true ∧ i / g = k then cn lo g k i + 1 else cn lo g k i
theorem gc (lo : List Bool) (g k : Nat) : ∀ i, (0 ≤ gn lo g k i ↔ 0 < cn lo g k i)
  | 0 => by rw [gn, cn]; omega
  | i + 1 => by
    rw [gn, cn]
    split
    · omega
    · exact gc lo g k i
theorem tc (lo : List Bool) (g : Nat) : ∀ i, (tw lo g i = true ↔ ∃ k, 1 < cn lo g k i)
  | 0 => by rw [tw]; exact ⟨fun h => absurd h (by decide), fun ⟨k, h⟩ => by rw [cn] at h; omega⟩
  | i + 1 => by
    rw [tw]
    by_cases c : lb lo i = true
    · rw [if_pos c, Bool.or_eq_true, decide_eq_true_iff, tc lo g i]
      refine ⟨fun h => ?_, fun ⟨k, h⟩ => ?_⟩
      · rcases h with ⟨k, h⟩ | h
        · refine ⟨k, ?_⟩
          rw [cn]; split <;> omega
        · have := (gc lo g (i / g) i).mp h
          exact ⟨i / g, by rw [cn, if_pos ⟨c, rfl⟩]; omega⟩
      · rw [cn] at h
        by_cases e : i / g = k
        · rw [if_pos ⟨c, e⟩] at h
          subst e
          exact Or.inr ((gc lo g (i / g) i).mpr (by omega))
        · rw [if_neg (fun q => e q.2)] at h
          exact Or.inl ⟨k, h⟩
    · rw [if_neg c, tc lo g i]
      refine ⟨fun ⟨k, h⟩ => ⟨k, ?_⟩, fun ⟨k, h⟩ => ⟨k, ?_⟩⟩
      · rw [cn, if_neg (fun q => c q.1)]; exact h
      · rw [cn, if_neg (fun q => c q.1)] at h; exact h
theorem cn_pos (lo : List Bool) (g k : Nat) : ∀ i j, j < i → lb lo j = true → j / g = k → 1 ≤ cn lo g k i
  | 0, j, h, _, _ => absurd h (Nat.not_lt_zero _)
  | i + 1, j, h, h1, h2 => by
    rw [cn]
    by_cases e : j = i
    · subst e; rw [if_pos ⟨h1, h2⟩]; omega
    · have := cn_pos lo g k i j (by omega) h1 h2
      split <;> omega
theorem cn_two (lo : List Bool) (g k : Nat) : ∀ i j j', j < j' → j' < i → lb lo j = true → j / g = k → lb lo j' = true → j' / g = k → 2 ≤ cn lo g k i
  | 0, j, j', _, h, _, _, _, _ => absurd h (Nat.not_lt_zero _)
  | i + 1, j, j', hj, h, h1, h2, h3, h4 => by
    rw [cn]
    by_cases e : j' = i
    · subst e
      have := cn_pos lo g k j' j hj h1 h2
      rw [if_pos ⟨h3, h4⟩]; omega
    · have := cn_two lo g k i j j' hj (by omega) h1 h2 h3 h4
      split <;> omega
theorem gn_at (lo : List Bool) (g k : Nat) (hg : 1 ≤ g) : ∀ i, 0 ≤ gn lo g k i → ∃ a : Nat, gn lo g k i = (a : Int) ∧ a < g ∧ k * g + a < i ∧ lb lo (k * g + a) = true
  | 0, h => by rw [gn] at h; omega
  | i + 1, h => by
    rw [gn] at h ⊢
    by_cases c : lb lo i = true ∧ i / g = k
    · rw [if_pos c]
      have e : k * g + i % g = i := by rw [← c.2, Nat.mul_comm]; exact Nat.div_add_mod i g
      exact ⟨i % g, rfl, Nat.mod_lt _ (by omega), by omega, by rw [e]; exact c.1⟩
    · rw [if_neg c] at h ⊢
      obtain ⟨a, h1, h2, h3, h4⟩ := gn_at lo g k hg i h
      exact ⟨a, h1, h2, by omega, h4⟩
theorem gn_no (lo : List Bool) (g k i : Nat) (h : gn lo g k i < 0) (j : Nat) (hj : j < i) (hk : j / g = k) : lb lo j = false := by
  cases q : lb lo j
  · rfl
  · have h1 := cn_pos lo g k i j hj q hk
    have h2 := (gc lo g k i).mpr (by omega)
    omega
theorem div_at {g k a : Nat} (ha : a < g) : (k * g + a) / g = k := by
  rw [Nat.mul_comm, Nat.mul_add_div (by omega), Nat.div_eq_of_lt ha, Nat.add_zero]
theorem tdivn (i g : Nat) : Int.tdiv (i : Int) (g : Int) = ((i / g : Nat) : Int) := by rw [Int.tdiv_eq_ediv_of_nonneg (by omega), Int.natCast_ediv]
theorem tmodn (i g : Nat) : Int.tmod (i : Int) (g : Int) = ((i % g : Nat) : Int) := by rw [Int.tmod_eq_emod_of_nonneg (by omega), Int.natCast_emod]
/-! ### Recover's first loops -/
def gl (lo : List Bool) (g K i : Nat) : List Int := (List.range K).map fun k => gn lo g k i
def ou (l : List (List Int)) (lo : List Bool) (i : Nat) : List (List Int) := (List.range l.length).map fun j => if j < i ∧ lb lo j = false then l.getD j [] else []
theorem rc_l0 (l : List (List Int)) (lo : List Bool) (a : Int) (p : List (List Int)) (gs : List (List (List Int))) (K : Nat) (hK : K ≤ 1000000) (hn : l.length ≤ 1000000) : ∀ (d i k : Nat), i + d = K → parity_Recover.l0 (k + d + 1) l lo a p gs ((List.range K).map fun j => if j < i then (-1 : Int) else 0) (K : Int) (i : Int) = parity_Recover.l1 k l lo a p gs (gl lo 1 K 0) false (ou l lo 0) (l.length : Int) 0
  | 0, i, k, h => by
    have e : ((List.range K).map fun j => if j < i then (-1 : Int) else 0) = gl lo 1 K 0 := rm_congr (fun j hj => by rw [if_pos (by omega)]; rfl)
    have e2 : List.replicate l.length ([] : List Int) = ou l lo 0 := by
      unfold ou
      rw [rm_congr (f' := fun _ => ([] : List Int)) (fun j _ => if_neg (by omega)), List.map_const', List.length_range]
    rw [Nat.add_zero, parity_Recover.l0, if_neg (by omega), if_pos (by omega), if_pos (by omega), Int.toNat_natCast, e, e2]
  | d + 1, i, k, h => by
    have e : ((List.range K).map fun j => if j < i then (-1 : Int) else 0).set i (-1) = (List.range K).map fun j => if j < i + 1 then (-1 : Int) else 0 := by
      rw [rm_set]
      refine rm_congr (fun j _ => ?_)
      by_cases q : j = i
      · rw [if_pos q, if_pos (by omega)]
      · rw [if_neg q]
        by_cases q2 : j < i
        · rw [if_pos q2, if_pos (by omega)]
        · rw [if_neg q2, if_neg (by omega)]
    rw [show k + (d + 1) + 1 = (k + d + 1) + 1 by omega, parity_Recover.l0, if_pos (by omega), if_pos (by omega), if_pos (by rw [rm_len]; omega), Int.toNat_natCast, e, w64_ (by omega), show (i : Int) + 1 = ((i + 1 : Nat) : Int) by omega]
    exact rc_l0 l lo a p gs K hK hn d (i + 1) k (by omega)
theorem gl_zero (lo : List Bool) (g K : Nat) : gl lo 1 K 0 = gl lo g K 0 := rfl
theorem rc_l1 (l : List (List Int)) (lo : List Bool) (g : Nat) (p : List (List Int)) (gs : List (List (List Int))) (hg : 1 ≤ g) (hg2 : g ≤ 16) (hn : l.length ≤ 100) (hlo : lo.length = l.length) (hx : ∀ j, j < l.length → lb lo j = false → (l.getD j []).length ≤ 5000) : ∀ (d i k : Nat), i + d = l.length → parity_Recover.l1 (k + d + 1) l lo (g : Int) p gs (gl lo g (nK l.length g) i) (tw lo g i) (ou l lo i) (l.length : Int) (i : Int) = parity_Recover.j3 k (g : Int) p gs (gl lo g (nK l.length g) l.length) (ou l lo l.length) (tw lo g l.length || ((p.length : Int) != (gs.length : Int)))
  | 0, i, k, h => by
    obtain rfl : i = l.length := by omega
    rw [Nat.add_zero, parity_Recover.l1, if_neg (by omega)]
    cases tw lo g l.length
    · rw [if_neg (by decide), Bool.false_or]
    · rw [if_pos rfl, Bool.true_or]
  | d + 1, i, k, h => by
    have hi : i < l.length := by omega
    have ih := rc_l1 l lo g p gs hg hg2 hn hlo hx d (i + 1) k (by omega)
    have hd := div_nK (n := l.length) hg hi
    have hdle : i / g ≤ i := Nat.div_le_self i g
    have hb1 : (0 : Int) ≤ ((i / g : Nat) : Int) := Int.natCast_nonneg _
    have hb2 : ((i / g : Nat) : Int) ≤ (i : Int) := Int.ofNat_le.mpr hdle
    have hb3 : ((i / g : Nat) : Int) < (nK l.length g : Int) := Int.ofNat_lt.mpr hd
    have e1 : wrap64 ((i : Int) + 1) = ((i + 1 : Nat) : Int) := by rw [w64_ (by omega)]; omega
    have e2 : wrap64 (Int.tdiv (i : Int) (g : Int)) = ((i / g : Nat) : Int) := by rw [tdivn, w64_ (by omega)]
    have hgz : ¬ (g : Int) = 0 := by omega
    rw [show k + (d + 1) + 1 = (k + d + 1) + 1 by omega, parity_Recover.l1, if_pos (by omega), if_pos (by omega), if_pos (by omega), rdb, e1, e2, tmodn]
    cases c : lb lo i
    · have hlen := hx i hi c
      have eo : (ou l lo i).set i (l.getD i []) = ou l lo (i + 1) := by
        unfold ou
        rw [rm_set]
        refine rm_congr (fun j _ => ?_)
        by_cases q : j = i
        · subst q; rw [if_pos rfl, if_pos ⟨by omega, c⟩]
        · rw [if_neg q]
          by_cases q2 : j < i ∧ lb lo j = false
          · rw [if_pos q2, if_pos ⟨by omega, q2.2⟩]
          · rw [if_neg q2, if_neg (fun q3 => q2 ⟨by omega, q3.2⟩)]
      have eg : gl lo g (nK l.length g) (i + 1) = gl lo g (nK l.length g) i := rm_congr (fun j _ => by rw [gn, if_neg (fun q => by rw [c] at q; cases q.1)])
      have et : tw lo g (i + 1) = tw lo g i := by rw [tw, if_neg (by rw [c]; decide)]
      rw [eg, et, ← eo] at ih
      rw [if_neg (by decide), if_pos (by omega), rL_, parity_long.f, Option.bind_some, if_neg (by rw [decide_eq_true_iff]; omega), slices_Clone_byte_byte.f, if_pos (by omega), Option.bind_some, if_pos (by unfold ou; rw [rm_len]; omega), Int.toNat_natCast]
      exact ih
    · have eo : ou l lo (i + 1) = ou l lo i := rm_congr (fun j _ => by
        by_cases q : j = i
        · subst q; rw [if_neg (fun q => by rw [c] at q; cases q.2), if_neg (by omega)]
        · by_cases q2 : j < i ∧ lb lo j = false
          · rw [if_pos q2, if_pos ⟨by omega, q2.2⟩]
          · rw [if_neg q2, if_neg (fun q3 => q2 ⟨by omega, q3.2⟩)])
      have eg : (gl lo g (nK l.length g) i).set (i / g) ((i % g : Nat) : Int) = gl lo g (nK l.length g) (i + 1) := by
        unfold gl
        rw [rm_set]
        refine rm_congr (fun j _ => ?_)
        by_cases q : j = i / g
        · rw [if_pos q, gn, if_pos ⟨c, q.symm⟩]
        · rw [if_neg q, gn, if_neg (fun q3 => q q3.2.symm)]
      have et : tw lo g (i + 1) = (tw lo g i || decide (gn lo g (i / g) i ≥ 0)) := by rw [tw, if_pos c]
      rw [eo, ← eg, et] at ih
      have hgl : (gl lo g (nK l.length g) i).length = nK l.length g := rm_len _ _
      have hrd : rd (gl lo g (nK l.length g) i) ((i / g : Nat) : Int) = gn lo g (i / g) i := rm_rd _ _ _ hd
      rw [if_pos rfl]
      cases ct : tw lo g i
      · rw [ct, Bool.false_or] at ih
        rw [if_neg (by decide), if_neg hgz, if_pos (by omega), if_pos (by rw [hgl]; omega), hrd, Int.toNat_natCast]
        exact ih
      · rw [ct, Bool.true_or] at ih
        rw [if_pos rfl, if_neg hgz, if_pos (by omega), if_pos (by rw [hgl]; omega), Int.toNat_natCast]
        exact ih
/-- Recover, where what is not lost is not too long: it comes to its last loop. -/
theorem rc_main {l : List (List Int)} {lo : List Bool} {g : Nat} (p : List (List Int)) (hg : 1 ≤ g) (hg2 : g ≤ 16) (hn : l.length ≤ 100) (hlo : lo.length = l.length) (hx : ∀ j, j < l.length → lb lo j = false → (l.getD j []).length ≤ 5000) (k : Nat) : parity_Recover.f (k + nK l.length g + l.length + 3) l lo (g : Int) p = parity_Recover.j3 k (g : Int) p (parity_groups.chunks l g) (gl lo g (nK l.length g) l.length) (ou l lo l.length) (tw lo g l.length || ((p.length : Int) != ((parity_groups.chunks l g).length : Int))) := by
  have hle := nK_le (n := l.length) hg
  have hcl := chunks_len l g
  have e0 : ((lo.length : Int) != (l.length : Int)) = false := by rw [hlo]; simp
  have h0 := rc_l0 l lo (g : Int) p (parity_groups.chunks l g) (nK l.length g) (by omega) (by omega) (nK l.length g) 0 (k + l.length + 1) (by omega)
  have e1 : ((List.range (nK l.length g)).map fun j => if j < 0 then (-1 : Int) else 0) = List.replicate (nK l.length g) 0 := by
    rw [rm_congr (f' := fun _ => (0 : Int)) (fun j _ => if_neg (by omega)), List.map_const', List.length_range]
  rw [e1] at h0
  have h1 := rc_l1 l lo g p (parity_groups.chunks l g) hg hg2 hn hlo hx l.length 0 k (by omega)
  rw [parity_Recover.f, if_neg (by omega), if_neg (by omega), e0, show k + nK l.length g + l.length + 3 = (k + nK l.length g + l.length + 2) + 1 from rfl, parity_Recover.j0, if_neg (by decide), if_neg (by omega), groups_f hg hg2 (by omega), Option.bind_some, hcl, if_pos (by omega), if_pos (by omega), Option.bind_some, Int.toNat_natCast, List.length_replicate]
  rw [show k + nK l.length g + l.length + 2 = k + l.length + 1 + nK l.length g + 1 by omega]
  rw [hcl] at h1
  exact h0.trans h1
/-! ### Recover's last loop: what was lost comes back -/
/-- The list as far as the groups ahead of k have come back. -/
def o2 (L : List (List Int)) (lo : List Bool) (g k : Nat) : List (List Int) := (List.range L.length).map fun j => if lb lo j = false ∨ j / g < k then L.getD j [] else []
theorem ch_set {L D : List (List Int)} {lo : List Bool} {g k a : Nat} (hg : 1 ≤ g) (hl : D.length = L.length) (hD : ∀ j, j < L.length → lb lo j = false → D.getD j [] = L.getD j []) (ha : a < g) (hj : k * g + a < L.length) (hu : ∀ j, j < L.length → j / g = k → lb lo j = true → j = k * g + a) : ch D g k = (ch L g k).set a (D.getD (k * g + a) []) := by
  have e1 : (ch D g k).length = (ch L g k).length := by rw [ch_len, ch_len, hl]
  apply List.ext_getElem
  · rw [List.length_set, e1]
  · intro t h1 h2
    have ht : t < min g (L.length - k * g) := by rw [ch_len, hl] at h1; exact h1
    rw [← getD_in h1, ch_get D g k t (by omega), List.getElem_set]
    by_cases q : a = t
    · subst q; rw [if_pos rfl]
    · rw [if_neg q]
      have h3 : t < (ch L g k).length := by rw [← e1]; exact h1
      rw [← getD_in h3, ch_get L g k t (by omega)]
      refine hD _ (by omega) ?_
      cases c : lb lo (k * g + t)
      · rfl
      · have := hu (k * g + t) (by omega) (div_at (by omega)) c
        omega
theorem rc_l2 {L D : List (List Int)} {lo : List Bool} {g : Nat} (hB : ∀ x ∈ L, isB x) (hBD : ∀ x ∈ D, isB x) (hg : 1 ≤ g) (hg2 : g ≤ 16) (hn : L.length ≤ 100) (hx : ∀ x ∈ L, x.length ≤ 5000) (hl : D.length = L.length) (hD : ∀ j, j < L.length → lb lo j = false → D.getD j [] = L.getD j []) (hc : ∀ k, cn lo g k L.length ≤ 1) : ∀ (d i k : Nat), i + d = nK L.length g → d < k → parity_Recover.l2 k (g : Int) ((parity_groups.chunks L g).map par) (parity_groups.chunks D g) (o2 L lo g i) (gl lo g (nK L.length g) L.length) (nK L.length g : Int) (i : Int) = some (L, 0)
  | 0, i, k, h, hk => by
    obtain ⟨k, rfl⟩ : ∃ m, k = m + 1 := ⟨k - 1, by omega⟩
    have e : o2 L lo g i = L := by
      unfold o2
      rw [rm_congr (f' := fun j => L.getD j []) (fun j hj => if_pos (Or.inr (by have := div_nK (n := L.length) hg hj; omega)))]
      exact list_rm L
    rw [parity_Recover.l2, if_neg (by omega), e]
  | d + 1, i, k, h, hk => by
    obtain ⟨k, rfl⟩ : ∃ m, k = m + 1 := ⟨k - 1, by omega⟩
    have hi : i < nK L.length g := by omega
    have hig := (lt_nK (n := L.length) hg i).mpr hi
    have hkl := nK_le (n := L.length) hg
    have hA : i + 1 + d = nK L.length g := by omega
    have hA2 : d < k := by omega
    have hA3 : (i : Int) < (nK L.length g : Int) := by omega
    have hA4 : (0 : Int) ≤ (i : Int) := by omega
    have hgl : (gl lo g (nK L.length g) L.length).length = nK L.length g := rm_len _ _
    have hrd : rd (gl lo g (nK L.length g) L.length) (i : Int) = gn lo g i L.length := rm_rd _ _ _ hi
    have e1 : wrap64 ((i : Int) + 1) = ((i + 1 : Nat) : Int) := by rw [w64_ (by omega)]; omega
    have hA5 : (i : Int) < ((gl lo g (nK L.length g) L.length).length : Int) := by rw [hgl]; exact hA3
    rw [parity_Recover.l2, if_pos hA3, if_pos hA4, if_pos hA5, hrd, e1]
    clear hrd e1 hA5 hgl
    by_cases c : gn lo g i L.length < 0
    · have eo : o2 L lo g (i + 1) = o2 L lo g i := rm_congr (fun j hj => by
        by_cases q : lb lo j = false ∨ j / g < i
        · rw [if_pos q, if_pos (q.elim Or.inl (fun q => Or.inr (by omega)))]
        · rw [if_neg q, if_neg]
          rintro (q2 | q2)
          · exact q (Or.inl q2)
          · by_cases q3 : j / g = i
            · exact q (Or.inl (gn_no lo g i L.length c j hj q3))
            · exact q (Or.inr (by omega)))
      rw [if_pos c, ← eo]
      exact rc_l2 hB hBD hg hg2 hn hx hl hD hc d (i + 1) k hA hA2
    · obtain ⟨a, ea, ha, hj, hlost⟩ := gn_at lo g i hg L.length (by omega)
      have hu : ∀ j, j < L.length → j / g = i → lb lo j = true → j = i * g + a := fun j hj2 hd hl2 => by
        have h1 := hc i
        rcases Nat.lt_trichotomy j (i * g + a) with q | q | q
        · have := cn_two lo g i L.length j (i * g + a) q hj hl2 hd hlost (div_at ha); omega
        · exact q
        · have := cn_two lo g i L.length (i * g + a) j q hj2 hlost (div_at ha) hl2 hd; omega
      have hcl : (parity_groups.chunks D g).length = nK L.length g := by rw [chunks_len, hl]
      have hcD : (parity_groups.chunks D g).getD i [] = ch D g i := chunks_get D g i (by rw [hl]; exact hi)
      have hpar : ((parity_groups.chunks L g).map par).getD i [] = par (ch L g i) := by
        rw [List.getD_eq_getElem?_getD, List.getElem?_map, List.getElem?_eq_getElem (by rw [chunks_len]; exact hi), Option.map_some, Option.getD_some]
        have := chunks_get L g i hi
        rw [List.getD_eq_getElem?_getD, List.getElem?_eq_getElem (by rw [chunks_len]; exact hi), Option.getD_some] at this
        rw [this]
      have hrep := rep_back (l := ch L g i) (lost := a) (o := D.getD (i * g + a) []) (fun x h => hB x (ch_mem h)) (gD hBD _) (ch_grp hg2 hx) (by rw [ch_len]; omega)
      rw [← ch_set hg hl hD ha hj hu, ch_get L g i a ha] at hrep
      have e2 : wrap64 (wrap64 ((i : Int) * (g : Int)) + (a : Int)) = ((i * g + a : Nat) : Int) := by
        have e3 : (i : Int) * (g : Int) = ((i * g : Nat) : Int) := by rw [Int.natCast_mul]
        rw [e3, w64_ (x := ((i * g : Nat) : Int)) (by omega), w64_ (by omega)]
        omega
      have eo : (o2 L lo g i).set (i * g + a) (L.getD (i * g + a) []) = o2 L lo g (i + 1) := by
        unfold o2
        rw [rm_set]
        refine rm_congr (fun j hj2 => ?_)
        by_cases q : j = i * g + a
        · subst q; rw [if_pos rfl, if_pos (Or.inr (by rw [div_at ha]; omega))]
        · rw [if_neg q]
          by_cases q2 : lb lo j = false ∨ j / g < i
          · rw [if_pos q2, if_pos (q2.elim Or.inl (fun q => Or.inr (by omega)))]
          · rw [if_neg q2, if_neg]
            rintro (q3 | q3)
            · exact q2 (Or.inl q3)
            · by_cases q4 : j / g = i
              · cases c5 : lb lo j
                · exact q2 (Or.inl c5)
                · exact q (hu j hj2 q4 c5)
              · exact q2 (Or.inr (by omega))
      have ho : (o2 L lo g i).length = L.length := rm_len _ _
      have hB1 : (i : Int) < ((parity_groups.chunks D g).length : Int) := by rw [hcl]; exact hA3
      have hB2 : (i : Int) < (((parity_groups.chunks L g).map par).length : Int) := by rw [List.length_map, chunks_len]; exact hA3
      have hB3 : (0 : Int) ≤ ((i * g + a : Nat) : Int) := Int.natCast_nonneg _
      have hB4 : ((i * g + a : Nat) : Int) < ((o2 L lo g i).length : Int) := by rw [ho]; exact Int.ofNat_lt.mpr hj
      rw [if_neg c, if_pos hB1, if_pos hB2, r2_, hcD, rL_, hpar, ea, hrep, Option.bind_some, if_pos rfl, e2, if_pos hB3, if_pos hB4, Int.toNat_natCast, eo]
      exact rc_l2 hB hBD hg hg2 hn hx hl hD hc d (i + 1) k hA hA2
theorem wfB {l : List Int} (h : ∀ x ∈ l, (Lit.int .u8 x).wf = true) : isB l := fun x hx => by
  have := h x hx
  simp [Lit.wf, IntKind.min, IntKind.max, IntKind.bits, IntKind.signed] at this
  omega
/-! ### Same, and EqualFunc of a list with itself -/
theorem same_l0 (l : List (List Int)) (hn : l.length ≤ 1000000) : ∀ (d i k : Nat), i + d = l.length → d < k → bitloftref42_Same.l0 k l l (i : Int) = some true
  | 0, i, k, h, hk => by
    obtain ⟨k, rfl⟩ : ∃ m, k = m + 1 := ⟨k - 1, by omega⟩
    rw [bitloftref42_Same.l0, if_neg (by omega)]
  | d + 1, i, k, h, hk => by
    obtain ⟨k, rfl⟩ : ∃ m, k = m + 1 := ⟨k - 1, by omega⟩
    rw [bitloftref42_Same.l0, if_pos (by omega), if_pos (by omega), if_pos (by omega), if_pos rfl, w64_ (by omega), show (i : Int) + 1 = ((i + 1 : Nat) : Int) by omega]
    exact same_l0 l hn d (i + 1) k (by omega) (by omega)
theorem same_self (l : List (List Int)) (hn : l.length ≤ 1000000) (k : Nat) (hk : l.length < k) : bitloftref42_Same.f k l l = some true := by
  rw [bitloftref42_Same.f, if_pos rfl]
  exact same_l0 l hn l.length 0 k (by omega) hk
theorem eqs_self (l : List (List Int)) : ∀ k, slices_EqualFunc_byte_byte_byte_byte_bytes_Equal.eqs l l k = true
  | 0 => rfl
  | k + 1 => by rw [slices_EqualFunc_byte_byte_byte_byte_bytes_Equal.eqs, eqs_self l k, decide_eq_true rfl]; rfl
theorem eqf_self (l : List (List Int)) (hn : l.length ≤ 1000000) : slices_EqualFunc_byte_byte_byte_byte_bytes_Equal.f l l = some true := by
  rw [slices_EqualFunc_byte_byte_byte_byte_bytes_Equal.f, if_neg (by omega), eqs_self, decide_eq_true rfl]; rfl
/-! ### the law -/
def dam (L : List (List Int)) (lo : List Bool) (i : Nat) : List (List Int) := (List.range i).map fun j => if lb lo j = true then [(j : Int) % 256] else L.getD j []
theorem dam_succ (L : List (List Int)) (lo : List Bool) (i : Nat) : dam L lo (i + 1) = dam L lo i ++ [if lb lo i = true then [(i : Int) % 256] else L.getD i []] := by
  unfold dam
  rw [List.range_succ, List.map_append]; rfl
def cl (lo : List Bool) (g K i : Nat) : List Int := (List.range K).map fun k => ((cn lo g k i : Nat) : Int)
theorem cn_le (lo : List Bool) (g k : Nat) : ∀ i, cn lo g k i ≤ i
  | 0 => Nat.le_refl _
  | i + 1 => by rw [cn]; have := cn_le lo g k i; split <;> omega
theorem cn_out (lo : List Bool) (g k : Nat) : ∀ i, (∀ j, j < i → j / g ≠ k) → cn lo g k i = 0
  | 0, _ => rfl
  | i + 1, h => by rw [cn, if_neg (fun q => h i (by omega) q.2)]; exact cn_out lo g k i (fun j hj => h j (by omega))
theorem law_l0 {L : List (List Int)} {lo : List Bool} {g : Nat} (p : List (List Int)) (hg : 1 ≤ g) (hn : L.length ≤ 100) (hlo : lo.length = L.length) : ∀ (d i k : Nat), i + d = L.length → bitloftlaw42_ParityRecovers.l0 (k + 2 * d + 1) L lo (g : Int) true p (dam L lo i) (cl lo g (nK L.length g) i) (i : Int) = bitloftlaw42_ParityRecovers.l1 k L lo (g : Int) true p (dam L lo L.length) (cl lo g (nK L.length g) L.length) 0
  | 0, i, k, h => by
    obtain rfl : i = L.length := by omega
    rw [show k + 2 * 0 + 1 = k + 1 from rfl, bitloftlaw42_ParityRecovers.l0, if_neg (by omega)]
  | d + 1, i, k, h => by
    have hi : i < L.length := by omega
    have ih := law_l0 (lo := lo) p hg hn hlo d (i + 1) k (by omega)
    have hd := div_nK (n := L.length) hg hi
    have hdle : i / g ≤ i := Nat.div_le_self i g
    have hb1 : (0 : Int) ≤ ((i / g : Nat) : Int) := Int.natCast_nonneg _
    have hb2 : ((i / g : Nat) : Int) ≤ (i : Int) := Int.ofNat_le.mpr hdle
    have hb3 : ((i / g : Nat) : Int) < (nK L.length g : Int) := Int.ofNat_lt.mpr hd
    have e1 : wrap64 ((i : Int) + 1) = ((i + 1 : Nat) : Int) := by rw [w64_ (by omega)]; omega
    have e2 : wrap64 (Int.tdiv (i : Int) (g : Int)) = ((i / g : Nat) : Int) := by rw [tdivn, w64_ (by omega)]
    have hdl : (dam L lo i).length = i := rm_len _ _
    have hcl : (cl lo g (nK L.length g) i).length = nK L.length g := rm_len _ _
    have go : ∀ D C, D = dam L lo (i + 1) → C = cl lo g (nK L.length g) (i + 1) → bitloftlaw42_ParityRecovers.j3 (k + 2 * d + 2) L lo (g : Int) true p D C (i : Int) = bitloftlaw42_ParityRecovers.l1 k L lo (g : Int) true p (dam L lo L.length) (cl lo g (nK L.length g) L.length) 0 := by
      rintro D C rfl rfl
      rw [show k + 2 * d + 2 = (k + 2 * d + 1) + 1 from rfl, bitloftlaw42_ParityRecovers.j3, e1]
      exact ih
    rw [show k + 2 * (d + 1) + 1 = (k + 2 * d + 2) + 1 by omega, bitloftlaw42_ParityRecovers.l0, if_pos (by omega), if_pos (by omega), if_pos (by omega), rdb]
    cases c : lb lo i
    · rw [if_neg (by decide), if_pos (by omega)]
      refine go _ _ ?_ ?_
      · rw [dam_succ, c, rL_]; rfl
      · exact rm_congr (fun j _ => by rw [cn, if_neg (fun q => by rw [c] at q; cases q.1)])
    · have hrd : rd (cl lo g (nK L.length g) i) ((i / g : Nat) : Int) = ((cn lo g (i / g) i : Nat) : Int) := rm_rd _ _ _ hd
      have hcn := cn_le lo g (i / g) i
      rw [if_pos rfl, if_pos (by omega), if_neg (by omega), e2, if_pos (by omega), if_pos (by rw [hcl]; omega), hrd, Int.toNat_natCast, w64_ (x := ((cn lo g (i / g) i : Nat) : Int) + 1) (by omega)]
      refine go _ _ ?_ ?_
      · rw [dam_succ, c]; rfl
      · unfold cl
        rw [rm_set]
        refine rm_congr (fun j _ => ?_)
        by_cases q : j = i / g
        · subst q; rw [if_pos rfl, cn, if_pos ⟨c, rfl⟩]; omega
        · rw [if_neg q, cn, if_neg (fun q3 => q q3.2.symm)]
theorem law_l1 {L D : List (List Int)} {lo : List Bool} {g K : Nat} (p : List (List Int)) (hK : K ≤ 1000000) (R : Nat → Prop) (n : Nat) (hr1 : ∀ k, R k → (∃ q, q < K ∧ 1 < cn lo g q n) → ∃ s, parity_Recover.f k D lo (g : Int) p = some (s, 40)) (hr2 : ∀ k, R k → (∀ q, q < K → cn lo g q n ≤ 1) → parity_Recover.f k D lo (g : Int) p = some (L, 0) ∧ bitloftref42_Same.f k L L = some true ∧ 1 ≤ k) : ∀ (d i k : Nat), i + d = K → (∀ q, q ≤ d → R (k + q)) → (∀ q, q < i → cn lo g q n ≤ 1) → bitloftlaw42_ParityRecovers.l1 (k + d + 1) L lo (g : Int) true p D (cl lo g K n) (i : Int) = some true
  | 0, i, k, h, hR, hc => by
    have hcl : (cl lo g K n).length = K := rm_len _ _
    obtain ⟨h1, h2, h3⟩ := hr2 k (hR 0 (Nat.le_refl _)) (fun q hq => hc q (by omega))
    obtain ⟨k, rfl⟩ : ∃ m, k = m + 1 := ⟨k - 1, by omega⟩
    rw [Nat.add_zero, bitloftlaw42_ParityRecovers.l1, if_neg (by rw [hcl]; omega), h1, Option.bind_some, if_pos rfl, if_pos rfl, h2, Option.bind_some, bitloftlaw42_ParityRecovers.j5]
  | d + 1, i, k, h, hR, hc => by
    have hcl : (cl lo g K n).length = K := rm_len _ _
    have hrd : rd (cl lo g K n) (i : Int) = ((cn lo g i n : Nat) : Int) := rm_rd _ _ _ (by omega)
    rw [show k + (d + 1) + 1 = (k + (d + 1)) + 1 from rfl, bitloftlaw42_ParityRecovers.l1, if_pos (by rw [hcl]; omega), if_pos (by omega), hrd]
    by_cases c : ((cn lo g i n : Nat) : Int) > 1
    · obtain ⟨s, h1⟩ := hr1 (k + (d + 1)) (hR (d + 1) (Nat.le_refl _)) ⟨i, by omega, by omega⟩
      rw [if_pos c, h1, Option.bind_some, if_pos rfl]; rfl
    · rw [if_neg c, w64_ (by omega), show (i : Int) + 1 = ((i + 1 : Nat) : Int) by omega]
      exact law_l1 p hK R n hr1 hr2 d (i + 1) k (by omega) (fun q hq => hR q (by omega)) (fun q hq => by
        by_cases e : q = i
        · subst e; omega
        · exact hc q (by omega))
theorem rec_j0 {L : List (List Int)} {lo : List Bool} {g : Nat} (hB : ∀ x ∈ L, isB x) (hg : 1 ≤ g) (hg2 : g ≤ 16) (hn : L.length ≤ 100) (hx : ∀ x ∈ L, x.length ≤ 5000) (hlo : lo.length = L.length) (w : List (List Int)) (hw : w.length = nK L.length g) : ∀ k, 2000 < k → bitloftlaw42_ParityRecovers.j0 k L lo (g : Int) true w false = some true := by
  intro k hk
  have hkl := nK_le (n := L.length) hg
  have hf : parity_Repair.farB L (-1) 5000 L.length = false := (far_all L 5000).mpr hx
  have hp : protS L (g : Int) = ((parity_groups.chunks L g).map par, 0) := by
    unfold protS
    rw [if_neg (by omega), if_neg (by rw [hf]; simp; omega), Int.toNat_natCast]
  have hpl : ((parity_groups.chunks L g).map par).length = nK L.length g := by rw [List.length_map, chunks_len]
  have hD : ∀ j, j < L.length → lb lo j = false → (dam L lo L.length).getD j [] = L.getD j [] := fun j hj hc => by
    unfold dam
    rw [rm_get _ _ _ _ hj, hc]; rfl
  have hDl : (dam L lo L.length).length = L.length := rm_len _ _
  have hBD : ∀ x ∈ dam L lo L.length, isB x := fun x hxm => by
    unfold dam at hxm
    obtain ⟨j, hj, rfl⟩ := List.mem_map.mp hxm
    by_cases c : lb lo j = true
    · rw [if_pos c]
      intro y hy
      rw [List.mem_singleton.mp hy]; omega
    · rw [if_neg c]; exact gD hB j
  have hxD : ∀ j, j < (dam L lo L.length).length → lb lo j = false → ((dam L lo L.length).getD j []).length ≤ 5000 := fun j hj hc => by
    rw [hDl] at hj
    rw [hD j hj hc, getD_in hj]; exact hx _ (List.getElem_mem hj)
  have hmain : ∀ k, parity_Recover.f (k + nK L.length g + L.length + 3) (dam L lo L.length) lo (g : Int) ((parity_groups.chunks L g).map par) = parity_Recover.j3 k (g : Int) ((parity_groups.chunks L g).map par) (parity_groups.chunks (dam L lo L.length) g) (gl lo g (nK L.length g) L.length) (ou (dam L lo L.length) lo L.length) (tw lo g L.length) := fun k => by
    have h := rc_main (l := dam L lo L.length) (lo := lo) ((parity_groups.chunks L g).map par) hg hg2 (by rw [hDl]; exact hn) (by rw [hDl]; exact hlo) hxD k
    rw [hDl, hpl, chunks_len, hDl] at h
    rw [h, show ((nK L.length g : Int) != (nK L.length g : Int)) = false by simp, Bool.or_false]
  have hou : ou (dam L lo L.length) lo L.length = o2 L lo g 0 := by
    unfold ou o2
    rw [hDl]
    refine rm_congr (fun j hj => ?_)
    by_cases c : lb lo j = false
    · rw [if_pos ⟨hj, c⟩, if_pos (Or.inl c), hD j hj c]
    · rw [if_neg (fun q => c q.2), if_neg (fun h => h.elim c (fun q => absurd q (Nat.not_lt_zero _)))]
  have hr1 : ∀ k, 500 < k → (∃ q, q < nK L.length g ∧ 1 < cn lo g q L.length) → ∃ s, parity_Recover.f k (dam L lo L.length) lo (g : Int) ((parity_groups.chunks L g).map par) = some (s, 40) := fun k hk ⟨q, _, hq⟩ => by
    obtain ⟨m, rfl⟩ : ∃ m, k = (m + 1) + nK L.length g + L.length + 3 := ⟨k - nK L.length g - L.length - 4, by omega⟩
    rw [hmain, (tc lo g L.length).mpr ⟨q, hq⟩, parity_Recover.j3, if_pos rfl]
    exact ⟨_, rfl⟩
  have hr2 : ∀ k, 500 < k → (∀ q, q < nK L.length g → cn lo g q L.length ≤ 1) → parity_Recover.f k (dam L lo L.length) lo (g : Int) ((parity_groups.chunks L g).map par) = some (L, 0) ∧ bitloftref42_Same.f k L L = some true ∧ 1 ≤ k := fun k hk hq => by
    have hc : ∀ q, cn lo g q L.length ≤ 1 := fun q => by
      by_cases c : q < nK L.length g
      · exact hq q c
      · rw [cn_out lo g q L.length (fun j hj e => by have := div_nK (n := L.length) hg hj; omega)]; omega
    have htw : tw lo g L.length = false := by
      cases c : tw lo g L.length
      · rfl
      · obtain ⟨q, h⟩ := (tc lo g L.length).mp c
        have := hc q
        omega
    obtain ⟨m, rfl⟩ : ∃ m, k = (m + 1) + nK L.length g + L.length + 3 := ⟨k - nK L.length g - L.length - 4, by omega⟩
    have h2 := rc_l2 (lo := lo) hB hBD hg hg2 hn hx hDl hD hc (nK L.length g) 0 m (by omega) (by omega)
    have hgl : (gl lo g (nK L.length g) L.length).length = nK L.length g := rm_len _ _
    refine ⟨?_, same_self L (by omega) _ (by omega), by omega⟩
    rw [hmain, htw, parity_Recover.j3, if_neg (by decide), hgl, hou]
    exact h2
  obtain ⟨k, rfl⟩ : ∃ m, k = m + 1 := ⟨k - 1, by omega⟩
  obtain ⟨k, rfl⟩ : ∃ m, k = m + 1 := ⟨k - 1, by omega⟩
  have hright : parity_Right.f (k + 1) L (g : Int) ((parity_groups.chunks L g).map par) = some (true, 0) := by
    rw [parity_Right.f, prot_ev (g : Int) (by omega) (k + 1) (by omega), hp, Option.bind_some, if_pos rfl, eqf_self _ (by rw [hpl]; omega), Option.bind_some]
  have h0 := law_l0 (lo := lo) ((parity_groups.chunks L g).map par) hg hn hlo L.length 0 (k - 2 * L.length - 1) (by omega)
  have h1 := law_l1 (L := L) (D := dam L lo L.length) (lo := lo) (g := g) (K := nK L.length g) ((parity_groups.chunks L g).map par) (by omega) (fun k => 500 < k) L.length hr1 hr2 (nK L.length g) 0 (k - 2 * L.length - 1 - nK L.length g - 1) (by omega) (fun q _ => by omega) (fun q hq => by omega)
  have e1 : cl lo g (nK L.length g) 0 = List.replicate (nK L.length g) 0 := by
    show (List.range (nK L.length g)).map (fun _ => ((0 : Nat) : Int)) = _
    rw [List.map_const', List.length_range]; rfl
  rw [e1, show k - 2 * L.length - 1 + 2 * L.length + 1 = k by omega] at h0
  rw [show k - 2 * L.length - 1 - nK L.length g - 1 + nK L.length g + 1 = k - 2 * L.length - 1 by omega] at h1
  rw [bitloftlaw42_ParityRecovers.j0, if_neg (by decide), prot_ev (g : Int) (by omega) (k + 1) (by omega), hp, Option.bind_some]
  show (parity_Right.f (k + 1) L (g : Int) ((parity_groups.chunks L g).map par)).bind _ = _
  rw [hright, Option.bind_some, if_pos rfl]
  show (if ((((parity_groups.chunks L g).map par).length : Nat) : Int) = (w.length : Int) then _ else _) = _
  rw [if_pos (by rw [hpl, hw]), if_pos rfl, bitloftlaw42_ParityRecovers.j1]
  show (if (!true) = true then _ else _) = _
  rw [if_neg (by decide), if_pos (by omega), hpl, if_pos (by omega), Int.toNat_natCast]
  exact h0.trans h1
theorem ParityRecovers : bitloftlaw42_ParityRecovers.Pure := by
  intro l lo a hl hx _ _ _
  have hB : ∀ x ∈ l, isB x := fun x h => wfB (hx x h).2
  have hl2 : l.length ≤ 9223372036854775807 := by unfold maxLen at hl; exact hl
  obtain ⟨b, K, hK⟩ := gr_ev l hl2
  refine ⟨K + l.length + 6000, ?_⟩
  have e : bitloftref42_Great.f (K + l.length + 6000) l = some b := hK _ (by omega)
  have out : ∀ w, bitloftlaw42_ParityRecovers.j0 (K + l.length + 6000) l lo a true w true = some true := fun w => by
    rw [show K + l.length + 6000 = (K + l.length + 5999) + 1 from rfl, bitloftlaw42_ParityRecovers.j0, if_pos rfl]
  rw [bitloftlaw42_ParityRecovers.f, bitloftlaw42_alive.f, Option.bind_some, rprot_ev a hB hl2 _ (by omega), Option.bind_some, e, Option.bind_some]
  cases b
  · rw [if_neg (by decide)]
    by_cases c1 : (protS l a).2 = 0
    · rw [if_pos c1]
      by_cases c2 : (lo.length : Int) = (l.length : Int)
      · rw [if_pos c2]
        unfold protS at c1 ⊢
        by_cases d1 : a < 1 ∨ 16 < a
        · rw [if_pos d1] at c1; cases c1
        rw [if_neg d1] at c1 ⊢
        by_cases d2 : 100 < l.length ∨ parity_Repair.farB l (-1) 5000 l.length = true
        · rw [if_pos d2] at c1; cases c1
        rw [if_neg d2]
        obtain ⟨g, rfl⟩ := Int.eq_ofNat_of_zero_le (show 0 ≤ a by omega)
        have hf : parity_Repair.farB l (-1) 5000 l.length = false := by
          cases hh : parity_Repair.farB l (-1) 5000 l.length
          · rfl
          · exact absurd (Or.inr hh) d2
        exact rec_j0 hB (by omega) (by omega) (by omega) ((far_all l 5000).mp hf) (by omega) _ (by rw [Int.toNat_natCast, List.length_map, chunks_len]) _ (by omega)
      · rw [if_neg c2]; exact out _
    · rw [if_neg c1]; exact out _
  · rw [if_pos rfl]; exact out _
end Go.Proofs.YtejamobohmljfaaDoor.Pure
