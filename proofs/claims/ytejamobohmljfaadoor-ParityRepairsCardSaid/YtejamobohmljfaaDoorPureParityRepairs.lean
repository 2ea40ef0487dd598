/- Of a group and its parity each one of its strings is repaired, and the parity does not depend on the order. -/
import Derived.Test.YtejamobohmljfaaDoorXParityRepairsx4
import Derived.OpenShut
set_option linter.unusedVariables false
set_option linter.unusedSimpArgs false
namespace Go.Proofs.YtejamobohmljfaaDoor.Pure
open Go.RowKit Go.Proofs.YtejamobohmljfaaDoor.XParityRepairs Go.Proofs.YtejamobohmljfaaDoorW.PrintWords Go.Proofs.YtejamobohmljfaaDoorW.PrintLast
/-! ### bytes -/
theorem w64_ {x : Int} (h : -9223372036854775808 ≤ x ∧ x ≤ 9223372036854775807) : wrap64 x = x := by unfold wrap64; omega
theorem xor8 (a b : Nat) (ha : a < 256) (hb : b < 256) : bits .xor .u8 (a : Int) (b : Int) = ((a ^^^ b : Nat) : Int) := by
  have hx : a ^^^ b < 2 ^ 8 := Nat.xor_lt_two_pow (by omega) (by omega)
  have e (c : Nat) (hc : c < 256) : (BitVec.ofInt 8 (c : Int)).toNat = c := by
    rw [BitVec.ofInt_natCast, BitVec.toNat_ofNat]; exact Nat.mod_eq_of_lt (by omega)
  show IntKind.u8.wrap ((BitVec.ofInt 8 (a : Int) ^^^ BitVec.ofInt 8 (b : Int)).toNat : Int) = _
  rw [BitVec.toNat_xor, e a ha, e b hb, show IntKind.u8.wrap ((a ^^^ b : Nat) : Int) = ((a ^^^ b : Nat) : Int) % 256 by simp [IntKind.wrap, IntKind.bits, IntKind.signed]]
  omega
def isB (l : List Int) : Prop := ∀ x ∈ l, 0 ≤ x ∧ x ≤ 255
def nn (l : List Int) (i : Nat) : Nat := (rd l (i : Int)).toNat
/-- A string in its frame, place by place. -/
def nd (s : List Int) (i : Nat) : Nat := if i = 0 then s.length / 256 % 256 else if i = 1 then s.length % 256 else nn s (i - 2)
theorem rdn (l : List Int) (i : Nat) : rd l (i : Int) = l.getD i 0 := by unfold rd; rw [Int.toNat_natCast]
theorem rd_in (l : List Int) (i : Nat) (h : i < l.length) : rd l (i : Int) = l[i] := by
  rw [rdn, List.getD_eq_getElem?_getD, List.getElem?_eq_getElem h]; rfl
theorem rd_out (l : List Int) (i : Nat) (h : l.length ≤ i) : rd l (i : Int) = 0 := by
  rw [rdn, List.getD_eq_getElem?_getD, List.getElem?_eq_none h]; rfl
theorem isB_rd {l : List Int} (h : isB l) (i : Nat) : 0 ≤ rd l (i : Int) ∧ rd l (i : Int) ≤ 255 := by
  by_cases hi : i < l.length
  · rw [rd_in l i hi]; exact h _ (List.getElem_mem hi)
  · rw [rd_out l i (by omega)]; omega
theorem nn_lt {l : List Int} (h : isB l) (i : Nat) : nn l i < 256 := by have := isB_rd h i; unfold nn; omega
theorem nn_rd {l : List Int} (h : isB l) (i : Nat) : rd l (i : Int) = (nn l i : Int) := by have := isB_rd h i; unfold nn; omega
theorem nn_out (l : List Int) (i : Nat) (h : l.length ≤ i) : nn l i = 0 := by unfold nn; rw [rd_out l i h]; rfl
theorem nd_lt {s : List Int} (h : isB s) (i : Nat) : nd s i < 256 := by
  unfold nd
  split
  · exact Nat.mod_lt _ (by omega)
  · split
    · exact Nat.mod_lt _ (by omega)
    · exact nn_lt h _
theorem nd_out (s : List Int) (i : Nat) (h : s.length + 2 ≤ i) : nd s i = 0 := by
  unfold nd
  rw [if_neg (by omega), if_neg (by omega), nn_out _ _ (by omega)]
theorem xlt {a b : Nat} (ha : a < 256) (hb : b < 256) : a ^^^ b < 256 := by
  have : a ^^^ b < 2 ^ 8 := Nat.xor_lt_two_pow (by omega) (by omega)
  omega
theorem list_ext {a b : List Int} (hl : a.length = b.length) (h : ∀ i : Nat, i < a.length → rd a (i : Int) = rd b (i : Int)) : a = b := by
  apply List.ext_getElem hl
  intro i h1 h2
  have := h i h1
  rwa [rd_in a i h1, rd_in b i h2] at this
theorem isB_of {l : List Int} (h : ∀ i : Nat, i < l.length → 0 ≤ rd l (i : Int) ∧ rd l (i : Int) ≤ 255) : isB l := by
  intro x hx
  obtain ⟨i, hi, rfl⟩ := List.getElem_of_mem hx
  have := h i hi
  rwa [rd_in l i hi] at this
theorem isB_nil : isB [] := fun x hx => absurd hx (by simp)
/-! ### add -/
theorem rd_set_ (L : List Int) (i k : Nat) (v : Int) (h : i < L.length) : rd (L.set i v) (k : Int) = if k = i then v else rd L (k : Int) := by
  rw [rdn, rdn, List.getD_eq_getElem?_getD, List.getD_eq_getElem?_getD]
  by_cases e : k = i
  · subst e; rw [if_pos rfl, List.getElem?_set_self h]; rfl
  · rw [if_neg e, List.getElem?_set_ne (by omega)]
theorem row_rd {xs s : List Int} (hx : isB xs) (hs : isB s) (h : s.length + 2 ≤ xs.length) : ∀ k : Nat, k ≤ s.length → ∀ i : Nat, rd (parity_add.row xs s k) (i : Int) = if i < k + 2 then ((nn xs i ^^^ nd s i : Nat) : Int) else rd xs (i : Int)
  | 0, _, i => by
    have e0 : (s.length : Int) / 256 % 256 = ((s.length / 256 % 256 : Nat) : Int) := by omega
    have e1 : (s.length : Int) % 256 = ((s.length % 256 : Nat) : Int) := by omega
    have r0 : rd xs 0 = (nn xs 0 : Int) := nn_rd hx 0
    have r1 : rd xs 1 = (nn xs 1 : Int) := nn_rd hx 1
    rw [parity_add.row, e0, e1, r0, r1, xor8 _ _ (nn_lt hx 0) (Nat.mod_lt _ (by omega)), xor8 _ _ (nn_lt hx 1) (Nat.mod_lt _ (by omega)), rd_set_ _ 1 i _ (by rw [List.length_set]; omega), rd_set_ _ 0 i _ (by omega)]
    by_cases c1 : i = 1
    · subst c1; rw [if_pos rfl, if_pos (by omega)]; rfl
    · rw [if_neg c1]
      by_cases c0 : i = 0
      · subst c0; rw [if_pos rfl, if_pos (by omega)]; rfl
      · rw [if_neg c0, if_neg (by omega)]
  | k + 1, hk, i => by
    have ih := row_rd hx hs h k (by omega)
    have hl := parity_add.row_len xs s k
    have r0 : rd (parity_add.row xs s k) (2 + (k : Int)) = (nn xs (2 + k) : Int) := by
      rw [show 2 + (k : Int) = ((2 + k : Nat) : Int) by omega, ih (2 + k), if_neg (by omega), nn_rd hx]
    rw [parity_add.row, r0, nn_rd hs k, xor8 _ _ (nn_lt hx _) (nn_lt hs _), rd_set_ _ (2 + k) i _ (by rw [hl]; omega)]
    by_cases c : i = 2 + k
    · subst c
      rw [if_pos rfl, if_pos (by omega)]
      congr 2
      unfold nd
      rw [if_neg (by omega), if_neg (by omega), show 2 + k - 2 = k by omega]
    · rw [if_neg c, ih i]
      by_cases c2 : i < k + 2
      · rw [if_pos c2, if_pos (by omega)]
      · rw [if_neg c2, if_neg (by omega)]
theorem add_rd {xs s : List Int} (hx : isB xs) (hs : isB s) (h : s.length + 2 ≤ xs.length) (i : Nat) : rd (parity_add.row xs s s.length) (i : Int) = ((nn xs i ^^^ nd s i : Nat) : Int) := by
  rw [row_rd hx hs h s.length (Nat.le_refl _) i]
  by_cases c : i < s.length + 2
  · rw [if_pos c]
  · rw [if_neg c, nd_out s i (by omega), Nat.xor_zero, nn_rd hx]
theorem add_B {xs s : List Int} (hx : isB xs) (hs : isB s) (h : s.length + 2 ≤ xs.length) : isB (parity_add.row xs s s.length) := isB_of (fun i _ => by
  have := xlt (nn_lt hx i) (nd_lt hs i)
  rw [add_rd hx hs h]; omega)
theorem nn_of {l : List Int} {i m : Nat} (h : rd l (i : Int) = (m : Int)) : nn l i = m := by unfold nn; omega
/-! ### many strings -/
theorem gD {l : List (List Int)} (hB : ∀ x ∈ l, isB x) (k : Nat) : isB (l.getD k []) := by
  by_cases h : k < l.length
  · rw [List.getD_eq_getElem?_getD, List.getElem?_eq_getElem h]; exact hB _ (List.getElem_mem h)
  · rw [List.getD_eq_getElem?_getD, List.getElem?_eq_none (by omega)]; exact isB_nil
/-- What the first k strings make, place by place. -/
def XA (l : List (List Int)) (i : Nat) : Nat → Nat
  | 0 => 0
  | k + 1 => XA l i k ^^^ nd (l.getD k []) i
/-- The same but for one of them. -/
def XB (l : List (List Int)) (lost : Nat) (i : Nat) : Nat → Nat
  | 0 => 0
  | k + 1 => if k = lost then XB l lost i k else XB l lost i k ^^^ nd (l.getD k []) i
theorem XA_lt {l : List (List Int)} (hB : ∀ x ∈ l, isB x) (i : Nat) : ∀ k, XA l i k < 256
  | 0 => by rw [XA]; omega
  | k + 1 => by rw [XA]; exact xlt (XA_lt hB i k) (nd_lt (gD hB k) i)
theorem XB_lt {l : List (List Int)} (hB : ∀ x ∈ l, isB x) (lost i : Nat) : ∀ k, XB l lost i k < 256
  | 0 => by rw [XB]; omega
  | k + 1 => by
    rw [XB]
    split
    · exact XB_lt hB lost i k
    · exact xlt (XB_lt hB lost i k) (nd_lt (gD hB k) i)
theorem XA_le (l : List (List Int)) (lost i : Nat) : ∀ k, k ≤ lost → XA l i k = XB l lost i k
  | 0, _ => rfl
  | k + 1, h => by rw [XA, XB, if_neg (by omega), XA_le l lost i k (by omega)]
theorem xor_r (a b c : Nat) : a ^^^ b ^^^ c = a ^^^ c ^^^ b := by rw [Nat.xor_assoc, Nat.xor_comm b c, Nat.xor_assoc]
theorem XA_split (l : List (List Int)) (lost i : Nat) : ∀ k, lost < k → XA l i k = XB l lost i k ^^^ nd (l.getD lost []) i
  | 0, h => absurd h (Nat.not_lt_zero _)
  | k + 1, h => by
    rw [XA, XB]
    by_cases c : k = lost
    · subst c; rw [if_pos rfl, XA_le l k i k (Nat.le_refl _)]
    · rw [if_neg c, XA_split l lost i k (by omega), xor_r]
theorem getD_set_ne (l : List (List Int)) (lost k : Nat) (s : List Int) (h : k ≠ lost) : (l.set lost s).getD k [] = l.getD k [] := by
  rw [List.getD_eq_getElem?_getD, List.getD_eq_getElem?_getD, List.getElem?_set_ne (by omega)]
theorem getD_set_eq (l : List (List Int)) (lost : Nat) (s : List Int) (h : lost < l.length) : (l.set lost s).getD lost [] = s := by
  rw [List.getD_eq_getElem?_getD, List.getElem?_set_self h]; rfl
theorem XB_set (l : List (List Int)) (lost i : Nat) (s : List Int) : ∀ k, XB (l.set lost s) lost i k = XB l lost i k
  | 0 => rfl
  | k + 1 => by
    rw [XB, XB]
    by_cases c : k = lost
    · rw [if_pos c, if_pos c, XB_set l lost i s k]
    · rw [if_neg c, if_neg c, XB_set l lost i s k, getD_set_ne _ _ _ _ c]
theorem XA_set {l : List (List Int)} {lost : Nat} (i : Nat) (s : List Int) {k : Nat} (h : lost < k) (hl : lost < l.length) : XA (l.set lost s) i k = XB l lost i k ^^^ nd s i := by
  rw [XA_split _ lost i k h, XB_set, getD_set_eq l lost s hl]
/-! ### sum -/
theorem acc_rd {l : List (List Int)} {m : Nat} (hB : ∀ x ∈ l, isB x) : ∀ k : Nat, (∀ j, j < k → (l.getD j []).length ≤ m) → (isB (parity_sum.acc l m k) ∧ ∀ i : Nat, rd (parity_sum.acc l m k) (i : Int) = ((XA l i k : Nat) : Int))
  | 0, _ => by
    have e : ∀ i : Nat, rd (parity_sum.acc l m 0) (i : Int) = ((XA l i 0 : Nat) : Int) := fun i => by
      rw [parity_sum.acc, XA, rdn, List.getD_eq_getElem?_getD, List.getElem?_replicate]
      split <;> rfl
    exact ⟨isB_of (fun i _ => by rw [e i, XA]; omega), e⟩
  | k + 1, h => by
    obtain ⟨ib, ir⟩ := acc_rd hB k (fun j hj => h j (by omega))
    have hl : (l.getD k []).length + 2 ≤ (parity_sum.acc l m k).length := by rw [parity_sum.acc_len]; have := h k (by omega); omega
    refine ⟨add_B ib (gD hB k) hl, fun i => ?_⟩
    rw [parity_sum.acc, add_rd ib (gD hB k) hl i, XA, nn_of (ir i)]
theorem wide_le (l : List (List Int)) (M : Nat) : ∀ n : Nat, (∀ j, j < n → (l.getD j []).length ≤ M) → parity_sum.wide l n ≤ M
  | 0, _ => by rw [parity_sum.wide]; omega
  | n + 1, h => by
    have := wide_le l M n (fun j hj => h j (by omega))
    have := h n (by omega)
    rw [parity_sum.wide]; omega
theorem getD_in {l : List (List Int)} {j : Nat} (h : j < l.length) : l.getD j [] = l[j] := by
  rw [List.getD_eq_getElem?_getD, List.getElem?_eq_getElem h]; rfl
/-- A group: at most 16 strings, none too long. -/
def grp (l : List (List Int)) : Prop := l.length ≤ 16 ∧ ∀ x ∈ l, x.length ≤ 5000
def wd (l : List (List Int)) : Nat := parity_sum.wide l l.length
def par (l : List (List Int)) : List Int := parity_sum.acc l (wd l) l.length
theorem wd_le {l : List (List Int)} (h : grp l) : wd l ≤ 5000 := wide_le l 5000 _ (fun j hj => by rw [getD_in hj]; exact h.2 _ (List.getElem_mem hj))
theorem of_grp {l : List (List Int)} (h : grp l) : parity_Of.f l = some (par l, 0) := by
  have hw := wd_le h
  have hn := h.1
  unfold parity_Of.f
  rw [if_neg (by omega), slices_ContainsFunc_byte_byte_parity_long.f, if_neg (by omega), Option.bind_some, if_neg, parity_sum.f, if_pos ⟨by omega, by unfold wd at hw; omega⟩]
  · rfl
  · rw [List.any_eq_true]
    rintro ⟨x, hx, hd⟩
    have := h.2 x hx
    have := of_decide_eq_true hd
    omega
theorem le_wd (l : List (List Int)) (j : Nat) (h : j < l.length) : (l.getD j []).length ≤ wd l := parity_sum.wide_le l l.length j h
theorem par_len (l : List (List Int)) : (par l).length = wd l + 2 := parity_sum.acc_len _ _ _
theorem par_rd {l : List (List Int)} (hB : ∀ x ∈ l, isB x) (i : Nat) : rd (par l) (i : Int) = ((XA l i l.length : Nat) : Int) := (acc_rd hB l.length (le_wd l)).2 i
theorem par_B {l : List (List Int)} (hB : ∀ x ∈ l, isB x) : isB (par l) := (acc_rd hB l.length (le_wd l)).1
/-! ### Repair -/
theorem rows_rd {l : List (List Int)} {lost : Nat} {p : List Int} (hB : ∀ x ∈ l, isB x) (hp : isB p) : ∀ k : Nat, (∀ j, j < k → j ≠ lost → (l.getD j []).length + 2 ≤ p.length) → (isB (parity_Repair.rows l (lost : Int) p k) ∧ ∀ i : Nat, rd (parity_Repair.rows l (lost : Int) p k) (i : Int) = ((nn p i ^^^ XB l lost i k : Nat) : Int))
  | 0, _ => ⟨hp, fun i => by rw [parity_Repair.rows, XB, Nat.xor_zero, nn_rd hp]⟩
  | k + 1, h => by
    obtain ⟨ib, ir⟩ := rows_rd hB hp k (fun j hj => h j (by omega))
    rw [parity_Repair.rows]
    by_cases c : k = lost
    · rw [if_pos (by omega)]
      exact ⟨ib, fun i => by rw [ir i, XB, if_pos c]⟩
    · have hl : (l.getD k []).length + 2 ≤ (parity_Repair.rows l (lost : Int) p k).length := by rw [parity_Repair.rows_len]; exact h k (by omega) c
      rw [if_neg (by omega)]
      refine ⟨add_B ib (gD hB k) hl, fun i => ?_⟩
      rw [add_rd ib (gD hB k) hl i, XB, if_neg c, nn_of (ir i), Nat.xor_assoc]
theorem far_no {l : List (List Int)} {lost m : Nat} : ∀ k : Nat, parity_Repair.farB l (lost : Int) m k = false ↔ ∀ j, j < k → j ≠ lost → (l.getD j []).length ≤ m
  | 0 => ⟨fun _ j hj => absurd hj (Nat.not_lt_zero _), fun _ => rfl⟩
  | k + 1 => by
    rw [parity_Repair.farB, Bool.or_eq_false_iff, far_no k, Bool.and_eq_false_iff, decide_eq_false_iff_not, decide_eq_false_iff_not]
    refine ⟨fun ⟨h1, h2⟩ j hj hne => ?_, fun h => ⟨fun j hj => h j (by omega), ?_⟩⟩
    · by_cases e : j = k
      · subst e
        rcases h2 with h2 | h2 <;> omega
      · exact h1 j (by omega) hne
    · by_cases e : k = lost
      · exact Or.inl (by omega)
      · exact Or.inr (by have := h k (by omega) e; omega)
/-- What a row that holds a string's frame tells. -/
theorem tell_of {r s : List Int} (hs : isB s) (hr : isB r) (hl : s.length + 2 ≤ r.length) (hm : s.length ≤ 5000) (h : ∀ i : Nat, i < r.length → nn r i = nd s i) : parity_Repair.tell r = some (s, 0) := by
  have b0 : 0 ≤ rd r 0 ∧ rd r 0 ≤ 255 := isB_rd hr 0
  have b1 : 0 ≤ rd r 1 ∧ rd r 1 ≤ 255 := isB_rd hr 1
  have e0 : rd r 0 = (nn r 0 : Int) := nn_rd hr 0
  have e1 : rd r 1 = (nn r 1 : Int) := nn_rd hr 1
  have n0 : nn r 0 = s.length / 256 % 256 := (h 0 (by omega)).trans (by unfold nd; rw [if_pos rfl])
  have n1 : nn r 1 = s.length % 256 := (h 1 (by omega)).trans (by unfold nd; rw [if_neg (by omega), if_pos rfl])
  have hmm : parity_Repair.m r = (s.length : Int) := by unfold parity_Repair.m; omega
  have hd : ∀ i : Nat, rd r ((2 + i : Nat) : Int) = rd s (i : Int) := fun i => by
    by_cases hi : 2 + i < r.length
    · rw [nn_rd hr, h _ hi, nn_rd hs]
      unfold nd
      rw [if_neg (by omega), if_neg (by omega), show 2 + i - 2 = i by omega]
    · rw [rd_out r _ (by omega), rd_out s _ (by omega)]
  unfold parity_Repair.tell
  rw [if_neg (by omega), hmm, Int.toNat_natCast, if_neg]
  · congr 2
    apply list_ext
    · rw [List.length_drop, List.length_take]; omega
    · intro i hi
      rw [List.length_drop, List.length_take] at hi
      rw [← hd i, rdn, rdn, List.getD_eq_getElem?_getD, List.getD_eq_getElem?_getD, List.getElem?_drop, List.getElem?_take_of_lt (by omega)]
  · intro hh
    rcases hh with hh | hh
    · omega
    · obtain ⟨j, hj, hz⟩ := (parity_Repair.any_ _).mp hh
      apply hz
      rw [parity_Repair.rd_drop, show 2 + s.length + j = 2 + (s.length + j) by omega, hd, rd_out s _ (by omega)]
/-- What a row tells, told the other way. -/
theorem of_tell {r s : List Int} {e : Int} (hr : isB r) (hl : 2 ≤ r.length) (h : parity_Repair.tell r = some (s, e)) : (s = [] ∧ e = 12) ∨ (e = 0 ∧ isB s ∧ s.length + 2 ≤ r.length ∧ ∀ i : Nat, i < r.length → nn r i = nd s i) := by
  have b0 : 0 ≤ rd r 0 ∧ rd r 0 ≤ 255 := isB_rd hr 0
  have b1 : 0 ≤ rd r 1 ∧ rd r 1 ≤ 255 := isB_rd hr 1
  have e0 : rd r 0 = (nn r 0 : Int) := nn_rd hr 0
  have e1 : rd r 1 = (nn r 1 : Int) := nn_rd hr 1
  unfold parity_Repair.tell at h
  rw [if_neg (by omega)] at h
  by_cases hh : (r.length : Int) - 2 < parity_Repair.m r ∨ (r.drop (2 + (parity_Repair.m r).toNat)).any (fun x => x != 0) = true
  · rw [if_pos hh] at h
    injection h with h
    injection h with h1 h2
    exact Or.inl ⟨h1.symm, h2.symm⟩
  · rw [if_neg hh] at h
    injection h with h
    injection h with h1 h2
    right
    obtain ⟨M, hM⟩ : ∃ M : Nat, parity_Repair.m r = (M : Int) := ⟨(parity_Repair.m r).toNat, by unfold parity_Repair.m; omega⟩
    rw [hM, Int.toNat_natCast] at hh h1
    have hMr : M + 2 ≤ r.length := by
      rcases Nat.lt_or_ge r.length (M + 2) with q | q
      · exact absurd (Or.inl (by omega)) hh
      · exact q
    have hM2 : (M : Int) = (nn r 0 : Int) * 256 + (nn r 1 : Int) := by rw [← hM]; unfold parity_Repair.m; rw [e0, e1]
    have l0 := nn_lt hr 0
    have l1 := nn_lt hr 1
    have hsl : s.length = M := by rw [← h1, List.length_drop, List.length_take]; omega
    have hd : ∀ i : Nat, i < M → rd s (i : Int) = rd r ((2 + i : Nat) : Int) := fun i hi => by
      rw [← h1, rdn, rdn, List.getD_eq_getElem?_getD, List.getD_eq_getElem?_getD, List.getElem?_drop, List.getElem?_take_of_lt (by omega)]
    refine ⟨h2.symm, isB_of (fun i hi => by rw [hd i (by omega)]; exact isB_rd hr _), by omega, fun i hi => ?_⟩
    unfold nd
    by_cases c0 : i = 0
    · subst c0; rw [if_pos rfl]; omega
    · rw [if_neg c0]
      by_cases c1 : i = 1
      · subst c1; rw [if_pos rfl]; omega
      · rw [if_neg c1]
        by_cases c2 : i - 2 < M
        · unfold nn
          rw [hd (i - 2) c2, show 2 + (i - 2) = i by omega]
        · rw [nn_out s _ (by omega)]
          unfold nn
          by_cases hz : rd r (i : Int) = 0
          · rw [hz]; rfl
          · exfalso
            apply hh
            right
            refine (parity_Repair.any_ _).mpr ⟨i - (2 + M), by rw [List.length_drop]; omega, ?_⟩
            rw [parity_Repair.rd_drop, show 2 + M + (i - (2 + M)) = i by omega]
            exact hz
/-! ### the reference's parity -/
theorem rL_ (l : List (List Int)) (i : Nat) : rd_L1 l (i : Int) = l.getD i [] := by unfold rd_L1; rw [Int.toNat_natCast]
theorem rd_app_l (a b : List Int) (i : Nat) (h : i < a.length) : rd (a ++ b) (i : Int) = rd a (i : Int) := by
  rw [rdn, rdn, List.getD_eq_getElem?_getD, List.getD_eq_getElem?_getD, List.getElem?_append_left h]
theorem rd_app_r (a b : List Int) (i : Nat) (h : a.length ≤ i) : rd (a ++ b) (i : Int) = rd b ((i - a.length : Nat) : Int) := by
  rw [rdn, rdn, List.getD_eq_getElem?_getD, List.getD_eq_getElem?_getD, List.getElem?_append_right h]
theorem rd_rep (n : Nat) (i : Nat) : rd (List.replicate n 0) (i : Int) = 0 := by
  rw [rdn, List.getD_eq_getElem?_getD, List.getElem?_replicate]; split <;> rfl
def frm (s : List Int) (w : Nat) : List Int := [(s.length : Int) / 256 % 256, (s.length : Int) % 256] ++ s ++ List.replicate (w - s.length) 0
theorem frm_len (s : List Int) (w : Nat) (h : s.length ≤ w) : (frm s w).length = w + 2 := by
  unfold frm
  rw [List.length_append, List.length_append, List.length_replicate]
  show 2 + s.length + (w - s.length) = w + 2
  omega
theorem frm_rd {s : List Int} (hs : isB s) (w i : Nat) : rd (frm s w) (i : Int) = (nd s i : Int) := by
  unfold frm
  by_cases h : i < s.length + 2
  · rw [rd_app_l _ _ i (by rw [List.length_append]; show i < 2 + s.length; omega)]
    unfold nd
    by_cases c0 : i = 0
    · subst c0
      rw [if_pos rfl]
      show (s.length : Int) / 256 % 256 = _
      omega
    · rw [if_neg c0]
      by_cases c1 : i = 1
      · subst c1
        rw [if_pos rfl]
        show (s.length : Int) % 256 = _
        omega
      · rw [if_neg c1, rd_app_r _ _ i (by show 2 ≤ i; omega), ← nn_rd hs]
        rfl
  · rw [nd_out s i (by omega), rd_app_r _ _ i (by rw [List.length_append]; show 2 + s.length ≤ i; omega), rd_rep]; rfl
theorem fr_l0 (w : Nat) (hw : w ≤ 1000000) : ∀ (d : Nat) (x : List Int) (k : Nat), x.length + d = w + 2 → d < k → bitloftref42_framed.l0 k (w : Int) x = some (x ++ List.replicate d 0)
  | 0, x, k, h, hk => by
    obtain ⟨k, rfl⟩ : ∃ m, k = m + 1 := ⟨k - 1, by omega⟩
    rw [bitloftref42_framed.l0, w64_ (by omega), if_neg (by omega)]
    simp
  | d + 1, x, k, h, hk => by
    obtain ⟨k, rfl⟩ : ∃ m, k = m + 1 := ⟨k - 1, by omega⟩
    rw [bitloftref42_framed.l0, w64_ (by omega), if_pos (by omega), if_pos (by omega), fr_l0 w hw d (x ++ [0]) k (by rw [List.length_append]; show x.length + 1 + d = _; omega) (by omega), List.append_assoc]
    rfl
theorem fr_ev (s : List Int) (w k : Nat) (hw : w ≤ 1000000) (hs : s.length ≤ w) (hk : w < k) : bitloftref42_framed.f k s (w : Int) = some (frm s w) := by
  unfold bitloftref42_framed.f
  rw [Option.bind_some, w64_ (by omega), if_pos (by show 2 + s.length < _; omega), fr_l0 w hw (w - s.length) _ k (by rw [List.length_append]; show 2 + s.length + _ = _; omega) (by omega)]
  rfl
def mxd (a b : List Int) (n : Nat) : List Int := (List.range n).map fun i : Nat => bits .xor .u8 (rd a (i : Int)) (rd b (i : Int))
theorem mxd_len (a b : List Int) (n : Nat) : (mxd a b n).length = n := by simp [mxd]
theorem mxd_rd (a b : List Int) (n i : Nat) (h : i < n) : rd (mxd a b n) (i : Int) = bits .xor .u8 (rd a (i : Int)) (rd b (i : Int)) := by
  rw [rdn, List.getD_eq_getElem?_getD, mxd, List.getElem?_map, List.getElem?_range h]; rfl
theorem mxd_succ (a b : List Int) (i : Nat) : mxd a b (i + 1) = mxd a b i ++ [bits .xor .u8 (rd a (i : Int)) (rd b (i : Int))] := by
  rw [mxd, List.range_succ, List.map_append]; rfl
theorem mi_l0 (a b : List Int) (hl : a.length ≤ b.length) (hb : b.length ≤ 1000002) : ∀ (d i k : Nat), i + d = a.length → d < k → bitloftref42_mixed.l0 k a b (mxd a b i) (i : Int) = some (mxd a b a.length)
  | 0, i, k, h, hk => by
    obtain ⟨k, rfl⟩ : ∃ m, k = m + 1 := ⟨k - 1, by omega⟩
    rw [bitloftref42_mixed.l0, if_neg (by omega), show i = a.length by omega]
  | d + 1, i, k, h, hk => by
    obtain ⟨k, rfl⟩ : ∃ m, k = m + 1 := ⟨k - 1, by omega⟩
    rw [bitloftref42_mixed.l0, if_pos (by omega), if_pos (by omega), if_pos (by omega), if_pos (by rw [mxd_len]; omega), w64_ (by omega), ← mxd_succ, show (i : Int) + 1 = ((i + 1 : Nat) : Int) by omega]
    exact mi_l0 a b hl hb d (i + 1) k (by omega) (by omega)
theorem mi_ev (a b : List Int) (k : Nat) (hl : a.length ≤ b.length) (hb : b.length ≤ 1000002) (hk : a.length < k) : bitloftref42_mixed.f k a b = some (mxd a b a.length) := by
  unfold bitloftref42_mixed.f
  exact mi_l0 a b hl hb a.length 0 k (by omega) hk
theorem mx_row {xs s : List Int} {w : Nat} (hx : isB xs) (hs : isB s) (h : s.length ≤ w) (hl : xs.length = w + 2) : mxd xs (frm s w) xs.length = parity_add.row xs s s.length := by
  apply list_ext
  · rw [mxd_len, parity_add.row_len]
  · intro i hi
    rw [mxd_len] at hi
    rw [mxd_rd _ _ _ _ hi, add_rd hx hs (by omega), frm_rd hs, nn_rd hx, xor8 _ _ (nn_lt hx i) (nd_lt hs i)]
theorem zero_frm (l : List (List Int)) (w : Nat) : frm [] w = parity_sum.acc l w 0 := by
  rw [parity_sum.acc]
  unfold frm
  rfl
theorem mxn (a b : Nat) : mx (a : Int) (b : Int) = ((max a b : Nat) : Int) := by unfold mx; split <;> omega
theorem pa_l0 (l : List (List Int)) (hn : l.length ≤ 1000000) : ∀ (d i k : Nat), i + d = l.length → bitloftref42_parity.l0 (k + d + 1) l (parity_sum.wide l i : Int) (i : Int) = (bitloftref42_framed.f k ([] : List Int) (wd l : Int)).bind fun t => bitloftref42_parity.l1 k l (wd l : Int) t 0
  | 0, i, k, h => by
    rw [Nat.add_zero, bitloftref42_parity.l0, if_neg (by omega), show i = l.length by omega]; rfl
  | d + 1, i, k, h => by
    rw [show k + (d + 1) + 1 = (k + d + 1) + 1 by omega, bitloftref42_parity.l0, if_pos (by omega), if_pos (by omega), rL_, w64_ (by omega), mxn, show (i : Int) + 1 = ((i + 1 : Nat) : Int) by omega]
    exact pa_l0 l hn d (i + 1) k (by omega)
theorem pa_l1 {l : List (List Int)} (hB : ∀ x ∈ l, isB x) (hn : l.length ≤ 1000000) (hw : wd l ≤ 1000000) : ∀ (d i k : Nat), i + d = l.length → d + wd l + 3 < k → bitloftref42_parity.l1 k l (wd l : Int) (parity_sum.acc l (wd l) i) (i : Int) = some (par l)
  | 0, i, k, h, hk => by
    obtain ⟨k, rfl⟩ : ∃ m, k = m + 1 := ⟨k - 1, by omega⟩
    rw [bitloftref42_parity.l1, if_neg (by omega), show i = l.length by omega]; rfl
  | d + 1, i, k, h, hk => by
    obtain ⟨k, rfl⟩ : ∃ m, k = m + 1 := ⟨k - 1, by omega⟩
    have hi : i < l.length := by omega
    have hle := le_wd l i hi
    have hal := parity_sum.acc_len l (wd l) i
    have hib := (acc_rd (m := wd l) hB i (fun j hj => le_wd l j (by omega))).1
    rw [bitloftref42_parity.l1, if_pos (by omega), if_pos (by omega), rL_, fr_ev _ (wd l) k hw hle (by omega), Option.bind_some,
      mi_ev _ _ k (by rw [hal, frm_len _ _ hle]; omega) (by rw [frm_len _ _ hle]; omega) (by rw [hal]; omega), Option.bind_some, mx_row hib (gD hB i) hle hal, w64_ (by omega), show (i : Int) + 1 = ((i + 1 : Nat) : Int) by omega]
    exact pa_l1 hB hn hw d (i + 1) k (by omega) (by omega)
theorem pa_ev {l : List (List Int)} (hB : ∀ x ∈ l, isB x) (hn : l.length ≤ 1000000) (hw : wd l ≤ 1000000) (k : Nat) (hk : 2 * l.length + wd l + 5 < k) : bitloftref42_parity.f k l = some (par l) := by
  obtain ⟨q, rfl⟩ : ∃ q, k = q + l.length + 1 := ⟨k - l.length - 1, by omega⟩
  unfold bitloftref42_parity.f
  have h := pa_l0 l hn l.length 0 q (by omega)
  rw [show ((0 : Nat) : Int) = 0 from rfl, show ((parity_sum.wide l 0 : Nat) : Int) = 0 from rfl] at h
  rw [h, fr_ev [] (wd l) q hw (Nat.zero_le _) (by omega), Option.bind_some, zero_frm l (wd l)]
  exact pa_l1 hB hn hw l.length 0 q (by omega) (by omega)
/-! ### is one too long? -/
theorem far_mono (l : List (List Int)) (but : Int) (m : Nat) : ∀ {i n : Nat}, i ≤ n → parity_Repair.farB l but m i = true → parity_Repair.farB l but m n = true := by
  intro i n h
  induction h with
  | refl => exact id
  | step h ih => intro h2; rw [parity_Repair.farB, ih h2]; rfl
theorem lo_l0 (l : List (List Int)) (but : Int) (hn : l.length ≤ 9223372036854775807) : ∀ (d i k : Nat), i + d = l.length → d < k → parity_Repair.farB l but 5000 i = false → bitloftref42_long.l0 k l but (i : Int) = some (parity_Repair.farB l but 5000 l.length)
  | 0, i, k, h, hk, hf => by
    obtain ⟨k, rfl⟩ : ∃ m, k = m + 1 := ⟨k - 1, by omega⟩
    rw [bitloftref42_long.l0, if_neg (by omega), ← hf, show i = l.length by omega]
  | d + 1, i, k, h, hk, hf => by
    obtain ⟨k, rfl⟩ : ∃ m, k = m + 1 := ⟨k - 1, by omega⟩
    rw [bitloftref42_long.l0, if_pos (by omega)]
    by_cases c : (i : Int) = but
    · rw [if_pos c, w64_ (by omega), show (i : Int) + 1 = ((i + 1 : Nat) : Int) by omega]
      refine lo_l0 l but hn d (i + 1) k (by omega) (by omega) ?_
      rw [parity_Repair.farB, hf, decide_eq_false (fun h => h c)]; rfl
    · rw [if_neg c, if_pos (by omega), rL_]
      by_cases c2 : ((l.getD i []).length : Int) > 5000
      · rw [if_pos c2, far_mono l but 5000 (i := i + 1) (by omega)]
        rw [parity_Repair.farB, hf, decide_eq_true c, decide_eq_true (by omega)]; rfl
      · rw [if_neg c2, w64_ (by omega), show (i : Int) + 1 = ((i + 1 : Nat) : Int) by omega]
        refine lo_l0 l but hn d (i + 1) k (by omega) (by omega) ?_
        rw [parity_Repair.farB, hf, decide_eq_false (p := 5000 < _) (by omega), Bool.and_false]; rfl
theorem lo_ev (l : List (List Int)) (but : Int) (hn : l.length ≤ 9223372036854775807) (k : Nat) (hk : l.length < k) : bitloftref42_long.f k l but = some (parity_Repair.farB l but 5000 l.length) := lo_l0 l but hn l.length 0 k (by omega) hk rfl
theorem far_all (l : List (List Int)) (m : Nat) : parity_Repair.farB l (-1) m l.length = false ↔ ∀ x ∈ l, x.length ≤ m := by
  have key : ∀ k, parity_Repair.farB l (-1) m k = false ↔ ∀ j, j < k → (l.getD j []).length ≤ m := by
    intro k
    induction k with
    | zero => exact ⟨fun _ j hj => absurd hj (Nat.not_lt_zero _), fun _ => rfl⟩
    | succ k ih =>
      rw [parity_Repair.farB, Bool.or_eq_false_iff, ih, Bool.and_eq_false_iff, decide_eq_false_iff_not, decide_eq_false_iff_not]
      refine ⟨fun ⟨h1, h2⟩ j hj => ?_, fun h => ⟨fun j hj => h j (by omega), Or.inr (by have := h k (by omega); omega)⟩⟩
      by_cases e : j = k
      · subst e; rcases h2 with h2 | h2 <;> omega
      · exact h1 j (by omega)
  rw [key]
  refine ⟨fun h x hx => ?_, fun h j hj => by rw [getD_in hj]; exact h _ (List.getElem_mem hj)⟩
  obtain ⟨j, hj, rfl⟩ := List.getElem_of_mem hx
  have := h j hj
  rwa [getD_in hj] at this
/-- The reference's parity of any list: it answers; without an error just where the list is a group. -/
theorem ro_ev {l : List (List Int)} (hB : ∀ x ∈ l, isB x) (hn : l.length ≤ 9223372036854775807) : (grp l ∧ Ev (fun k => bitloftref42_Of.f k l) (par l, 0)) ∨ (¬ grp l ∧ Ev (fun k => bitloftref42_Of.f k l) ([], 4)) := by
  by_cases c : (l.length : Int) > 16
  · exact Or.inr ⟨fun h => by have := h.1; omega, 0, fun k _ => by show bitloftref42_Of.f k l = _; rw [bitloftref42_Of.f, if_pos c]⟩
  · by_cases hf : parity_Repair.farB l (-1) 5000 l.length = true
    · refine Or.inr ⟨fun h => ?_, l.length + 1, fun k hk => by show bitloftref42_Of.f k l = _; rw [bitloftref42_Of.f, if_neg c, lo_ev l (-1) hn k (by omega), hf, Option.bind_some, if_pos rfl]⟩
      have := (far_all l 5000).mpr h.2
      rw [this] at hf; cases hf
    · have hf2 : parity_Repair.farB l (-1) 5000 l.length = false := by simpa using hf
      have hg : grp l := ⟨by omega, (far_all l 5000).mp hf2⟩
      have hw := wd_le hg
      refine Or.inl ⟨hg, 2 * l.length + wd l + 6, fun k hk => ?_⟩
      show bitloftref42_Of.f k l = _
      rw [bitloftref42_Of.f, if_neg c, lo_ev l (-1) hn k (by omega), hf2, Option.bind_some, if_neg (by decide), pa_ev hB (by omega) (by omega) k (by omega), Option.bind_some]
theorem gr_l0 (l : List (List Int)) (hn : l.length ≤ 9223372036854775807) : ∀ (d i : Nat) (x : Int) , i + d = l.length → ∃ k b, bitloftref42_Great.l0 k l x (i : Int) = some b := by
  have stop : ∀ (i : Int) (x : Int), ∃ b, bitloftref42_Great.j1 1 l x i false = some b := fun i x => by
    rw [bitloftref42_Great.j1, if_neg (by decide)]
    split
    · exact ⟨_, rfl⟩
    · split
      · split
        · exact ⟨_, rfl⟩
        · exact ⟨_, rfl⟩
      · exact ⟨_, rfl⟩
  intro d
  induction d with
  | zero =>
    intro i x h
    obtain ⟨b, hb⟩ := stop i x
    exact ⟨2, b, by rw [bitloftref42_Great.l0, if_neg (by omega)]; exact hb⟩
  | succ d ih =>
    intro i x h
    by_cases c : (i : Int) ≤ 100
    · by_cases c2 : ((l.getD i []).length : Int) ≤ 5000
      · obtain ⟨k, b, hb⟩ := ih (i + 1) (wrap64 (x + ((l.getD i []).length : Int))) (by omega)
        exact ⟨k + 2, b, by rw [bitloftref42_Great.l0, if_pos (by omega), decide_eq_true c, bitloftref42_Great.j1, if_pos rfl, if_pos (by omega), if_pos (by omega), rL_, if_pos c2, w64_ (x := (i : Int) + 1) (by omega), show (i : Int) + 1 = ((i + 1 : Nat) : Int) by omega]; exact hb⟩
      · obtain ⟨k, b, hb⟩ := ih (i + 1) x (by omega)
        exact ⟨k + 2, b, by rw [bitloftref42_Great.l0, if_pos (by omega), decide_eq_true c, bitloftref42_Great.j1, if_pos rfl, if_pos (by omega), if_pos (by omega), rL_, if_neg c2, w64_ (x := (i : Int) + 1) (by omega), show (i : Int) + 1 = ((i + 1 : Nat) : Int) by omega]; exact hb⟩
    · obtain ⟨b, hb⟩ := stop i x
      exact ⟨2, b, by rw [bitloftref42_Great.l0, if_pos (by omega), decide_eq_false c]; exact hb⟩
theorem gr_ev (l : List (List Int)) (hn : l.length ≤ 9223372036854775807) : ∃ b, Ev (fun k => bitloftref42_Great.f k l) b := by
  obtain ⟨k, b, hb⟩ := gr_l0 l hn l.length 0 0 (by omega)
  exact ⟨b, Ev.of (fun k => bitloftref42_Great.mono _ k) (k := k) hb⟩
/-- 'fit' answers; where it says yes, the list is a group. -/
theorem fit_ev {l : List (List Int)} (hB : ∀ x ∈ l, isB x) (hn : l.length ≤ 9223372036854775807) : ∃ b, Ev (fun k => bitloftlaw42_fit.f k l) b ∧ (b = true → grp l) := by
  obtain ⟨g, K2, h2⟩ := gr_ev l hn
  have key : ∀ r : List Int × Int, Ev (fun k => bitloftref42_Of.f k l) r → Ev (fun k => bitloftlaw42_fit.f k l) (if g = true then false else (r.2 == 0)) := by
    rintro r ⟨K1, h1⟩
    refine ⟨K1 + K2, fun k hk => ?_⟩
    show bitloftlaw42_fit.f k l = _
    have e1 : bitloftref42_Of.f k l = some r := h1 k (by omega)
    have e2 : bitloftref42_Great.f k l = some g := h2 k (by omega)
    rw [bitloftlaw42_fit.f, e1, Option.bind_some, e2, Option.bind_some]
    split <;> rfl
  rcases ro_ev hB hn with ⟨hg, h1⟩ | ⟨_, h1⟩
  · exact ⟨_, key _ h1, fun _ => hg⟩
  · refine ⟨_, key _ h1, fun h => ?_⟩
    split at h
    · cases h
    · simp at h
/-! ### the parity does not depend on the order -/
def XL (i : Nat) : List (List Int) → Nat
  | [] => 0
  | s :: r => nd s i ^^^ XL i r
theorem XL_app (i : Nat) : ∀ a b : List (List Int), XL i (a ++ b) = XL i a ^^^ XL i b
  | [], b => by rw [List.nil_append, XL, Nat.zero_xor]
  | s :: a, b => by rw [List.cons_append, XL, XL, XL_app i a b, Nat.xor_assoc]
theorem XL_rev (i : Nat) : ∀ a : List (List Int), XL i a.reverse = XL i a
  | [] => rfl
  | s :: a => by rw [List.reverse_cons, XL_app, XL_rev i a, XL, XL, XL, Nat.xor_zero, Nat.xor_comm]
theorem XA_XL (l : List (List Int)) (i : Nat) : ∀ k, k ≤ l.length → XA l i k = XL i (l.take k)
  | 0, _ => rfl
  | k + 1, h => by
    rw [XA, XA_XL l i k (by omega), List.take_succ_eq_append_getElem (by omega), XL_app, XL, XL, Nat.xor_zero, getD_in (by omega)]
theorem XA_all (l : List (List Int)) (i : Nat) : XA l i l.length = XL i l := by rw [XA_XL l i _ (Nat.le_refl _), List.take_length]
theorem wd_mem (l : List (List Int)) (M : Nat) : wd l ≤ M ↔ ∀ x ∈ l, x.length ≤ M := by
  refine ⟨fun h x hx => ?_, fun h => wide_le l M _ (fun j hj => by rw [getD_in hj]; exact h _ (List.getElem_mem hj))⟩
  obtain ⟨j, hj, rfl⟩ := List.getElem_of_mem hx
  have := le_wd l j hj
  rw [getD_in hj] at this
  omega
theorem wd_rev (l : List (List Int)) : wd l.reverse = wd l := by
  apply Nat.le_antisymm
  · exact (wd_mem _ _).mpr (fun x hx => (wd_mem l _).mp (Nat.le_refl _) x (List.mem_reverse.mp hx))
  · exact (wd_mem _ _).mpr (fun x hx => (wd_mem l.reverse _).mp (Nat.le_refl _) x (List.mem_reverse.mpr hx))
theorem par_rev {l : List (List Int)} (hB : ∀ x ∈ l, isB x) : par l.reverse = par l := by
  apply list_ext
  · rw [par_len, par_len, wd_rev]
  · intro i _
    rw [par_rd (fun x hx => hB x (List.mem_reverse.mp hx)), par_rd hB, XA_all, XA_all, XL_rev]
/-! ### one string alone -/
theorem par_one {s : List Int} (hs : isB s) : (par [s]).length = s.length + 2 ∧ ∀ i : Nat, rd (par [s]) (i : Int) = (nd s i : Int) := by
  have hB : ∀ x ∈ [s], isB x := fun x hx => by rw [List.mem_singleton.mp hx]; exact hs
  refine ⟨?_, fun i => by rw [par_rd hB, XA_all, XL, XL, Nat.xor_zero]⟩
  rw [par_len]
  have : wd [s] = s.length := by unfold wd; simp [parity_sum.wide]
  rw [this]
/-! ### repaired is what was there -/
theorem rep_back {l : List (List Int)} {lost : Nat} {o : List Int} (hB : ∀ x ∈ l, isB x) (ho : isB o) (hg : grp l) (hl : lost < l.length) : parity_Repair.f (l.set lost o) (lost : Int) (par l) = some (l.getD lost [], 0) := by
  have hn := hg.1
  have hw := wd_le hg
  have hpl := par_len l
  have hB2 : ∀ x ∈ l.set lost o, isB x := fun x hx => by
    rcases List.mem_or_eq_of_mem_set hx with h | h
    · exact hB x h
    · rw [h]; exact ho
  have hoth : ∀ j, j < l.length → j ≠ lost → ((l.set lost o).getD j []).length ≤ wd l := fun j hj hne => by rw [getD_set_ne _ _ _ _ hne]; exact le_wd l j hj
  have f1 : parity_Repair.farB (l.set lost o) (lost : Int) 5000 (l.set lost o).length = false := (far_no _).mpr (fun j hj hne => by rw [List.length_set] at hj; have := hoth j hj hne; omega)
  have f2 : parity_Repair.farB (l.set lost o) (lost : Int) ((par l).length - 2) (l.set lost o).length = false := (far_no _).mpr (fun j hj hne => by rw [List.length_set] at hj; have := hoth j hj hne; omega)
  have hll : (l.set lost o).length = l.length := List.length_set
  obtain ⟨rb, rr⟩ := rows_rd (p := par l) hB2 (par_B hB) (l.set lost o).length (fun j hj hne => by rw [hll] at hj; have := hoth j hj hne; omega)
  have rl := parity_Repair.rows_len (l.set lost o) (lost : Int) (par l) (l.set lost o).length
  have hs := le_wd l lost hl
  rw [parity_Repair.f, if_neg (by omega), if_neg (by rw [f1]; simp; omega), if_neg (by omega), if_neg (by rw [f2]; simp; omega)]
  refine tell_of (gD hB lost) rb (by omega) (by omega) (fun i hi => ?_)
  rw [nn_of (rr i), nn_of (par_rd hB i), XB_set, hll, XA_split l lost i l.length hl, Nat.xor_comm (XB l lost i l.length), Nat.xor_assoc, Nat.xor_self, Nat.xor_zero]
/-! ### the law -/
theorem loop_rev {l : List (List Int)} (lost : Int) (p q back : List Int) (e f : Int) (hn : l.length ≤ 16) : ∀ (d : Nat) (k : Nat), d ≤ l.length → bitloftlaw42_ParityRepairs.l0 (k + d) l lost true p e back f (l.reverse.take (l.length - d)) ((d : Int) - 1) = bitloftlaw42_ParityRepairs.l0 k l lost true p e back f l.reverse (-1)
  | 0, k, _ => by rw [Nat.sub_zero, List.take_of_length_le (by rw [List.length_reverse]; exact Nat.le_refl _)]; rfl
  | d + 1, k, h => by
    rw [show k + (d + 1) = (k + d) + 1 from rfl, bitloftlaw42_ParityRepairs.l0, if_pos (by omega), if_pos (by omega), if_pos (by omega), if_pos (by rw [List.length_take, List.length_reverse]; omega), w64_ (by omega), show ((d + 1 : Nat) : Int) - 1 - 1 = (d : Int) - 1 by omega, ← loop_rev lost p q back e f hn d k (by omega)]
    congr 1
    rw [show l.length - d = (l.length - (d + 1)) + 1 by omega, List.take_succ_eq_append_getElem (by rw [List.length_reverse]; omega), List.getElem_reverse, show ((d + 1 : Nat) : Int) - 1 = (d : Int) by omega, rL_, getD_in (by omega)]
    congr 3
    omega
theorem wfB {l : List Int} (h : ∀ x ∈ l, (Lit.int .u8 x).wf = true) : isB l := fun x hx => by
  have := h x hx
  simp [Lit.wf, IntKind.min, IntKind.max, IntKind.bits, IntKind.signed] at this
  omega
theorem rep_j0 {l : List (List Int)} {o : List Int} {a : Int} (hB : ∀ x ∈ l, isB x) (ho : isB o) (hg : grp l) (h0 : 0 ≤ a) (h1 : a < (l.length : Int)) : ∀ k, l.length + 10 < k → bitloftlaw42_ParityRepairs.j0 k l a o true false = some true := by
  intro k hk
  obtain ⟨lost, rfl⟩ := Int.eq_ofNat_of_zero_le h0
  have hlost : lost < l.length := by omega
  have hn := hg.1
  obtain ⟨k, rfl⟩ : ∃ m, k = ((m + 3) + l.length) + 1 := ⟨k - l.length - 4, by omega⟩
  have hsB := gD hB lost
  have hs5 : (l.getD lost []).length ≤ 5000 := by rw [getD_in hlost]; exact hg.2 _ (List.getElem_mem hlost)
  have hrg : grp l.reverse := ⟨by rw [List.length_reverse]; exact hn, fun x hx => hg.2 x (List.mem_reverse.mp hx)⟩
  have hone : (l.take (lost + 1)).drop lost = [l.getD lost []] := by
    rw [List.take_succ_eq_append_getElem hlost, List.drop_append_of_le_length (by rw [List.length_take]; omega), List.drop_of_length_le (by rw [List.length_take]; omega), getD_in hlost]; rfl
  have hog : grp [l.getD lost []] := ⟨by show 1 ≤ 16; omega, fun x hx => by rw [List.mem_singleton.mp hx]; exact hs5⟩
  obtain ⟨ol, orr⟩ := par_one hsB
  have hset : (([] : List (List Int)) ++ l).set (lost : Int).toNat o = l.set lost o := by rw [List.nil_append, Int.toNat_natCast]
  rw [bitloftlaw42_ParityRepairs.j0, if_neg (by decide), of_grp hg, Option.bind_some, Option.bind_some, if_pos (by show 0 + l.length < _; omega), Option.bind_some, if_pos (by omega), if_pos (by rw [List.nil_append]; omega)]
  show (parity_Repair.f ((([] : List (List Int)) ++ l).set (lost : Int).toNat o) (lost : Int) (par l)).bind _ = _
  rw [hset, rep_back hB ho hg hlost, Option.bind_some]
  have ca : (0 : Int) ≤ (lost : Int) := by omega
  have cb : (lost : Int) ≤ (lost : Int) + 1 := by omega
  have cc : (lost : Int) + 1 ≤ (l.length : Int) := by omega
  have cd : (lost : Int) < (l.length : Int) := by omega
  have ce : ((lost : Int) + 1).toNat = lost + 1 := by omega
  have cn : ¬ (-1 : Int) ≥ 0 := by omega
  have ewl : wrap64 ((l.length : Int) - 1) = (l.length : Int) - 1 := w64_ (by omega)
  have hlp := loop_rev (lost : Int) (par l) (par l) (l.getD lost []) 0 0 hn l.length (k + 3) (Nat.le_refl _)
  rw [Nat.sub_self, List.take_zero] at hlp
  show bitloftlaw42_ParityRepairs.l0 (k + 3 + l.length) l (lost : Int) true (par l) 0 (l.getD lost []) 0 [] (wrap64 ((l.length : Int) - 1)) = _
  have hdrop : (par [l.getD lost []]).drop 2 = l.getD lost [] := by
    apply list_ext
    · rw [List.length_drop, ol]; omega
    · intro i hi
      rw [List.length_drop, ol] at hi
      rw [parity_Repair.rd_drop, orr, nn_rd hsB]
      unfold nd
      rw [if_neg (by omega), if_neg (by omega), show 2 + i - 2 = i by omega]
  have e0 : rd (par [l.getD lost []]) 0 = ((nd (l.getD lost []) 0 : Nat) : Int) := orr 0
  have e1 : rd (par [l.getD lost []]) 1 = ((nd (l.getD lost []) 1 : Nat) : Int) := orr 1
  have n0 : nd (l.getD lost []) 0 = (l.getD lost []).length / 256 % 256 := by unfold nd; rw [if_pos rfl]
  have n1 : nd (l.getD lost []) 1 = (l.getD lost []).length % 256 := by unfold nd; rw [if_neg (by omega), if_pos rfl]
  have ew : wrap64 ((lost : Int) + 1) = (lost : Int) + 1 := w64_ (by omega)
  rw [ewl, hlp]
  clear hlp
  rw [bitloftlaw42_ParityRepairs.l0, if_neg cn, of_grp hrg, par_rev hB, Option.bind_some, if_pos ca, ew, if_pos cb, if_pos cc, ce, Int.toNat_natCast, hone, of_grp hog, Option.bind_some, if_pos rfl, if_pos rfl, if_pos cd, rL_, if_pos rfl, if_pos rfl, if_pos rfl, if_pos rfl]
  have eb : ((((par [l.getD lost []]).length : Int) != (wrap64 (((l.getD lost []).length : Int) + 2))) = false) := by
    rw [w64_ (by omega), ol]
    simp
  show bitloftlaw42_ParityRepairs.j2 (k + 2) l (lost : Int) true (par [l.getD lost []]) (((par [l.getD lost []]).length : Int) != (wrap64 (((l.getD lost []).length : Int) + 2))) = _
  rw [eb, bitloftlaw42_ParityRepairs.j2, if_neg (by decide), if_pos rfl, if_pos (by omega), if_pos (by omega), if_pos (by omega), hdrop, rL_, if_pos rfl, if_pos (by omega), if_pos (by omega), e0, e1, n0, n1, w64_ (x := (((l.getD lost []).length / 256 % 256 : Nat) : Int)) (by omega), w64_ (x := (((l.getD lost []).length % 256 : Nat) : Int)) (by omega), w64_ (x := 256 * (((l.getD lost []).length / 256 % 256 : Nat) : Int)) (by omega), w64_ (by omega), bitloftlaw42_ParityRepairs.j3]
  congr 1
  rw [beq_iff_eq]
  omega
theorem ParityRepairs : bitloftlaw42_ParityRepairs.Pure := by
  intro l a p hl hx _ hp _ hw
  have hB : ∀ x ∈ l, isB x := fun x h => wfB (hx x h).2
  have hpB : isB p := wfB hw
  obtain ⟨b, ⟨K, hK⟩, hb⟩ := fit_ev hB (by unfold maxLen at hl; omega)
  refine ⟨K + l.length + 20, ?_⟩
  have e : bitloftlaw42_fit.f (K + l.length + 20) l = some b := hK _ (by omega)
  have out : bitloftlaw42_ParityRepairs.j0 (K + l.length + 20) l a p true true = some true := by
    rw [show K + l.length + 20 = (K + l.length + 19) + 1 from rfl, bitloftlaw42_ParityRepairs.j0, if_pos rfl]
  rw [bitloftlaw42_ParityRepairs.f, bitloftlaw42_alive.f, Option.bind_some, e, Option.bind_some]
  cases b
  · exact out
  · rw [if_pos rfl]
    by_cases c1 : a < 0
    · rw [if_pos c1]; exact out
    rw [if_neg c1]
    by_cases c2 : a ≥ (l.length : Int)
    · rw [if_pos c2]; exact out
    rw [if_neg c2]
    by_cases c3 : (p.length : Int) > 600
    · rw [if_pos c3]; exact out
    rw [if_neg c3]
    exact rep_j0 hB hpB (hb rfl) (by omega) (by omega) _ (by omega)
end Go.Proofs.YtejamobohmljfaaDoor.Pure
