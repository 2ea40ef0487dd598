/- The statement ParityMends, as it stands over the plain functions that the walk found: Right and Recover of the program and of the reference say the same, where each string is shorter than 2 to the 47th (the statement's own bound on what is laid in memory gives that). -/
import Derived.Test.YtejamobohmljfaaDoorXParityMendsx8
import Derived.OpenShut
set_option linter.unusedVariables false
set_option linter.unusedSimpArgs false
namespace Go.Proofs.YtejamobohmljfaaDoor.Pure
open Go.RowKit Go.Proofs.YtejamobohmljfaaDoor.XParityMends Go.Proofs.YtejamobohmljfaaDoorW.PrintWords Go.Proofs.YtejamobohmljfaaDoorW.PrintLast
/-! ### bytes -/
theorem w64_ {x : Int} (h : -9223372036854775808 ≤ x ∧ x ≤ 9223372036854775807) : wrap64 x = x := by unfold wrap64; omega
theorem xor8 (a b : Nat) (ha : a < 256) (hb : b < 256) : bits .xor .u8 (a : Int) (b : Int) = ((a ^^^ b : Nat) : Int) := by
  have hx : a ^^^ b < 2 ^ 8 := Nat.xor_lt_two_pow (by omega) (by omega)
  have e (c : Nat) (hc : c < 256) : (BitVec.ofInt 8 (c : Int)).toNat = c := by
    rw [BitVec.ofInt_natCast, BitVec.toNat_ofNat]; exact Nat.mod_eq_of_lt (by omega)
  show IntKind.u8.wrap ((BitVec.ofInt 8 (a : Int) ^^^ BitVec.ofInt 8 (b : Int)).toNat : Int) = _
  rw [BitVec.toNat_xor, e a ha, e b hb, show IntKind.u8.wrap ((a ^^^ b : Nat) : Int) = ((a ^^^ b : Nat) : Int) % 256 by simp [IntKind.wrap, IntKind.bits, IntKind.signed]]
  omega
def isB (l : List Int) : Prop := ∀ x ∈ l, 0 ≤ x ∧ x ≤ 255
def nn (l : List Int) (i : Nat) : Nat := (rd l (i : Int)).toNat
/-- A string in its frame, place by place. -/
def nd (s : List Int) (i : Nat) : Nat := if i = 0 then s.length / 256 % 256 else if i = 1 then s.length % 256 else nn s (i - 2)
theorem rdn (l : List Int) (i : Nat) : rd l (i : Int) = l.getD i 0 := by unfold rd; rw [Int.toNat_natCast]
theorem rd_in (l : List Int) (i : Nat) (h : i < l.length) : rd l (i : Int) = l[i] := by
  rw [rdn, List.getD_eq_getElem?_getD, List.getElem?_eq_getElem h]; rfl
theorem rd_out (l : List Int) (i : Nat) (h : l.length ≤ i) : rd l (i : Int) = 0 := by
  rw [rdn, List.getD_eq_getElem?_getD, List.getElem?_eq_none h]; rfl
theorem isB_rd {l : List Int} (h : isB l) (i : Nat) : 0 ≤ rd l (i : Int) ∧ rd l (i : Int) ≤ 255 := by
  by_cases hi : i < l.length
  · rw [rd_in l i hi]; exact h _ (List.getElem_mem hi)
  · rw [rd_out l i (by omega)]; omega
theorem nn_lt {l : List Int} (h : isB l) (i : Nat) : nn l i < 256 := by have := isB_rd h i; unfold nn; omega
theorem nn_rd {l : List Int} (h : isB l) (i : Nat) : rd l (i : Int) = (nn l i : Int) := by have := isB_rd h i; unfold nn; omega
theorem nn_out (l : List Int) (i : Nat) (h : l.length ≤ i) : nn l i = 0 := by unfold nn; rw [rd_out l i h]; rfl
theorem nd_lt {s : List Int} (h : isB s) (i : Nat) : nd s i < 256 := by
  unfold nd
  split
  · exact Nat.mod_lt _ (by omega)
  · split
    · exact Nat.mod_lt _ (by omega)
    · exact nn_lt h _
theorem nd_out (s : List Int) (i : Nat) (h : s.length + 2 ≤ i) : nd s i = 0 := by
  unfold nd
  rw [if_neg (by omega), if_neg (by omega), nn_out _ _ (by omega)]
theorem xlt {a b : Nat} (ha : a < 256) (hb : b < 256) : a ^^^ b < 256 := by
  have : a ^^^ b < 2 ^ 8 := Nat.xor_lt_two_pow (by omega) (by omega)
  omega
theorem list_ext {a b : List Int} (hl : a.length = b.length) (h : ∀ i : Nat, i < a.length → rd a (i : Int) = rd b (i : Int)) : a = b := by
  apply List.ext_getElem hl
  intro i h1 h2
  have := h i h1
  rwa [rd_in a i h1, rd_in b i h2] at this
theorem isB_of {l : List Int} (h : ∀ i : Nat, i < l.length → 0 ≤ rd l (i : Int) ∧ rd l (i : Int) ≤ 255) : isB l := by
  intro x hx
  obtain ⟨i, hi, rfl⟩ := List.getElem_of_mem hx
  have := h i hi
  rwa [rd_in l i hi] at this
theorem isB_nil : isB [] := fun x hx => absurd hx (by simp)
/-! ### add -/
theorem rd_set_ (L : List Int) (i k : Nat) (v : Int) (h : i < L.length) : rd (L.set i v) (k : Int) = if k = i then v else rd L (k : Int) := by
  rw [rdn, rdn, List.getD_eq_getElem?_getD, List.getD_eq_getElem?_getD]
  by_cases e : k = i
  · subst e; rw [if_pos rfl, List.getElem?_set_self h]; rfl
  · rw [if_neg e, List.getElem?_set_ne (by omega)]
theorem row_rd {xs s : List Int} (hx : isB xs) (hs : isB s) (h : s.length + 2 ≤ xs.length) : ∀ k : Nat, k ≤ s.length → ∀ i : Nat, rd (parity_add.row xs s k) (i : Int) = if i < k + 2 then ((nn xs i ^^^ nd s i : Nat) : Int) else rd xs (i : Int)
  | 0, _, i => by
    have e0 : (s.length : Int) / 256 % 256 = ((s.length / 256 % 256 : Nat) : Int) := by omega
    have e1 : (s.length : Int) % 256 = ((s.length % 256 : Nat) : Int) := by omega
    have r0 : rd xs 0 = (nn xs 0 : Int) := nn_rd hx 0
    have r1 : rd xs 1 = (nn xs 1 : Int) := nn_rd hx 1
    rw [parity_add.row, e0, e1, r0, r1, xor8 _ _ (nn_lt hx 0) (Nat.mod_lt _ (by omega)), xor8 _ _ (nn_lt hx 1) (Nat.mod_lt _ (by omega)), rd_set_ _ 1 i _ (by rw [List.length_set]; omega), rd_set_ _ 0 i _ (by omega)]
    by_cases c1 : i = 1
    · subst c1; rw [if_pos rfl, if_pos (by omega)]; rfl
    · rw [if_neg c1]
      by_cases c0 : i = 0
      · subst c0; rw [if_pos rfl, if_pos (by omega)]; rfl
      · rw [if_neg c0, if_neg (by omega)]
  | k + 1, hk, i => by
    have ih := row_rd hx hs h k (by omega)
    have hl := parity_add.row_len xs s k
    have r0 : rd (parity_add.row xs s k) (2 + (k : Int)) = (nn xs (2 + k) : Int) := by
      rw [show 2 + (k : Int) = ((2 + k : Nat) : Int) by omega, ih (2 + k), if_neg (by omega), nn_rd hx]
    rw [parity_add.row, r0, nn_rd hs k, xor8 _ _ (nn_lt hx _) (nn_lt hs _), rd_set_ _ (2 + k) i _ (by rw [hl]; omega)]
    by_cases c : i = 2 + k
    · subst c
      rw [if_pos rfl, if_pos (by omega)]
      congr 2
      unfold nd
      rw [if_neg (by omega), if_neg (by omega), show 2 + k - 2 = k by omega]
    · rw [if_neg c, ih i]
      by_cases c2 : i < k + 2
      · rw [if_pos c2, if_pos (by omega)]
      · rw [if_neg c2, if_neg (by omega)]
theorem add_rd {xs s : List Int} (hx : isB xs) (hs : isB s) (h : s.length + 2 ≤ xs.length) (i : Nat) : rd (parity_add.row xs s s.length) (i : Int) = ((nn xs i ^^^ nd s i : Nat) : Int) := by
  rw [row_rd hx hs h s.length (Nat.le_refl _) i]
  by_cases c : i < s.length + 2
  · rw [if_pos c]
  · rw [if_neg c, nd_out s i (by omega), Nat.xor_zero, nn_rd hx]
theorem add_B {xs s : List Int} (hx : isB xs) (hs : isB s) (h : s.length + 2 ≤ xs.length) : isB (parity_add.row xs s s.length) := isB_of (fun i _ => by
  have := xlt (nn_lt hx i) (nd_lt hs i)
  rw [add_rd hx hs h]; omega)
theorem nn_of {l : List Int} {i m : Nat} (h : rd l (i : Int) = (m : Int)) : nn l i = m := by unfold nn; omega
/-! ### many strings -/
theorem gD {l : List (List Int)} (hB : ∀ x ∈ l, isB x) (k : Nat) : isB (l.getD k []) := by
  by_cases h : k < l.length
  · rw [List.getD_eq_getElem?_getD, List.getElem?_eq_getElem h]; exact hB _ (List.getElem_mem h)
  · rw [List.getD_eq_getElem?_getD, List.getElem?_eq_none (by omega)]; exact isB_nil
/-- What the first k strings make, place by place. -/
def XA (l : List (List Int)) (i : Nat) : Nat → Nat
  | 0 => 0
  | k + 1 => XA l i k ^^^ nd (l.getD k []) i
/-- The same but for one of them. -/
def XB (l : List (List Int)) (lost : Nat) (i : Nat) : Nat → Nat
  | 0 => 0
  | k + 1 => if k = lost then XB l lost i k else XB l lost i k ^^^ nd (l.getD k []) i
theorem XA_lt {l : List (List Int)} (hB : ∀ x ∈ l, isB x) (i : Nat) : ∀ k, XA l i k < 256
  | 0 => by rw [XA]; omega
  | k + 1 => by rw [XA]; exact xlt (XA_lt hB i k) (nd_lt (gD hB k) i)
theorem XB_lt {l : List (List Int)} (hB : ∀ x ∈ l, isB x) (lost i : Nat) : ∀ k, XB l lost i k < 256
  | 0 => by rw [XB]; omega
  | k + 1 => by
    rw [XB]
    split
    · exact XB_lt hB lost i k
    · exact xlt (XB_lt hB lost i k) (nd_lt (gD hB k) i)
theorem XA_le (l : List (List Int)) (lost i : Nat) : ∀ k, k ≤ lost → XA l i k = XB l lost i k
  | 0, _ => rfl
  | k + 1, h => by rw [XA, XB, if_neg (by omega), XA_le l lost i k (by omega)]
theorem xor_r (a b c : Nat) : a ^^^ b ^^^ c = a ^^^ c ^^^ b := by rw [Nat.xor_assoc, Nat.xor_comm b c, Nat.xor_assoc]
theorem XA_split (l : List (List Int)) (lost i : Nat) : ∀ k, lost < k → XA l i k = XB l lost i k ^^^ nd (l.getD lost []) i
  | 0, h => absurd h (Nat.not_lt_zero _)
  | k + 1, h => by
    rw [XA, XB]
    by_cases c : k = lost
    · subst c; rw [if_pos rfl, XA_le l k i k (Nat.le_refl _)]
    · rw [if_neg c, XA_split l lost i k (by omega), xor_r]
theorem getD_set_ne (l : List (List Int)) (lost k : Nat) (s : List Int) (h : k ≠ lost) : (l.set lost s).getD k [] = l.getD k [] := by
  rw [List.getD_eq_getElem?_getD, List.getD_eq_getElem?_getD, List.getElem?_set_ne (by omega)]
theorem getD_set_eq (l : List (List Int)) (lost : Nat) (s : List Int) (h : lost < l.length) : (l.set lost s).getD lost [] = s := by
  rw [List.getD_eq_getElem?_getD, List.getElem?_set_self h]; rfl
theorem XB_set (l : List (List Int)) (lost i : Nat) (s : List Int) : ∀ k, XB (l.set lost s) lost i k = XB l lost i k
  | 0 => rfl
  | k + 1 => by
    rw [XB, XB]
    by_cases c : k = lost
    · rw [if_pos c, if_pos c, XB_set l lost i s k]
    · rw [if_neg c, if_neg c, XB_set l lost i s k, getD_set_ne _ _ _ _ c]
theorem XA_set {l : List (List Int)} {lost : Nat} (i : Nat) (s : List Int) {k : Nat} (h : lost < k) (hl : lost < l.length) : XA (l.set lost s) i k = XB l lost i k ^^^ nd s i := by
  rw [XA_split _ lost i k h, XB_set, getD_set_eq l lost s hl]
/-! ### sum -/
theorem acc_rd {l : List (List Int)} {m : Nat} (hB : ∀ x ∈ l, isB x) : ∀ k : Nat, (∀ j, j < k → (l.getD j []).length ≤ m) → (isB (parity_sum.acc l m k) ∧ ∀ i : Nat, rd (parity_sum.acc l m k) (i : Int) = ((XA l i k : Nat) : Int))
  | 0, _ => by
    have e : ∀ i : Nat, rd (parity_sum.acc l m 0) (i : Int) = ((XA l i 0 : Nat) : Int) := fun i => by
      rw [parity_sum.acc, XA, rdn, List.getD_eq_getElem?_getD, List.getElem?_replicate]
      split <;> rfl
    exact ⟨isB_of (fun i _ => by rw [e i, XA]; omega), e⟩
  | k + 1, h => by
    obtain ⟨ib, ir⟩ := acc_rd hB k (fun j hj => h j (by omega))
    have hl : (l.getD k []).length + 2 ≤ (parity_sum.acc l m k).length := by rw [parity_sum.acc_len]; have := h k (by omega); omega
    refine ⟨add_B ib (gD hB k) hl, fun i => ?_⟩
    rw [parity_sum.acc, add_rd ib (gD hB k) hl i, XA, nn_of (ir i)]
theorem wide_le (l : List (List Int)) (M : Nat) : ∀ n : Nat, (∀ j, j < n → (l.getD j []).length ≤ M) → parity_sum.wide l n ≤ M
  | 0, _ => by rw [parity_sum.wide]; omega
  | n + 1, h => by
    have := wide_le l M n (fun j hj => h j (by omega))
    have := h n (by omega)
    rw [parity_sum.wide]; omega
theorem getD_in {l : List (List Int)} {j : Nat} (h : j < l.length) : l.getD j [] = l[j] := by
  rw [List.getD_eq_getElem?_getD, List.getElem?_eq_getElem h]; rfl
/-- A group: at most 16 strings, none too long. -/
def grp (l : List (List Int)) : Prop := l.length ≤ 16 ∧ ∀ x ∈ l, x.length ≤ 5000
def wd (l : List (List Int)) : Nat := parity_sum.wide l l.length
def par (l : List (List Int)) : List Int := parity_sum.acc l (wd l) l.length
theorem wd_le {l : List (List Int)} (h : grp l) : wd l ≤ 5000 := wide_le l 5000 _ (fun j hj => by rw [getD_in hj]; exact h.2 _ (List.getElem_mem hj))
theorem le_wd (l : List (List Int)) (j : Nat) (h : j < l.length) : (l.getD j []).length ≤ wd l := parity_sum.wide_le l l.length j h
theorem par_len (l : List (List Int)) : (par l).length = wd l + 2 := parity_sum.acc_len _ _ _
theorem par_rd {l : List (List Int)} (hB : ∀ x ∈ l, isB x) (i : Nat) : rd (par l) (i : Int) = ((XA l i l.length : Nat) : Int) := (acc_rd hB l.length (le_wd l)).2 i
theorem par_B {l : List (List Int)} (hB : ∀ x ∈ l, isB x) : isB (par l) := (acc_rd hB l.length (le_wd l)).1
/-! ### Repair -/
theorem rows_rd {l : List (List Int)} {lost : Nat} {p : List Int} (hB : ∀ x ∈ l, isB x) (hp : isB p) : ∀ k : Nat, (∀ j, j < k → j ≠ lost → (l.getD j []).length + 2 ≤ p.length) → (isB (parity_Repair.rows l (lost : Int) p k) ∧ ∀ i : Nat, rd (parity_Repair.rows l (lost : Int) p k) (i : Int) = ((nn p i ^^^ XB l lost i k : Nat) : Int))
  | 0, _ => ⟨hp, fun i => by rw [parity_Repair.rows, XB, Nat.xor_zero, nn_rd hp]⟩
  | k + 1, h => by
    obtain ⟨ib, ir⟩ := rows_rd hB hp k (fun j hj => h j (by omega))
    rw [parity_Repair.rows]
    by_cases c : k = lost
    · rw [if_pos (by omega)]
      exact ⟨ib, fun i => by rw [ir i, XB, if_pos c]⟩
    · have hl : (l.getD k []).length + 2 ≤ (parity_Repair.rows l (lost : Int) p k).length := by rw [parity_Repair.rows_len]; exact h k (by omega) c
      rw [if_neg (by omega)]
      refine ⟨add_B ib (gD hB k) hl, fun i => ?_⟩
      rw [add_rd ib (gD hB k) hl i, XB, if_neg c, nn_of (ir i), Nat.xor_assoc]
theorem far_no {l : List (List Int)} {lost m : Nat} : ∀ k : Nat, parity_Repair.farB l (lost : Int) m k = false ↔ ∀ j, j < k → j ≠ lost → (l.getD j []).length ≤ m
  | 0 => ⟨fun _ j hj => absurd hj (Nat.not_lt_zero _), fun _ => rfl⟩
  | k + 1 => by
    rw [parity_Repair.farB, Bool.or_eq_false_iff, far_no k, Bool.and_eq_false_iff, decide_eq_false_iff_not, decide_eq_false_iff_not]
    refine ⟨fun ⟨h1, h2⟩ j hj hne => ?_, fun h => ⟨fun j hj => h j (by omega), ?_⟩⟩
    · by_cases e : j = k
      · subst e
        rcases h2 with h2 | h2 <;> omega
      · exact h1 j (by omega) hne
    · by_cases e : k = lost
      · exact Or.inl (by omega)
      · exact Or.inr (by have := h k (by omega) e; omega)
/-- What a row that holds a string's frame tells. -/
theorem tell_of {r s : List Int} (hs : isB s) (hr : isB r) (hl : s.length + 2 ≤ r.length) (hm : s.length ≤ 5000) (h : ∀ i : Nat, i < r.length → nn r i = nd s i) : parity_Repair.tell r = some (s, 0) := by
  have b0 : 0 ≤ rd r 0 ∧ rd r 0 ≤ 255 := isB_rd hr 0
  have b1 : 0 ≤ rd r 1 ∧ rd r 1 ≤ 255 := isB_rd hr 1
  have e0 : rd r 0 = (nn r 0 : Int) := nn_rd hr 0
  have e1 : rd r 1 = (nn r 1 : Int) := nn_rd hr 1
  have n0 : nn r 0 = s.length / 256 % 256 := (h 0 (by omega)).trans (by unfold nd; rw [if_pos rfl])
  have n1 : nn r 1 = s.length % 256 := (h 1 (by omega)).trans (by unfold nd; rw [if_neg (by omega), if_pos rfl])
  have hmm : parity_Repair.m r = (s.length : Int) := by unfold parity_Repair.m; omega
  have hd : ∀ i : Nat, rd r ((2 + i : Nat) : Int) = rd s (i : Int) := fun i => by
    by_cases hi : 2 + i < r.length
    · rw [nn_rd hr, h _ hi, nn_rd hs]
      unfold nd
      rw [if_neg (by omega), if_neg (by omega), show 2 + i - 2 = i by omega]
    · rw [rd_out r _ (by omega), rd_out s _ (by omega)]
  unfold parity_Repair.tell
  rw [if_neg (by omega), hmm, Int.toNat_natCast, if_neg]
  · congr 2
    apply list_ext
    · rw [List.length_drop, List.length_take]; omega
    · intro i hi
      rw [List.length_drop, List.length_take] at hi
      rw [← hd i, rdn, rdn, List.getD_eq_getElem?_getD, List.getD_eq_getElem?_getD, List.getElem?_drop, List.getElem?_take_of_lt (by omega)]
  · intro hh
    rcases hh with hh | hh
    · omega
    · obtain ⟨j, hj, hz⟩ := (parity_Repair.any_ _).mp hh
      apply hz
      rw [parity_Repair.rd_drop, show 2 + s.length + j = 2 + (s.length + j) by omega, hd, rd_out s _ (by omega)]
/-- What a row tells, told the other way. -/
theorem of_tell {r s : List Int} {e : Int} (hr : isB r) (hl : 2 ≤ r.length) (h : parity_Repair.tell r = some (s, e)) : (s = [] ∧ e = 12) ∨ (e = 0 ∧ isB s ∧ s.length + 2 ≤ r.length ∧ ∀ i : Nat, i < r.length → nn r i = nd s i) := by
  have b0 : 0 ≤ rd r 0 ∧ rd r 0 ≤ 255 := isB_rd hr 0
  have b1 : 0 ≤ rd r 1 ∧ rd r 1 ≤ 255 := isB_rd hr 1
  have e0 : rd r 0 = (nn r 0 : Int) := nn_rd hr 0
  have e1 : rd r 1 = (nn r 1 : Int) := nn_rd hr 1
  unfold parity_Repair.tell at h
  rw [if_neg (by omega)] at h
  by_cases hh : (r.length : Int) - 2 < parity_Repair.m r ∨ (r.drop (2 + (parity_Repair.m r).toNat)).any (fun x => x != 0) = true
  · rw [if_pos hh] at h
    injection h with h
    injection h with h1 h2
    exact Or.inl ⟨h1.symm, h2.symm⟩
  · rw [if_neg hh] at h
    injection h with h
    injection h with h1 h2
    right
    obtain ⟨M, hM⟩ : ∃ M : Nat, parity_Repair.m r = (M : Int) := ⟨(parity_Repair.m r).toNat, by unfold parity_Repair.m; omega⟩
    rw [hM, Int.toNat_natCast] at hh h1
    have hMr : M + 2 ≤ r.length := by
      rcases Nat.lt_or_ge r.length (M + 2) with q | q
      · exact absurd (Or.inl (by omega)) hh
      · exact q
    have hM2 : (M : Int) = (nn r 0 : Int) * 256 + (nn r 1 : Int) := by rw [← hM]; unfold parity_Repair.m; rw [e0, e1]
    have l0 := nn_lt hr 0
    have l1 := nn_lt hr 1
    have hsl : s.length = M := by rw [← h1, List.length_drop, List.length_take]; omega
    have hd : ∀ i : Nat, i < M → rd s (i : Int) = rd r ((2 + i : Nat) : Int) := fun i hi => by
      rw [← h1, rdn, rdn, List.getD_eq_getElem?_getD, List.getD_eq_getElem?_getD, List.getElem?_drop, List.getElem?_take_of_lt (by omega)]
    refine ⟨h2.symm, isB_of (fun i hi => by rw [hd i (by omega)]; exact isB_rd hr _), by omega, fun i hi => ?_⟩
    unfold nd
    by_cases c0 : i = 0
    · subst c0; rw [if_pos rfl]; omega
    · rw [if_neg c0]
      by_cases c1 : i = 1
      · subst c1; rw [if_pos rfl]; omega
      · rw [if_neg c1]
        by_cases c2 : i - 2 < M
        · unfold nn
          rw [hd (i - 2) c2, show 2 + (i - 2) = i by omega]
        · rw [nn_out s _ (by omega)]
          unfold nn
          by_cases hz : rd r (i : Int) = 0
          · rw [hz]; rfl
          · exfalso
            apply hh
            right
            refine (parity_Repair.any_ _).mpr ⟨i - (2 + M), by rw [List.length_drop]; omega, ?_⟩
            rw [parity_Repair.rd_drop, show 2 + M + (i - (2 + M)) = i by omega]
            exact hz
/-! ### the reference's parity -/
theorem rL_ (l : List (List Int)) (i : Nat) : rd_L1 l (i : Int) = l.getD i [] := by unfold rd_L1; rw [Int.toNat_natCast]
theorem rd_app_l (a b : List Int) (i : Nat) (h : i < a.length) : rd (a ++ b) (i : Int) = rd a (i : Int) := by
  rw [rdn, rdn, List.getD_eq_getElem?_getD, List.getD_eq_getElem?_getD, List.getElem?_append_left h]
theorem rd_app_r (a b : List Int) (i : Nat) (h : a.length ≤ i) : rd (a ++ b) (i : Int) = rd b ((i - a.length : Nat) : Int) := by
  rw [rdn, rdn, List.getD_eq_getElem?_getD, List.getD_eq_getElem?_getD, List.getElem?_append_right h]
theorem rd_rep (n : Nat) (i : Nat) : rd (List.replicate n 0) (i : Int) = 0 := by
  rw [rdn, List.getD_eq_getElem?_getD, List.getElem?_replicate]; split <;> rfl
def frm (s : List Int) (w : Nat) : List Int := [(s.length : Int) / 256 % 256, (s.length : Int) % 256] ++ s ++ List.replicate (w - s.length) 0
theorem frm_len (s : List Int) (w : Nat) (h : s.length ≤ w) : (frm s w).length = w + 2 := by
  unfold frm
  rw [List.length_append, List.length_append, List.length_replicate]
  show 2 + s.length + (w - s.length) = w + 2
  omega
theorem frm_rd {s : List Int} (hs : isB s) (w i : Nat) : rd (frm s w) (i : Int) = (nd s i : Int) := by
  unfold frm
  by_cases h : i < s.length + 2
  · rw [rd_app_l _ _ i (by rw [List.length_append]; show i < 2 + s.length; omega)]
    unfold nd
    by_cases c0 : i = 0
    · subst c0
      rw [if_pos rfl]
      show (s.length : Int) / 256 % 256 = _
      omega
    · rw [if_neg c0]
      by_cases c1 : i = 1
      · subst c1
        rw [if_pos rfl]
        show (s.length : Int) % 256 = _
        omega
      · rw [if_neg c1, rd_app_r _ _ i (by show 2 ≤ i; omega), ← nn_rd hs]
        rfl
  · rw [nd_out s i (by omega), rd_app_r _ _ i (by rw [List.length_append]; show 2 + s.length ≤ i; omega), rd_rep]; rfl
theorem fr_l0 (w : Nat) (hw : w ≤ 1000000) : ∀ (d : Nat) (x : List Int) (k : Nat), x.length + d = w + 2 → d < k → bitloftref42_framed.l0 k (w : Int) x = some (x ++ List.replicate d 0)
  | 0, x, k, h, hk => by
    obtain ⟨k, rfl⟩ : ∃ m, k = m + 1 := ⟨k - 1, by omega⟩
    rw [bitloftref42_framed.l0, w64_ (by omega), if_neg (by omega)]
    simp
  | d + 1, x, k, h, hk => by
    obtain ⟨k, rfl⟩ : ∃ m, k = m + 1 := ⟨k - 1, by omega⟩
    rw [bitloftref42_framed.l0, w64_ (by omega), if_pos (by omega), if_pos (by omega), fr_l0 w hw d (x ++ [0]) k (by rw [List.length_append]; show x.length + 1 + d = _; omega) (by omega), List.append_assoc]
    rfl
theorem fr_ev (s : List Int) (w k : Nat) (hw : w ≤ 1000000) (hs : s.length ≤ w) (hk : w < k) : bitloftref42_framed.f k s (w : Int) = some (frm s w) := by
  unfold bitloftref42_framed.f
  rw [Option.bind_some, w64_ (by omega), if_pos (by show 2 + s.length < _; omega), fr_l0 w hw (w - s.length) _ k (by rw [List.length_append]; show 2 + s.length + _ = _; omega) (by omega)]
  rfl
def mxd (a b : List Int) (n : Nat) : List Int := (List.range n).map fun i : Nat => bits .xor .u8 (rd a (i : Int)) (rd b (i : Int))
theorem mxd_len (a b : List Int) (n : Nat) : (mxd a b n).length = n := by simp [mxd]
theorem mxd_rd (a b : List Int) (n i : Nat) (h : i < n) : rd (mxd a b n) (i : Int) = bits .xor .u8 (rd a (i : Int)) (rd b (i : Int)) := by
  rw [rdn, List.getD_eq_getElem?_getD, mxd, List.getElem?_map, List.getElem?_range h]; rfl
theorem mxd_succ (a b : List Int) (i : Nat) : mxd a b (i + 1) = mxd a b i ++ [bits .xor .u8 (rd a (i : Int)) (rd b (i : Int))] := by
  rw [mxd, List.range_succ, List.map_append]; rfl
theorem mi_l0 (a b : List Int) (hl : a.length ≤ b.length) (hb : b.length ≤ 1000002) : ∀ (d i k : Nat), i + d = a.length → d < k → bitloftref42_mixed.l0 k a b (mxd a b i) (i : Int) = some (mxd a b a.length)
  | 0, i, k, h, hk => by
    obtain ⟨k, rfl⟩ : ∃ m, k = m + 1 := ⟨k - 1, by omega⟩
    rw [bitloftref42_mixed.l0, if_neg (by omega), show i = a.length by omega]
  | d + 1, i, k, h, hk => by
    obtain ⟨k, rfl⟩ : ∃ m, k = m + 1 := ⟨k - 1, by omega⟩
    rw [bitloftref42_mixed.l0, if_pos (by omega), if_pos (by omega), if_pos (by omega), if_pos (by rw [mxd_len]; omega), w64_ (by omega), ← mxd_succ, show (i : Int) + 1 = ((i + 1 : Nat) : Int) by omega]
    exact mi_l0 a b hl hb d (i + 1) k (by omega) (by omega)
theorem mi_ev (a b : List Int) (k : Nat) (hl : a.length ≤ b.length) (hb : b.length ≤ 1000002) (hk : a.length < k) : bitloftref42_mixed.f k a b = some (mxd a b a.length) := by
  unfold bitloftref42_mixed.f
  exact mi_l0 a b hl hb a.length 0 k (by omega) hk
theorem mx_row {xs s : List Int} {w : Nat} (hx : isB xs) (hs : isB s) (h : s.length ≤ w) (hl : xs.length = w + 2) : mxd xs (frm s w) xs.length = parity_add.row xs s s.length := by
  apply list_ext
  · rw [mxd_len, parity_add.row_len]
  · intro i hi
    rw [mxd_len] at hi
    rw [mxd_rd _ _ _ _ hi, add_rd hx hs (by omega), frm_rd hs, nn_rd hx, xor8 _ _ (nn_lt hx i) (nd_lt hs i)]
theorem zero_frm (l : List (List Int)) (w : Nat) : frm [] w = parity_sum.acc l w 0 := by
  rw [parity_sum.acc]
  unfold frm
  rfl
theorem mxn (a b : Nat) : mx (a : Int) (b : Int) = ((max a b : Nat) : Int) := by unfold mx; split <;> omega
theorem pa_l0 (l : List (List Int)) (hn : l.length ≤ 1000000) : ∀ (d i k : Nat), i + d = l.length → bitloftref42_parity.l0 (k + d + 1) l (parity_sum.wide l i : Int) (i : Int) = (bitloftref42_framed.f k ([] : List Int) (wd l : Int)).bind fun t => bitloftref42_parity.l1 k l (wd l : Int) t 0
  | 0, i, k, h => by
    rw [Nat.add_zero, bitloftref42_parity.l0, if_neg (by omega), show i = l.length by omega]; rfl
  | d + 1, i, k, h => by
    rw [show k + (d + 1) + 1 = (k + d + 1) + 1 by omega, bitloftref42_parity.l0, if_pos (by omega), if_pos (by omega), rL_, w64_ (by omega), mxn, show (i : Int) + 1 = ((i + 1 : Nat) : Int) by omega]
    exact pa_l0 l hn d (i + 1) k (by omega)
theorem pa_l1 {l : List (List Int)} (hB : ∀ x ∈ l, isB x) (hn : l.length ≤ 1000000) (hw : wd l ≤ 1000000) : ∀ (d i k : Nat), i + d = l.length → d + wd l + 3 < k → bitloftref42_parity.l1 k l (wd l : Int) (parity_sum.acc l (wd l) i) (i : Int) = some (par l)
  | 0, i, k, h, hk => by
    obtain ⟨k, rfl⟩ : ∃ m, k = m + 1 := ⟨k - 1, by omega⟩
    rw [bitloftref42_parity.l1, if_neg (by omega), show i = l.length by omega]; rfl
  | d + 1, i, k, h, hk => by
    obtain ⟨k, rfl⟩ : ∃ m, k = m + 1 := ⟨k - 1, by omega⟩
    have hi : i < l.length := by omega
    have hle := le_wd l i hi
    have hal := parity_sum.acc_len l (wd l) i
    have hib := (acc_rd (m := wd l) hB i (fun j hj => le_wd l j (by omega))).1
    rw [bitloftref42_parity.l1, if_pos (by omega), if_pos (by omega), rL_, fr_ev _ (wd l) k hw hle (by omega), Option.bind_some,
      mi_ev _ _ k (by rw [hal, frm_len _ _ hle]; omega) (by rw [frm_len _ _ hle]; omega) (by rw [hal]; omega), Option.bind_some, mx_row hib (gD hB i) hle hal, w64_ (by omega), show (i : Int) + 1 = ((i + 1 : Nat) : Int) by omega]
    exact pa_l1 hB hn hw d (i + 1) k (by omega) (by omega)
theorem pa_ev {l : List (List Int)} (hB : ∀ x ∈ l, isB x) (hn : l.length ≤ 1000000) (hw : wd l ≤ 1000000) (k : Nat) (hk : 2 * l.length + wd l + 5 < k) : bitloftref42_parity.f k l = some (par l) := by
  obtain ⟨q, rfl⟩ : ∃ q, k = q + l.length + 1 := ⟨k - l.length - 1, by omega⟩
  unfold bitloftref42_parity.f
  have h := pa_l0 l hn l.length 0 q (by omega)
  rw [show ((0 : Nat) : Int) = 0 from rfl, show ((parity_sum.wide l 0 : Nat) : Int) = 0 from rfl] at h
  rw [h, fr_ev [] (wd l) q hw (Nat.zero_le _) (by omega), Option.bind_some, zero_frm l (wd l)]
  exact pa_l1 hB hn hw l.length 0 q (by omega) (by omega)
/-! ### is one too long? -/
theorem far_mono (l : List (List Int)) (but : Int) (m : Nat) : ∀ {i n : Nat}, i ≤ n → parity_Repair.farB l but m i = true → parity_Repair.farB l but m n = true := by
  intro i n h
  induction h with
  | refl => exact id
  | step h ih => intro h2; rw [parity_Repair.farB, ih h2]; rfl
theorem lo_l0 (l : List (List Int)) (but : Int) (hn : l.length ≤ 9223372036854775807) : ∀ (d i k : Nat), i + d = l.length → d < k → parity_Repair.farB l but 5000 i = false → bitloftref42_long.l0 k l but (i : Int) = some (parity_Repair.farB l but 5000 l.length)
  | 0, i, k, h, hk, hf => by
    obtain ⟨k, rfl⟩ : ∃ m, k = m + 1 := ⟨k - 1, by omega⟩
    rw [bitloftref42_long.l0, if_neg (by omega), ← hf, show i = l.length by omega]
  | d + 1, i, k, h, hk, hf => by
    obtain ⟨k, rfl⟩ : ∃ m, k = m + 1 := ⟨k - 1, by omega⟩
    rw [bitloftref42_long.l0, if_pos (by omega)]
    by_cases c : (i : Int) = but
    · rw [if_pos c, w64_ (by omega), show (i : Int) + 1 = ((i + 1 : Nat) : Int) by omega]
      refine lo_l0 l but hn d (i + 1) k (by omega) (by omega) ?_
      rw [parity_Repair.farB, hf, decide_eq_false (fun h => h c)]; rfl
    · rw [if_neg c, if_pos (by omega), rL_]
      by_cases c2 : ((l.getD i []).length : Int) > 5000
      · rw [if_pos c2, far_mono l but 5000 (i := i + 1) (by omega)]
        rw [parity_Repair.farB, hf, decide_eq_true c, decide_eq_true (by omega)]; rfl
      · rw [if_neg c2, w64_ (by omega), show (i : Int) + 1 = ((i + 1 : Nat) : Int) by omega]
        refine lo_l0 l but hn d (i + 1) k (by omega) (by omega) ?_
        rw [parity_Repair.farB, hf, decide_eq_false (p := 5000 < _) (by omega), Bool.and_false]; rfl
theorem lo_ev (l : List (List Int)) (but : Int) (hn : l.length ≤ 9223372036854775807) (k : Nat) (hk : l.length < k) : bitloftref42_long.f k l but = some (parity_Repair.farB l but 5000 l.length) := lo_l0 l but hn l.length 0 k (by omega) hk rfl
theorem far_all (l : List (List Int)) (m : Nat) : parity_Repair.farB l (-1) m l.length = false ↔ ∀ x ∈ l, x.length ≤ m := by
  have key : ∀ k, parity_Repair.farB l (-1) m k = false ↔ ∀ j, j < k → (l.getD j []).length ≤ m := by
    intro k
    induction k with
    | zero => exact ⟨fun _ j hj => absurd hj (Nat.not_lt_zero _), fun _ => rfl⟩
    | succ k ih =>
      rw [parity_Repair.farB, Bool.or_eq_false_iff, ih, Bool.and_eq_false_iff, decide_eq_false_iff_not, decide_eq_false_iff_not]
      refine ⟨fun ⟨h1, h2⟩ j hj => ?_, fun h => ⟨fun j hj => h j (by omega), Or.inr (by have := h k (by omega); omega)⟩⟩
      by_cases e : j = k
      · subst e; rcases h2 with h2 | h2 <;> omega
      · exact h1 j (by omega)
  rw [key]
  refine ⟨fun h x hx => ?_, fun h j hj => by rw [getD_in hj]; exact h _ (List.getElem_mem hj)⟩
  obtain ⟨j, hj, rfl⟩ := List.getElem_of_mem hx
  have := h j hj
  rwa [getD_in hj] at this
theorem gr_l0 (l : List (List Int)) (hn : l.length ≤ 9223372036854775807) : ∀ (d i : Nat) (x : Int) , i + d = l.length → ∃ k b, bitloftref42_Great.l0 k l x (i : Int) = some b := by
  have stop : ∀ (i : Int) (x : Int), ∃ b, bitloftref42_Great.j1 1 l x i false = some b := fun i x => by
    rw [bitloftref42_Great.j1, if_neg (by decide)]
    split
    · exact ⟨_, rfl⟩
    · split
      · split
        · exact ⟨_, rfl⟩
        · exact ⟨_, rfl⟩
      · exact ⟨_, rfl⟩
  intro d
  induction d with
  | zero =>
    intro i x h
    obtain ⟨b, hb⟩ := stop i x
    exact ⟨2, b, by rw [bitloftref42_Great.l0, if_neg (by omega)]; exact hb⟩
  | succ d ih =>
    intro i x h
    by_cases c : (i : Int) ≤ 100
    · by_cases c2 : ((l.getD i []).length : Int) ≤ 5000
      · obtain ⟨k, b, hb⟩ := ih (i + 1) (wrap64 (x + ((l.getD i []).length : Int))) (by omega)
        exact ⟨k + 2, b, by rw [bitloftref42_Great.l0, if_pos (by omega), decide_eq_true c, bitloftref42_Great.j1, if_pos rfl, if_pos (by omega), if_pos (by omega), rL_, if_pos c2, w64_ (x := (i : Int) + 1) (by omega), show (i : Int) + 1 = ((i + 1 : Nat) : Int) by omega]; exact hb⟩
      · obtain ⟨k, b, hb⟩ := ih (i + 1) x (by omega)
        exact ⟨k + 2, b, by rw [bitloftref42_Great.l0, if_pos (by omega), decide_eq_true c, bitloftref42_Great.j1, if_pos rfl, if_pos (by omega), if_pos (by omega), rL_, if_neg c2, w64_ (x := (i : Int) + 1) (by omega), show (i : Int) + 1 = ((i + 1 : Nat) : Int) by omega]; exact hb⟩
    · obtain ⟨b, hb⟩ := stop i x
      exact ⟨2, b, by rw [bitloftref42_Great.l0, if_pos (by omega), decide_eq_false c]; exact hb⟩
theorem gr_ev (l : List (List Int)) (hn : l.length ≤ 9223372036854775807) : ∃ b, Ev (fun k => bitloftref42_Great.f k l) b := by
  obtain ⟨k, b, hb⟩ := gr_l0 l hn l.length 0 0 (by omega)
  exact ⟨b, Ev.of (fun k => bitloftref42_Great.mono _ k) (k := k) hb⟩
/-! ### the reference's Repair -/
theorem any_drop (r : List Int) (i : Nat) (h : i < r.length) : (r.drop i).any (fun x => x != 0) = (rd r (i : Int) != 0 || (r.drop (i + 1)).any (fun x => x != 0)) := by
  rw [List.drop_eq_getElem_cons h, List.any_cons, rd_in r i h]
theorem rl1 (r : List Int) (m : Nat) (hr : r.length ≤ 1000000) (hm : m + 2 ≤ r.length) : ∀ (d i k : Nat), i + d = r.length → d < k → bitloftref42_Repair.l1 k r (m : Int) (i : Int) = if (r.drop i).any (fun x => x != 0) = true then some ([], 12) else some ((r.take (2 + m)).drop 2, 0)
  | 0, i, k, h, hk => by
    obtain ⟨k, rfl⟩ : ∃ q, k = q + 1 := ⟨k - 1, by omega⟩
    rw [bitloftref42_Repair.l1, if_neg (by omega), show r.drop i = [] from List.drop_of_length_le (by omega), if_neg (show ¬ ([] : List Int).any (fun x => x != 0) = true by simp), Option.bind_some, w64_ (by omega), if_pos (by omega), if_pos (by omega), Option.bind_some, if_pos (by rw [List.length_drop, List.length_take]; show 0 + _ < _; omega), List.nil_append, show ((m : Int) + 2).toNat = 2 + m by omega]
  | d + 1, i, k, h, hk => by
    obtain ⟨k, rfl⟩ : ∃ q, k = q + 1 := ⟨k - 1, by omega⟩
    rw [bitloftref42_Repair.l1, if_pos (by omega), if_pos (by omega), any_drop r i (by omega)]
    by_cases c : rd r (i : Int) = 0
    · rw [if_pos c, c, w64_ (by omega), show (i : Int) + 1 = ((i + 1 : Nat) : Int) by omega, rl1 r m hr hm d (i + 1) k (by omega) (by omega)]
      rfl
    · rw [if_neg c, show (rd r (i : Int) != 0) = true from bne_iff_ne.mpr c, Bool.true_or, if_pos rfl]
theorem rl0 {l : List (List Int)} {p : List Int} (a : Int) (hB : ∀ x ∈ l, isB x) (hp : isB p) (hn : l.length ≤ 1000000) (hp1 : 2 ≤ p.length) (hp2 : p.length ≤ 5002) (hrd : ∀ i, i ≤ l.length → (∀ j, j < i → (j : Int) ≠ a → (l.getD j []).length + 2 ≤ p.length) → isB (parity_Repair.rows l a p i)) : ∀ (d i k : Nat), i + d = l.length → d + 12000 < k → (∀ j, j < i → (j : Int) ≠ a → (l.getD j []).length + 2 ≤ p.length) → bitloftref42_Repair.l0 k l a p (parity_Repair.rows l a p i) (i : Int) = if parity_Repair.farB l a (p.length - 2) l.length = true then some ([], 12) else parity_Repair.tell (parity_Repair.rows l a p l.length)
  | 0, i, k, h, hk, hf => by
    obtain ⟨k, rfl⟩ : ∃ q, k = q + 1 := ⟨k - 1, by omega⟩
    obtain rfl : i = l.length := by omega
    have hfar : parity_Repair.farB l a (p.length - 2) l.length = false := by
      have key : ∀ n : Nat, (∀ j, j < n → (j : Int) ≠ a → (l.getD j []).length + 2 ≤ p.length) → parity_Repair.farB l a (p.length - 2) n = false := by
        intro n
        induction n with
        | zero => exact fun _ => rfl
        | succ n ih =>
          intro h
          rw [parity_Repair.farB, ih (fun j hj => h j (by omega)), Bool.false_or, Bool.and_eq_false_iff, decide_eq_false_iff_not, decide_eq_false_iff_not]
          by_cases e : (n : Int) = a
          · exact Or.inl (fun q => q e)
          · exact Or.inr (by have := h n (by omega) e; omega)
      exact key _ hf
    have hb := hrd l.length (Nat.le_refl _) hf
    have hl := parity_Repair.rows_len l a p l.length
    obtain ⟨r, hr⟩ : ∃ r, r = parity_Repair.rows l a p l.length := ⟨_, rfl⟩
    rw [← hr] at hb hl ⊢
    have b0 : 0 ≤ rd r 0 ∧ rd r 0 ≤ 255 := isB_rd hb 0
    have b1 : 0 ≤ rd r 1 ∧ rd r 1 ≤ 255 := isB_rd hb 1
    obtain ⟨m, hm⟩ : ∃ m : Nat, rd r 0 * 256 + rd r 1 = (m : Int) := ⟨(rd r 0 * 256 + rd r 1).toNat, by omega⟩
    have e1 : wrap64 (wrap64 (256 * wrap64 (rd r 0)) + wrap64 (rd r 1)) = (m : Int) := by
      rw [w64_ (x := rd r 0) (by omega), w64_ (x := rd r 1) (by omega), w64_ (x := 256 * rd r 0) (by omega), w64_ (by omega)]; omega
    have e2 : wrap64 ((p.length : Int) - 2) = ((p.length : Int) - 2) := w64_ (by omega)
    have c1 : (0 : Int) < (r.length : Int) := by omega
    have c2 : (1 : Int) < (r.length : Int) := by omega
    have c3 : ¬ ((l.length : Nat) : Int) < ((l.length : Nat) : Int) := by omega
    rw [bitloftref42_Repair.l0, if_neg c3, if_pos c1, if_pos c2, e1, e2, hfar, if_neg (show ¬ false = true by decide)]
    unfold parity_Repair.tell parity_Repair.m
    rw [if_neg (show ¬ (rd r 0 < 0 ∨ 255 < rd r 0 ∨ rd r 1 < 0 ∨ 255 < rd r 1) by omega), hm, Int.toNat_natCast]
    by_cases c : (m : Int) > (p.length : Int) - 2
    · rw [if_pos c, if_pos (Or.inl (by omega))]
    · rw [if_neg c, w64_ (by omega), show (m : Int) + 2 = ((m + 2 : Nat) : Int) by omega, rl1 r m (by omega) (by omega) (r.length - (m + 2)) (m + 2) k (by omega) (by omega), show m + 2 = 2 + m by omega]
      by_cases c5 : (r.drop (2 + m)).any (fun x => x != 0) = true
      · rw [if_pos c5, if_pos (Or.inr c5)]
      · rw [if_neg c5, if_neg]
        rintro (q | q)
        · omega
        · exact c5 q
  | d + 1, i, k, h, hk, hf => by
    obtain ⟨k, rfl⟩ : ∃ q, k = q + 1 := ⟨k - 1, by omega⟩
    have hi : i < l.length := by omega
    have hl := parity_Repair.rows_len l a p i
    have hb := hrd i (by omega) hf
    have e1 : wrap64 ((i : Int) + 1) = ((i + 1 : Nat) : Int) := by rw [w64_ (by omega)]; omega
    have e2 : wrap64 ((p.length : Int) - 2) = ((p.length - 2 : Nat) : Int) := by rw [w64_ (by omega)]; omega
    rw [bitloftref42_Repair.l0, if_pos (by omega)]
    by_cases c : (i : Int) = a
    · have e3 : parity_Repair.rows l a p (i + 1) = parity_Repair.rows l a p i := by rw [parity_Repair.rows, if_pos c]
      rw [if_pos c, e1, ← e3]
      refine rl0 a hB hp hn hp1 hp2 hrd d (i + 1) k (by omega) (by omega) (fun j hj hne => ?_)
      by_cases q : j = i
      · subst q; exact absurd c hne
      · exact hf j (by omega) hne
    · rw [if_neg c, if_pos (by omega), rL_, e2]
      by_cases c2 : ((l.getD i []).length : Int) > ((p.length - 2 : Nat) : Int)
      · have hfar : parity_Repair.farB l a (p.length - 2) l.length = true := far_mono l a (p.length - 2) (i := i + 1) (by omega) (by
          rw [parity_Repair.farB, decide_eq_true c, decide_eq_true (by omega), Bool.and_true, Bool.or_true])
        rw [if_pos c2, hfar, if_pos rfl]
      · have hle : (l.getD i []).length ≤ p.length - 2 := by omega
        have e3 : parity_Repair.rows l a p (i + 1) = parity_add.row (parity_Repair.rows l a p i) (l.getD i []) (l.getD i []).length := by rw [parity_Repair.rows, if_neg c]
        rw [if_neg c2, fr_ev _ (p.length - 2) k (by omega) hle (by omega), Option.bind_some, mi_ev _ _ k (by rw [hl, frm_len _ _ hle]; omega) (by rw [frm_len _ _ hle]; omega) (by rw [hl]; omega), Option.bind_some, mx_row hb (gD hB i) hle (by omega), ← e3, e1]
        refine rl0 a hB hp hn hp1 hp2 hrd d (i + 1) k (by omega) (by omega) (fun j hj hne => ?_)
        by_cases q : j = i
        · subst q; omega
        · exact hf j (by omega) hne
theorem rows_B {l : List (List Int)} {p : List Int} (a : Int) (hB : ∀ x ∈ l, isB x) (hp : isB p) : ∀ i : Nat, (∀ j : Nat, j < i → (j : Int) ≠ a → (l.getD j []).length + 2 ≤ p.length) → isB (parity_Repair.rows l a p i)
  | 0, _ => hp
  | i + 1, h => by
    have ih := rows_B a hB hp i (fun j hj => h j (by omega))
    rw [parity_Repair.rows]
    by_cases c : (i : Int) = a
    · rw [if_pos c]; exact ih
    · rw [if_neg c]
      exact add_B ih (gD hB i) (by rw [parity_Repair.rows_len]; exact h i (by omega) c)
theorem rrep {l : List (List Int)} {p : List Int} (a : Int) (hB : ∀ x ∈ l, isB x) (hp : isB p) (hn : l.length ≤ 1000000) (k : Nat) (hk : l.length + 12010 < k) : bitloftref42_Repair.f k l a p = parity_Repair.f l a p := by
  obtain ⟨k, rfl⟩ : ∃ q, k = q + 3 := ⟨k - 3, by omega⟩
  rw [parity_Repair.f, if_neg (by omega), bitloftref42_Repair.f]
  by_cases c1 : (l.length : Int) > 16
  · rw [if_pos c1, bitloftref42_Repair.j0, if_pos rfl, if_pos (Or.inr (by omega))]
  rw [if_neg c1, lo_ev l a (by omega) (k + 3) (by omega), Option.bind_some, bitloftref42_Repair.j0]
  by_cases c2 : parity_Repair.farB l a 5000 l.length = true
  · rw [if_pos c2, if_pos (Or.inl c2)]
  rw [if_neg c2, if_neg (show ¬ (parity_Repair.farB l a 5000 l.length = true ∨ 16 < l.length) from fun h => h.elim c2 (fun h => by omega))]
  by_cases c3 : a < 0
  · rw [if_pos c3, bitloftref42_Repair.j1, if_pos rfl, if_pos (Or.inl c3)]
  rw [if_neg c3]
  by_cases c4 : a ≥ (l.length : Int)
  · rw [decide_eq_true c4, bitloftref42_Repair.j1, if_pos rfl, if_pos (Or.inr c4)]
  rw [decide_eq_false c4, bitloftref42_Repair.j1, if_neg (show ¬ false = true by decide), if_neg (show ¬ (a < 0 ∨ (l.length : Int) ≤ a) by omega)]
  by_cases c5 : (p.length : Int) < 2
  · rw [if_pos c5, bitloftref42_Repair.j2, if_pos rfl, if_pos (Or.inl (by omega))]
  rw [if_neg c5]
  by_cases c6 : (p.length : Int) > 5002
  · rw [decide_eq_true c6, bitloftref42_Repair.j2, if_pos rfl, if_pos (Or.inr (Or.inl (by omega)))]
  have h := rl0 a hB hp hn (by omega) (by omega) (fun i _ h => rows_B a hB hp i h) l.length 0 k (by omega) (by omega) (fun j hj => absurd hj (Nat.not_lt_zero _))
  rw [decide_eq_false c6, bitloftref42_Repair.j2, if_neg (show ¬ false = true by decide), Option.bind_some, if_pos (by show 0 + p.length < _; omega), List.nil_append]
  refine h.trans ?_
  by_cases c7 : parity_Repair.farB l a (p.length - 2) l.length = true
  · rw [if_pos c7, if_pos (Or.inr (Or.inr c7))]
  · rw [if_neg c7, if_neg]
    rintro (q | q | q)
    · omega
    · omega
    · exact c7 q
/-! ### groups -/
def ch (l : List (List Int)) (g k : Nat) : List (List Int) := (l.drop (k * g)).take g
def nK (n g : Nat) : Nat := (n + g - 1) / g
theorem lt_nK {n g : Nat} (hg : 1 ≤ g) (k : Nat) : k * g < n ↔ k < nK n g := parity_groups.count n g hg k
theorem div_nK {n g j : Nat} (hg : 1 ≤ g) (h : j < n) : j / g < nK n g := (lt_nK hg _).mp (Nat.lt_of_le_of_lt (Nat.div_mul_le_self j g) h)
theorem nK_le {n g : Nat} (hg : 1 ≤ g) : nK n g ≤ n := by
  rcases Nat.eq_zero_or_pos (nK n g) with e | e
  · omega
  · have h1 := (lt_nK (n := n) hg (nK n g - 1)).mpr (by omega)
    have h2 : (nK n g - 1) * 1 ≤ (nK n g - 1) * g := Nat.mul_le_mul_left _ hg
    omega
theorem rm_len {α : Type} (f : Nat → α) (m : Nat) : ((List.range m).map f).length = m := by simp
theorem rm_get {α : Type} (f : Nat → α) (m k : Nat) (d : α) (h : k < m) : ((List.range m).map f).getD k d = f k := by
  rw [List.getD_eq_getElem?_getD, List.getElem?_map, List.getElem?_range h]; rfl
theorem rm_congr {α : Type} {f f' : Nat → α} {m : Nat} (h : ∀ j, j < m → f j = f' j) : (List.range m).map f = (List.range m).map f' := List.map_congr_left (fun j hj => h j (List.mem_range.mp hj))
theorem rm_set {α : Type} (f : Nat → α) (m k : Nat) (v : α) : ((List.range m).map f).set k v = (List.range m).map (fun j => if j = k then v else f j) := by
  apply List.ext_getElem?
  intro j
  rw [List.getElem?_map]
  by_cases hj : j < m
  · rw [List.getElem?_range hj, Option.map_some]
    by_cases e : j = k
    · subst e
      rw [if_pos rfl, List.getElem?_set_self (by rw [rm_len]; exact hj)]
    · rw [if_neg e, List.getElem?_set_ne (by omega), List.getElem?_map, List.getElem?_range hj, Option.map_some]
  · rw [List.getElem?_eq_none (l := List.range m) (by rw [List.length_range]; omega), List.getElem?_eq_none (by rw [List.length_set, rm_len]; omega)]
    rfl
theorem rm_rd (f : Nat → Int) (m k : Nat) (h : k < m) : rd ((List.range m).map f) (k : Int) = f k := by rw [rdn, rm_get f m k 0 h]
theorem list_rm (l : List (List Int)) : (List.range l.length).map (fun j => l.getD j []) = l := by
  apply List.ext_getElem
  · rw [rm_len]
  · intro i h1 h2
    rw [List.getElem_map, List.getElem_range, getD_in h2]
theorem chunks_len (l : List (List Int)) (g : Nat) : (parity_groups.chunks l g).length = nK l.length g := by unfold parity_groups.chunks nK; rw [rm_len]
theorem chunks_get (l : List (List Int)) (g k : Nat) (h : k < nK l.length g) : (parity_groups.chunks l g).getD k [] = ch l g k := by
  show ((List.range (nK l.length g)).map fun k => (l.drop (k * g)).take g).getD k [] = _
  rw [rm_get _ _ _ _ h]; rfl
theorem r2_ (l : List (List (List Int))) (i : Nat) : rd_L2 l (i : Int) = l.getD i [] := by unfold rd_L2; rw [Int.toNat_natCast]
theorem groups_f {l : List (List Int)} {g : Nat} (hg : 1 ≤ g) (hg2 : g ≤ 16) (hn : l.length ≤ 1000000) : parity_groups.f l (g : Int) = some (parity_groups.chunks l g) := by
  unfold parity_groups.f
  rw [if_pos ⟨by omega, by omega, hn⟩, Int.toNat_natCast]
theorem ch_mem {l : List (List Int)} {g k : Nat} {x : List Int} (h : x ∈ ch l g k) : x ∈ l := List.mem_of_mem_drop (List.mem_of_mem_take h)
theorem ch_len (l : List (List Int)) (g k : Nat) : (ch l g k).length = min g (l.length - k * g) := by unfold ch; rw [List.length_take, List.length_drop]
theorem ch_grp {l : List (List Int)} {g k : Nat} (hg : g ≤ 16) (h : ∀ x ∈ l, x.length ≤ 5000) : grp (ch l g k) := ⟨by rw [ch_len]; omega, fun x hx => h x (ch_mem hx)⟩
theorem ch_get (l : List (List Int)) (g k t : Nat) (h : t < g) : (ch l g k).getD t [] = l.getD (k * g + t) [] := by
  unfold ch
  rw [List.getD_eq_getElem?_getD, List.getD_eq_getElem?_getD, List.getElem?_take_of_lt h, List.getElem?_drop]
/-! ### Protect -/
theorem sum_par {l : List (List Int)} (h : grp l) : parity_sum.f l = some (par l) := by
  have hw := wd_le h
  have hn := h.1
  unfold parity_sum.f
  rw [if_pos ⟨by omega, by unfold wd at hw; omega⟩]
  rfl
theorem any_far (l : List (List Int)) : (l.any fun x => decide (5000 < x.length)) = parity_Repair.farB l (-1) 5000 l.length := by
  cases h : parity_Repair.farB l (-1) 5000 l.length
  · have h2 := (far_all l 5000).mp h
    rw [List.any_eq_false]
    intro x hx
    have := h2 x hx
    simp
    omega
  · rw [List.any_eq_true]
    by_cases q : ∃ x, x ∈ l ∧ decide (5000 < x.length) = true
    · exact q
    · exfalso
      have := (far_all l 5000).mpr (fun x hx => by
        rcases Nat.lt_or_ge 5000 x.length with c | c
        · exact absurd ⟨x, hx, decide_eq_true c⟩ q
        · exact c)
      rw [this] at h; cases h
def protS (l : List (List Int)) (a : Int) : List (List Int) × Int := if a < 1 ∨ 16 < a then ([], 2) else if 100 < l.length ∨ parity_Repair.farB l (-1) 5000 l.length = true then ([], 4) else ((parity_groups.chunks l a.toNat).map par, 0)
theorem map_take_succ {α β : Type} (f : α → β) (l : List α) (i : Nat) (h : i < l.length) : (l.map f).take (i + 1) = (l.map f).take i ++ [f l[i]] := by
  rw [List.take_succ_eq_append_getElem (by rw [List.length_map]; exact h), List.getElem_map]
theorem prot_l0 (gs : List (List (List Int))) (hgs : ∀ c ∈ gs, grp c) (hn : gs.length ≤ 1000000) : ∀ (d i k : Nat), i + d = gs.length → d < k → parity_Protect.l0 k ((gs.map par).take i) gs (gs.length : Int) (i : Int) = some (gs.map par, 0)
  | 0, i, k, h, hk => by
    obtain ⟨k, rfl⟩ : ∃ m, k = m + 1 := ⟨k - 1, by omega⟩
    rw [parity_Protect.l0, if_neg (by omega), List.take_of_length_le (by rw [List.length_map]; omega)]
  | d + 1, i, k, h, hk => by
    obtain ⟨k, rfl⟩ : ∃ m, k = m + 1 := ⟨k - 1, by omega⟩
    have hi : i < gs.length := by omega
    have e : gs.getD i [] = gs[i] := by rw [List.getD_eq_getElem?_getD, List.getElem?_eq_getElem hi]; rfl
    rw [parity_Protect.l0, if_pos (by omega), if_pos (by omega), if_pos (by omega), r2_, e, sum_par (hgs _ (List.getElem_mem hi)), Option.bind_some, if_pos (by rw [List.length_take, List.length_map]; omega), ← map_take_succ par gs i hi, w64_ (by omega), show (i : Int) + 1 = ((i + 1 : Nat) : Int) by omega]
    exact prot_l0 gs hgs hn d (i + 1) k (by omega) (by omega)
theorem prot_ev {l : List (List Int)} (a : Int) (hn : l.length ≤ 9223372036854775807) : ∀ k, l.length + 5 < k → parity_Protect.f k l a = some (protS l a) := by
  intro k hk
  obtain ⟨k, rfl⟩ : ∃ m, k = m + 2 := ⟨k - 2, by omega⟩
  unfold protS
  rw [parity_Protect.f]
  by_cases c1 : a < 1
  · rw [if_pos c1, if_pos (Or.inl c1), parity_Protect.j0, if_pos rfl]
  rw [if_neg c1]
  by_cases c2 : a > 16
  · rw [decide_eq_true c2, parity_Protect.j0, if_pos rfl, if_pos (Or.inr c2)]
  rw [decide_eq_false c2, parity_Protect.j0, if_neg (by decide), if_neg (show ¬ (a < 1 ∨ 16 < a) by omega)]
  by_cases c3 : (l.length : Int) > 100
  · rw [if_pos c3, parity_Protect.j1, if_pos rfl, if_pos (Or.inl (by omega))]
  rw [if_neg c3, slices_ContainsFunc_byte_byte_parity_long.f, if_neg (show ¬ l.length > 9223372036854775807 by omega), Option.bind_some, any_far, parity_Protect.j1]
  cases hf : parity_Repair.farB l (-1) 5000 l.length
  · obtain ⟨g, rfl⟩ := Int.eq_ofNat_of_zero_le (show 0 ≤ a by omega)
    have hx := (far_all l 5000).mp hf
    have hgs : ∀ c ∈ parity_groups.chunks l g, grp c := fun c hc => by
      unfold parity_groups.chunks at hc
      obtain ⟨j, _, rfl⟩ := List.mem_map.mp hc
      exact ch_grp (by omega) hx
    have hkl := chunks_len l g
    have hle := nK_le (n := l.length) (g := g) (by omega)
    have h := prot_l0 (parity_groups.chunks l g) hgs (by omega) (parity_groups.chunks l g).length 0 k (by omega) (by omega)
    rw [if_neg (by decide), groups_f (by omega) (by omega) (by omega), Option.bind_some, if_neg (show ¬ (100 < l.length ∨ false = true) by simp; omega), Int.toNat_natCast]
    exact h
  · rw [if_pos rfl, if_pos (Or.inr rfl)]
/-! ### the reference's Protect -/
theorem mnn (a b : Nat) : mn (a : Int) (b : Int) = ((min a b : Nat) : Int) := by unfold mn; split <;> omega
theorem cut_ch (l : List (List Int)) (g i : Nat) (hg : 1 ≤ g) (hi : i * g < l.length) : (l.take (min (i * g + g) l.length)).drop (i * g) = ch l g i := by
  unfold ch
  rw [List.drop_take, show min (i * g + g) l.length - i * g = min g (l.length - i * g) by omega]
  rcases Nat.le_total g (l.length - i * g) with h | h
  · rw [Nat.min_eq_left h]
  · rw [Nat.min_eq_right h, List.take_of_length_le (by rw [List.length_drop]; exact Nat.le_refl _), List.take_of_length_le (by rw [List.length_drop]; exact h)]
theorem rp_l0 {l : List (List Int)} {g : Nat} (hB : ∀ x ∈ l, isB x) (hg : 1 ≤ g) (hg2 : g ≤ 16) (hn : l.length ≤ 100) (hx : ∀ x ∈ l, x.length ≤ 5000) : ∀ (d i k : Nat), i + d = nK l.length g → d + 5100 < k → bitloftref42_Protect.l0 k l (g : Int) (((parity_groups.chunks l g).map par).take i) ((i * g : Nat) : Int) = some ((parity_groups.chunks l g).map par, 0)
  | 0, i, k, h, hk => by
    obtain ⟨k, rfl⟩ : ∃ m, k = m + 1 := ⟨k - 1, by omega⟩
    have hi : ¬ i * g < l.length := fun q => by have := (lt_nK hg i).mp q; omega
    rw [bitloftref42_Protect.l0, if_neg (by omega), List.take_of_length_le (by rw [List.length_map, chunks_len]; omega)]
  | d + 1, i, k, h, hk => by
    obtain ⟨k, rfl⟩ : ∃ m, k = m + 1 := ⟨k - 1, by omega⟩
    have hi : i * g < l.length := (lt_nK hg i).mpr (by omega)
    have hw : wrap64 (((i * g : Nat) : Int) + (g : Int)) = ((i * g + g : Nat) : Int) := by rw [w64_ (by omega)]; omega
    have hc : (parity_groups.chunks l g)[i]'(by rw [chunks_len]; omega) = ch l g i := by
      have := chunks_get l g i (by omega)
      rwa [List.getD_eq_getElem?_getD, List.getElem?_eq_getElem (by rw [chunks_len]; omega), Option.getD_some] at this
    have hgr := ch_grp (k := i) hg2 hx
    have hwd := wd_le hgr
    have hl := hgr.1
    rw [bitloftref42_Protect.l0, if_pos (by omega), if_pos (by omega), hw, mnn, if_pos (by omega), if_pos (by omega), Int.toNat_natCast, Int.toNat_natCast, cut_ch l g i hg hi, pa_ev (fun x h => hB x (ch_mem h)) (by omega) (by omega) k (by omega), Option.bind_some, if_pos (by rw [List.length_take, List.length_map, chunks_len]; have := nK_le (n := l.length) hg; omega)]
    have hs := map_take_succ par (parity_groups.chunks l g) i (by rw [chunks_len]; omega)
    rw [hc] at hs
    rw [← hs, show i * g + g = (i + 1) * g by rw [Nat.succ_mul]]
    exact rp_l0 hB hg hg2 hn hx d (i + 1) k (by omega) (by omega)
theorem rprot_ev {l : List (List Int)} (a : Int) (hB : ∀ x ∈ l, isB x) (hn : l.length ≤ 9223372036854775807) : ∀ k, l.length + 5300 < k → bitloftref42_Protect.f k l a = some (protS l a) := by
  intro k hk
  obtain ⟨k, rfl⟩ : ∃ m, k = m + 2 := ⟨k - 2, by omega⟩
  unfold protS
  rw [bitloftref42_Protect.f]
  by_cases c1 : a < 1
  · rw [if_pos c1, if_pos (Or.inl c1), bitloftref42_Protect.j0, if_pos rfl]
  rw [if_neg c1]
  by_cases c2 : a > 16
  · rw [decide_eq_true c2, bitloftref42_Protect.j0, if_pos rfl, if_pos (Or.inr c2)]
  rw [decide_eq_false c2, bitloftref42_Protect.j0, if_neg (by decide), if_neg (show ¬ (a < 1 ∨ 16 < a) by omega)]
  by_cases c3 : (l.length : Int) > 100
  · rw [if_pos c3, bitloftref42_Protect.j1, if_pos rfl, if_pos (Or.inl (by omega))]
  rw [if_neg c3, lo_ev l (-1) hn (k + 1) (by omega), Option.bind_some, bitloftref42_Protect.j1]
  cases hf : parity_Repair.farB l (-1) 5000 l.length
  · obtain ⟨g, rfl⟩ := Int.eq_ofNat_of_zero_le (show 0 ≤ a by omega)
    have hx := (far_all l 5000).mp hf
    have hle := nK_le (n := l.length) (g := g) (by omega)
    have h := rp_l0 (g := g) hB (by omega) (by omega) (by omega) hx (nK l.length g) 0 k (by omega) (by omega)
    rw [if_neg (by decide), if_neg (show ¬ (100 < l.length ∨ false = true) by simp; omega), Int.toNat_natCast]
    rw [Nat.zero_mul] at h
    exact h
  · rw [if_pos rfl, if_pos (Or.inr rfl)]
/-! ### which are lost -/
def lb (lo : List Bool) (i : Nat) : Bool := lo.getD i false
theorem rdb (lo : List Bool) (i : Nat) : rdOf false lo (i : Int) = lb lo i := by unfold rdOf lb; rw [Int.toNat_natCast]
/-- The last one of group k that is lost, among the first i; or -1. -/
def gn (lo : List Bool) (g k : Nat) : Nat → Int
  | 0 => -1
  | i + 1 => if lb lo i = true ∧ i / g = k then ((i % g : Nat) : Int) else gn lo g k i
/-- Has a group lost two, among the first i? -/
def tw (lo : List Bool) (g : Nat) : Nat → Bool
  | 0 => false
  | i + 1 => if lb lo i = true then (tw lo g i || decide (gn lo g (i / g) i ≥ 0)) else tw lo g i
/-- How many group k has lost, among the first i. -/
def cn (lo : List Bool) (g k : Nat) : Nat → Nat
  | 0 => 0
  | i + 1 => if lb lo i = true ∧ i / g = k then cn lo g k i + 1 else cn lo g k i
theorem gc (lo : List Bool) (g k : Nat) : ∀ i, (0 ≤ gn lo g k i ↔ 0 < cn lo g k i)
  | 0 => by rw [gn, cn]; omega
  | i + 1 => by
    rw [gn, cn]
    split
    · omega
    · exact gc lo g k i
theorem tc (lo : List Bool) (g : Nat) : ∀ i, (tw lo g i = true ↔ ∃ k, 1 < cn lo g k i)
  | 0 => by rw [tw]; exact ⟨fun h => absurd h (by decide), fun ⟨k, h⟩ => by rw [cn] at h; omega⟩
  | i + 1 => by
    rw [tw]
    by_cases c : lb lo i = true
    · rw [if_pos c, Bool.or_eq_true, decide_eq_true_iff, tc lo g i]
      refine ⟨fun h => ?_, fun ⟨k, h⟩ => ?_⟩
      · rcases h with ⟨k, h⟩ | h
        · refine ⟨k, ?_⟩
          rw [cn]; split <;> omega
        · have := (gc lo g (i / g) i).mp h
          exact ⟨i / g, by rw [cn, if_pos ⟨c, rfl⟩]; omega⟩
      · rw [cn] at h
        by_cases e : i / g = k
        · rw [if_pos ⟨c, e⟩] at h
          subst e
          exact Or.inr ((gc lo g (i / g) i).mpr (by omega))
        · rw [if_neg (fun q => e q.2)] at h
          exact Or.inl ⟨k, h⟩
    · rw [if_neg c, tc lo g i]
      refine ⟨fun ⟨k, h⟩ => ⟨k, ?_⟩, fun ⟨k, h⟩ => ⟨k, ?_⟩⟩
      · rw [cn, if_neg (fun q => c q.1)]; exact h
      · rw [cn, if_neg (fun q => c q.1)] at h; exact h
theorem cn_pos (lo : List Bool) (g k : Nat) : ∀ i j, j < i → lb lo j = true → j / g = k → 1 ≤ cn lo g k i
  | 0, j, h, _, _ => absurd h (Nat.not_lt_zero _)
  | i + 1, j, h, h1, h2 => by
    rw [cn]
    by_cases e : j = i
    · subst e; rw [if_pos ⟨h1, h2⟩]; omega
    · have := cn_pos lo g k i j (by omega) h1 h2
      split <;> omega
theorem cn_two (lo : List Bool) (g k : Nat) : ∀ i j j', j < j' → j' < i → lb lo j = true → j / g = k → lb lo j' = true → j' / g = k → 2 ≤ cn lo g k i
  | 0, j, j', _, h, _, _, _, _ => absurd h (Nat.not_lt_zero _)
  | i + 1, j, j', hj, h, h1, h2, h3, h4 => by
    rw [cn]
    by_cases e : j' = i
    · subst e
      have := cn_pos lo g k j' j hj h1 h2
      rw [if_pos ⟨h3, h4⟩]; omega
    · have := cn_two lo g k i j j' hj (by omega) h1 h2 h3 h4
      split <;> omega
theorem gn_at (lo : List Bool) (g k : Nat) (hg : 1 ≤ g) : ∀ i, 0 ≤ gn lo g k i → ∃ a : Nat, gn lo g k i = (a : Int) ∧ a < g ∧ k * g + a < i ∧ lb lo (k * g + a) = true
  | 0, h => by rw [gn] at h; omega
  | i + 1, h => by
    rw [gn] at h ⊢
    by_cases c : lb lo i = true ∧ i / g = k
    · rw [if_pos c]
      have e : k * g + i % g = i := by rw [← c.2, Nat.mul_comm]; exact Nat.div_add_mod i g
      exact ⟨i % g, rfl, Nat.mod_lt _ (by omega), by omega, by rw [e]; exact c.1⟩
    · rw [if_neg c] at h ⊢
      obtain ⟨a, h1, h2, h3, h4⟩ := gn_at lo g k hg i h
      exact ⟨a, h1, h2, by omega, h4⟩
theorem gn_no (lo : List Bool) (g k i : Nat) (h : gn lo g k i < 0) (j : Nat) (hj : j < i) (hk : j / g = k) : lb lo j = false := by
  cases q : lb lo j
  · rfl
  · have h1 := cn_pos lo g k i j hj q hk
    have h2 := (gc lo g k i).mpr (by omega)
    omega
theorem div_at {g k a : Nat} (ha : a < g) : (k * g + a) / g = k := by
  rw [Nat.mul_comm, Nat.mul_add_div (by omega), Nat.div_eq_of_lt ha, Nat.add_zero]
theorem tdivn (i g : Nat) : Int.tdiv (i : Int) (g : Int) = ((i / g : Nat) : Int) := by rw [Int.tdiv_eq_ediv_of_nonneg (by omega), Int.natCast_ediv]
theorem tmodn (i g : Nat) : Int.tmod (i : Int) (g : Int) = ((i % g : Nat) : Int) := by rw [Int.tmod_eq_emod_of_nonneg (by omega), Int.natCast_emod]
/-! ### Recover's first loops -/
def gl (lo : List Bool) (g K i : Nat) : List Int := (List.range K).map fun k => gn lo g k i
def ou (l : List (List Int)) (lo : List Bool) (i : Nat) : List (List Int) := (List.range l.length).map fun j => if j < i ∧ lb lo j = false then l.getD j [] else []
theorem rc_l0 (l : List (List Int)) (lo : List Bool) (a : Int) (p : List (List Int)) (gs : List (List (List Int))) (K : Nat) (hK : K ≤ 1000000) (hn : l.length ≤ 1000000) : ∀ (d i k : Nat), i + d = K → parity_Recover.l0 (k + d + 1) l lo a p gs ((List.range K).map fun j => if j < i then (-1 : Int) else 0) (K : Int) (i : Int) = parity_Recover.l1 k l lo a p gs (gl lo 1 K 0) false (ou l lo 0) (l.length : Int) 0
  | 0, i, k, h => by
    have e : ((List.range K).map fun j => if j < i then (-1 : Int) else 0) = gl lo 1 K 0 := rm_congr (fun j hj => by rw [if_pos (by omega)]; rfl)
    have e2 : List.replicate l.length ([] : List Int) = ou l lo 0 := by
      unfold ou
      rw [rm_congr (f' := fun _ => ([] : List Int)) (fun j _ => if_neg (by omega)), List.map_const', List.length_range]
    rw [Nat.add_zero, parity_Recover.l0, if_neg (by omega), if_pos (by omega), if_pos (by omega), Int.toNat_natCast, e, e2]
  | d + 1, i, k, h => by
    have e : ((List.range K).map fun j => if j < i then (-1 : Int) else 0).set i (-1) = (List.range K).map fun j => if j < i + 1 then (-1 : Int) else 0 := by
      rw [rm_set]
      refine rm_congr (fun j _ => ?_)
      by_cases q : j = i
      · rw [if_pos q, if_pos (by omega)]
      · rw [if_neg q]
        by_cases q2 : j < i
        · rw [if_pos q2, if_pos (by omega)]
        · rw [if_neg q2, if_neg (by omega)]
    rw [show k + (d + 1) + 1 = (k + d + 1) + 1 by omega, parity_Recover.l0, if_pos (by omega), if_pos (by omega), if_pos (by rw [rm_len]; omega), Int.toNat_natCast, e, w64_ (by omega), show (i : Int) + 1 = ((i + 1 : Nat) : Int) by omega]
    exact rc_l0 l lo a p gs K hK hn d (i + 1) k (by omega)
theorem gl_zero (lo : List Bool) (g K : Nat) : gl lo 1 K 0 = gl lo g K 0 := rfl
theorem rc_l1 (l : List (List Int)) (lo : List Bool) (g : Nat) (p : List (List Int)) (gs : List (List (List Int))) (hg : 1 ≤ g) (hg2 : g ≤ 16) (hn : l.length ≤ 100) (hlo : lo.length = l.length) (hx : ∀ j, j < l.length → lb lo j = false → (l.getD j []).length ≤ 5000) : ∀ (d i k : Nat), i + d = l.length → parity_Recover.l1 (k + d + 1) l lo (g : Int) p gs (gl lo g (nK l.length g) i) (tw lo g i) (ou l lo i) (l.length : Int) (i : Int) = parity_Recover.j3 k (g : Int) p gs (gl lo g (nK l.length g) l.length) (ou l lo l.length) (tw lo g l.length || ((p.length : Int) != (gs.length : Int)))
  | 0, i, k, h => by
    obtain rfl : i = l.length := by omega
    rw [Nat.add_zero, parity_Recover.l1, if_neg (by omega)]
    cases tw lo g l.length
    · rw [if_neg (by decide), Bool.false_or]
    · rw [if_pos rfl, Bool.true_or]
  | d + 1, i, k, h => by
    have hi : i < l.length := by omega
    have ih := rc_l1 l lo g p gs hg hg2 hn hlo hx d (i + 1) k (by omega)
    have hd := div_nK (n := l.length) hg hi
    have hdle : i / g ≤ i := Nat.div_le_self i g
    have hb1 : (0 : Int) ≤ ((i / g : Nat) : Int) := Int.natCast_nonneg _
    have hb2 : ((i / g : Nat) : Int) ≤ (i : Int) := Int.ofNat_le.mpr hdle
    have hb3 : ((i / g : Nat) : Int) < (nK l.length g : Int) := Int.ofNat_lt.mpr hd
    have e1 : wrap64 ((i : Int) + 1) = ((i + 1 : Nat) : Int) := by rw [w64_ (by omega)]; omega
    have e2 : wrap64 (Int.tdiv (i : Int) (g : Int)) = ((i / g : Nat) : Int) := by rw [tdivn, w64_ (by omega)]
    have hgz : ¬ (g : Int) = 0 := by omega
    rw [show k + (d + 1) + 1 = (k + d + 1) + 1 by omega, parity_Recover.l1, if_pos (by omega), if_pos (by omega), if_pos (by omega), rdb, e1, e2, tmodn]
    cases c : lb lo i
    · have hlen := hx i hi c
      have eo : (ou l lo i).set i (l.getD i []) = ou l lo (i + 1) := by
        unfold ou
        rw [rm_set]
        refine rm_congr (fun j _ => ?_)
        by_cases q : j = i
        · subst q; rw [if_pos rfl, if_pos ⟨by omega, c⟩]
        · rw [if_neg q]
          by_cases q2 : j < i ∧ lb lo j = false
          · rw [if_pos q2, if_pos ⟨by omega, q2.2⟩]
          · rw [if_neg q2, if_neg (fun q3 => q2 ⟨by omega, q3.2⟩)]
      have eg : gl lo g (nK l.length g) (i + 1) = gl lo g (nK l.length g) i := rm_congr (fun j _ => by rw [gn, if_neg (fun q => by rw [c] at q; cases q.1)])
      have et : tw lo g (i + 1) = tw lo g i := by rw [tw, if_neg (by rw [c]; decide)]
      rw [eg, et, ← eo] at ih
      rw [if_neg (by decide), if_pos (by omega), rL_, parity_long.f, Option.bind_some, if_neg (by rw [decide_eq_true_iff]; omega), slices_Clone_byte_byte.f, if_pos (by omega), Option.bind_some, if_pos (by unfold ou; rw [rm_len]; omega), Int.toNat_natCast]
      exact ih
    · have eo : ou l lo (i + 1) = ou l lo i := rm_congr (fun j _ => by
        by_cases q : j = i
        · subst q; rw [if_neg (fun q => by rw [c] at q; cases q.2), if_neg (by omega)]
        · by_cases q2 : j < i ∧ lb lo j = false
          · rw [if_pos q2, if_pos ⟨by omega, q2.2⟩]
          · rw [if_neg q2, if_neg (fun q3 => q2 ⟨by omega, q3.2⟩)])
      have eg : (gl lo g (nK l.length g) i).set (i / g) ((i % g : Nat) : Int) = gl lo g (nK l.length g) (i + 1) := by
        unfold gl
        rw [rm_set]
        refine rm_congr (fun j _ => ?_)
        by_cases q : j = i / g
        · rw [if_pos q, gn, if_pos ⟨c, q.symm⟩]
        · rw [if_neg q, gn, if_neg (fun q3 => q q3.2.symm)]
      have et : tw lo g (i + 1) = (tw lo g i || decide (gn lo g (i / g) i ≥ 0)) := by rw [tw, if_pos c]
      rw [eo, ← eg, et] at ih
      have hgl : (gl lo g (nK l.length g) i).length = nK l.length g := rm_len _ _
      have hrd : rd (gl lo g (nK l.length g) i) ((i / g : Nat) : Int) = gn lo g (i / g) i := rm_rd _ _ _ hd
      rw [if_pos rfl]
      cases ct : tw lo g i
      · rw [ct, Bool.false_or] at ih
        rw [if_neg (by decide), if_neg hgz, if_pos (by omega), if_pos (by rw [hgl]; omega), hrd, Int.toNat_natCast]
        exact ih
      · rw [ct, Bool.true_or] at ih
        rw [if_pos rfl, if_neg hgz, if_pos (by omega), if_pos (by rw [hgl]; omega), Int.toNat_natCast]
        exact ih
/-- Recover, where what is not lost is not too long: it comes to its last loop. -/
theorem rc_main {l : List (List Int)} {lo : List Bool} {g : Nat} (p : List (List Int)) (hg : 1 ≤ g) (hg2 : g ≤ 16) (hn : l.length ≤ 100) (hlo : lo.length = l.length) (hx : ∀ j, j < l.length → lb lo j = false → (l.getD j []).length ≤ 5000) (k : Nat) : parity_Recover.f (k + nK l.length g + l.length + 3) l lo (g : Int) p = parity_Recover.j3 k (g : Int) p (parity_groups.chunks l g) (gl lo g (nK l.length g) l.length) (ou l lo l.length) (tw lo g l.length || ((p.length : Int) != ((parity_groups.chunks l g).length : Int))) := by
  have hle := nK_le (n := l.length) hg
  have hcl := chunks_len l g
  have e0 : ((lo.length : Int) != (l.length : Int)) = false := by rw [hlo]; simp
  have h0 := rc_l0 l lo (g : Int) p (parity_groups.chunks l g) (nK l.length g) (by omega) (by omega) (nK l.length g) 0 (k + l.length + 1) (by omega)
  have e1 : ((List.range (nK l.length g)).map fun j => if j < 0 then (-1 : Int) else 0) = List.replicate (nK l.length g) 0 := by
    rw [rm_congr (f' := fun _ => (0 : Int)) (fun j _ => if_neg (by omega)), List.map_const', List.length_range]
  rw [e1] at h0
  have h1 := rc_l1 l lo g p (parity_groups.chunks l g) hg hg2 hn hlo hx l.length 0 k (by omega)
  rw [parity_Recover.f, if_neg (by omega), if_neg (by omega), e0, show k + nK l.length g + l.length + 3 = (k + nK l.length g + l.length + 2) + 1 from rfl, parity_Recover.j0, if_neg (by decide), if_neg (by omega), groups_f hg hg2 (by omega), Option.bind_some, hcl, if_pos (by omega), if_pos (by omega), Option.bind_some, Int.toNat_natCast, List.length_replicate]
  rw [show k + nK l.length g + l.length + 2 = k + l.length + 1 + nK l.length g + 1 by omega]
  rw [hcl] at h1
  exact h0.trans h1
/-! ### Same of two lists, and Right -/
theorem same_l0g (X Y : List (List Int)) (hn : X.length ≤ 1000000) (hl : X.length = Y.length) : ∀ (d i k : Nat), i + d = X.length → d < k → slices_EqualFunc_byte_byte_byte_byte_bytes_Equal.eqs X Y i = true → bitloftref42_Same.l0 k X Y (i : Int) = some (slices_EqualFunc_byte_byte_byte_byte_bytes_Equal.eqs X Y X.length)
  | 0, i, k, h, hk, he => by
    obtain ⟨k, rfl⟩ : ∃ q, k = q + 1 := ⟨k - 1, by omega⟩
    obtain rfl : i = X.length := by omega
    rw [bitloftref42_Same.l0, if_neg (by omega), he]
  | d + 1, i, k, h, hk, he => by
    obtain ⟨k, rfl⟩ : ∃ q, k = q + 1 := ⟨k - 1, by omega⟩
    rw [bitloftref42_Same.l0, if_pos (by omega), if_pos (by omega), if_pos (by omega), rL_, rL_]
    by_cases c : (strOfNums (X.getD i [])).toList = (strOfNums (Y.getD i [])).toList
    · rw [if_pos c, w64_ (by omega), show (i : Int) + 1 = ((i + 1 : Nat) : Int) by omega]
      exact same_l0g X Y hn hl d (i + 1) k (by omega) (by omega) (by rw [slices_EqualFunc_byte_byte_byte_byte_bytes_Equal.eqs, he, decide_eq_true c]; rfl)
    · rw [if_neg c, slices_EqualFunc_byte_byte_byte_byte_bytes_Equal.eqs_no X Y (i + 1) (by rw [slices_EqualFunc_byte_byte_byte_byte_bytes_Equal.eqs, decide_eq_false c, Bool.and_false]) _ (by omega)]
def sm (X Y : List (List Int)) : Bool := decide (X.length = Y.length) && slices_EqualFunc_byte_byte_byte_byte_bytes_Equal.eqs X Y X.length
theorem same_ev (X Y : List (List Int)) (hn : X.length ≤ 1000000) (k : Nat) (hk : X.length < k) : bitloftref42_Same.f k X Y = some (sm X Y) := by
  unfold sm
  rw [bitloftref42_Same.f]
  by_cases c : X.length = Y.length
  · rw [if_pos (by omega), decide_eq_true c, Bool.true_and]
    exact same_l0g X Y hn c X.length 0 k (by omega) hk rfl
  · rw [if_neg (by omega), decide_eq_false c, Bool.false_and]
theorem eqf_ev (X Y : List (List Int)) (hn : X.length ≤ 1000000) : slices_EqualFunc_byte_byte_byte_byte_bytes_Equal.f X Y = some (sm X Y) := by
  rw [slices_EqualFunc_byte_byte_byte_byte_bytes_Equal.f, if_neg (by omega)]; rfl
theorem sm_self (l : List (List Int)) : sm l l = true := by
  have h : ∀ k, slices_EqualFunc_byte_byte_byte_byte_bytes_Equal.eqs l l k = true := by
    intro k
    induction k with
    | zero => rfl
    | succ k ih => rw [slices_EqualFunc_byte_byte_byte_byte_bytes_Equal.eqs, ih, decide_eq_true rfl]; rfl
  unfold sm
  rw [h, decide_eq_true rfl]; rfl
theorem protS_len (l : List (List Int)) (a : Int) : (protS l a).1.length ≤ 100 := by
  unfold protS
  by_cases c : a < 1 ∨ 16 < a
  · rw [if_pos c]; exact Nat.zero_le _
  · rw [if_neg c]
    by_cases c2 : 100 < l.length ∨ parity_Repair.farB l (-1) 5000 l.length = true
    · rw [if_pos c2]; exact Nat.zero_le _
    · have := nK_le (n := l.length) (g := a.toNat) (by omega)
      rw [if_neg c2, List.length_map, chunks_len]; omega
def rightS (l : List (List Int)) (a : Int) (p : List (List Int)) : Bool × Int := if (protS l a).2 = 0 then (sm (protS l a).1 p, 0) else (false, (protS l a).2)
theorem right_ev {l : List (List Int)} (a : Int) (p : List (List Int)) (hn : l.length ≤ 9223372036854775807) (k : Nat) (hk : l.length + 5300 < k) : parity_Right.f k l a p = some (rightS l a p) := by
  have h := protS_len l a
  unfold rightS
  rw [parity_Right.f, prot_ev a hn k (by omega), Option.bind_some]
  by_cases c : (protS l a).2 = 0
  · rw [if_pos c, if_pos c, eqf_ev _ _ (by omega), Option.bind_some, c]
  · rw [if_neg c, if_neg c]
theorem rright_ev {l : List (List Int)} (a : Int) (p : List (List Int)) (hB : ∀ x ∈ l, isB x) (hn : l.length ≤ 9223372036854775807) (k : Nat) (hk : l.length + 5300 < k) : bitloftref42_Right.f k l a p = some (rightS l a p) := by
  have h := protS_len l a
  unfold rightS
  rw [bitloftref42_Right.f, rprot_ev a hB hn k (by omega), Option.bind_some]
  by_cases c : (protS l a).2 = 0
  · rw [if_pos c, if_pos c, same_ev _ _ (by omega) k (by omega), Option.bind_some]
  · rw [if_neg c, if_neg c]
/-! ### Repair tells something -/
theorem rep_some {l : List (List Int)} {p : List Int} (a : Int) (hB : ∀ x ∈ l, isB x) (hp : isB p) (hn : l.length ≤ 1000000) : ∃ v, parity_Repair.f l a p = some v := by
  unfold parity_Repair.f
  rw [if_neg (by omega)]
  by_cases c1 : parity_Repair.farB l a 5000 l.length = true ∨ 16 < l.length
  · rw [if_pos c1]; exact ⟨_, rfl⟩
  rw [if_neg c1]
  by_cases c2 : a < 0 ∨ (l.length : Int) ≤ a
  · rw [if_pos c2]; exact ⟨_, rfl⟩
  rw [if_neg c2]
  by_cases c3 : p.length < 2 ∨ 5002 < p.length ∨ parity_Repair.farB l a (p.length - 2) l.length = true
  · rw [if_pos c3]; exact ⟨_, rfl⟩
  rw [if_neg c3]
  obtain ⟨b, rfl⟩ := Int.eq_ofNat_of_zero_le (show 0 ≤ a by omega)
  have hf : parity_Repair.farB l (b : Int) (p.length - 2) l.length = false := by
    cases h : parity_Repair.farB l (b : Int) (p.length - 2) l.length
    · rfl
    · exact absurd (Or.inr (Or.inr h)) c3
  have hf2 := (far_no (l := l) (lost := b) (m := p.length - 2) l.length).mp hf
  have hb := (rows_rd (lost := b) hB hp l.length (fun j hj e => by have := hf2 j hj e; omega)).1
  generalize parity_Repair.rows l (b : Int) p l.length = r at hb ⊢
  have b0 : 0 ≤ rd r 0 ∧ rd r 0 ≤ 255 := isB_rd hb 0
  have b1 : 0 ≤ rd r 1 ∧ rd r 1 ≤ 255 := isB_rd hb 1
  unfold parity_Repair.tell
  rw [if_neg (show ¬ (rd r 0 < 0 ∨ 255 < rd r 0 ∨ rd r 1 < 0 ∨ 255 < rd r 1) by omega)]
  by_cases c4 : (r.length : Int) - 2 < parity_Repair.m r ∨ (r.drop (2 + (parity_Repair.m r).toNat)).any (fun x => x != 0) = true
  · rw [if_pos c4]; exact ⟨_, rfl⟩
  · rw [if_neg c4]; exact ⟨_, rfl⟩
/-! ### the program's Recover in every case -/
def lv (l p : List (List Int)) (lo : List Bool) (g k : Nat) : List Int × Int := (parity_Repair.f (ch l g k) (gn lo g k l.length) (p.getD k [])).getD ([], 0)
def o3 (l p : List (List Int)) (lo : List Bool) (g k : Nat) : List (List Int) := (List.range l.length).map fun j => if lb lo j = false then l.getD j [] else if j / g < k then (lv l p lo g (j / g)).1 else []
def oAt (l p : List (List Int)) (lo : List Bool) (g j : Nat) : List Int := if lb lo j = false then l.getD j [] else (lv l p lo g (j / g)).1
def fin (l p : List (List Int)) (lo : List Bool) (g : Nat) : Nat → Nat → List (List Int) × Int
  | 0, _ => ((List.range l.length).map (oAt l p lo g), 0)
  | d + 1, i => if gn lo g i l.length < 0 then fin l p lo g d (i + 1) else if (lv l p lo g i).2 = 0 then fin l p lo g d (i + 1) else ([], (lv l p lo g i).2)
theorem lv_ev {l p : List (List Int)} {lo : List Bool} {g k : Nat} (hB : ∀ x ∈ l, isB x) (hP : ∀ x ∈ p, isB x) (hg2 : g ≤ 16) : parity_Repair.f (ch l g k) (gn lo g k l.length) (p.getD k []) = some (lv l p lo g k) := by
  obtain ⟨v, hv⟩ := rep_some (l := ch l g k) (gn lo g k l.length) (fun x h => hB x (ch_mem h)) (gD hP k) (by rw [ch_len]; omega)
  unfold lv
  rw [hv]; rfl
theorem un_ {lo : List Bool} {g i a n : Nat} (hc : cn lo g i n ≤ 1) (ha : a < g) (hj : i * g + a < n) (hlost : lb lo (i * g + a) = true) (j : Nat) (hj2 : j < n) (hd : j / g = i) (hl2 : lb lo j = true) : j = i * g + a := by
  rcases Nat.lt_trichotomy j (i * g + a) with q | q | q
  · have := cn_two lo g i n j (i * g + a) q hj hl2 hd hlost (div_at ha); omega
  · exact q
  · have := cn_two lo g i n (i * g + a) j q hj2 hlost (div_at ha) hl2 hd; omega
theorem pc_l2 {l p : List (List Int)} {lo : List Bool} {g : Nat} (hB : ∀ x ∈ l, isB x) (hP : ∀ x ∈ p, isB x) (hg : 1 ≤ g) (hg2 : g ≤ 16) (hn : l.length ≤ 100) (hp : p.length = nK l.length g) (hc : ∀ k, cn lo g k l.length ≤ 1) : ∀ (d i k : Nat), i + d = nK l.length g → d < k → parity_Recover.l2 k (g : Int) p (parity_groups.chunks l g) (o3 l p lo g i) (gl lo g (nK l.length g) l.length) (nK l.length g : Int) (i : Int) = some (fin l p lo g d i)
  | 0, i, k, h, hk => by
    obtain ⟨k, rfl⟩ : ∃ m, k = m + 1 := ⟨k - 1, by omega⟩
    have e : o3 l p lo g i = (List.range l.length).map (oAt l p lo g) := rm_congr (fun j hj => by
      unfold oAt
      by_cases c : lb lo j = false
      · rw [if_pos c, if_pos c]
      · rw [if_neg c, if_neg c, if_pos (by have := div_nK (n := l.length) hg hj; omega)])
    rw [parity_Recover.l2, if_neg (by omega), e, fin]
  | d + 1, i, k, h, hk => by
    obtain ⟨k, rfl⟩ : ∃ m, k = m + 1 := ⟨k - 1, by omega⟩
    have hi : i < nK l.length g := by omega
    have hig := (lt_nK (n := l.length) hg i).mpr hi
    have hkl := nK_le (n := l.length) hg
    have hA : i + 1 + d = nK l.length g := by omega
    have hA2 : d < k := by omega
    have hA3 : (i : Int) < (nK l.length g : Int) := by omega
    have hA4 : (0 : Int) ≤ (i : Int) := by omega
    have hgl : (gl lo g (nK l.length g) l.length).length = nK l.length g := rm_len _ _
    have hrd : rd (gl lo g (nK l.length g) l.length) (i : Int) = gn lo g i l.length := rm_rd _ _ _ hi
    have e1 : wrap64 ((i : Int) + 1) = ((i + 1 : Nat) : Int) := by rw [w64_ (by omega)]; omega
    have hA5 : (i : Int) < ((gl lo g (nK l.length g) l.length).length : Int) := by rw [hgl]; exact hA3
    rw [parity_Recover.l2, if_pos hA3, if_pos hA4, if_pos hA5, hrd, e1, fin]
    clear hrd e1 hA5 hgl
    by_cases c : gn lo g i l.length < 0
    · have eo : o3 l p lo g (i + 1) = o3 l p lo g i := rm_congr (fun j hj => by
        by_cases q : lb lo j = false
        · rw [if_pos q, if_pos q]
        · rw [if_neg q, if_neg q]
          by_cases q3 : j / g = i
          · exact absurd (gn_no lo g i l.length c j hj q3) q
          · by_cases q4 : j / g < i
            · rw [if_pos q4, if_pos (by omega)]
            · rw [if_neg q4, if_neg (by omega)])
      rw [if_pos c, if_pos c, ← eo]
      exact pc_l2 hB hP hg hg2 hn hp hc d (i + 1) k hA hA2
    · have hcl : (parity_groups.chunks l g).length = nK l.length g := chunks_len l g
      have hcD : (parity_groups.chunks l g).getD i [] = ch l g i := chunks_get l g i hi
      have hlv := lv_ev (lo := lo) (k := i) hB hP hg2
      have hB1 : (i : Int) < ((parity_groups.chunks l g).length : Int) := by rw [hcl]; exact hA3
      have hB2 : (i : Int) < (p.length : Int) := by rw [hp]; exact hA3
      rw [if_neg c, if_neg c, if_pos hB1, if_pos hB2, r2_, hcD, rL_, hlv, Option.bind_some]
      by_cases c2 : (lv l p lo g i).2 = 0
      · obtain ⟨a, ea, ha, hj, hlost⟩ := gn_at lo g i hg l.length (by omega)
        have hu := un_ (hc i) ha hj hlost
        have e2 : wrap64 (wrap64 ((i : Int) * (g : Int)) + (a : Int)) = ((i * g + a : Nat) : Int) := by
          have e3 : (i : Int) * (g : Int) = ((i * g : Nat) : Int) := by rw [Int.natCast_mul]
          rw [e3, w64_ (x := ((i * g : Nat) : Int)) (by omega), w64_ (by omega)]
          omega
        have eo : (o3 l p lo g i).set (i * g + a) (lv l p lo g i).1 = o3 l p lo g (i + 1) := by
          unfold o3
          rw [rm_set]
          refine rm_congr (fun j hj2 => ?_)
          by_cases q : j = i * g + a
          · subst q; rw [if_pos rfl, if_neg (by rw [hlost]; decide), if_pos (by rw [div_at ha]; omega), div_at ha]
          · rw [if_neg q]
            by_cases q2 : lb lo j = false
            · rw [if_pos q2, if_pos q2]
            · rw [if_neg q2, if_neg q2]
              by_cases q4 : j / g = i
              · exact absurd (hu j hj2 q4 (by cases c5 : lb lo j; exact absurd c5 q2; rfl)) q
              · by_cases q5 : j / g < i
                · rw [if_pos q5, if_pos (by omega)]
                · rw [if_neg q5, if_neg (by omega)]
        have ho : (o3 l p lo g i).length = l.length := rm_len _ _
        have hB3 : (0 : Int) ≤ ((i * g + a : Nat) : Int) := Int.natCast_nonneg _
        have hB4 : ((i * g + a : Nat) : Int) < ((o3 l p lo g i).length : Int) := by rw [ho]; exact Int.ofNat_lt.mpr hj
        rw [if_pos c2, if_pos c2, ea, e2, if_pos hB3, if_pos hB4, Int.toNat_natCast, eo]
        exact pc_l2 hB hP hg hg2 hn hp hc d (i + 1) k hA hA2
      · rw [if_neg c2, if_neg c2]
/-! ### the program's Recover, from its begin -/
def farL (l : List (List Int)) (lo : List Bool) : Nat → Bool
  | 0 => false
  | i + 1 => farL l lo i || (!(lb lo i) && decide (5000 < (l.getD i []).length))
theorem farL_no (l : List (List Int)) (lo : List Bool) : ∀ n, farL l lo n = false → ∀ j, j < n → lb lo j = false → (l.getD j []).length ≤ 5000
  | 0, _, j, hj, _ => absurd hj (Nat.not_lt_zero _)
  | n + 1, h, j, hj, hl => by
    rw [farL, Bool.or_eq_false_iff] at h
    by_cases e : j = n
    · subst e
      have h2 := h.2
      rw [hl, Bool.not_false, Bool.true_and, decide_eq_false_iff_not] at h2
      omega
    · exact farL_no l lo n h.1 j (by omega) hl
theorem farL_yes (l : List (List Int)) (lo : List Bool) : ∀ n, farL l lo n = true → ∃ m, m < n ∧ farL l lo m = false ∧ lb lo m = false ∧ 5000 < (l.getD m []).length
  | 0, h => by rw [farL] at h; cases h
  | n + 1, h => by
    cases c : farL l lo n
    · rw [farL, c, Bool.false_or, Bool.and_eq_true, decide_eq_true_iff, Bool.not_eq_true'] at h
      exact ⟨n, by omega, c, h.1, h.2⟩
    · obtain ⟨m, h1, h2⟩ := farL_yes l lo n c
      exact ⟨m, by omega, h2⟩
def recS (l : List (List Int)) (lo : List Bool) (a : Int) (p : List (List Int)) : List (List Int) × Int :=
  if a < 1 ∨ 16 < a ∨ lo.length ≠ l.length then ([], 2)
  else if 100 < l.length ∨ farL l lo l.length = true then ([], 4)
  else if tw lo a.toNat l.length = true ∨ p.length ≠ nK l.length a.toNat then ([], 40)
  else fin l p lo a.toNat (nK l.length a.toNat) 0
theorem rc_lm (l : List (List Int)) (lo : List Bool) (g : Nat) (p : List (List Int)) (gs : List (List (List Int))) (hg : 1 ≤ g) (hg2 : g ≤ 16) (hn : l.length ≤ 100) (hlo : lo.length = l.length) (m : Nat) (hm : m ≤ l.length) (hx : ∀ j, j < m → lb lo j = false → (l.getD j []).length ≤ 5000) : ∀ (d i k : Nat), i + d = m → parity_Recover.l1 (k + d + 1) l lo (g : Int) p gs (gl lo g (nK l.length g) i) (tw lo g i) (ou l lo i) (l.length : Int) (i : Int) = parity_Recover.l1 (k + 1) l lo (g : Int) p gs (gl lo g (nK l.length g) m) (tw lo g m) (ou l lo m) (l.length : Int) (m : Int)
  | 0, i, k, h => by
    obtain rfl : i = m := by omega
    rfl
  | d + 1, i, k, h => by
    have hi : i < l.length := by omega
    have ih := rc_lm l lo g p gs hg hg2 hn hlo m hm hx d (i + 1) k (by omega)
    have hd := div_nK (n := l.length) hg hi
    have hdle : i / g ≤ i := Nat.div_le_self i g
    have hb1 : (0 : Int) ≤ ((i / g : Nat) : Int) := Int.natCast_nonneg _
    have hb2 : ((i / g : Nat) : Int) ≤ (i : Int) := Int.ofNat_le.mpr hdle
    have hb3 : ((i / g : Nat) : Int) < (nK l.length g : Int) := Int.ofNat_lt.mpr hd
    have e1 : wrap64 ((i : Int) + 1) = ((i + 1 : Nat) : Int) := by rw [w64_ (by omega)]; omega
    have e2 : wrap64 (Int.tdiv (i : Int) (g : Int)) = ((i / g : Nat) : Int) := by rw [tdivn, w64_ (by omega)]
    have hgz : ¬ (g : Int) = 0 := by omega
    rw [show k + (d + 1) + 1 = (k + d + 1) + 1 by omega, parity_Recover.l1, if_pos (by omega), if_pos (by omega), if_pos (by omega), rdb, e1, e2, tmodn]
    cases c : lb lo i
    · have hlen := hx i (by omega) c
      have eo : (ou l lo i).set i (l.getD i []) = ou l lo (i + 1) := by
        unfold ou
        rw [rm_set]
        refine rm_congr (fun j _ => ?_)
        by_cases q : j = i
        · subst q; rw [if_pos rfl, if_pos ⟨by omega, c⟩]
        · rw [if_neg q]
          by_cases q2 : j < i ∧ lb lo j = false
          · rw [if_pos q2, if_pos ⟨by omega, q2.2⟩]
          · rw [if_neg q2, if_neg (fun q3 => q2 ⟨by omega, q3.2⟩)]
      have eg : gl lo g (nK l.length g) (i + 1) = gl lo g (nK l.length g) i := rm_congr (fun j _ => by rw [gn, if_neg (fun q => by rw [c] at q; cases q.1)])
      have et : tw lo g (i + 1) = tw lo g i := by rw [tw, if_neg (by rw [c]; decide)]
      rw [eg, et, ← eo] at ih
      rw [if_neg (by decide), if_pos (by omega), rL_, parity_long.f, Option.bind_some, if_neg (by rw [decide_eq_true_iff]; omega), slices_Clone_byte_byte.f, if_pos (by omega), Option.bind_some, if_pos (by unfold ou; rw [rm_len]; omega), Int.toNat_natCast]
      exact ih
    · have eo : ou l lo (i + 1) = ou l lo i := rm_congr (fun j _ => by
        by_cases q : j = i
        · subst q; rw [if_neg (fun q => by rw [c] at q; cases q.2), if_neg (by omega)]
        · by_cases q2 : j < i ∧ lb lo j = false
          · rw [if_pos q2, if_pos ⟨by omega, q2.2⟩]
          · rw [if_neg q2, if_neg (fun q3 => q2 ⟨by omega, q3.2⟩)])
      have eg : (gl lo g (nK l.length g) i).set (i / g) ((i % g : Nat) : Int) = gl lo g (nK l.length g) (i + 1) := by
        unfold gl
        rw [rm_set]
        refine rm_congr (fun j _ => ?_)
        by_cases q : j = i / g
        · rw [if_pos q, gn, if_pos ⟨c, q.symm⟩]
        · rw [if_neg q, gn, if_neg (fun q3 => q q3.2.symm)]
      have et : tw lo g (i + 1) = (tw lo g i || decide (gn lo g (i / g) i ≥ 0)) := by rw [tw, if_pos c]
      rw [eo, ← eg, et] at ih
      have hgl : (gl lo g (nK l.length g) i).length = nK l.length g := rm_len _ _
      have hrd : rd (gl lo g (nK l.length g) i) ((i / g : Nat) : Int) = gn lo g (i / g) i := rm_rd _ _ _ hd
      rw [if_pos rfl]
      cases ct : tw lo g i
      · rw [ct, Bool.false_or] at ih
        rw [if_neg (by decide), if_neg hgz, if_pos (by omega), if_pos (by rw [hgl]; omega), hrd, Int.toNat_natCast]
        exact ih
      · rw [ct, Bool.true_or] at ih
        rw [if_pos rfl, if_neg hgz, if_pos (by omega), if_pos (by rw [hgl]; omega), Int.toNat_natCast]
        exact ih
theorem tw_no {lo : List Bool} {g n : Nat} (h : tw lo g n = false) (k : Nat) : cn lo g k n ≤ 1 := by
  rcases Nat.lt_or_ge 1 (cn lo g k n) with c | c
  · rw [(tc lo g n).mpr ⟨k, c⟩] at h; cases h
  · exact c
theorem prec_ev {l p : List (List Int)} (lo : List Bool) (a : Int) (hB : ∀ x ∈ l, isB x) (hP : ∀ x ∈ p, isB x) (k : Nat) (hk : 1000 < k) : parity_Recover.f k l lo a p = some (recS l lo a p) := by
  obtain ⟨k, rfl⟩ : ∃ m, k = m + 1 := ⟨k - 1, by omega⟩
  unfold recS
  by_cases c1 : a < 1
  · rw [parity_Recover.f, if_pos c1, parity_Recover.j0, if_pos rfl, if_pos (Or.inl c1)]
  by_cases c2 : a > 16
  · rw [parity_Recover.f, if_neg c1, if_pos c2, parity_Recover.j0, if_pos rfl, if_pos (Or.inr (Or.inl c2))]
  by_cases c3 : lo.length = l.length
  rotate_left
  · have e : ((lo.length : Int) != (l.length : Int)) = true := bne_iff_ne.mpr (fun q => c3 (by omega))
    rw [parity_Recover.f, if_neg c1, if_neg c2, e, parity_Recover.j0, if_pos rfl, if_pos (Or.inr (Or.inr c3))]
  have e0 : ((lo.length : Int) != (l.length : Int)) = false := by rw [c3]; simp
  rw [if_neg (show ¬ (a < 1 ∨ 16 < a ∨ lo.length ≠ l.length) from fun h => h.elim c1 (fun h => h.elim c2 (fun h => h c3)))]
  by_cases c4 : 100 < l.length
  · rw [parity_Recover.f, if_neg c1, if_neg c2, e0, parity_Recover.j0, if_neg (by decide), if_pos (show (l.length : Int) > 100 by omega), if_pos (Or.inl c4)]
  obtain ⟨g, rfl⟩ := Int.eq_ofNat_of_zero_le (show 0 ≤ a by omega)
  have hg : 1 ≤ g := by omega
  have hg2 : g ≤ 16 := by omega
  have hn : l.length ≤ 100 := by omega
  have hle := nK_le (n := l.length) hg
  have hcl := chunks_len l g
  rw [Int.toNat_natCast]
  cases c5 : farL l lo l.length
  · have hx := farL_no l lo l.length c5
    rw [if_neg (show ¬ (100 < l.length ∨ false = true) from fun h => h.elim c4 (fun h => by cases h))]
    obtain ⟨m, hm⟩ : ∃ m, k + 1 = (m + 1) + nK l.length g + l.length + 3 := ⟨k + 1 - nK l.length g - l.length - 4, by omega⟩
    have hm2 : 500 < m := by omega
    rw [hm, rc_main p hg hg2 hn c3 hx (m + 1), parity_Recover.j3, hcl]
    cases c6 : tw lo g l.length
    · by_cases c7 : p.length = nK l.length g
      · have e : ((p.length : Int) != (nK l.length g : Int)) = false := by rw [c7]; simp
        have hgl : (gl lo g (nK l.length g) l.length).length = nK l.length g := rm_len _ _
        have ho : ou l lo l.length = o3 l p lo g 0 := rm_congr (fun j hj => by
          by_cases c : lb lo j = false
          · rw [if_pos c, if_pos ⟨hj, c⟩]
          · rw [if_neg c, if_neg (fun q => c q.2), if_neg (Nat.not_lt_zero _)])
        rw [e, Bool.false_or, if_neg (by decide), if_neg (show ¬ (false = true ∨ p.length ≠ nK l.length g) from fun h => h.elim (fun h => by cases h) (fun h => h c7)), hgl, ho]
        exact pc_l2 hB hP hg hg2 hn c7 (fun k => tw_no c6 k) (nK l.length g) 0 m (by omega) (by omega)
      · have e : ((p.length : Int) != (nK l.length g : Int)) = true := bne_iff_ne.mpr (fun q => c7 (by omega))
        rw [e, Bool.or_true, if_pos rfl, if_pos (Or.inr c7)]
    · rw [Bool.true_or, if_pos rfl, if_pos (Or.inl rfl)]
  · rw [if_pos (Or.inr rfl)]
    obtain ⟨m, hm, hmn, hml, hmx⟩ := farL_yes l lo l.length c5
    have hx := farL_no l lo m hmn
    obtain ⟨q, hq⟩ : ∃ q, k = ((q + 1) + m + 1) + nK l.length g + 1 := ⟨k - m - nK l.length g - 3, by omega⟩
    have h0 := rc_l0 l lo (g : Int) p (parity_groups.chunks l g) (nK l.length g) (by omega) (by omega) (nK l.length g) 0 ((q + 1) + m + 1) (by omega)
    have h1 := rc_lm l lo g p (parity_groups.chunks l g) hg hg2 hn c3 m (by omega) hx m 0 (q + 1) (by omega)
    have e1 : ((List.range (nK l.length g)).map fun j => if j < 0 then (-1 : Int) else 0) = List.replicate (nK l.length g) 0 := by
      rw [rm_congr (f' := fun _ => (0 : Int)) (fun j _ => if_neg (by omega)), List.map_const', List.length_range]
    rw [e1] at h0
    have h2 : parity_Recover.l1 (q + 1 + 1) l lo (g : Int) p (parity_groups.chunks l g) (gl lo g (nK l.length g) m) (tw lo g m) (ou l lo m) (l.length : Int) (m : Int) = some ([], 4) := by
      rw [parity_Recover.l1, if_pos (by omega), if_pos (by omega), if_pos (by omega), rdb, hml, if_neg (by decide), if_pos (by omega), rL_, parity_long.f, Option.bind_some, if_pos (by rw [decide_eq_true_iff]; omega)]
    rw [parity_Recover.f, if_neg c1, if_neg c2, e0, parity_Recover.j0, if_neg (by decide), if_neg (show ¬ (l.length : Int) > 100 by omega), groups_f hg hg2 (by omega), Option.bind_some, hcl, if_pos (by omega), if_pos (by omega), Option.bind_some, Int.toNat_natCast, List.length_replicate, hq]
    exact h0.trans (h1.trans h2)
/-! ### the reference's Recover -/
def gl2 (lo : List Bool) (a : Nat) : Nat → List Int
  | 0 => []
  | t + 1 => if lb lo (a + t) = true then gl2 lo a t ++ [((a + t : Nat) : Int)] else gl2 lo a t
theorem gl2_le (lo : List Bool) (a : Nat) : ∀ t, (gl2 lo a t).length ≤ t
  | 0 => Nat.le_refl _
  | t + 1 => by
    have := gl2_le lo a t
    rw [gl2]
    split
    · rw [List.length_append]; simp only [List.length_singleton]; omega
    · omega
theorem go_l0 (lo : List Bool) (a b : Nat) (hb : b ≤ lo.length) (hb2 : b ≤ 1000) : ∀ (d t k : Nat), a + t + d = b → d < k → bitloftref42_gone.l0 k lo (b : Int) (gl2 lo a t) ((a + t : Nat) : Int) = some (gl2 lo a (b - a))
  | 0, t, k, h, hk => by
    obtain ⟨k, rfl⟩ : ∃ m, k = m + 1 := ⟨k - 1, by omega⟩
    rw [bitloftref42_gone.l0, if_neg (by omega), show b - a = t by omega]
  | d + 1, t, k, h, hk => by
    obtain ⟨k, rfl⟩ : ∃ m, k = m + 1 := ⟨k - 1, by omega⟩
    have hle := gl2_le lo a t
    have e1 : wrap64 (((a + t : Nat) : Int) + 1) = ((a + (t + 1) : Nat) : Int) := by rw [w64_ (by omega)]; omega
    rw [bitloftref42_gone.l0, if_pos (by omega), if_pos (by omega), if_pos (by omega), rdb, e1]
    by_cases c : lb lo (a + t) = true
    · have e : gl2 lo a t ++ [((a + t : Nat) : Int)] = gl2 lo a (t + 1) := by rw [gl2, if_pos c]
      rw [if_pos c, if_pos (by omega), e]
      exact go_l0 lo a b hb hb2 d (t + 1) k (by omega) (by omega)
    · have e : gl2 lo a (t + 1) = gl2 lo a t := by rw [gl2, if_neg c]
      rw [if_neg c, ← e]
      exact go_l0 lo a b hb hb2 d (t + 1) k (by omega) (by omega)
theorem go_ev (lo : List Bool) (a b : Nat) (hab : a ≤ b) (hb : b ≤ lo.length) (hb2 : b ≤ 1000) (k : Nat) (hk : b < k) : bitloftref42_gone.f k lo (a : Int) (b : Int) = some (gl2 lo a (b - a)) := go_l0 lo a b hb hb2 (b - a) 0 k (by omega) (by omega)
/-- What the lists of the lost say of a group. -/
theorem gl2_cn (lo : List Bool) (g i : Nat) (hg : 1 ≤ g) : ∀ t, t ≤ g → (gl2 lo (i * g) t).length = cn lo g i (i * g + t) ∧ ((gl2 lo (i * g) t = [] ∧ gn lo g i (i * g + t) < 0) ∨ ∃ (s : List Int) (a : Nat), gn lo g i (i * g + t) = (a : Int) ∧ a < t ∧ lb lo (i * g + a) = true ∧ gl2 lo (i * g) t = s ++ [((i * g + a : Nat) : Int)])
  | 0, _ => by
    have h1 : ∀ n, (∀ j, j < n → j / g ≠ i) → cn lo g i n = 0 ∧ gn lo g i n = -1 := by
      intro n
      induction n with
      | zero => exact fun _ => ⟨rfl, rfl⟩
      | succ n ih =>
        intro h
        have h2 := ih (fun j hj => h j (by omega))
        rw [cn, gn, if_neg (fun q => h n (by omega) q.2), if_neg (fun q => h n (by omega) q.2)]
        exact h2
    have h2 := h1 (i * g) (fun j hj e => by
      have h3 := (Nat.le_div_iff_mul_le (show 0 < g by omega)).mp (show i ≤ j / g by omega)
      omega)
    rw [Nat.add_zero, h2.1, h2.2]
    exact ⟨rfl, Or.inl ⟨rfl, by omega⟩⟩
  | t + 1, h => by
    obtain ⟨h1, h2⟩ := gl2_cn lo g i hg t (by omega)
    have hd : (i * g + t) / g = i := div_at (by omega)
    have hm : (i * g + t) % g = t := by
      rw [Nat.add_comm, Nat.add_mul_mod_self_right, Nat.mod_eq_of_lt (by omega)]
    rw [← Nat.add_assoc, gl2, cn, gn]
    by_cases c : lb lo (i * g + t) = true
    · rw [if_pos c, if_pos ⟨c, hd⟩, if_pos ⟨c, hd⟩, List.length_append, h1, hm]
      exact ⟨rfl, Or.inr ⟨_, t, rfl, by omega, c, rfl⟩⟩
    · rw [if_neg c, if_neg (fun q => c q.1), if_neg (fun q => c q.1)]
      refine ⟨h1, h2.imp id ?_⟩
      rintro ⟨s, a, h3, h4, h5⟩
      exact ⟨s, a, h3, by omega, h5⟩
theorem beyond (lo : List Bool) (g i : Nat) (hg : 1 ≤ g) (b : Nat) (hb : i * g + g ≤ b) : ∀ d, cn lo g i (b + d) = cn lo g i b ∧ gn lo g i (b + d) = gn lo g i b
  | 0 => ⟨rfl, rfl⟩
  | d + 1 => by
    have hne : ¬ (b + d) / g = i := fun e => by
      have h3 := Nat.div_add_mod (b + d) g
      have h4 := Nat.mod_lt (b + d) (show 0 < g by omega)
      rw [e, Nat.mul_comm] at h3
      omega
    rw [← Nat.add_assoc, cn, gn, if_neg (fun q => hne q.2), if_neg (fun q => hne q.2)]
    exact beyond lo g i hg b hb d
theorem at_end (lo : List Bool) (g i n : Nat) (hg : 1 ≤ g) : cn lo g i (min (i * g + g) n) = cn lo g i n ∧ gn lo g i (min (i * g + g) n) = gn lo g i n := by
  rcases Nat.lt_or_ge n (i * g + g) with c | c
  · rw [show min (i * g + g) n = n by omega]; exact ⟨rfl, rfl⟩
  · have h := beyond lo g i hg (i * g + g) (Nat.le_refl _) (n - (i * g + g))
    rw [show i * g + g + (n - (i * g + g)) = n by omega] at h
    rw [show min (i * g + g) n = i * g + g by omega]
    exact ⟨h.1.symm, h.2.symm⟩
/-- The lost of group i: as many as cn says; with one, it is the one of gn. -/
theorem gone_of (lo : List Bool) (g i n : Nat) (hg : 1 ≤ g) (hi : i * g < n) : (gl2 lo (i * g) (min (i * g + g) n - i * g)).length = cn lo g i n ∧ (cn lo g i n ≤ 1 → (gl2 lo (i * g) (min (i * g + g) n - i * g) = [] ∧ gn lo g i n < 0) ∨ ∃ a : Nat, gn lo g i n = (a : Int) ∧ i * g + a < min (i * g + g) n ∧ lb lo (i * g + a) = true ∧ gl2 lo (i * g) (min (i * g + g) n - i * g) = [((i * g + a : Nat) : Int)]) := by
  obtain ⟨h1, h2⟩ := gl2_cn lo g i hg (min (i * g + g) n - i * g) (by omega)
  obtain ⟨h3, h4⟩ := at_end lo g i n hg
  rw [show i * g + (min (i * g + g) n - i * g) = min (i * g + g) n by omega, h3] at h1
  rw [show i * g + (min (i * g + g) n - i * g) = min (i * g + g) n by omega, h4] at h2
  refine ⟨h1, fun hc => h2.imp id ?_⟩
  rintro ⟨s, a, e1, e2, e3, e4⟩
  refine ⟨a, e1, by omega, e3, ?_⟩
  rw [e4, List.length_append, List.length_singleton] at h1
  have : s = [] := List.length_eq_zero_iff.mp (by omega)
  rw [e4, this]; rfl
/-! ### the reference's Recover, its loops -/
def OL (l p : List (List Int)) (lo : List Bool) (g : Nat) : List (List Int) := (List.range l.length).map (oAt l p lo g)
theorem OL_succ (l p : List (List Int)) (lo : List Bool) (g j : Nat) (h : j < l.length) : (OL l p lo g).take (j + 1) = (OL l p lo g).take j ++ [oAt l p lo g j] := by
  have := map_take_succ (oAt l p lo g) (List.range l.length) j (by rw [List.length_range]; exact h)
  rw [List.getElem_range] at this
  exact this
theorem OL_len (l p : List (List Int)) (lo : List Bool) (g : Nat) : (OL l p lo g).length = l.length := rm_len _ _
theorem rr_step {l p : List (List Int)} {lo : List Bool} {g i I b j k : Nat} (R : List (List Int) × Int) (hjb : j < b) (hIj : I ≤ j) (hbl : b ≤ l.length) (hn : l.length ≤ 100) (hg : ¬ (g : Int) = 0) (hsj : (l.getD j []).length < 140737488355328) (e5 : wrap64 (Int.tdiv (I : Int) (g : Int)) = (i : Int)) (hip : i < p.length) (hch : (l.take b).drop I = ch l g i) (G : List Int) (n : Int) (hgo : (G = [] ∧ n < 0) ∨ ∃ a : Nat, n = (a : Int) ∧ G = [((I + a : Nat) : Int)]) (hlb : (j : Int) ≠ (I : Int) + n → oAt l p lo g j = l.getD j []) (hla : (j : Int) = (I : Int) + n → oAt l p lo g j = (lv l p lo g i).1) : (∀ a : Nat, n = (a : Int) → bitloftref42_Repair.f k (ch l g i) (a : Int) (p.getD i []) = some (lv l p lo g i)) → (bitloftref42_Recover.l3 k l lo (g : Int) p ((OL l p lo g).take (j + 1)) (I : Int) (b : Int) G ((j + 1 : Nat) : Int) = some (if ((j + 1 : Nat) : Int) ≤ (I : Int) + n ∧ (lv l p lo g i).2 ≠ 0 then ([], (lv l p lo g i).2) else R)) → bitloftref42_Recover.l3 (k + 1 + 1) l lo (g : Int) p ((OL l p lo g).take j) (I : Int) (b : Int) G (j : Int) = some (if (j : Int) ≤ (I : Int) + n ∧ (lv l p lo g i).2 ≠ 0 then ([], (lv l p lo g i).2) else R) := by
  have htl : ((OL l p lo g).take j).length < 5864062014805 := by
    have h1 : ((OL l p lo g).take j).length ≤ 100 := by rw [List.length_take, OL_len]; exact Nat.le_trans (Nat.min_le_right _ _) hn
    exact Nat.lt_of_le_of_lt h1 (by decide)
  have e1 : wrap64 ((j : Int) + 1) = ((j + 1 : Nat) : Int) := w64_ (by omega)
  have hA0 : (0 : Int) ≤ (j : Int) := Int.natCast_nonneg _
  have hA1 : (j : Int) < (l.length : Int) := Int.ofNat_lt.mpr (Nat.lt_of_lt_of_le hjb hbl)
  have hA2 : ([] : List Int).length + (l.getD j []).length < 140737488355328 := by rw [List.length_nil, Nat.zero_add]; exact hsj
  have hA3 : (j : Int) < (b : Int) := Int.ofNat_lt.mpr hjb
  have hB1 : (0 : Int) ≤ (I : Int) := Int.natCast_nonneg _
  have hB2 : (I : Int) ≤ (b : Int) := Int.ofNat_le.mpr (Nat.le_trans hIj (Nat.le_of_lt hjb))
  have hB3 : (b : Int) ≤ (l.length : Int) := Int.ofNat_le.mpr hbl
  have hB5 : (i : Int) < (p.length : Int) := Int.ofNat_lt.mpr hip
  have hB6 : (0 : Int) ≤ (i : Int) := Int.natCast_nonneg _
  have hO := OL_succ l p lo g j (Nat.lt_of_lt_of_le hjb hbl)
  have e6 : ∀ a : Nat, j = I + a → wrap64 ((j : Int) - (I : Int)) = (a : Int) := fun a q => by rw [w64_ (by omega)]; omega
  rcases hgo with ⟨h1, h2⟩ | ⟨a, h1, h4⟩
  · have c1 : ¬ ((j : Int) ≤ (I : Int) + n ∧ (lv l p lo g i).2 ≠ 0) := fun q => by have := q.1; clear hlb hla; omega
    have c2 : ¬ (((j + 1 : Nat) : Int) ≤ (I : Int) + n ∧ (lv l p lo g i).2 ≠ 0) := fun q => by have := q.1; clear hlb hla; omega
    have c3 : ¬ ((([] : List Int).length : Nat) : Int) > 0 := by decide
    have hl := hlb (by clear hlb hla; omega)
    subst h1
    intro hrep hnext
    rw [hO, if_neg c2, hl] at hnext
    rw [bitloftref42_Recover.l3, if_pos hA3, Option.bind_some, if_pos hA0, if_pos hA1, rL_, if_pos hA2, Option.bind_some, List.nil_append, if_neg c1, if_neg c3, bitloftref42_Recover.j5, if_neg (by decide), if_pos htl, e1]
    exact hnext
  · subst h1
    subst h4
    have c3 : ((([((I + a : Nat) : Int)] : List Int).length : Nat) : Int) > 0 := by rw [List.length_singleton]; decide
    have c4 : rd [((I + a : Nat) : Int)] 0 = ((I + a : Nat) : Int) := rfl
    by_cases q : j = I + a
    · have eb : ((j : Int) == ((I + a : Nat) : Int)) = true := by rw [q, beq_iff_eq]
      have hl := hla (by clear hlb hla; omega)
      have d1 : (j : Int) ≤ (I : Int) + (a : Int) := by clear hlb hla; omega
      have e7 := e6 a q
      intro hrep hnext
      have hr := hrep a rfl
      clear hrep
      rw [hO, hl] at hnext
      rw [bitloftref42_Recover.l3, if_pos hA3, Option.bind_some, if_pos hA0, if_pos hA1, rL_, if_pos hA2, Option.bind_some, List.nil_append, if_pos c3, if_pos c3, c4, bitloftref42_Recover.j5, eb, if_pos rfl, if_pos hB1, if_pos hB2, if_pos hB3, if_neg hg, e5, if_pos hB6, if_pos hB5, Int.toNat_natCast, Int.toNat_natCast, hch, e7, rL_, hr, Option.bind_some]
      by_cases c : (lv l p lo g i).2 = 0
      · rw [if_pos c, if_pos htl, e1, hnext, if_neg (fun q2 => q2.2 c), if_neg (fun q2 => q2.2 c)]
      · rw [if_neg c, if_pos ⟨d1, c⟩]
    · have eb : ((j : Int) == ((I + a : Nat) : Int)) = false := by rw [beq_eq_false_iff_ne]; clear hlb hla; omega
      have hl := hlb (by clear hlb hla; omega)
      have d1 : ((j : Int) ≤ (I : Int) + (a : Int)) ↔ (((j + 1 : Nat) : Int) ≤ (I : Int) + (a : Int)) := by clear hlb hla; omega
      intro hrep hnext
      rw [hO, hl] at hnext
      rw [bitloftref42_Recover.l3, if_pos hA3, Option.bind_some, if_pos hA0, if_pos hA1, rL_, if_pos hA2, Option.bind_some, List.nil_append, if_pos c3, if_pos c3, c4, bitloftref42_Recover.j5, eb, if_neg (by decide), if_pos htl, e1, hnext]
      by_cases c : (j : Int) ≤ (I : Int) + (a : Int) ∧ (lv l p lo g i).2 ≠ 0
      · rw [if_pos c, if_pos ⟨d1.mp c.1, c.2⟩]
      · rw [if_neg c, if_neg (fun q2 => c ⟨d1.mpr q2.1, q2.2⟩)]
theorem rr_l3 {l p : List (List Int)} {lo : List Bool} {g i I b F : Nat} (R : List (List Int) × Int) (hbl : b ≤ l.length) (hn : l.length ≤ 100) (hg : ¬ (g : Int) = 0) (hs : ∀ j, j < l.length → (l.getD j []).length < 140737488355328) (e5 : wrap64 (Int.tdiv (I : Int) (g : Int)) = (i : Int)) (hip : i < p.length) (hch : (l.take b).drop I = ch l g i) (G : List Int) (n : Int) (hnb : (I : Int) + n < (b : Int)) (hgo : (G = [] ∧ n < 0) ∨ ∃ a : Nat, n = (a : Int) ∧ G = [((I + a : Nat) : Int)]) (hlb : ∀ j : Nat, I ≤ j → j < b → (j : Int) ≠ (I : Int) + n → oAt l p lo g j = l.getD j []) (hla : ∀ j : Nat, I ≤ j → j < b → (j : Int) = (I : Int) + n → oAt l p lo g j = (lv l p lo g i).1) : ∀ (d j k : Nat), j + d = b → I ≤ j → F + 2 * d < k → (∀ k, F < k → ∀ a : Nat, n = (a : Int) → bitloftref42_Repair.f k (ch l g i) (a : Int) (p.getD i []) = some (lv l p lo g i)) → (∀ k, F ≤ k → bitloftref42_Recover.l2 k l lo (g : Int) p ((OL l p lo g).take b) (wrap64 ((I : Int) + (g : Int))) = some R) → bitloftref42_Recover.l3 k l lo (g : Int) p ((OL l p lo g).take j) (I : Int) (b : Int) G (j : Int) = some (if (j : Int) ≤ (I : Int) + n ∧ (lv l p lo g i).2 ≠ 0 then ([], (lv l p lo g i).2) else R)
  | 0, j, k, h, hij, hk => by
    have hno : ¬ ((j : Int) ≤ (I : Int) + n ∧ (lv l p lo g i).2 ≠ 0) := fun q => by have := q.1; clear hlb hla hs; omega
    obtain ⟨k, rfl⟩ : ∃ m, k = m + 1 := ⟨k - 1, by clear hlb hla hs; omega⟩
    have hF : F ≤ k := by clear hlb hla hs; omega
    have c : ¬ (j : Int) < (b : Int) := by clear hlb hla hs; omega
    obtain rfl : j = b := by clear hlb hla hs; omega
    intro _ H
    rw [if_neg hno, bitloftref42_Recover.l3, if_neg c]
    exact H k hF
  | d + 1, j, k, h, hij, hk => by
    obtain ⟨k, rfl⟩ : ∃ m, k = m + 1 + 1 := ⟨k - 2, by clear hlb hla hs; omega⟩
    have hjb : j < b := by clear hlb hla hs; omega
    have hF : F < k := by clear hlb hla hs; omega
    have h1 : j + 1 + d = b := by clear hlb hla hs; omega
    have h2 : I ≤ j + 1 := by clear hlb hla hs; omega
    have h3 : F + 2 * d < k := by clear hlb hla hs; omega
    intro hrep H
    exact rr_step R hjb hij hbl hn hg (hs j (Nat.lt_of_lt_of_le hjb hbl)) e5 hip hch G n hgo (hlb j hij hjb) (hla j hij hjb) (hrep k hF) (rr_l3 R hbl hn hg hs e5 hip hch G n hnb hgo hlb hla d (j + 1) k h1 h2 h3 hrep H)
theorem rr_grp {l p : List (List Int)} {lo : List Bool} {g i F : Nat} (R : List (List Int) × Int) (hB : ∀ x ∈ l, isB x) (hP : ∀ x ∈ p, isB x) (hs : ∀ j, j < l.length → (l.getD j []).length < 140737488355328) (hg : 1 ≤ g) (hg2 : g ≤ 16) (hn : l.length ≤ 100) (hlo : lo.length = l.length) (hp : p.length = nK l.length g) (hc : cn lo g i l.length ≤ 1) (hi : i < nK l.length g) (hF : 13000 ≤ F) (k : Nat) (hk : F + 33 < k) : (∀ k, F ≤ k → bitloftref42_Recover.l2 k l lo (g : Int) p ((OL l p lo g).take (min (i * g + g) l.length)) (wrap64 (((i * g : Nat) : Int) + (g : Int))) = some R) → bitloftref42_Recover.l2 k l lo (g : Int) p ((OL l p lo g).take (i * g)) ((i * g : Nat) : Int) = some (if 0 ≤ gn lo g i l.length ∧ (lv l p lo g i).2 ≠ 0 then ([], (lv l p lo g i).2) else R) := by
  have hig := (lt_nK (n := l.length) hg i).mpr hi
  have hgone := (gone_of lo g i l.length hg hig).2 hc
  have hch := cut_ch l g i hg hig
  have hip : i < p.length := by rw [hp]; exact hi
  have hgz : ¬ (g : Int) = 0 := by clear hs hB hP; omega
  have hdiv : ∀ j, i * g ≤ j → j < min (i * g + g) l.length → j / g = i := fun j h1 h2 => by
    have h3 : j = i * g + (j - i * g) := by clear hs hB hP; omega
    rw [h3]; exact div_at (by clear hs hB hP; omega)
  have hil : i ≤ i * g := Nat.le_mul_of_pos_right i hg
  have e5 : wrap64 (Int.tdiv ((i * g : Nat) : Int) (g : Int)) = (i : Int) := by
    rw [tdivn, Nat.mul_div_cancel _ (show 0 < g by clear hs hB hP; omega), w64_ (by clear hs hB hP; omega)]
  have hbl : min (i * g + g) l.length ≤ l.length := Nat.min_le_right _ _
  have hIb : i * g < min (i * g + g) l.length := by clear hs hB hP; omega
  have hd : min (i * g + g) l.length - i * g ≤ 16 := by clear hs hB hP; omega
  have hcl : (ch l g i).length ≤ 16 := by rw [ch_len]; exact Nat.le_trans (Nat.min_le_left _ _) hg2
  have hlv := lv_ev (lo := lo) (k := i) hB hP hg2
  have hrep : ∀ k, F < k → ∀ a : Nat, gn lo g i l.length = (a : Int) → bitloftref42_Repair.f k (ch l g i) (a : Int) (p.getD i []) = some (lv l p lo g i) := fun k hk a ha => by
    rw [ha] at hlv
    exact (rrep (l := ch l g i) (p := p.getD i []) (a : Int) (fun x h => hB x (ch_mem h)) (gD hP i) (Nat.le_trans hcl (by decide)) k (by clear hlv; omega)).trans hlv
  have hlb : ∀ j : Nat, i * g ≤ j → j < min (i * g + g) l.length → (j : Int) ≠ ((i * g : Nat) : Int) + gn lo g i l.length → oAt l p lo g j = l.getD j [] := fun j h1 h2 h3 => by
    have h4 := hdiv j h1 h2
    have hjl : j < l.length := Nat.lt_of_lt_of_le h2 hbl
    refine if_pos ?_
    rcases hgone with ⟨_, h5⟩ | ⟨a, h5, h6, h7, _⟩
    · exact gn_no lo g i l.length h5 j hjl h4
    · cases c5 : lb lo j
      · rfl
      · have := un_ hc (a := a) (by clear hs hB hP hrep; omega) (Nat.lt_of_lt_of_le h6 hbl) h7 j hjl h4 c5
        exact absurd (by rw [h5, this]; exact Int.natCast_add _ _) h3
  have hla : ∀ j : Nat, i * g ≤ j → j < min (i * g + g) l.length → (j : Int) = ((i * g : Nat) : Int) + gn lo g i l.length → oAt l p lo g j = (lv l p lo g i).1 := fun j h1 h2 h3 => by
    have h4 := hdiv j h1 h2
    rcases hgone with ⟨_, h5⟩ | ⟨a, h5, h6, h7, _⟩
    · clear hs hB hP hrep; omega
    · have e : j = i * g + a := by clear hs hB hP hrep; omega
      unfold oAt
      rw [h4, e, h7, if_neg (by decide)]
  have hgo : (gl2 lo (i * g) (min (i * g + g) l.length - i * g) = [] ∧ gn lo g i l.length < 0) ∨ ∃ a : Nat, gn lo g i l.length = (a : Int) ∧ gl2 lo (i * g) (min (i * g + g) l.length - i * g) = [((i * g + a : Nat) : Int)] := hgone.imp id (fun ⟨a, h1, _, _, h2⟩ => ⟨a, h1, h2⟩)
  have hnb : ((i * g : Nat) : Int) + gn lo g i l.length < ((min (i * g + g) l.length : Nat) : Int) := by
    clear hs hB hP hrep hlb hla hgo
    rcases hgone with ⟨_, h5⟩ | ⟨a, h5, h6, _⟩ <;> omega
  have hge : (((i * g : Nat) : Int) ≤ ((i * g : Nat) : Int) + gn lo g i l.length) = (0 ≤ gn lo g i l.length) := by
    clear hs hB hP hrep hlb hla hgo
    exact propext ⟨fun h => by omega, fun h => by omega⟩
  have e7 : mn (wrap64 (((i * g : Nat) : Int) + (g : Int))) (l.length : Int) = ((min (i * g + g) l.length : Nat) : Int) := by
    rw [w64_ (by clear hs hB hP hrep hlb hla hgo; omega), ← Int.natCast_add, mnn]
  obtain ⟨k, rfl⟩ : ∃ m, k = m + 1 := ⟨k - 1, by clear hs hB hP hrep hlb hla hgo hge hnb hgone hlv hdiv hc e5 e7; omega⟩
  have hgv := go_ev lo (i * g) (min (i * g + g) l.length) (Nat.le_of_lt hIb) (by rw [hlo]; exact hbl) (Nat.le_trans hbl (Nat.le_trans hn (by decide))) k (by clear hs hB hP hrep hlb hla hgo hge hnb hgone hlv hdiv hc e5 e7; omega)
  have hA : ((i * g : Nat) : Int) < (l.length : Int) := Int.ofNat_lt.mpr hig
  have hk2 : F + 2 * (min (i * g + g) l.length - i * g) < k := by clear hs hB hP hrep hlb hla hgo hgv hge hnb hgone hlv hdiv hc e5 e7; omega
  have hk3 : i * g + (min (i * g + g) l.length - i * g) = min (i * g + g) l.length := by clear hs hB hP hrep hlb hla hgo hgv hge hnb hgone hlv hdiv hc e5 e7; omega
  intro H
  have h := rr_l3 R hbl hn hgz hs e5 hip hch _ _ hnb hgo hlb hla (min (i * g + g) l.length - i * g) (i * g) k hk3 (Nat.le_refl _) hk2 hrep H
  rw [bitloftref42_Recover.l2, if_pos hA, e7, hgv, Option.bind_some]
  refine h.trans ?_
  by_cases c : 0 ≤ gn lo g i l.length ∧ (lv l p lo g i).2 ≠ 0
  · rw [if_pos c, if_pos ⟨hge.mpr c.1, c.2⟩]
  · rw [if_neg c, if_neg (fun q => c ⟨hge.mp q.1, q.2⟩)]
theorem rr_l2 {l p : List (List Int)} {lo : List Bool} {g : Nat} (hB : ∀ x ∈ l, isB x) (hP : ∀ x ∈ p, isB x) (hs : ∀ j, j < l.length → (l.getD j []).length < 140737488355328) (hg : 1 ≤ g) (hg2 : g ≤ 16) (hn : l.length ≤ 100) (hlo : lo.length = l.length) (hp : p.length = nK l.length g) (hc : ∀ k, cn lo g k l.length ≤ 1) : ∀ (d i k : Nat), i + d = nK l.length g → 13000 + 40 * (d + 1) < k → bitloftref42_Recover.l2 k l lo (g : Int) p ((OL l p lo g).take (min (i * g) l.length)) ((i * g : Nat) : Int) = some (fin l p lo g d i)
  | 0, i, k, h, hk => by
    obtain ⟨k, rfl⟩ : ∃ m, k = m + 1 := ⟨k - 1, by clear hs hB hP hc; omega⟩
    have hni : ¬ i * g < l.length := fun q => by have := (lt_nK (n := l.length) hg i).mp q; clear hs hB hP hc; omega
    have c : ¬ ((i * g : Nat) : Int) < (l.length : Int) := fun q => hni (Int.ofNat_lt.mp q)
    have e : (OL l p lo g).take (min (i * g) l.length) = OL l p lo g := List.take_of_length_le (by rw [OL_len]; clear hs hB hP hc; omega)
    rw [bitloftref42_Recover.l2, if_neg c, e, fin]
    rfl
  | d + 1, i, k, h, hk => by
    have hi : i < nK l.length g := by clear hs hB hP hc; omega
    have hig := (lt_nK (n := l.length) hg i).mpr hi
    have em : min (i * g) l.length = i * g := Nat.min_eq_left (Nat.le_of_lt hig)
    have en : i * g + g = (i + 1) * g := by rw [Nat.succ_mul]
    have e2 : wrap64 (((i * g : Nat) : Int) + (g : Int)) = (((i + 1) * g : Nat) : Int) := by
      rw [← en, w64_ (by clear hs hB hP hc; omega), Int.natCast_add]
    have h1 : i + 1 + d = nK l.length g := by clear hs hB hP hc; omega
    have hk1 : 13000 + 40 * (d + 1) + 1 + 33 < k := by clear hs hB hP hc; omega
    have h2 : ∀ k, 13000 + 40 * (d + 1) + 1 ≤ k → 13000 + 40 * (d + 1) < k := fun k hk => by clear hs hB hP hc; omega
    have hF : 13000 ≤ 13000 + 40 * (d + 1) + 1 := by clear hs hB hP hc; omega
    have hgrp := rr_grp (lo := lo) (F := 13000 + 40 * (d + 1) + 1) (fin l p lo g d (i + 1)) hB hP hs hg hg2 hn hlo hp (hc i) hi hF k hk1
    rw [e2, en] at hgrp
    have hres := hgrp (fun k hk => rr_l2 hB hP hs hg hg2 hn hlo hp hc d (i + 1) k h1 (h2 k hk))
    rw [em, hres, fin]
    by_cases c : gn lo g i l.length < 0
    · rw [if_pos c, if_neg (fun q => by have := q.1; exact absurd c (Int.not_lt.mpr this))]
    · rw [if_neg c]
      by_cases c2 : (lv l p lo g i).2 = 0
      · rw [if_pos c2, if_neg (fun q => q.2 c2)]
      · rw [if_neg c2, if_pos ⟨Int.not_lt.mp c, c2⟩]
/-! ### the reference's Recover, its tests -/
theorem cn_far (lo : List Bool) (g k : Nat) : ∀ i, (∀ j, j < i → j / g ≠ k) → cn lo g k i = 0
  | 0, _ => rfl
  | i + 1, h => by rw [cn, if_neg (fun q => h i (Nat.lt_succ_self i) q.2)]; exact cn_far lo g k i (fun j hj => h j (Nat.lt_succ_of_lt hj))
theorem rr_l1 {l p : List (List Int)} {lo : List Bool} {g : Nat} (hB : ∀ x ∈ l, isB x) (hP : ∀ x ∈ p, isB x) (hs : ∀ j, j < l.length → (l.getD j []).length < 140737488355328) (hg : 1 ≤ g) (hg2 : g ≤ 16) (hn : l.length ≤ 100) (hlo : lo.length = l.length) (hp : p.length = nK l.length g) : ∀ (d i k : Nat), i + d = nK l.length g → 13000 + 40 * (nK l.length g + 1) + d + 2 < k → (∀ m, m < i → cn lo g m l.length ≤ 1) → bitloftref42_Recover.l1 k l lo (g : Int) p ((i * g : Nat) : Int) = some (if tw lo g l.length = true then ([], 40) else fin l p lo g (nK l.length g) 0)
  | 0, i, k, h, hk, hc => by
    obtain ⟨k, rfl⟩ : ∃ m, k = m + 1 := ⟨k - 1, by clear hs hB hP hc; omega⟩
    have hk2 : 13000 + 40 * (nK l.length g + 1) < k := by clear hs hB hP hc; omega
    have hni : ¬ i * g < l.length := fun q => by have := (lt_nK (n := l.length) hg i).mp q; clear hs hB hP hc; omega
    have c : ¬ ((i * g : Nat) : Int) < (l.length : Int) := fun q => hni (Int.ofNat_lt.mp q)
    have hall : ∀ m, cn lo g m l.length ≤ 1 := fun m => by
      by_cases q : m < i
      · exact hc m q
      · rw [cn_far lo g m l.length (fun j hj e => by have := div_nK (n := l.length) hg hj; clear hs hB hP hc; omega)]; exact Nat.zero_le 1
    have htw : tw lo g l.length = false := by
      cases ct : tw lo g l.length
      · rfl
      · obtain ⟨q, hq⟩ := (tc lo g l.length).mp ct
        exact absurd hq (Nat.not_lt.mpr (hall q))
    have h2 := rr_l2 hB hP hs hg hg2 hn hlo hp hall (nK l.length g) 0 k (Nat.zero_add _) hk2
    rw [Nat.zero_mul, Nat.zero_min] at h2
    rw [bitloftref42_Recover.l1, if_neg c, htw, if_neg (by decide)]
    exact h2
  | d + 1, i, k, h, hk, hc => by
    obtain ⟨k, rfl⟩ : ∃ m, k = m + 1 := ⟨k - 1, by clear hs hB hP hc; omega⟩
    have hk2 : 13000 + 40 * (nK l.length g + 1) + d + 2 < k := by clear hs hB hP hc; omega
    have hi : i < nK l.length g := by clear hs hB hP hc; omega
    have h1 : i + 1 + d = nK l.length g := by clear hs hB hP hc; omega
    have hig := (lt_nK (n := l.length) hg i).mpr hi
    have hA : ((i * g : Nat) : Int) < (l.length : Int) := Int.ofNat_lt.mpr hig
    have e2 : wrap64 (((i * g : Nat) : Int) + (g : Int)) = ((i * g + g : Nat) : Int) := by
      rw [w64_ (by clear hs hB hP hc; omega), Int.natCast_add]
    have hbl : min (i * g + g) l.length ≤ l.length := Nat.min_le_right _ _
    have hgv := go_ev lo (i * g) (min (i * g + g) l.length) (by clear hs hB hP hc; omega) (by rw [hlo]; exact hbl) (Nat.le_trans hbl (Nat.le_trans hn (by decide))) k (by clear hs hB hP hc; omega)
    have hgl := (gone_of lo g i l.length hg hig).1
    rw [bitloftref42_Recover.l1, if_pos hA, e2, mnn, hgv, Option.bind_some, hgl]
    by_cases q : 1 < cn lo g i l.length
    · rw [if_pos (show ((cn lo g i l.length : Nat) : Int) > 1 from Int.ofNat_lt.mpr q), (tc lo g l.length).mpr ⟨i, q⟩, if_pos rfl]
    · rw [if_neg (show ¬ ((cn lo g i l.length : Nat) : Int) > 1 from fun z => q (Int.ofNat_lt.mp z)), ← Nat.succ_mul]
      refine rr_l1 hB hP hs hg hg2 hn hlo hp d (i + 1) k h1 hk2 (fun m hm => ?_)
      rcases Nat.lt_or_ge m i with z | z
      · exact hc m z
      · obtain rfl : m = i := Nat.le_antisymm (Nat.le_of_lt_succ hm) z
        exact Nat.not_lt.mp q
theorem gr_f (n g : Nat) (hg : 1 ≤ g) (hg2 : g ≤ 16) (hn : n ≤ 100) : bitloftref42_Groups.f (n : Int) (g : Int) = some ((nK n g : Nat) : Int) := by
  have hgz : ¬ (g : Int) = 0 := by omega
  have e1 : (n : Int) + (g : Int) = ((n + g : Nat) : Int) := (Int.natCast_add n g).symm
  have e2 : ((n + g : Nat) : Int) - 1 = ((n + g - 1 : Nat) : Int) := by omega
  have e3 : ∀ q : Nat, q ≤ n + g - 1 → wrap64 (q : Int) = (q : Int) := fun q hq => w64_ (by omega)
  rw [bitloftref42_Groups.f, if_neg hgz, e1, w64_ (x := ((n + g : Nat) : Int)) (by omega), e2, w64_ (x := ((n + g - 1 : Nat) : Int)) (by omega), tdivn, e3 _ (Nat.div_le_self _ _)]
  rfl
theorem rr_l0 {l p : List (List Int)} {lo : List Bool} {g : Nat} (hB : ∀ x ∈ l, isB x) (hP : ∀ x ∈ p, isB x) (hs : ∀ j, j < l.length → (l.getD j []).length < 140737488355328) (hg : 1 ≤ g) (hg2 : g ≤ 16) (hn : l.length ≤ 100) (hlo : lo.length = l.length) : ∀ (d i k : Nat), i + d = l.length → 18000 + d < k → farL l lo i = false → bitloftref42_Recover.l0 k l lo (g : Int) p (i : Int) = some (if farL l lo l.length = true then ([], 4) else if tw lo g l.length = true ∨ p.length ≠ nK l.length g then ([], 40) else fin l p lo g (nK l.length g) 0)
  | 0, i, k, h, hk, hf => by
    obtain ⟨k, rfl⟩ : ∃ m, k = m + 1 := ⟨k - 1, by clear hs hB hP; omega⟩
    obtain rfl : i = l.length := by clear hs hB hP; omega
    have c : ¬ ((l.length : Nat) : Int) < (l.length : Int) := Int.lt_irrefl _
    have hle := nK_le (n := l.length) hg
    rw [bitloftref42_Recover.l0, if_neg c, gr_f l.length g hg hg2 hn, Option.bind_some, hf, if_neg (show ¬ false = true by decide)]
    by_cases hp : p.length = nK l.length g
    · have h1 := rr_l1 (lo := lo) hB hP hs hg hg2 hn hlo hp (nK l.length g) 0 k (Nat.zero_add _) (by clear hs hB hP; omega) (fun m hm => absurd hm (Nat.not_lt_zero m))
      rw [Nat.zero_mul] at h1
      rw [if_pos (show (p.length : Int) = ((nK l.length g : Nat) : Int) from congrArg Int.ofNat hp), show (0 : Int) = ((0 : Nat) : Int) from rfl, h1]
      by_cases ct : tw lo g l.length = true
      · rw [if_pos ct, if_pos (Or.inl ct)]
      · rw [if_neg ct, if_neg (fun q => q.elim ct (fun q => q hp))]
    · rw [if_neg (show ¬ (p.length : Int) = ((nK l.length g : Nat) : Int) from fun q => hp (Int.ofNat.inj q)), if_pos (Or.inr hp)]
  | d + 1, i, k, h, hk, hf => by
    obtain ⟨k, rfl⟩ : ∃ m, k = m + 1 := ⟨k - 1, by clear hs hB hP; omega⟩
    have hi : i < l.length := by clear hs hB hP; omega
    have hA : (i : Int) < (l.length : Int) := Int.ofNat_lt.mpr hi
    have hA1 : (i : Int) < (lo.length : Int) := by rw [hlo]; exact hA
    have hA0 : (0 : Int) ≤ (i : Int) := Int.natCast_nonneg _
    have e1 : wrap64 ((i : Int) + 1) = ((i + 1 : Nat) : Int) := w64_ (by clear hs hB hP; omega)
    have h1 : i + 1 + d = l.length := by clear hs hB hP; omega
    have hk2 : 18000 + d < k := by clear hs hB hP; omega
    have hi1 : i + 1 ≤ l.length := hi
    have ih : farL l lo (i + 1) = false → _ := rr_l0 (p := p) hB hP hs hg hg2 hn hlo d (i + 1) k h1 hk2
    rw [bitloftref42_Recover.l0, if_pos hA, if_pos hA0, if_pos hA1, rdb, e1, rL_]
    cases c : lb lo i
    · rw [if_neg (show ¬ false = true by decide)]
      by_cases q : 5000 < (l.getD i []).length
      · have hmono : ∀ n, i + 1 ≤ n → farL l lo n = true := fun n hin => by
          induction n with
          | zero => exact absurd hin (Nat.not_succ_le_zero i)
          | succ n ihn =>
            rw [farL, Bool.or_eq_true]
            rcases Nat.lt_or_ge i n with z | z
            · exact Or.inl (ihn z)
            · obtain rfl : n = i := Nat.le_antisymm z (Nat.le_of_succ_le_succ hin)
              rw [c, decide_eq_true q]
              exact Or.inr rfl
        rw [if_pos (show (((l.getD i []).length : Nat) : Int) > 5000 from Int.ofNat_lt.mpr q), hmono _ hi1, if_pos rfl]
      · rw [if_neg (show ¬ (((l.getD i []).length : Nat) : Int) > 5000 from fun z => q (Int.ofNat_lt.mp z))]
        exact ih (by rw [farL, hf, c, decide_eq_false q]; rfl)
    · rw [if_pos rfl]
      exact ih (by rw [farL, hf, c]; rfl)
theorem rrec_ev {l p : List (List Int)} (lo : List Bool) (a : Int) (hB : ∀ x ∈ l, isB x) (hP : ∀ x ∈ p, isB x) (hs : ∀ j, j < l.length → (l.getD j []).length < 140737488355328) (k : Nat) (hk : 19000 < k) : bitloftref42_Recover.f k l lo a p = some (recS l lo a p) := by
  obtain ⟨k, rfl⟩ : ∃ m, k = m + 1 := ⟨k - 1, by clear hs hB hP; omega⟩
  unfold recS
  by_cases c1 : a < 1
  · rw [bitloftref42_Recover.f, if_pos c1, bitloftref42_Recover.j0, if_pos rfl, if_pos (Or.inl c1)]
  by_cases c2 : a > 16
  · rw [bitloftref42_Recover.f, if_neg c1, if_pos c2, bitloftref42_Recover.j0, if_pos rfl, if_pos (Or.inr (Or.inl c2))]
  by_cases c3 : lo.length = l.length
  rotate_left
  · have e : ((lo.length : Int) != (l.length : Int)) = true := bne_iff_ne.mpr (fun q => c3 (Int.ofNat.inj q))
    rw [bitloftref42_Recover.f, if_neg c1, if_neg c2, e, bitloftref42_Recover.j0, if_pos rfl, if_pos (Or.inr (Or.inr c3))]
  have e0 : ((lo.length : Int) != (l.length : Int)) = false := by rw [c3]; simp
  rw [if_neg (show ¬ (a < 1 ∨ 16 < a ∨ lo.length ≠ l.length) from fun h => h.elim c1 (fun h => h.elim c2 (fun h => h c3)))]
  by_cases c4 : 100 < l.length
  · rw [bitloftref42_Recover.f, if_neg c1, if_neg c2, e0, bitloftref42_Recover.j0, if_neg (by decide), if_pos (show (l.length : Int) > 100 from Int.ofNat_lt.mpr c4), if_pos (Or.inl c4)]
  obtain ⟨g, rfl⟩ := Int.eq_ofNat_of_zero_le (show 0 ≤ a by clear hs hB hP; omega)
  have hg : 1 ≤ g := by clear hs hB hP; omega
  have hg2 : g ≤ 16 := by clear hs hB hP; omega
  have hn : l.length ≤ 100 := Nat.not_lt.mp c4
  have h0 := rr_l0 (p := p) hB hP hs hg hg2 hn c3 l.length 0 k (Nat.zero_add _) (by clear hs hB hP; omega) rfl
  rw [bitloftref42_Recover.f, if_neg c1, if_neg c2, e0, bitloftref42_Recover.j0, if_neg (by decide), if_neg (show ¬ (l.length : Int) > 100 from fun q => c4 (Int.ofNat_lt.mp q)), show (0 : Int) = ((0 : Nat) : Int) from rfl, h0, Int.toNat_natCast]
  by_cases c5 : farL l lo l.length = true
  · rw [if_pos c5, if_pos (Or.inr c5)]
  · rw [if_neg c5, if_neg (show ¬ (100 < l.length ∨ farL l lo l.length = true) from fun q => q.elim c4 c5)]
theorem wfB {l : List Int} (h : ∀ x ∈ l, (Lit.int .u8 x).wf = true) : isB l := fun x hx => by
  have := h x hx
  simp [Lit.wf, IntKind.min, IntKind.max, IntKind.bits, IntKind.signed] at this
  omega
theorem fin_len (l p : List (List Int)) (lo : List Bool) (g : Nat) : ∀ d i, (fin l p lo g d i).1.length ≤ l.length
  | 0, i => by rw [fin, List.length_map, List.length_range]; exact Nat.le_refl _
  | d + 1, i => by
    rw [fin]
    split
    · exact fin_len l p lo g d (i + 1)
    · split
      · exact fin_len l p lo g d (i + 1)
      · exact Nat.zero_le _
theorem recS_len (l : List (List Int)) (lo : List Bool) (a : Int) (p : List (List Int)) : (recS l lo a p).1.length ≤ 100 := by
  unfold recS
  split
  · exact Nat.zero_le _
  · split
    · exact Nat.zero_le _
    · next h =>
      split
      · exact Nat.zero_le _
      · exact Nat.le_trans (fin_len l p lo _ _ _) (Nat.not_lt.mp fun q => h (Or.inl q))
theorem ParityMends : ∀ (l0 : List (List Int)) (l1 : List Bool) (a2 : Int) (l3 : List (List Int)), l0.length ≤ maxLen → (∀ x_ ∈ l0, (fun l_ : List Int => l_.length ≤ maxLen ∧ ∀ x_ ∈ l_, (fun n_ : Int => (Lit.int .u8 n_).wf = true) x_) x_) → (∀ x_ ∈ l0, x_.length < 140737488355328) → l3.length ≤ maxLen → (∀ x_ ∈ l3, (fun l_ : List Int => l_.length ≤ maxLen ∧ ∀ x_ ∈ l_, (fun n_ : Int => (Lit.int .u8 n_).wf = true) x_) x_) → ∃ k, bitloftlaw42_ParityMends.f k l0 l1 a2 l3 = some true := by
  intro l lo a p hl hx hs hl3 hx3
  have hB : ∀ x ∈ l, isB x := fun x h => wfB (hx x h).2
  have hP : ∀ x ∈ p, isB x := fun x h => wfB (hx3 x h).2
  have hs2 : ∀ j, j < l.length → (l.getD j []).length < 140737488355328 := fun j hj => by
    rw [getD_in hj]; exact hs _ (List.getElem_mem hj)
  have hl2 : l.length ≤ 9223372036854775807 := by unfold maxLen at hl; exact hl
  have hp2 : p.length ≤ 9223372036854775807 := by unfold maxLen at hl3; exact hl3
  obtain ⟨b, K, hK⟩ := gr_ev l hl2
  obtain ⟨b3, K3, hK3⟩ := gr_ev p hp2
  clear hx hx3 hs hl hl3
  obtain ⟨N, hN⟩ : ∃ N, N = K + K3 + l.length + 20000 := ⟨_, rfl⟩
  have e : bitloftref42_Great.f (N + 1 + 1) l = some b := hK _ (by clear hK hK3 hB hP hs2; omega)
  have e3 : bitloftref42_Great.f (N + 1 + 1) p = some b3 := hK3 _ (by clear hK hK3 hB hP hs2; omega)
  have out : bitloftlaw42_ParityMends.j0 (N + 1 + 1) l lo a p true = some true := by
    rw [bitloftlaw42_ParityMends.j0, if_pos rfl]
  have hlen := recS_len l lo a p
  have k1 : l.length + 5300 < N + 1 := by clear hK hK3 hB hP hs2; omega
  have k2 : 1000 < N + 1 := by clear hK hK3 hB hP hs2; omega
  have k3 : 19000 < N + 1 := by clear hK hK3 hB hP hs2; omega
  have k4 : (recS l lo a p).1.length < N + 1 := by clear hK hK3 hB hP hs2; omega
  have r1 := right_ev a p hl2 (N + 1) k1
  have r2 := rright_ev a p hB hl2 (N + 1) k1
  have r3 := prec_ev lo a hB hP (N + 1) k2
  have r4 := rrec_ev lo a hB hP hs2 (N + 1) k3
  have r5 := same_ev (recS l lo a p).1 (recS l lo a p).1 (Nat.le_trans hlen (by decide)) (N + 1) k4
  have go : bitloftlaw42_ParityMends.j0 (N + 1 + 1) l lo a p false = some true := by
    rw [bitloftlaw42_ParityMends.j0, if_neg (by decide), r1, Option.bind_some, r2, Option.bind_some, r3, Option.bind_some, r4, Option.bind_some, if_pos (beq_self_eq_true _), if_pos rfl, r5, Option.bind_some, sm_self, if_pos rfl, bitloftlaw42_ParityMends.j1, beq_self_eq_true]
  refine ⟨N + 1 + 1, ?_⟩
  rw [bitloftlaw42_ParityMends.f, e, Option.bind_some]
  cases b
  · rw [if_neg (by decide), e3, Option.bind_some]
    cases b3
    · rw [if_neg (by decide)]
      cases decide ((lo.length : Int) > 150)
      · exact go
      · exact out
    · rw [if_pos rfl]; exact out
  · rw [if_pos rfl]; exact out
end Go.Proofs.YtejamobohmljfaaDoor.Pure
