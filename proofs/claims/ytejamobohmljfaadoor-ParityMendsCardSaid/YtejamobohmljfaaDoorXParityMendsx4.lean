-- Laid by a program of this session (wip/mkxprint.py, over the kit's print): Lean checks it.
import Derived.Test.YtejamobohmljfaaDoorXParityMendsx0
import Derived.Test.YtejamobohmljfaaDoorXParityMendsx1
import Derived.Test.YtejamobohmljfaaDoorXParityMendsx3
namespace Go.Proofs.YtejamobohmljfaaDoor.XParityMends
open List (setIfInBounds_toArray set_cons_zero set_cons_succ)
open Go.RowKit Go.Proofs.YtejamobohmljfaaDoorW.PrintWords Go.Proofs.YtejamobohmljfaaDoorW.PrintLast Go.Proofs.YtejamobohmljfaaDoorW.PrintMore
attribute [local go_sem] max2_int min2_int max_two min_two max_three min_three max_four min_four   -- for this text's walks alone
set_option linter.unusedVariables false
set_option linter.unusedSimpArgs false

/-! ### parity_Repair: function 11 -/
/-- Some string but the lost one, of the first k, is longer than m. -/
def parity_Repair.far (l : List (List Int)) (lost : Int) (m : Nat) : Nat → Prop
  | 0 => False
  | k + 1 => parity_Repair.far l lost m k ∨ ((k : Int) ≠ lost ∧ m < (l.getD k []).length)
theorem parity_Repair.far_of (l : List (List Int)) (lost : Int) (m : Nat) : ∀ n k : Nat, k < n → (k : Int) ≠ lost → m < (l.getD k []).length → parity_Repair.far l lost m n
  | 0, _, h, _, _ => absurd h (Nat.not_lt_zero _)
  | n + 1, k, h, h1, h2 => by
    rcases Nat.lt_succ_iff_lt_or_eq.mp h with h | h
    · exact Or.inl (parity_Repair.far_of l lost m n k h h1 h2)
    · subst h; exact Or.inr ⟨h1, h2⟩
/-- The row after the first k strings but the lost one have been added. -/
def parity_Repair.rows (l : List (List Int)) (lost : Int) (p : List Int) : Nat → List Int
  | 0 => p
  | k + 1 => if (k : Int) = lost then parity_Repair.rows l lost p k else parity_add.row (parity_Repair.rows l lost p k) (l.getD k []) (l.getD k []).length
theorem parity_Repair.rows_len (l : List (List Int)) (lost : Int) (p : List Int) (k : Nat) : (parity_Repair.rows l lost p k).length = p.length := by
  induction k with
  | zero => rfl
  | succ k ih =>
    rw [parity_Repair.rows]
    split
    · exact ih
    · rw [parity_add.row_len, ih]
def parity_Repair.farB (l : List (List Int)) (lost : Int) (m : Nat) : Nat → Bool
  | 0 => false
  | k + 1 => parity_Repair.farB l lost m k || (decide ((k : Int) ≠ lost) && decide (m < (l.getD k []).length))
theorem parity_Repair.farB_iff (l : List (List Int)) (lost : Int) (m : Nat) : ∀ k : Nat, parity_Repair.farB l lost m k = true ↔ parity_Repair.far l lost m k
  | 0 => ⟨fun h => absurd h (by simp [parity_Repair.farB]), fun h => absurd h (by simp [parity_Repair.far])⟩
  | k + 1 => by rw [parity_Repair.farB, parity_Repair.far, Bool.or_eq_true, Bool.and_eq_true, decide_eq_true_iff, decide_eq_true_iff, parity_Repair.farB_iff l lost m k]
/-- The length that a row's head tells. -/
def parity_Repair.m (r : List Int) : Int := rd r 0 * 256 + rd r 1
/-- What a row tells: its string, or that it is none. -/
def parity_Repair.tell (r : List Int) : Option (List Int × Int) :=
  if rd r 0 < 0 ∨ 255 < rd r 0 ∨ rd r 1 < 0 ∨ 255 < rd r 1 then none
  else if (r.length : Int) - 2 < parity_Repair.m r ∨ (r.drop (2 + (parity_Repair.m r).toNat)).any (fun x => x != 0) = true then some ([], 12)
  else some ((r.take (2 + (parity_Repair.m r).toNat)).drop 2, 0)
def parity_Repair.f (l0 : List (List Int)) (a1 : Int) (l2 : List Int) : Option (List Int × Int) :=
  if 1000000 < l0.length then none
  else if parity_Repair.farB l0 a1 5000 l0.length = true ∨ 16 < l0.length then some ([], 4)
  else if a1 < 0 ∨ (l0.length : Int) ≤ a1 then some ([], 2)
  else if l2.length < 2 ∨ 5002 < l2.length ∨ parity_Repair.farB l0 a1 (l2.length - 2) l0.length = true then some ([], 12)
  else parity_Repair.tell (parity_Repair.rows l0 a1 l2 l0.length)
theorem parity_Repair.or_ (b0 b1 : Int) (h0 : 0 ≤ b0) (h1 : b0 ≤ 255) (h2 : 0 ≤ b1) (h3 : b1 ≤ 255) : bits .or .i64 (b0 * 256) b1 = b0 * 256 + b1 :=
  bits_join .i64 17 (by decide) (fun n p q => by rw [i64_w, wrap64]; omega) 8 _ _ (by omega) (by omega) (by omega) h2 (by omega) (by omega)
theorem parity_Repair.cut_mid {P : Program} (t e : TypeId) (kl kh : IntKind) {i : TypeInfo} (ht : P.underlying t = some (.slice e)) (hi : P.info? e = some i) (hsz : i.size = 1) (A : Option Addr) (n c : Nat) (a b : Int) (h0 : 0 ≤ a) (h1 : a ≤ b) (hm : b ≤ n) (hc : n ≤ c) :
    ∀ W : World, (Instr.slice t (.slice A n c) (some (.int kl a)) (some (.int kh b)) none).run P W = .ok (.slice (if c = a.toNat then A else A.map (·.add (a.toNat * 1))) (b.toNat - a.toNat) (c - a.toNat)) W := by
  intro W
  have hel : P.elem t = e := by simp [Program.elem, ht]
  have hu : P.underlying t = some (.slice (P.elem t)) := by rw [hel]; exact ht
  rw [run_slice_lh W t A n c hu kl kh a b h0 h1 (by omega), hel]
  simp [sizeOf, typeInfo, hi, hsz, sliced, Result.andThen]
theorem parity_Repair.add0 (g j : Nat) : (⟨g, 0, none⟩ : Addr).add j = ⟨g, j, none⟩ := by unfold Addr.add; split <;> simp_all
theorem parity_Repair.rd_drop (l : List Int) (a k : Nat) : rd (l.drop a) (k : Int) = rd l ((a + k : Nat) : Int) := by
  unfold rd
  rw [Int.toNat_natCast, Int.toNat_natCast, List.getD_eq_getElem?_getD, List.getD_eq_getElem?_getD, List.getElem?_drop]
theorem parity_Repair.any_ (l : List Int) : l.any (fun x => x != 0) = true ↔ ∃ j : Nat, j < l.length ∧ rd l (j : Int) ≠ 0 := by
  rw [List.any_eq_true]
  refine ⟨fun ⟨x, hx, h⟩ => ?_, fun ⟨j, hj, h⟩ => ?_⟩
  · obtain ⟨j, hj, e⟩ := List.getElem_of_mem hx
    refine ⟨j, hj, fun h2 => ?_⟩
    unfold rd at h2
    rw [Int.toNat_natCast, List.getD_eq_getElem?_getD, List.getElem?_eq_getElem hj] at h2
    simp at h2
    rw [e] at h2
    simp [h2] at h
  · refine ⟨l[j], List.getElem_mem hj, ?_⟩
    unfold rd at h
    rw [Int.toNat_natCast, List.getD_eq_getElem?_getD, List.getElem?_eq_getElem hj] at h
    simpa using h
set_option maxHeartbeats 2000000 in
theorem parity_Repair.calls (A0 : Option Addr) (c0 : Nat) (l0 : List (List Int)) (a1 : Int) (A2 : Option Addr) (c2 : Nat) (l2 : List Int) (r1 : List Int) (r2 : Int) (w : World) (hr0 : Kd.C (Kd.slice 5 (Kd.int .u8)) w A0 l0.length l0) (hc0 : l0.length ≤ c0) (hr2 : Kd.C (Kd.int .u8) w A2 l2.length l2) (hc2 : l2.length ≤ c2) (h : parity_Repair.f l0 a1 l2 = some (r1, r2)) :
    Calls Tryd.prog 11 #[.slice A0 l0.length c0, .int .i64 a1, .slice A2 l2.length c2] w fun e w' => ∃ v0_ : Value, e = .returned (.tuple #[v0_, .int .i64 r2]) ∧ Kd.Q (Kd.int .u8) 5 w' w.heap.size (fun _ => True) v0_ r1 ∧ Below w.heap.size w w' := by
  by_cases hbig' : 1000000 < l0.length
  · exfalso; rw [parity_Repair.f, if_pos hbig'] at h; cases h
  have hbig : l0.length ≤ 1000000 := by omega
  have HFF : Aside0 (parity_Repair.f l0 a1 l2 = some (r1, r2)) := Aside0.mk h
  have HP : Aside0 (∀ x y, parity_Repair.f l0 a1 l2 = some (x, y) → x = r1 ∧ y = r2) := ⟨fun x y hx => by have := hx.symm.trans h; cases this; exact ⟨rfl, rfl⟩⟩
  have HNIL : ∀ W : World, Aside0 (Below w.heap.size w W) → Aside0 (Kd.Q (Kd.int .u8) 5 W w.heap.size (fun _ => True) (.slice none 0 0) []) := fun W _ => ⟨Kd.Q_nil _ _ _ _ _⟩
  have HFE : Aside0 (∀ k, parity_Repair.farB l0 a1 5000 k = true ↔ parity_Repair.far l0 a1 5000 k) := ⟨parity_Repair.farB_iff l0 a1 5000⟩
  clear h
  have hit := Aside0.mk (parity_sum.item A0 l0 w hr0)
  have HR2 := Aside0.mk hr2
  clear hr0 hr2
  go_enter Tryd.func11, Tryd.ntmps11
  go_wp2
  go_loopg [8, 9, 16] l0.length (fun gg _ _ s16 wr => ∃ kk q : Nat, kk ≤ l0.length ∧ l0.length - kk ≤ gg ∧ s16 = .int .i64 kk ∧ wr = w.drewN q ∧ Aside0 (¬ parity_Repair.far l0 a1 5000 kk))
  case atStart => exact ⟨0, 0, Nat.zero_le _, by omega, rfl, rfl, Aside0.mk (fun h => h)⟩
  case round =>
    obtain ⟨kk, q, hkk, hg, rfl, rfl, AF⟩ := hrel
    by_cases hlt : kk < l0.length
    · have hltz : (kk : Int) < (l0.length : Int) := by omega
      obtain ⟨ad, A1, c1, e, hcell, _, _⟩ := hit.out kk hlt
      subst e
      have B : Aside0 (∀ y, y = l0.getD kk [] → ((kk : Int) ≠ a1 ∧ 5000 < y.length → parity_Repair.far l0 a1 5000 (kk + 1)) ∧ (¬ ((kk : Int) ≠ a1 ∧ 5000 < y.length) → ¬ parity_Repair.far l0 a1 5000 (kk + 1))) := ⟨fun y hy => by subst hy; exact ⟨Or.inr, fun h1 h2 => h2.elim AF.out h1⟩⟩
      obtain ⟨y, hy⟩ : ∃ y, y = l0.getD kk [] := ⟨_, rfl⟩
      have B2 := Aside0.mk (B.out y hy)
      have HF : Aside0 (∀ j : Nat, kk + 1 ≤ j → j ≤ l0.length → parity_Repair.far l0 a1 5000 (kk + 1) → parity_Repair.far l0 a1 5000 j) := ⟨fun j h1 h2 h => by
        induction j with
        | zero => omega
        | succ j ih =>
          rcases Nat.eq_or_lt_of_le h1 with e | e
          · have : j = kk := by omega
            subst this; exact h
          · exact Or.inl (ih (by omega) (by omega))⟩
      rw [← hy] at hcell
      clear hit hy B
      by_cases c1_ : (kk : Int) = a1
      · subst c1_
        go_wp2
        go_roundg (l0.length - (kk + 1))
        case measure => omega
        case rel => exact ⟨kk + 1, q, by omega, by omega, by go_num, rfl, Aside0.mk (B2.out.2 (fun h => h.1 rfl))⟩
      · have e2 : ((kk : Int) == a1) = false := beq_eq_false_iff_ne.mpr c1_
        by_cases c3 : 5000 < y.length
        · have c3z : (5000 : Int) < (y.length : Int) := by omega
          go_wp2
          go_ret2
          obtain ⟨rfl, rfl⟩ := HP.out [] 4 (by rw [parity_Repair.f, if_neg (by omega), if_pos (Or.inl ((HFE.out _).mpr (HF.out _ (by omega) (Nat.le_refl _) (B2.out.1 ⟨c1_, c3⟩))))])
          exact ⟨_, rfl, Kd.Q_nil _ _ _ _ _, pw_below_drewN (Below.refl _ _) q⟩
        · have c3z : ¬ (5000 : Int) < (y.length : Int) := by omega
          go_wp2
          go_roundg (l0.length - (kk + 1))
          case measure => omega
          case rel => exact ⟨kk + 1, q, by omega, by omega, by go_num, rfl, Aside0.mk (B2.out.2 (fun h => c3 h.2))⟩
    · have hltz : ¬ (kk : Int) < (l0.length : Int) := by omega
      have : kk = l0.length := by omega
      subst this
      by_cases h16 : 16 < l0.length
      · have h16z : (16 : Int) < (l0.length : Int) := by omega
        go_wp2
        go_ret2
        obtain ⟨rfl, rfl⟩ := HP.out [] 4 (by rw [parity_Repair.f, if_neg (by omega), if_pos (Or.inr h16)])
        exact ⟨_, rfl, Kd.Q_nil _ _ _ _ _, pw_below_drewN (Below.refl _ _) q⟩
      have h16z : ¬ (16 : Int) < (l0.length : Int) := by omega
      have HN4 : Aside0 (¬ (parity_Repair.farB l0 a1 5000 l0.length = true ∨ 16 < l0.length)) := ⟨fun hh => hh.elim (fun h1 => AF.out ((HFE.out _).mp h1)) h16⟩
      by_cases hl0 : a1 < 0
      · go_wp2
        go_ret2
        obtain ⟨rfl, rfl⟩ := HP.out [] 2 (by rw [parity_Repair.f, if_neg (by omega), if_neg (HN4.out), if_pos (Or.inl hl0)])
        exact ⟨_, rfl, Kd.Q_nil _ _ _ _ _, pw_below_drewN (Below.refl _ _) q⟩
      by_cases hl1 : (l0.length : Int) ≤ a1
      · go_wp2
        go_ret2
        obtain ⟨rfl, rfl⟩ := HP.out [] 2 (by rw [parity_Repair.f, if_neg (by omega), if_neg (HN4.out), if_pos (Or.inr hl1)])
        exact ⟨_, rfl, Kd.Q_nil _ _ _ _ _, pw_below_drewN (Below.refl _ _) q⟩
      by_cases hp1 : (l2.length : Int) < 2
      · go_wp2
        go_ret2
        obtain ⟨rfl, rfl⟩ := HP.out [] 12 (by rw [parity_Repair.f, if_neg (by omega), if_neg (HN4.out), if_neg (by omega), if_pos (Or.inl (by omega))])
        exact ⟨_, rfl, Kd.Q_nil _ _ _ _ _, pw_below_drewN (Below.refl _ _) q⟩
      by_cases hp2 : (5002 : Int) < (l2.length : Int)
      · go_wp2
        go_ret2
        obtain ⟨rfl, rfl⟩ := HP.out [] 12 (by rw [parity_Repair.f, if_neg (by omega), if_neg (HN4.out), if_neg (by omega), if_pos (Or.inr (Or.inl (by omega)))])
        exact ⟨_, rfl, Kd.Q_nil _ _ _ _ _, pw_below_drewN (Below.refl _ _) q⟩
      have HCL : Aside0 (∀ W : World, Kd.C (Kd.int .u8) W A2 l2.length l2 → Calls Tryd.prog 24 #[.slice A2 l2.length c2] W fun e w' => ∃ v0_ : Value, e = .returned v0_ ∧ Kd.R (Kd.int .u8) 5 w' W.heap.size (fun _ => True) v0_ l2 ∧ Below W.heap.size W w') := ⟨fun W hW => slices_Clone_byte_byte.calls A2 c2 l2 l2 W hW hc2 (by unfold slices_Clone_byte_byte.f; rw [if_pos (by omega)])⟩
      have HLOW : Aside0 (∀ W : World, Below (w.drewN q).heap.size (w.drewN q) W → Below w.heap.size w W) := ⟨fun W hW => below_step (pw_below_drewN (Below.refl _ _) q) hW⟩
      have HR3 := Aside0.mk (Kd.C_drewN HR2.out q)
      have hpos : 0 < l2.length := by omega
      go_upto_region 15 with (go_at_call 24; refine (HCL.out _ HR3.out).mono ?_; rintro e w3 ⟨v3, rfl, ho, hb⟩)
      obtain ⟨g, cap, e3, _⟩ := Kd.R_form ho hpos
      subst e3
      have HO := Aside0.mk ho
      have HB3 := Aside0.mk hb
      clear ho hb
      have hp5 : l2.length < 1000000000 := by omega
      go_wp2
      go_loopg [11, 12, 52] l0.length (fun gg _ _ s52 wr => ∃ kk : Nat, kk ≤ l0.length ∧ l0.length - kk ≤ gg ∧ s52 = .int .i64 kk ∧ Aside0 (Kd.R (Kd.int .u8) 5 wr (w.drewN q).heap.size (fun _ => True) (.slice (some ⟨g, 0, none⟩) l2.length cap) (parity_Repair.rows l0 a1 l2 kk)) ∧ Aside0 (Below (w.drewN q).heap.size (w.drewN q) wr) ∧ Aside0 (¬ parity_Repair.far l0 a1 (l2.length - 2) kk))
      case atStart => exact ⟨0, Nat.zero_le _, by omega, rfl, HO, HB3, Aside0.mk (fun h => h)⟩
      case round =>
        clear HO HB3
        obtain ⟨kk, hkk2, hg2, rfl, HX, HW, HNF⟩ := hrel
        by_cases hlt2 : kk < l0.length
        · have hltz2 : (kk : Int) < (l0.length : Int) := by omega
          obtain ⟨ad, A1, c1, e, hcell0, hcs, hs⟩ := hit.out kk hlt2
          subst e
          have hcell : wr.cell? (ad.add kk) = some (.slice A1 (l0.getD kk []).length c1) := (HW.out.cell (World.block_lt_of_cell? (w.drewN q) _ hcell0)).trans hcell0
          have HS := Aside0.mk (Kd.C_drewN hs q)
          have HN : Aside0 (∀ y, y = l0.getD kk [] → parity_Repair.rows l0 a1 l2 (kk + 1) = if (kk : Int) = a1 then parity_Repair.rows l0 a1 l2 kk else parity_add.row (parity_Repair.rows l0 a1 l2 kk) y y.length) := ⟨fun y hy => by rw [hy]; rfl⟩
          have HL := Aside0.mk (parity_Repair.rows_len l0 a1 l2 kk)
          have HNy := Aside0.mk (HN.out _ rfl)
          have HQ : Aside0 (∀ y, y = l0.getD kk [] → ((kk : Int) ≠ a1 ∧ l2.length - 2 < y.length → parity_Repair.f l0 a1 l2 = some ([], 12)) ∧ (¬ ((kk : Int) ≠ a1 ∧ l2.length - 2 < y.length) → ¬ parity_Repair.far l0 a1 (l2.length - 2) (kk + 1))) := ⟨fun y hy => by
            subst hy
            exact ⟨fun h1 => by rw [parity_Repair.f, if_neg (by omega), if_neg (HN4.out), if_neg (by omega), if_pos (Or.inr (Or.inr ((parity_Repair.farB_iff _ _ _ _).mpr (parity_Repair.far_of _ _ _ _ kk hlt2 h1.1 h1.2))))], fun h1 h2 => h2.elim HNF.out h1⟩⟩
          have HQy := Aside0.mk (HQ.out _ rfl)
          clear HQ
          generalize l0.getD kk [] = y at hcell HS HNy HQy hcs
          clear hs hcell0 HN hit
          by_cases c1_ : (kk : Int) = a1
          · subst c1_
            go_wp2
            go_roundg (l0.length - (kk + 1))
            case measure => omega
            case rel => exact ⟨kk + 1, by omega, Nat.le_refl _, by go_num, Aside0.mk (by rw [HNy.out, if_pos trivial]; exact HX.out), HW, Aside0.mk (HQy.out.2 (fun h => h.1 rfl))⟩
          · have c1b : ((kk : Int) == a1) = false := beq_eq_false_iff_ne.mpr c1_
            have hsub : wrap64 ((l2.length : Int) - 2) = (l2.length : Int) - 2 := by rw [wrap64]; omega
            by_cases c3 : (l2.length : Int) - 2 < (y.length : Int)
            · go_wp2
              go_ret2
              obtain ⟨rfl, rfl⟩ := HP.out [] 12 (HQy.out.1 ⟨c1_, by omega⟩)
              exact ⟨_, rfl, Kd.Q_nil _ _ _ _ _, HLOW.out _ HW.out⟩
            · have hcon := parity_add.calls (w.drewN q) A1 c1 g cap y (parity_Repair.rows l0 a1 l2 kk) wr HS.out hcs HW.out (by rw [HL.out]; exact HX.out) (by rw [HL.out]; omega) (by rw [HL.out]; omega)
              rw [HL.out] at hcon
              have HC := Aside0.mk hcon
              clear hcon
              go_wp2_with (go_at_call 25; refine HC.out.mono ?_; rintro e w' ⟨rfl, hx', hb'⟩)
              go_roundg (l0.length - (kk + 1))
              case measure => omega
              case rel => exact ⟨kk + 1, by omega, Nat.le_refl _, by go_num, Aside0.mk (by rw [HNy.out, if_neg c1_]; exact hx'), Aside0.mk hb', Aside0.mk (HQy.out.2 (fun h => absurd h.2 (by omega)))⟩
        · have hltz2 : ¬ (kk : Int) < (l0.length : Int) := by omega
          have : kk = l0.length := by omega
          subst this
          have HLX := Aside0.mk (parity_Repair.rows_len l0 a1 l2 l0.length)
          have HTELL : Aside0 (parity_Repair.tell (parity_Repair.rows l0 a1 l2 l0.length) = some (r1, r2)) := ⟨by
            have h := HFF.out
            rw [parity_Repair.f, if_neg (by omega), if_neg HN4.out, if_neg (by omega), if_neg (fun h => h.elim (by omega) (fun h => h.elim (by omega) (fun h => HNF.out ((parity_Repair.farB_iff _ _ _ _).mp h))))] at h
            exact h⟩
          clear HFF HP HNF
          generalize parity_Repair.rows l0 a1 l2 l0.length = xs at HX HTELL HLX
          have HX2 : Aside0 (Kd.R (Kd.int .u8) 5 wr (w.drewN q).heap.size (fun _ => True) (.slice (some ⟨g, 0, none⟩) xs.length cap) xs) := ⟨by rw [HLX.out]; exact HX.out⟩
          have hcap : xs.length ≤ cap := by
            obtain ⟨A, c, e, hl, _⟩ := Kd.R_reads HX2.out
            cases e; exact hl
          have hlx := HLX.out
          have HLX2 := Aside0.mk HLX.out
          have hcapl : l2.length ≤ cap := by omega
          have hbb : ¬ (rd xs 0 < 0 ∨ 255 < rd xs 0 ∨ rd xs 1 < 0 ∨ 255 < rd xs 1) := fun hh => by
            have h := HTELL.out
            rw [parity_Repair.tell, if_pos hh] at h; cases h
          have HT2 : Aside0 ((if (l2.length : Int) - 2 < parity_Repair.m xs ∨ (xs.drop (2 + (parity_Repair.m xs).toNat)).any (fun x => x != 0) = true then some ([], 12) else some ((xs.take (2 + (parity_Repair.m xs).toNat)).drop 2, 0)) = some (r1, r2)) := ⟨by
            have h := HTELL.out
            rw [parity_Repair.tell, if_neg hbb, hlx] at h; exact h⟩
          have hx0 : wr.cell? ⟨g, 0, none⟩ = some (.int .u8 (rd xs 0)) := (Kd.R_celln 0 HX2.out 0 (by omega) (by omega)).1
          have hx1 : wr.cell? ⟨g, 1, none⟩ = some (.int .u8 (rd xs 1)) := (Kd.R_celln 0 HX2.out 1 (by omega) (by omega)).1
          obtain ⟨m, hm⟩ : ∃ m : Nat, (m : Int) = parity_Repair.m xs := ⟨(parity_Repair.m xs).toNat, by unfold parity_Repair.m; omega⟩
          rw [← hm, Int.toNat_natCast] at HT2
          have hor : bits .or .i64 (rd xs 0 * 256) (rd xs 1) = (m : Int) := by rw [parity_Repair.or_ _ _ (by omega) (by omega) (by omega) (by omega), hm]; rfl
          have hml : (m : Int) ≤ 65535 := by rw [hm]; unfold parity_Repair.m; omega
          generalize rd xs 0 = b0 at hx0 hor hbb
          generalize rd xs 1 = b1 at hx1 hor hbb
          have q0 : 0 ≤ b0 := by omega
          have q1 : b0 ≤ 255 := by omega
          have q2 : 0 ≤ b1 := by omega
          have q3 : b1 ≤ 255 := by omega
          have q4 : (0 : Int) < (l2.length : Int) := by omega
          have q5 : (1 : Int) < (l2.length : Int) := by omega
          clear hlx hm hbb HTELL HLX HX
          have HOR := Aside0.mk hor
          clear hor
          go_wp2
          go_quiet (fail)
          rw [HOR.out]
          clear hx0 hx1 HOR q0 q1 q2 q3 q4 q5
          by_cases hn : (l2.length : Int) - 2 < (m : Int)
          · go_wp2
            go_ret2
            have h := HT2.out
            rw [if_pos (Or.inl (by omega))] at h
            cases h
            exact ⟨_, rfl, Kd.Q_nil _ _ _ _ _, HLOW.out _ (pw_below_drewN HW.out _)⟩
          have h2m : 2 + (m : Int) ≤ (l2.length : Int) := by omega
          have h2n : 2 + m ≤ l2.length := by omega
          obtain ⟨i0, hi0, _, hsz, _⟩ := info_parts (show (Tryd.prog.info? 5).map (fun i => (i.zero, i.size, i.bytes)) = some (some (.int .u8 0), 1, 1) from by kernel_rfl)
          have hcut := cut_from (P := Tryd.prog) 23 5 .i64 Tryd.underlying23 hi0 1 hsz (some ⟨g, 0, none⟩) l2.length cap (2 + (m : Int)) (by omega) h2m
          have hcut2 := parity_Repair.cut_mid (P := Tryd.prog) 23 5 .i64 .i64 Tryd.underlying23 hi0 hsz (some ⟨g, 0, none⟩) l2.length cap 2 (2 + (m : Int)) (by omega) (by omega) h2m hcapl
          have hr2 := Kd.Q_drop (k := 2) (Kd.Q_take (m := 2 + m) (Kd.Q_of_R HX2.out) (by rw [HLX2.out]; omega)) (by rw [List.length_take, HLX2.out]; omega)
          rw [show (2 + (m : Int)).toNat = 2 + m by omega] at hcut hcut2
          rw [show (2 : Int).toNat = 2 by rfl] at hcut2
          obtain ⟨A4, hA4⟩ : ∃ A4 : Option Addr, A4 = (if cap = 2 then some ⟨g, 0, none⟩ else (some (⟨g, 0, none⟩ : Addr)).map (·.add (2 * 1))) := ⟨_, rfl⟩
          obtain ⟨c4, hc4⟩ : ∃ c4, c4 = cap - 2 := ⟨_, rfl⟩
          obtain ⟨n4, hn4⟩ : ∃ n4, n4 = 2 + m - 2 := ⟨_, rfl⟩
          rw [← hA4, ← hc4, ← hn4] at hcut2
          have HR4 : Aside0 (Kd.Q (Kd.int .u8) 5 wr (w.drewN q).heap.size (fun _ => True) (.slice A4 n4 c4) ((xs.take (2 + m)).drop 2)) := ⟨by rw [hA4, hc4, hn4]; exact hr2⟩
          obtain ⟨o, ho, hon⟩ : ∃ o, (if cap = 2 + m then some (⟨g, 0, none⟩ : Addr) else (some (⟨g, 0, none⟩ : Addr)).map (·.add ((2 + m) * 1))) = some ⟨g, o, none⟩ ∧ (cap = 2 + m ∨ o = 2 + m) := by
            by_cases hc : cap = 2 + m
            · rw [if_pos hc]; exact ⟨0, rfl, Or.inl hc⟩
            · rw [if_neg hc]; exact ⟨2 + m, by rw [Option.map_some, parity_Repair.add0, Nat.mul_one], Or.inr rfl⟩
          rw [ho] at hcut
          have HTR : Aside0 (Calls Tryd.prog 26 #[.slice (some ⟨g, o, none⟩) (l2.length - (2 + m)) (cap - (2 + m)), .string { data := #[0] }] (wr.drewN nq) fun e w' => ∃ A k c', (0 < k ↔ ∃ j : Nat, j < l2.length - (2 + m) ∧ rd (xs.drop (2 + m)) (j : Int) ≠ 0) ∧ e = .returned (.slice A k c') ∧ ∃ q, w' = (wr.drewN nq).drewN q) := ⟨by
            refine bytes_Trim.calls g o (l2.length - (2 + m)) (cap - (2 + m)) (xs.drop (2 + m)) (wr.drewN nq) (by rw [List.length_drop, HLX2.out]) (by omega) (by omega) (fun k hk => ?_)
            have ho2 : o = 2 + m := by rcases hon with h | h <;> omega
            subst ho2
            have h := (Kd.R_celln 0 HX2.out (((2 + m) + k : Nat) : Int) (by omega) (by rw [HLX2.out]; omega)).1
            rw [Int.toNat_natCast] at h
            have h2 : wr.cell? ⟨g, 2 + m + k, none⟩ = some (.int .u8 (rd (xs.drop (2 + m)) (k : Int))) := by
              rw [h, parity_Repair.rd_drop]; rfl
            exact h2⟩
          have HANY : Aside0 ((xs.drop (2 + m)).any (fun x => x != 0) = true ↔ ∃ j : Nat, j < l2.length - (2 + m) ∧ rd (xs.drop (2 + m)) (j : Int) ≠ 0) := ⟨by
            have hl : (xs.drop (2 + m)).length = l2.length - (2 + m) := by rw [List.length_drop, HLX2.out]
            rw [← hl]
            exact parity_Repair.any_ _⟩
          generalize hp_ : (∃ j : Nat, j < l2.length - (2 + m) ∧ rd (xs.drop (2 + m)) (j : Int) ≠ 0) = p at HTR HANY
          obtain ⟨n3, hn3⟩ : ∃ n3, n3 = l2.length - (2 + m) := ⟨_, rfl⟩
          obtain ⟨c3, hc3⟩ : ∃ c3, c3 = cap - (2 + m) := ⟨_, rfl⟩
          rw [← hn3, ← hc3] at HTR hcut
          clear hp_ hn3 hc3 ho hon hA4 hc4 hn4 hr2 hi0 hsz hcapl
          by_cases hz : p
          · have HZ := Aside0.mk (HANY.out.mpr hz)
            go_wp2_with (go_at_call 26; refine HTR.out.mono ?_; rintro e w' ⟨A3, k3, c3', hk3, rfl, q3, rfl⟩; have hk3z : (0 : Int) < (k3 : Int) := (by have := hk3.mpr hz; omega); clear hk3)
            go_ret2
            have h := HT2.out
            rw [if_pos (Or.inr HZ.out)] at h
            cases h
            exact ⟨_, rfl, Kd.Q_nil _ _ _ _ _, HLOW.out _ (pw_below_drewN HW.out _)⟩
          · have HZ : Aside0 (¬ (xs.drop (2 + m)).any (fun x => x != 0) = true) := ⟨fun h => hz (HANY.out.mp h)⟩
            go_wp2_with (go_at_call 26; refine HTR.out.mono ?_; rintro e w' ⟨A3, k3, c3', hk3, rfl, q3, rfl⟩; have hk3z : ¬ (0 : Int) < (k3 : Int) := (fun h => hz (hk3.mp (by omega))); clear hk3)
            go_ret2
            have h := HT2.out
            rw [if_neg (fun h => h.elim (fun h => by omega) HZ.out)] at h
            cases h
            exact ⟨_, rfl, Kd.Q_lower (Kd.Q_drewN HR4.out _) (Nat.le_refl _), HLOW.out _ (pw_below_drewN HW.out _)⟩

end Go.Proofs.YtejamobohmljfaaDoor.XParityMends
