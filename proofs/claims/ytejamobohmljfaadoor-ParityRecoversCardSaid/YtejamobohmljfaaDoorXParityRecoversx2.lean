-- Laid by a program of this session (wip/mkxprint.py, over the kit's print): Lean checks it.
import Derived.Test.YtejamobohmljfaaDoorXParityRecoversx0
import Derived.Test.YtejamobohmljfaaDoorXParityRecoversx1
namespace Go.Proofs.YtejamobohmljfaaDoor.XParityRecovers
open List (setIfInBounds_toArray set_cons_zero set_cons_succ)
open Go.RowKit Go.Proofs.YtejamobohmljfaaDoorW.PrintWords Go.Proofs.YtejamobohmljfaaDoorW.PrintLast Go.Proofs.YtejamobohmljfaaDoorW.PrintMore
attribute [local go_sem] max2_int min2_int max_two min_two max_three min_three max_four min_four   -- for this text's walks alone
set_option linter.unusedVariables false
set_option linter.unusedSimpArgs false

/-! ### parity_Repair: function 11 -/
/-- Some string but the lost one, of the first k, is longer than m. -/
def parity_Repair.far (l : List (List Int)) (lost : Int) (m : Nat) : Nat → Prop
  | 0 => False
  | k + 1 => parity_Repair.far l lost m k ∨ ((k : Int) ≠ lost ∧ m < (l.getD k []).length)
theorem parity_Repair.far_of (l : List (List Int)) (lost : Int) (m : Nat) : ∀ n k : Nat, k < n → (k : Int) ≠ lost → m < (l.getD k []).length → parity_Repair.far l lost m n
  | 0, _, h, _, _ => absurd h (Nat.not_lt_zero _)
  | n + 1, k, h, h1, h2 => by
    rcases Nat.lt_succ_iff_lt_or_eq.mp h with h | h
    · exact Or.inl (parity_Repair.far_of l lost m n k h h1 h2)
    · subst h; exact Or.inr ⟨h1, h2⟩
/-- The row after the first k strings but the lost one have been added. -/
def parity_Repair.rows (l : List (List Int)) (lost : Int) (p : List Int) : Nat → List Int
  | 0 => p
  | k + 1 => if (k : Int) = lost then parity_Repair.rows l lost p k else parity_add.row (parity_Repair.rows l lost p k) (l.getD k []) (l.getD k []).length
theorem parity_Repair.rows_len (l : List (List Int)) (lost : Int) (p : List Int) (k : Nat) : (parity_Repair.rows l lost p k).length = p.length := by
  induction k with
  | zero => rfl
  | succ k ih =>
    rw [parity_Repair.rows]
    split
    · exact ih
    · rw [parity_add.row_len, ih]
def parity_Repair.farB (l : List (List Int)) (lost : Int) (m : Nat) : Nat → Bool
  | 0 => false
  | k + 1 => parity_Repair.farB l lost m k || (decide ((k : Int) ≠ lost) && decide (m < (l.getD k []).length))
theorem parity_Repair.farB_iff (l : List (List Int)) (lost : Int) (m : Nat) : ∀ k : Nat, parity_Repair.farB l lost m k = true ↔ parity_Repair.far l lost m k
  | 0 => ⟨fun h => absurd h (by simp [parity_Repair.farB]), fun h => absurd h (by simp [parity_Repair.far])⟩
  | k + 1 => by rw [parity_Repair.farB, parity_Repair.far, Bool.or_eq_true, Bool.and_eq_true, decide_eq_true_iff, decide_eq_true_iff, parity_Repair.farB_iff l lost m k]
/-- The length that a row's head tells. -/
def parity_Repair.m (r : List Int) : Int := rd r 0 * 256 + rd r 1
/-- What a row tells: its string, or that it is none. -/
def parity_Repair.tell (r : List Int) : Option (List Int × Int) :=
  if rd r 0 < 0 ∨ 255 < rd r 0 ∨ rd r 1 < 0 ∨ 255 < rd r 1 then none
  else if (r.length : Int) - 2 < parity_Repair.m r ∨ (r.drop (2 + (parity_Repair.m r).toNat)).any (fun x => x != 0) = true then some ([], 12)
  else some ((r.take (2 + (parity_Repair.m r).toNat)).drop 2, 0)
def parity_Repair.f (l0 : List (List Int)) (a1 : Int) (l2 : List Int) : Option (List Int × Int) :=
  if 1000000 < l0.length then none
  else if parity_Repair.farB l0 a1 5000 l0.length = true ∨ 16 < l0.length then some ([], 4)
  else if a1 < 0 ∨ (l0.length : Int) ≤ a1 then some ([], 2)
  else if l2.length < 2 ∨ 5002 < l2.length ∨ parity_Repair.farB l0 a1 (l2.length - 2) l0.length = true then some ([], 12)
  else parity_Repair.tell (parity_Repair.rows l0 a1 l2 l0.length)
theorem parity_Repair.or_ (b0 b1 : Int) (h0 : 0 ≤ b0) (h1 : b0 ≤ 255) (h2 : 0 ≤ b1) (h3 : b1 ≤ 255) : bits .or .i64 (b0 * 256) b1 = b0 * 256 + b1 :=
  bits_join .i64 17 (by decide) (fun n p q => by rw [i64_w, wrap64]; omega) 8 _ _ (by omega) (by omega) (by omega) h2 (by omega) (by omega)
theorem parity_Repair.cut_mid {P : Program} (t e : TypeId) (kl kh : IntKind) {i : TypeInfo} (ht : P.underlying t = some (.slice e)) (hi : P.info? e = some i) (hsz : i.size = 1) (A : Option Addr) (n c : Nat) (a b : Int) (h0 : 0 ≤ a) (h1 : a ≤ b) (hm : b ≤ n) (hc : n ≤ c) :
    ∀ W : World, (Instr.slice t (.slice A n c) (some (.int kl a)) (some (.int kh b)) none).run P W = .ok (.slice (if c = a.toNat then A else A.map (·.add (a.toNat * 1))) (b.toNat - a.toNat) (c - a.toNat)) W := by
  intro W
  have hel : P.elem t = e := by simp [Program.elem, ht]
  have hu : P.underlying t = some (.slice (P.elem t)) := by rw [hel]; exact ht
  rw [run_slice_lh W t A n c hu kl kh a b h0 h1 (by omega), hel]
  simp [sizeOf, typeInfo, hi, hsz, sliced, Result.andThen]
theorem parity_Repair.add0 (g j : Nat) : (⟨g, 0, none⟩ : Addr).add j = ⟨g, j, none⟩ := by unfold Addr.add; split <;> simp_all
theorem parity_Repair.rd_drop (l : List Int) (a k : Nat) : rd (l.drop a) (k : Int) = rd l ((a + k : Nat) : Int) := by
  unfold rd
  rw [Int.toNat_natCast, Int.toNat_natCast, List.getD_eq_getElem?_getD, List.getD_eq_getElem?_getD, List.getElem?_drop]
theorem parity_Repair.any_ (l : List Int) : l.any (fun x => x != 0) = true ↔ ∃ j : Nat, j < l.length ∧ rd l (j : Int) ≠ 0 := by
  rw [List.any_eq_true]
  refine ⟨fun ⟨x, hx, h⟩ => ?_, fun ⟨j, hj, h⟩ => ?_⟩
  · obtain ⟨j, hj, e⟩ := List.getElem_of_mem hx
    refine ⟨j, hj, fun h2 => ?_⟩
    unfold rd at h2
    rw [Int.toNat_natCast, List.getD_eq_getElem?_getD, List.getElem?_eq_getElem hj] at h2
    simp at h2
    rw [e] at h2
    simp [h2] at h
  · refine ⟨l[j], List.getElem_mem hj, ?_⟩
    unfold rd at h
    rw [Int.toNat_natCast, List.getD_eq_getElem?_getD, List.getElem?_eq_getElem hj] at h
    simpa using h
set_option maxHeartbeats 2000000 in
theorem parity_Repair.calls (A0 : Option Addr) (c0 : Nat) (l0 : List (List Int)) (a1 : Int) (A2 : Option Addr) (c2 : Nat) (l2 : List Int) (r1 : List Int) (r2 : Int) (w : World) (hr0 : Kd.C (Kd.slice 5 (Kd.int .u8)) w A0 l0.length l0) (hc0 : l0.length ≤ c0) (hr2 : Kd.C (Kd.int .u8) w A2 l2.length l2) (hc2 : l2.length ≤ c2) (h : parity_Repair.f l0 a1 l2 = some (r1, r2)) :
    Calls Tryd.prog 11 #[.slice A0 l0.length c0, .int .i64 a1, .slice A2 l2.length c2] w fun e w' => ∃ v0_ : Value, e = .returned (.tuple #[v0_, .int .i64 r2]) ∧ Kd.Q (Kd.int .u8) 5 w' w.heap.size (fun _ => True) v0_ r1 ∧ Below w.heap.size w w' := by
  by_cases hbig' : 1000000 < l0.length
  · exfalso; rw [parity_Repair.f, if_pos hbig'] at h; cases h
  have hbig : l0.length ≤ 1000000 := by omega
  have HFF : Aside0 (parity_Repair.f l0 a1 l2 = some (r1, r2)) := Aside0.mk h
  have HP : Aside0 (∀ x y, parity_Repair.f l0 a1 l2 = some (x, y) → x = r1 ∧ y = r2) := ⟨fun x y hx => by have := hx.symm.trans h; cases this; exact ⟨rfl, rfl⟩⟩
  have HNIL : ∀ W : World, Aside0 (Below w.heap.size w W) → Aside0 (Kd.Q (Kd.int .u8) 5 W w.heap.size (fun _ => True) (.slice none 0 0) []) := fun W _ => ⟨Kd.Q_nil _ _ _ _ _⟩
  have HFE : Aside0 (∀ k, parity_Repair.farB l0 a1 5000 k = true ↔ parity_Repair.far l0 a1 5000 k) := ⟨parity_Repair.farB_iff l0 a1 5000⟩
  clear h
  have hit := Aside0.mk (parity_sum.item A0 l0 w hr0)
  have HR2 := Aside0.mk hr2
  clear hr0 hr2
  go_enter Tryd.func11, Tryd.ntmps11
  go_wp2
  go_loopg [8, 9, 16] l0.length (fun gg _ _ s16 wr => ∃ kk q : Nat, kk ≤ l0.length ∧ l0.length - kk ≤ gg ∧ s16 = .int .i64 kk ∧ wr = w.drewN q ∧ Aside0 (¬ parity_Repair.far l0 a1 5000 kk))
  case atStart => exact ⟨0, 0, Nat.zero_le _, by omega, rfl, rfl, Aside0.mk (fun h => h)⟩
  case round =>
    obtain ⟨kk, q, hkk, hg, rfl, rfl, AF⟩ := hrel
    by_cases hlt : kk < l0.length
    · have hltz : (kk : Int) < (l0.length : Int) := by omega
      obtain ⟨ad, A1, c1, e, hcell, _, _⟩ := hit.out kk hlt
      subst e
      have B : Aside0 (∀ y, y = l0.getD kk [] → ((kk : Int) ≠ a1 ∧ 5000 < y.length → parity_Repair.far l0 a1 5000 (kk + 1)) ∧ (¬ ((kk : Int) ≠ a1 ∧ 5000 < y.length) → ¬ parity_Repair.far l0 a1 5000 (kk + 1))) := ⟨fun y hy => by subst hy; exact ⟨Or.inr, fun h1 h2 => h2.elim AF.out h1⟩⟩
      obtain ⟨y, hy⟩ : ∃ y, y = l0.getD kk [] := ⟨_, rfl⟩
      have B2 := Aside0.mk (B.out y hy)
      have HF : Aside0 (∀ j : Nat, kk + 1 ≤ j → j ≤ l0.length → parity_Repair.far l0 a1 5000 (kk + 1) → parity_Repair.far l0 a1 5000 j) := ⟨fun j h1 h2 h => by
        induction j with
        | zero => omega
        | succ j ih =>
          rcases Nat.eq_or_lt_of_le h1 with e | e
          · have : j = kk := by omega
            subst this; exact h
          · exact Or.inl (ih (by omega) (by omega))⟩
      rw [← hy] at hcell
      clear hit hy B
      by_cases c1_ : (kk : Int) = a1
      · subst c1_
        go_wp2
        go_roundg (l0.length - (kk + 1))
        case measure => omega
        case rel => exact ⟨kk + 1, q, by omega, by omega, by go_num, rfl, Aside0.mk (B2.out.2 (fun h => h.1 rfl))⟩
      · have e2 : ((kk : Int) == a1) = false := beq_eq_false_iff_ne.mpr c1_
        by_cases c3 : 5000 < y.length
        · have c3z : (5000 : Int) < (y.length : Int) := by omega
          go_wp2
          go_ret2
          obtain ⟨rfl, rfl⟩ := HP.out [] 4 (by rw [parity_Repair.f, if_neg (by omega), if_pos (Or.inl ((HFE.out _).mpr (HF.out _ (by omega) (Nat.le_refl _) (B2.out.1 ⟨c1_, c3⟩))))])
          exact ⟨_, rfl, Kd.Q_nil _ _ _ _ _, pw_below_drewN (Below.refl _ _) q⟩
        · have c3z : ¬ (5000 : Int) < (y.length : Int) := by omega
          go_wp2
          go_roundg (l0.length - (kk + 1))
          case measure => omega
          case rel => exact ⟨kk + 1, q, by omega, by omega, by go_num, rfl, Aside0.mk (B2.out.2 (fun h => c3 h.2))⟩
    · have hltz : ¬ (kk : Int) < (l0.length : Int) := by omega
      have : kk = l0.length := by omega
      subst this
      by_cases h16 : 16 < l0.length
      · have h16z : (16 : Int) < (l0.length : Int) := by omega
        go_wp2
        go_ret2
        obtain ⟨rfl, rfl⟩ := HP.out [] 4 (by rw [parity_Repair.f, if_neg (by omega), if_pos (Or.inr h16)])
        exact ⟨_, rfl, Kd.Q_nil _ _ _ _ _, pw_below_drewN (Below.refl _ _) q⟩
      have h16z : ¬ (16 : Int) < (l0.length : Int) := by omega
      have HN4 : Aside0 (¬ (parity_Repair.farB l0 a1 5000 l0.length = true ∨ 16 < l0.length)) := ⟨fun hh => hh.elim (fun h1 => AF.out ((HFE.out _).mp h1)) h16⟩
      by_cases hl0 : a1 < 0
      · go_wp2
        go_ret2
        obtain ⟨rfl, rfl⟩ := HP.out [] 2 (by rw [parity_Repair.f, if_neg (by omega), if_neg (HN4.out), if_pos (Or.inl hl0)])
        exact ⟨_, rfl, Kd.Q_nil _ _ _ _ _, pw_below_drewN (Below.refl _ _) q⟩
      by_cases hl1 : (l0.length : Int) ≤ a1
      · go_wp2
        go_ret2
        obtain ⟨rfl, rfl⟩ := HP.out [] 2 (by rw [parity_Repair.f, if_neg (by omega), if_neg (HN4.out), if_pos (Or.inr hl1)])
        exact ⟨_, rfl, Kd.Q_nil _ _ _ _ _, pw_below_drewN (Below.refl _ _) q⟩
      by_cases hp1 : (l2.length : Int) < 2
      · go_wp2
        go_ret2
        obtain ⟨rfl, rfl⟩ := HP.out [] 12 (by rw [parity_Repair.f, if_neg (by omega), if_neg (HN4.out), if_neg (by omega), if_pos (Or.inl (by omega))])
        exact ⟨_, rfl, Kd.Q_nil _ _ _ _ _, pw_below_drewN (Below.refl _ _) q⟩
      by_cases hp2 : (5002 : Int) < (l2.length : Int)
      · go_wp2
        go_ret2
        obtain ⟨rfl, rfl⟩ := HP.out [] 12 (by rw [parity_Repair.f, if_neg (by omega), if_neg (HN4.out), if_neg (by omega), if_pos (Or.inr (Or.inl (by omega)))])
        exact ⟨_, rfl, Kd.Q_nil _ _ _ _ _, pw_below_drewN (Below.refl _ _) q⟩
      have HCL : Aside0 (∀ W : World, Kd.C (Kd.int .u8) W A2 l2.length l2 → Calls Tryd.prog 24 #[.slice A2 l2.length c2] W fun e w' => ∃ v0_ : Value, e = .returned v0_ ∧ Kd.R (Kd.int .u8) 5 w' W.heap.size (fun _ => True) v0_ l2 ∧ Below W.heap.size W w') := ⟨fun W hW => slices_Clone_byte_byte.calls A2 c2 l2 l2 W hW hc2 (by unfold slices_Clone_byte_byte.f; rw [if_pos (by omega)])⟩
      have HLOW : Aside0 (∀ W : World, Below (w.drewN q).heap.size (w.drewN q) W → Below w.heap.size w W) := ⟨fun W hW => below_step (pw_below_drewN (Below.refl _ _) q) hW⟩
      have HR3 := Aside0.mk (Kd.C_drewN HR2.out q)
      have hpos : 0 < l2.length := by omega
      go_upto_region 15 with (go_at_call 24; refine (HCL.out _ HR3.out).mono ?_; rintro e w3 ⟨v3, rfl, ho, hb⟩)
      obtain ⟨g, cap, e3, _⟩ := Kd.R_form ho hpos
      subst e3
      have HO := Aside0.mk ho
      have HB3 := Aside0.mk hb
      clear ho hb
      have hp5 : l2.length < 1000000000 := by omega
      go_wp2
      go_loopg [11, 12, 52] l0.length (fun gg _ _ s52 wr => ∃ kk : Nat, kk ≤ l0.length ∧ l0.length - kk ≤ gg ∧ s52 = .int .i64 kk ∧ Aside0 (Kd.R (Kd.int .u8) 5 wr (w.drewN q).heap.size (fun _ => True) (.slice (some ⟨g, 0, none⟩) l2.length cap) (parity_Repair.rows l0 a1 l2 kk)) ∧ Aside0 (Below (w.drewN q).heap.size (w.drewN q) wr) ∧ Aside0 (¬ parity_Repair.far l0 a1 (l2.length - 2) kk))
      case atStart => exact ⟨0, Nat.zero_le _, by omega, rfl, HO, HB3, Aside0.mk (fun h => h)⟩
      case round =>
        clear HO HB3
        obtain ⟨kk, hkk2, hg2, rfl, HX, HW, HNF⟩ := hrel
        by_cases hlt2 : kk < l0.length
        · have hltz2 : (kk : Int) < (l0.length : Int) := by omega
          obtain ⟨ad, A1, c1, e, hcell0, hcs, hs⟩ := hit.out kk hlt2
          subst e
          have hcell : wr.cell? (ad.add kk) = some (.slice A1 (l0.getD kk []).length c1) := (HW.out.cell (World.block_lt_of_cell? (w.drewN q) _ hcell0)).trans hcell0
          have HS := Aside0.mk (Kd.C_drewN hs q)
          have HN : Aside0 (∀ y, y = l0.getD kk [] → parity_Repair.rows l0 a1 l2 (kk + 1) = if (kk : Int) = a1 then parity_Repair.rows l0 a1 l2 kk else parity_add.row (parity_Repair.rows l0 a1 l2 kk) y y.length) := ⟨fun y hy => by rw [hy]; rfl⟩
          have HL := Aside0.mk (parity_Repair.rows_len l0 a1 l2 kk)
          have HNy := Aside0.mk (HN.out _ rfl)
          have HQ : Aside0 (∀ y, y = l0.getD kk [] → ((kk : Int) ≠ a1 ∧ l2.length - 2 < y.length → parity_Repair.f l0 a1 l2 = some ([], 12)) ∧ (¬ ((kk : Int) ≠ a1 ∧ l2.length - 2 < y.length) → ¬ parity_Repair.far l0 a1 (l2.length - 2) (kk + 1))) := ⟨fun y hy => by
            subst hy
            exact ⟨fun h1 => by rw [parity_Repair.f, if_neg (by omega), if_neg (HN4.out), if_neg (by omega), if_pos (Or.inr (Or.inr ((parity_Repair.farB_iff _ _ _ _).mpr (parity_Repair.far_of _ _ _ _ kk hlt2 h1.1 h1.2))))], fun h1 h2 => h2.elim HNF.out h1⟩⟩
          have HQy := Aside0.mk (HQ.out _ rfl)
          clear HQ
          generalize l0.getD kk [] = y at hcell HS HNy HQy hcs
          clear hs hcell0 HN hit
          by_cases c1_ : (kk : Int) = a1
          · subst c1_
            go_wp2
            go_roundg (l0.length - (kk + 1))
            case measure => omega
            case rel => exact ⟨kk + 1, by omega, Nat.le_refl _, by go_num, Aside0.mk (by rw [HNy.out, if_pos trivial]; exact HX.out), HW, Aside0.mk (HQy.out.2 (fun h => h.1 rfl))⟩
          · have c1b : ((kk : Int) == a1) = false := beq_eq_false_iff_ne.mpr c1_
            have hsub : wrap64 ((l2.length : Int) - 2) = (l2.length : Int) - 2 := by rw [wrap64]; omega
            by_cases c3 : (l2.length : Int) - 2 < (y.length : Int)
            · go_wp2
              go_ret2
              obtain ⟨rfl, rfl⟩ := HP.out [] 12 (HQy.out.1 ⟨c1_, by omega⟩)
              exact ⟨_, rfl, Kd.Q_nil _ _ _ _ _, HLOW.out _ HW.out⟩
            · have hcon := parity_add.calls (w.drewN q) A1 c1 g cap y (parity_Repair.rows l0 a1 l2 kk) wr HS.out hcs HW.out (by rw [HL.out]; exact HX.out) (by rw [HL.out]; omega) (by rw [HL.out]; omega)
              rw [HL.out] at hcon
              have HC := Aside0.mk hcon
              clear hcon
              go_wp2_with (go_at_call 25; refine HC.out.mono ?_; rintro e w' ⟨rfl, hx', hb'⟩)
              go_roundg (l0.length - (kk + 1))
              case measure => omega
              case rel => exact ⟨kk + 1, by omega, Nat.le_refl _, by go_num, Aside0.mk (by rw [HNy.out, if_neg c1_]; exact hx'), Aside0.mk hb', Aside0.mk (HQy.out.2 (fun h => absurd h.2 (by omega)))⟩
        · have hltz2 : ¬ (kk : Int) < (l0.length : Int) := by omega
          have : kk = l0.length := by omega
          subst this
          have HLX := Aside0.mk (parity_Repair.rows_len l0 a1 l2 l0.length)
          have HTELL : Aside0 (parity_Repair.tell (parity_Repair.rows l0 a1 l2 l0.length) = some (r1, r2)) := ⟨by
            have h := HFF.out
            rw [parity_Repair.f, if_neg (by omega), if_neg HN4.out, if_neg (by omega), if_neg (fun h => h.elim (by omega) (fun h => h.elim (by omega) (fun h => HNF.out ((parity_Repair.farB_iff _ _ _ _).mp h))))] at h
            exact h⟩
          clear HFF HP HNF
          generalize parity_Repair.rows l0 a1 l2 l0.length = xs at HX HTELL HLX
          have HX2 : Aside0 (Kd.R (Kd.int .u8) 5 wr (w.drewN q).heap.size (fun _ => True) (.slice (some ⟨g, 0, none⟩) xs.length cap) xs) := ⟨by rw [HLX.out]; exact HX.out⟩
          have hcap : xs.length ≤ cap := by
            obtain ⟨A, c, e, hl, _⟩ := Kd.R_reads HX2.out
            cases e; exact hl
          have hlx := HLX.out
          have HLX2 := Aside0.mk HLX.out
          have hcapl : l2.length ≤ cap := by omega
          have hbb : ¬ (rd xs 0 < 0 ∨ 255 < rd xs 0 ∨ rd xs 1 < 0 ∨ 255 < rd xs 1) := fun hh => by
            have h := HTELL.out
            rw [parity_Repair.tell, if_pos hh] at h; cases h
          have HT2 : Aside0 ((if (l2.length : Int) - 2 < parity_Repair.m xs ∨ (xs.drop (2 + (parity_Repair.m xs).toNat)).any (fun x => x != 0) = true then some ([], 12) else some ((xs.take (2 + (parity_Repair.m xs).toNat)).drop 2, 0)) = some (r1, r2)) := ⟨by
            have h := HTELL.out
            rw [parity_Repair.tell, if_neg hbb, hlx] at h; exact h⟩
          have hx0 : wr.cell? ⟨g, 0, none⟩ = some (.int .u8 (rd xs 0)) := (Kd.R_celln 0 HX2.out 0 (by omega) (by omega)).1
          have hx1 : wr.cell? ⟨g, 1, none⟩ = some (.int .u8 (rd xs 1)) := (Kd.R_celln 0 HX2.out 1 (by omega) (by omega)).1
          obtain ⟨m, hm⟩ : ∃ m : Nat, (m : Int) = parity_Repair.m xs := ⟨(parity_Repair.m xs).toNat, by unfold parity_Repair.m; omega⟩
          rw [← hm, Int.toNat_natCast] at HT2
          have hor : bits .or .i64 (rd xs 0 * 256) (rd xs 1) = (m : Int) := by rw [parity_Repair.or_ _ _ (by omega) (by omega) (by omega) (by omega), hm]; rfl
          have hml : (m : Int) ≤ 65535 := by rw [hm]; unfold parity_Repair.m; omega
          generalize rd xs 0 = b0 at hx0 hor hbb
          generalize rd xs 1 = b1 at hx1 hor hbb
          have q0 : 0 ≤ b0 := by omega
          have q1 : b0 ≤ 255 := by omega
          have q2 : 0 ≤ b1 := by omega
          have q3 : b1 ≤ 255 := by omega
          have q4 : (0 : Int) < (l2.length : Int) := by omega
          have q5 : (1 : Int) < (l2.length : Int) := by omega
          clear hlx hm hbb HTELL HLX HX
          have HOR := Aside0.mk hor
          clear hor
          go_wp2
          go_quiet (fail)
          rw [HOR.out]
          clear hx0 hx1 HOR q0 q1 q2 q3 q4 q5
          by_cases hn : (l2.length : Int) - 2 < (m : Int)
          · go_wp2
            go_ret2
            have h := HT2.out
            rw [if_pos (Or.inl (by omega))] at h
            cases h
            exact ⟨_, rfl, Kd.Q_nil _ _ _ _ _, HLOW.out _ (pw_below_drewN HW.out _)⟩
          have h2m : 2 + (m : Int) ≤ (l2.length : Int) := by omega
          have h2n : 2 + m ≤ l2.length := by omega
          obtain ⟨i0, hi0, _, hsz, _⟩ := info_parts (show (Tryd.prog.info? 5).map (fun i => (i.zero, i.size, i.bytes)) = some (some (.int .u8 0), 1, 1) from by kernel_rfl)
          have hcut := cut_from (P := Tryd.prog) 23 5 .i64 Tryd.underlying23 hi0 1 hsz (some ⟨g, 0, none⟩) l2.length cap (2 + (m : Int)) (by omega) h2m
          have hcut2 := parity_Repair.cut_mid (P := Tryd.prog) 23 5 .i64 .i64 Tryd.underlying23 hi0 hsz (some ⟨g, 0, none⟩) l2.length cap 2 (2 + (m : Int)) (by omega) (by omega) h2m hcapl
          have hr2 := Kd.Q_drop (k := 2) (Kd.Q_take (m := 2 + m) (Kd.Q_of_R HX2.out) (by rw [HLX2.out]; omega)) (by rw [List.length_take, HLX2.out]; omega)
          rw [show (2 + (m : Int)).toNat = 2 + m by omega] at hcut hcut2
          rw [show (2 : Int).toNat = 2 by rfl] at hcut2
          obtain ⟨A4, hA4⟩ : ∃ A4 : Option Addr, A4 = (if cap = 2 then some ⟨g, 0, none⟩ else (some (⟨g, 0, none⟩ : Addr)).map (·.add (2 * 1))) := ⟨_, rfl⟩
          obtain ⟨c4, hc4⟩ : ∃ c4, c4 = cap - 2 := ⟨_, rfl⟩
          obtain ⟨n4, hn4⟩ : ∃ n4, n4 = 2 + m - 2 := ⟨_, rfl⟩
          rw [← hA4, ← hc4, ← hn4] at hcut2
          have HR4 : Aside0 (Kd.Q (Kd.int .u8) 5 wr (w.drewN q).heap.size (fun _ => True) (.slice A4 n4 c4) ((xs.take (2 + m)).drop 2)) := ⟨by rw [hA4, hc4, hn4]; exact hr2⟩
          obtain ⟨o, ho, hon⟩ : ∃ o, (if cap = 2 + m then some (⟨g, 0, none⟩ : Addr) else (some (⟨g, 0, none⟩ : Addr)).map (·.add ((2 + m) * 1))) = some ⟨g, o, none⟩ ∧ (cap = 2 + m ∨ o = 2 + m) := by
            by_cases hc : cap = 2 + m
            · rw [if_pos hc]; exact ⟨0, rfl, Or.inl hc⟩
            · rw [if_neg hc]; exact ⟨2 + m, by rw [Option.map_some, parity_Repair.add0, Nat.mul_one], Or.inr rfl⟩
          rw [ho] at hcut
          have HTR : Aside0 (Calls Tryd.prog 26 #[.slice (some ⟨g, o, none⟩) (l2.length - (2 + m)) (cap - (2 + m)), .string { data := #[0] }] (wr.drewN nq) fun e w' => ∃ A k c', (0 < k ↔ ∃ j : Nat, j < l2.length - (2 + m) ∧ rd (xs.drop (2 + m)) (j : Int) ≠ 0) ∧ e = .returned (.slice A k c') ∧ ∃ q, w' = (wr.drewN nq).drewN q) := ⟨by
            refine bytes_Trim.calls g o (l2.length - (2 + m)) (cap - (2 + m)) (xs.drop (2 + m)) (wr.drewN nq) (by rw [List.length_drop, HLX2.out]) (by omega) (by omega) (fun k hk => ?_)
            have ho2 : o = 2 + m := by rcases hon with h | h <;> omega
            subst ho2
            have h := (Kd.R_celln 0 HX2.out (((2 + m) + k : Nat) : Int) (by omega) (by rw [HLX2.out]; omega)).1
            rw [Int.toNat_natCast] at h
            have h2 : wr.cell? ⟨g, 2 + m + k, none⟩ = some (.int .u8 (rd (xs.drop (2 + m)) (k : Int))) := by
              rw [h, parity_Repair.rd_drop]; rfl
            exact h2⟩
          have HANY : Aside0 ((xs.drop (2 + m)).any (fun x => x != 0) = true ↔ ∃ j : Nat, j < l2.length - (2 + m) ∧ rd (xs.drop (2 + m)) (j : Int) ≠ 0) := ⟨by
            have hl : (xs.drop (2 + m)).length = l2.length - (2 + m) := by rw [List.length_drop, HLX2.out]
            rw [← hl]
            exact parity_Repair.any_ _⟩
          generalize hp_ : (∃ j : Nat, j < l2.length - (2 + m) ∧ rd (xs.drop (2 + m)) (j : Int) ≠ 0) = p at HTR HANY
          obtain ⟨n3, hn3⟩ : ∃ n3, n3 = l2.length - (2 + m) := ⟨_, rfl⟩
          obtain ⟨c3, hc3⟩ : ∃ c3, c3 = cap - (2 + m) := ⟨_, rfl⟩
          rw [← hn3, ← hc3] at HTR hcut
          clear hp_ hn3 hc3 ho hon hA4 hc4 hn4 hr2 hi0 hsz hcapl
          by_cases hz : p
          · have HZ := Aside0.mk (HANY.out.mpr hz)
            go_wp2_with (go_at_call 26; refine HTR.out.mono ?_; rintro e w' ⟨A3, k3, c3', hk3, rfl, q3, rfl⟩; have hk3z : (0 : Int) < (k3 : Int) := (by have := hk3.mpr hz; omega); clear hk3)
            go_ret2
            have h := HT2.out
            rw [if_pos (Or.inr HZ.out)] at h
            cases h
            exact ⟨_, rfl, Kd.Q_nil _ _ _ _ _, HLOW.out _ (pw_below_drewN HW.out _)⟩
          · have HZ : Aside0 (¬ (xs.drop (2 + m)).any (fun x => x != 0) = true) := ⟨fun h => hz (HANY.out.mp h)⟩
            go_wp2_with (go_at_call 26; refine HTR.out.mono ?_; rintro e w' ⟨A3, k3, c3', hk3, rfl, q3, rfl⟩; have hk3z : ¬ (0 : Int) < (k3 : Int) := (fun h => hz (hk3.mp (by omega))); clear hk3)
            go_ret2
            have h := HT2.out
            rw [if_neg (fun h => h.elim (fun h => by omega) HZ.out)] at h
            cases h
            exact ⟨_, rfl, Kd.Q_lower (Kd.Q_drewN HR4.out _) (Nat.le_refl _), HLOW.out _ (pw_below_drewN HW.out _)⟩

/-! ### bitloftlaw42_alive: function 8 -/
def bitloftlaw42_alive.hE (h : Option Addr × Nat × Nat) : Value := .slice h.1 h.2.1 h.2.2
def bitloftlaw42_alive.hK : Kd (Option Addr × Nat × Nat) := Kd.scalar bitloftlaw42_alive.hE (fun _ => rfl)
/-- A row of rows out of a row of their heads. -/
theorem bitloftlaw42_alive.hC {W : World} {A : Option Addr} {n : Nat} {hs : List (Option Addr × Nat × Nat)} {l : List (List Int)} (h : Kd.C bitloftlaw42_alive.hK W A n hs) (hl : hs.length = l.length) (hr : ∀ (k : Nat) (x : List Int), l[k]? = some x → ∃ A' c, hs[k]? = some (A', x.length, c) ∧ x.length ≤ c ∧ Kd.C (Kd.int .u8) W A' x.length x) : Kd.C (Kd.slice 5 (Kd.int .u8)) W A n l := by
  obtain ⟨h1, h2, h3⟩ := h
  refine ⟨hl.symm.trans h1, h2, fun hp => ?_⟩
  obtain ⟨ad, rfl, h4⟩ := h3 hp
  refine ⟨ad, rfl, fun j p hj => ?_⟩
  obtain ⟨A', c, e1, e2, e3⟩ := hr j p hj
  obtain ⟨cs, c1, c2, c3⟩ := h4 j _ e1
  have c2' : cs = [bitloftlaw42_alive.hE (A', p.length, c)] := c2
  exact ⟨cs, c1, ⟨A', c, c2', e2, e3⟩, c3⟩
theorem bitloftlaw42_alive.of1 : parity_Of.f [[97, 98], [99]] = some ([0, 3, 2, 98], 0) := by kernel_rfl
theorem bitloftlaw42_alive.rep1 : parity_Repair.f [[], [99]] 0 [0, 3, 2, 98] = some ([97, 98], 0) := by kernel_rfl
theorem bitloftlaw42_alive.rep2 : parity_Repair.f [[97, 98], [97, 98]] 1 [0, 3, 2, 98] = some ([99], 0) := by kernel_rfl
theorem bitloftlaw42_alive.rep3 : parity_Repair.f [[122, 122], []] 1 [0, 3, 2, 98] = some ([], 12) := by kernel_rfl
theorem bitloftlaw42_alive.s1 : strOfNums [0, 3, 2, 98] = { data := #[0, 3, 2, 98] } := by kernel_rfl
theorem bitloftlaw42_alive.s2 : strOfNums [97, 98] = { data := #[97, 98] } := by kernel_rfl
theorem bitloftlaw42_alive.s3 : strOfNums [99] = { data := #[99] } := by kernel_rfl
theorem bitloftlaw42_alive.nilC (W : World) : Kd.C (Kd.int .u8) W none 0 ([] : List Int) := ⟨rfl, by simp, fun h => absurd h (by simp)⟩
/-- '[]byte("..")': its cells are read as they were laid. -/
theorem bitloftlaw42_alive.lit {P : Program} {ops : Array Oper} {Q : Exit → Act → World → Prop} {rest : List Oper} {o : Oper} {a : Act} {w : World} {e : TypeId} {C : Array Value} (l : List Int) (n : Nat) (hg : o.guard = none)
    (hrun : (execOp a.eval o).run P (w.alloc (.cells C e)) = .ok (.value (.slice (some ⟨w.heap.size, 0, none⟩) n n)) (w.alloc (.cells C e (C.size, C.size + 1)))) (hn : l.length = n) (hC : C.toList = l.map (Value.int .u8)) (hl : n ≤ 9223372036854775807)
    (h : ∀ w1, Kd.C (Kd.int .u8) w1 (some ⟨w.heap.size, 0, none⟩) n l → Below w.heap.size w w1 → wpList P ops Q rest (a.put o.dst (.slice (some ⟨w.heap.size, 0, none⟩) n n)) w1) : wpList P ops Q (o :: rest) a (w.alloc (.cells C e)) := by
  refine Kd.event_run hg hrun (h _ ?_ ((Below.refl _ _).alloc (Nat.le_refl _) _))
  refine Kd.C_of_reads (d := (0 : Int)) (h1 := fun _ => rfl) ⟨hn, hl, fun _ => ⟨_, rfl, fun j hj => ?_⟩⟩
  have e1 : (⟨w.heap.size, 0, none⟩ : Addr).add j = ⟨w.heap.size, j, none⟩ := by unfold Addr.add; split <;> simp_all
  rw [e1, World.cell?_alloc_mark, ← Array.getElem?_toList, hC, List.getElem?_map, List.getElem?_eq_getElem (by omega), Option.map_some, List.getD_eq_getElem?_getD, List.getElem?_eq_getElem (by omega)]
  rfl
/-- The chapter's examples hold. -/
def bitloftlaw42_alive.f : Option (Bool) := some true
set_option maxHeartbeats 1000000 in
theorem bitloftlaw42_alive.calls (r : Bool) (w : World) (h : bitloftlaw42_alive.f = some r) :
    Calls Tryd.prog 8 #[] w fun e w' => e = .returned (.bool r) ∧ Below w.heap.size w w' := by
  obtain rfl : true = r := by injection h
  clear h
  have HB0 := Aside0.mk (Below.refl w.heap.size w)
  have kc := fun (W : World) (C : Array Value) (n c : Nat) => Lib.run_convert_bytes_const (P := Tryd.prog) W 23 5 C n c Tryd.underlying23 Tryd.underlying5
  have KC := Aside0.mk kc
  clear kc
  go_enter Tryd.func8, Tryd.ntmps8
  go_wp2_with (first | ((with_reducible refine gate_dst (N := 11) rfl ?_); refine Kd.event_run (v := .slice (some ⟨w.heap.size, 0, none⟩) 2 2) (w1 := w.alloc (.cells #[.int .u8 97, .int .u8 98] 5)) ?hg0 ?hr0 ?_; (case hg0 => rfl); (case hr0 => first | (go_simp; done) | (go_simp; rfl)); refine bitloftlaw42_alive.lit (w := w) ([97, 98] : List Int) 2 ?hg ?hr ?hn ?hC ?hl ?_; (case hg => rfl); (case hr => have kc := KC.out; first | (go_simp; done) | (go_simp; rfl)); (case hn => rfl); (case hC => rfl); (case hl => decide); intro w1 hC hb; have Caw1 := Aside0.mk hC; clear hC; have HBw1 := Aside0.mk (below_step HB0.out hb); clear HB0; clear hb) | ((with_reducible refine gate_dst (N := 13) rfl ?_); refine Kd.event_run (v := .slice (some ⟨w1.heap.size, 0, none⟩) 1 1) (w1 := w1.alloc (.cells #[.int .u8 99] 5)) ?hg0 ?hr0 ?_; (case hg0 => rfl); (case hr0 => first | (go_simp; done) | (go_simp; rfl)); refine bitloftlaw42_alive.lit (w := w1) ([99] : List Int) 1 ?hg ?hr ?hn ?hC ?hl ?_; (case hg => rfl); (case hr => have kc := KC.out; first | (go_simp; done) | (go_simp; rfl)); (case hn => rfl); (case hC => rfl); (case hl => decide); intro w2 hC hb; have Cbw2 := Aside0.mk hC; clear hC; have HBw2 := Aside0.mk (below_step HBw1.out hb); have Caw2 := Aside0.mk (Kd.C_below Caw1.out hb); clear Caw1; clear HBw1; clear hb) | ((with_reducible refine gate_dst (N := 18) rfl ?_); refine Kd.R_lit bitloftlaw42_alive.hK (w0 := w2) w2.heap.size 23 ?hg (N := 18) ?hd (xs := [((some ⟨w.heap.size, 0, none⟩), 2, 2), ((some ⟨w1.heap.size, 0, none⟩), 1, 1)]) (inner := [.slice (some ⟨w.heap.size, 0, none⟩) 2 2, .slice (some ⟨w1.heap.size, 0, none⟩) 1 1]) (ok := fun _ => True) (okp := fun _ => True) ?hr ?hp (fun _ hk => hk) trivial (Below.refl _ _) (Nat.le_refl _) (by simp) ?_; (case hd => rfl); (case hg => rfl); (case hr => first | (go_simp; done) | (go_simp; rfl)); (case hp => exact (Reps.one (show Kd.M bitloftlaw42_alive.hK _ _ _ ((some ⟨w.heap.size, 0, none⟩), 2, 2) [.slice (some ⟨w.heap.size, 0, none⟩) 2 2] from rfl) (Reps.one (show Kd.M bitloftlaw42_alive.hK _ _ _ ((some ⟨w1.heap.size, 0, none⟩), 1, 1) [.slice (some ⟨w1.heap.size, 0, none⟩) 1 1] from rfl) (Reps.none _ _)))); intro vt1 w3 ho hb hg_ hnew_; clear hg_ hnew_; obtain ⟨At1, ct1, e_, hlt1, hC_⟩ := Kd.R_reads ho; replace e_ : vt1 = .slice At1 2 ct1 := e_; subst e_; clear ho; have HBw3 := Aside0.mk (below_step HBw2.out hb); have Caw3 := Aside0.mk (Kd.C_below Caw2.out hb); clear Caw2; have Cbw3 := Aside0.mk (Kd.C_below Cbw2.out hb); clear Cbw2; clear HBw2; have Ct1w3 : Aside0 (Kd.C (Kd.slice 5 (Kd.int .u8)) w3 At1 2 [([97, 98] : List Int), ([99] : List Int)]) := Aside0.mk (bitloftlaw42_alive.hC hC_ rfl (fun k x hx => by match k, hx with | 0, hx => (simp only [List.getElem?_cons_zero, List.getElem?_cons_succ, Option.some.injEq] at hx; subst hx; exact ⟨_, _, rfl, Nat.le_refl _, Caw3.out⟩) | 1, hx => (simp only [List.getElem?_cons_zero, List.getElem?_cons_succ, Option.some.injEq] at hx; subst hx; exact ⟨_, _, rfl, Nat.le_refl _, Cbw3.out⟩) | _ + 2, hx => (simp at hx))); clear hC_ hb) | (go_at_call 10; refine (parity_Of.calls At1 ct1 [([97, 98] : List Int), ([99] : List Int)] ([0, 3, 2, 98] : List Int) 0 w3 Ct1w3.out hlt1 bitloftlaw42_alive.of1).mono ?_; rintro e w4 ⟨v_, rfl, ho, hb⟩; obtain ⟨Ap, cp, e_, hlp, hC⟩ := Kd.R_reads ho; replace e_ : v_ = .slice Ap 4 cp := e_; subst e_; clear ho; have Cpw4 : Aside0 (Kd.C (Kd.int .u8) w4 Ap 4 ([0, 3, 2, 98] : List Int)) := Aside0.mk hC; clear hC Ct1w3; have HBw4 := Aside0.mk (below_step HBw3.out hb); have Caw4 := Aside0.mk (Kd.C_below Caw3.out hb); clear Caw3; have Cbw4 := Aside0.mk (Kd.C_below Cbw3.out hb); clear Cbw3; clear HBw3; clear hb) | ((with_reducible refine gate_dst (N := 24) rfl ?_); refine Kd.R_lit bitloftlaw42_alive.hK (w0 := w4) w4.heap.size 23 ?hg (N := 24) ?hd (xs := [(none, 0, 0), ((some ⟨w1.heap.size, 0, none⟩), 1, 1)]) (inner := [.slice none 0 0, .slice (some ⟨w1.heap.size, 0, none⟩) 1 1]) (ok := fun _ => True) (okp := fun _ => True) ?hr ?hp (fun _ hk => hk) trivial (Below.refl _ _) (Nat.le_refl _) (by simp) ?_; (case hd => rfl); (case hg => rfl); (case hr => first | (go_simp; done) | (go_simp; rfl)); (case hp => exact (Reps.one (show Kd.M bitloftlaw42_alive.hK _ _ _ (none, 0, 0) [.slice none 0 0] from rfl) (Reps.one (show Kd.M bitloftlaw42_alive.hK _ _ _ ((some ⟨w1.heap.size, 0, none⟩), 1, 1) [.slice (some ⟨w1.heap.size, 0, none⟩) 1 1] from rfl) (Reps.none _ _)))); intro vt2 w5 ho hb hg_ hnew_; clear hg_ hnew_; obtain ⟨At2, ct2, e_, hlt2, hC_⟩ := Kd.R_reads ho; replace e_ : vt2 = .slice At2 2 ct2 := e_; subst e_; clear ho; have HBw5 := Aside0.mk (below_step HBw4.out hb); have Caw5 := Aside0.mk (Kd.C_below Caw4.out hb); clear Caw4; have Cbw5 := Aside0.mk (Kd.C_below Cbw4.out hb); clear Cbw4; have Cpw5 := Aside0.mk (Kd.C_below Cpw4.out hb); clear Cpw4; clear HBw4; have Ct2w5 : Aside0 (Kd.C (Kd.slice 5 (Kd.int .u8)) w5 At2 2 [[], ([99] : List Int)]) := Aside0.mk (bitloftlaw42_alive.hC hC_ rfl (fun k x hx => by match k, hx with | 0, hx => (simp only [List.getElem?_cons_zero, List.getElem?_cons_succ, Option.some.injEq] at hx; subst hx; exact ⟨_, _, rfl, Nat.le_refl _, bitloftlaw42_alive.nilC _⟩) | 1, hx => (simp only [List.getElem?_cons_zero, List.getElem?_cons_succ, Option.some.injEq] at hx; subst hx; exact ⟨_, _, rfl, Nat.le_refl _, Cbw5.out⟩) | _ + 2, hx => (simp at hx))); clear hC_ hb) | (go_at_call 11; refine (parity_Repair.calls At2 ct2 [[], ([99] : List Int)] 0 Ap cp ([0, 3, 2, 98] : List Int) ([97, 98] : List Int) 0 w5 Ct2w5.out hlt2 Cpw5.out hlp bitloftlaw42_alive.rep1).mono ?_; rintro e w6 ⟨v_, rfl, ho, hb⟩; obtain ⟨Ax, cx, e_, hlx, hC⟩ := Kd.Q_reads ho; replace e_ : v_ = .slice Ax 2 cx := e_; subst e_; clear ho; have Cxw6 : Aside0 (Kd.C (Kd.int .u8) w6 Ax 2 ([97, 98] : List Int)) := Aside0.mk hC; clear hC Ct2w5; have HBw6 := Aside0.mk (below_step HBw5.out hb); have Caw6 := Aside0.mk (Kd.C_below Caw5.out hb); clear Caw5; have Cbw6 := Aside0.mk (Kd.C_below Cbw5.out hb); clear Cbw5; have Cpw6 := Aside0.mk (Kd.C_below Cpw5.out hb); clear Cpw5; clear HBw5; clear hb) | ((with_reducible refine gate_dst (N := 32) rfl ?_); refine Kd.R_lit bitloftlaw42_alive.hK (w0 := w6) w6.heap.size 23 ?hg (N := 32) ?hd (xs := [((some ⟨w.heap.size, 0, none⟩), 2, 2), ((some ⟨w.heap.size, 0, none⟩), 2, 2)]) (inner := [.slice (some ⟨w.heap.size, 0, none⟩) 2 2, .slice (some ⟨w.heap.size, 0, none⟩) 2 2]) (ok := fun _ => True) (okp := fun _ => True) ?hr ?hp (fun _ hk => hk) trivial (Below.refl _ _) (Nat.le_refl _) (by simp) ?_; (case hd => rfl); (case hg => rfl); (case hr => first | (go_simp; done) | (go_simp; rfl)); (case hp => exact (Reps.one (show Kd.M bitloftlaw42_alive.hK _ _ _ ((some ⟨w.heap.size, 0, none⟩), 2, 2) [.slice (some ⟨w.heap.size, 0, none⟩) 2 2] from rfl) (Reps.one (show Kd.M bitloftlaw42_alive.hK _ _ _ ((some ⟨w.heap.size, 0, none⟩), 2, 2) [.slice (some ⟨w.heap.size, 0, none⟩) 2 2] from rfl) (Reps.none _ _)))); intro vt3 w7 ho hb hg_ hnew_; clear hg_ hnew_; obtain ⟨At3, ct3, e_, hlt3, hC_⟩ := Kd.R_reads ho; replace e_ : vt3 = .slice At3 2 ct3 := e_; subst e_; clear ho; have HBw7 := Aside0.mk (below_step HBw6.out hb); have Caw7 := Aside0.mk (Kd.C_below Caw6.out hb); clear Caw6; have Cbw7 := Aside0.mk (Kd.C_below Cbw6.out hb); clear Cbw6; have Cpw7 := Aside0.mk (Kd.C_below Cpw6.out hb); clear Cpw6; have Cxw7 := Aside0.mk (Kd.C_below Cxw6.out hb); clear Cxw6; clear HBw6; have Ct3w7 : Aside0 (Kd.C (Kd.slice 5 (Kd.int .u8)) w7 At3 2 [([97, 98] : List Int), ([97, 98] : List Int)]) := Aside0.mk (bitloftlaw42_alive.hC hC_ rfl (fun k x hx => by match k, hx with | 0, hx => (simp only [List.getElem?_cons_zero, List.getElem?_cons_succ, Option.some.injEq] at hx; subst hx; exact ⟨_, _, rfl, Nat.le_refl _, Caw7.out⟩) | 1, hx => (simp only [List.getElem?_cons_zero, List.getElem?_cons_succ, Option.some.injEq] at hx; subst hx; exact ⟨_, _, rfl, Nat.le_refl _, Caw7.out⟩) | _ + 2, hx => (simp at hx))); clear hC_ hb) | (go_at_call 11; refine (parity_Repair.calls At3 ct3 [([97, 98] : List Int), ([97, 98] : List Int)] 1 Ap cp ([0, 3, 2, 98] : List Int) ([99] : List Int) 0 w7 Ct3w7.out hlt3 Cpw7.out hlp bitloftlaw42_alive.rep2).mono ?_; rintro e w8 ⟨v_, rfl, ho, hb⟩; obtain ⟨Ay, cy, e_, hly, hC⟩ := Kd.Q_reads ho; replace e_ : v_ = .slice Ay 1 cy := e_; subst e_; clear ho; have Cyw8 : Aside0 (Kd.C (Kd.int .u8) w8 Ay 1 ([99] : List Int)) := Aside0.mk hC; clear hC Ct3w7; have HBw8 := Aside0.mk (below_step HBw7.out hb); have Caw8 := Aside0.mk (Kd.C_below Caw7.out hb); clear Caw7; have Cbw8 := Aside0.mk (Kd.C_below Cbw7.out hb); clear Cbw7; have Cpw8 := Aside0.mk (Kd.C_below Cpw7.out hb); clear Cpw7; have Cxw8 := Aside0.mk (Kd.C_below Cxw7.out hb); clear Cxw7; clear HBw7; clear hb) | ((with_reducible refine gate_dst (N := 38) rfl ?_); refine Kd.event_run (v := .slice (some ⟨w8.heap.size, 0, none⟩) 2 2) (w1 := w8.alloc (.cells #[.int .u8 122, .int .u8 122] 5)) ?hg0 ?hr0 ?_; (case hg0 => rfl); (case hr0 => first | (go_simp; done) | (go_simp; rfl)); refine bitloftlaw42_alive.lit (w := w8) ([122, 122] : List Int) 2 ?hg ?hr ?hn ?hC ?hl ?_; (case hg => rfl); (case hr => have kc := KC.out; first | (go_simp; done) | (go_simp; rfl)); (case hn => rfl); (case hC => rfl); (case hl => decide); intro w9 hC hb; have Czw9 := Aside0.mk hC; clear hC; have HBw9 := Aside0.mk (below_step HBw8.out hb); have Caw9 := Aside0.mk (Kd.C_below Caw8.out hb); clear Caw8; have Cbw9 := Aside0.mk (Kd.C_below Cbw8.out hb); clear Cbw8; have Cpw9 := Aside0.mk (Kd.C_below Cpw8.out hb); clear Cpw8; have Cxw9 := Aside0.mk (Kd.C_below Cxw8.out hb); clear Cxw8; have Cyw9 := Aside0.mk (Kd.C_below Cyw8.out hb); clear Cyw8; clear HBw8; clear hb) | ((with_reducible refine gate_dst (N := 40) rfl ?_); refine Kd.R_lit bitloftlaw42_alive.hK (w0 := w9) w9.heap.size 23 ?hg (N := 40) ?hd (xs := [((some ⟨w8.heap.size, 0, none⟩), 2, 2), (none, 0, 0)]) (inner := [.slice (some ⟨w8.heap.size, 0, none⟩) 2 2, .slice none 0 0]) (ok := fun _ => True) (okp := fun _ => True) ?hr ?hp (fun _ hk => hk) trivial (Below.refl _ _) (Nat.le_refl _) (by simp) ?_; (case hd => rfl); (case hg => rfl); (case hr => first | (go_simp; done) | (go_simp; rfl)); (case hp => exact (Reps.one (show Kd.M bitloftlaw42_alive.hK _ _ _ ((some ⟨w8.heap.size, 0, none⟩), 2, 2) [.slice (some ⟨w8.heap.size, 0, none⟩) 2 2] from rfl) (Reps.one (show Kd.M bitloftlaw42_alive.hK _ _ _ (none, 0, 0) [.slice none 0 0] from rfl) (Reps.none _ _)))); intro vt4 w10 ho hb hg_ hnew_; clear hg_ hnew_; obtain ⟨At4, ct4, e_, hlt4, hC_⟩ := Kd.R_reads ho; replace e_ : vt4 = .slice At4 2 ct4 := e_; subst e_; clear ho; have HBw10 := Aside0.mk (below_step HBw9.out hb); have Caw10 := Aside0.mk (Kd.C_below Caw9.out hb); clear Caw9; have Cbw10 := Aside0.mk (Kd.C_below Cbw9.out hb); clear Cbw9; have Cpw10 := Aside0.mk (Kd.C_below Cpw9.out hb); clear Cpw9; have Cxw10 := Aside0.mk (Kd.C_below Cxw9.out hb); clear Cxw9; have Cyw10 := Aside0.mk (Kd.C_below Cyw9.out hb); clear Cyw9; have Czw10 := Aside0.mk (Kd.C_below Czw9.out hb); clear Czw9; clear HBw9; have Ct4w10 : Aside0 (Kd.C (Kd.slice 5 (Kd.int .u8)) w10 At4 2 [([122, 122] : List Int), []]) := Aside0.mk (bitloftlaw42_alive.hC hC_ rfl (fun k x hx => by match k, hx with | 0, hx => (simp only [List.getElem?_cons_zero, List.getElem?_cons_succ, Option.some.injEq] at hx; subst hx; exact ⟨_, _, rfl, Nat.le_refl _, Czw10.out⟩) | 1, hx => (simp only [List.getElem?_cons_zero, List.getElem?_cons_succ, Option.some.injEq] at hx; subst hx; exact ⟨_, _, rfl, Nat.le_refl _, bitloftlaw42_alive.nilC _⟩) | _ + 2, hx => (simp at hx))); clear hC_ hb) | (go_at_call 11; refine (parity_Repair.calls At4 ct4 [([122, 122] : List Int), []] 1 Ap cp ([0, 3, 2, 98] : List Int) [] 12 w10 Ct4w10.out hlt4 Cpw10.out hlp bitloftlaw42_alive.rep3).mono ?_; rintro e w11 ⟨v_, rfl, ho, hb⟩; obtain ⟨Au, cu, e_, hlu, hC⟩ := Kd.Q_reads ho; replace e_ : v_ = .slice Au 0 cu := e_; subst e_; clear ho; have Cuw11 : Aside0 (Kd.C (Kd.int .u8) w11 Au 0 ([] : List Int)) := Aside0.mk hC; clear hC Ct4w10; have HBw11 := Aside0.mk (below_step HBw10.out hb); have Caw11 := Aside0.mk (Kd.C_below Caw10.out hb); clear Caw10; have Cbw11 := Aside0.mk (Kd.C_below Cbw10.out hb); clear Cbw10; have Cpw11 := Aside0.mk (Kd.C_below Cpw10.out hb); clear Cpw10; have Cxw11 := Aside0.mk (Kd.C_below Cxw10.out hb); clear Cxw10; have Cyw11 := Aside0.mk (Kd.C_below Cyw10.out hb); clear Cyw10; have Czw11 := Aside0.mk (Kd.C_below Czw10.out hb); clear Czw10; clear HBw10; clear hb; have hcv1 := Kd.C_string (P := Tryd.prog) (A := Ap) (c := cp) Tryd.underlying23 Tryd.underlying5 Tryd.underlying9 Cpw11.out; rw [bitloftlaw42_alive.s1] at hcv1; have hcv2 := Kd.C_string (P := Tryd.prog) (A := Ax) (c := cx) Tryd.underlying23 Tryd.underlying5 Tryd.underlying9 Cxw11.out; rw [bitloftlaw42_alive.s2] at hcv2; have hcv3 := Kd.C_string (P := Tryd.prog) (A := Ay) (c := cy) Tryd.underlying23 Tryd.underlying5 Tryd.underlying9 Cyw11.out; rw [bitloftlaw42_alive.s3] at hcv3))
  go_ret
  exact ⟨rfl, HBw11.out⟩

/-! ### bitloftref42_Great: function 12 -/
mutual
def bitloftref42_Great.l0 : Nat → List (List Int) → Int → Int → Option (Bool)
 | 0, _, _, _ => none
 | k + 1, x0, x3, x4 => if x4 < (x0.length : Int) then (bitloftref42_Great.j1 k x0 x3 x4 (decide (x4 ≤ 100))) else (bitloftref42_Great.j1 k x0 x3 x4 false)
def bitloftref42_Great.j1 : Nat → List (List Int) → Int → Int → Bool → Option (Bool)
 | 0, _, _, _, _ => none
 | k + 1, x0, x3, x4, x12 => if x12 = true then (if 0 ≤ x4 then (if x4 < (x0.length : Int) then (if ((rd_L1 x0 x4).length : Int) ≤ 5000 then (bitloftref42_Great.l0 k x0 (wrap64 (x3 + ((rd_L1 x0 x4).length : Int))) (wrap64 (x4 + 1))) else (bitloftref42_Great.l0 k x0 x3 (wrap64 (x4 + 1)))) else (none)) else (none)) else (if x3 > 1000 then (some true) else (if (x0.length : Int) > 40 then (if (x0.length : Int) ≤ 100 then (some true) else (some (decide ((x0.length : Int) > 120)))) else (some (decide ((x0.length : Int) > 120)))))
end
def bitloftref42_Great.f (k : Nat) (l0 : List (List Int)) : Option (Bool) := bitloftref42_Great.l0 k l0 0 0
theorem bitloftref42_Great.mono_l : ∀ k, (∀ y0 y1 y2, LeO (bitloftref42_Great.l0 k y0 y1 y2) (bitloftref42_Great.l0 (k + 1) y0 y1 y2)) ∧ (∀ y0 y1 y2 y3, LeO (bitloftref42_Great.j1 k y0 y1 y2 y3) (bitloftref42_Great.j1 (k + 1) y0 y1 y2 y3))
 | 0 => ⟨fun _ _ _ r h => by simp [bitloftref42_Great.l0] at h, fun _ _ _ _ r h => by simp [bitloftref42_Great.j1] at h⟩
 | k + 1 => by
  obtain ⟨ih0, ih1⟩ := bitloftref42_Great.mono_l k; refine ⟨?_, ?_⟩
  ·
   intro y0 y1 y2
   unfold bitloftref42_Great.l0
   repeat' first
   | (with_reducible exact ih0 _ _ _)
   | (with_reducible exact ih1 _ _ _ _)
   | (with_reducible exact LeO.refl _)
   | (with_reducible exact LeO.none _)
   | (with_reducible refine LeO.ite ?_ ?_)
   | (with_reducible refine LeO.bind ?_ (fun _ => ?_))
   | exact ih0 _ _ _
   | exact ih1 _ _ _ _
   | exact LeO.none _
   | refine LeO.ite ?_ ?_
   | refine LeO.bind ?_ (fun _ => ?_)
  ·
   intro y0 y1 y2 y3
   unfold bitloftref42_Great.j1
   repeat' first
   | (with_reducible exact ih0 _ _ _)
   | (with_reducible exact ih1 _ _ _ _)
   | (with_reducible exact LeO.refl _)
   | (with_reducible exact LeO.none _)
   | (with_reducible refine LeO.ite ?_ ?_)
   | (with_reducible refine LeO.bind ?_ (fun _ => ?_))
   | exact ih0 _ _ _
   | exact ih1 _ _ _ _
   | exact LeO.none _
   | refine LeO.ite ?_ ?_
   | refine LeO.bind ?_ (fun _ => ?_)
theorem bitloftref42_Great.mono : ∀ a0 k, LeO (bitloftref42_Great.f k a0) (bitloftref42_Great.f (k + 1) a0) := by
 intro a0 k; obtain ⟨ih0, ih1⟩ := bitloftref42_Great.mono_l k
 unfold bitloftref42_Great.f
 repeat' first
   | (with_reducible exact ih0 _ _ _)
   | (with_reducible exact ih1 _ _ _ _)
   | (with_reducible exact LeO.refl _)
   | (with_reducible exact LeO.none _)
   | (with_reducible refine LeO.ite ?_ ?_)
   | (with_reducible refine LeO.bind ?_ (fun _ => ?_))
   | exact ih0 _ _ _
   | exact ih1 _ _ _ _
   | exact LeO.none _
   | refine LeO.ite ?_ ?_
   | refine LeO.bind ?_ (fun _ => ?_)
set_option maxHeartbeats 8000000 in
set_option maxRecDepth 100000 in
theorem bitloftref42_Great.calls (k : Nat) (A0 : Option Addr) (c0 : Nat) (l0 : List (List Int)) (r : Bool) (w : World) (hr0 : Kd.C (Kd.slice 5 (Kd.int .u8)) w A0 l0.length l0) (hc0 : l0.length ≤ c0) (h : bitloftref42_Great.f k l0 = some r) :
  Calls Tryd.prog 12 #[.slice A0 l0.length c0] w fun e w' => e = .returned (.bool r) ∧ Drawn0 w w' := by
 have HR0 := Aside0.mk hr0; have HC0 := Aside0.mk hc0; clear hr0 hc0; have H : (bitloftref42_Great.l0 k l0 0 0) = some r := h; clear h; have H' := Aside0.mk H; clear H
 go_enter Tryd.func12, Tryd.ntmps12
 go_wp2
 go_loopg [3, 4] k (fun kq v3 v4 w' => ∃ (x3_1 : Int) (x4_1 : Int), v3 = .int .i64 x3_1 ∧ v4 = .int .i64 x4_1 ∧ Aside0 (bitloftref42_Great.l0 kq l0 x3_1 x4_1 = some r) ∧ Aside0 (kq ≤ k) ∧ Drawn0 w w')
 case atStart => exact ⟨(0), (0), (by first | rfl | (simp; done) | (simp [*]; done)), (by first | rfl | (simp; done) | (simp [*]; done)), H', ⟨Nat.le_refl _⟩, by repeat (first | exact Drawn0.refl _ | apply Drawn0.step)⟩
 case round =>
  clear H'
  try clear c1
  obtain ⟨x3_1, x4_1, rfl, rfl, HA, HK1, ⟨m1, rfl⟩⟩ := hrel
  cases gk with
  | zero => exact absurd HA.out (by simp [bitloftref42_Great.l0])
  | succ k1 =>
   have H := HA.out; clear HA; simp only [bitloftref42_Great.l0] at H; have HC2 := Aside0.mk H; clear H
   go_upto_region 3 with (fail)
   (with_reducible first | refine then_id_ ?_ | (refine wp_tail_ ?_; intro Kt_ hKt_))
   go_cut [12] (fun v12 wc => ∃ (kq : Nat) (x12_1 : Bool), v12 = .bool x12_1 ∧ Aside0 (bitloftref42_Great.j1 kq l0 x3_1 x4_1 x12_1 = some r) ∧ Aside0 (kq ≤ k1) ∧ Drawn0 w wc)
   case first =>
    have H := HC2.out; clear HC2
    by_cases c3 : x4_1 < (l0.length : Int)
    ·
     rw [if_pos c3] at H; have c3b0 : decide (x4_1 < (l0.length : Int)) = true := decide_eq_true c3; clear c3; (first | rw [c3b0] | (simp only [i64_w, i32_w]; rw [c3b0]) | skip); have H' := Aside0.mk H; clear H
     go_wp2
     (first | go_meet | (refine Met.intro ?_; go_step; (repeat apply Exists.intro); refine ⟨?rel, ?eqf_⟩; case eqf_ => ((simp only [c3b0]) <;> rfl)))
     case rel => exact ⟨_, (decide (x4_1 ≤ 100)), (by first | rfl | (simp; done) | (simp [*]; done)), H', ⟨by have := HK1.out; first | omega | exact Nat.le_refl _⟩, by repeat (first | exact Drawn0.refl _ | apply Drawn0.step)⟩
    ·
     rw [if_neg c3] at H; have c3b0 : decide (x4_1 < (l0.length : Int)) = false := decide_eq_false c3; clear c3; (first | rw [c3b0] | (simp only [i64_w, i32_w]; rw [c3b0]) | skip); have H' := Aside0.mk H; clear H
     go_wp2
     (first | go_meet | (refine Met.intro ?_; go_step; (repeat apply Exists.intro); refine ⟨?rel, ?eqf_⟩; case eqf_ => ((simp only [c3b0]) <;> rfl)))
     case rel => exact ⟨_, (false), (by first | rfl | (simp; done) | (simp [*]; done)), H', ⟨by have := HK1.out; first | omega | exact Nat.le_refl _⟩, by repeat (first | exact Drawn0.refl _ | apply Drawn0.step)⟩
   case rest =>
    (try (refine hKt_ _ _ ?_; clear hKt_; clear Kt_)); clear HC2
    try clear c1
    try clear p2
    try clear c3
    try clear c3b0
    obtain ⟨kq, x12_1, rfl, HA, HJ1, ⟨mc1, rfl⟩⟩ := hcut
    cases kq with
    | zero => exact absurd HA.out (by simp [bitloftref42_Great.j1])
    | succ kj1 =>
     have H := HA.out; clear HA; simp only [bitloftref42_Great.j1] at H
     by_cases c4 : x12_1 = true
     ·
      subst c4
      have H1 : (if 0 ≤ x4_1 then (if x4_1 < (l0.length : Int) then (if ((rd_L1 l0 x4_1).length : Int) ≤ 5000 then (bitloftref42_Great.l0 kj1 l0 (wrap64 (x3_1 + ((rd_L1 l0 x4_1).length : Int))) (wrap64 (x4_1 + 1))) else (bitloftref42_Great.l0 kj1 l0 x3_1 (wrap64 (x4_1 + 1)))) else (none)) else (none)) = some r := by rw [if_pos rfl] at H; exact H
      clear H; have H := H1; clear H1
      by_cases c5 : 0 ≤ x4_1
      ·
       rw [if_pos c5] at H; have c5b0 : decide (0 ≤ x4_1) = true := decide_eq_true c5; clear c5
       by_cases c6 : x4_1 < (l0.length : Int)
       ·
        rw [if_pos c6] at H; have c6b0 : decide (x4_1 < (l0.length : Int)) = true := decide_eq_true c6; clear c6
        by_cases c7 : ((rd_L1 l0 x4_1).length : Int) ≤ 5000
        ·
         rw [if_pos c7] at H; have c7b0 : decide (((rd_L1 l0 x4_1).length : Int) ≤ 5000) = true := decide_eq_true c7; have c7b1 : decide ((rd_L1 l0 x4_1).length ≤ 5000) = true := decide_eq_true (by omega); clear c7; have H' := Aside0.mk H; clear H; have p105 : 0 ≤ (x4_1 : Int) := of_decide_eq_true (by first | (with_reducible assumption) | assumption); have q105 : x4_1 < (l0.length : Int) := of_decide_eq_true (by first | (with_reducible assumption) | assumption); obtain ⟨ad105, A105_0, c105_0, e105, hx105_0, hl105_0, hi105_0⟩ := at_L1 HR0.out x4_1 p105 q105
         cases e105
         have HR105_0 := Aside0.mk hi105_0; have HC105_0 := Aside0.mk hl105_0; clear hi105_0 hl105_0; replace p105 := eq_true p105; replace q105 := eq_true q105; have p106 : 0 ≤ (x4_1 : Int) := of_decide_eq_true (by first | (with_reducible assumption) | assumption); have q106 : x4_1 < (l0.length : Int) := of_decide_eq_true (by first | (with_reducible assumption) | assumption); obtain ⟨ad106, A106_0, c106_0, e106, hx106_0, hl106_0, hi106_0⟩ := at_L1 HR0.out x4_1 p106 q106; obtain rfl : ad105 = ad106 := (by injection e106); have HR106_0 := Aside0.mk hi106_0; have HC106_0 := Aside0.mk hl106_0; clear hi106_0 hl106_0; replace p106 := eq_true p106; replace q106 := eq_true q106; have ea_ := Option.some.inj (hx105_0.symm.trans hx106_0)
         injection ea_ with ea_ en_ ec_
         subst ea_
         subst ec_
         clear en_
         go_wp2
         go_roundg kj1
         case measure => have := HK1.out; have := HJ1.out; omega
         case rel => exact ⟨(wrap64 (x3_1 + ((rd_L1 l0 x4_1).length : Int))), (wrap64 (x4_1 + 1)), (by first | rfl | (simp; done) | (simp [*]; done)), (by first | rfl | (simp; done) | (simp [*]; done)), H', ⟨by have := HK1.out; have := HJ1.out; omega⟩, by repeat (first | exact Drawn0.refl _ | apply Drawn0.step)⟩
        ·
         rw [if_neg c7] at H; have c7b0 : decide (((rd_L1 l0 x4_1).length : Int) ≤ 5000) = false := decide_eq_false c7; have c7b1 : decide ((rd_L1 l0 x4_1).length ≤ 5000) = false := decide_eq_false (by omega); clear c7; have H' := Aside0.mk H; clear H; have p105 : 0 ≤ (x4_1 : Int) := of_decide_eq_true (by first | (with_reducible assumption) | assumption); have q105 : x4_1 < (l0.length : Int) := of_decide_eq_true (by first | (with_reducible assumption) | assumption); obtain ⟨ad105, A105_0, c105_0, e105, hx105_0, hl105_0, hi105_0⟩ := at_L1 HR0.out x4_1 p105 q105
         cases e105
         have HR105_0 := Aside0.mk hi105_0; have HC105_0 := Aside0.mk hl105_0; clear hi105_0 hl105_0; replace p105 := eq_true p105; replace q105 := eq_true q105
         go_wp2
         go_roundg kj1
         case measure => have := HK1.out; have := HJ1.out; omega
         case rel => exact ⟨(x3_1), (wrap64 (x4_1 + 1)), (by first | rfl | (simp; done) | (simp [*]; done)), (by first | rfl | (simp; done) | (simp [*]; done)), H', ⟨by have := HK1.out; have := HJ1.out; omega⟩, by repeat (first | exact Drawn0.refl _ | apply Drawn0.step)⟩
       ·
        rw [if_neg c6] at H; exact absurd H (by simp)
      ·
       rw [if_neg c5] at H; exact absurd H (by simp)
     ·
      replace c4 := Bool.eq_false_iff.mpr c4
      subst c4
      have H1 : (if x3_1 > 1000 then (some true) else (if (l0.length : Int) > 40 then (if (l0.length : Int) ≤ 100 then (some true) else (some (decide ((l0.length : Int) > 120)))) else (some (decide ((l0.length : Int) > 120))))) = some r := by rw [if_neg (show ¬ (false = true) by decide)] at H; exact H
      clear H; have H := H1; clear H1
      by_cases c8 : x3_1 > 1000
      ·
       rw [if_pos c8] at H; have c8b0 : decide (1000 < x3_1) = true := decide_eq_true c8; clear c8; obtain rfl := Option.some.inj H
       go_wp2
       go_ret
       exact ⟨by first | rfl | (simp; done) | (simp [*]; done), by repeat (first | exact Drawn0.refl _ | apply Drawn0.step)⟩
      ·
       rw [if_neg c8] at H; have c8b0 : decide (1000 < x3_1) = false := decide_eq_false c8; clear c8
       by_cases c9 : (l0.length : Int) > 40
       ·
        rw [if_pos c9] at H; have c9b0 : decide (40 < (l0.length : Int)) = true := decide_eq_true c9; have c9b1 : decide (40 < l0.length) = true := decide_eq_true (by omega); clear c9
        by_cases c10 : (l0.length : Int) ≤ 100
        ·
         rw [if_pos c10] at H; have c10b0 : decide ((l0.length : Int) ≤ 100) = true := decide_eq_true c10; have c10b1 : decide (l0.length ≤ 100) = true := decide_eq_true (by omega); clear c10; obtain rfl := Option.some.inj H
         go_wp2
         go_ret
         exact ⟨by first | rfl | (simp; done) | (simp [*]; done), by repeat (first | exact Drawn0.refl _ | apply Drawn0.step)⟩
        ·
         rw [if_neg c10] at H; have c10b0 : decide ((l0.length : Int) ≤ 100) = false := decide_eq_false c10; have c10b1 : decide (l0.length ≤ 100) = false := decide_eq_false (by omega); clear c10; obtain rfl := Option.some.inj H
         go_wp2
         go_ret
         exact ⟨by first | rfl | (simp; done) | (simp [*]; done), by repeat (first | exact Drawn0.refl _ | apply Drawn0.step)⟩
       ·
        rw [if_neg c9] at H; have c9b0 : decide (40 < (l0.length : Int)) = false := decide_eq_false c9; have c9b1 : decide (40 < l0.length) = false := decide_eq_false (by omega); clear c9; obtain rfl := Option.some.inj H
        go_wp2
        go_ret
        exact ⟨by first | rfl | (simp; done) | (simp [*]; done), by repeat (first | exact Drawn0.refl _ | apply Drawn0.step)⟩

-- NOT PRINTED: function 47 (slices_Chunk_byte_byte)

/-! ### parity_groups: function 29 -/
section GroupsS
open Go.Shelf
attribute [local go_sem] Oper.semAt_some
abbrev parity_groups.hE (x : Option Addr × Nat × Nat) : Value := .slice x.1 x.2.1 x.2.2
/-- The head of the chunk that begins at i. -/
def parity_groups.hdr (A0 : Option Addr) (len g i : Nat) : Option Addr × Nat × Nat := (A0.map (·.add (i * 1)), min g (len - i), min g (len - i))
def parity_groups.upto (A0 : Option Addr) (len g k : Nat) : List (Option Addr × Nat × Nat) := (List.range k).map fun j => parity_groups.hdr A0 len g (j * g)
theorem parity_groups.upto_succ (A0 : Option Addr) (len g k : Nat) : parity_groups.upto A0 len g (k + 1) = parity_groups.upto A0 len g k ++ [parity_groups.hdr A0 len g (k * g)] := by simp [parity_groups.upto, List.range_succ]
theorem parity_groups.upto_length (A0 : Option Addr) (len g k : Nat) : (parity_groups.upto A0 len g k).length = k := by simp [parity_groups.upto]
/-- What a round keeps: the blocks below n₀ but one. -/
def parity_groups.Kp (n₀ O : Nat) (W W' : World) : Prop := ∀ k, k < n₀ → k ≠ O → W'.heap[k]? = W.heap[k]?
theorem parity_groups.Kp_t {n₀ O : Nat} {A B C : World} (h : parity_groups.Kp n₀ O A B) (k : parity_groups.Kp n₀ O B C) : parity_groups.Kp n₀ O A C := fun j h1 h2 => (k j h1 h2).trans (h j h1 h2)
theorem parity_groups.Kp_b {n₀ O : Nat} {w : World} (hn : n₀ ≤ w.heap.size) (W : World) (l : Nat) (o o' : Obj) (hl : w.heap.size ≤ l) (h : W.heap[l]? = some o) (_ : o.isCells = false) (_ : o.isWalk = false) : parity_groups.Kp n₀ O W (W.putObj l o') := fun k h1 _ => World.putObj_heap_other (by omega)
theorem parity_groups.cut3 {P : Program} (t e : TypeId) {i : TypeInfo} (ht : P.underlying t = some (.slice e)) (hi : P.info? e = some i) (hsz : i.size = 1) (A : Option Addr) (n c j m : Nat) (h0 : 0 < m) (h1 : j + m ≤ c) :
    ∀ W : World, (Instr.slice t (.slice A n c) (some (.int .i64 (j : Int))) (some (.int .i64 ((j : Int) + (m : Int)))) (some (.int .i64 ((j : Int) + (m : Int))))).run P W = .ok (.slice (A.map (·.add (j * 1))) m m) W := by
  intro W
  have hel : P.elem t = e := by simp [Program.elem, ht]
  have hu : P.underlying t = some (.slice (P.elem t)) := by rw [hel]; exact ht
  have e1 : ((j : Int) + (m : Int)).toNat = j + m := by omega
  have e2 : j + m - j = m := by omega
  have e3 : ¬ j + m = j := by omega
  rw [run_slice_lhm W t A n c hu .i64 .i64 .i64 _ _ _ (by omega) (by omega) (by omega) (by omega), hel]
  simp [sizeOf, typeInfo, hi, hsz, sliced, Result.andThen, e1, e2, e3]
  omega
set_option maxRecDepth 100000 in
set_option maxHeartbeats 2000000 in
/-- slices.Chunk's closure, at whatever loop body keeps its two variables. -/
theorem parity_groups.chunk1 (F : Fence) (n : Nat) (h54 : F.fn 54) (hro : F.round = none) (hn : 1 ≤ n) (l Bs Bn O n₀ : Nat) (A0 : Option Addr) (len cap g : Nat) (hg1 : 1 ≤ g) (hg2 : g ≤ 1000) (hlen : len ≤ 1000000) (hlc : len ≤ cap) (hb1 : Bs < n₀) (hb2 : Bs ≠ O) (hb3 : Bn < n₀) (hb4 : Bn ≠ O) (K : Nat) (hK : ∀ k, k * g < len ↔ k < K) (J Jx : List (Option Addr × Nat × Nat) → World → Prop)
    (hJd : ∀ s W q, J s W → J s (W.drewN q))
    (hY : ∀ pre x W, J pre W → pre.length < K → YieldAt F (n - 1) Tryd.prog l #[parity_groups.hE x] W fun e W' =>
      (e = .returned (.bool true) ∧ J (pre ++ [x]) W' ∧ parity_groups.Kp n₀ O W W') ∨ (e = .returned (.bool false) ∧ Jx (pre ++ [x]) W'))
    (W : World) (hBs : W.heap[Bs]? = some (.cells #[.slice A0 len cap] 22 (0, 0))) (hBn : W.heap[Bn]? = some (.cells #[.int .i64 g] 3 (0, 0))) (h0 : J [] W) :
    CallsIn F n Tryd.prog 54 #[.func (.yield l) #[] #[], .pointer (some ⟨Bs, 0, none⟩), .pointer (some ⟨Bn, 0, none⟩)] W fun e W' => (∃ v, e = .returned v) ∧
      ((∃ ys, ys = parity_groups.upto A0 len g K ∧ J ys W') ∨ (∃ pre, True ∧ Jx pre W')) := by
  obtain ⟨i0, hi0, _, hsz, _⟩ := info_parts (show (Tryd.prog.info? 23).map (fun i => (i.zero, i.size, i.bytes)) = some (some (.slice none 0 0), 1, 24) from by kernel_rfl)
  have HY := Aside0.mk hY
  have HK := Aside0.mk hK
  have HJ := Aside0.mk hJd
  clear hY hK hJd
  refine callsIn_of_wp Tryd.func54 rfl h54 ?_ hro
  simp only [Tryd.ntmps54, List.size_toArray, List.length_cons, List.length_nil, Nat.reduceAdd, Nat.reduceSub, Array.replicate_succ, Array.replicate_zero, List.push_toArray, List.append_toArray, List.nil_append, List.cons_append]
  gi_wp2
  gi_loopw [4, 5] (fun i _ wr => ∃ k : Nat, k ≤ K ∧ i = .int .i64 ((k * g : Nat) : Int) ∧ Aside0 (J (parity_groups.upto A0 len g k) wr) ∧ wr.heap[Bs]? = some (.cells #[.slice A0 len cap] 22 (0, 0)) ∧ wr.heap[Bn]? = some (.cells #[.int .i64 g] 3 (0, 0)))
    (fun i _ _ => len + g - (intOf i).toNat)
  case atStart => exact ⟨0, Nat.zero_le _, by simp, Aside0.mk h0, hBs, hBn⟩
  case round =>
    obtain ⟨k, hk, rfl, hJs, hS, hN⟩ := hrel
    have hcs : wr.cell? ⟨Bs, 0, none⟩ = some (.slice A0 len cap) := (blk_cell hS 0).trans rfl
    have hcn : wr.cell? ⟨Bn, 0, none⟩ = some (.int .i64 g) := (blk_cell hN 0).trans rfl
    clear hBs hBn h0
    by_cases hlt : k * g < len
    · obtain ⟨i, hi⟩ : ∃ i, i = k * g := ⟨_, rfl⟩
      obtain ⟨e, he⟩ : ∃ e, e = min g (len - i) := ⟨_, rfl⟩
      obtain ⟨A1, hA1⟩ : ∃ A1 : Option Addr, A1 = A0.map (·.add (i * 1)) := ⟨_, rfl⟩
      have hk1 : k < K := (HK.out k).mp hlt
      rw [← hi] at hlt ⊢
      have he1 : 0 < e := by omega
      have hie : i + e ≤ len := by omega
      have hcut := cut_from (P := Tryd.prog) 22 23 .i64 Tryd.underlying22 hi0 1 hsz A0 len cap (i : Int) (by omega) (by omega)
      rw [Int.toNat_natCast, if_neg (by omega)] at hcut
      have hcut2 := parity_groups.cut3 (P := Tryd.prog) 22 23 Tryd.underlying22 hi0 hsz A0 len cap i e he1 (by omega)
      have HU : Aside0 (parity_groups.upto A0 len g (k + 1) = parity_groups.upto A0 len g k ++ [(A1, e, e)]) := ⟨by rw [parity_groups.upto_succ, ← hi, hA1, he]; rfl⟩
      have HI : Aside0 ((k + 1) * g = i + g) := ⟨by rw [Nat.succ_mul, hi]⟩
      have HE := Aside0.mk he
      rw [← hA1] at hcut hcut2
      have hlz : (i : Int) < (len : Int) := by omega
      have hmin : (if len - i < g then ((len - i : Nat) : Int) else (g : Int)) = (e : Int) := by split <;> omega
      clear hi he hA1 hi0 hsz
      gi_wp2
      have HM := Aside0.mk hmin
      clear hmin
      gi_region
      all_goals
        rw [HM.out]
        have hcs' : wr.drew.cell? ⟨Bs, 0, none⟩ = some (.slice A0 len cap) := hcs
        have hcn' : wr.drew.cell? ⟨Bn, 0, none⟩ = some (.int .i64 g) := hcn
        obtain ⟨fn, tmps, assign, body, hy, hR⟩ := HY.out (parity_groups.upto A0 len g k) (A1, e, e) wr.drew (HJ.out _ wr 1 hJs.out) (by rw [parity_groups.upto_length]; exact hk1)
        dsimp only [parity_groups.hE] at hy
        have hie2 : (i : Int) + (e : Int) ≤ 9223372036854775807 := by omega
        gi_wp2
        refine hR.mono ?_
        rintro e' W3 (⟨rfl, hJ3, hk3⟩ | ⟨rfl, hJx3⟩)
        · have hS3 : W3.heap[Bs]? = some (.cells #[.slice A0 len cap] 22 (0, 0)) := (hk3 Bs hb1 hb2).trans hS
          have hN3 : W3.heap[Bn]? = some (.cells #[.int .i64 g] 3 (0, 0)) := (hk3 Bn hb3 hb4).trans hN
          have hcs3 : W3.cell? ⟨Bs, 0, none⟩ = some (.slice A0 len cap) := (blk_cell hS3 0).trans rfl
          have hcn3 : W3.cell? ⟨Bn, 0, none⟩ = some (.int .i64 g) := (blk_cell hN3 0).trans rfl
          have hig : (i : Int) + (g : Int) ≤ 9223372036854775807 := by omega
          have HJ3 := Aside0.mk hJ3
          clear hJ3 hk3
          gi_wp2
          go_roundw
          case rel => exact ⟨k + 1, by omega, by rw [HI.out]; go_num, by rw [HU.out]; exact HJ3, hS3, hN3⟩
          case measure => simp [intOf]; omega
        · gi_wp2
          refine bodyPost_ret (results_none rfl _ _ _) rfl ?_
          exact ⟨⟨_, rfl⟩, by first | exact .inr ⟨_, trivial, hJx3⟩ | exact .inr ⟨_, hJx3⟩⟩
    · have : k = K := by
        have hnk : ¬ k < K := fun h => hlt ((HK.out k).mpr h)
        omega
      subst this
      have hltz : ¬ ((k * g : Nat) : Int) < (len : Int) := by omega
      gi_wp2
      go_end0
      exact ⟨⟨_, rfl⟩, by first | exact .inl ⟨_, rfl, hJs.out⟩ | exact .inl hJs.out⟩
/-- What a round leaves, the row told from n₀ on. -/
theorem parity_groups.appended {W w1 : World} {n₀ B m0 : Nat} {t e : TypeId} {v v' : Value} {k m : Nat} {xs ys : List Value} {tmp : Obj} (hv : Boxed W B t v) (hte : t ≠ e) (hrow : W.ownsRow n₀ e 1 v k xs) (hown' : w1.ownsRow n₀ e 1 v' m ys) (hgrow : (W.alloc tmp).grownBy w1 v.ownBlock) (hs : n₀ ≤ W.heap.size) (hB : m0 ≤ B) (hm : m0 ≤ n₀) :
    Boxed w1 B t v ∧ Boxed (w1.setCell ⟨B, 0, none⟩ v') B t v' ∧ (w1.setCell ⟨B, 0, none⟩ v').ownsRow n₀ e 1 v' m ys ∧ KeepsOthers W (w1.setCell ⟨B, 0, none⟩ v') ∧ Below m0 W (w1.setCell ⟨B, 0, none⟩ v') ∧ parity_groups.Kp n₀ B W (w1.setCell ⟨B, 0, none⟩ v') := by
  obtain ⟨a, b, _, d, hb⟩ := Boxed.appended (n₀ := 0) hv hte (own_weaken hrow (Nat.zero_le _)) (Nat.zero_le _) (Nat.zero_le _) (own_weaken hown' (Nat.zero_le _)) hgrow
  have hk : parity_groups.Kp n₀ B W (w1.setCell ⟨B, 0, none⟩ v') := fun k h1 h2 => by
    have h3 : (W.alloc tmp).heap[k]? = W.heap[k]? := by
      show (W.heap.push tmp)[k]? = _
      rw [Array.getElem?_push, if_neg (by omega)]
    rw [Below.heap_setCell _ _ _ k h2, hgrow.block k (by rw [World.size_alloc]; omega) (fun e => by have := own_base hrow k e.symm; omega), h3]
  exact ⟨a, b, hown'.kept (grownBy_setCell' w1 B v') (.inr (a.not_row hte hown').symm), d, ⟨hb.os, hb.tape, hb.output, hb.size, fun k h => hk k (by omega) (by omega)⟩, hk⟩
set_option maxRecDepth 100000 in
set_option maxHeartbeats 1000000 in
theorem parity_groups.chunk0 (F : Fence) (n : Nat) (h47 : F.fn 47) (hro : F.round = none) (A0 : Option Addr) (len cap g : Nat) (hg1 : 1 ≤ g) (w : World) :
    CallsIn F n Tryd.prog 47 #[.slice A0 len cap, .int .i64 g] w fun e w' => e = .returned (.func (.func 54) #[] #[.pointer (some ⟨w.heap.size, 0, none⟩), .pointer (some ⟨w.heap.size + 1, 0, none⟩)]) ∧ w' = (w.alloc (.cells #[.slice A0 len cap] 22)).alloc (.cells #[.int .i64 g] 3) := by
  have hgz : ¬ (g : Int) < 1 := by omega
  refine callsIn_of_wp Tryd.func47 rfl h47 ?_ hro
  simp only [Tryd.ntmps47, List.size_toArray, List.length_cons, List.length_nil, Nat.reduceAdd, Nat.reduceSub, Array.replicate_succ, Array.replicate_zero, List.push_toArray, List.append_toArray, List.nil_append, List.cons_append]
  gi_wp2
  go_ret
  exact ⟨rfl, rfl⟩
/-- The closure as a sequence that stops. -/
theorem parity_groups.stops (F : Fence) (n : Nat) (h54 : F.fn 54) (hro : F.round = none) (hn : 1 ≤ n) (Bs Bn O n₀ : Nat) (A0 : Option Addr) (len cap g : Nat) (hg1 : 1 ≤ g) (hg2 : g ≤ 1000) (hlen : len ≤ 1000000) (hlc : len ≤ cap) (hb1 : Bs < n₀) (hb2 : Bs ≠ O) (hb3 : Bn < n₀) (hb4 : Bn ≠ O) (K : Nat) (hK : ∀ k, k * g < len ↔ k < K) (w : World) (hw : n₀ ≤ w.heap.size)
    (hBs : w.heap[Bs]? = some (.cells #[.slice A0 len cap] 22 (0, 0))) (hBn : w.heap[Bn]? = some (.cells #[.int .i64 g] 3 (0, 0))) :
    SeqStopsK F n Tryd.prog 54 #[.pointer (some ⟨Bs, 0, none⟩), .pointer (some ⟨Bn, 0, none⟩)] (fun x : Option Addr × Nat × Nat => #[parity_groups.hE x]) (parity_groups.Kp n₀ O) (fun ys => ys = parity_groups.upto A0 len g K) (fun _ => True) K w := fun l J Jx W hW hJ _ hY h0 =>
  parity_groups.chunk1 F n h54 hro hn l Bs Bn O n₀ A0 len cap g hg1 hg2 hlen hlc hb1 hb2 hb3 hb4 K hK J Jx (fun s X q hs => hJ s X _ none hs ⟨rfl, rfl, rfl, Nat.le_refl _, fun _ _ _ => rfl⟩ (fun r e => by cases e)) hY W ((hW.block Bs (by omega)).trans hBs) ((hW.block Bn (by omega)).trans hBn) h0
set_option maxRecDepth 100000 in
set_option maxHeartbeats 2000000 in
theorem parity_groups.grp (F : Fence) (n : Nat) (h29 : F.fn 29) (h47 : F.fn 47) (h54 : F.fn 54) (hro : F.round = none) (hn : 3 ≤ n) (A0 : Option Addr) (len cap g : Nat) (hg1 : 1 ≤ g) (hg2 : g ≤ 1000) (hlen : len ≤ 1000000) (hlc : len ≤ cap) (K : Nat) (hK : ∀ k, k * g < len ↔ k < K) (hKl : K ≤ 1000000) (w : World) :
    CallsIn F n Tryd.prog 29 #[.slice A0 len cap, .int .i64 g] w fun e W' => ∃ v, e = .returned v ∧ W'.ownsRow w.heap.size 22 1 v K ((parity_groups.upto A0 len g K).map parity_groups.hE) ∧ Below w.heap.size w W' := by
  have h1 : 1 ≤ n := by omega
  obtain ⟨i0, hi, hz0, hz1, hz2⟩ := info_parts (show (Tryd.prog.info? 22).map (fun i => (i.zero, i.size, i.bytes)) = some (some (.slice none 0 0), 1, 24) from by kernel_rfl)
  have HK := Aside0.mk hK
  clear hK
  refine callsIn_of_wp_marks Tryd.func29 rfl h29 ?_ hro
  simp only [Tryd.ntmps29, List.size_toArray, List.length_cons, List.length_nil, Nat.reduceAdd, Nat.reduceSub, Array.replicate_succ, Array.replicate_zero, List.push_toArray, List.append_toArray, List.nil_append, List.cons_append]
  gi_wp2_with (gi_at_call 47; refine (parity_groups.chunk0 F (n - 1) h47 hro _ _ _ _ hg1 _).mono ?_; rintro e w' ⟨rfl, rfl⟩)
  have bO := Boxed.new w 57 (.slice none 0 0)
  have bS := Boxed.new (w.alloc (.cells #[.slice none 0 0] 57)) 22 (.slice A0 len cap)
  have bN := Boxed.new ((w.alloc (.cells #[.slice none 0 0] 57)).alloc (.cells #[.slice A0 len cap] 22)) 3 (.int .i64 g)
  simp only [World.size_alloc] at bS bN
  have hB0 : Below w.heap.size w (((w.alloc (.cells #[.slice none 0 0] 57)).alloc (.cells #[.slice A0 len cap] 22)).alloc (.cells #[.int .i64 g] 3)) := (((Below.refl _ w).alloc (Nat.le_refl _) _).alloc (by simp) _).alloc (by simp; omega) _
  refine wpIn_rangeFunc_ownG hro h1 (gf := 54) (lb := #[.pointer (some ⟨w.heap.size + 1, 0, none⟩), .pointer (some ⟨w.heap.size + 1 + 1, 0, none⟩)]) (by first | rfl | simp) h54 (enters_of Tryd.func54 (by kernel_rfl) rfl)
    (parity_groups.stops F (n - 1) h54 hro (by omega) (w.heap.size + 1) (w.heap.size + 1 + 1) w.heap.size (w.heap.size + 3) A0 len cap g hg1 hg2 hlen hlc (by omega) (by omega) (by omega) (by omega) K HK.out _ (by simp) (bS.alloc _) bN) parity_groups.Kp_t (parity_groups.Kp_b (by simp)) (Below.refl _ _) (fun _ => rfl)
    (fun pre W => (∃ v, Boxed W w.heap.size 57 v ∧ W.ownsRow (w.heap.size + 3) 22 1 v pre.length (pre.map parity_groups.hE) ∧ True) ∧ Below w.heap.size w W ∧ w.heap.size + 3 ≤ W.heap.size)
    (fun _ _ _ => False)
    (OwnFrom.and (Own.from (holdsRow_own (w.heap.size + 3) w.heap.size 57 22 1 (fun pre : List (Option Addr × Nat × Nat) => pre.length) (fun pre => pre.map parity_groups.hE) (fun _ _ => True)) _) (OwnFrom.and (ownFrom_below (Nat.le_refl _) (by simp; omega)) (fun s W W' row hs hg _ => Nat.le_trans hs hg.size)))
    (fun _ _ _ _ _ hs _ _ => hs)
    ⟨⟨_, (bO.alloc _).alloc _, World.ownsRow_nil _ _ _ _, trivial⟩, hB0, by simp⟩
    (fun x => { tmps := #[.slice A0 len cap, .int .i64 g, undef, undef, .slice none 0 0, .pointer (some ⟨w.heap.size, 0, none⟩), parity_groups.hE x, .slice A0 len cap, .int .i64 g, .func (.func 54) #[] #[.pointer (some ⟨w.heap.size + 1, 0, none⟩), .pointer (some ⟨w.heap.size + 1 + 1, 0, none⟩)], parity_groups.hE x, undef, undef, undef, undef, undef], defers := [] }) ?assign ?body ?done ?stop
  case assign =>
    intro l x W K hK
    gi_wp2
    exact hK
  case body =>
    rintro l pre ⟨xa, xl, xc⟩ W ⟨⟨v, hv, hrow, _⟩, hB, hsz⟩ hlt
    dsimp only [parity_groups.hE]
    have hc := hv.cell
    have hpl : pre.length < 1000000 := by omega
    gi_wp2_with (gi_at_builtin; refine wpListIn_append_own _ rfl _ _ 57 rfl (w.heap.size + 3) 22 i0 (.slice none 0 0) 1 24 Tryd.underlying57 hi hz0 hz1 hz2 rfl (by decide) _ _ _ rfl (hrow.alloc _) ⟨W.heap.size, 0, none⟩ 1 1 [.slice xa xl xc] rfl rfl (cell_one_new _ _ _) (by simp [Value.oneCell']) (by unfold maxLen; omega) (by omega) (by simp; omega) ?_; intro v' w1 hown' hgrow _; obtain ⟨g', cap', rfl⟩ := ownsRow_succ hown'; obtain ⟨hv1, hv2, hr2, hk2, hb2, hkp⟩ := parity_groups.appended (m0 := w.heap.size) hv (by decide) hrow hown' hgrow hsz (Nat.le_refl _) (by omega); have hc1 := hv1.cell; have hf1 := hv1.frozen)
    exact ⟨hk2.from _, hkp, ⟨_, hv2, by simpa using hr2, trivial⟩, hB.trans hb2, Nat.le_trans hsz hb2.size⟩
  case done =>
    rintro D ys W hD rfl ⟨⟨v, hv, hrow, _⟩, hB, hsz⟩ hK
    have hc := hv.cell
    gi_wp2
    refine ⟨by simp, .inl ⟨_, _, rfl, run_takeDeferred hK, ?_⟩⟩
    rw [parity_groups.upto_length] at hrow
    exact ⟨_, results_tmp rfl _ _ _, v, rfl, ownsRow_putObj (own_weaken hrow (by omega)) _ hK rfl, hB.trans (belowK_b (w := w) (Nat.le_refl _) W D _ _ (by simp at hD; omega) hK rfl rfl)⟩
  case stop =>
    rintro D c pre W _ _ h _
    exact h.elim
end GroupsS
theorem parity_groups.reps1 (hs : List (Option Addr × Nat × Nat)) : Reps (fun x cs => cs = x ∧ cs.length = 1 ∧ ∀ u ∈ cs, u.oneCell' = true) 1 (hs.map fun h => [parity_groups.hE h]) (hs.map parity_groups.hE) := by
  refine ⟨by simp, fun j p hj => ?_⟩
  rw [List.getElem?_map] at hj
  obtain ⟨x, hx, rfl⟩ := Option.map_eq_some_iff.mp hj
  obtain ⟨hjl, rfl⟩ := List.getElem?_eq_some_iff.mp hx
  have e : ((hs.map parity_groups.hE).drop (j * 1)).take 1 = [parity_groups.hE hs[j]] := by
    rw [Nat.mul_one, List.drop_eq_getElem_cons (by simpa using hjl), List.getElem_map]
    rfl
  rw [e]
  exact ⟨rfl, rfl, fun u hu => by rw [List.mem_singleton.mp hu]; rfl⟩
/-- The groups of a list. -/
def parity_groups.chunks (l : List (List Int)) (g : Nat) : List (List (List Int)) := (List.range ((l.length + g - 1) / g)).map fun k => (l.drop (k * g)).take g
def parity_groups.f (l0 : List (List Int)) (a1 : Int) : Option (List (List (List Int))) := if 1 ≤ a1 ∧ a1 ≤ 1000 ∧ l0.length ≤ 1000000 then some (parity_groups.chunks l0 a1.toNat) else none
theorem parity_groups.count (len g : Nat) (hg : 1 ≤ g) (k : Nat) : k * g < len ↔ k < (len + g - 1) / g := by
  have h := Nat.le_div_iff_mul_le (x := k + 1) (y := len + g - 1) (k := g) (by omega)
  rw [Nat.succ_mul] at h
  exact ⟨fun q => h.mpr (by omega), fun q => by have := h.mp q; omega⟩
theorem parity_groups.calls (P0_ : Nat → Prop) (A0 : Option Addr) (c0 : Nat) (l0 : List (List Int)) (a1 : Int) (r : List (List (List Int))) (w : World) (hs0 : Kd.V (Kd.slice 5 (Kd.int .u8)) 23 w w.heap.size (fun k_ => P0_ k_) (.slice A0 l0.length c0) l0) (h : parity_groups.f l0 a1 = some r) :
    Calls Tryd.prog 29 #[.slice A0 l0.length c0, .int .i64 a1] w fun e w' => ∃ v0_ : Value, e = .returned v0_ ∧ Kd.N (Kd.slice 23 (Kd.slice 5 (Kd.int .u8))) 22 w' w.heap.size (fun k_ => (P0_ k_ ∨ w.heap.size ≤ k_)) v0_ r ∧ Below w.heap.size w w' := by
  unfold parity_groups.f at h
  by_cases hc : 1 ≤ a1 ∧ a1 ≤ 1000 ∧ l0.length ≤ 1000000
  case neg => rw [if_neg hc] at h; cases h
  rw [if_pos hc] at h
  obtain rfl := Option.some.inj h
  clear h
  obtain ⟨g, rfl⟩ := Int.eq_ofNat_of_zero_le (show 0 ≤ a1 by omega)
  obtain ⟨A, c, e, hlc, hF⟩ := hs0
  cases e
  have hK := parity_groups.count l0.length g (by omega)
  have hKl : (l0.length + g - 1) / g ≤ l0.length := by
    rcases Nat.eq_zero_or_pos ((l0.length + g - 1) / g) with e | e
    · omega
    · have h1 := (hK ((l0.length + g - 1) / g - 1)).mpr (by omega)
      have h2 : ((l0.length + g - 1) / g - 1) * 1 ≤ ((l0.length + g - 1) / g - 1) * g := Nat.mul_le_mul_left _ (by omega)
      omega
  refine (callsIn_wide (n := 3)).1 ((parity_groups.grp Fence.wide 3 trivial trivial trivial rfl (Nat.le_refl _) A0 l0.length c0 g (by omega) (by omega) hc.2.2 hlc _ hK (by omega) w).mono ?_)
  rintro e W' ⟨v, rfl, hrow, hB⟩
  have hr : (Kd.raw 1).R 22 W' w.heap.size (fun k => some k = v.ownBlock) v ((parity_groups.upto A0 l0.length g ((l0.length + g - 1) / g)).map fun h => [parity_groups.hE h]) := by
    refine ⟨fun k hk => hk.symm, (parity_groups.upto A0 l0.length g ((l0.length + g - 1) / g)).map parity_groups.hE, ?_, parity_groups.reps1 _⟩
    rw [List.length_map, parity_groups.upto_length]
    exact hrow
  refine ⟨v, rfl, ⟨fun k hk => .inr (own_base hrow k hk), _, ?_, hr, fun j x cs hx hcs => ?_⟩, hB⟩
  · rw [List.length_map, parity_groups.upto_length, parity_groups.chunks, List.length_map, List.length_range, Int.toNat_natCast]
  · rw [parity_groups.chunks, List.getElem?_map, Int.toNat_natCast] at hx
    rw [List.getElem?_map, parity_groups.upto, List.getElem?_map] at hcs
    obtain ⟨j', hj, rfl⟩ := Option.map_eq_some_iff.mp hx
    rw [hj] at hcs
    obtain ⟨hjl, hj2⟩ := List.getElem?_eq_some_iff.mp hj
    rw [List.getElem_range] at hj2
    subst hj2
    rw [List.length_range] at hjl
    have hlt := (hK j).mpr hjl
    simp only [Option.map_some, Option.some.injEq] at hcs
    subst hcs
    have hle : ((l0.drop (j * g)).take g).length = min g (l0.length - j * g) := by rw [List.length_take, List.length_drop]
    have ht : (l0.drop (j * g)).take (min g (l0.length - j * g)) = (l0.drop (j * g)).take g := by
      rcases Nat.le_total g (l0.length - j * g) with h | h
      · rw [Nat.min_eq_left h]
      · rw [Nat.min_eq_right h, List.take_of_length_le (by rw [List.length_drop]; exact Nat.le_refl _), List.take_of_length_le (by rw [List.length_drop]; exact h)]
    have hF1 := Kd.F_take (m := min g (l0.length - j * g)) (Kd.F_cut (m := j * g) (c := c0) hF (by omega) hlc) (by rw [List.length_drop]; omega)
    rw [if_neg (by omega), ht] at hF1
    have hF2 := Kd.F_mono (Kd.F_below (Kd.F_bound hF1) hB) (ok' := fun k => (P0_ k ∨ w.heap.size ≤ k) ∧ some k ≠ v.ownBlock) (fun k hk => ⟨.inl hk.1, fun e => by have := own_base hrow k e.symm; have := hk.2; omega⟩)
    have hF3 := Kd.FK_slice_mk (e := 23) (c := min g (l0.length - j * g)) (by rw [hle]; exact Nat.le_refl _) hF2
    have e3 : parity_groups.hE (parity_groups.hdr A0 l0.length g (j * g)) = .slice (A0.map (·.add (j * g * 1))) ((l0.drop (j * g)).take g).length (min g (l0.length - j * g)) := by rw [hle]; rfl
    rw [e3]
    exact hF3

end Go.Proofs.YtejamobohmljfaaDoor.XParityRecovers
