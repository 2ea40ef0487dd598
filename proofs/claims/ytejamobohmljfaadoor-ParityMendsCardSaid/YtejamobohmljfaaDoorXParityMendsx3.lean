-- Laid by a program of this session (wip/mkxprint.py, over the kit's print): Lean checks it.
import Derived.Test.YtejamobohmljfaaDoorXParityMendsx0
import Derived.Test.YtejamobohmljfaaDoorXParityMendsx2
namespace Go.Proofs.YtejamobohmljfaaDoor.XParityMends
open List (setIfInBounds_toArray set_cons_zero set_cons_succ)
open Go.RowKit Go.Proofs.YtejamobohmljfaaDoorW.PrintWords Go.Proofs.YtejamobohmljfaaDoorW.PrintLast Go.Proofs.YtejamobohmljfaaDoorW.PrintMore
attribute [local go_sem] max2_int min2_int max_two min_two max_three min_three max_four min_four   -- for this text's walks alone
set_option linter.unusedVariables false
set_option linter.unusedSimpArgs false

/-! ### bitloftref42_parity: function 34 -/
mutual
def bitloftref42_parity.l0 : Nat → List (List Int) → Int → Int → Option (List Int)
 | 0, _, _, _ => none
 | k + 1, x0, x3, x4 => if x4 < (x0.length : Int) then (if 0 ≤ x4 then (bitloftref42_parity.l0 k x0 (mx x3 ((rd_L1 x0 x4).length : Int)) (wrap64 (x4 + 1))) else (none)) else ((bitloftref42_framed.f k ([] : List Int) x3).bind fun t137 => (bitloftref42_parity.l1 k x0 x3 t137 0))
def bitloftref42_parity.l1 : Nat → List (List Int) → Int → List Int → Int → Option (List Int)
 | 0, _, _, _, _ => none
 | k + 1, x0, x3, x5, x6 => if x6 < (x0.length : Int) then (if 0 ≤ x6 then ((bitloftref42_framed.f k (rd_L1 x0 x6) x3).bind fun t141 => ((bitloftref42_mixed.f k x5 t141).bind fun t144 => (bitloftref42_parity.l1 k x0 x3 t144 (wrap64 (x6 + 1))))) else (none)) else (some x5)
end
def bitloftref42_parity.f (k : Nat) (l0 : List (List Int)) : Option (List Int) := bitloftref42_parity.l0 k l0 0 0
theorem bitloftref42_parity.mono_l : ∀ k, (∀ y0 y1 y2, LeO (bitloftref42_parity.l0 k y0 y1 y2) (bitloftref42_parity.l0 (k + 1) y0 y1 y2)) ∧ (∀ y0 y1 y2 y3, LeO (bitloftref42_parity.l1 k y0 y1 y2 y3) (bitloftref42_parity.l1 (k + 1) y0 y1 y2 y3))
 | 0 => ⟨fun _ _ _ r h => by simp [bitloftref42_parity.l0] at h, fun _ _ _ _ r h => by simp [bitloftref42_parity.l1] at h⟩
 | k + 1 => by
  obtain ⟨ih0, ih1⟩ := bitloftref42_parity.mono_l k; refine ⟨?_, ?_⟩
  ·
   intro y0 y1 y2
   unfold bitloftref42_parity.l0
   repeat' first
   | (with_reducible exact ih0 _ _ _)
   | (with_reducible exact ih1 _ _ _ _)
   | (with_reducible exact bitloftref42_framed.mono _ _ _)
   | (with_reducible exact bitloftref42_mixed.mono _ _ _)
   | (with_reducible exact LeO.refl _)
   | (with_reducible exact LeO.none _)
   | (with_reducible refine LeO.ite ?_ ?_)
   | (with_reducible refine LeO.bind ?_ (fun _ => ?_))
   | exact ih0 _ _ _
   | exact ih1 _ _ _ _
   | exact bitloftref42_framed.mono _ _ _
   | exact bitloftref42_mixed.mono _ _ _
   | exact LeO.none _
   | refine LeO.ite ?_ ?_
   | refine LeO.bind ?_ (fun _ => ?_)
  ·
   intro y0 y1 y2 y3
   unfold bitloftref42_parity.l1
   repeat' first
   | (with_reducible exact ih0 _ _ _)
   | (with_reducible exact ih1 _ _ _ _)
   | (with_reducible exact bitloftref42_framed.mono _ _ _)
   | (with_reducible exact bitloftref42_mixed.mono _ _ _)
   | (with_reducible exact LeO.refl _)
   | (with_reducible exact LeO.none _)
   | (with_reducible refine LeO.ite ?_ ?_)
   | (with_reducible refine LeO.bind ?_ (fun _ => ?_))
   | exact ih0 _ _ _
   | exact ih1 _ _ _ _
   | exact bitloftref42_framed.mono _ _ _
   | exact bitloftref42_mixed.mono _ _ _
   | exact LeO.none _
   | refine LeO.ite ?_ ?_
   | refine LeO.bind ?_ (fun _ => ?_)
theorem bitloftref42_parity.mono : ∀ a0 k, LeO (bitloftref42_parity.f k a0) (bitloftref42_parity.f (k + 1) a0) := by
 intro a0 k; obtain ⟨ih0, ih1⟩ := bitloftref42_parity.mono_l k
 unfold bitloftref42_parity.f
 repeat' first
   | (with_reducible exact ih0 _ _ _)
   | (with_reducible exact ih1 _ _ _ _)
   | (with_reducible exact bitloftref42_framed.mono _ _ _)
   | (with_reducible exact bitloftref42_mixed.mono _ _ _)
   | (with_reducible exact LeO.refl _)
   | (with_reducible exact LeO.none _)
   | (with_reducible refine LeO.ite ?_ ?_)
   | (with_reducible refine LeO.bind ?_ (fun _ => ?_))
   | exact ih0 _ _ _
   | exact ih1 _ _ _ _
   | exact bitloftref42_framed.mono _ _ _
   | exact bitloftref42_mixed.mono _ _ _
   | exact LeO.none _
   | refine LeO.ite ?_ ?_
   | refine LeO.bind ?_ (fun _ => ?_)
set_option maxHeartbeats 8000000 in
set_option maxRecDepth 100000 in
theorem bitloftref42_parity.calls (k : Nat) (A0 : Option Addr) (c0 : Nat) (l0 : List (List Int)) (r : List Int) (w : World) (hr0 : Kd.C (Kd.slice 5 (Kd.int .u8)) w A0 l0.length l0) (hc0 : l0.length ≤ c0) (h : bitloftref42_parity.f k l0 = some r) :
  Calls Tryd.prog 34 #[.slice A0 l0.length c0] w fun e w' => ∃ v0_ : Value, e = .returned (v0_) ∧ Kd.R (Kd.int .u8) 5 w' w.heap.size (fun _ => True) v0_ r ∧ Below w.heap.size w w' := by
 have HR0 := Aside0.mk hr0; have HC0 := Aside0.mk hc0; clear hr0 hc0; have HB := Aside0.mk (Below.refl w.heap.size w); have H : (bitloftref42_parity.l0 k l0 0 0) = some r := h; clear h; have H' := Aside0.mk H; clear H
 go_enter Tryd.func34, Tryd.ntmps34
 go_wp2
 go_loopg [3, 4] k (fun kq v3 v4 w' => ∃ (x3_1 : Int) (x4_1 : Int), v3 = .int .i64 x3_1 ∧ v4 = .int .i64 x4_1 ∧ Aside0 (bitloftref42_parity.l0 kq l0 x3_1 x4_1 = some r) ∧ Aside0 (kq ≤ k) ∧ Aside0 (Below w.heap.size w w'))
 case atStart => exact ⟨(0), (0), (by first | rfl | (simp; done) | (simp [*]; done)), (by first | rfl | (simp; done) | (simp [*]; done)), H', ⟨Nat.le_refl _⟩, ⟨pH_ HB.out⟩⟩
 case round =>
  clear H'; obtain ⟨x3_1, x4_1, rfl, rfl, HA, HK1, HB⟩ := hrel
  cases gk with
  | zero => exact absurd HA.out (by simp [bitloftref42_parity.l0])
  | succ k1 =>
   have H := HA.out; clear HA; simp only [bitloftref42_parity.l0] at H
   by_cases c2 : x4_1 < (l0.length : Int)
   ·
    rw [if_pos c2] at H; have c2b0 : decide (x4_1 < (l0.length : Int)) = true := decide_eq_true c2; clear c2
    by_cases c3 : 0 ≤ x4_1
    ·
     rw [if_pos c3] at H; have c3b0 : decide (0 ≤ x4_1) = true := decide_eq_true c3; clear c3; obtain ⟨ji4, hji4⟩ : ∃ j_ : Int, (mx x3_1 ((rd_L1 l0 x4_1).length : Int)) = j_ := ⟨_, rfl⟩
     replace H : (bitloftref42_parity.l0 k1 l0 ji4 (wrap64 (x4_1 + 1))) = some r := by first | (rw [hji4] at H; exact H) | (simp only [hji4] at H ⊢; exact H)
     have hji4_ : (if x3_1 < ((rd_L1 l0 x4_1).length : Int) then ((rd_L1 l0 x4_1).length : Int) else x3_1) = ji4 := hji4; have H' := Aside0.mk H; clear H; have p136 : 0 ≤ (x4_1 : Int) := of_decide_eq_true (by first | (with_reducible assumption) | assumption); have q136 : x4_1 < (l0.length : Int) := of_decide_eq_true (by first | (with_reducible assumption) | assumption); obtain ⟨ad136, A136_0, c136_0, e136, hx136_0, hl136_0, hi136_0⟩ := at_L1 HR0.out x4_1 p136 q136
     cases e136
     replace hx136_0 := (HB.out.cell (World.block_lt_of_cell? w _ hx136_0)).trans hx136_0; have HR136_0 := Aside0.mk hi136_0; have HC136_0 := Aside0.mk hl136_0; clear hi136_0 hl136_0; replace p136 := eq_true p136; replace q136 := eq_true q136
     go_wp2
     go_roundg k1
     case measure => have := HK1.out; omega
     case rel => exact ⟨(ji4), (wrap64 (x4_1 + 1)), (by first | rfl | (simp; done) | (simp only [← hji4] <;> (first | rfl | simp)) | (simp [*]; done)), (by first | rfl | (simp; done) | (simp [*]; done)), H', ⟨by have := HK1.out; omega⟩, ⟨pH_ HB.out⟩⟩
    ·
     rw [if_neg c3] at H; exact absurd H (by simp)
   ·
    rw [if_neg c2] at H; have c2b0 : decide (x4_1 < (l0.length : Int)) = false := decide_eq_false c2; clear c2; replace H := Option.bind_eq_some_iff.mp H; obtain ⟨t137, A50, H⟩ := H; replace H : (bitloftref42_parity.l1 k1 l0 x3_1 t137 0) = some r := H; have A5 := Aside0.mk A50; clear A50; have H' := Aside0.mk H; clear H
    go_wp2_with (first | ((with_reducible refine gate_callee (f := 49) rfl ?_); refine gL_ (some 21) Tryd.func49 #[.slice none 0 0, .int .i64 x3_1] ?_; (refine (bitloftref42_framed.calls k1 _ _ ([] : List Int) x3_1 t137 _ ?side1 ?side2 A5.out).mono ?_); (case side1 => exact Kd.C_nil _ _); (case side2 => exact Nat.le_refl _); rintro e w6 ⟨v138, rfl, ho0, hb⟩; refine ⟨_, rfl, ?_⟩; have n0_ := Aside0.mk (Kd.R_lower ho0 (below_size (pH_ HB.out))); have n1_ := Aside0.mk (below_step (pH_ HB.out) hb); clear HB; have HO139 := n0_; have HB := n1_; clear n0_ n1_; (try clear hb); (try clear ho0)))
    go_loopg [5, 6] k1 (fun kq v5 v6 w' => ∃ (x5_2 : List Int) (x6_2 : Int), v6 = .int .i64 x6_2 ∧ Aside0 (bitloftref42_parity.l1 kq l0 x3_1 x5_2 x6_2 = some r) ∧ Aside0 (kq ≤ k1) ∧ Aside0 (Kd.R (Kd.int .u8) 5 w' w.heap.size (fun _ => True) v5 x5_2) ∧ Aside0 (Below w.heap.size w w'))
    case atStart => exact ⟨(t137), (0), (by first | rfl | (simp; done) | (simp [*]; done)), H', ⟨Nat.le_refl _⟩, ⟨pL_ HO139.out⟩, ⟨pH_ HB.out⟩⟩
    case round =>
     clear H'
     try clear c1
     try clear p1
     try clear q1
     try clear hx1
     try clear c2
     try clear c2b0
     try clear p2
     try clear c3
     try clear c3b0
     try clear c4
     try clear p6
     try clear hx136_0
     try clear p136
     try clear q136
     obtain ⟨x5_2, x6_2, rfl, HA, HK2, HO_5, HB⟩ := hrel
     cases gk with
     | zero => exact absurd HA.out (by simp [bitloftref42_parity.l1])
     | succ k2 =>
      have H := HA.out; clear HA; simp only [bitloftref42_parity.l1] at H
      by_cases c7 : x6_2 < (l0.length : Int)
      ·
       rw [if_pos c7] at H; have c7b0 : decide (x6_2 < (l0.length : Int)) = true := decide_eq_true c7; clear c7
       by_cases c8 : 0 ≤ x6_2
       ·
        rw [if_pos c8] at H; have c8b0 : decide (0 ≤ x6_2) = true := decide_eq_true c8; clear c8; replace H := Option.bind_eq_some_iff.mp H; obtain ⟨t141, A90, H⟩ := H; replace H : ((bitloftref42_mixed.f k2 x5_2 t141).bind fun t144 => (bitloftref42_parity.l1 k2 l0 x3_1 t144 (wrap64 (x6_2 + 1)))) = some r := H; have A9 := Aside0.mk A90; clear A90; replace H := Option.bind_eq_some_iff.mp H; obtain ⟨t144, A100, H⟩ := H; replace H : (bitloftref42_parity.l1 k2 l0 x3_1 t144 (wrap64 (x6_2 + 1))) = some r := H; have A10 := Aside0.mk A100; clear A100; have H' := Aside0.mk H; clear H; have p140 : 0 ≤ (x6_2 : Int) := of_decide_eq_true (by first | (with_reducible assumption) | assumption); have q140 : x6_2 < (l0.length : Int) := of_decide_eq_true (by first | (with_reducible assumption) | assumption); obtain ⟨ad140, A140_0, c140_0, e140, hx140_0, hl140_0, hi140_0⟩ := at_L1 HR0.out x6_2 p140 q140
        cases e140
        replace hx140_0 := (HB.out.cell (World.block_lt_of_cell? w _ hx140_0)).trans hx140_0; have HR140_0 := Aside0.mk hi140_0; have HC140_0 := Aside0.mk hl140_0; clear hi140_0 hl140_0; replace p140 := eq_true p140; replace q140 := eq_true q140
        go_wp2_with (first | ((with_reducible refine gate_callee (f := 49) rfl ?_); refine gL_ (some 34) Tryd.func49 #[.slice A140_0 (rd_L1 l0 x6_2).length c140_0, .int .i64 x3_1] ?_; (with_reducible refine (bitloftref42_framed.calls k2 _ _ (rd_L1 l0 x6_2) x3_1 t141 _ ?side1 ?side2 A9.out).mono ?_); (case side1 => repeat (first | exact (Kd.C_below HR140_0.out HB.out) | (with_reducible refine Kd.C_alloc ?_ _) | (with_reducible refine Kd.C_drewN ?_ _) | (with_reducible refine Kd.C_drew ?_))); (case side2 => exact HC140_0.out); rintro e w11 ⟨v142, rfl, ho0, hb⟩; refine ⟨_, rfl, ?_⟩; have n0_ := Aside0.mk (Kd.R_elder' (pL_ HO_5.out) (Kd.R_base ho0) hb); have n1_ := Aside0.mk (Kd.R_lower (Kd.R_new' ho0 (Kd.R_lt (pL_ HO_5.out))) (below_size (pH_ HB.out))); have n2_ := Aside0.mk (below_step (pH_ HB.out) hb); clear HO_5; clear HB; have HO_5 := n0_; have HO143 := n1_; have HB := n2_; clear n0_ n1_ n2_; (try clear hb); (try clear ho0); obtain ⟨Ao12, co12, eo12⟩ := Kd.R_slice HO_5.out; subst eo12; obtain ⟨Ao13, co13, eo13⟩ := Kd.R_slice HO143.out; subst eo13) | ((with_reducible refine gate_callee (f := 48) rfl ?_); refine gL_ (some 35) Tryd.func48 #[.slice Ao12 x5_2.length co12, .slice Ao13 t141.length co13] ?_; (with_reducible refine (bitloftref42_mixed.calls k2 _ _ x5_2 _ _ t141 t144 _ ?side1 ?side2 ?side3 ?side4 A10.out).mono ?_); (case side1 => repeat (first | exact (Kd.R_reads' HO_5.out).2.2 | (with_reducible refine Kd.C_alloc ?_ _) | (with_reducible refine Kd.C_drewN ?_ _) | (with_reducible refine Kd.C_drew ?_))); (case side2 => exact (Kd.R_reads' HO_5.out).2.1); (case side3 => repeat (first | exact (Kd.R_reads' HO143.out).2.2 | (with_reducible refine Kd.C_alloc ?_ _) | (with_reducible refine Kd.C_drewN ?_ _) | (with_reducible refine Kd.C_drew ?_))); (case side4 => exact (Kd.R_reads' HO143.out).2.1); rintro e w14 ⟨v145, rfl, ho0, hb⟩; refine ⟨_, rfl, ?_⟩; have n0_ := Aside0.mk (Kd.R_elder' (pL_ HO_5.out) (Kd.R_base ho0) hb); have n1_ := Aside0.mk (Kd.R_elder' (pL_ HO143.out) (Kd.R_base ho0) hb); have n2_ := Aside0.mk (Kd.R_lower (Kd.R_new' (Kd.R_new' ho0 (Kd.R_lt (pL_ HO_5.out))) (Kd.R_lt (pL_ HO143.out))) (below_size (pH_ HB.out))); have n3_ := Aside0.mk (below_step (pH_ HB.out) hb); clear HO_5; clear HO143; clear HB; have HO_5 := n0_; have HO143 := n1_; have HO146 := n2_; have HB := n3_; clear n0_ n1_ n2_ n3_; (try clear hb); (try clear ho0)))
        go_roundg k2
        case measure => have := HK1.out; have := HK2.out; omega
        case rel => exact ⟨(t144), (wrap64 (x6_2 + 1)), (by first | rfl | (simp; done) | (simp [*]; done)), H', ⟨by have := HK1.out; have := HK2.out; omega⟩, ⟨by (with_reducible repeat (first | apply rA_ | apply rN_ | apply rD_)); exact Kd.R_mono HO146.out (fun _ hk => trivial)⟩, ⟨pH_ HB.out⟩⟩
       ·
        rw [if_neg c8] at H; exact absurd H (by simp)
      ·
       rw [if_neg c7] at H; have c7b0 : decide (x6_2 < (l0.length : Int)) = false := decide_eq_false c7; clear c7; obtain rfl := Option.some.inj H
       go_wp2
       go_ret
       exact ⟨_, by first | rfl | (simp [errW_none, errW_some] <;> rfl) | (simp [*, errW_none, errW_some] <;> rfl), by (with_reducible repeat (first | apply rA_ | apply rN_ | apply rD_)); exact HO_5.out, pH_ HB.out⟩

/-! ### bitloftref42_Protect: function 19 -/
mutual
def bitloftref42_Protect.j0 : Nat → List (List Int) → Int → Bool → Option ((List (List Int)) × Int)
 | 0, _, _, _ => none
 | k + 1, x0, x1, x13 => if x13 = true then (some (([] : List (List Int)), 2)) else (if (x0.length : Int) > 100 then (bitloftref42_Protect.j1 k x0 x1 true) else ((bitloftref42_long.f k x0 (-1)).bind fun t147 => (bitloftref42_Protect.j1 k x0 x1 t147)))
def bitloftref42_Protect.j1 : Nat → List (List Int) → Int → Bool → Option ((List (List Int)) × Int)
 | 0, _, _, _ => none
 | k + 1, x0, x1, x20 => if x20 = true then (some (([] : List (List Int)), 4)) else (bitloftref42_Protect.l0 k x0 x1 ([] : List (List Int)) 0)
def bitloftref42_Protect.l0 : Nat → List (List Int) → Int → List (List Int) → Int → Option ((List (List Int)) × Int)
 | 0, _, _, _, _ => none
 | k + 1, x0, x1, x6, x7 => if x7 < (x0.length : Int) then (if 0 ≤ x7 then (if x7 ≤ (mn (wrap64 (x7 + x1)) (x0.length : Int)) then (if (mn (wrap64 (x7 + x1)) (x0.length : Int)) ≤ (x0.length : Int) then ((bitloftref42_parity.f k ((x0.take ((mn (wrap64 (x7 + x1)) (x0.length : Int)) : Int).toNat).drop (x7 : Int).toNat)).bind fun t152 => (if x6.length < 5864062014805 then (bitloftref42_Protect.l0 k x0 x1 (x6 ++ [t152]) (wrap64 (x7 + x1))) else (none))) else (none)) else (none)) else (none)) else (some (x6, 0))
end
def bitloftref42_Protect.f (k : Nat) (l0 : List (List Int)) (a1 : Int) : Option ((List (List Int)) × Int) := if a1 < 1 then (bitloftref42_Protect.j0 k l0 a1 true) else (bitloftref42_Protect.j0 k l0 a1 (decide (a1 > 16)))
theorem bitloftref42_Protect.mono_l : ∀ k, (∀ y0 y1 y2, LeO (bitloftref42_Protect.j0 k y0 y1 y2) (bitloftref42_Protect.j0 (k + 1) y0 y1 y2)) ∧ (∀ y0 y1 y2, LeO (bitloftref42_Protect.j1 k y0 y1 y2) (bitloftref42_Protect.j1 (k + 1) y0 y1 y2)) ∧ (∀ y0 y1 y2 y3, LeO (bitloftref42_Protect.l0 k y0 y1 y2 y3) (bitloftref42_Protect.l0 (k + 1) y0 y1 y2 y3))
 | 0 => ⟨fun _ _ _ r h => by simp [bitloftref42_Protect.j0] at h, fun _ _ _ r h => by simp [bitloftref42_Protect.j1] at h, fun _ _ _ _ r h => by simp [bitloftref42_Protect.l0] at h⟩
 | k + 1 => by
  obtain ⟨ih0, ih1, ih2⟩ := bitloftref42_Protect.mono_l k; refine ⟨?_, ?_, ?_⟩
  ·
   intro y0 y1 y2
   unfold bitloftref42_Protect.j0
   repeat' first
   | (with_reducible exact ih0 _ _ _)
   | (with_reducible exact ih1 _ _ _)
   | (with_reducible exact ih2 _ _ _ _)
   | (with_reducible exact bitloftref42_long.mono _ _ _)
   | (with_reducible exact bitloftref42_parity.mono _ _)
   | (with_reducible exact LeO.refl _)
   | (with_reducible exact LeO.none _)
   | (with_reducible refine LeO.ite ?_ ?_)
   | (with_reducible refine LeO.bind ?_ (fun _ => ?_))
   | exact ih0 _ _ _
   | exact ih1 _ _ _
   | exact ih2 _ _ _ _
   | exact bitloftref42_long.mono _ _ _
   | exact bitloftref42_parity.mono _ _
   | exact LeO.none _
   | refine LeO.ite ?_ ?_
   | refine LeO.bind ?_ (fun _ => ?_)
  ·
   intro y0 y1 y2
   unfold bitloftref42_Protect.j1
   repeat' first
   | (with_reducible exact ih0 _ _ _)
   | (with_reducible exact ih1 _ _ _)
   | (with_reducible exact ih2 _ _ _ _)
   | (with_reducible exact bitloftref42_long.mono _ _ _)
   | (with_reducible exact bitloftref42_parity.mono _ _)
   | (with_reducible exact LeO.refl _)
   | (with_reducible exact LeO.none _)
   | (with_reducible refine LeO.ite ?_ ?_)
   | (with_reducible refine LeO.bind ?_ (fun _ => ?_))
   | exact ih0 _ _ _
   | exact ih1 _ _ _
   | exact ih2 _ _ _ _
   | exact bitloftref42_long.mono _ _ _
   | exact bitloftref42_parity.mono _ _
   | exact LeO.none _
   | refine LeO.ite ?_ ?_
   | refine LeO.bind ?_ (fun _ => ?_)
  ·
   intro y0 y1 y2 y3
   unfold bitloftref42_Protect.l0
   repeat' first
   | (with_reducible exact ih0 _ _ _)
   | (with_reducible exact ih1 _ _ _)
   | (with_reducible exact ih2 _ _ _ _)
   | (with_reducible exact bitloftref42_long.mono _ _ _)
   | (with_reducible exact bitloftref42_parity.mono _ _)
   | (with_reducible exact LeO.refl _)
   | (with_reducible exact LeO.none _)
   | (with_reducible refine LeO.ite ?_ ?_)
   | (with_reducible refine LeO.bind ?_ (fun _ => ?_))
   | exact ih0 _ _ _
   | exact ih1 _ _ _
   | exact ih2 _ _ _ _
   | exact bitloftref42_long.mono _ _ _
   | exact bitloftref42_parity.mono _ _
   | exact LeO.none _
   | refine LeO.ite ?_ ?_
   | refine LeO.bind ?_ (fun _ => ?_)
theorem bitloftref42_Protect.mono : ∀ a0 a1 k, LeO (bitloftref42_Protect.f k a0 a1) (bitloftref42_Protect.f (k + 1) a0 a1) := by
 intro a0 a1 k; obtain ⟨ih0, ih1, ih2⟩ := bitloftref42_Protect.mono_l k
 unfold bitloftref42_Protect.f
 repeat' first
   | (with_reducible exact ih0 _ _ _)
   | (with_reducible exact ih1 _ _ _)
   | (with_reducible exact ih2 _ _ _ _)
   | (with_reducible exact bitloftref42_long.mono _ _ _)
   | (with_reducible exact bitloftref42_parity.mono _ _)
   | (with_reducible exact LeO.refl _)
   | (with_reducible exact LeO.none _)
   | (with_reducible refine LeO.ite ?_ ?_)
   | (with_reducible refine LeO.bind ?_ (fun _ => ?_))
   | exact ih0 _ _ _
   | exact ih1 _ _ _
   | exact ih2 _ _ _ _
   | exact bitloftref42_long.mono _ _ _
   | exact bitloftref42_parity.mono _ _
   | exact LeO.none _
   | refine LeO.ite ?_ ?_
   | refine LeO.bind ?_ (fun _ => ?_)
set_option maxHeartbeats 8000000 in
set_option maxRecDepth 100000 in
theorem bitloftref42_Protect.calls (k : Nat) (A0 : Option Addr) (c0 : Nat) (l0 : List (List Int)) (a1 : Int) (r1 : List (List Int)) (r2 : Int) (w : World) (hr0 : Kd.C (Kd.slice 5 (Kd.int .u8)) w A0 l0.length l0) (hc0 : l0.length ≤ c0) (h : bitloftref42_Protect.f k l0 a1 = some (r1, r2)) :
  Calls Tryd.prog 19 #[.slice A0 l0.length c0, .int .i64 a1] w fun e w' => ∃ v0_ : Value, e = .returned (.tuple #[v0_, .int .i64 r2]) ∧ Kd.S (Kd.slice 5 (Kd.int .u8)) 23 w' w.heap.size (fun _ => True) v0_ r1 ∧ Below w.heap.size w w' := by
 have HR0 := Aside0.mk hr0; have HC0 := Aside0.mk hc0; clear hr0 hc0; have HB := Aside0.mk (Below.refl w.heap.size w); have H : (if a1 < 1 then (bitloftref42_Protect.j0 k l0 a1 true) else (bitloftref42_Protect.j0 k l0 a1 (decide (a1 > 16)))) = some (r1, r2) := h; clear h; have HC3 := Aside0.mk H; clear H
 go_enter Tryd.func19, Tryd.ntmps19
 go_upto_region 1 with (fail)
 (with_reducible first | refine then_id_ ?_ | (refine wp_tail_ ?_; intro Kt_ hKt_))
 go_cut [13] (fun v13 wc => ∃ (kq : Nat) (x13_2 : Bool), v13 = .bool x13_2 ∧ Aside0 (bitloftref42_Protect.j0 kq l0 a1 x13_2 = some (r1, r2)) ∧ Aside0 (kq ≤ k) ∧ Aside0 (Below w.heap.size w wc))
 case first =>
  have H := HC3.out; clear HC3
  by_cases c4 : a1 < 1
  ·
   rw [if_pos c4] at H; have c4b0 : decide (a1 < 1) = true := decide_eq_true c4; clear c4; (first | rw [c4b0] | (simp only [i64_w, i32_w]; rw [c4b0]) | skip); have H' := Aside0.mk H; clear H
   go_wp2
   (first | go_meet | (refine Met.intro ?_; go_step; (repeat apply Exists.intro); refine ⟨?rel, ?eqf_⟩; case eqf_ => ((simp only [c4b0]) <;> rfl)))
   case rel => exact ⟨_, (true), (by first | rfl | (simp; done) | (simp [*]; done)), H', ⟨by first | omega | exact Nat.le_refl _⟩, ⟨pH_ HB.out⟩⟩
  ·
   rw [if_neg c4] at H; have c4b0 : decide (a1 < 1) = false := decide_eq_false c4; clear c4; (first | rw [c4b0] | (simp only [i64_w, i32_w]; rw [c4b0]) | skip); have H' := Aside0.mk H; clear H
   go_wp2
   (first | go_meet | (refine Met.intro ?_; go_step; (repeat apply Exists.intro); refine ⟨?rel, ?eqf_⟩; case eqf_ => ((simp only [c4b0]) <;> rfl)))
   case rel => exact ⟨_, (decide (a1 > 16)), (by first | rfl | (simp; done) | (simp [*]; done)), H', ⟨by first | omega | exact Nat.le_refl _⟩, ⟨pH_ HB.out⟩⟩
 case rest =>
  (try (refine hKt_ _ _ ?_; clear hKt_; clear Kt_)); clear HC3
  try clear c1
  try clear p2
  try clear c4
  try clear c4b0
  obtain ⟨kq, x13_2, rfl, HA, HJ2, HB⟩ := hcut
  cases kq with
  | zero => exact absurd HA.out (by simp [bitloftref42_Protect.j0])
  | succ kj2 =>
   have H := HA.out; clear HA; simp only [bitloftref42_Protect.j0] at H
   by_cases c5 : x13_2 = true
   ·
    subst c5
    have H1 : (some (([] : List (List Int)), 2)) = some (r1, r2) := by rw [if_pos rfl] at H; exact H
    clear H; have H := H1; clear H1; simp only [Option.some.injEq, Prod.mk.injEq] at H; obtain ⟨rfl, rfl⟩ := H
    go_wp2
    go_ret2
    exact ⟨_, by first | rfl | (simp [errW_none, errW_some] <;> rfl) | (simp [*, errW_none, errW_some] <;> rfl), by first | exact Kd.S_nil _ _ _ _ _ | exact Kd.N_nil _ _ _ _ _ | exact Kd.V_nil _ _ _ _ _ | exact Kd.Q_nil _ _ _ _ _ | exact Kd.R_nil _ _ _ _ _, pH_ HB.out⟩
   ·
    replace c5 := Bool.eq_false_iff.mpr c5
    subst c5
    have H1 : (if (l0.length : Int) > 100 then (bitloftref42_Protect.j1 kj2 l0 a1 true) else ((bitloftref42_long.f kj2 l0 (-1)).bind fun t147 => (bitloftref42_Protect.j1 kj2 l0 a1 t147))) = some (r1, r2) := by rw [if_neg (show ¬ (false = true) by decide)] at H; exact H
    clear H; have H := H1; clear H1; have HC6 := Aside0.mk H; clear H
    go_upto_region 3 with (fail)
    (with_reducible first | refine then_id_ ?_ | (refine wp_tail_ ?_; intro Kt_ hKt_))
    go_cut [20] (fun v20 wc => ∃ (kq : Nat) (x20_5 : Bool), v20 = .bool x20_5 ∧ Aside0 (bitloftref42_Protect.j1 kq l0 a1 x20_5 = some (r1, r2)) ∧ Aside0 (kq ≤ kj2) ∧ Aside0 (Below w.heap.size w wc))
    case first =>
     have H := HC6.out; clear HC6
     by_cases c7 : (l0.length : Int) > 100
     ·
      rw [if_pos c7] at H; have c7b0 : decide (100 < (l0.length : Int)) = true := decide_eq_true c7; have c7b1 : decide (100 < l0.length) = true := decide_eq_true (by omega); clear c7; (first | rw [c7b0] | (simp only [i64_w, i32_w]; rw [c7b0]) | skip); have H' := Aside0.mk H; clear H
      go_wp2
      (first | go_meet | (refine Met.intro ?_; go_step; (repeat apply Exists.intro); refine ⟨?rel, ?eqf_⟩; case eqf_ => ((simp only [c7b0]) <;> rfl)))
      case rel => exact ⟨_, (true), (by first | rfl | (simp; done) | (simp [*]; done)), H', ⟨by have := HJ2.out; first | omega | exact Nat.le_refl _⟩, ⟨pH_ HB.out⟩⟩
     ·
      rw [if_neg c7] at H; have c7b0 : decide (100 < (l0.length : Int)) = false := decide_eq_false c7; have c7b1 : decide (100 < l0.length) = false := decide_eq_false (by omega); clear c7; (first | rw [c7b0] | (simp only [i64_w, i32_w]; rw [c7b0]) | skip); replace H := Option.bind_eq_some_iff.mp H; obtain ⟨t147, A80, H⟩ := H; replace H : (bitloftref42_Protect.j1 kj2 l0 a1 t147) = some (r1, r2) := H; have A8 := Aside0.mk A80; clear A80; have H' := Aside0.mk H; clear H
      go_wp2_with (first | (go_at_call 33; (with_reducible refine (bitloftref42_long.calls kj2 _ _ l0 (-1) t147 _ ?side1 ?side2 A8.out).mono ?_); (case side1 => repeat (first | exact (Kd.C_below HR0.out HB.out) | (with_reducible refine Kd.C_alloc ?_ _) | (with_reducible refine Kd.C_drewN ?_ _) | (with_reducible refine Kd.C_drew ?_))); (case side2 => exact HC0.out); rintro e w' ⟨rfl, ⟨nd, rfl⟩⟩))
      (first | go_meet | (refine Met.intro ?_; go_step; (repeat apply Exists.intro); refine ⟨?rel, ?eqf_⟩; case eqf_ => ((simp only [c7b0]) <;> rfl)))
      case rel => exact ⟨_, (t147), (by first | rfl | (simp; done) | (simp [*]; done)), H', ⟨by have := HJ2.out; first | omega | exact Nat.le_refl _⟩, ⟨pH_ HB.out⟩⟩
    case rest =>
     (try (refine hKt_ _ _ ?_; clear hKt_; clear Kt_)); clear HC6
     try clear c1
     try clear p2
     try clear c4
     try clear c4b0
     try clear c5
     try clear c7
     try clear c7b0
     try clear c7b1
     try clear p2
     obtain ⟨kq, x20_5, rfl, HA, HJ5, HB⟩ := hcut
     cases kq with
     | zero => exact absurd HA.out (by simp [bitloftref42_Protect.j1])
     | succ kj5 =>
      have H := HA.out; clear HA; simp only [bitloftref42_Protect.j1] at H
      by_cases c9 : x20_5 = true
      ·
       subst c9
       have H1 : (some (([] : List (List Int)), 4)) = some (r1, r2) := by rw [if_pos rfl] at H; exact H
       clear H; have H := H1; clear H1; simp only [Option.some.injEq, Prod.mk.injEq] at H; obtain ⟨rfl, rfl⟩ := H
       go_wp2
       go_ret2
       exact ⟨_, by first | rfl | (simp [errW_none, errW_some] <;> rfl) | (simp [*, errW_none, errW_some] <;> rfl), by first | exact Kd.S_nil _ _ _ _ _ | exact Kd.N_nil _ _ _ _ _ | exact Kd.V_nil _ _ _ _ _ | exact Kd.Q_nil _ _ _ _ _ | exact Kd.R_nil _ _ _ _ _, pH_ HB.out⟩
      ·
       replace c9 := Bool.eq_false_iff.mpr c9
       subst c9
       have H1 : (bitloftref42_Protect.l0 kj5 l0 a1 ([] : List (List Int)) 0) = some (r1, r2) := by rw [if_neg (show ¬ (false = true) by decide)] at H; exact H
       clear H; have H := H1; clear H1; have H' := Aside0.mk H; clear H
       go_wp2
       go_loopg [6, 7] kj5 (fun kq v6 v7 w' => ∃ (x6_3 : List (List Int)) (x7_3 : Int), v7 = .int .i64 x7_3 ∧ Aside0 (bitloftref42_Protect.l0 kq l0 a1 x6_3 x7_3 = some (r1, r2)) ∧ Aside0 (kq ≤ kj5) ∧ Aside0 (Kd.S (Kd.slice 5 (Kd.int .u8)) 23 w' w.heap.size (fun _ => True) v6 x6_3) ∧ Aside0 (Below w.heap.size w w'))
       case atStart => exact ⟨(([] : List (List Int))), (0), (by first | rfl | (simp; done) | (simp [*]; done)), H', ⟨Nat.le_refl _⟩, ⟨by first | exact Kd.S_nil _ _ _ _ _ | exact Kd.N_nil _ _ _ _ _ | exact Kd.V_nil _ _ _ _ _ | exact Kd.Q_nil _ _ _ _ _ | exact Kd.R_nil _ _ _ _ _⟩, ⟨pH_ HB.out⟩⟩
       case round =>
        clear H'
        try clear c1
        try clear p2
        try clear c4
        try clear c4b0
        try clear c5
        try clear c7
        try clear c7b0
        try clear c7b1
        try clear c9
        try clear p2
        obtain ⟨x6_3, x7_3, rfl, HA, HK3, HO_6, HB⟩ := hrel
        cases gk with
        | zero => exact absurd HA.out (by simp [bitloftref42_Protect.l0])
        | succ k3 =>
         have H := HA.out; clear HA; simp only [bitloftref42_Protect.l0] at H
         by_cases c10 : x7_3 < (l0.length : Int)
         ·
          rw [if_pos c10] at H; have c10b0 : decide (x7_3 < (l0.length : Int)) = true := decide_eq_true c10; clear c10; obtain ⟨ji11, hji11⟩ : ∃ j_ : Int, (mn (wrap64 (x7_3 + a1)) (l0.length : Int)) = j_ := ⟨_, rfl⟩
          replace H : (if 0 ≤ x7_3 then (if x7_3 ≤ (ji11) then (if (ji11) ≤ (l0.length : Int) then ((bitloftref42_parity.f k3 ((l0.take ((ji11) : Int).toNat).drop (x7_3 : Int).toNat)).bind fun t152 => (if x6_3.length < 5864062014805 then (bitloftref42_Protect.l0 k3 l0 a1 (x6_3 ++ [t152]) (wrap64 (x7_3 + a1))) else (none))) else (none)) else (none)) else (none)) = some (r1, r2) := by first | (rw [hji11] at H; exact H) | (simp only [hji11] at H ⊢; exact H)
          have hji11_ : (if (l0.length : Int) < (wrap64 (x7_3 + a1)) then (l0.length : Int) else (wrap64 (x7_3 + a1))) = ji11 := hji11
          by_cases c12 : 0 ≤ x7_3
          ·
           rw [if_pos c12] at H; have c12b0 := eq_true c12; have c12b1 : decide (0 ≤ x7_3) = true := decide_eq_true c12; clear c12
           by_cases c13 : x7_3 ≤ (ji11)
           ·
            rw [if_pos c13] at H; have c13b0 := eq_true c13; have c13b1 : decide (x7_3 ≤ (ji11)) = true := decide_eq_true c13; clear c13
            by_cases c14 : (ji11) ≤ (l0.length : Int)
            ·
             rw [if_pos c14] at H; have c14b0 := eq_true c14; have c14b1 : decide ((ji11) ≤ (l0.length : Int)) = true := decide_eq_true c14; clear c14; obtain ⟨y148, hy148⟩ : ∃ y_ : List (List Int), y_ = ((l0.take ((ji11) : Int).toNat).drop (x7_3 : Int).toNat) := ⟨_, rfl⟩
             replace H : ((bitloftref42_parity.f k3 y148).bind fun t152 => (if x6_3.length < 5864062014805 then (bitloftref42_Protect.l0 k3 l0 a1 (x6_3 ++ [t152]) (wrap64 (x7_3 + a1))) else (none))) = some (r1, r2) := by first | (rw [hy148]; with_reducible exact H) | (have H2_ := (Option.bind_some _ _).symm.trans H; rw [hy148]; with_reducible exact H2_) | (have H2_ := (Option.bind_some _ _).symm.trans H; with_reducible exact H2_) | with_reducible exact H | (rw [hy148]; exact H) | exact H
             have Ny148 := Aside0.mk hy148; clear hy148; replace H := Option.bind_eq_some_iff.mp H; obtain ⟨t152, A150, H⟩ := H; replace H : (if x6_3.length < 5864062014805 then (bitloftref42_Protect.l0 k3 l0 a1 (x6_3 ++ [t152]) (wrap64 (x7_3 + a1))) else (none)) = some (r1, r2) := H; have A15 := Aside0.mk A150; clear A150
             by_cases c16 : x6_3.length < 5864062014805
             ·
              rw [if_pos c16] at H; have LMc16 := Aside0.mk c16; clear c16; obtain ⟨y155, hy155⟩ : ∃ y_ : List (List Int), y_ = (x6_3 ++ [t152]) := ⟨_, rfl⟩
              replace H : (bitloftref42_Protect.l0 k3 l0 a1 y155 (wrap64 (x7_3 + a1))) = some (r1, r2) := by first | (rw [hy155]; with_reducible exact H) | (have H2_ := (Option.bind_some _ _).symm.trans H; rw [hy155]; with_reducible exact H2_) | (have H2_ := (Option.bind_some _ _).symm.trans H; with_reducible exact H2_) | with_reducible exact H | (rw [hy155]; exact H) | exact H
              have Ny155 := Aside0.mk hy155; clear hy155; have H' := Aside0.mk H; clear H; have q17 : ((ji11) : Int) ≤ ((l0.length : Int) : Int) := of_decide_eq_true (by first | (with_reducible assumption) | assumption); obtain ⟨i017, hi017, _, hsz17, _⟩ := info_parts info23; have hroom17 : l0.length ≤ c0 := HC0.out; have hC17 : Kd.C (Kd.slice 5 (Kd.int .u8)) _ A0 l0.length l0 := HR0.out; have ql17 : (x7_3 : Int) ≤ ((ji11) : Int) := of_decide_eq_true (by first | (with_reducible assumption) | assumption); have q017 : (0 : Int) ≤ (x7_3 : Int) := of_decide_eq_true (by first | (with_reducible assumption) | assumption); have hcut17 := cut_mid (P := Tryd.prog) 22 23 .i64 .i64 Tryd.underlying22 hi017 1 hsz17 A0 l0.length c0 x7_3 (ji11) q017 ql17 q17 hroom17; have hr17 := Kd.C_mid (lo := (x7_3 : Int).toNat) (hi := ((ji11) : Int).toNat) (c := c0) hC17 (by omega) (by omega) hroom17; obtain ⟨A17, hA17⟩ : ∃ A1, A1 = (if c0 = (x7_3 : Int).toNat then A0 else (A0 : Option Addr).map (·.add ((x7_3 : Int).toNat * 1))) := ⟨_, rfl⟩; obtain ⟨c17, hc17⟩ : ∃ c1, c1 = c0 - (x7_3 : Int).toNat := ⟨_, rfl⟩; have hy17 : y148.length = ((ji11) : Int).toNat - (x7_3 : Int).toNat := (by rw [Ny148.out, List.length_drop, List.length_take] <;> omega); rw [show ((l0).take ((ji11) : Int).toNat).drop (x7_3 : Int).toNat = y148 from Ny148.out.symm] at hr17; replace hr17 : Kd.C (Kd.slice 5 (Kd.int .u8)) _ A17 y148.length y148 := (by rw [hA17]; exact hr17); rw [← hy17, ← hA17, ← hc17] at hcut17; have HR151 := Aside0.mk hr17; have HC151 := Aside0.mk (show y148.length ≤ c17 from by rw [hy17, hc17]; exact Nat.sub_le_sub_right (Nat.le_trans (by omega) hroom17) _); clear hr17 hC17 hroom17 hi017 hsz17 hc17; have KY17 := Aside0.mk hy17; have KA17 := Aside0.mk hA17; clear hy17 hA17; replace q17 := eq_true q17
              go_wp2_with (first | ((with_reducible refine gate_callee (f := 34) rfl ?_); refine gL_ (some 38) Tryd.func34 #[.slice A17 y148.length c17] ?_; (with_reducible refine (bitloftref42_parity.calls k3 _ _ y148 t152 _ ?side1 ?side2 A15.out).mono ?_); (case side1 => repeat (first | exact (Kd.C_below HR151.out HB.out) | (with_reducible refine Kd.C_alloc ?_ _) | (with_reducible refine Kd.C_drewN ?_ _) | (with_reducible refine Kd.C_drew ?_))); (case side2 => exact HC151.out); rintro e w18 ⟨v153, rfl, ho0, hb⟩; refine ⟨_, rfl, ?_⟩; have n0_ := Aside0.mk (Kd.S_elder' (by (with_reducible repeat (first | apply Kd.S_alloc | apply Kd.S_drewN | apply Kd.S_drew)); exact HO_6.out) (Kd.R_base ho0) hb); have n1_ := Aside0.mk (Kd.R_lower ho0 (below_size (pH_ HB.out))); have n2_ := Aside0.mk (below_step (pH_ HB.out) hb); clear HO_6; clear HB; have HO_6 := n0_; have HO154 := n1_; have HB := n2_; clear n0_ n1_ n2_; (try clear hb); (try clear ho0); obtain ⟨Ao20, co20, eo20⟩ := Kd.R_slice HO154.out; subst eo20) | ((with_reducible refine gate_builtin (b := .append) (xs := #[.tmp 28, .tmp 39]) rfl ?_); at_builtin; refine Kd.S_append (Kd.slice 5 (Kd.int .u8)) (w0 := w) w.heap.size rfl (.tmp 28) (.tmp 39) 22 23 (.slice none 0 0) 24 rfl Tryd.underlying22 info23 rfl (by decide) (by omega) u6 x6_3 t152 [.slice Ao20 t152.length co20] (fun _ => True) (fun k_ => some k_ = (.slice Ao20 t152.length co20 : Value).ownBlock) rfl rfl ?aP (fun k_ hk_ => ((Kd.R_mono (ok' := fun k_ => ((fun _ => True)) k_ ∧ nO_ k_ u6) (Kd.R_apart' (HO154.out) (Kd.S_typed HO_6.out) (by decide)) (fun k_ hk => ⟨trivial, hk.2⟩))).1 k_ hk_.symm) ?aF ?aO ?aB ?aS ?aL ?_; (case aP => exact Kd.M_row (Kd.R_mono (Kd.R_tight rfl (Kd.R_mono (ok' := fun k_ => ((fun _ => True)) k_ ∧ nO_ k_ u6) (Kd.R_apart' (HO154.out) (Kd.S_typed HO_6.out) (by decide)) (fun k_ hk => ⟨trivial, hk.2⟩))) (fun _ h_ => h_))); (case aB => exact (pH_ HB.out)); (case aF => exact (fun _ _ => trivial)); (case aO => exact (by (with_reducible repeat (first | apply Kd.S_alloc | apply Kd.S_drewN | apply Kd.S_drew)); exact Kd.S_mono HO_6.out (fun k_ hk => ⟨trivial, fun e_ => hk.2 e_⟩))); (case aS => exact (below_size (pH_ HB.out))); (case aL => have := LMc16.out; omega); intro v156 w19 ho hb hg hat; (try simp only [Int.reduceToNat] at ho); rw [← Ny155.out] at ho; have n0_ := Aside0.mk (hb); have n1_ := Aside0.mk (ho); clear HB; clear HO_6; clear HO154; have HB := n0_; have HO157 := n1_; clear n0_ n1_; clear ho hb hg hat))
              go_roundg k3
              case measure => have := HJ2.out; have := HJ5.out; have := HK3.out; omega
              case rel => exact ⟨(y155), (wrap64 (x7_3 + a1)), (by first | rfl | (simp; done) | (simp [*]; done)), H', ⟨by have := HJ2.out; have := HJ5.out; have := HK3.out; omega⟩, ⟨by (with_reducible repeat (first | apply Kd.S_alloc | apply Kd.S_drewN | apply Kd.S_drew)); exact HO157.out⟩, ⟨pH_ HB.out⟩⟩
             ·
              rw [if_neg c16] at H; exact absurd H (by simp)
            ·
             rw [if_neg c14] at H; exact absurd H (by simp)
           ·
            rw [if_neg c13] at H; exact absurd H (by simp)
          ·
           rw [if_neg c12] at H; exact absurd H (by simp)
         ·
          rw [if_neg c10] at H; have c10b0 : decide (x7_3 < (l0.length : Int)) = false := decide_eq_false c10; clear c10; simp only [Option.some.injEq, Prod.mk.injEq] at H; obtain ⟨rfl, rfl⟩ := H
          go_wp2
          go_ret2
          exact ⟨_, by first | rfl | (simp [errW_none, errW_some] <;> rfl) | (simp [*, errW_none, errW_some] <;> rfl), by (with_reducible repeat (first | apply Kd.S_alloc | apply Kd.S_drewN | apply Kd.S_drew)); exact HO_6.out, pH_ HB.out⟩

/-! ### bitloftref42_Right: function 14 -/
def bitloftref42_Right.f (k : Nat) (l0 : List (List Int)) (a1 : Int) (l2 : List (List Int)) : Option (Bool × Int) := (bitloftref42_Protect.f k l0 a1).bind fun bt158 => (if bt158.2 = 0 then ((bitloftref42_Same.f k bt158.1 l2).bind fun t162 => (some (t162, 0))) else (some (false, bt158.2)))
theorem bitloftref42_Right.mono : ∀ a0 a1 a2 k, LeO (bitloftref42_Right.f k a0 a1 a2) (bitloftref42_Right.f (k + 1) a0 a1 a2) := by
 intro a0 a1 a2 k
 unfold bitloftref42_Right.f
 repeat' first
   | (with_reducible exact bitloftref42_Protect.mono _ _ _)
   | (with_reducible exact bitloftref42_Same.mono _ _ _)
   | (with_reducible exact LeO.refl _)
   | (with_reducible exact LeO.none _)
   | (with_reducible refine LeO.ite ?_ ?_)
   | (with_reducible refine LeO.bind ?_ (fun _ => ?_))
   | exact bitloftref42_Protect.mono _ _ _
   | exact bitloftref42_Same.mono _ _ _
   | exact LeO.none _
   | refine LeO.ite ?_ ?_
   | refine LeO.bind ?_ (fun _ => ?_)
set_option maxHeartbeats 8000000 in
set_option maxRecDepth 100000 in
theorem bitloftref42_Right.calls (k : Nat) (A0 : Option Addr) (c0 : Nat) (l0 : List (List Int)) (a1 : Int) (A2 : Option Addr) (c2 : Nat) (l2 : List (List Int)) (r1 : Bool) (r2 : Int) (w : World) (hr0 : Kd.C (Kd.slice 5 (Kd.int .u8)) w A0 l0.length l0) (hc0 : l0.length ≤ c0) (hr2 : Kd.C (Kd.slice 5 (Kd.int .u8)) w A2 l2.length l2) (hc2 : l2.length ≤ c2) (h : bitloftref42_Right.f k l0 a1 l2 = some (r1, r2)) :
  Calls Tryd.prog 14 #[.slice A0 l0.length c0, .int .i64 a1, .slice A2 l2.length c2] w fun e w' => e = .returned (.tuple #[.bool r1, .int .i64 r2]) ∧ Below w.heap.size w w' := by
 have HR0 := Aside0.mk hr0; have HC0 := Aside0.mk hc0; clear hr0 hc0; have HR2 := Aside0.mk hr2; have HC2 := Aside0.mk hc2; clear hr2 hc2; have HB := Aside0.mk (Below.refl w.heap.size w); have H : ((bitloftref42_Protect.f k l0 a1).bind fun bt158 => (if bt158.2 = 0 then ((bitloftref42_Same.f k bt158.1 l2).bind fun t162 => (some (t162, 0))) else (some (false, bt158.2)))) = some (r1, r2) := h; clear h; replace H := Option.bind_eq_some_iff.mp H; obtain ⟨⟨t158, t159⟩, A40, H⟩ := H; replace H : (if t159 = 0 then ((bitloftref42_Same.f k t158 l2).bind fun t162 => (some (t162, 0))) else (some (false, t159))) = some (r1, r2) := H; have A4 := Aside0.mk A40; clear A40
 by_cases c5 : t159 = 0
 ·
  rw [if_pos c5] at H; have c5b0 : (t159 == 0) = true := beq_iff_eq.mpr c5; have c5b1 : (t159 != 0) = false := bne_eq_false_iff_eq.mpr c5; clear c5; replace H := Option.bind_eq_some_iff.mp H; obtain ⟨t162, A60, H⟩ := H; replace H : (some (t162, 0)) = some (r1, r2) := H; have A6 := Aside0.mk A60; clear A60; simp only [Option.some.injEq, Prod.mk.injEq] at H; obtain ⟨rfl, rfl⟩ := H
  go_enter Tryd.func14, Tryd.ntmps14
  go_wp2_with (first | ((with_reducible refine gate_callee (f := 19) rfl ?_); refine gL_ (some 13) Tryd.func19 #[.slice A0 l0.length c0, .int .i64 a1] ?_; (with_reducible refine (bitloftref42_Protect.calls k _ _ l0 a1 t158 t159 _ ?side1 ?side2 A4.out).mono ?_); (case side1 => repeat (first | exact HR0.out | (with_reducible refine Kd.C_alloc ?_ _) | (with_reducible refine Kd.C_drewN ?_ _) | (with_reducible refine Kd.C_drew ?_))); (case side2 => exact HC0.out); rintro e w7 ⟨v160, rfl, ho0, hb⟩; refine ⟨_, rfl, ?_⟩; have n0_ := Aside0.mk (Kd.S_lower ho0 (below_size (pH_ HB.out))); have n1_ := Aside0.mk (below_step (pH_ HB.out) hb); clear HB; have HO161 := n0_; have HB := n1_; clear n0_ n1_; (try clear hb); (try clear ho0); obtain ⟨Ao8, co8, eo8⟩ := Kd.S_slice HO161.out; subst eo8) | ((with_reducible refine gate_callee (f := 17) rfl ?_); refine gL_ (some 21) Tryd.func17 #[.slice Ao8 t158.length co8, .slice A2 l2.length c2] ?_; (with_reducible refine (bitloftref42_Same.calls k _ _ t158 _ _ l2 t162 _ ?side1 ?side2 ?side3 ?side4 A6.out).mono ?_); (case side1 => repeat (first | exact (Kd.S_reads' HO161.out).2.2 | (with_reducible refine Kd.C_alloc ?_ _) | (with_reducible refine Kd.C_drewN ?_ _) | (with_reducible refine Kd.C_drew ?_))); (case side2 => exact (Kd.S_reads' HO161.out).2.1); (case side3 => repeat (first | exact (Kd.C_below HR2.out HB.out) | (with_reducible refine Kd.C_alloc ?_ _) | (with_reducible refine Kd.C_drewN ?_ _) | (with_reducible refine Kd.C_drew ?_))); (case side4 => exact HC2.out); rintro e w' ⟨rfl, ⟨nd, rfl⟩⟩; refine ⟨_, rfl, ?_⟩))
  go_ret2
  exact ⟨by first | rfl | (simp [errW_none, errW_some] <;> rfl) | (simp [*, errW_none, errW_some] <;> rfl), pH_ HB.out⟩
 ·
  rw [if_neg c5] at H; have c5b0 : (t159 == 0) = false := beq_eq_false_iff_ne.mpr c5; have c5b1 : (t159 != 0) = true := bne_iff_ne.mpr c5; simp only [Option.some.injEq, Prod.mk.injEq] at H; obtain ⟨rfl, rfl⟩ := H
  go_enter Tryd.func14, Tryd.ntmps14
  go_wp2_with (first | ((with_reducible refine gate_callee (f := 19) rfl ?_); refine gL_ (some 13) Tryd.func19 #[.slice A0 l0.length c0, .int .i64 a1] ?_; (with_reducible refine (bitloftref42_Protect.calls k _ _ l0 a1 t158 t159 _ ?side1 ?side2 A4.out).mono ?_); (case side1 => repeat (first | exact HR0.out | (with_reducible refine Kd.C_alloc ?_ _) | (with_reducible refine Kd.C_drewN ?_ _) | (with_reducible refine Kd.C_drew ?_))); (case side2 => exact HC0.out); rintro e w9 ⟨v160, rfl, ho0, hb⟩; refine ⟨_, rfl, ?_⟩; have n0_ := Aside0.mk (Kd.S_lower ho0 (below_size (pH_ HB.out))); have n1_ := Aside0.mk (below_step (pH_ HB.out) hb); clear HB; have HO161 := n0_; have HB := n1_; clear n0_ n1_; (try clear hb); (try clear ho0)))
  go_ret2
  exact ⟨by first | rfl | (simp [errW_none, errW_some] <;> rfl) | (simp [*, errW_none, errW_some] <;> rfl), pH_ HB.out⟩

/-! ### slices_Clone_byte_byte: function 24 -/
/-- A row's copy. -/
def slices_Clone_byte_byte.f (l0 : List Int) : Option (List Int) := if l0.length < 140737488355328 then some l0 else none
theorem slices_Clone_byte_byte.calls (A0 : Option Addr) (c0 : Nat) (l0 : List Int) (r : List Int) (w : World) (hr0 : Kd.C (Kd.int .u8) w A0 l0.length l0) (hc0 : l0.length ≤ c0) (h : slices_Clone_byte_byte.f l0 = some r) :
    Calls Tryd.prog 24 #[.slice A0 l0.length c0] w fun e w' => ∃ v0_ : Value, e = .returned v0_ ∧ Kd.R (Kd.int .u8) 5 w' w.heap.size (fun _ => True) v0_ r ∧ Below w.heap.size w w' := by
  unfold slices_Clone_byte_byte.f at h
  by_cases hl : l0.length < 140737488355328
  case neg => rw [if_neg hl] at h; exact absurd h (by simp)
  rw [if_pos hl] at h
  obtain rfl := Option.some.inj h
  clear h
  have HB := Aside0.mk (Below.refl w.heap.size w)
  rcases A0 with _ | ad
  · have h0 : l0 = [] := by
      rcases Nat.eq_zero_or_pos l0.length with h | h
      · exact List.eq_nil_of_length_eq_zero h
      · obtain ⟨ad, e, _⟩ := hr0.2.2 h
        cases e
    subst h0
    clear hr0 hl hc0
    have hq := fun (n c : Nat) (W : World) => eql_nil_ (P := Tryd.prog) Tryd.underlying23 none n c W
    go_enter Tryd.func24, Tryd.ntmps24
    go_wp2
    go_ret
    exact ⟨_, rfl, Kd.R_nil _ _ _ _ _, HB.out⟩
  · have HR0 := Aside0.mk hr0
    have HL := Aside0.mk hl
    clear hr0 hl hc0
    have hq := fun (n c : Nat) (W : World) => eql_nil_ (P := Tryd.prog) Tryd.underlying23 (some ad) n c W
    go_enter Tryd.func24, Tryd.ntmps24
    go_wp2_with (first | ((with_reducible refine gate_dst (N := 5) rfl ?_); refine Kd.R_lit (Kd.int .u8) _ 5 ?hg (N := 5) ?hd (xs := ([] : List Int)) (inner := []) (ok := fun _ => True) (okp := fun _ => True) ?hr ?hp (fun _ hk => hk) trivial (Below.refl _ _) (Nat.le_refl _) (by simp) ?_; (case hd => rfl); (case hg => rfl); (case hr => first | (go_simp; done) | (go_simp; rfl)); (case hp => exact (Reps.none _ _)); intro v5 w5 ho hb hg_ hnew_; have HO := Aside0.mk ho; have HB5 := Aside0.mk hb; clear ho hb hg_ hnew_) | (at_builtin; refine Kd.R_append_rows (Kd.int .u8) (w0 := w) w.heap.size (by rfl) (.tmp 5) (.tmp 6) 23 5 (.int .u8 0) 1 rfl Tryd.underlying23 info5 rfl (by decide) (by omega) v5 ([] : List Int) l0 _ _ _ (fun _ => True) (fun _ => False) rfl rfl ?aO ?aR (fun _ _ h => h) (fun _ h => h.elim) ?aF ?aB ?aS ?aL ?_; (case aO => exact HO.out); (case aR => exact Kd.C_below HR0.out HB5.out); (case aF => exact fun _ _ => trivial); (case aB => exact HB5.out); (case aS => exact below_size HB5.out); (case aL => have := HL.out; simp; omega); intro v7 w7 ho hb hg hat; have HO7 := Aside0.mk ho; have HB7 := Aside0.mk hb; clear ho hb hg hat))
    go_ret
    exact ⟨_, rfl, HO7.out, HB7.out⟩

-- NOT PRINTED: function 40 (bytes_trimLeftByte)

-- NOT PRINTED: function 41 (bytes_trimRightByte)

-- NOT PRINTED: function 42 (bytes_makeASCIISet)

-- NOT PRINTED: function 50 (bytes_asciiSet_contains)

-- NOT PRINTED: function 43 (bytes_trimLeftASCII)

-- NOT PRINTED: function 44 (bytes_trimRightASCII)

-- NOT PRINTED: function 55 (utf8_decodeRuneSlow)

-- NOT PRINTED: function 51 (utf8_DecodeRune)

-- NOT PRINTED: function 52 (bytes_containsRune)

-- NOT PRINTED: function 45 (bytes_trimLeftUnicode)

-- NOT PRINTED: function 56 (utf8_RuneStart)

-- NOT PRINTED: function 53 (utf8_DecodeLastRune)

-- NOT PRINTED: function 46 (bytes_trimRightUnicode)

/-! ### bytes_Trim: function 26 -/
theorem bytes_Trim.right (ad : Addr) (n c : Nat) (xs : List Int) (w : World) (hn : n = xs.length) (hnc : n ≤ c) (hbig : n ≤ 1000000000) (hit : ∀ k, k < n → w.cell? (ad.add k) = some (.int .u8 (rd xs (k : Int)))) :
    Calls Tryd.prog 41 #[.slice (some ad) n c, .int .u8 0] w fun e w' => ∃ k : Nat, k ≤ n ∧ (∀ j : Nat, k ≤ j → j < n → rd xs (j : Int) = 0) ∧ (k = 0 ∨ ∃ j : Nat, j + 1 = k ∧ rd xs (j : Int) ≠ 0) ∧ e = .returned (.slice (some ad) k c) ∧ ∃ q, w' = w.drewN q := by
  have HI := Aside0.mk hit
  clear hit
  go_enter Tryd.func41, Tryd.ntmps41
  go_wp2
  go_loopg [0] n (fun gg s0 wr => ∃ k q : Nat, k ≤ n ∧ k ≤ gg ∧ s0 = .slice (some ad) k c ∧ wr = w.drewN q ∧ Aside0 (∀ j : Nat, k ≤ j → j < n → rd xs (j : Int) = 0))
  case atStart => exact ⟨n, 0, Nat.le_refl _, by omega, rfl, rfl, Aside0.mk (fun j h1 h2 => by omega)⟩
  case round =>
    obtain ⟨k, q, hk, hg, rfl, rfl, A⟩ := hrel
    rcases Nat.eq_zero_or_pos k with rfl | hp
    · go_wp2
      go_ret
      exact ⟨0, Nat.zero_le _, A.out, Or.inl rfl, rfl, q, rfl⟩
    · obtain ⟨m, rfl⟩ : ∃ m, k = m + 1 := ⟨k - 1, by omega⟩
      have hcell := HI.out m (by omega)
      have hpz : (0 : Int) < ((m + 1 : Nat) : Int) := by omega
      have hs : wrap64 (((m + 1 : Nat) : Int) - 1) = (m : Int) := by rw [wrap64]; omega
      have hlt : (m : Int) < ((m + 1 : Nat) : Int) := by omega
      by_cases c2 : rd xs (m : Int) = 0
      · rw [c2] at hcell
        go_wp2
        go_roundg m
        case measure => omega
        case rel => exact ⟨m, q, by omega, Nat.le_refl _, rfl, rfl, Aside0.mk (fun j h1 h2 => by
          rcases Nat.eq_or_lt_of_le h1 with h | h
          · rw [← h]; exact c2
          · exact A.out j h h2)⟩
      · have e2 : (rd xs (m : Int) == 0) = false := beq_eq_false_iff_ne.mpr c2
        go_wp2
        go_ret
        exact ⟨m + 1, hk, A.out, Or.inr ⟨m, rfl, c2⟩, rfl, q, rfl⟩
theorem bytes_Trim.left (g o n c : Nat) (xs : List Int) (w : World) (hnc : n ≤ c) (hbig : n ≤ 1000000000) (hit : ∀ k, k < n → w.cell? ⟨g, o + k, none⟩ = some (.int .u8 (rd xs (k : Int)))) (hl : n = 0 ∨ ∃ j : Nat, j + 1 = n ∧ rd xs (j : Int) ≠ 0) :
    Calls Tryd.prog 40 #[.slice (some ⟨g, o, none⟩) n c, .int .u8 0] w fun e w' => ∃ A k c', (0 < k ↔ 0 < n) ∧ e = .returned (.slice A k c') ∧ ∃ q, w' = w.drewN q := by
  have HI := Aside0.mk hit
  have HL := Aside0.mk hl
  clear hit hl
  go_enter Tryd.func40, Tryd.ntmps40
  go_wp2
  go_loopg [0] n (fun gg s0 wr => ∃ i p d q : Nat, i + p = n ∧ p ≤ gg ∧ p ≤ d ∧ s0 = .slice (some ⟨g, o + i, none⟩) p d ∧ wr = w.drewN q ∧ (0 < p ↔ 0 < n))
  case atStart => exact ⟨0, n, c, 0, by omega, by omega, hnc, rfl, rfl, Iff.rfl⟩
  case round =>
    obtain ⟨i, p, d, q, hip, hg, hpd, rfl, rfl, hpn⟩ := hrel
    rcases Nat.eq_zero_or_pos p with rfl | hp
    · go_wp2
      go_ret
      exact ⟨_, _, _, by simpa using hpn, rfl, q, rfl⟩
    · obtain ⟨m, rfl⟩ : ∃ m, p = m + 1 := ⟨p - 1, by omega⟩
      have hcell := HI.out i (by omega)
      have hpz : (0 : Int) < ((m + 1 : Nat) : Int) := by omega
      by_cases c2 : rd xs (i : Int) = 0
      · rw [c2] at hcell
        have hm : 0 < m := by
          rcases HL.out with h | ⟨j, hj, hx⟩
          · omega
          · rcases Nat.eq_zero_or_pos m with rfl | h
            · exact absurd (by rw [show j = i by omega]; exact c2) hx
            · exact h
        have o1 : (1 : Int) ≤ ((m + 1 : Nat) : Int) := by omega
        have hne : ¬ d = 1 := by omega
        go_wp2
        go_roundg m
        case measure => omega
        case rel => exact ⟨i + 1, m, d - 1, q, by omega, Nat.le_refl _, by omega, rfl, rfl, by omega⟩
      · have e2 : (rd xs (i : Int) == 0) = false := beq_eq_false_iff_ne.mpr c2
        go_wp2
        go_ret
        exact ⟨_, _, _, hpn, rfl, q, rfl⟩
/-- A row behind zeros trimmed off: is anything left of it? -/
theorem bytes_Trim.calls (g o n c : Nat) (xs : List Int) (w : World) (hn : n = xs.length) (hnc : n ≤ c) (hbig : n ≤ 1000000000) (hit : ∀ k, k < n → w.cell? ⟨g, o + k, none⟩ = some (.int .u8 (rd xs (k : Int)))) :
    Calls Tryd.prog 26 #[.slice (some ⟨g, o, none⟩) n c, .string { data := #[0] }] w fun e w' => ∃ A k c', (0 < k ↔ ∃ j : Nat, j < n ∧ rd xs (j : Int) ≠ 0) ∧ e = .returned (.slice A k c') ∧ ∃ q, w' = w.drewN q := by
  have hadd : ∀ k, (⟨g, o, none⟩ : Addr).add k = ⟨g, o + k, none⟩ := fun k => by first | rfl | exact add_plain _ _ _ | simp [Addr.add]
  have H1 : Aside0 (∀ W : World, (∃ q, W = w.drewN q) → Calls Tryd.prog 41 #[.slice (some ⟨g, o, none⟩) n c, .int .u8 0] W fun e w' => ∃ k : Nat, k ≤ n ∧ (0 < k ↔ ∃ j : Nat, j < n ∧ rd xs (j : Int) ≠ 0) ∧ e = .returned (.slice (some ⟨g, o, none⟩) k c) ∧ (∃ q, w' = w.drewN q) ∧ Aside0 (∀ W : World, (∃ q, W = w.drewN q) → Calls Tryd.prog 40 #[.slice (some ⟨g, o, none⟩) k c, .int .u8 0] W fun e w' => ∃ A k' c', (0 < k' ↔ 0 < k) ∧ e = .returned (.slice A k' c') ∧ ∃ q, w' = w.drewN q)) := ⟨by
    rintro W ⟨q, rfl⟩
    refine (bytes_Trim.right ⟨g, o, none⟩ n c xs (w.drewN q) hn hnc hbig (fun k hk => by rw [hadd]; exact hit k hk)).mono ?_
    rintro e w' ⟨k, hk, hz, hl, rfl, q2, rfl⟩
    refine ⟨k, hk, ⟨fun h => ?_, fun ⟨j, hj, hx⟩ => ?_⟩, rfl, ⟨q + q2, by rw [World.drewN_drewN]⟩, ⟨?_⟩⟩
    · rcases hl with h0 | ⟨j, hj, hx⟩
      · omega
      · exact ⟨j, by omega, hx⟩
    · rcases Nat.eq_zero_or_pos k with h0 | h0
      · subst h0; exact absurd (hz j (Nat.zero_le _) hj) hx
      · exact h0
    · rintro W ⟨q3, rfl⟩
      refine (bytes_Trim.left g o k c xs (w.drewN q3) (by omega) (by omega) (fun j hj => hit j (by omega)) hl).mono ?_
      rintro e w' ⟨A, k', c', h1, rfl, q4, rfl⟩
      exact ⟨A, k', c', h1, rfl, q3 + q4, by rw [World.drewN_drewN]⟩⟩
  rcases Nat.eq_zero_or_pos n with h0 | h0
  · subst h0
    clear H1 hit
    go_enter Tryd.func26, Tryd.ntmps26
    go_wp2
    go_ret
    exact ⟨_, _, _, ⟨fun h => absurd h (Nat.lt_irrefl _), fun ⟨j, hj, _⟩ => absurd hj (Nat.not_lt_zero _)⟩, rfl, 0, rfl⟩
  · have hnz : ((n : Int) == 0) = false := beq_eq_false_iff_ne.mpr (by omega)
    have hne : ¬ n = 0 := by omega
    clear hit hadd hn hnc hbig h0
    go_enter Tryd.func26, Tryd.ntmps26
    go_upto_region 5 with (fail)
    set_option maxRecDepth 20000 in go_upto_region 6 with (fail)
    refine start_ (n := 8) (S := fun w' => ∃ q, w' = w.drewN q) (ds := [7]) #[false, false, false, false, false, false, false, false] (by kernel_rfl) rfl rfl ⟨1, rfl⟩ (fun hHeld => ?_)
    generalize w.drew = w1 at hHeld ⊢
    refine take_ (i := 0) (N := some 21) (v := ?_) (a' := ?_) #[true, false, false, false, false, false, false, false] rfl rfl (by kernel_rfl) (fun _ _ _ h => h) (Or.inl ⟨by rfl, ?_⟩) hHeld ?_ ?_; rotate_left
    · intro w' s0; set_option maxRecDepth 20000 in go_simp
      with_reducible rfl
    rotate_left
    · simp only [Act.put, setIfInBounds_toArray, set_cons_zero, set_cons_succ, i64_w, i32_w]; rfl
    refine take_ (i := 1) (N := some 22) (v := ?_) (a' := ?_) #[true, true, false, false, false, false, false, false] rfl rfl (by kernel_rfl) (fun _ _ _ h => h) (Or.inl ⟨by rfl, ?_⟩) hHeld ?_ ?_; rotate_left
    · intro w' s0; set_option maxRecDepth 20000 in go_simp
      with_reducible rfl
    rotate_left
    · simp only [Act.put, setIfInBounds_toArray, set_cons_zero, set_cons_succ, i64_w, i32_w]; rfl
    refine take_ (i := 2) (N := some 23) (v := ?_) (a' := ?_) #[true, true, true, false, false, false, false, false] rfl rfl (by kernel_rfl) (fun _ _ _ h => h) (Or.inl ⟨by rfl, ?_⟩) hHeld ?_ ?_; rotate_left
    · intro w' s0; set_option maxRecDepth 20000 in go_simp
      with_reducible rfl
    rotate_left
    · simp only [Act.put, setIfInBounds_toArray, set_cons_zero, set_cons_succ, i64_w, i32_w]; rfl
    refine take_ (i := 4) (N := some 25) (v := ?_) (a' := ?_) #[true, true, true, false, true, false, false, false] rfl rfl (by kernel_rfl) (fun _ _ _ h => h) (Or.inl ⟨by rfl, ?_⟩) hHeld ?_ ?_; rotate_left
    · intro w' s0; set_option maxRecDepth 20000 in go_simp
      with_reducible rfl
    rotate_left
    · simp only [Act.put, setIfInBounds_toArray, set_cons_zero, set_cons_succ, i64_w, i32_w]; rfl
    refine take_ (i := 5) (N := some 26) (v := ?_) (a' := ?_) #[true, true, true, false, true, true, false, false] rfl rfl (by kernel_rfl) (fun _ _ _ h => h) (Or.inl ⟨by rfl, ?_⟩) hHeld ?_ ?_; rotate_left
    · intro w' s0; set_option maxRecDepth 20000 in go_simp
      with_reducible rfl
    rotate_left
    · simp only [Act.put, setIfInBounds_toArray, set_cons_zero, set_cons_succ, i64_w, i32_w]; rfl
    refine one_ (i := 3) (N := some 24) #[true, true, true, true, true, true, false, false] rfl rfl (by kernel_rfl) (by decide) (fun K hK => ?_)
    refine goes_ Tryd.func41 (by kernel_rfl) rfl #[.slice (some ⟨g, o, none⟩) n c, .int .u8 0] (by rfl) rfl rfl (by (try simp only [List.map_toArray, List.map_cons, List.map_nil]); first | done | rfl) ?_
    refine (H1.out w1 hHeld).mono ?_
    rintro e w2 ⟨k, hk, hkx, rfl, hq2, H2⟩
    refine ⟨_, rfl, ?_⟩
    refine hK.out _ _ hq2 (fun hHeld2 => ?_); clear hK K
    refine norm_ (a' := ?_) ?_ ?_; rotate_left
    · show Act.put _ (some 24) _ = _
      simp only [Act.put, setIfInBounds_toArray, set_cons_zero, set_cons_succ, i64_w, i32_w]; rfl
    refine one_ (i := 6) (N := some 27) #[true, true, true, true, true, true, true, false] rfl rfl (by kernel_rfl) (by decide) (fun K hK => ?_)
    refine goes_ Tryd.func40 (by kernel_rfl) rfl #[.slice (some ⟨g, o, none⟩) k c, .int .u8 0] (by rfl) rfl rfl (by (try simp only [List.map_toArray, List.map_cons, List.map_nil]); first | done | rfl) ?_
    refine (H2.out w2 hHeld2).mono ?_
    rintro e w3 ⟨A3, k3, c3, hk3, rfl, hq3⟩
    refine ⟨_, rfl, ?_⟩
    refine hK.out _ _ hq3 (fun hHeld3 => ?_); clear hK K
    refine norm_ (a' := ?_) ?_ ?_; rotate_left
    · show Act.put _ (some 27) _ = _
      simp only [Act.put, setIfInBounds_toArray, set_cons_zero, set_cons_succ, i64_w, i32_w]; rfl
    refine pure_ (i := 7) (N := some 4) (v := ?_) (a' := ?_) #[true, true, true, true, true, true, true, true] rfl rfl (by kernel_rfl) (fun _ _ _ h => h) (Or.inl ⟨by rfl, ?_⟩) ?_ ?_; rotate_left
    · intro w'; go_simp
      with_reducible rfl
    rotate_left
    · simp only [Act.put, setIfInBounds_toArray, set_cons_zero, set_cons_succ, i64_w, i32_w]; rfl
    refine done_ (by kernel_rfl) ?_
    go_wp2
    go_ret
    exact ⟨_, _, _, hk3.trans hkx, rfl, hq3⟩

end Go.Proofs.YtejamobohmljfaaDoor.XParityMends
