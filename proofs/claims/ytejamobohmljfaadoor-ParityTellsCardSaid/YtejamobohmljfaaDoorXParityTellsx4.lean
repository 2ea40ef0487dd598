-- Laid by a program of this session (wip/mkxprint.py, over the kit's print): Lean checks it.
import Derived.Test.YtejamobohmljfaaDoorXParityTellsx0
import Derived.Test.YtejamobohmljfaaDoorXParityTellsx1
import Derived.Test.YtejamobohmljfaaDoorXParityTellsx2
import Derived.Test.YtejamobohmljfaaDoorXParityTellsx3
namespace Go.Proofs.YtejamobohmljfaaDoor.XParityTells
open List (setIfInBounds_toArray set_cons_zero set_cons_succ)
open Go.RowKit Go.Proofs.YtejamobohmljfaaDoorW.PrintWords Go.Proofs.YtejamobohmljfaaDoorW.PrintLast Go.Proofs.YtejamobohmljfaaDoorW.PrintMore
attribute [local go_sem] max2_int min2_int max_two min_two max_three min_three max_four min_four   -- for this text's walks alone
set_option linter.unusedVariables false
set_option linter.unusedSimpArgs false

/-! ### bitloftlaw42_ParityTells: function 4 -/
mutual
def bitloftlaw42_ParityTells.j0 : Nat → List (List Int) → Int → List Int → Bool → Bool → Option (Bool)
 | 0, _, _, _, _, _ => none
 | k + 1, x0, x1, x2, x7, x36 => if x36 = true then (some x7) else ((parity_Repair.f x0 x1 x2).bind fun bt144 => (if bt144.2 = 0 then ((some (([] : List (List Int)) : List (List Int))).bind fun y148 => (if y148.length + x0.length < 5864062014805 then ((some (y148 ++ x0 : List (List Int))).bind fun y151 => (if 0 ≤ x1 then (if x1 < (y151.length : Int) then ((parity_Of.f (y151.set (x1 : Int).toNat bt144.1)).bind fun bt155 => (if bt155.2 = 0 then (if (bt155.1.length : Int) < 2 then (bitloftlaw42_ParityTells.j2 k x2 x7 bt155.1 true) else (bitloftlaw42_ParityTells.j2 k x2 x7 bt155.1 (decide ((bt155.1.length : Int) > (x2.length : Int))))) else (bitloftlaw42_ParityTells.j2 k x2 x7 bt155.1 true))) else (none)) else (none))) else (none))) else (if x7 = true then (if bt144.2 = 12 then (bitloftlaw42_ParityTells.j1 k ((bt144.1.length : Int) == 0)) else (bitloftlaw42_ParityTells.j1 k false)) else (bitloftlaw42_ParityTells.j1 k false))))
def bitloftlaw42_ParityTells.j2 : Nat → List Int → Bool → List Int → Bool → Option (Bool)
 | 0, _, _, _, _ => none
 | k + 1, x2, x7, x11, x82 => if x82 = true then (some false) else (bitloftlaw42_ParityTells.l0 k x2 x7 x11 0)
def bitloftlaw42_ParityTells.l0 : Nat → List Int → Bool → List Int → Int → Option (Bool)
 | 0, _, _, _, _ => none
 | k + 1, x2, x7, x11, x13 => if x13 < (x2.length : Int) then (if x13 < (x11.length : Int) then (if 0 ≤ x13 then (if (rd x2 x13) = (rd x11 x13) then (if x13 ≥ (x11.length : Int) then (bitloftlaw42_ParityTells.j4 k x2 x7 x11 x13 ((rd x2 x13) != 0)) else (bitloftlaw42_ParityTells.j4 k x2 x7 x11 x13 false)) else (bitloftlaw42_ParityTells.j4 k x2 x7 x11 x13 true)) else (none)) else (if x13 ≥ (x11.length : Int) then (if 0 ≤ x13 then (bitloftlaw42_ParityTells.j4 k x2 x7 x11 x13 ((rd x2 x13) != 0)) else (none)) else (bitloftlaw42_ParityTells.j4 k x2 x7 x11 x13 false))) else (some x7)
def bitloftlaw42_ParityTells.j4 : Nat → List Int → Bool → List Int → Int → Bool → Option (Bool)
 | 0, _, _, _, _, _ => none
 | k + 1, x2, x7, x11, x13, x116 => if x116 = true then (some false) else (bitloftlaw42_ParityTells.l0 k x2 x7 x11 (wrap64 (x13 + 1)))
def bitloftlaw42_ParityTells.j1 : Nat → Bool → Option (Bool)
 | 0, _ => none
 | k + 1, x6 => some x6
end
def bitloftlaw42_ParityTells.f (k : Nat) (l0 : List (List Int)) (a1 : Int) (l2 : List Int) : Option (Bool) := (bitloftlaw42_alive.f).bind fun t142 => ((bitloftlaw42_fit.f k l0).bind fun t143 => (if t143 = true then (if a1 < 0 then (bitloftlaw42_ParityTells.j0 k l0 a1 l2 t142 true) else (if a1 ≥ (l0.length : Int) then (bitloftlaw42_ParityTells.j0 k l0 a1 l2 t142 true) else (if (l2.length : Int) > 600 then (bitloftlaw42_ParityTells.j0 k l0 a1 l2 t142 true) else (bitloftlaw42_ParityTells.j0 k l0 a1 l2 t142 (!t142))))) else (bitloftlaw42_ParityTells.j0 k l0 a1 l2 t142 true)))
theorem bitloftlaw42_ParityTells.mono_l : ∀ k, (∀ y0 y1 y2 y3 y4, LeO (bitloftlaw42_ParityTells.j0 k y0 y1 y2 y3 y4) (bitloftlaw42_ParityTells.j0 (k + 1) y0 y1 y2 y3 y4)) ∧ (∀ y0 y1 y2 y3, LeO (bitloftlaw42_ParityTells.j2 k y0 y1 y2 y3) (bitloftlaw42_ParityTells.j2 (k + 1) y0 y1 y2 y3)) ∧ (∀ y0 y1 y2 y3, LeO (bitloftlaw42_ParityTells.l0 k y0 y1 y2 y3) (bitloftlaw42_ParityTells.l0 (k + 1) y0 y1 y2 y3)) ∧ (∀ y0 y1 y2 y3 y4, LeO (bitloftlaw42_ParityTells.j4 k y0 y1 y2 y3 y4) (bitloftlaw42_ParityTells.j4 (k + 1) y0 y1 y2 y3 y4)) ∧ (∀ y0, LeO (bitloftlaw42_ParityTells.j1 k y0) (bitloftlaw42_ParityTells.j1 (k + 1) y0))
 | 0 => ⟨fun _ _ _ _ _ r h => by simp [bitloftlaw42_ParityTells.j0] at h, fun _ _ _ _ r h => by simp [bitloftlaw42_ParityTells.j2] at h, fun _ _ _ _ r h => by simp [bitloftlaw42_ParityTells.l0] at h, fun _ _ _ _ _ r h => by simp [bitloftlaw42_ParityTells.j4] at h, fun _ r h => by simp [bitloftlaw42_ParityTells.j1] at h⟩
 | k + 1 => by
  obtain ⟨ih0, ih1, ih2, ih3, ih4⟩ := bitloftlaw42_ParityTells.mono_l k; refine ⟨?_, ?_, ?_, ?_, ?_⟩
  ·
   intro y0 y1 y2 y3 y4
   unfold bitloftlaw42_ParityTells.j0
   repeat' first
   | (with_reducible exact ih0 _ _ _ _ _)
   | (with_reducible exact ih1 _ _ _ _)
   | (with_reducible exact ih2 _ _ _ _)
   | (with_reducible exact ih3 _ _ _ _ _)
   | (with_reducible exact ih4 _)
   | (with_reducible exact bitloftlaw42_fit.mono _ _)
   | (with_reducible exact LeO.refl _)
   | (with_reducible exact LeO.none _)
   | (with_reducible refine LeO.ite ?_ ?_)
   | (with_reducible refine LeO.bind ?_ (fun _ => ?_))
   | exact ih0 _ _ _ _ _
   | exact ih1 _ _ _ _
   | exact ih2 _ _ _ _
   | exact ih3 _ _ _ _ _
   | exact ih4 _
   | exact bitloftlaw42_fit.mono _ _
   | exact LeO.none _
   | refine LeO.ite ?_ ?_
   | refine LeO.bind ?_ (fun _ => ?_)
  ·
   intro y0 y1 y2 y3
   unfold bitloftlaw42_ParityTells.j2
   repeat' first
   | (with_reducible exact ih0 _ _ _ _ _)
   | (with_reducible exact ih1 _ _ _ _)
   | (with_reducible exact ih2 _ _ _ _)
   | (with_reducible exact ih3 _ _ _ _ _)
   | (with_reducible exact ih4 _)
   | (with_reducible exact bitloftlaw42_fit.mono _ _)
   | (with_reducible exact LeO.refl _)
   | (with_reducible exact LeO.none _)
   | (with_reducible refine LeO.ite ?_ ?_)
   | (with_reducible refine LeO.bind ?_ (fun _ => ?_))
   | exact ih0 _ _ _ _ _
   | exact ih1 _ _ _ _
   | exact ih2 _ _ _ _
   | exact ih3 _ _ _ _ _
   | exact ih4 _
   | exact bitloftlaw42_fit.mono _ _
   | exact LeO.none _
   | refine LeO.ite ?_ ?_
   | refine LeO.bind ?_ (fun _ => ?_)
  ·
   intro y0 y1 y2 y3
   unfold bitloftlaw42_ParityTells.l0
   repeat' first
   | (with_reducible exact ih0 _ _ _ _ _)
   | (with_reducible exact ih1 _ _ _ _)
   | (with_reducible exact ih2 _ _ _ _)
   | (with_reducible exact ih3 _ _ _ _ _)
   | (with_reducible exact ih4 _)
   | (with_reducible exact bitloftlaw42_fit.mono _ _)
   | (with_reducible exact LeO.refl _)
   | (with_reducible exact LeO.none _)
   | (with_reducible refine LeO.ite ?_ ?_)
   | (with_reducible refine LeO.bind ?_ (fun _ => ?_))
   | exact ih0 _ _ _ _ _
   | exact ih1 _ _ _ _
   | exact ih2 _ _ _ _
   | exact ih3 _ _ _ _ _
   | exact ih4 _
   | exact bitloftlaw42_fit.mono _ _
   | exact LeO.none _
   | refine LeO.ite ?_ ?_
   | refine LeO.bind ?_ (fun _ => ?_)
  ·
   intro y0 y1 y2 y3 y4
   unfold bitloftlaw42_ParityTells.j4
   repeat' first
   | (with_reducible exact ih0 _ _ _ _ _)
   | (with_reducible exact ih1 _ _ _ _)
   | (with_reducible exact ih2 _ _ _ _)
   | (with_reducible exact ih3 _ _ _ _ _)
   | (with_reducible exact ih4 _)
   | (with_reducible exact bitloftlaw42_fit.mono _ _)
   | (with_reducible exact LeO.refl _)
   | (with_reducible exact LeO.none _)
   | (with_reducible refine LeO.ite ?_ ?_)
   | (with_reducible refine LeO.bind ?_ (fun _ => ?_))
   | exact ih0 _ _ _ _ _
   | exact ih1 _ _ _ _
   | exact ih2 _ _ _ _
   | exact ih3 _ _ _ _ _
   | exact ih4 _
   | exact bitloftlaw42_fit.mono _ _
   | exact LeO.none _
   | refine LeO.ite ?_ ?_
   | refine LeO.bind ?_ (fun _ => ?_)
  ·
   intro y0
   unfold bitloftlaw42_ParityTells.j1
   repeat' first
   | (with_reducible exact ih0 _ _ _ _ _)
   | (with_reducible exact ih1 _ _ _ _)
   | (with_reducible exact ih2 _ _ _ _)
   | (with_reducible exact ih3 _ _ _ _ _)
   | (with_reducible exact ih4 _)
   | (with_reducible exact bitloftlaw42_fit.mono _ _)
   | (with_reducible exact LeO.refl _)
   | (with_reducible exact LeO.none _)
   | (with_reducible refine LeO.ite ?_ ?_)
   | (with_reducible refine LeO.bind ?_ (fun _ => ?_))
   | exact ih0 _ _ _ _ _
   | exact ih1 _ _ _ _
   | exact ih2 _ _ _ _
   | exact ih3 _ _ _ _ _
   | exact ih4 _
   | exact bitloftlaw42_fit.mono _ _
   | exact LeO.none _
   | refine LeO.ite ?_ ?_
   | refine LeO.bind ?_ (fun _ => ?_)
theorem bitloftlaw42_ParityTells.mono : ∀ a0 a1 a2 k, LeO (bitloftlaw42_ParityTells.f k a0 a1 a2) (bitloftlaw42_ParityTells.f (k + 1) a0 a1 a2) := by
 intro a0 a1 a2 k; obtain ⟨ih0, ih1, ih2, ih3, ih4⟩ := bitloftlaw42_ParityTells.mono_l k
 unfold bitloftlaw42_ParityTells.f
 repeat' first
   | (with_reducible exact ih0 _ _ _ _ _)
   | (with_reducible exact ih1 _ _ _ _)
   | (with_reducible exact ih2 _ _ _ _)
   | (with_reducible exact ih3 _ _ _ _ _)
   | (with_reducible exact ih4 _)
   | (with_reducible exact bitloftlaw42_fit.mono _ _)
   | (with_reducible exact LeO.refl _)
   | (with_reducible exact LeO.none _)
   | (with_reducible refine LeO.ite ?_ ?_)
   | (with_reducible refine LeO.bind ?_ (fun _ => ?_))
   | exact ih0 _ _ _ _ _
   | exact ih1 _ _ _ _
   | exact ih2 _ _ _ _
   | exact ih3 _ _ _ _ _
   | exact ih4 _
   | exact bitloftlaw42_fit.mono _ _
   | exact LeO.none _
   | refine LeO.ite ?_ ?_
   | refine LeO.bind ?_ (fun _ => ?_)
set_option maxHeartbeats 8000000 in
set_option maxRecDepth 100000 in
theorem bitloftlaw42_ParityTells.calls (k : Nat) (P0_ : Nat → Prop) (A0 : Option Addr) (c0 : Nat) (l0 : List (List Int)) (a1 : Int) (A2 : Option Addr) (c2 : Nat) (l2 : List Int) (r : Bool) (w : World) (hs0 : Kd.V (Kd.slice 5 (Kd.int .u8)) 23 w w.heap.size (fun k_ => P0_ k_) (.slice A0 l0.length c0) l0) (hr2 : Kd.C (Kd.int .u8) w A2 l2.length l2) (hc2 : l2.length ≤ c2) (hr_ : r = true) (h : bitloftlaw42_ParityTells.f k l0 a1 l2 = some r) :
  Calls Tryd.prog 4 #[.slice A0 l0.length c0, .int .i64 a1, .slice A2 l2.length c2] w fun e w' => e = .returned (.bool r) ∧ Below w.heap.size w w' := by
 have HRT_ := Aside0.mk hr_; clear hr_; have HO0 := Aside0.mk (show Kd.V (Kd.slice 5 (Kd.int .u8)) 23 w w.heap.size (fun k_ => (P0_ k_ ∨ w.heap.size ≤ k_)) (.slice A0 l0.length c0) l0 from Kd.V_mono hs0 (fun k_ hk => .inl hk)); have HR2 := Aside0.mk hr2; have HC2 := Aside0.mk hc2; clear hr2 hc2; have HB := Aside0.mk (Below.refl w.heap.size w); have H : ((bitloftlaw42_alive.f).bind fun t142 => ((bitloftlaw42_fit.f k l0).bind fun t143 => (if t143 = true then (if a1 < 0 then (bitloftlaw42_ParityTells.j0 k l0 a1 l2 t142 true) else (if a1 ≥ (l0.length : Int) then (bitloftlaw42_ParityTells.j0 k l0 a1 l2 t142 true) else (if (l2.length : Int) > 600 then (bitloftlaw42_ParityTells.j0 k l0 a1 l2 t142 true) else (bitloftlaw42_ParityTells.j0 k l0 a1 l2 t142 (!t142))))) else (bitloftlaw42_ParityTells.j0 k l0 a1 l2 t142 true)))) = some r := h; clear h; replace H := Option.bind_eq_some_iff.mp H; obtain ⟨t142, A40, H⟩ := H; replace H : ((bitloftlaw42_fit.f k l0).bind fun t143 => (if t143 = true then (if a1 < 0 then (bitloftlaw42_ParityTells.j0 k l0 a1 l2 t142 true) else (if a1 ≥ (l0.length : Int) then (bitloftlaw42_ParityTells.j0 k l0 a1 l2 t142 true) else (if (l2.length : Int) > 600 then (bitloftlaw42_ParityTells.j0 k l0 a1 l2 t142 true) else (bitloftlaw42_ParityTells.j0 k l0 a1 l2 t142 (!t142))))) else (bitloftlaw42_ParityTells.j0 k l0 a1 l2 t142 true))) = some r := H; have A4 := Aside0.mk A40; clear A40; have HC5 := Aside0.mk H; clear H
 go_enter Tryd.func4, Tryd.ntmps4
 go_upto_region 2 with (first | (go_at_call 8; (with_reducible refine (bitloftlaw42_alive.calls  t142 _ A4.out).mono ?_); rintro e w6 ⟨rfl, hb⟩; have n0_ := Aside0.mk (Kd.V_below (by (with_reducible repeat (first | apply Kd.V_alloc | apply Kd.V_drewN | apply Kd.V_drew)); exact HO0.out) hb); have n1_ := Aside0.mk (below_step (pH_ HB.out) hb); clear HO0; clear HB; have HO0 := n0_; have HB := n1_; clear n0_ n1_; (try clear hb)))
 repeat (go_quiet (first | (go_at_call 8; (with_reducible refine (bitloftlaw42_alive.calls  t142 _ A4.out).mono ?_); rintro e w6 ⟨rfl, hb⟩; have n0_ := Aside0.mk (Kd.V_below (by (with_reducible repeat (first | apply Kd.V_alloc | apply Kd.V_drewN | apply Kd.V_drew)); exact HO0.out) hb); have n1_ := Aside0.mk (below_step (pH_ HB.out) hb); clear HO0; clear HB; have HO0 := n0_; have HB := n1_; clear n0_ n1_; (try clear hb))); go_upto_region 2 with (first | (go_at_call 8; (with_reducible refine (bitloftlaw42_alive.calls  t142 _ A4.out).mono ?_); rintro e w6 ⟨rfl, hb⟩; have n0_ := Aside0.mk (Kd.V_below (by (with_reducible repeat (first | apply Kd.V_alloc | apply Kd.V_drewN | apply Kd.V_drew)); exact HO0.out) hb); have n1_ := Aside0.mk (below_step (pH_ HB.out) hb); clear HO0; clear HB; have HO0 := n0_; have HB := n1_; clear n0_ n1_; (try clear hb))))
 (try simp only [Act.put, sA_, sZ_, sS_]); (with_reducible first | refine then_id_ ?_ | (refine wp_tail_ ?_; intro Kt_ hKt_))
 go_cut [36] (fun v36 wc => ∃ (kq : Nat) (x36_4 : Bool), v36 = .bool x36_4 ∧ Aside0 (bitloftlaw42_ParityTells.j0 kq l0 a1 l2 t142 x36_4 = some r) ∧ Aside0 (kq ≤ k) ∧ Aside0 (Kd.V (Kd.slice 5 (Kd.int .u8)) 23 wc w.heap.size (fun k_ => (P0_ k_ ∨ w.heap.size ≤ k_)) (.slice A0 l0.length c0) l0) ∧ Aside0 (Below w.heap.size w wc))
 case first =>
  have H := HC5.out; clear HC5; replace H := Option.bind_eq_some_iff.mp H; obtain ⟨t143, A70, H⟩ := H; replace H : (if t143 = true then (if a1 < 0 then (bitloftlaw42_ParityTells.j0 k l0 a1 l2 t142 true) else (if a1 ≥ (l0.length : Int) then (bitloftlaw42_ParityTells.j0 k l0 a1 l2 t142 true) else (if (l2.length : Int) > 600 then (bitloftlaw42_ParityTells.j0 k l0 a1 l2 t142 true) else (bitloftlaw42_ParityTells.j0 k l0 a1 l2 t142 (!t142))))) else (bitloftlaw42_ParityTells.j0 k l0 a1 l2 t142 true)) = some r := H; have A7 := Aside0.mk A70; clear A70
  by_cases c8 : t143 = true
  ·
   subst c8
   have H1 : (if a1 < 0 then (bitloftlaw42_ParityTells.j0 k l0 a1 l2 t142 true) else (if a1 ≥ (l0.length : Int) then (bitloftlaw42_ParityTells.j0 k l0 a1 l2 t142 true) else (if (l2.length : Int) > 600 then (bitloftlaw42_ParityTells.j0 k l0 a1 l2 t142 true) else (bitloftlaw42_ParityTells.j0 k l0 a1 l2 t142 (!t142))))) = some r := by rw [if_pos rfl] at H; exact H
   clear H; have H := H1; clear H1
   by_cases c9 : a1 < 0
   ·
    rw [if_pos c9] at H; have c9b0 : decide (a1 < 0) = true := decide_eq_true c9; clear c9; (first | rw [c9b0] | (simp only [i64_w, i32_w]; rw [c9b0]) | skip); have H' := Aside0.mk H; clear H
    go_wp2_with (first | (go_at_call 9; (with_reducible refine (bitloftlaw42_fit.calls k _ _ l0 true _ ?side1 ?side2 A7.out).mono ?_); (case side1 => repeat (first | exact (Kd.V_reads' HO0.out).2.2 | (with_reducible refine Kd.C_alloc ?_ _) | (with_reducible refine Kd.C_drewN ?_ _) | (with_reducible refine Kd.C_drew ?_))); (case side2 => exact (Kd.V_reads' HO0.out).2.1); rintro e w10 ⟨rfl, hb⟩; have n0_ := Aside0.mk (Kd.V_below (by (with_reducible repeat (first | apply Kd.V_alloc | apply Kd.V_drewN | apply Kd.V_drew)); exact HO0.out) hb); have n1_ := Aside0.mk (below_step (pH_ HB.out) hb); clear HO0; clear HB; have HO0 := n0_; have HB := n1_; clear n0_ n1_; (try clear hb)))
    repeat (go_quiet (first | (go_at_call 9; (with_reducible refine (bitloftlaw42_fit.calls k _ _ l0 true _ ?side1 ?side2 A7.out).mono ?_); (case side1 => repeat (first | exact (Kd.V_reads' HO0.out).2.2 | (with_reducible refine Kd.C_alloc ?_ _) | (with_reducible refine Kd.C_drewN ?_ _) | (with_reducible refine Kd.C_drew ?_))); (case side2 => exact (Kd.V_reads' HO0.out).2.1); rintro e w10 ⟨rfl, hb⟩; have n0_ := Aside0.mk (Kd.V_below (by (with_reducible repeat (first | apply Kd.V_alloc | apply Kd.V_drewN | apply Kd.V_drew)); exact HO0.out) hb); have n1_ := Aside0.mk (below_step (pH_ HB.out) hb); clear HO0; clear HB; have HO0 := n0_; have HB := n1_; clear n0_ n1_; (try clear hb))); try go_wp2_with (first | (go_at_call 9; (with_reducible refine (bitloftlaw42_fit.calls k _ _ l0 true _ ?side1 ?side2 A7.out).mono ?_); (case side1 => repeat (first | exact (Kd.V_reads' HO0.out).2.2 | (with_reducible refine Kd.C_alloc ?_ _) | (with_reducible refine Kd.C_drewN ?_ _) | (with_reducible refine Kd.C_drew ?_))); (case side2 => exact (Kd.V_reads' HO0.out).2.1); rintro e w10 ⟨rfl, hb⟩; have n0_ := Aside0.mk (Kd.V_below (by (with_reducible repeat (first | apply Kd.V_alloc | apply Kd.V_drewN | apply Kd.V_drew)); exact HO0.out) hb); have n1_ := Aside0.mk (below_step (pH_ HB.out) hb); clear HO0; clear HB; have HO0 := n0_; have HB := n1_; clear n0_ n1_; (try clear hb))))
    (first | go_meet | (refine Met.intro ?_; go_step; (repeat apply Exists.intro); refine ⟨?rel, ?eqf_⟩; case eqf_ => ((simp only [c9b0]) <;> rfl)))
    case rel => exact ⟨_, (true), (by first | rfl | (simp; done) | (simp [*]; done)), H', ⟨by first | omega | exact Nat.le_refl _⟩, ⟨by (with_reducible repeat (first | apply Kd.V_alloc | apply Kd.V_drewN | apply Kd.V_drew)); exact HO0.out⟩, ⟨pH_ HB.out⟩⟩
   ·
    rw [if_neg c9] at H; have c9b0 : decide (a1 < 0) = false := decide_eq_false c9; clear c9; (first | rw [c9b0] | (simp only [i64_w, i32_w]; rw [c9b0]) | skip)
    by_cases c11 : a1 ≥ (l0.length : Int)
    ·
     rw [if_pos c11] at H; have c11b0 : decide ((l0.length : Int) ≤ a1) = true := decide_eq_true c11; clear c11; have H' := Aside0.mk H; clear H
     go_wp2_with (first | (go_at_call 9; (with_reducible refine (bitloftlaw42_fit.calls k _ _ l0 true _ ?side1 ?side2 A7.out).mono ?_); (case side1 => repeat (first | exact (Kd.V_reads' HO0.out).2.2 | (with_reducible refine Kd.C_alloc ?_ _) | (with_reducible refine Kd.C_drewN ?_ _) | (with_reducible refine Kd.C_drew ?_))); (case side2 => exact (Kd.V_reads' HO0.out).2.1); rintro e w12 ⟨rfl, hb⟩; have n0_ := Aside0.mk (Kd.V_below (by (with_reducible repeat (first | apply Kd.V_alloc | apply Kd.V_drewN | apply Kd.V_drew)); exact HO0.out) hb); have n1_ := Aside0.mk (below_step (pH_ HB.out) hb); clear HO0; clear HB; have HO0 := n0_; have HB := n1_; clear n0_ n1_; (try clear hb)))
     repeat (go_quiet (first | (go_at_call 9; (with_reducible refine (bitloftlaw42_fit.calls k _ _ l0 true _ ?side1 ?side2 A7.out).mono ?_); (case side1 => repeat (first | exact (Kd.V_reads' HO0.out).2.2 | (with_reducible refine Kd.C_alloc ?_ _) | (with_reducible refine Kd.C_drewN ?_ _) | (with_reducible refine Kd.C_drew ?_))); (case side2 => exact (Kd.V_reads' HO0.out).2.1); rintro e w12 ⟨rfl, hb⟩; have n0_ := Aside0.mk (Kd.V_below (by (with_reducible repeat (first | apply Kd.V_alloc | apply Kd.V_drewN | apply Kd.V_drew)); exact HO0.out) hb); have n1_ := Aside0.mk (below_step (pH_ HB.out) hb); clear HO0; clear HB; have HO0 := n0_; have HB := n1_; clear n0_ n1_; (try clear hb))); try go_wp2_with (first | (go_at_call 9; (with_reducible refine (bitloftlaw42_fit.calls k _ _ l0 true _ ?side1 ?side2 A7.out).mono ?_); (case side1 => repeat (first | exact (Kd.V_reads' HO0.out).2.2 | (with_reducible refine Kd.C_alloc ?_ _) | (with_reducible refine Kd.C_drewN ?_ _) | (with_reducible refine Kd.C_drew ?_))); (case side2 => exact (Kd.V_reads' HO0.out).2.1); rintro e w12 ⟨rfl, hb⟩; have n0_ := Aside0.mk (Kd.V_below (by (with_reducible repeat (first | apply Kd.V_alloc | apply Kd.V_drewN | apply Kd.V_drew)); exact HO0.out) hb); have n1_ := Aside0.mk (below_step (pH_ HB.out) hb); clear HO0; clear HB; have HO0 := n0_; have HB := n1_; clear n0_ n1_; (try clear hb))))
     (first | go_meet | (refine Met.intro ?_; go_step; (repeat apply Exists.intro); refine ⟨?rel, ?eqf_⟩; case eqf_ => ((simp only [c11b0, c9b0]) <;> rfl)))
     case rel => exact ⟨_, (true), (by first | rfl | (simp; done) | (simp [*]; done)), H', ⟨by first | omega | exact Nat.le_refl _⟩, ⟨by (with_reducible repeat (first | apply Kd.V_alloc | apply Kd.V_drewN | apply Kd.V_drew)); exact HO0.out⟩, ⟨pH_ HB.out⟩⟩
    ·
     rw [if_neg c11] at H; have c11b0 : decide ((l0.length : Int) ≤ a1) = false := decide_eq_false c11; clear c11
     by_cases c13 : (l2.length : Int) > 600
     ·
      rw [if_pos c13] at H; have c13b0 : decide (600 < (l2.length : Int)) = true := decide_eq_true c13; have c13b1 : decide (600 < l2.length) = true := decide_eq_true (by omega); clear c13; have H' := Aside0.mk H; clear H
      go_wp2_with (first | (go_at_call 9; (with_reducible refine (bitloftlaw42_fit.calls k _ _ l0 true _ ?side1 ?side2 A7.out).mono ?_); (case side1 => repeat (first | exact (Kd.V_reads' HO0.out).2.2 | (with_reducible refine Kd.C_alloc ?_ _) | (with_reducible refine Kd.C_drewN ?_ _) | (with_reducible refine Kd.C_drew ?_))); (case side2 => exact (Kd.V_reads' HO0.out).2.1); rintro e w14 ⟨rfl, hb⟩; have n0_ := Aside0.mk (Kd.V_below (by (with_reducible repeat (first | apply Kd.V_alloc | apply Kd.V_drewN | apply Kd.V_drew)); exact HO0.out) hb); have n1_ := Aside0.mk (below_step (pH_ HB.out) hb); clear HO0; clear HB; have HO0 := n0_; have HB := n1_; clear n0_ n1_; (try clear hb)))
      repeat (go_quiet (first | (go_at_call 9; (with_reducible refine (bitloftlaw42_fit.calls k _ _ l0 true _ ?side1 ?side2 A7.out).mono ?_); (case side1 => repeat (first | exact (Kd.V_reads' HO0.out).2.2 | (with_reducible refine Kd.C_alloc ?_ _) | (with_reducible refine Kd.C_drewN ?_ _) | (with_reducible refine Kd.C_drew ?_))); (case side2 => exact (Kd.V_reads' HO0.out).2.1); rintro e w14 ⟨rfl, hb⟩; have n0_ := Aside0.mk (Kd.V_below (by (with_reducible repeat (first | apply Kd.V_alloc | apply Kd.V_drewN | apply Kd.V_drew)); exact HO0.out) hb); have n1_ := Aside0.mk (below_step (pH_ HB.out) hb); clear HO0; clear HB; have HO0 := n0_; have HB := n1_; clear n0_ n1_; (try clear hb))); try go_wp2_with (first | (go_at_call 9; (with_reducible refine (bitloftlaw42_fit.calls k _ _ l0 true _ ?side1 ?side2 A7.out).mono ?_); (case side1 => repeat (first | exact (Kd.V_reads' HO0.out).2.2 | (with_reducible refine Kd.C_alloc ?_ _) | (with_reducible refine Kd.C_drewN ?_ _) | (with_reducible refine Kd.C_drew ?_))); (case side2 => exact (Kd.V_reads' HO0.out).2.1); rintro e w14 ⟨rfl, hb⟩; have n0_ := Aside0.mk (Kd.V_below (by (with_reducible repeat (first | apply Kd.V_alloc | apply Kd.V_drewN | apply Kd.V_drew)); exact HO0.out) hb); have n1_ := Aside0.mk (below_step (pH_ HB.out) hb); clear HO0; clear HB; have HO0 := n0_; have HB := n1_; clear n0_ n1_; (try clear hb))))
      (first | go_meet | (refine Met.intro ?_; go_step; (repeat apply Exists.intro); refine ⟨?rel, ?eqf_⟩; case eqf_ => ((simp only [c13b0, c11b0, c9b0]) <;> rfl)))
      case rel => exact ⟨_, (true), (by first | rfl | (simp; done) | (simp [*]; done)), H', ⟨by first | omega | exact Nat.le_refl _⟩, ⟨by (with_reducible repeat (first | apply Kd.V_alloc | apply Kd.V_drewN | apply Kd.V_drew)); exact HO0.out⟩, ⟨pH_ HB.out⟩⟩
     ·
      rw [if_neg c13] at H; have c13b0 : decide (600 < (l2.length : Int)) = false := decide_eq_false c13; have c13b1 : decide (600 < l2.length) = false := decide_eq_false (by omega); clear c13; have H' := Aside0.mk H; clear H
      go_wp2_with (first | (go_at_call 9; (with_reducible refine (bitloftlaw42_fit.calls k _ _ l0 true _ ?side1 ?side2 A7.out).mono ?_); (case side1 => repeat (first | exact (Kd.V_reads' HO0.out).2.2 | (with_reducible refine Kd.C_alloc ?_ _) | (with_reducible refine Kd.C_drewN ?_ _) | (with_reducible refine Kd.C_drew ?_))); (case side2 => exact (Kd.V_reads' HO0.out).2.1); rintro e w15 ⟨rfl, hb⟩; have n0_ := Aside0.mk (Kd.V_below (by (with_reducible repeat (first | apply Kd.V_alloc | apply Kd.V_drewN | apply Kd.V_drew)); exact HO0.out) hb); have n1_ := Aside0.mk (below_step (pH_ HB.out) hb); clear HO0; clear HB; have HO0 := n0_; have HB := n1_; clear n0_ n1_; (try clear hb)))
      repeat (go_quiet (first | (go_at_call 9; (with_reducible refine (bitloftlaw42_fit.calls k _ _ l0 true _ ?side1 ?side2 A7.out).mono ?_); (case side1 => repeat (first | exact (Kd.V_reads' HO0.out).2.2 | (with_reducible refine Kd.C_alloc ?_ _) | (with_reducible refine Kd.C_drewN ?_ _) | (with_reducible refine Kd.C_drew ?_))); (case side2 => exact (Kd.V_reads' HO0.out).2.1); rintro e w15 ⟨rfl, hb⟩; have n0_ := Aside0.mk (Kd.V_below (by (with_reducible repeat (first | apply Kd.V_alloc | apply Kd.V_drewN | apply Kd.V_drew)); exact HO0.out) hb); have n1_ := Aside0.mk (below_step (pH_ HB.out) hb); clear HO0; clear HB; have HO0 := n0_; have HB := n1_; clear n0_ n1_; (try clear hb))); try go_wp2_with (first | (go_at_call 9; (with_reducible refine (bitloftlaw42_fit.calls k _ _ l0 true _ ?side1 ?side2 A7.out).mono ?_); (case side1 => repeat (first | exact (Kd.V_reads' HO0.out).2.2 | (with_reducible refine Kd.C_alloc ?_ _) | (with_reducible refine Kd.C_drewN ?_ _) | (with_reducible refine Kd.C_drew ?_))); (case side2 => exact (Kd.V_reads' HO0.out).2.1); rintro e w15 ⟨rfl, hb⟩; have n0_ := Aside0.mk (Kd.V_below (by (with_reducible repeat (first | apply Kd.V_alloc | apply Kd.V_drewN | apply Kd.V_drew)); exact HO0.out) hb); have n1_ := Aside0.mk (below_step (pH_ HB.out) hb); clear HO0; clear HB; have HO0 := n0_; have HB := n1_; clear n0_ n1_; (try clear hb))))
      (first | go_meet | (refine Met.intro ?_; go_step; (repeat apply Exists.intro); refine ⟨?rel, ?eqf_⟩; case eqf_ => ((simp only [c13b0, c11b0, c9b0]) <;> rfl)))
      case rel => exact ⟨_, (!t142), (by first | rfl | (simp; done) | (simp [*]; done)), H', ⟨by first | omega | exact Nat.le_refl _⟩, ⟨by (with_reducible repeat (first | apply Kd.V_alloc | apply Kd.V_drewN | apply Kd.V_drew)); exact HO0.out⟩, ⟨pH_ HB.out⟩⟩
  ·
   replace c8 := Bool.eq_false_iff.mpr c8
   subst c8
   have H1 : (bitloftlaw42_ParityTells.j0 k l0 a1 l2 t142 true) = some r := by rw [if_neg (show ¬ (false = true) by decide)] at H; exact H
   clear H; have H := H1; clear H1; have H' := Aside0.mk H; clear H
   go_wp2_with (first | (go_at_call 9; (with_reducible refine (bitloftlaw42_fit.calls k _ _ l0 false _ ?side1 ?side2 A7.out).mono ?_); (case side1 => repeat (first | exact (Kd.V_reads' HO0.out).2.2 | (with_reducible refine Kd.C_alloc ?_ _) | (with_reducible refine Kd.C_drewN ?_ _) | (with_reducible refine Kd.C_drew ?_))); (case side2 => exact (Kd.V_reads' HO0.out).2.1); rintro e w16 ⟨rfl, hb⟩; have n0_ := Aside0.mk (Kd.V_below (by (with_reducible repeat (first | apply Kd.V_alloc | apply Kd.V_drewN | apply Kd.V_drew)); exact HO0.out) hb); have n1_ := Aside0.mk (below_step (pH_ HB.out) hb); clear HO0; clear HB; have HO0 := n0_; have HB := n1_; clear n0_ n1_; (try clear hb)))
   repeat (go_quiet (first | (go_at_call 9; (with_reducible refine (bitloftlaw42_fit.calls k _ _ l0 false _ ?side1 ?side2 A7.out).mono ?_); (case side1 => repeat (first | exact (Kd.V_reads' HO0.out).2.2 | (with_reducible refine Kd.C_alloc ?_ _) | (with_reducible refine Kd.C_drewN ?_ _) | (with_reducible refine Kd.C_drew ?_))); (case side2 => exact (Kd.V_reads' HO0.out).2.1); rintro e w16 ⟨rfl, hb⟩; have n0_ := Aside0.mk (Kd.V_below (by (with_reducible repeat (first | apply Kd.V_alloc | apply Kd.V_drewN | apply Kd.V_drew)); exact HO0.out) hb); have n1_ := Aside0.mk (below_step (pH_ HB.out) hb); clear HO0; clear HB; have HO0 := n0_; have HB := n1_; clear n0_ n1_; (try clear hb))); try go_wp2_with (first | (go_at_call 9; (with_reducible refine (bitloftlaw42_fit.calls k _ _ l0 false _ ?side1 ?side2 A7.out).mono ?_); (case side1 => repeat (first | exact (Kd.V_reads' HO0.out).2.2 | (with_reducible refine Kd.C_alloc ?_ _) | (with_reducible refine Kd.C_drewN ?_ _) | (with_reducible refine Kd.C_drew ?_))); (case side2 => exact (Kd.V_reads' HO0.out).2.1); rintro e w16 ⟨rfl, hb⟩; have n0_ := Aside0.mk (Kd.V_below (by (with_reducible repeat (first | apply Kd.V_alloc | apply Kd.V_drewN | apply Kd.V_drew)); exact HO0.out) hb); have n1_ := Aside0.mk (below_step (pH_ HB.out) hb); clear HO0; clear HB; have HO0 := n0_; have HB := n1_; clear n0_ n1_; (try clear hb))))
   go_meet
   case rel => exact ⟨_, (true), (by first | rfl | (simp; done) | (simp [*]; done)), H', ⟨by first | omega | exact Nat.le_refl _⟩, ⟨by (with_reducible repeat (first | apply Kd.V_alloc | apply Kd.V_drewN | apply Kd.V_drew)); exact HO0.out⟩, ⟨pH_ HB.out⟩⟩
 case rest =>
  (try (refine hKt_ _ _ ?_; clear hKt_; clear Kt_)); clear HC5
  try clear c1
  try clear c2
  try clear p2
  try clear c4
  try clear c8
  try clear c9
  try clear c9b0
  try clear c11
  try clear c11b0
  try clear c13
  try clear c13b0
  try clear c13b1
  obtain ⟨kq, x36_4, rfl, HA, HJ4, HO_0, HB⟩ := hcut
  cases kq with
  | zero => exact absurd HA.out (by simp [bitloftlaw42_ParityTells.j0])
  | succ kj4 =>
   have H := HA.out; clear HA; simp only [bitloftlaw42_ParityTells.j0] at H
   by_cases c17 : x36_4 = true
   ·
    subst c17
    have H1 : (some t142) = some r := by rw [if_pos rfl] at H; exact H
    clear H; have H := H1; clear H1; obtain rfl := Option.some.inj H
    go_wp2
    repeat (go_quiet (fail); try go_wp2)
    go_ret
    exact ⟨by first | rfl | (simp [errW_none, errW_some] <;> rfl) | (simp [*, errW_none, errW_some] <;> rfl), pH_ HB.out⟩
   ·
    replace c17 := Bool.eq_false_iff.mpr c17
    subst c17
    have H1 : ((parity_Repair.f l0 a1 l2).bind fun bt144 => (if bt144.2 = 0 then ((some (([] : List (List Int)) : List (List Int))).bind fun y148 => (if y148.length + l0.length < 5864062014805 then ((some (y148 ++ l0 : List (List Int))).bind fun y151 => (if 0 ≤ a1 then (if a1 < (y151.length : Int) then ((parity_Of.f (y151.set (a1 : Int).toNat bt144.1)).bind fun bt155 => (if bt155.2 = 0 then (if (bt155.1.length : Int) < 2 then (bitloftlaw42_ParityTells.j2 kj4 l2 t142 bt155.1 true) else (bitloftlaw42_ParityTells.j2 kj4 l2 t142 bt155.1 (decide ((bt155.1.length : Int) > (l2.length : Int))))) else (bitloftlaw42_ParityTells.j2 kj4 l2 t142 bt155.1 true))) else (none)) else (none))) else (none))) else (if t142 = true then (if bt144.2 = 12 then (bitloftlaw42_ParityTells.j1 kj4 ((bt144.1.length : Int) == 0)) else (bitloftlaw42_ParityTells.j1 kj4 false)) else (bitloftlaw42_ParityTells.j1 kj4 false)))) = some r := by rw [if_neg (show ¬ (false = true) by decide)] at H; exact H
    clear H; have H := H1; clear H1; replace H := Option.bind_eq_some_iff.mp H; obtain ⟨⟨t144, t145⟩, A180, H⟩ := H; replace H : (if t145 = 0 then ((some (([] : List (List Int)) : List (List Int))).bind fun y148 => (if y148.length + l0.length < 5864062014805 then ((some (y148 ++ l0 : List (List Int))).bind fun y151 => (if 0 ≤ a1 then (if a1 < (y151.length : Int) then ((parity_Of.f (y151.set (a1 : Int).toNat t144)).bind fun bt155 => (if bt155.2 = 0 then (if (bt155.1.length : Int) < 2 then (bitloftlaw42_ParityTells.j2 kj4 l2 t142 bt155.1 true) else (bitloftlaw42_ParityTells.j2 kj4 l2 t142 bt155.1 (decide ((bt155.1.length : Int) > (l2.length : Int))))) else (bitloftlaw42_ParityTells.j2 kj4 l2 t142 bt155.1 true))) else (none)) else (none))) else (none))) else (if t142 = true then (if t145 = 12 then (bitloftlaw42_ParityTells.j1 kj4 ((t144.length : Int) == 0)) else (bitloftlaw42_ParityTells.j1 kj4 false)) else (bitloftlaw42_ParityTells.j1 kj4 false))) = some r := H; have A18 := Aside0.mk A180; clear A180
    by_cases c19 : t145 = 0
    ·
     rw [if_pos c19] at H; have c19b0 : (t145 == 0) = true := beq_iff_eq.mpr c19; have c19b1 : (t145 != 0) = false := bne_eq_false_iff_eq.mpr c19; clear c19; obtain ⟨y148, hy148⟩ : ∃ y_ : List (List Int), y_ = (([] : List (List Int))) := ⟨_, rfl⟩
     replace H : (if y148.length + l0.length < 5864062014805 then ((some (y148 ++ l0 : List (List Int))).bind fun y151 => (if 0 ≤ a1 then (if a1 < (y151.length : Int) then ((parity_Of.f (y151.set (a1 : Int).toNat t144)).bind fun bt155 => (if bt155.2 = 0 then (if (bt155.1.length : Int) < 2 then (bitloftlaw42_ParityTells.j2 kj4 l2 t142 bt155.1 true) else (bitloftlaw42_ParityTells.j2 kj4 l2 t142 bt155.1 (decide ((bt155.1.length : Int) > (l2.length : Int))))) else (bitloftlaw42_ParityTells.j2 kj4 l2 t142 bt155.1 true))) else (none)) else (none))) else (none)) = some r := by first | (rw [hy148]; with_reducible exact H) | (have H2_ := (Option.bind_some _ _).symm.trans H; rw [hy148]; with_reducible exact H2_) | (have H2_ := (Option.bind_some _ _).symm.trans H; with_reducible exact H2_) | with_reducible exact H | (rw [hy148]; exact H) | exact H
     have Ny148 := Aside0.mk hy148; clear hy148
     by_cases c20 : y148.length + l0.length < 5864062014805
     ·
      rw [if_pos c20] at H; have LMc20 := Aside0.mk c20; clear c20; obtain ⟨y151, hy151⟩ : ∃ y_ : List (List Int), y_ = (y148 ++ l0) := ⟨_, rfl⟩
      replace H : (if 0 ≤ a1 then (if a1 < (y151.length : Int) then ((parity_Of.f (y151.set (a1 : Int).toNat t144)).bind fun bt155 => (if bt155.2 = 0 then (if (bt155.1.length : Int) < 2 then (bitloftlaw42_ParityTells.j2 kj4 l2 t142 bt155.1 true) else (bitloftlaw42_ParityTells.j2 kj4 l2 t142 bt155.1 (decide ((bt155.1.length : Int) > (l2.length : Int))))) else (bitloftlaw42_ParityTells.j2 kj4 l2 t142 bt155.1 true))) else (none)) else (none)) = some r := by first | (rw [hy151]; with_reducible exact H) | (have H2_ := (Option.bind_some _ _).symm.trans H; rw [hy151]; with_reducible exact H2_) | (have H2_ := (Option.bind_some _ _).symm.trans H; with_reducible exact H2_) | with_reducible exact H | (rw [hy151]; exact H) | exact H
      have Ny151 := Aside0.mk hy151; clear hy151
      by_cases c21 : 0 ≤ a1
      ·
       rw [if_pos c21] at H; have c21b0 : decide (0 ≤ a1) = true := decide_eq_true c21; clear c21
       by_cases c22 : a1 < (y151.length : Int)
       ·
        rw [if_pos c22] at H; have c22b0 : decide (a1 < (y151.length : Int)) = true := decide_eq_true c22; clear c22; obtain ⟨y154, hy154⟩ : ∃ y_ : List (List Int), y_ = (y151.set (a1 : Int).toNat t144) := ⟨_, rfl⟩
        replace H : ((parity_Of.f y154).bind fun bt155 => (if bt155.2 = 0 then (if (bt155.1.length : Int) < 2 then (bitloftlaw42_ParityTells.j2 kj4 l2 t142 bt155.1 true) else (bitloftlaw42_ParityTells.j2 kj4 l2 t142 bt155.1 (decide ((bt155.1.length : Int) > (l2.length : Int))))) else (bitloftlaw42_ParityTells.j2 kj4 l2 t142 bt155.1 true))) = some r := by first | (rw [hy154]; with_reducible exact H) | (have H2_ := (Option.bind_some _ _).symm.trans H; rw [hy154]; with_reducible exact H2_) | (have H2_ := (Option.bind_some _ _).symm.trans H; with_reducible exact H2_) | with_reducible exact H | (rw [hy154]; exact H) | exact H
        have Ny154 := Aside0.mk hy154; clear hy154; replace H := Option.bind_eq_some_iff.mp H; obtain ⟨⟨t155, t156⟩, A240, H⟩ := H; replace H : (if t156 = 0 then (if (t155.length : Int) < 2 then (bitloftlaw42_ParityTells.j2 kj4 l2 t142 t155 true) else (bitloftlaw42_ParityTells.j2 kj4 l2 t142 t155 (decide ((t155.length : Int) > (l2.length : Int))))) else (bitloftlaw42_ParityTells.j2 kj4 l2 t142 t155 true)) = some r := H; have A24 := Aside0.mk A240; clear A240; have HC25 := Aside0.mk H; clear H
        go_upto_region 10 with (first | (go_at_call 11; (with_reducible refine (parity_Repair.calls _ _ l0 a1 _ _ l2 t144 t145 _ ?side1 ?side2 ?side3 ?side4 A18.out).mono ?_); (case side1 => repeat (first | exact (Kd.V_reads' HO_0.out).2.2 | (with_reducible refine Kd.C_alloc ?_ _) | (with_reducible refine Kd.C_drewN ?_ _) | (with_reducible refine Kd.C_drew ?_))); (case side2 => exact (Kd.V_reads' HO_0.out).2.1); (case side3 => repeat (first | exact (Kd.C_below HR2.out HB.out) | (with_reducible refine Kd.C_alloc ?_ _) | (with_reducible refine Kd.C_drewN ?_ _) | (with_reducible refine Kd.C_drew ?_))); (case side4 => exact HC2.out); rintro e w26 ⟨v146, rfl, ho0, hb⟩; have n0_ := Aside0.mk (Kd.V_elder' (by (with_reducible repeat (first | apply Kd.V_alloc | apply Kd.V_drewN | apply Kd.V_drew)); exact HO_0.out) (Kd.Q_base ho0) hb); have n1_ := Aside0.mk (Kd.Q_lower (Kd.Q_newM (M := fun k_ => (w.heap.size ≤ k_)) ho0 (below_size (pH_ HB.out)) (fun k_ h_ => h_)) (below_size (pH_ HB.out))); have n2_ := Aside0.mk (below_step (pH_ HB.out) hb); clear HO_0; clear HB; have HO_0 := n0_; have HO147 := n1_; have HB := n2_; clear n0_ n1_ n2_; (try clear hb); (try clear ho0)) | ((with_reducible refine gate_dst (N := 57) rfl ?_); (try (refine gate_guard (by rfl) ?_; dsimp only)); refine Kd.N_lit (Kd.slice 5 (Kd.int .u8)) _ 23 ?hg (N' := 57) ?hd (xs := ([] : List (List Int))) (inner := []) (ok := (fun k_ => (P0_ k_ ∨ w.heap.size ≤ k_) ∧ nO_ k_ v146)) (okp := (fun k_ => (P0_ k_ ∨ w.heap.size ≤ k_) ∧ nO_ k_ v146)) ?hr ?hp (fun _ hk => hk) ((show ∀ k_, w26.heap.size ≤ k_ → (fun k_ => (P0_ k_ ∨ w.heap.size ≤ k_) ∧ nO_ k_ v146) k_ from fun k_ hk => ⟨(.inr (Nat.le_trans (below_size (pH_ HB.out)) hk)), Kd.fresh' (Kd.Q_lt (pQ_ HO147.out)) k_ hk⟩) _ (Nat.le_refl _)) (Below.refl _ _) (Nat.le_refl _) (by simp) ?_; (case hd => rfl); (case hg => rfl); (case hr => first | (go_simp; done) | (go_simp; rfl)); (case hp => exact (Reps.none _ _)); intro v149 w27 ho28 hb hg_ hnew_; clear hg_ hnew_; (first | rw [← Ny148.out] at ho28 | (simp only [Int.reduceToNat] at ho28; rw [← Ny148.out] at ho28)); have n0_ := Aside0.mk (Kd.V_elder' (by (with_reducible repeat (first | apply Kd.V_alloc | apply Kd.V_drewN | apply Kd.V_drew)); exact HO_0.out) (by first | exact Kd.N_base ho28 | exact Kd.N_base (Kd.S_N ho28)) hb); have n1_ := Aside0.mk (Kd.Q_below (pQ_ HO147.out) hb); have n2_ := Aside0.mk (Kd.N_lower ho28 (below_size (pH_ HB.out))); have n3_ := Aside0.mk (below_step (pH_ HB.out) hb); clear HO_0; clear HO147; clear HB; have HO_0 := n0_; have HO147 := n1_; have HO150 := n2_; have HB := n3_; clear n0_ n1_ n2_ n3_; clear hb ho28) | ((with_reducible refine gate_builtin (b := .append) (xs := #[.tmp 57, .tmp 58]) rfl ?_); (try (refine gate_guard (by rfl) ?_; dsimp only)); at_builtin; refine Kd.N_append_rows (Kd.slice 5 (Kd.int .u8)) (w0 := w) w.heap.size rfl (.tmp 57) (.tmp 58) 22 23 (.slice none 0 0) 24 rfl Tryd.underlying22 info23 rfl (by decide) (by omega) v149 y148 l0 _ _ _ (fun k_ => (P0_ k_ ∨ w.heap.size ≤ k_) ∧ nO_ k_ v146) (fun k_ => ((fun k_ => (P0_ k_ ∨ w.heap.size ≤ k_) ∧ nO_ k_ v146)) k_ ∧ nO_ k_ v149) rfl rfl ?aO ?aR (fun _ hk => hk) ?aF ?aB ?aS ?aL ?_; (case aR => exact (by skip; exact Kd.V_F (Kd.V_mono (ok' := (fun k_ => ((fun k_ => (P0_ k_ ∨ w.heap.size ≤ k_) ∧ nO_ k_ v146)) k_ ∧ nO_ k_ v149)) (HO_0.out) (fun k_ hk => ⟨⟨hk.1.1, hk.1.2⟩, hk.2⟩)))); (case aB => exact (pH_ HB.out)); (case aF => exact (fun k_ hk => ⟨(.inr (Nat.le_trans (below_size (pH_ HB.out)) hk)), Kd.fresh' (Kd.Q_lt (pQ_ HO147.out)) k_ hk⟩)); (case aO => exact (by (with_reducible repeat (first | apply Kd.N_alloc | apply Kd.N_drewN | apply Kd.N_drew)); exact HO150.out)); (case aS => exact (below_size (pH_ HB.out))); (case aL => have := LMc20.out; omega); intro v152 w29 ho hb hg hat; (try simp only [Int.reduceToNat] at ho); rw [← Ny151.out] at ho; have n0_ := Aside0.mk (Kd.V_afterv (ok := (fun k_ => (P0_ k_ ∨ w.heap.size ≤ k_) ∧ nO_ k_ v146)) (by (with_reducible repeat (first | apply Kd.V_alloc | apply Kd.V_drewN | apply Kd.V_drew)); exact HO_0.out) hg hat); have n1_ := Aside0.mk (Kd.Q_over' (d := (Kd.int .u8)) (e := 5) (pQ_ HO147.out) (Kd.N_typed (by (with_reducible repeat (first | apply Kd.N_alloc | apply Kd.N_drewN | apply Kd.N_drew)); exact HO150.out)) (by decide) hg); have n2_ := Aside0.mk (hb); have n3_ := Aside0.mk (ho); clear HO_0; clear HO147; clear HB; clear HO150; have HO_0 := n0_; have HO147 := n1_; have HB := n2_; have HO153 := n3_; clear n0_ n1_ n2_ n3_; clear ho hb hg hat; have p23 : 0 ≤ (a1 : Int) := of_decide_eq_true (by first | (with_reducible assumption) | assumption); have q23 : (a1 : Int) < ((y151.length : Int) : Int) := of_decide_eq_true (by first | (with_reducible assumption) | assumption); obtain ⟨go23, co23, eo23, gb23, gl23, cl23, HG23⟩ := Kd.N_form HO153.out (by omega); (first | cases eo23 | (injection eo23 with ea_ en_ ec_; (first | subst ea_ | (injection ea_ with ea_; subst ea_)); subst ec_; clear en_)); have GB23 := Aside0.mk gb23; have GG23 := Aside0.mk HG23; clear gb23 gl23 HG23; obtain ⟨ce23, hcl23, hM23, hcc23, hfr23⟩ := Kd.N_elem HO153.out [] (a1 : Int) p23 q23; obtain ⟨ua23_0, uc23_0, rfl, ul23_0, ge23_0⟩ := Kd.FK_slice_open hM23; have hx23_0 := hcc23 0 _ rfl; have hf23_0 := hfr23 0; (try simp only [show ((Kd.slice 5 (Kd.int .u8))).sz = 1 from rfl, Nat.mul_one, Nat.add_zero] at hx23_0); (try simp only [show ((Kd.slice 5 (Kd.int .u8))).sz = 1 from rfl, Nat.mul_one, Nat.add_zero] at hf23_0); clear hcl23 hcc23 hfr23 hM23; replace p23 := eq_true p23; replace q23 := eq_true q23; obtain ⟨Ao32, co32, eo32, _⟩ := Kd.Q_slice HO147.out; subst eo32; have HX30 := Aside0.mk (show Kd.N (Kd.slice 5 (Kd.int .u8)) 23 w29 w.heap.size (fun k_ => (P0_ k_ ∨ w.heap.size ≤ k_)) (.slice (some ⟨go23, 0, none⟩) y151.length co23) y151 from (by (with_reducible repeat (first | apply Kd.N_alloc | apply Kd.N_drewN | apply Kd.N_drew)); exact Kd.N_mono HO153.out (fun _ hk => hk.1))); obtain ⟨ce30, hcl30, hM30, hcc30, hfr30⟩ := Kd.N_elem HX30.out [] (a1 : Int) (of_decide_eq_true (by first | (with_reducible assumption) | assumption)) (by have h_ : (a1 : Int) < ((y151.length : Int) : Int) := of_decide_eq_true (by first | (with_reducible assumption) | assumption); first | exact h_ | (have e_ := (Kd.N_reads' HO153.out).1; omega) | simpa using h_); obtain ⟨ua30_0, uc30_0, rfl, ul30_0, ge30_0⟩ := Kd.FK_slice_open hM30; have HP30 := Kd.N_seg HX30.out (a1 : Int) (of_decide_eq_true (by first | (with_reducible assumption) | assumption)) (by have h_ : (a1 : Int) < ((y151.length : Int) : Int) := of_decide_eq_true (by first | (with_reducible assumption) | assumption); first | exact h_ | (have e_ := (Kd.N_reads' HO153.out).1; omega) | simpa using h_) (seg := [.slice Ao32 t144.length co32]) (j := 0) hcl30 hcc30 (show 1 ≤ 1 from by decide) (x' := t144) (Kd.FK_slice_mk (Kd.Q_reads' (Kd.Q_mono (ok' := (fun k_ => ((fun k_ => (P0_ k_ ∨ w.heap.size ≤ k_))) k_ ∧ k_ ≠ go23)) (Kd.Q_apart' (HO147.out) (Kd.N_typed HO153.out) (by decide)) (fun k_ hk => ⟨(.inr (hk.1.1)), fun e_ => (hk.2) (by rw [e_]; rfl)⟩))).2.1 (Kd.Q_F (Kd.Q_mono (ok' := (fun k_ => ((fun k_ => (P0_ k_ ∨ w.heap.size ≤ k_))) k_ ∧ k_ ≠ go23)) (Kd.Q_apart' (HO147.out) (Kd.N_typed HO153.out) (by decide)) (fun k_ hk => ⟨(.inr (hk.1.1)), fun e_ => (hk.2) (by rw [e_]; rfl)⟩)))) (fun _ hk => hk); have hx30_0 := hcc30 0 _ rfl; (try simp only [show ((Kd.slice 5 (Kd.int .u8))).sz = 1 from rfl, Nat.mul_one, Nat.add_zero] at hx30_0); have hf30_0 := hfr30 0; (try simp only [show ((Kd.slice 5 (Kd.int .u8))).sz = 1 from rfl, Nat.mul_one, Nat.add_zero] at hf30_0); clear hcl30 hcc30 hfr30 hM30; (try simp only [show ((Kd.slice 5 (Kd.int .u8))).sz = 1 from rfl, Nat.mul_one, Nat.add_zero] at HP30); (try simp only [show ((Kd.slice 5 (Kd.int .u8))).sz = 1 from rfl, Nat.mul_one, Nat.add_zero] at HP30)) | ((with_reducible refine gate_store (t := 23) (p := 63) rfl ?_); (try (rw [drewN_self w29]; generalize hq_ : World.drewN w29 _ = w29; have n0_ := Aside0.mk (Kd.V_at hq_ HO_0.out); have n1_ := Aside0.mk (Kd.N_at hq_ HO153.out); have n2_ := Aside0.mk (below_at hq_ HB.out); clear hq_ HO_0 HO153 HB; have HO_0 := n0_; have HO153 := n1_; have HB := n2_; clear n0_ n1_ n2_; (try (obtain ⟨Ao32, co32, eo32, _⟩ := Kd.Q_slice HO147.out)); (try (subst eo32)); (try (have HX30 := Aside0.mk (show Kd.N (Kd.slice 5 (Kd.int .u8)) 23 w29 w.heap.size (fun k_ => (P0_ k_ ∨ w.heap.size ≤ k_)) (.slice (some ⟨go23, 0, none⟩) y151.length co23) y151 from (by (with_reducible repeat (first | apply Kd.N_alloc | apply Kd.N_drewN | apply Kd.N_drew)); exact Kd.N_mono HO153.out (fun _ hk => hk.1))))); (try (obtain ⟨ce30, hcl30, hM30, hcc30, hfr30⟩ := Kd.N_elem HX30.out [] (a1 : Int) (of_decide_eq_true (by first | (with_reducible assumption) | assumption)) (by have h_ : (a1 : Int) < ((y151.length : Int) : Int) := of_decide_eq_true (by first | (with_reducible assumption) | assumption); first | exact h_ | (have e_ := (Kd.N_reads' HO153.out).1; omega) | simpa using h_))); (try (obtain ⟨ua30_0, uc30_0, rfl, ul30_0, ge30_0⟩ := Kd.FK_slice_open hM30)); (try (have HP30 := Kd.N_seg HX30.out (a1 : Int) (of_decide_eq_true (by first | (with_reducible assumption) | assumption)) (by have h_ : (a1 : Int) < ((y151.length : Int) : Int) := of_decide_eq_true (by first | (with_reducible assumption) | assumption); first | exact h_ | (have e_ := (Kd.N_reads' HO153.out).1; omega) | simpa using h_) (seg := [.slice Ao32 t144.length co32]) (j := 0) hcl30 hcc30 (show 1 ≤ 1 from by decide) (x' := t144) (Kd.FK_slice_mk (Kd.Q_reads' (Kd.Q_mono (ok' := (fun k_ => ((fun k_ => (P0_ k_ ∨ w.heap.size ≤ k_))) k_ ∧ k_ ≠ go23)) (Kd.Q_apart' (HO147.out) (Kd.N_typed HO153.out) (by decide)) (fun k_ hk => ⟨(.inr (hk.1.1)), fun e_ => (hk.2) (by rw [e_]; rfl)⟩))).2.1 (Kd.Q_F (Kd.Q_mono (ok' := (fun k_ => ((fun k_ => (P0_ k_ ∨ w.heap.size ≤ k_))) k_ ∧ k_ ≠ go23)) (Kd.Q_apart' (HO147.out) (Kd.N_typed HO153.out) (by decide)) (fun k_ hk => ⟨(.inr (hk.1.1)), fun e_ => (hk.2) (by rw [e_]; rfl)⟩)))) (fun _ hk => hk))); (try (have hx30_0 := hcc30 0 _ rfl)); (try (try simp only [show ((Kd.slice 5 (Kd.int .u8))).sz = 1 from rfl, Nat.mul_one, Nat.add_zero] at hx30_0)); (try (have hf30_0 := hfr30 0)); (try (try simp only [show ((Kd.slice 5 (Kd.int .u8))).sz = 1 from rfl, Nat.mul_one, Nat.add_zero] at hf30_0)); (try (clear hcl30 hcc30 hfr30 hM30)); (try (try simp only [show ((Kd.slice 5 (Kd.int .u8))).sz = 1 from rfl, Nat.mul_one, Nat.add_zero] at HP30)); (try (try simp only [show ((Kd.slice 5 (Kd.int .u8))).sz = 1 from rfl, Nat.mul_one, Nat.add_zero] at HP30)))); refine store_event (t := 23) (p := 63) (v := ?vo_w31) (w1 := (w29.setCell ⟨go23, (a1 : Int).toNat, none⟩ (.slice Ao32 t144.length co32))) ?hg ?ho ?hn ?hr ?_; (case ho => rfl); (case hg => rfl); (case hn => rfl); (case hr => first | (go_simp; done) | (go_simp; rfl)); intro w31 hw; have hg : w29.grownBy w31 (some go23) := (by rw [hw]; exact HP30.2); have hp_ : Kd.N (Kd.slice 5 (Kd.int .u8)) 23 w31 w.heap.size (fun k_ => (P0_ k_ ∨ w.heap.size ≤ k_)) (.slice (some ⟨go23, 0, none⟩) y151.length co23) y154 := (by rw [hw, Ny154.out]; exact HP30.1); clear HP30; have n0_ := Aside0.mk (Kd.V_afterv (v := (.slice (some ⟨go23, 0, none⟩) y151.length co23)) (v1 := (.slice (some ⟨go23, 0, none⟩) y151.length co23)) (ok := (fun k_ => (P0_ k_ ∨ w.heap.size ≤ k_) ∧ nO_ k_ (.slice Ao32 t144.length co32))) (by (with_reducible repeat (first | apply Kd.V_alloc | apply Kd.V_drewN | apply Kd.V_drew)); exact HO_0.out) hg (.inl rfl)); have n1_ := Aside0.mk (hp_); have n2_ := Aside0.mk ((by rw [hw]; exact below_set (HB.out) GB23.out : Below w.heap.size w w31)); clear HO_0; clear HO153; clear HB; clear HO147; have HO_0 := n0_; have HO153 := n1_; have HB := n2_; clear n0_ n1_ n2_; clear hg hw hp_) | (go_at_call 10; refine calls_of_args (args' := #[.slice (some ⟨go23, 0, none⟩) y154.length co23]) (by first | (rw [show y154.length = y151.length from (Kd.N_reads' HO153.out).1.symm] <;> rfl) | rfl) ?_; (with_reducible refine (parity_Of.calls _ _ y154 t155 t156 _ ?side1 ?side2 A24.out).mono ?_); (case side1 => repeat (first | exact (Kd.N_reads' HO153.out).2.2 | (with_reducible refine Kd.C_alloc ?_ _) | (with_reducible refine Kd.C_drewN ?_ _) | (with_reducible refine Kd.C_drew ?_))); (case side2 => rw [show y154.length = y151.length from (Kd.N_reads' HO153.out).1.symm]; exact (Kd.N_reads' HO153.out).2.1); rintro e w33 ⟨v157, rfl, ho0, hb⟩; have n0_ := Aside0.mk (Kd.V_elder' (by (with_reducible repeat (first | apply Kd.V_alloc | apply Kd.V_drewN | apply Kd.V_drew)); exact HO_0.out) (Kd.R_base ho0) hb); have n1_ := Aside0.mk (Kd.N_elder' (by (with_reducible repeat (first | apply Kd.N_alloc | apply Kd.N_drewN | apply Kd.N_drew)); exact HO153.out) (Kd.R_base ho0) hb); have n2_ := Aside0.mk (Kd.R_lower (Kd.R_newM (M := fun k_ => (w.heap.size ≤ k_)) ho0 (below_size (pH_ HB.out)) (fun k_ h_ => h_)) (below_size (pH_ HB.out))); have n3_ := Aside0.mk (below_step (pH_ HB.out) hb); clear HO_0; clear HO153; clear HB; have HO_0 := n0_; have HO153 := n1_; have HO158 := n2_; have HB := n3_; clear n0_ n1_ n2_ n3_; (try clear hb); (try clear ho0)))
        repeat (go_quiet (first | (go_at_call 11; (with_reducible refine (parity_Repair.calls _ _ l0 a1 _ _ l2 t144 t145 _ ?side1 ?side2 ?side3 ?side4 A18.out).mono ?_); (case side1 => repeat (first | exact (Kd.V_reads' HO_0.out).2.2 | (with_reducible refine Kd.C_alloc ?_ _) | (with_reducible refine Kd.C_drewN ?_ _) | (with_reducible refine Kd.C_drew ?_))); (case side2 => exact (Kd.V_reads' HO_0.out).2.1); (case side3 => repeat (first | exact (Kd.C_below HR2.out HB.out) | (with_reducible refine Kd.C_alloc ?_ _) | (with_reducible refine Kd.C_drewN ?_ _) | (with_reducible refine Kd.C_drew ?_))); (case side4 => exact HC2.out); rintro e w26 ⟨v146, rfl, ho0, hb⟩; have n0_ := Aside0.mk (Kd.V_elder' (by (with_reducible repeat (first | apply Kd.V_alloc | apply Kd.V_drewN | apply Kd.V_drew)); exact HO_0.out) (Kd.Q_base ho0) hb); have n1_ := Aside0.mk (Kd.Q_lower (Kd.Q_newM (M := fun k_ => (w.heap.size ≤ k_)) ho0 (below_size (pH_ HB.out)) (fun k_ h_ => h_)) (below_size (pH_ HB.out))); have n2_ := Aside0.mk (below_step (pH_ HB.out) hb); clear HO_0; clear HB; have HO_0 := n0_; have HO147 := n1_; have HB := n2_; clear n0_ n1_ n2_; (try clear hb); (try clear ho0)) | ((with_reducible refine gate_dst (N := 57) rfl ?_); (try (refine gate_guard (by rfl) ?_; dsimp only)); refine Kd.N_lit (Kd.slice 5 (Kd.int .u8)) _ 23 ?hg (N' := 57) ?hd (xs := ([] : List (List Int))) (inner := []) (ok := (fun k_ => (P0_ k_ ∨ w.heap.size ≤ k_) ∧ nO_ k_ v146)) (okp := (fun k_ => (P0_ k_ ∨ w.heap.size ≤ k_) ∧ nO_ k_ v146)) ?hr ?hp (fun _ hk => hk) ((show ∀ k_, w26.heap.size ≤ k_ → (fun k_ => (P0_ k_ ∨ w.heap.size ≤ k_) ∧ nO_ k_ v146) k_ from fun k_ hk => ⟨(.inr (Nat.le_trans (below_size (pH_ HB.out)) hk)), Kd.fresh' (Kd.Q_lt (pQ_ HO147.out)) k_ hk⟩) _ (Nat.le_refl _)) (Below.refl _ _) (Nat.le_refl _) (by simp) ?_; (case hd => rfl); (case hg => rfl); (case hr => first | (go_simp; done) | (go_simp; rfl)); (case hp => exact (Reps.none _ _)); intro v149 w27 ho28 hb hg_ hnew_; clear hg_ hnew_; (first | rw [← Ny148.out] at ho28 | (simp only [Int.reduceToNat] at ho28; rw [← Ny148.out] at ho28)); have n0_ := Aside0.mk (Kd.V_elder' (by (with_reducible repeat (first | apply Kd.V_alloc | apply Kd.V_drewN | apply Kd.V_drew)); exact HO_0.out) (by first | exact Kd.N_base ho28 | exact Kd.N_base (Kd.S_N ho28)) hb); have n1_ := Aside0.mk (Kd.Q_below (pQ_ HO147.out) hb); have n2_ := Aside0.mk (Kd.N_lower ho28 (below_size (pH_ HB.out))); have n3_ := Aside0.mk (below_step (pH_ HB.out) hb); clear HO_0; clear HO147; clear HB; have HO_0 := n0_; have HO147 := n1_; have HO150 := n2_; have HB := n3_; clear n0_ n1_ n2_ n3_; clear hb ho28) | ((with_reducible refine gate_builtin (b := .append) (xs := #[.tmp 57, .tmp 58]) rfl ?_); (try (refine gate_guard (by rfl) ?_; dsimp only)); at_builtin; refine Kd.N_append_rows (Kd.slice 5 (Kd.int .u8)) (w0 := w) w.heap.size rfl (.tmp 57) (.tmp 58) 22 23 (.slice none 0 0) 24 rfl Tryd.underlying22 info23 rfl (by decide) (by omega) v149 y148 l0 _ _ _ (fun k_ => (P0_ k_ ∨ w.heap.size ≤ k_) ∧ nO_ k_ v146) (fun k_ => ((fun k_ => (P0_ k_ ∨ w.heap.size ≤ k_) ∧ nO_ k_ v146)) k_ ∧ nO_ k_ v149) rfl rfl ?aO ?aR (fun _ hk => hk) ?aF ?aB ?aS ?aL ?_; (case aR => exact (by skip; exact Kd.V_F (Kd.V_mono (ok' := (fun k_ => ((fun k_ => (P0_ k_ ∨ w.heap.size ≤ k_) ∧ nO_ k_ v146)) k_ ∧ nO_ k_ v149)) (HO_0.out) (fun k_ hk => ⟨⟨hk.1.1, hk.1.2⟩, hk.2⟩)))); (case aB => exact (pH_ HB.out)); (case aF => exact (fun k_ hk => ⟨(.inr (Nat.le_trans (below_size (pH_ HB.out)) hk)), Kd.fresh' (Kd.Q_lt (pQ_ HO147.out)) k_ hk⟩)); (case aO => exact (by (with_reducible repeat (first | apply Kd.N_alloc | apply Kd.N_drewN | apply Kd.N_drew)); exact HO150.out)); (case aS => exact (below_size (pH_ HB.out))); (case aL => have := LMc20.out; omega); intro v152 w29 ho hb hg hat; (try simp only [Int.reduceToNat] at ho); rw [← Ny151.out] at ho; have n0_ := Aside0.mk (Kd.V_afterv (ok := (fun k_ => (P0_ k_ ∨ w.heap.size ≤ k_) ∧ nO_ k_ v146)) (by (with_reducible repeat (first | apply Kd.V_alloc | apply Kd.V_drewN | apply Kd.V_drew)); exact HO_0.out) hg hat); have n1_ := Aside0.mk (Kd.Q_over' (d := (Kd.int .u8)) (e := 5) (pQ_ HO147.out) (Kd.N_typed (by (with_reducible repeat (first | apply Kd.N_alloc | apply Kd.N_drewN | apply Kd.N_drew)); exact HO150.out)) (by decide) hg); have n2_ := Aside0.mk (hb); have n3_ := Aside0.mk (ho); clear HO_0; clear HO147; clear HB; clear HO150; have HO_0 := n0_; have HO147 := n1_; have HB := n2_; have HO153 := n3_; clear n0_ n1_ n2_ n3_; clear ho hb hg hat; have p23 : 0 ≤ (a1 : Int) := of_decide_eq_true (by first | (with_reducible assumption) | assumption); have q23 : (a1 : Int) < ((y151.length : Int) : Int) := of_decide_eq_true (by first | (with_reducible assumption) | assumption); obtain ⟨go23, co23, eo23, gb23, gl23, cl23, HG23⟩ := Kd.N_form HO153.out (by omega); (first | cases eo23 | (injection eo23 with ea_ en_ ec_; (first | subst ea_ | (injection ea_ with ea_; subst ea_)); subst ec_; clear en_)); have GB23 := Aside0.mk gb23; have GG23 := Aside0.mk HG23; clear gb23 gl23 HG23; obtain ⟨ce23, hcl23, hM23, hcc23, hfr23⟩ := Kd.N_elem HO153.out [] (a1 : Int) p23 q23; obtain ⟨ua23_0, uc23_0, rfl, ul23_0, ge23_0⟩ := Kd.FK_slice_open hM23; have hx23_0 := hcc23 0 _ rfl; have hf23_0 := hfr23 0; (try simp only [show ((Kd.slice 5 (Kd.int .u8))).sz = 1 from rfl, Nat.mul_one, Nat.add_zero] at hx23_0); (try simp only [show ((Kd.slice 5 (Kd.int .u8))).sz = 1 from rfl, Nat.mul_one, Nat.add_zero] at hf23_0); clear hcl23 hcc23 hfr23 hM23; replace p23 := eq_true p23; replace q23 := eq_true q23; obtain ⟨Ao32, co32, eo32, _⟩ := Kd.Q_slice HO147.out; subst eo32; have HX30 := Aside0.mk (show Kd.N (Kd.slice 5 (Kd.int .u8)) 23 w29 w.heap.size (fun k_ => (P0_ k_ ∨ w.heap.size ≤ k_)) (.slice (some ⟨go23, 0, none⟩) y151.length co23) y151 from (by (with_reducible repeat (first | apply Kd.N_alloc | apply Kd.N_drewN | apply Kd.N_drew)); exact Kd.N_mono HO153.out (fun _ hk => hk.1))); obtain ⟨ce30, hcl30, hM30, hcc30, hfr30⟩ := Kd.N_elem HX30.out [] (a1 : Int) (of_decide_eq_true (by first | (with_reducible assumption) | assumption)) (by have h_ : (a1 : Int) < ((y151.length : Int) : Int) := of_decide_eq_true (by first | (with_reducible assumption) | assumption); first | exact h_ | (have e_ := (Kd.N_reads' HO153.out).1; omega) | simpa using h_); obtain ⟨ua30_0, uc30_0, rfl, ul30_0, ge30_0⟩ := Kd.FK_slice_open hM30; have HP30 := Kd.N_seg HX30.out (a1 : Int) (of_decide_eq_true (by first | (with_reducible assumption) | assumption)) (by have h_ : (a1 : Int) < ((y151.length : Int) : Int) := of_decide_eq_true (by first | (with_reducible assumption) | assumption); first | exact h_ | (have e_ := (Kd.N_reads' HO153.out).1; omega) | simpa using h_) (seg := [.slice Ao32 t144.length co32]) (j := 0) hcl30 hcc30 (show 1 ≤ 1 from by decide) (x' := t144) (Kd.FK_slice_mk (Kd.Q_reads' (Kd.Q_mono (ok' := (fun k_ => ((fun k_ => (P0_ k_ ∨ w.heap.size ≤ k_))) k_ ∧ k_ ≠ go23)) (Kd.Q_apart' (HO147.out) (Kd.N_typed HO153.out) (by decide)) (fun k_ hk => ⟨(.inr (hk.1.1)), fun e_ => (hk.2) (by rw [e_]; rfl)⟩))).2.1 (Kd.Q_F (Kd.Q_mono (ok' := (fun k_ => ((fun k_ => (P0_ k_ ∨ w.heap.size ≤ k_))) k_ ∧ k_ ≠ go23)) (Kd.Q_apart' (HO147.out) (Kd.N_typed HO153.out) (by decide)) (fun k_ hk => ⟨(.inr (hk.1.1)), fun e_ => (hk.2) (by rw [e_]; rfl)⟩)))) (fun _ hk => hk); have hx30_0 := hcc30 0 _ rfl; (try simp only [show ((Kd.slice 5 (Kd.int .u8))).sz = 1 from rfl, Nat.mul_one, Nat.add_zero] at hx30_0); have hf30_0 := hfr30 0; (try simp only [show ((Kd.slice 5 (Kd.int .u8))).sz = 1 from rfl, Nat.mul_one, Nat.add_zero] at hf30_0); clear hcl30 hcc30 hfr30 hM30; (try simp only [show ((Kd.slice 5 (Kd.int .u8))).sz = 1 from rfl, Nat.mul_one, Nat.add_zero] at HP30); (try simp only [show ((Kd.slice 5 (Kd.int .u8))).sz = 1 from rfl, Nat.mul_one, Nat.add_zero] at HP30)) | ((with_reducible refine gate_store (t := 23) (p := 63) rfl ?_); (try (rw [drewN_self w29]; generalize hq_ : World.drewN w29 _ = w29; have n0_ := Aside0.mk (Kd.V_at hq_ HO_0.out); have n1_ := Aside0.mk (Kd.N_at hq_ HO153.out); have n2_ := Aside0.mk (below_at hq_ HB.out); clear hq_ HO_0 HO153 HB; have HO_0 := n0_; have HO153 := n1_; have HB := n2_; clear n0_ n1_ n2_; (try (obtain ⟨Ao32, co32, eo32, _⟩ := Kd.Q_slice HO147.out)); (try (subst eo32)); (try (have HX30 := Aside0.mk (show Kd.N (Kd.slice 5 (Kd.int .u8)) 23 w29 w.heap.size (fun k_ => (P0_ k_ ∨ w.heap.size ≤ k_)) (.slice (some ⟨go23, 0, none⟩) y151.length co23) y151 from (by (with_reducible repeat (first | apply Kd.N_alloc | apply Kd.N_drewN | apply Kd.N_drew)); exact Kd.N_mono HO153.out (fun _ hk => hk.1))))); (try (obtain ⟨ce30, hcl30, hM30, hcc30, hfr30⟩ := Kd.N_elem HX30.out [] (a1 : Int) (of_decide_eq_true (by first | (with_reducible assumption) | assumption)) (by have h_ : (a1 : Int) < ((y151.length : Int) : Int) := of_decide_eq_true (by first | (with_reducible assumption) | assumption); first | exact h_ | (have e_ := (Kd.N_reads' HO153.out).1; omega) | simpa using h_))); (try (obtain ⟨ua30_0, uc30_0, rfl, ul30_0, ge30_0⟩ := Kd.FK_slice_open hM30)); (try (have HP30 := Kd.N_seg HX30.out (a1 : Int) (of_decide_eq_true (by first | (with_reducible assumption) | assumption)) (by have h_ : (a1 : Int) < ((y151.length : Int) : Int) := of_decide_eq_true (by first | (with_reducible assumption) | assumption); first | exact h_ | (have e_ := (Kd.N_reads' HO153.out).1; omega) | simpa using h_) (seg := [.slice Ao32 t144.length co32]) (j := 0) hcl30 hcc30 (show 1 ≤ 1 from by decide) (x' := t144) (Kd.FK_slice_mk (Kd.Q_reads' (Kd.Q_mono (ok' := (fun k_ => ((fun k_ => (P0_ k_ ∨ w.heap.size ≤ k_))) k_ ∧ k_ ≠ go23)) (Kd.Q_apart' (HO147.out) (Kd.N_typed HO153.out) (by decide)) (fun k_ hk => ⟨(.inr (hk.1.1)), fun e_ => (hk.2) (by rw [e_]; rfl)⟩))).2.1 (Kd.Q_F (Kd.Q_mono (ok' := (fun k_ => ((fun k_ => (P0_ k_ ∨ w.heap.size ≤ k_))) k_ ∧ k_ ≠ go23)) (Kd.Q_apart' (HO147.out) (Kd.N_typed HO153.out) (by decide)) (fun k_ hk => ⟨(.inr (hk.1.1)), fun e_ => (hk.2) (by rw [e_]; rfl)⟩)))) (fun _ hk => hk))); (try (have hx30_0 := hcc30 0 _ rfl)); (try (try simp only [show ((Kd.slice 5 (Kd.int .u8))).sz = 1 from rfl, Nat.mul_one, Nat.add_zero] at hx30_0)); (try (have hf30_0 := hfr30 0)); (try (try simp only [show ((Kd.slice 5 (Kd.int .u8))).sz = 1 from rfl, Nat.mul_one, Nat.add_zero] at hf30_0)); (try (clear hcl30 hcc30 hfr30 hM30)); (try (try simp only [show ((Kd.slice 5 (Kd.int .u8))).sz = 1 from rfl, Nat.mul_one, Nat.add_zero] at HP30)); (try (try simp only [show ((Kd.slice 5 (Kd.int .u8))).sz = 1 from rfl, Nat.mul_one, Nat.add_zero] at HP30)))); refine store_event (t := 23) (p := 63) (v := ?vo_w31) (w1 := (w29.setCell ⟨go23, (a1 : Int).toNat, none⟩ (.slice Ao32 t144.length co32))) ?hg ?ho ?hn ?hr ?_; (case ho => rfl); (case hg => rfl); (case hn => rfl); (case hr => first | (go_simp; done) | (go_simp; rfl)); intro w31 hw; have hg : w29.grownBy w31 (some go23) := (by rw [hw]; exact HP30.2); have hp_ : Kd.N (Kd.slice 5 (Kd.int .u8)) 23 w31 w.heap.size (fun k_ => (P0_ k_ ∨ w.heap.size ≤ k_)) (.slice (some ⟨go23, 0, none⟩) y151.length co23) y154 := (by rw [hw, Ny154.out]; exact HP30.1); clear HP30; have n0_ := Aside0.mk (Kd.V_afterv (v := (.slice (some ⟨go23, 0, none⟩) y151.length co23)) (v1 := (.slice (some ⟨go23, 0, none⟩) y151.length co23)) (ok := (fun k_ => (P0_ k_ ∨ w.heap.size ≤ k_) ∧ nO_ k_ (.slice Ao32 t144.length co32))) (by (with_reducible repeat (first | apply Kd.V_alloc | apply Kd.V_drewN | apply Kd.V_drew)); exact HO_0.out) hg (.inl rfl)); have n1_ := Aside0.mk (hp_); have n2_ := Aside0.mk ((by rw [hw]; exact below_set (HB.out) GB23.out : Below w.heap.size w w31)); clear HO_0; clear HO153; clear HB; clear HO147; have HO_0 := n0_; have HO153 := n1_; have HB := n2_; clear n0_ n1_ n2_; clear hg hw hp_) | (go_at_call 10; refine calls_of_args (args' := #[.slice (some ⟨go23, 0, none⟩) y154.length co23]) (by first | (rw [show y154.length = y151.length from (Kd.N_reads' HO153.out).1.symm] <;> rfl) | rfl) ?_; (with_reducible refine (parity_Of.calls _ _ y154 t155 t156 _ ?side1 ?side2 A24.out).mono ?_); (case side1 => repeat (first | exact (Kd.N_reads' HO153.out).2.2 | (with_reducible refine Kd.C_alloc ?_ _) | (with_reducible refine Kd.C_drewN ?_ _) | (with_reducible refine Kd.C_drew ?_))); (case side2 => rw [show y154.length = y151.length from (Kd.N_reads' HO153.out).1.symm]; exact (Kd.N_reads' HO153.out).2.1); rintro e w33 ⟨v157, rfl, ho0, hb⟩; have n0_ := Aside0.mk (Kd.V_elder' (by (with_reducible repeat (first | apply Kd.V_alloc | apply Kd.V_drewN | apply Kd.V_drew)); exact HO_0.out) (Kd.R_base ho0) hb); have n1_ := Aside0.mk (Kd.N_elder' (by (with_reducible repeat (first | apply Kd.N_alloc | apply Kd.N_drewN | apply Kd.N_drew)); exact HO153.out) (Kd.R_base ho0) hb); have n2_ := Aside0.mk (Kd.R_lower (Kd.R_newM (M := fun k_ => (w.heap.size ≤ k_)) ho0 (below_size (pH_ HB.out)) (fun k_ h_ => h_)) (below_size (pH_ HB.out))); have n3_ := Aside0.mk (below_step (pH_ HB.out) hb); clear HO_0; clear HO153; clear HB; have HO_0 := n0_; have HO153 := n1_; have HO158 := n2_; have HB := n3_; clear n0_ n1_ n2_ n3_; (try clear hb); (try clear ho0))); go_upto_region 10 with (first | (go_at_call 11; (with_reducible refine (parity_Repair.calls _ _ l0 a1 _ _ l2 t144 t145 _ ?side1 ?side2 ?side3 ?side4 A18.out).mono ?_); (case side1 => repeat (first | exact (Kd.V_reads' HO_0.out).2.2 | (with_reducible refine Kd.C_alloc ?_ _) | (with_reducible refine Kd.C_drewN ?_ _) | (with_reducible refine Kd.C_drew ?_))); (case side2 => exact (Kd.V_reads' HO_0.out).2.1); (case side3 => repeat (first | exact (Kd.C_below HR2.out HB.out) | (with_reducible refine Kd.C_alloc ?_ _) | (with_reducible refine Kd.C_drewN ?_ _) | (with_reducible refine Kd.C_drew ?_))); (case side4 => exact HC2.out); rintro e w26 ⟨v146, rfl, ho0, hb⟩; have n0_ := Aside0.mk (Kd.V_elder' (by (with_reducible repeat (first | apply Kd.V_alloc | apply Kd.V_drewN | apply Kd.V_drew)); exact HO_0.out) (Kd.Q_base ho0) hb); have n1_ := Aside0.mk (Kd.Q_lower (Kd.Q_newM (M := fun k_ => (w.heap.size ≤ k_)) ho0 (below_size (pH_ HB.out)) (fun k_ h_ => h_)) (below_size (pH_ HB.out))); have n2_ := Aside0.mk (below_step (pH_ HB.out) hb); clear HO_0; clear HB; have HO_0 := n0_; have HO147 := n1_; have HB := n2_; clear n0_ n1_ n2_; (try clear hb); (try clear ho0)) | ((with_reducible refine gate_dst (N := 57) rfl ?_); (try (refine gate_guard (by rfl) ?_; dsimp only)); refine Kd.N_lit (Kd.slice 5 (Kd.int .u8)) _ 23 ?hg (N' := 57) ?hd (xs := ([] : List (List Int))) (inner := []) (ok := (fun k_ => (P0_ k_ ∨ w.heap.size ≤ k_) ∧ nO_ k_ v146)) (okp := (fun k_ => (P0_ k_ ∨ w.heap.size ≤ k_) ∧ nO_ k_ v146)) ?hr ?hp (fun _ hk => hk) ((show ∀ k_, w26.heap.size ≤ k_ → (fun k_ => (P0_ k_ ∨ w.heap.size ≤ k_) ∧ nO_ k_ v146) k_ from fun k_ hk => ⟨(.inr (Nat.le_trans (below_size (pH_ HB.out)) hk)), Kd.fresh' (Kd.Q_lt (pQ_ HO147.out)) k_ hk⟩) _ (Nat.le_refl _)) (Below.refl _ _) (Nat.le_refl _) (by simp) ?_; (case hd => rfl); (case hg => rfl); (case hr => first | (go_simp; done) | (go_simp; rfl)); (case hp => exact (Reps.none _ _)); intro v149 w27 ho28 hb hg_ hnew_; clear hg_ hnew_; (first | rw [← Ny148.out] at ho28 | (simp only [Int.reduceToNat] at ho28; rw [← Ny148.out] at ho28)); have n0_ := Aside0.mk (Kd.V_elder' (by (with_reducible repeat (first | apply Kd.V_alloc | apply Kd.V_drewN | apply Kd.V_drew)); exact HO_0.out) (by first | exact Kd.N_base ho28 | exact Kd.N_base (Kd.S_N ho28)) hb); have n1_ := Aside0.mk (Kd.Q_below (pQ_ HO147.out) hb); have n2_ := Aside0.mk (Kd.N_lower ho28 (below_size (pH_ HB.out))); have n3_ := Aside0.mk (below_step (pH_ HB.out) hb); clear HO_0; clear HO147; clear HB; have HO_0 := n0_; have HO147 := n1_; have HO150 := n2_; have HB := n3_; clear n0_ n1_ n2_ n3_; clear hb ho28) | ((with_reducible refine gate_builtin (b := .append) (xs := #[.tmp 57, .tmp 58]) rfl ?_); (try (refine gate_guard (by rfl) ?_; dsimp only)); at_builtin; refine Kd.N_append_rows (Kd.slice 5 (Kd.int .u8)) (w0 := w) w.heap.size rfl (.tmp 57) (.tmp 58) 22 23 (.slice none 0 0) 24 rfl Tryd.underlying22 info23 rfl (by decide) (by omega) v149 y148 l0 _ _ _ (fun k_ => (P0_ k_ ∨ w.heap.size ≤ k_) ∧ nO_ k_ v146) (fun k_ => ((fun k_ => (P0_ k_ ∨ w.heap.size ≤ k_) ∧ nO_ k_ v146)) k_ ∧ nO_ k_ v149) rfl rfl ?aO ?aR (fun _ hk => hk) ?aF ?aB ?aS ?aL ?_; (case aR => exact (by skip; exact Kd.V_F (Kd.V_mono (ok' := (fun k_ => ((fun k_ => (P0_ k_ ∨ w.heap.size ≤ k_) ∧ nO_ k_ v146)) k_ ∧ nO_ k_ v149)) (HO_0.out) (fun k_ hk => ⟨⟨hk.1.1, hk.1.2⟩, hk.2⟩)))); (case aB => exact (pH_ HB.out)); (case aF => exact (fun k_ hk => ⟨(.inr (Nat.le_trans (below_size (pH_ HB.out)) hk)), Kd.fresh' (Kd.Q_lt (pQ_ HO147.out)) k_ hk⟩)); (case aO => exact (by (with_reducible repeat (first | apply Kd.N_alloc | apply Kd.N_drewN | apply Kd.N_drew)); exact HO150.out)); (case aS => exact (below_size (pH_ HB.out))); (case aL => have := LMc20.out; omega); intro v152 w29 ho hb hg hat; (try simp only [Int.reduceToNat] at ho); rw [← Ny151.out] at ho; have n0_ := Aside0.mk (Kd.V_afterv (ok := (fun k_ => (P0_ k_ ∨ w.heap.size ≤ k_) ∧ nO_ k_ v146)) (by (with_reducible repeat (first | apply Kd.V_alloc | apply Kd.V_drewN | apply Kd.V_drew)); exact HO_0.out) hg hat); have n1_ := Aside0.mk (Kd.Q_over' (d := (Kd.int .u8)) (e := 5) (pQ_ HO147.out) (Kd.N_typed (by (with_reducible repeat (first | apply Kd.N_alloc | apply Kd.N_drewN | apply Kd.N_drew)); exact HO150.out)) (by decide) hg); have n2_ := Aside0.mk (hb); have n3_ := Aside0.mk (ho); clear HO_0; clear HO147; clear HB; clear HO150; have HO_0 := n0_; have HO147 := n1_; have HB := n2_; have HO153 := n3_; clear n0_ n1_ n2_ n3_; clear ho hb hg hat; have p23 : 0 ≤ (a1 : Int) := of_decide_eq_true (by first | (with_reducible assumption) | assumption); have q23 : (a1 : Int) < ((y151.length : Int) : Int) := of_decide_eq_true (by first | (with_reducible assumption) | assumption); obtain ⟨go23, co23, eo23, gb23, gl23, cl23, HG23⟩ := Kd.N_form HO153.out (by omega); (first | cases eo23 | (injection eo23 with ea_ en_ ec_; (first | subst ea_ | (injection ea_ with ea_; subst ea_)); subst ec_; clear en_)); have GB23 := Aside0.mk gb23; have GG23 := Aside0.mk HG23; clear gb23 gl23 HG23; obtain ⟨ce23, hcl23, hM23, hcc23, hfr23⟩ := Kd.N_elem HO153.out [] (a1 : Int) p23 q23; obtain ⟨ua23_0, uc23_0, rfl, ul23_0, ge23_0⟩ := Kd.FK_slice_open hM23; have hx23_0 := hcc23 0 _ rfl; have hf23_0 := hfr23 0; (try simp only [show ((Kd.slice 5 (Kd.int .u8))).sz = 1 from rfl, Nat.mul_one, Nat.add_zero] at hx23_0); (try simp only [show ((Kd.slice 5 (Kd.int .u8))).sz = 1 from rfl, Nat.mul_one, Nat.add_zero] at hf23_0); clear hcl23 hcc23 hfr23 hM23; replace p23 := eq_true p23; replace q23 := eq_true q23; obtain ⟨Ao32, co32, eo32, _⟩ := Kd.Q_slice HO147.out; subst eo32; have HX30 := Aside0.mk (show Kd.N (Kd.slice 5 (Kd.int .u8)) 23 w29 w.heap.size (fun k_ => (P0_ k_ ∨ w.heap.size ≤ k_)) (.slice (some ⟨go23, 0, none⟩) y151.length co23) y151 from (by (with_reducible repeat (first | apply Kd.N_alloc | apply Kd.N_drewN | apply Kd.N_drew)); exact Kd.N_mono HO153.out (fun _ hk => hk.1))); obtain ⟨ce30, hcl30, hM30, hcc30, hfr30⟩ := Kd.N_elem HX30.out [] (a1 : Int) (of_decide_eq_true (by first | (with_reducible assumption) | assumption)) (by have h_ : (a1 : Int) < ((y151.length : Int) : Int) := of_decide_eq_true (by first | (with_reducible assumption) | assumption); first | exact h_ | (have e_ := (Kd.N_reads' HO153.out).1; omega) | simpa using h_); obtain ⟨ua30_0, uc30_0, rfl, ul30_0, ge30_0⟩ := Kd.FK_slice_open hM30; have HP30 := Kd.N_seg HX30.out (a1 : Int) (of_decide_eq_true (by first | (with_reducible assumption) | assumption)) (by have h_ : (a1 : Int) < ((y151.length : Int) : Int) := of_decide_eq_true (by first | (with_reducible assumption) | assumption); first | exact h_ | (have e_ := (Kd.N_reads' HO153.out).1; omega) | simpa using h_) (seg := [.slice Ao32 t144.length co32]) (j := 0) hcl30 hcc30 (show 1 ≤ 1 from by decide) (x' := t144) (Kd.FK_slice_mk (Kd.Q_reads' (Kd.Q_mono (ok' := (fun k_ => ((fun k_ => (P0_ k_ ∨ w.heap.size ≤ k_))) k_ ∧ k_ ≠ go23)) (Kd.Q_apart' (HO147.out) (Kd.N_typed HO153.out) (by decide)) (fun k_ hk => ⟨(.inr (hk.1.1)), fun e_ => (hk.2) (by rw [e_]; rfl)⟩))).2.1 (Kd.Q_F (Kd.Q_mono (ok' := (fun k_ => ((fun k_ => (P0_ k_ ∨ w.heap.size ≤ k_))) k_ ∧ k_ ≠ go23)) (Kd.Q_apart' (HO147.out) (Kd.N_typed HO153.out) (by decide)) (fun k_ hk => ⟨(.inr (hk.1.1)), fun e_ => (hk.2) (by rw [e_]; rfl)⟩)))) (fun _ hk => hk); have hx30_0 := hcc30 0 _ rfl; (try simp only [show ((Kd.slice 5 (Kd.int .u8))).sz = 1 from rfl, Nat.mul_one, Nat.add_zero] at hx30_0); have hf30_0 := hfr30 0; (try simp only [show ((Kd.slice 5 (Kd.int .u8))).sz = 1 from rfl, Nat.mul_one, Nat.add_zero] at hf30_0); clear hcl30 hcc30 hfr30 hM30; (try simp only [show ((Kd.slice 5 (Kd.int .u8))).sz = 1 from rfl, Nat.mul_one, Nat.add_zero] at HP30); (try simp only [show ((Kd.slice 5 (Kd.int .u8))).sz = 1 from rfl, Nat.mul_one, Nat.add_zero] at HP30)) | ((with_reducible refine gate_store (t := 23) (p := 63) rfl ?_); (try (rw [drewN_self w29]; generalize hq_ : World.drewN w29 _ = w29; have n0_ := Aside0.mk (Kd.V_at hq_ HO_0.out); have n1_ := Aside0.mk (Kd.N_at hq_ HO153.out); have n2_ := Aside0.mk (below_at hq_ HB.out); clear hq_ HO_0 HO153 HB; have HO_0 := n0_; have HO153 := n1_; have HB := n2_; clear n0_ n1_ n2_; (try (obtain ⟨Ao32, co32, eo32, _⟩ := Kd.Q_slice HO147.out)); (try (subst eo32)); (try (have HX30 := Aside0.mk (show Kd.N (Kd.slice 5 (Kd.int .u8)) 23 w29 w.heap.size (fun k_ => (P0_ k_ ∨ w.heap.size ≤ k_)) (.slice (some ⟨go23, 0, none⟩) y151.length co23) y151 from (by (with_reducible repeat (first | apply Kd.N_alloc | apply Kd.N_drewN | apply Kd.N_drew)); exact Kd.N_mono HO153.out (fun _ hk => hk.1))))); (try (obtain ⟨ce30, hcl30, hM30, hcc30, hfr30⟩ := Kd.N_elem HX30.out [] (a1 : Int) (of_decide_eq_true (by first | (with_reducible assumption) | assumption)) (by have h_ : (a1 : Int) < ((y151.length : Int) : Int) := of_decide_eq_true (by first | (with_reducible assumption) | assumption); first | exact h_ | (have e_ := (Kd.N_reads' HO153.out).1; omega) | simpa using h_))); (try (obtain ⟨ua30_0, uc30_0, rfl, ul30_0, ge30_0⟩ := Kd.FK_slice_open hM30)); (try (have HP30 := Kd.N_seg HX30.out (a1 : Int) (of_decide_eq_true (by first | (with_reducible assumption) | assumption)) (by have h_ : (a1 : Int) < ((y151.length : Int) : Int) := of_decide_eq_true (by first | (with_reducible assumption) | assumption); first | exact h_ | (have e_ := (Kd.N_reads' HO153.out).1; omega) | simpa using h_) (seg := [.slice Ao32 t144.length co32]) (j := 0) hcl30 hcc30 (show 1 ≤ 1 from by decide) (x' := t144) (Kd.FK_slice_mk (Kd.Q_reads' (Kd.Q_mono (ok' := (fun k_ => ((fun k_ => (P0_ k_ ∨ w.heap.size ≤ k_))) k_ ∧ k_ ≠ go23)) (Kd.Q_apart' (HO147.out) (Kd.N_typed HO153.out) (by decide)) (fun k_ hk => ⟨(.inr (hk.1.1)), fun e_ => (hk.2) (by rw [e_]; rfl)⟩))).2.1 (Kd.Q_F (Kd.Q_mono (ok' := (fun k_ => ((fun k_ => (P0_ k_ ∨ w.heap.size ≤ k_))) k_ ∧ k_ ≠ go23)) (Kd.Q_apart' (HO147.out) (Kd.N_typed HO153.out) (by decide)) (fun k_ hk => ⟨(.inr (hk.1.1)), fun e_ => (hk.2) (by rw [e_]; rfl)⟩)))) (fun _ hk => hk))); (try (have hx30_0 := hcc30 0 _ rfl)); (try (try simp only [show ((Kd.slice 5 (Kd.int .u8))).sz = 1 from rfl, Nat.mul_one, Nat.add_zero] at hx30_0)); (try (have hf30_0 := hfr30 0)); (try (try simp only [show ((Kd.slice 5 (Kd.int .u8))).sz = 1 from rfl, Nat.mul_one, Nat.add_zero] at hf30_0)); (try (clear hcl30 hcc30 hfr30 hM30)); (try (try simp only [show ((Kd.slice 5 (Kd.int .u8))).sz = 1 from rfl, Nat.mul_one, Nat.add_zero] at HP30)); (try (try simp only [show ((Kd.slice 5 (Kd.int .u8))).sz = 1 from rfl, Nat.mul_one, Nat.add_zero] at HP30)))); refine store_event (t := 23) (p := 63) (v := ?vo_w31) (w1 := (w29.setCell ⟨go23, (a1 : Int).toNat, none⟩ (.slice Ao32 t144.length co32))) ?hg ?ho ?hn ?hr ?_; (case ho => rfl); (case hg => rfl); (case hn => rfl); (case hr => first | (go_simp; done) | (go_simp; rfl)); intro w31 hw; have hg : w29.grownBy w31 (some go23) := (by rw [hw]; exact HP30.2); have hp_ : Kd.N (Kd.slice 5 (Kd.int .u8)) 23 w31 w.heap.size (fun k_ => (P0_ k_ ∨ w.heap.size ≤ k_)) (.slice (some ⟨go23, 0, none⟩) y151.length co23) y154 := (by rw [hw, Ny154.out]; exact HP30.1); clear HP30; have n0_ := Aside0.mk (Kd.V_afterv (v := (.slice (some ⟨go23, 0, none⟩) y151.length co23)) (v1 := (.slice (some ⟨go23, 0, none⟩) y151.length co23)) (ok := (fun k_ => (P0_ k_ ∨ w.heap.size ≤ k_) ∧ nO_ k_ (.slice Ao32 t144.length co32))) (by (with_reducible repeat (first | apply Kd.V_alloc | apply Kd.V_drewN | apply Kd.V_drew)); exact HO_0.out) hg (.inl rfl)); have n1_ := Aside0.mk (hp_); have n2_ := Aside0.mk ((by rw [hw]; exact below_set (HB.out) GB23.out : Below w.heap.size w w31)); clear HO_0; clear HO153; clear HB; clear HO147; have HO_0 := n0_; have HO153 := n1_; have HB := n2_; clear n0_ n1_ n2_; clear hg hw hp_) | (go_at_call 10; refine calls_of_args (args' := #[.slice (some ⟨go23, 0, none⟩) y154.length co23]) (by first | (rw [show y154.length = y151.length from (Kd.N_reads' HO153.out).1.symm] <;> rfl) | rfl) ?_; (with_reducible refine (parity_Of.calls _ _ y154 t155 t156 _ ?side1 ?side2 A24.out).mono ?_); (case side1 => repeat (first | exact (Kd.N_reads' HO153.out).2.2 | (with_reducible refine Kd.C_alloc ?_ _) | (with_reducible refine Kd.C_drewN ?_ _) | (with_reducible refine Kd.C_drew ?_))); (case side2 => rw [show y154.length = y151.length from (Kd.N_reads' HO153.out).1.symm]; exact (Kd.N_reads' HO153.out).2.1); rintro e w33 ⟨v157, rfl, ho0, hb⟩; have n0_ := Aside0.mk (Kd.V_elder' (by (with_reducible repeat (first | apply Kd.V_alloc | apply Kd.V_drewN | apply Kd.V_drew)); exact HO_0.out) (Kd.R_base ho0) hb); have n1_ := Aside0.mk (Kd.N_elder' (by (with_reducible repeat (first | apply Kd.N_alloc | apply Kd.N_drewN | apply Kd.N_drew)); exact HO153.out) (Kd.R_base ho0) hb); have n2_ := Aside0.mk (Kd.R_lower (Kd.R_newM (M := fun k_ => (w.heap.size ≤ k_)) ho0 (below_size (pH_ HB.out)) (fun k_ h_ => h_)) (below_size (pH_ HB.out))); have n3_ := Aside0.mk (below_step (pH_ HB.out) hb); clear HO_0; clear HO153; clear HB; have HO_0 := n0_; have HO153 := n1_; have HO158 := n2_; have HB := n3_; clear n0_ n1_ n2_ n3_; (try clear hb); (try clear ho0))))
        (try simp only [Act.put, sA_, sZ_, sS_]); (with_reducible first | refine then_id_ ?_ | (refine wp_tail_ ?_; intro Kt_ hKt_))
        go_cut [82] (fun v82 wc => ∃ (kq : Nat) (x82_24 : Bool), v82 = .bool x82_24 ∧ Aside0 (bitloftlaw42_ParityTells.j2 kq l2 t142 t155 x82_24 = some r) ∧ Aside0 (kq ≤ kj4) ∧ Aside0 (Kd.R (Kd.int .u8) 5 wc w.heap.size (fun k_ => (w.heap.size ≤ k_)) v157 t155) ∧ Aside0 (Below w.heap.size w wc))
        case first =>
         have H := HC25.out; clear HC25
         by_cases c34 : t156 = 0
         ·
          rw [if_pos c34] at H; have c34b0 : (t156 == 0) = true := beq_iff_eq.mpr c34; have c34b1 : (t156 != 0) = false := bne_eq_false_iff_eq.mpr c34; clear c34; (first | rw [c34b0] | (simp only [i64_w, i32_w]; rw [c34b0]) | skip)
          by_cases c35 : (t155.length : Int) < 2
          ·
           rw [if_pos c35] at H; have c35b0 : decide ((t155.length : Int) < 2) = true := decide_eq_true c35; have c35b1 : decide (t155.length < 2) = true := decide_eq_true (by omega); clear c35; exact absurd (H.trans (congrArg some HRT_.out)) (by first | (simp; done) | (generalize kj4 = k_; cases k_ <;> simp [bitloftlaw42_ParityTells.j0, bitloftlaw42_ParityTells.j2, bitloftlaw42_ParityTells.l0, bitloftlaw42_ParityTells.j4, bitloftlaw42_ParityTells.j1]))
          ·
           rw [if_neg c35] at H; have c35b0 : decide ((t155.length : Int) < 2) = false := decide_eq_false c35; have c35b1 : decide (t155.length < 2) = false := decide_eq_false (by omega); clear c35; have H' := Aside0.mk H; clear H; obtain ⟨Ao36, co36, eo36⟩ := Kd.R_slice HO158.out
           subst eo36
           go_wp2
           repeat (go_quiet (fail); try go_wp2)
           (first | go_meet | (refine Met.intro ?_; go_step; (repeat apply Exists.intro); refine ⟨?rel, ?eqf_⟩; case eqf_ => ((simp only [c35b0, c34b0, c22b0, c21b0, c19b0]) <;> rfl)))
           case rel => exact ⟨_, (decide ((t155.length : Int) > (l2.length : Int))), (by first | rfl | (simp; done) | (simp [*]; done)), H', ⟨by have := HJ4.out; first | omega | exact Nat.le_refl _⟩, ⟨by (with_reducible repeat (first | apply rA_ | apply rN_ | apply rD_)); exact Kd.R_mono HO158.out (fun _ hk => hk.1)⟩, ⟨pH_ HB.out⟩⟩
         ·
          rw [if_neg c34] at H; have c34b0 : (t156 == 0) = false := beq_eq_false_iff_ne.mpr c34; have c34b1 : (t156 != 0) = true := bne_iff_ne.mpr c34; (first | rw [c34b0] | (simp only [i64_w, i32_w]; rw [c34b0]) | skip); exact absurd (H.trans (congrArg some HRT_.out)) (by first | (simp; done) | (generalize kj4 = k_; cases k_ <;> simp [bitloftlaw42_ParityTells.j0, bitloftlaw42_ParityTells.j2, bitloftlaw42_ParityTells.l0, bitloftlaw42_ParityTells.j4, bitloftlaw42_ParityTells.j1]))
        case rest =>
         (try (refine hKt_ _ _ ?_; clear hKt_; clear Kt_)); clear HC25
         try clear c1
         try clear c2
         try clear p2
         try clear q2
         try clear hx2
         try clear c3
         try clear hx3
         try clear hf3
         try clear c4
         try clear c8
         try clear c9
         try clear c9b0
         try clear c11
         try clear c11b0
         try clear c13
         try clear c13b0
         try clear c13b1
         try clear c17
         try clear c19
         try clear c19b0
         try clear c19b1
         try clear c20
         try clear c21
         try clear c21b0
         try clear c22
         try clear c22b0
         try clear c23
         try clear p23
         try clear q23
         try clear hx23
         try clear hf23
         try clear c30
         try clear hx30
         try clear hf30
         try clear c34
         try clear c34b0
         try clear c34b1
         try clear c35
         try clear c35b0
         try clear c35b1
         try clear hx23_0
         try clear hx30_0
         try clear p2
         try clear p23
         try clear q23
         obtain ⟨kq, x82_24, rfl, HA, HJ24, HO_11, HB⟩ := hcut
         cases kq with
         | zero => exact absurd HA.out (by simp [bitloftlaw42_ParityTells.j2])
         | succ kj24 =>
          have H := HA.out; clear HA; simp only [bitloftlaw42_ParityTells.j2] at H
          by_cases c37 : x82_24 = true
          ·
           subst c37
           have H1 : (some false) = some r := by rw [if_pos rfl] at H; exact H
           clear H; have H := H1; clear H1; exact absurd (H.trans (congrArg some HRT_.out)) (by simp)
          ·
           replace c37 := Bool.eq_false_iff.mpr c37
           subst c37
           have H1 : (bitloftlaw42_ParityTells.l0 kj24 l2 t142 t155 0) = some r := by rw [if_neg (show ¬ (false = true) by decide)] at H; exact H
           clear H; have H := H1; clear H1; have H' := Aside0.mk H; clear H
           go_wp2
           repeat (go_quiet (fail); try go_wp2)
           go_loopg [13] kj24 (fun kq v13 w' => ∃ (x13_3 : Int), v13 = .int .i64 x13_3 ∧ Aside0 (bitloftlaw42_ParityTells.l0 kq l2 t142 t155 x13_3 = some r) ∧ Aside0 (kq ≤ kj24) ∧ Aside0 (Kd.R (Kd.int .u8) 5 w' w.heap.size (fun k_ => (w.heap.size ≤ k_)) v157 t155) ∧ Aside0 (Below w.heap.size w w'))
           case atStart => exact ⟨(0), (by first | rfl | (simp; done) | (simp [*]; done)), H', ⟨Nat.le_refl _⟩, ⟨pL_ HO_11.out⟩, ⟨pH_ HB.out⟩⟩
           case round =>
            clear H'
            try clear c1
            try clear c2
            try clear p2
            try clear q2
            try clear hx2
            try clear c3
            try clear hx3
            try clear hf3
            try clear c4
            try clear c8
            try clear c9
            try clear c9b0
            try clear c11
            try clear c11b0
            try clear c13
            try clear c13b0
            try clear c13b1
            try clear c17
            try clear c19
            try clear c19b0
            try clear c19b1
            try clear c20
            try clear c21
            try clear c21b0
            try clear c22
            try clear c22b0
            try clear c23
            try clear p23
            try clear q23
            try clear hx23
            try clear hf23
            try clear c30
            try clear hx30
            try clear hf30
            try clear c34
            try clear c34b0
            try clear c34b1
            try clear c35
            try clear c35b0
            try clear c35b1
            try clear c37
            try clear hx23_0
            try clear hx30_0
            try clear p2
            try clear p23
            try clear q2
            try clear q23
            obtain ⟨x13_3, rfl, HA, HK3, HO_11, HB⟩ := hrel
            cases gk with
            | zero => exact absurd HA.out (by simp [bitloftlaw42_ParityTells.l0])
            | succ k3 =>
             have H := HA.out; clear HA; simp only [bitloftlaw42_ParityTells.l0] at H
             by_cases c38 : x13_3 < (l2.length : Int)
             ·
              rw [if_pos c38] at H; have c38b0 : decide (x13_3 < (l2.length : Int)) = true := decide_eq_true c38; clear c38; have HC39 := Aside0.mk H; clear H
              go_upto_region 15 with (fail)
              repeat (go_quiet (fail); go_upto_region 15 with (fail))
              (with_reducible first | refine then_id_ ?_ | (refine wp_tail_ ?_; intro Kt_ hKt_))
              go_cut [116] (fun v116 wc => ∃ (kq : Nat) (x116_38 : Bool), v116 = .bool x116_38 ∧ Aside0 (bitloftlaw42_ParityTells.j4 kq l2 t142 t155 x13_3 x116_38 = some r) ∧ Aside0 (kq ≤ k3) ∧ Aside0 (Kd.R (Kd.int .u8) 5 wc w.heap.size (fun k_ => (w.heap.size ≤ k_)) v157 t155) ∧ Aside0 (Below w.heap.size w wc))
              case first =>
               have H := HC39.out; clear HC39
               by_cases c40 : x13_3 < (t155.length : Int)
               ·
                rw [if_pos c40] at H; have c40b0 : decide (x13_3 < (t155.length : Int)) = true := decide_eq_true c40; clear c40; (first | rw [c40b0] | (simp only [i64_w, i32_w]; rw [c40b0]) | skip)
                by_cases c41 : 0 ≤ x13_3
                ·
                 rw [if_pos c41] at H; have c41b0 : decide (0 ≤ x13_3) = true := decide_eq_true c41; clear c41
                 by_cases c42 : (rd l2 x13_3) = (rd t155 x13_3)
                 ·
                  rw [if_pos c42] at H; have c42b0 : ((rd l2 x13_3) == (rd t155 x13_3)) = true := beq_iff_eq.mpr c42; have c42b1 : ((rd l2 x13_3) != (rd t155 x13_3)) = false := bne_eq_false_iff_eq.mpr c42; clear c42
                  by_cases c43 : x13_3 ≥ (t155.length : Int)
                  ·
                   rw [if_pos c43] at H; have c43b0 : decide ((t155.length : Int) ≤ x13_3) = true := decide_eq_true c43; clear c43; have H' := Aside0.mk H; clear H; obtain ⟨Ao44, co44, eo44⟩ := Kd.R_slice HO_11.out
                   subst eo44
                   have p159 : 0 ≤ (x13_3 : Int) := of_decide_eq_true (by first | (with_reducible assumption) | assumption); have q159 : x13_3 < (l2.length : Int) := of_decide_eq_true (by first | (with_reducible assumption) | assumption); obtain ⟨ad159, e159, hx159_0⟩ := Kd.at_int HR2.out x13_3 p159 q159
                   cases e159
                   replace hx159_0 := (HB.out.cell (World.block_lt_of_cell? w _ hx159_0)).trans hx159_0; replace p159 := eq_true p159; replace q159 := eq_true q159; have p160 : 0 ≤ (x13_3 : Int) := of_decide_eq_true (by first | (with_reducible assumption) | assumption); have q160 : x13_3 < (t155.length : Int) := of_decide_eq_true (by first | (with_reducible assumption) | assumption); obtain ⟨ad160, e160, hx160_0⟩ := Kd.at_int (Kd.R_reads' HO_11.out).2.2 x13_3 p160 q160
                   cases e160
                   replace p160 := eq_true p160; replace q160 := eq_true q160; have p161 : 0 ≤ (x13_3 : Int) := of_decide_eq_true (by first | (with_reducible assumption) | assumption); have q161 : x13_3 < (l2.length : Int) := of_decide_eq_true (by first | (with_reducible assumption) | assumption); obtain ⟨ad161, e161, hx161_0⟩ := Kd.at_int HR2.out x13_3 p161 q161; obtain rfl : ad159 = ad161 := (by injection e161); replace hx161_0 := (HB.out.cell (World.block_lt_of_cell? w _ hx161_0)).trans hx161_0; replace p161 := eq_true p161; replace q161 := eq_true q161
                   go_wp2
                   repeat (go_quiet (fail); try go_wp2)
                   (first | go_meet | (refine Met.intro ?_; go_step; (repeat apply Exists.intro); refine ⟨?rel, ?eqf_⟩; case eqf_ => ((simp only [c43b0, c42b0, c41b0, c40b0, c38b0]) <;> rfl)))
                   case rel => exact ⟨_, (((rd l2 x13_3) != 0)), (by first | rfl | (simp; done) | (simp [*]; done)), H', ⟨by have := HJ4.out; have := HJ24.out; have := HK3.out; first | omega | exact Nat.le_refl _⟩, ⟨pL_ HO_11.out⟩, ⟨pH_ HB.out⟩⟩
                  ·
                   rw [if_neg c43] at H; have c43b0 : decide ((t155.length : Int) ≤ x13_3) = false := decide_eq_false c43; clear c43; have H' := Aside0.mk H; clear H; obtain ⟨Ao45, co45, eo45⟩ := Kd.R_slice HO_11.out
                   subst eo45
                   have p159 : 0 ≤ (x13_3 : Int) := of_decide_eq_true (by first | (with_reducible assumption) | assumption); have q159 : x13_3 < (l2.length : Int) := of_decide_eq_true (by first | (with_reducible assumption) | assumption); obtain ⟨ad159, e159, hx159_0⟩ := Kd.at_int HR2.out x13_3 p159 q159
                   cases e159
                   replace hx159_0 := (HB.out.cell (World.block_lt_of_cell? w _ hx159_0)).trans hx159_0; replace p159 := eq_true p159; replace q159 := eq_true q159; have p160 : 0 ≤ (x13_3 : Int) := of_decide_eq_true (by first | (with_reducible assumption) | assumption); have q160 : x13_3 < (t155.length : Int) := of_decide_eq_true (by first | (with_reducible assumption) | assumption); obtain ⟨ad160, e160, hx160_0⟩ := Kd.at_int (Kd.R_reads' HO_11.out).2.2 x13_3 p160 q160
                   cases e160
                   replace p160 := eq_true p160; replace q160 := eq_true q160
                   go_wp2
                   repeat (go_quiet (fail); try go_wp2)
                   (first | go_meet | (refine Met.intro ?_; go_step; (repeat apply Exists.intro); refine ⟨?rel, ?eqf_⟩; case eqf_ => ((simp only [c43b0, c42b0, c41b0, c40b0, c38b0]) <;> rfl)))
                   case rel => exact ⟨_, (false), (by first | rfl | (simp; done) | (simp [*]; done)), H', ⟨by have := HJ4.out; have := HJ24.out; have := HK3.out; first | omega | exact Nat.le_refl _⟩, ⟨pL_ HO_11.out⟩, ⟨pH_ HB.out⟩⟩
                 ·
                  rw [if_neg c42] at H; have c42b0 : ((rd l2 x13_3) == (rd t155 x13_3)) = false := beq_eq_false_iff_ne.mpr c42; have c42b1 : ((rd l2 x13_3) != (rd t155 x13_3)) = true := bne_iff_ne.mpr c42; exact absurd (H.trans (congrArg some HRT_.out)) (by first | (simp; done) | (generalize k3 = k_; cases k_ <;> simp [bitloftlaw42_ParityTells.j0, bitloftlaw42_ParityTells.j2, bitloftlaw42_ParityTells.l0, bitloftlaw42_ParityTells.j4, bitloftlaw42_ParityTells.j1]))
                ·
                 rw [if_neg c41] at H; exact absurd H (by simp)
               ·
                rw [if_neg c40] at H; have c40b0 : decide (x13_3 < (t155.length : Int)) = false := decide_eq_false c40; clear c40; (first | rw [c40b0] | (simp only [i64_w, i32_w]; rw [c40b0]) | skip)
                by_cases c46 : x13_3 ≥ (t155.length : Int)
                ·
                 rw [if_pos c46] at H; have c46b0 : decide ((t155.length : Int) ≤ x13_3) = true := decide_eq_true c46; clear c46
                 by_cases c47 : 0 ≤ x13_3
                 ·
                  rw [if_pos c47] at H; have c47b0 : decide (0 ≤ x13_3) = true := decide_eq_true c47; clear c47; have H' := Aside0.mk H; clear H; obtain ⟨Ao48, co48, eo48⟩ := Kd.R_slice HO_11.out
                  subst eo48
                  have p162 : 0 ≤ (x13_3 : Int) := of_decide_eq_true (by first | (with_reducible assumption) | assumption); have q162 : x13_3 < (l2.length : Int) := of_decide_eq_true (by first | (with_reducible assumption) | assumption); obtain ⟨ad162, e162, hx162_0⟩ := Kd.at_int HR2.out x13_3 p162 q162
                  cases e162
                  replace hx162_0 := (HB.out.cell (World.block_lt_of_cell? w _ hx162_0)).trans hx162_0; replace p162 := eq_true p162; replace q162 := eq_true q162
                  go_wp2
                  repeat (go_quiet (fail); try go_wp2)
                  (first | go_meet | (refine Met.intro ?_; go_step; (repeat apply Exists.intro); refine ⟨?rel, ?eqf_⟩; case eqf_ => ((simp only [c47b0, c46b0, c40b0, c38b0]) <;> rfl)))
                  case rel => exact ⟨_, (((rd l2 x13_3) != 0)), (by first | rfl | (simp; done) | (simp [*]; done)), H', ⟨by have := HJ4.out; have := HJ24.out; have := HK3.out; first | omega | exact Nat.le_refl _⟩, ⟨pL_ HO_11.out⟩, ⟨pH_ HB.out⟩⟩
                 ·
                  rw [if_neg c47] at H; exact absurd H (by simp)
                ·
                 rw [if_neg c46] at H; have c46b0 : decide ((t155.length : Int) ≤ x13_3) = false := decide_eq_false c46; clear c46; have H' := Aside0.mk H; clear H; obtain ⟨Ao49, co49, eo49⟩ := Kd.R_slice HO_11.out
                 subst eo49
                 go_wp2
                 repeat (go_quiet (fail); try go_wp2)
                 (first | go_meet | (refine Met.intro ?_; go_step; (repeat apply Exists.intro); refine ⟨?rel, ?eqf_⟩; case eqf_ => ((simp only [c46b0, c40b0, c38b0]) <;> rfl)))
                 case rel => exact ⟨_, (false), (by first | rfl | (simp; done) | (simp [*]; done)), H', ⟨by have := HJ4.out; have := HJ24.out; have := HK3.out; first | omega | exact Nat.le_refl _⟩, ⟨pL_ HO_11.out⟩, ⟨pH_ HB.out⟩⟩
              case rest =>
               (try (refine hKt_ _ _ ?_; clear hKt_; clear Kt_)); clear HC39
               try clear c1
               try clear p1
               try clear q1
               try clear hx1
               try clear c2
               try clear p2
               try clear q2
               try clear hx2
               try clear c3
               try clear hx3
               try clear hf3
               try clear c4
               try clear c8
               try clear c9
               try clear c9b0
               try clear c11
               try clear c11b0
               try clear c13
               try clear c13b0
               try clear c13b1
               try clear p15
               try clear q15
               try clear hx15
               try clear p16
               try clear q16
               try clear hx16
               try clear c17
               try clear c19
               try clear c19b0
               try clear c19b1
               try clear c20
               try clear c21
               try clear c21b0
               try clear c22
               try clear c22b0
               try clear c23
               try clear p23
               try clear q23
               try clear hx23
               try clear hf23
               try clear c30
               try clear hx30
               try clear hf30
               try clear c34
               try clear c34b0
               try clear c34b1
               try clear c35
               try clear c35b0
               try clear c35b1
               try clear c37
               try clear c38
               try clear c38b0
               try clear c40
               try clear c40b0
               try clear c41
               try clear c41b0
               try clear c42
               try clear c42b0
               try clear c42b1
               try clear c43
               try clear c43b0
               try clear c46
               try clear c46b0
               try clear c47
               try clear c47b0
               try clear hx159_0
               try clear hx160_0
               try clear hx161_0
               try clear hx162_0
               try clear hx23_0
               try clear hx30_0
               try clear p159
               try clear p160
               try clear p161
               try clear p162
               try clear p2
               try clear p23
               try clear q159
               try clear q160
               try clear q161
               try clear q162
               try clear q2
               try clear q23
               obtain ⟨kq, x116_38, rfl, HA, HJ38, HO_11, HB⟩ := hcut
               cases kq with
               | zero => exact absurd HA.out (by simp [bitloftlaw42_ParityTells.j4])
               | succ kj38 =>
                have H := HA.out; clear HA; simp only [bitloftlaw42_ParityTells.j4] at H
                by_cases c50 : x116_38 = true
                ·
                 subst c50
                 have H1 : (some false) = some r := by rw [if_pos rfl] at H; exact H
                 clear H; have H := H1; clear H1; exact absurd (H.trans (congrArg some HRT_.out)) (by simp)
                ·
                 replace c50 := Bool.eq_false_iff.mpr c50
                 subst c50
                 have H1 : (bitloftlaw42_ParityTells.l0 kj38 l2 t142 t155 (wrap64 (x13_3 + 1))) = some r := by rw [if_neg (show ¬ (false = true) by decide)] at H; exact H
                 clear H; have H := H1; clear H1; have H' := Aside0.mk H; clear H
                 go_wp2
                 repeat (go_quiet (fail); try go_wp2)
                 go_roundg kj38
                 case measure => have := HJ4.out; have := HJ24.out; have := HK3.out; have := HJ38.out; omega
                 case rel => exact ⟨(wrap64 (x13_3 + 1)), (by first | rfl | (simp; done) | (simp [*]; done)), H', ⟨by have := HJ4.out; have := HJ24.out; have := HK3.out; have := HJ38.out; omega⟩, ⟨pL_ HO_11.out⟩, ⟨pH_ HB.out⟩⟩
             ·
              rw [if_neg c38] at H; have c38b0 : decide (x13_3 < (l2.length : Int)) = false := decide_eq_false c38; clear c38; obtain rfl := Option.some.inj H
              go_wp2
              repeat (go_quiet (fail); try go_wp2)
              go_ret
              exact ⟨by first | rfl | (simp [errW_none, errW_some] <;> rfl) | (simp [*, errW_none, errW_some] <;> rfl), pH_ HB.out⟩
       ·
        rw [if_neg c22] at H; exact absurd H (by simp)
      ·
       rw [if_neg c21] at H; exact absurd H (by simp)
     ·
      rw [if_neg c20] at H; exact absurd H (by simp)
    ·
     rw [if_neg c19] at H; have c19b0 : (t145 == 0) = false := beq_eq_false_iff_ne.mpr c19; have c19b1 : (t145 != 0) = true := bne_iff_ne.mpr c19; have HC51 := Aside0.mk H; clear H
     go_upto_region 6 with (first | (go_at_call 11; (with_reducible refine (parity_Repair.calls _ _ l0 a1 _ _ l2 t144 t145 _ ?side1 ?side2 ?side3 ?side4 A18.out).mono ?_); (case side1 => repeat (first | exact (Kd.V_reads' HO_0.out).2.2 | (with_reducible refine Kd.C_alloc ?_ _) | (with_reducible refine Kd.C_drewN ?_ _) | (with_reducible refine Kd.C_drew ?_))); (case side2 => exact (Kd.V_reads' HO_0.out).2.1); (case side3 => repeat (first | exact (Kd.C_below HR2.out HB.out) | (with_reducible refine Kd.C_alloc ?_ _) | (with_reducible refine Kd.C_drewN ?_ _) | (with_reducible refine Kd.C_drew ?_))); (case side4 => exact HC2.out); rintro e w52 ⟨v146, rfl, ho0, hb⟩; have n0_ := Aside0.mk (Kd.V_elder' (by (with_reducible repeat (first | apply Kd.V_alloc | apply Kd.V_drewN | apply Kd.V_drew)); exact HO_0.out) (Kd.Q_base ho0) hb); have n1_ := Aside0.mk (Kd.Q_lower (Kd.Q_newM (M := fun k_ => (w.heap.size ≤ k_)) ho0 (below_size (pH_ HB.out)) (fun k_ h_ => h_)) (below_size (pH_ HB.out))); have n2_ := Aside0.mk (below_step (pH_ HB.out) hb); clear HO_0; clear HB; have HO_0 := n0_; have HO147 := n1_; have HB := n2_; clear n0_ n1_ n2_; (try clear hb); (try clear ho0)))
     repeat (go_quiet (first | (go_at_call 11; (with_reducible refine (parity_Repair.calls _ _ l0 a1 _ _ l2 t144 t145 _ ?side1 ?side2 ?side3 ?side4 A18.out).mono ?_); (case side1 => repeat (first | exact (Kd.V_reads' HO_0.out).2.2 | (with_reducible refine Kd.C_alloc ?_ _) | (with_reducible refine Kd.C_drewN ?_ _) | (with_reducible refine Kd.C_drew ?_))); (case side2 => exact (Kd.V_reads' HO_0.out).2.1); (case side3 => repeat (first | exact (Kd.C_below HR2.out HB.out) | (with_reducible refine Kd.C_alloc ?_ _) | (with_reducible refine Kd.C_drewN ?_ _) | (with_reducible refine Kd.C_drew ?_))); (case side4 => exact HC2.out); rintro e w52 ⟨v146, rfl, ho0, hb⟩; have n0_ := Aside0.mk (Kd.V_elder' (by (with_reducible repeat (first | apply Kd.V_alloc | apply Kd.V_drewN | apply Kd.V_drew)); exact HO_0.out) (Kd.Q_base ho0) hb); have n1_ := Aside0.mk (Kd.Q_lower (Kd.Q_newM (M := fun k_ => (w.heap.size ≤ k_)) ho0 (below_size (pH_ HB.out)) (fun k_ h_ => h_)) (below_size (pH_ HB.out))); have n2_ := Aside0.mk (below_step (pH_ HB.out) hb); clear HO_0; clear HB; have HO_0 := n0_; have HO147 := n1_; have HB := n2_; clear n0_ n1_ n2_; (try clear hb); (try clear ho0))); go_upto_region 6 with (first | (go_at_call 11; (with_reducible refine (parity_Repair.calls _ _ l0 a1 _ _ l2 t144 t145 _ ?side1 ?side2 ?side3 ?side4 A18.out).mono ?_); (case side1 => repeat (first | exact (Kd.V_reads' HO_0.out).2.2 | (with_reducible refine Kd.C_alloc ?_ _) | (with_reducible refine Kd.C_drewN ?_ _) | (with_reducible refine Kd.C_drew ?_))); (case side2 => exact (Kd.V_reads' HO_0.out).2.1); (case side3 => repeat (first | exact (Kd.C_below HR2.out HB.out) | (with_reducible refine Kd.C_alloc ?_ _) | (with_reducible refine Kd.C_drewN ?_ _) | (with_reducible refine Kd.C_drew ?_))); (case side4 => exact HC2.out); rintro e w52 ⟨v146, rfl, ho0, hb⟩; have n0_ := Aside0.mk (Kd.V_elder' (by (with_reducible repeat (first | apply Kd.V_alloc | apply Kd.V_drewN | apply Kd.V_drew)); exact HO_0.out) (Kd.Q_base ho0) hb); have n1_ := Aside0.mk (Kd.Q_lower (Kd.Q_newM (M := fun k_ => (w.heap.size ≤ k_)) ho0 (below_size (pH_ HB.out)) (fun k_ h_ => h_)) (below_size (pH_ HB.out))); have n2_ := Aside0.mk (below_step (pH_ HB.out) hb); clear HO_0; clear HB; have HO_0 := n0_; have HO147 := n1_; have HB := n2_; clear n0_ n1_ n2_; (try clear hb); (try clear ho0))))
     (try simp only [Act.put, sA_, sZ_, sS_]); (with_reducible first | refine then_id_ ?_ | (refine wp_tail_ ?_; intro Kt_ hKt_))
     go_cut [6] (fun v6 wc => ∃ (kq : Nat) (x6_50 : Bool), v6 = .bool x6_50 ∧ Aside0 (bitloftlaw42_ParityTells.j1 kq x6_50 = some r) ∧ Aside0 (kq ≤ kj4) ∧ Aside0 (Below w.heap.size w wc))
     case first =>
      have H := HC51.out; clear HC51
      by_cases c53 : t142 = true
      ·
       subst c53
       have H1 : (if t145 = 12 then (bitloftlaw42_ParityTells.j1 kj4 ((t144.length : Int) == 0)) else (bitloftlaw42_ParityTells.j1 kj4 false)) = some r := by rw [if_pos rfl] at H; exact H
       clear H; have H := H1; clear H1
       by_cases c54 : t145 = 12
       ·
        rw [if_pos c54] at H; have c54b0 : (t145 == 12) = true := beq_iff_eq.mpr c54; have c54b1 : (t145 != 12) = false := bne_eq_false_iff_eq.mpr c54; clear c54; (first | rw [c54b0] | (simp only [i64_w, i32_w]; rw [c54b0]) | skip); have H' := Aside0.mk H; clear H; obtain ⟨Ao55, co55, eo55, _⟩ := Kd.Q_slice HO147.out
        subst eo55
        go_wp2
        repeat (go_quiet (fail); try go_wp2)
        (first | go_meet | (refine Met.intro ?_; go_step; (repeat apply Exists.intro); refine ⟨?rel, ?eqf_⟩; case eqf_ => ((simp only [c54b0, c19b0]) <;> rfl)))
        case rel => exact ⟨_, (((t144.length : Int) == 0)), (by first | rfl | (simp; done) | (simp [*]; done)), H', ⟨by have := HJ4.out; first | omega | exact Nat.le_refl _⟩, ⟨pH_ HB.out⟩⟩
       ·
        rw [if_neg c54] at H; have c54b0 : (t145 == 12) = false := beq_eq_false_iff_ne.mpr c54; have c54b1 : (t145 != 12) = true := bne_iff_ne.mpr c54; (first | rw [c54b0] | (simp only [i64_w, i32_w]; rw [c54b0]) | skip); exact absurd (H.trans (congrArg some HRT_.out)) (by first | (simp; done) | (generalize kj4 = k_; cases k_ <;> simp [bitloftlaw42_ParityTells.j0, bitloftlaw42_ParityTells.j2, bitloftlaw42_ParityTells.l0, bitloftlaw42_ParityTells.j4, bitloftlaw42_ParityTells.j1]))
      ·
       replace c53 := Bool.eq_false_iff.mpr c53
       subst c53
       have H1 : (bitloftlaw42_ParityTells.j1 kj4 false) = some r := by rw [if_neg (show ¬ (false = true) by decide)] at H; exact H
       clear H; have H := H1; clear H1; exact absurd (H.trans (congrArg some HRT_.out)) (by first | (simp; done) | (generalize kj4 = k_; cases k_ <;> simp [bitloftlaw42_ParityTells.j0, bitloftlaw42_ParityTells.j2, bitloftlaw42_ParityTells.l0, bitloftlaw42_ParityTells.j4, bitloftlaw42_ParityTells.j1]))
     case rest =>
      (try (refine hKt_ _ _ ?_; clear hKt_; clear Kt_)); clear HC51
      try clear c1
      try clear p1
      try clear q1
      try clear hx1
      try clear c2
      try clear p2
      try clear q2
      try clear hx2
      try clear c3
      try clear hx3
      try clear hf3
      try clear c4
      try clear c5
      try clear p6
      try clear c8
      try clear c9
      try clear c9b0
      try clear c11
      try clear c11b0
      try clear c13
      try clear c13b0
      try clear c13b1
      try clear p15
      try clear q15
      try clear hx15
      try clear p16
      try clear q16
      try clear hx16
      try clear c17
      try clear c19
      try clear c19b0
      try clear c19b1
      try clear c20
      try clear c21
      try clear c21b0
      try clear c22
      try clear c22b0
      try clear c23
      try clear p23
      try clear q23
      try clear hx23
      try clear hf23
      try clear c30
      try clear hx30
      try clear hf30
      try clear c34
      try clear c34b0
      try clear c34b1
      try clear c35
      try clear c35b0
      try clear c35b1
      try clear c37
      try clear c38
      try clear c38b0
      try clear c40
      try clear c40b0
      try clear c41
      try clear c41b0
      try clear c42
      try clear c42b0
      try clear c42b1
      try clear c43
      try clear c43b0
      try clear c46
      try clear c46b0
      try clear c47
      try clear c47b0
      try clear c50
      try clear c53
      try clear c54
      try clear c54b0
      try clear c54b1
      try clear hx159_0
      try clear hx160_0
      try clear hx161_0
      try clear hx162_0
      try clear hx23_0
      try clear hx30_0
      try clear p1
      try clear p15
      try clear p159
      try clear p16
      try clear p160
      try clear p161
      try clear p162
      try clear p2
      try clear p23
      try clear q1
      try clear q15
      try clear q159
      try clear q16
      try clear q160
      try clear q161
      try clear q162
      try clear q2
      try clear q23
      obtain ⟨kq, x6_50, rfl, HA, HJ50, HB⟩ := hcut
      cases kq with
      | zero => exact absurd HA.out (by simp [bitloftlaw42_ParityTells.j1])
      | succ kj50 =>
       have H := HA.out; clear HA; simp only [bitloftlaw42_ParityTells.j1] at H; obtain rfl := Option.some.inj H
       go_wp2
       repeat (go_quiet (fail); try go_wp2)
       go_ret
       exact ⟨by first | rfl | (simp [errW_none, errW_some] <;> rfl) | (simp [*, errW_none, errW_some] <;> rfl), pH_ HB.out⟩

/-- The one plain statement of bitloftlaw42_ParityTells. -/
def bitloftlaw42_ParityTells.Pure : Prop := ∀ (l0 : List (List Int)) (a1 : Int) (l2 : List Int), l0.length ≤ maxLen → (∀ x_ ∈ l0, (fun l_ : List Int => l_.length ≤ maxLen ∧ ∀ x_ ∈ l_, (fun n_ : Int => (Lit.int .u8 n_).wf = true) x_) x_) → (Lit.int .i64 a1).wf = true → l2.length ≤ maxLen → l2.length * 1 ≤ 140737488351232 → (∀ x ∈ l2, (Lit.int .u8 x).wf = true) → ∃ k, bitloftlaw42_ParityTells.f k l0 a1 l2 = some true

end Go.Proofs.YtejamobohmljfaaDoor.XParityTells
