-- Laid by a program of this session (wip/mkxprint.py, over the kit's print): Lean checks it.
import Derived.Test.YtejamobohmljfaaDoorXParityRepairsx0
import Derived.Test.YtejamobohmljfaaDoorXParityRepairsx1
import Derived.Test.YtejamobohmljfaaDoorXParityRepairsx2
import Derived.Test.YtejamobohmljfaaDoorXParityRepairsx3
namespace Go.Proofs.YtejamobohmljfaaDoor.XParityRepairs
open List (setIfInBounds_toArray set_cons_zero set_cons_succ)
open Go.RowKit Go.Proofs.YtejamobohmljfaaDoorW.PrintWords Go.Proofs.YtejamobohmljfaaDoorW.PrintLast Go.Proofs.YtejamobohmljfaaDoorW.PrintMore
attribute [local go_sem] max2_int min2_int max_two min_two max_three min_three max_four min_four   -- for this text's walks alone
set_option linter.unusedVariables false
set_option linter.unusedSimpArgs false

/-! ### bitloftlaw42_ParityRepairs: function 3 -/
mutual
def bitloftlaw42_ParityRepairs.j0 : Nat → List (List Int) → Int → List Int → Bool → Bool → Option (Bool)
 | 0, _, _, _, _, _ => none
 | k + 1, x0, x1, x2, x7, x41 => if x41 = true then (some x7) else ((parity_Of.f x0).bind fun bt144 => ((some (([] : List (List Int)) : List (List Int))).bind fun y148 => (if y148.length + x0.length < 5864062014805 then ((some (y148 ++ x0 : List (List Int))).bind fun y151 => (if 0 ≤ x1 then (if x1 < (y151.length : Int) then ((parity_Repair.f (y151.set (x1 : Int).toNat x2) x1 bt144.1).bind fun bt155 => (bitloftlaw42_ParityRepairs.l0 k x0 x1 x7 bt144.1 bt144.2 bt155.1 bt155.2 ([] : List (List Int)) (wrap64 ((x0.length : Int) - 1)))) else (none)) else (none))) else (none))))
def bitloftlaw42_ParityRepairs.l0 : Nat → List (List Int) → Int → Bool → List Int → Int → List Int → Int → List (List Int) → Int → Option (Bool)
 | 0, _, _, _, _, _, _, _, _, _ => none
 | k + 1, x0, x1, x7, x8, x9, x11, x12, x13, x14 => if x14 ≥ 0 then (if 0 ≤ x14 then (if x14 < (x0.length : Int) then (if x13.length < 5864062014805 then (bitloftlaw42_ParityRepairs.l0 k x0 x1 x7 x8 x9 x11 x12 (x13 ++ [rd_L1 x0 x14]) (wrap64 (x14 - 1))) else (none)) else (none)) else (none)) else ((parity_Of.f x13).bind fun bt163 => (if 0 ≤ x1 then (if x1 ≤ (wrap64 (x1 + 1)) then (if (wrap64 (x1 + 1)) ≤ (x0.length : Int) then ((parity_Of.f ((x0.take ((wrap64 (x1 + 1)) : Int).toNat).drop (x1 : Int).toNat)).bind fun bt172 => (if x9 = 0 then (if x12 = 0 then (if x1 < (x0.length : Int) then (if (strOfNums x11).toList = (strOfNums (rd_L1 x0 x1)).toList then (if bt163.2 = 0 then (if (strOfNums x8).toList = (strOfNums bt163.1).toList then (if bt172.2 = 0 then (bitloftlaw42_ParityRepairs.j2 k x0 x1 x7 bt172.1 ((bt172.1.length : Int) != (wrap64 (((rd_L1 x0 x1).length : Int) + 2)))) else (bitloftlaw42_ParityRepairs.j2 k x0 x1 x7 bt172.1 true)) else (bitloftlaw42_ParityRepairs.j2 k x0 x1 x7 bt172.1 true)) else (bitloftlaw42_ParityRepairs.j2 k x0 x1 x7 bt172.1 true)) else (bitloftlaw42_ParityRepairs.j2 k x0 x1 x7 bt172.1 true)) else (none)) else (bitloftlaw42_ParityRepairs.j2 k x0 x1 x7 bt172.1 true)) else (bitloftlaw42_ParityRepairs.j2 k x0 x1 x7 bt172.1 true))) else (none)) else (none)) else (none)))
def bitloftlaw42_ParityRepairs.j2 : Nat → List (List Int) → Int → Bool → List Int → Bool → Option (Bool)
 | 0, _, _, _, _, _ => none
 | k + 1, x0, x1, x7, x17, x131 => if x131 = true then (some false) else (if x7 = true then (if 2 ≤ (x17.length : Int) then (if 0 ≤ x1 then (if x1 < (x0.length : Int) then (if (strOfNums (x17.drop 2)).toList = (strOfNums (rd_L1 x0 x1)).toList then (if 0 < (x17.length : Int) then (if 1 < (x17.length : Int) then (bitloftlaw42_ParityRepairs.j3 k ((wrap64 ((wrap64 (256 * (wrap64 (rd x17 0)))) + (wrap64 (rd x17 1)))) == ((rd_L1 x0 x1).length : Int))) else (none)) else (none)) else (bitloftlaw42_ParityRepairs.j3 k false)) else (none)) else (none)) else (none)) else (bitloftlaw42_ParityRepairs.j3 k false))
def bitloftlaw42_ParityRepairs.j3 : Nat → Bool → Option (Bool)
 | 0, _ => none
 | k + 1, x6 => some x6
end
def bitloftlaw42_ParityRepairs.f (k : Nat) (l0 : List (List Int)) (a1 : Int) (l2 : List Int) : Option (Bool) := (bitloftlaw42_alive.f).bind fun t142 => ((bitloftlaw42_fit.f k l0).bind fun t143 => (if t143 = true then (if a1 < 0 then (bitloftlaw42_ParityRepairs.j0 k l0 a1 l2 t142 true) else (if a1 ≥ (l0.length : Int) then (bitloftlaw42_ParityRepairs.j0 k l0 a1 l2 t142 true) else (if (l2.length : Int) > 600 then (bitloftlaw42_ParityRepairs.j0 k l0 a1 l2 t142 true) else (bitloftlaw42_ParityRepairs.j0 k l0 a1 l2 t142 (!t142))))) else (bitloftlaw42_ParityRepairs.j0 k l0 a1 l2 t142 true)))
theorem bitloftlaw42_ParityRepairs.mono_l : ∀ k, (∀ y0 y1 y2 y3 y4, LeO (bitloftlaw42_ParityRepairs.j0 k y0 y1 y2 y3 y4) (bitloftlaw42_ParityRepairs.j0 (k + 1) y0 y1 y2 y3 y4)) ∧ (∀ y0 y1 y2 y3 y4 y5 y6 y7 y8, LeO (bitloftlaw42_ParityRepairs.l0 k y0 y1 y2 y3 y4 y5 y6 y7 y8) (bitloftlaw42_ParityRepairs.l0 (k + 1) y0 y1 y2 y3 y4 y5 y6 y7 y8)) ∧ (∀ y0 y1 y2 y3 y4, LeO (bitloftlaw42_ParityRepairs.j2 k y0 y1 y2 y3 y4) (bitloftlaw42_ParityRepairs.j2 (k + 1) y0 y1 y2 y3 y4)) ∧ (∀ y0, LeO (bitloftlaw42_ParityRepairs.j3 k y0) (bitloftlaw42_ParityRepairs.j3 (k + 1) y0))
 | 0 => ⟨fun _ _ _ _ _ r h => by simp [bitloftlaw42_ParityRepairs.j0] at h, fun _ _ _ _ _ _ _ _ _ r h => by simp [bitloftlaw42_ParityRepairs.l0] at h, fun _ _ _ _ _ r h => by simp [bitloftlaw42_ParityRepairs.j2] at h, fun _ r h => by simp [bitloftlaw42_ParityRepairs.j3] at h⟩
 | k + 1 => by
  obtain ⟨ih0, ih1, ih2, ih3⟩ := bitloftlaw42_ParityRepairs.mono_l k; refine ⟨?_, ?_, ?_, ?_⟩
  ·
   intro y0 y1 y2 y3 y4
   unfold bitloftlaw42_ParityRepairs.j0
   repeat' first
   | (with_reducible exact ih0 _ _ _ _ _)
   | (with_reducible exact ih1 _ _ _ _ _ _ _ _ _)
   | (with_reducible exact ih2 _ _ _ _ _)
   | (with_reducible exact ih3 _)
   | (with_reducible exact bitloftlaw42_fit.mono _ _)
   | (with_reducible exact LeO.refl _)
   | (with_reducible exact LeO.none _)
   | (with_reducible refine LeO.ite ?_ ?_)
   | (with_reducible refine LeO.bind ?_ (fun _ => ?_))
   | exact ih0 _ _ _ _ _
   | exact ih1 _ _ _ _ _ _ _ _ _
   | exact ih2 _ _ _ _ _
   | exact ih3 _
   | exact bitloftlaw42_fit.mono _ _
   | exact LeO.none _
   | refine LeO.ite ?_ ?_
   | refine LeO.bind ?_ (fun _ => ?_)
  ·
   intro y0 y1 y2 y3 y4 y5 y6 y7 y8
   unfold bitloftlaw42_ParityRepairs.l0
   repeat' first
   | (with_reducible exact ih0 _ _ _ _ _)
   | (with_reducible exact ih1 _ _ _ _ _ _ _ _ _)
   | (with_reducible exact ih2 _ _ _ _ _)
   | (with_reducible exact ih3 _)
   | (with_reducible exact bitloftlaw42_fit.mono _ _)
   | (with_reducible exact LeO.refl _)
   | (with_reducible exact LeO.none _)
   | (with_reducible refine LeO.ite ?_ ?_)
   | (with_reducible refine LeO.bind ?_ (fun _ => ?_))
   | exact ih0 _ _ _ _ _
   | exact ih1 _ _ _ _ _ _ _ _ _
   | exact ih2 _ _ _ _ _
   | exact ih3 _
   | exact bitloftlaw42_fit.mono _ _
   | exact LeO.none _
   | refine LeO.ite ?_ ?_
   | refine LeO.bind ?_ (fun _ => ?_)
  ·
   intro y0 y1 y2 y3 y4
   unfold bitloftlaw42_ParityRepairs.j2
   repeat' first
   | (with_reducible exact ih0 _ _ _ _ _)
   | (with_reducible exact ih1 _ _ _ _ _ _ _ _ _)
   | (with_reducible exact ih2 _ _ _ _ _)
   | (with_reducible exact ih3 _)
   | (with_reducible exact bitloftlaw42_fit.mono _ _)
   | (with_reducible exact LeO.refl _)
   | (with_reducible exact LeO.none _)
   | (with_reducible refine LeO.ite ?_ ?_)
   | (with_reducible refine LeO.bind ?_ (fun _ => ?_))
   | exact ih0 _ _ _ _ _
   | exact ih1 _ _ _ _ _ _ _ _ _
   | exact ih2 _ _ _ _ _
   | exact ih3 _
   | exact bitloftlaw42_fit.mono _ _
   | exact LeO.none _
   | refine LeO.ite ?_ ?_
   | refine LeO.bind ?_ (fun _ => ?_)
  ·
   intro y0
   unfold bitloftlaw42_ParityRepairs.j3
   repeat' first
   | (with_reducible exact ih0 _ _ _ _ _)
   | (with_reducible exact ih1 _ _ _ _ _ _ _ _ _)
   | (with_reducible exact ih2 _ _ _ _ _)
   | (with_reducible exact ih3 _)
   | (with_reducible exact bitloftlaw42_fit.mono _ _)
   | (with_reducible exact LeO.refl _)
   | (with_reducible exact LeO.none _)
   | (with_reducible refine LeO.ite ?_ ?_)
   | (with_reducible refine LeO.bind ?_ (fun _ => ?_))
   | exact ih0 _ _ _ _ _
   | exact ih1 _ _ _ _ _ _ _ _ _
   | exact ih2 _ _ _ _ _
   | exact ih3 _
   | exact bitloftlaw42_fit.mono _ _
   | exact LeO.none _
   | refine LeO.ite ?_ ?_
   | refine LeO.bind ?_ (fun _ => ?_)
theorem bitloftlaw42_ParityRepairs.mono : ∀ a0 a1 a2 k, LeO (bitloftlaw42_ParityRepairs.f k a0 a1 a2) (bitloftlaw42_ParityRepairs.f (k + 1) a0 a1 a2) := by
 intro a0 a1 a2 k; obtain ⟨ih0, ih1, ih2, ih3⟩ := bitloftlaw42_ParityRepairs.mono_l k
 unfold bitloftlaw42_ParityRepairs.f
 repeat' first
   | (with_reducible exact ih0 _ _ _ _ _)
   | (with_reducible exact ih1 _ _ _ _ _ _ _ _ _)
   | (with_reducible exact ih2 _ _ _ _ _)
   | (with_reducible exact ih3 _)
   | (with_reducible exact bitloftlaw42_fit.mono _ _)
   | (with_reducible exact LeO.refl _)
   | (with_reducible exact LeO.none _)
   | (with_reducible refine LeO.ite ?_ ?_)
   | (with_reducible refine LeO.bind ?_ (fun _ => ?_))
   | exact ih0 _ _ _ _ _
   | exact ih1 _ _ _ _ _ _ _ _ _
   | exact ih2 _ _ _ _ _
   | exact ih3 _
   | exact bitloftlaw42_fit.mono _ _
   | exact LeO.none _
   | refine LeO.ite ?_ ?_
   | refine LeO.bind ?_ (fun _ => ?_)
set_option maxHeartbeats 8000000 in
set_option maxRecDepth 100000 in
theorem bitloftlaw42_ParityRepairs.calls (k : Nat) (P0_ : Nat → Prop) (A0 : Option Addr) (c0 : Nat) (l0 : List (List Int)) (a1 : Int) (P2_ : Nat → Prop) (A2 : Option Addr) (c2 : Nat) (l2 : List Int) (r : Bool) (w : World) (hs0 : Kd.V (Kd.slice 5 (Kd.int .u8)) 23 w w.heap.size (fun k_ => P0_ k_) (.slice A0 l0.length c0) l0) (hs2 : Kd.V (Kd.int .u8) 5 w w.heap.size (fun k_ => P2_ k_) (.slice A2 l2.length c2) l2) (hr_ : r = true) (h : bitloftlaw42_ParityRepairs.f k l0 a1 l2 = some r) :
  Calls Tryd.prog 3 #[.slice A0 l0.length c0, .int .i64 a1, .slice A2 l2.length c2] w fun e w' => e = .returned (.bool r) ∧ Below w.heap.size w w' := by
 have HRT_ := Aside0.mk hr_; clear hr_; have HO0 := Aside0.mk (show Kd.V (Kd.slice 5 (Kd.int .u8)) 23 w w.heap.size (fun k_ => ((P0_ k_ ∨ P2_ k_) ∨ w.heap.size ≤ k_)) (.slice A0 l0.length c0) l0 from Kd.V_mono hs0 (fun k_ hk => .inl (.inl hk))); have HO2 := Aside0.mk (show Kd.V (Kd.int .u8) 5 w w.heap.size (fun k_ => ((P0_ k_ ∨ P2_ k_) ∨ w.heap.size ≤ k_)) (.slice A2 l2.length c2) l2 from Kd.V_mono hs2 (fun k_ hk => .inl (.inr hk))); have HB := Aside0.mk (Below.refl w.heap.size w); have H : ((bitloftlaw42_alive.f).bind fun t142 => ((bitloftlaw42_fit.f k l0).bind fun t143 => (if t143 = true then (if a1 < 0 then (bitloftlaw42_ParityRepairs.j0 k l0 a1 l2 t142 true) else (if a1 ≥ (l0.length : Int) then (bitloftlaw42_ParityRepairs.j0 k l0 a1 l2 t142 true) else (if (l2.length : Int) > 600 then (bitloftlaw42_ParityRepairs.j0 k l0 a1 l2 t142 true) else (bitloftlaw42_ParityRepairs.j0 k l0 a1 l2 t142 (!t142))))) else (bitloftlaw42_ParityRepairs.j0 k l0 a1 l2 t142 true)))) = some r := h; clear h; replace H := Option.bind_eq_some_iff.mp H; obtain ⟨t142, A40, H⟩ := H; replace H : ((bitloftlaw42_fit.f k l0).bind fun t143 => (if t143 = true then (if a1 < 0 then (bitloftlaw42_ParityRepairs.j0 k l0 a1 l2 t142 true) else (if a1 ≥ (l0.length : Int) then (bitloftlaw42_ParityRepairs.j0 k l0 a1 l2 t142 true) else (if (l2.length : Int) > 600 then (bitloftlaw42_ParityRepairs.j0 k l0 a1 l2 t142 true) else (bitloftlaw42_ParityRepairs.j0 k l0 a1 l2 t142 (!t142))))) else (bitloftlaw42_ParityRepairs.j0 k l0 a1 l2 t142 true))) = some r := H; have A4 := Aside0.mk A40; clear A40; have HC5 := Aside0.mk H; clear H
 go_enter Tryd.func3, Tryd.ntmps3
 go_upto_region 2 with (first | (go_at_call 8; (with_reducible refine (bitloftlaw42_alive.calls  t142 _ A4.out).mono ?_); rintro e w6 ⟨rfl, hb⟩; have n0_ := Aside0.mk (Kd.V_below (by (with_reducible repeat (first | apply Kd.V_alloc | apply Kd.V_drewN | apply Kd.V_drew)); exact HO0.out) hb); have n1_ := Aside0.mk (Kd.V_below (by (with_reducible repeat (first | apply Kd.V_alloc | apply Kd.V_drewN | apply Kd.V_drew)); exact HO2.out) hb); have n2_ := Aside0.mk (below_step (pH_ HB.out) hb); clear HO0; clear HO2; clear HB; have HO0 := n0_; have HO2 := n1_; have HB := n2_; clear n0_ n1_ n2_; (try clear hb)))
 repeat (go_quiet (first | (go_at_call 8; (with_reducible refine (bitloftlaw42_alive.calls  t142 _ A4.out).mono ?_); rintro e w6 ⟨rfl, hb⟩; have n0_ := Aside0.mk (Kd.V_below (by (with_reducible repeat (first | apply Kd.V_alloc | apply Kd.V_drewN | apply Kd.V_drew)); exact HO0.out) hb); have n1_ := Aside0.mk (Kd.V_below (by (with_reducible repeat (first | apply Kd.V_alloc | apply Kd.V_drewN | apply Kd.V_drew)); exact HO2.out) hb); have n2_ := Aside0.mk (below_step (pH_ HB.out) hb); clear HO0; clear HO2; clear HB; have HO0 := n0_; have HO2 := n1_; have HB := n2_; clear n0_ n1_ n2_; (try clear hb))); go_upto_region 2 with (first | (go_at_call 8; (with_reducible refine (bitloftlaw42_alive.calls  t142 _ A4.out).mono ?_); rintro e w6 ⟨rfl, hb⟩; have n0_ := Aside0.mk (Kd.V_below (by (with_reducible repeat (first | apply Kd.V_alloc | apply Kd.V_drewN | apply Kd.V_drew)); exact HO0.out) hb); have n1_ := Aside0.mk (Kd.V_below (by (with_reducible repeat (first | apply Kd.V_alloc | apply Kd.V_drewN | apply Kd.V_drew)); exact HO2.out) hb); have n2_ := Aside0.mk (below_step (pH_ HB.out) hb); clear HO0; clear HO2; clear HB; have HO0 := n0_; have HO2 := n1_; have HB := n2_; clear n0_ n1_ n2_; (try clear hb))))
 (try simp only [Act.put, sA_, sZ_, sS_]); (with_reducible first | refine then_id_ ?_ | (refine wp_tail_ ?_; intro Kt_ hKt_))
 go_cut [41] (fun v41 wc => ∃ (kq : Nat) (x41_4 : Bool), v41 = .bool x41_4 ∧ Aside0 (bitloftlaw42_ParityRepairs.j0 kq l0 a1 l2 t142 x41_4 = some r) ∧ Aside0 (kq ≤ k) ∧ Aside0 (Kd.V (Kd.slice 5 (Kd.int .u8)) 23 wc w.heap.size (fun k_ => ((P0_ k_ ∨ P2_ k_) ∨ w.heap.size ≤ k_)) (.slice A0 l0.length c0) l0) ∧ Aside0 (Kd.V (Kd.int .u8) 5 wc w.heap.size (fun k_ => ((P0_ k_ ∨ P2_ k_) ∨ w.heap.size ≤ k_)) (.slice A2 l2.length c2) l2) ∧ Aside0 (Below w.heap.size w wc))
 case first =>
  have H := HC5.out; clear HC5; replace H := Option.bind_eq_some_iff.mp H; obtain ⟨t143, A70, H⟩ := H; replace H : (if t143 = true then (if a1 < 0 then (bitloftlaw42_ParityRepairs.j0 k l0 a1 l2 t142 true) else (if a1 ≥ (l0.length : Int) then (bitloftlaw42_ParityRepairs.j0 k l0 a1 l2 t142 true) else (if (l2.length : Int) > 600 then (bitloftlaw42_ParityRepairs.j0 k l0 a1 l2 t142 true) else (bitloftlaw42_ParityRepairs.j0 k l0 a1 l2 t142 (!t142))))) else (bitloftlaw42_ParityRepairs.j0 k l0 a1 l2 t142 true)) = some r := H; have A7 := Aside0.mk A70; clear A70
  by_cases c8 : t143 = true
  ·
   subst c8
   have H1 : (if a1 < 0 then (bitloftlaw42_ParityRepairs.j0 k l0 a1 l2 t142 true) else (if a1 ≥ (l0.length : Int) then (bitloftlaw42_ParityRepairs.j0 k l0 a1 l2 t142 true) else (if (l2.length : Int) > 600 then (bitloftlaw42_ParityRepairs.j0 k l0 a1 l2 t142 true) else (bitloftlaw42_ParityRepairs.j0 k l0 a1 l2 t142 (!t142))))) = some r := by rw [if_pos rfl] at H; exact H
   clear H; have H := H1; clear H1
   by_cases c9 : a1 < 0
   ·
    rw [if_pos c9] at H; have c9b0 : decide (a1 < 0) = true := decide_eq_true c9; clear c9; (first | rw [c9b0] | (simp only [i64_w, i32_w]; rw [c9b0]) | skip); have H' := Aside0.mk H; clear H
    go_wp2_with (first | (go_at_call 9; (with_reducible refine (bitloftlaw42_fit.calls k _ _ l0 true _ ?side1 ?side2 A7.out).mono ?_); (case side1 => repeat (first | exact (Kd.V_reads' HO0.out).2.2 | (with_reducible refine Kd.C_alloc ?_ _) | (with_reducible refine Kd.C_drewN ?_ _) | (with_reducible refine Kd.C_drew ?_))); (case side2 => exact (Kd.V_reads' HO0.out).2.1); rintro e w10 ⟨rfl, hb⟩; have n0_ := Aside0.mk (Kd.V_below (by (with_reducible repeat (first | apply Kd.V_alloc | apply Kd.V_drewN | apply Kd.V_drew)); exact HO0.out) hb); have n1_ := Aside0.mk (Kd.V_below (by (with_reducible repeat (first | apply Kd.V_alloc | apply Kd.V_drewN | apply Kd.V_drew)); exact HO2.out) hb); have n2_ := Aside0.mk (below_step (pH_ HB.out) hb); clear HO0; clear HO2; clear HB; have HO0 := n0_; have HO2 := n1_; have HB := n2_; clear n0_ n1_ n2_; (try clear hb)))
    repeat (go_quiet (first | (go_at_call 9; (with_reducible refine (bitloftlaw42_fit.calls k _ _ l0 true _ ?side1 ?side2 A7.out).mono ?_); (case side1 => repeat (first | exact (Kd.V_reads' HO0.out).2.2 | (with_reducible refine Kd.C_alloc ?_ _) | (with_reducible refine Kd.C_drewN ?_ _) | (with_reducible refine Kd.C_drew ?_))); (case side2 => exact (Kd.V_reads' HO0.out).2.1); rintro e w10 ⟨rfl, hb⟩; have n0_ := Aside0.mk (Kd.V_below (by (with_reducible repeat (first | apply Kd.V_alloc | apply Kd.V_drewN | apply Kd.V_drew)); exact HO0.out) hb); have n1_ := Aside0.mk (Kd.V_below (by (with_reducible repeat (first | apply Kd.V_alloc | apply Kd.V_drewN | apply Kd.V_drew)); exact HO2.out) hb); have n2_ := Aside0.mk (below_step (pH_ HB.out) hb); clear HO0; clear HO2; clear HB; have HO0 := n0_; have HO2 := n1_; have HB := n2_; clear n0_ n1_ n2_; (try clear hb))); try go_wp2_with (first | (go_at_call 9; (with_reducible refine (bitloftlaw42_fit.calls k _ _ l0 true _ ?side1 ?side2 A7.out).mono ?_); (case side1 => repeat (first | exact (Kd.V_reads' HO0.out).2.2 | (with_reducible refine Kd.C_alloc ?_ _) | (with_reducible refine Kd.C_drewN ?_ _) | (with_reducible refine Kd.C_drew ?_))); (case side2 => exact (Kd.V_reads' HO0.out).2.1); rintro e w10 ⟨rfl, hb⟩; have n0_ := Aside0.mk (Kd.V_below (by (with_reducible repeat (first | apply Kd.V_alloc | apply Kd.V_drewN | apply Kd.V_drew)); exact HO0.out) hb); have n1_ := Aside0.mk (Kd.V_below (by (with_reducible repeat (first | apply Kd.V_alloc | apply Kd.V_drewN | apply Kd.V_drew)); exact HO2.out) hb); have n2_ := Aside0.mk (below_step (pH_ HB.out) hb); clear HO0; clear HO2; clear HB; have HO0 := n0_; have HO2 := n1_; have HB := n2_; clear n0_ n1_ n2_; (try clear hb))))
    (first | go_meet | (refine Met.intro ?_; go_step; (repeat apply Exists.intro); refine ⟨?rel, ?eqf_⟩; case eqf_ => ((simp only [c9b0]) <;> rfl)))
    case rel => exact ⟨_, (true), (by first | rfl | (simp; done) | (simp [*]; done)), H', ⟨by first | omega | exact Nat.le_refl _⟩, ⟨by (with_reducible repeat (first | apply Kd.V_alloc | apply Kd.V_drewN | apply Kd.V_drew)); exact HO0.out⟩, ⟨by (with_reducible repeat (first | apply Kd.V_alloc | apply Kd.V_drewN | apply Kd.V_drew)); exact HO2.out⟩, ⟨pH_ HB.out⟩⟩
   ·
    rw [if_neg c9] at H; have c9b0 : decide (a1 < 0) = false := decide_eq_false c9; clear c9; (first | rw [c9b0] | (simp only [i64_w, i32_w]; rw [c9b0]) | skip)
    by_cases c11 : a1 ≥ (l0.length : Int)
    ·
     rw [if_pos c11] at H; have c11b0 : decide ((l0.length : Int) ≤ a1) = true := decide_eq_true c11; clear c11; have H' := Aside0.mk H; clear H
     go_wp2_with (first | (go_at_call 9; (with_reducible refine (bitloftlaw42_fit.calls k _ _ l0 true _ ?side1 ?side2 A7.out).mono ?_); (case side1 => repeat (first | exact (Kd.V_reads' HO0.out).2.2 | (with_reducible refine Kd.C_alloc ?_ _) | (with_reducible refine Kd.C_drewN ?_ _) | (with_reducible refine Kd.C_drew ?_))); (case side2 => exact (Kd.V_reads' HO0.out).2.1); rintro e w12 ⟨rfl, hb⟩; have n0_ := Aside0.mk (Kd.V_below (by (with_reducible repeat (first | apply Kd.V_alloc | apply Kd.V_drewN | apply Kd.V_drew)); exact HO0.out) hb); have n1_ := Aside0.mk (Kd.V_below (by (with_reducible repeat (first | apply Kd.V_alloc | apply Kd.V_drewN | apply Kd.V_drew)); exact HO2.out) hb); have n2_ := Aside0.mk (below_step (pH_ HB.out) hb); clear HO0; clear HO2; clear HB; have HO0 := n0_; have HO2 := n1_; have HB := n2_; clear n0_ n1_ n2_; (try clear hb)))
     repeat (go_quiet (first | (go_at_call 9; (with_reducible refine (bitloftlaw42_fit.calls k _ _ l0 true _ ?side1 ?side2 A7.out).mono ?_); (case side1 => repeat (first | exact (Kd.V_reads' HO0.out).2.2 | (with_reducible refine Kd.C_alloc ?_ _) | (with_reducible refine Kd.C_drewN ?_ _) | (with_reducible refine Kd.C_drew ?_))); (case side2 => exact (Kd.V_reads' HO0.out).2.1); rintro e w12 ⟨rfl, hb⟩; have n0_ := Aside0.mk (Kd.V_below (by (with_reducible repeat (first | apply Kd.V_alloc | apply Kd.V_drewN | apply Kd.V_drew)); exact HO0.out) hb); have n1_ := Aside0.mk (Kd.V_below (by (with_reducible repeat (first | apply Kd.V_alloc | apply Kd.V_drewN | apply Kd.V_drew)); exact HO2.out) hb); have n2_ := Aside0.mk (below_step (pH_ HB.out) hb); clear HO0; clear HO2; clear HB; have HO0 := n0_; have HO2 := n1_; have HB := n2_; clear n0_ n1_ n2_; (try clear hb))); try go_wp2_with (first | (go_at_call 9; (with_reducible refine (bitloftlaw42_fit.calls k _ _ l0 true _ ?side1 ?side2 A7.out).mono ?_); (case side1 => repeat (first | exact (Kd.V_reads' HO0.out).2.2 | (with_reducible refine Kd.C_alloc ?_ _) | (with_reducible refine Kd.C_drewN ?_ _) | (with_reducible refine Kd.C_drew ?_))); (case side2 => exact (Kd.V_reads' HO0.out).2.1); rintro e w12 ⟨rfl, hb⟩; have n0_ := Aside0.mk (Kd.V_below (by (with_reducible repeat (first | apply Kd.V_alloc | apply Kd.V_drewN | apply Kd.V_drew)); exact HO0.out) hb); have n1_ := Aside0.mk (Kd.V_below (by (with_reducible repeat (first | apply Kd.V_alloc | apply Kd.V_drewN | apply Kd.V_drew)); exact HO2.out) hb); have n2_ := Aside0.mk (below_step (pH_ HB.out) hb); clear HO0; clear HO2; clear HB; have HO0 := n0_; have HO2 := n1_; have HB := n2_; clear n0_ n1_ n2_; (try clear hb))))
     (first | go_meet | (refine Met.intro ?_; go_step; (repeat apply Exists.intro); refine ⟨?rel, ?eqf_⟩; case eqf_ => ((simp only [c11b0, c9b0]) <;> rfl)))
     case rel => exact ⟨_, (true), (by first | rfl | (simp; done) | (simp [*]; done)), H', ⟨by first | omega | exact Nat.le_refl _⟩, ⟨by (with_reducible repeat (first | apply Kd.V_alloc | apply Kd.V_drewN | apply Kd.V_drew)); exact HO0.out⟩, ⟨by (with_reducible repeat (first | apply Kd.V_alloc | apply Kd.V_drewN | apply Kd.V_drew)); exact HO2.out⟩, ⟨pH_ HB.out⟩⟩
    ·
     rw [if_neg c11] at H; have c11b0 : decide ((l0.length : Int) ≤ a1) = false := decide_eq_false c11; clear c11
     by_cases c13 : (l2.length : Int) > 600
     ·
      rw [if_pos c13] at H; have c13b0 : decide (600 < (l2.length : Int)) = true := decide_eq_true c13; have c13b1 : decide (600 < l2.length) = true := decide_eq_true (by omega); clear c13; have H' := Aside0.mk H; clear H
      go_wp2_with (first | (go_at_call 9; (with_reducible refine (bitloftlaw42_fit.calls k _ _ l0 true _ ?side1 ?side2 A7.out).mono ?_); (case side1 => repeat (first | exact (Kd.V_reads' HO0.out).2.2 | (with_reducible refine Kd.C_alloc ?_ _) | (with_reducible refine Kd.C_drewN ?_ _) | (with_reducible refine Kd.C_drew ?_))); (case side2 => exact (Kd.V_reads' HO0.out).2.1); rintro e w14 ⟨rfl, hb⟩; have n0_ := Aside0.mk (Kd.V_below (by (with_reducible repeat (first | apply Kd.V_alloc | apply Kd.V_drewN | apply Kd.V_drew)); exact HO0.out) hb); have n1_ := Aside0.mk (Kd.V_below (by (with_reducible repeat (first | apply Kd.V_alloc | apply Kd.V_drewN | apply Kd.V_drew)); exact HO2.out) hb); have n2_ := Aside0.mk (below_step (pH_ HB.out) hb); clear HO0; clear HO2; clear HB; have HO0 := n0_; have HO2 := n1_; have HB := n2_; clear n0_ n1_ n2_; (try clear hb)))
      repeat (go_quiet (first | (go_at_call 9; (with_reducible refine (bitloftlaw42_fit.calls k _ _ l0 true _ ?side1 ?side2 A7.out).mono ?_); (case side1 => repeat (first | exact (Kd.V_reads' HO0.out).2.2 | (with_reducible refine Kd.C_alloc ?_ _) | (with_reducible refine Kd.C_drewN ?_ _) | (with_reducible refine Kd.C_drew ?_))); (case side2 => exact (Kd.V_reads' HO0.out).2.1); rintro e w14 ⟨rfl, hb⟩; have n0_ := Aside0.mk (Kd.V_below (by (with_reducible repeat (first | apply Kd.V_alloc | apply Kd.V_drewN | apply Kd.V_drew)); exact HO0.out) hb); have n1_ := Aside0.mk (Kd.V_below (by (with_reducible repeat (first | apply Kd.V_alloc | apply Kd.V_drewN | apply Kd.V_drew)); exact HO2.out) hb); have n2_ := Aside0.mk (below_step (pH_ HB.out) hb); clear HO0; clear HO2; clear HB; have HO0 := n0_; have HO2 := n1_; have HB := n2_; clear n0_ n1_ n2_; (try clear hb))); try go_wp2_with (first | (go_at_call 9; (with_reducible refine (bitloftlaw42_fit.calls k _ _ l0 true _ ?side1 ?side2 A7.out).mono ?_); (case side1 => repeat (first | exact (Kd.V_reads' HO0.out).2.2 | (with_reducible refine Kd.C_alloc ?_ _) | (with_reducible refine Kd.C_drewN ?_ _) | (with_reducible refine Kd.C_drew ?_))); (case side2 => exact (Kd.V_reads' HO0.out).2.1); rintro e w14 ⟨rfl, hb⟩; have n0_ := Aside0.mk (Kd.V_below (by (with_reducible repeat (first | apply Kd.V_alloc | apply Kd.V_drewN | apply Kd.V_drew)); exact HO0.out) hb); have n1_ := Aside0.mk (Kd.V_below (by (with_reducible repeat (first | apply Kd.V_alloc | apply Kd.V_drewN | apply Kd.V_drew)); exact HO2.out) hb); have n2_ := Aside0.mk (below_step (pH_ HB.out) hb); clear HO0; clear HO2; clear HB; have HO0 := n0_; have HO2 := n1_; have HB := n2_; clear n0_ n1_ n2_; (try clear hb))))
      (first | go_meet | (refine Met.intro ?_; go_step; (repeat apply Exists.intro); refine ⟨?rel, ?eqf_⟩; case eqf_ => ((simp only [c13b0, c11b0, c9b0]) <;> rfl)))
      case rel => exact ⟨_, (true), (by first | rfl | (simp; done) | (simp [*]; done)), H', ⟨by first | omega | exact Nat.le_refl _⟩, ⟨by (with_reducible repeat (first | apply Kd.V_alloc | apply Kd.V_drewN | apply Kd.V_drew)); exact HO0.out⟩, ⟨by (with_reducible repeat (first | apply Kd.V_alloc | apply Kd.V_drewN | apply Kd.V_drew)); exact HO2.out⟩, ⟨pH_ HB.out⟩⟩
     ·
      rw [if_neg c13] at H; have c13b0 : decide (600 < (l2.length : Int)) = false := decide_eq_false c13; have c13b1 : decide (600 < l2.length) = false := decide_eq_false (by omega); clear c13; have H' := Aside0.mk H; clear H
      go_wp2_with (first | (go_at_call 9; (with_reducible refine (bitloftlaw42_fit.calls k _ _ l0 true _ ?side1 ?side2 A7.out).mono ?_); (case side1 => repeat (first | exact (Kd.V_reads' HO0.out).2.2 | (with_reducible refine Kd.C_alloc ?_ _) | (with_reducible refine Kd.C_drewN ?_ _) | (with_reducible refine Kd.C_drew ?_))); (case side2 => exact (Kd.V_reads' HO0.out).2.1); rintro e w15 ⟨rfl, hb⟩; have n0_ := Aside0.mk (Kd.V_below (by (with_reducible repeat (first | apply Kd.V_alloc | apply Kd.V_drewN | apply Kd.V_drew)); exact HO0.out) hb); have n1_ := Aside0.mk (Kd.V_below (by (with_reducible repeat (first | apply Kd.V_alloc | apply Kd.V_drewN | apply Kd.V_drew)); exact HO2.out) hb); have n2_ := Aside0.mk (below_step (pH_ HB.out) hb); clear HO0; clear HO2; clear HB; have HO0 := n0_; have HO2 := n1_; have HB := n2_; clear n0_ n1_ n2_; (try clear hb)))
      repeat (go_quiet (first | (go_at_call 9; (with_reducible refine (bitloftlaw42_fit.calls k _ _ l0 true _ ?side1 ?side2 A7.out).mono ?_); (case side1 => repeat (first | exact (Kd.V_reads' HO0.out).2.2 | (with_reducible refine Kd.C_alloc ?_ _) | (with_reducible refine Kd.C_drewN ?_ _) | (with_reducible refine Kd.C_drew ?_))); (case side2 => exact (Kd.V_reads' HO0.out).2.1); rintro e w15 ⟨rfl, hb⟩; have n0_ := Aside0.mk (Kd.V_below (by (with_reducible repeat (first | apply Kd.V_alloc | apply Kd.V_drewN | apply Kd.V_drew)); exact HO0.out) hb); have n1_ := Aside0.mk (Kd.V_below (by (with_reducible repeat (first | apply Kd.V_alloc | apply Kd.V_drewN | apply Kd.V_drew)); exact HO2.out) hb); have n2_ := Aside0.mk (below_step (pH_ HB.out) hb); clear HO0; clear HO2; clear HB; have HO0 := n0_; have HO2 := n1_; have HB := n2_; clear n0_ n1_ n2_; (try clear hb))); try go_wp2_with (first | (go_at_call 9; (with_reducible refine (bitloftlaw42_fit.calls k _ _ l0 true _ ?side1 ?side2 A7.out).mono ?_); (case side1 => repeat (first | exact (Kd.V_reads' HO0.out).2.2 | (with_reducible refine Kd.C_alloc ?_ _) | (with_reducible refine Kd.C_drewN ?_ _) | (with_reducible refine Kd.C_drew ?_))); (case side2 => exact (Kd.V_reads' HO0.out).2.1); rintro e w15 ⟨rfl, hb⟩; have n0_ := Aside0.mk (Kd.V_below (by (with_reducible repeat (first | apply Kd.V_alloc | apply Kd.V_drewN | apply Kd.V_drew)); exact HO0.out) hb); have n1_ := Aside0.mk (Kd.V_below (by (with_reducible repeat (first | apply Kd.V_alloc | apply Kd.V_drewN | apply Kd.V_drew)); exact HO2.out) hb); have n2_ := Aside0.mk (below_step (pH_ HB.out) hb); clear HO0; clear HO2; clear HB; have HO0 := n0_; have HO2 := n1_; have HB := n2_; clear n0_ n1_ n2_; (try clear hb))))
      (first | go_meet | (refine Met.intro ?_; go_step; (repeat apply Exists.intro); refine ⟨?rel, ?eqf_⟩; case eqf_ => ((simp only [c13b0, c11b0, c9b0]) <;> rfl)))
      case rel => exact ⟨_, (!t142), (by first | rfl | (simp; done) | (simp [*]; done)), H', ⟨by first | omega | exact Nat.le_refl _⟩, ⟨by (with_reducible repeat (first | apply Kd.V_alloc | apply Kd.V_drewN | apply Kd.V_drew)); exact HO0.out⟩, ⟨by (with_reducible repeat (first | apply Kd.V_alloc | apply Kd.V_drewN | apply Kd.V_drew)); exact HO2.out⟩, ⟨pH_ HB.out⟩⟩
  ·
   replace c8 := Bool.eq_false_iff.mpr c8
   subst c8
   have H1 : (bitloftlaw42_ParityRepairs.j0 k l0 a1 l2 t142 true) = some r := by rw [if_neg (show ¬ (false = true) by decide)] at H; exact H
   clear H; have H := H1; clear H1; have H' := Aside0.mk H; clear H
   go_wp2_with (first | (go_at_call 9; (with_reducible refine (bitloftlaw42_fit.calls k _ _ l0 false _ ?side1 ?side2 A7.out).mono ?_); (case side1 => repeat (first | exact (Kd.V_reads' HO0.out).2.2 | (with_reducible refine Kd.C_alloc ?_ _) | (with_reducible refine Kd.C_drewN ?_ _) | (with_reducible refine Kd.C_drew ?_))); (case side2 => exact (Kd.V_reads' HO0.out).2.1); rintro e w16 ⟨rfl, hb⟩; have n0_ := Aside0.mk (Kd.V_below (by (with_reducible repeat (first | apply Kd.V_alloc | apply Kd.V_drewN | apply Kd.V_drew)); exact HO0.out) hb); have n1_ := Aside0.mk (Kd.V_below (by (with_reducible repeat (first | apply Kd.V_alloc | apply Kd.V_drewN | apply Kd.V_drew)); exact HO2.out) hb); have n2_ := Aside0.mk (below_step (pH_ HB.out) hb); clear HO0; clear HO2; clear HB; have HO0 := n0_; have HO2 := n1_; have HB := n2_; clear n0_ n1_ n2_; (try clear hb)))
   repeat (go_quiet (first | (go_at_call 9; (with_reducible refine (bitloftlaw42_fit.calls k _ _ l0 false _ ?side1 ?side2 A7.out).mono ?_); (case side1 => repeat (first | exact (Kd.V_reads' HO0.out).2.2 | (with_reducible refine Kd.C_alloc ?_ _) | (with_reducible refine Kd.C_drewN ?_ _) | (with_reducible refine Kd.C_drew ?_))); (case side2 => exact (Kd.V_reads' HO0.out).2.1); rintro e w16 ⟨rfl, hb⟩; have n0_ := Aside0.mk (Kd.V_below (by (with_reducible repeat (first | apply Kd.V_alloc | apply Kd.V_drewN | apply Kd.V_drew)); exact HO0.out) hb); have n1_ := Aside0.mk (Kd.V_below (by (with_reducible repeat (first | apply Kd.V_alloc | apply Kd.V_drewN | apply Kd.V_drew)); exact HO2.out) hb); have n2_ := Aside0.mk (below_step (pH_ HB.out) hb); clear HO0; clear HO2; clear HB; have HO0 := n0_; have HO2 := n1_; have HB := n2_; clear n0_ n1_ n2_; (try clear hb))); try go_wp2_with (first | (go_at_call 9; (with_reducible refine (bitloftlaw42_fit.calls k _ _ l0 false _ ?side1 ?side2 A7.out).mono ?_); (case side1 => repeat (first | exact (Kd.V_reads' HO0.out).2.2 | (with_reducible refine Kd.C_alloc ?_ _) | (with_reducible refine Kd.C_drewN ?_ _) | (with_reducible refine Kd.C_drew ?_))); (case side2 => exact (Kd.V_reads' HO0.out).2.1); rintro e w16 ⟨rfl, hb⟩; have n0_ := Aside0.mk (Kd.V_below (by (with_reducible repeat (first | apply Kd.V_alloc | apply Kd.V_drewN | apply Kd.V_drew)); exact HO0.out) hb); have n1_ := Aside0.mk (Kd.V_below (by (with_reducible repeat (first | apply Kd.V_alloc | apply Kd.V_drewN | apply Kd.V_drew)); exact HO2.out) hb); have n2_ := Aside0.mk (below_step (pH_ HB.out) hb); clear HO0; clear HO2; clear HB; have HO0 := n0_; have HO2 := n1_; have HB := n2_; clear n0_ n1_ n2_; (try clear hb))))
   go_meet
   case rel => exact ⟨_, (true), (by first | rfl | (simp; done) | (simp [*]; done)), H', ⟨by first | omega | exact Nat.le_refl _⟩, ⟨by (with_reducible repeat (first | apply Kd.V_alloc | apply Kd.V_drewN | apply Kd.V_drew)); exact HO0.out⟩, ⟨by (with_reducible repeat (first | apply Kd.V_alloc | apply Kd.V_drewN | apply Kd.V_drew)); exact HO2.out⟩, ⟨pH_ HB.out⟩⟩
 case rest =>
  (try (refine hKt_ _ _ ?_; clear hKt_; clear Kt_)); clear HC5
  try clear c1
  try clear c2
  try clear p2
  try clear c3
  try clear c8
  try clear c9
  try clear c9b0
  try clear c11
  try clear c11b0
  try clear c13
  try clear c13b0
  try clear c13b1
  obtain ⟨kq, x41_4, rfl, HA, HJ4, HO_0, HO_2, HB⟩ := hcut
  cases kq with
  | zero => exact absurd HA.out (by simp [bitloftlaw42_ParityRepairs.j0])
  | succ kj4 =>
   have H := HA.out; clear HA; simp only [bitloftlaw42_ParityRepairs.j0] at H
   by_cases c17 : x41_4 = true
   ·
    subst c17
    have H1 : (some t142) = some r := by rw [if_pos rfl] at H; exact H
    clear H; have H := H1; clear H1; obtain rfl := Option.some.inj H
    go_wp2
    repeat (go_quiet (fail); try go_wp2)
    go_ret
    exact ⟨by first | rfl | (simp [errW_none, errW_some] <;> rfl) | (simp [*, errW_none, errW_some] <;> rfl), pH_ HB.out⟩
   ·
    replace c17 := Bool.eq_false_iff.mpr c17
    subst c17
    have H1 : ((parity_Of.f l0).bind fun bt144 => ((some (([] : List (List Int)) : List (List Int))).bind fun y148 => (if y148.length + l0.length < 5864062014805 then ((some (y148 ++ l0 : List (List Int))).bind fun y151 => (if 0 ≤ a1 then (if a1 < (y151.length : Int) then ((parity_Repair.f (y151.set (a1 : Int).toNat l2) a1 bt144.1).bind fun bt155 => (bitloftlaw42_ParityRepairs.l0 kj4 l0 a1 t142 bt144.1 bt144.2 bt155.1 bt155.2 ([] : List (List Int)) (wrap64 ((l0.length : Int) - 1)))) else (none)) else (none))) else (none)))) = some r := by rw [if_neg (show ¬ (false = true) by decide)] at H; exact H
    clear H; have H := H1; clear H1; replace H := Option.bind_eq_some_iff.mp H; obtain ⟨⟨t144, t145⟩, A180, H⟩ := H; replace H : ((some (([] : List (List Int)) : List (List Int))).bind fun y148 => (if y148.length + l0.length < 5864062014805 then ((some (y148 ++ l0 : List (List Int))).bind fun y151 => (if 0 ≤ a1 then (if a1 < (y151.length : Int) then ((parity_Repair.f (y151.set (a1 : Int).toNat l2) a1 t144).bind fun bt155 => (bitloftlaw42_ParityRepairs.l0 kj4 l0 a1 t142 t144 t145 bt155.1 bt155.2 ([] : List (List Int)) (wrap64 ((l0.length : Int) - 1)))) else (none)) else (none))) else (none))) = some r := H; have A18 := Aside0.mk A180; clear A180; obtain ⟨y148, hy148⟩ : ∃ y_ : List (List Int), y_ = (([] : List (List Int))) := ⟨_, rfl⟩
    replace H : (if y148.length + l0.length < 5864062014805 then ((some (y148 ++ l0 : List (List Int))).bind fun y151 => (if 0 ≤ a1 then (if a1 < (y151.length : Int) then ((parity_Repair.f (y151.set (a1 : Int).toNat l2) a1 t144).bind fun bt155 => (bitloftlaw42_ParityRepairs.l0 kj4 l0 a1 t142 t144 t145 bt155.1 bt155.2 ([] : List (List Int)) (wrap64 ((l0.length : Int) - 1)))) else (none)) else (none))) else (none)) = some r := by first | (rw [hy148]; with_reducible exact H) | (have H2_ := (Option.bind_some _ _).symm.trans H; rw [hy148]; with_reducible exact H2_) | (have H2_ := (Option.bind_some _ _).symm.trans H; with_reducible exact H2_) | with_reducible exact H | (rw [hy148]; exact H) | exact H
    have Ny148 := Aside0.mk hy148; clear hy148
    by_cases c19 : y148.length + l0.length < 5864062014805
    ·
     rw [if_pos c19] at H; have LMc19 := Aside0.mk c19; clear c19; obtain ⟨y151, hy151⟩ : ∃ y_ : List (List Int), y_ = (y148 ++ l0) := ⟨_, rfl⟩
     replace H : (if 0 ≤ a1 then (if a1 < (y151.length : Int) then ((parity_Repair.f (y151.set (a1 : Int).toNat l2) a1 t144).bind fun bt155 => (bitloftlaw42_ParityRepairs.l0 kj4 l0 a1 t142 t144 t145 bt155.1 bt155.2 ([] : List (List Int)) (wrap64 ((l0.length : Int) - 1)))) else (none)) else (none)) = some r := by first | (rw [hy151]; with_reducible exact H) | (have H2_ := (Option.bind_some _ _).symm.trans H; rw [hy151]; with_reducible exact H2_) | (have H2_ := (Option.bind_some _ _).symm.trans H; with_reducible exact H2_) | with_reducible exact H | (rw [hy151]; exact H) | exact H
     have Ny151 := Aside0.mk hy151; clear hy151
     by_cases c20 : 0 ≤ a1
     ·
      rw [if_pos c20] at H; have c20b0 : decide (0 ≤ a1) = true := decide_eq_true c20; clear c20
      by_cases c21 : a1 < (y151.length : Int)
      ·
       rw [if_pos c21] at H; have c21b0 : decide (a1 < (y151.length : Int)) = true := decide_eq_true c21; clear c21; obtain ⟨y154, hy154⟩ : ∃ y_ : List (List Int), y_ = (y151.set (a1 : Int).toNat l2) := ⟨_, rfl⟩
       replace H : ((parity_Repair.f y154 a1 t144).bind fun bt155 => (bitloftlaw42_ParityRepairs.l0 kj4 l0 a1 t142 t144 t145 bt155.1 bt155.2 ([] : List (List Int)) (wrap64 ((l0.length : Int) - 1)))) = some r := by first | (rw [hy154]; with_reducible exact H) | (have H2_ := (Option.bind_some _ _).symm.trans H; rw [hy154]; with_reducible exact H2_) | (have H2_ := (Option.bind_some _ _).symm.trans H; with_reducible exact H2_) | with_reducible exact H | (rw [hy154]; exact H) | exact H
       have Ny154 := Aside0.mk hy154; clear hy154; replace H := Option.bind_eq_some_iff.mp H; obtain ⟨⟨t155, t156⟩, A230, H⟩ := H; replace H : (bitloftlaw42_ParityRepairs.l0 kj4 l0 a1 t142 t144 t145 t155 t156 ([] : List (List Int)) (wrap64 ((l0.length : Int) - 1))) = some r := H; have A23 := Aside0.mk A230; clear A230; have H' := Aside0.mk H; clear H
       go_wp2_with (first | (go_at_call 10; (with_reducible refine (parity_Of.calls _ _ l0 t144 t145 _ ?side1 ?side2 A18.out).mono ?_); (case side1 => repeat (first | exact (Kd.V_reads' HO_0.out).2.2 | (with_reducible refine Kd.C_alloc ?_ _) | (with_reducible refine Kd.C_drewN ?_ _) | (with_reducible refine Kd.C_drew ?_))); (case side2 => exact (Kd.V_reads' HO_0.out).2.1); rintro e w24 ⟨v146, rfl, ho0, hb⟩; have n0_ := Aside0.mk (Kd.V_elder' (by (with_reducible repeat (first | apply Kd.V_alloc | apply Kd.V_drewN | apply Kd.V_drew)); exact HO_0.out) (Kd.R_base ho0) hb); have n1_ := Aside0.mk (Kd.V_elder' (by (with_reducible repeat (first | apply Kd.V_alloc | apply Kd.V_drewN | apply Kd.V_drew)); exact HO_2.out) (Kd.R_base ho0) hb); have n2_ := Aside0.mk (Kd.R_lower (Kd.R_newM (M := fun k_ => (w.heap.size ≤ k_)) ho0 (below_size (pH_ HB.out)) (fun k_ h_ => h_)) (below_size (pH_ HB.out))); have n3_ := Aside0.mk (below_step (pH_ HB.out) hb); clear HO_0; clear HO_2; clear HB; have HO_0 := n0_; have HO_2 := n1_; have HO147 := n2_; have HB := n3_; clear n0_ n1_ n2_ n3_; (try clear hb); (try clear ho0)) | ((with_reducible refine gate_dst (N := 48) rfl ?_); (try (refine gate_guard (by rfl) ?_; dsimp only)); refine Kd.N_lit (Kd.slice 5 (Kd.int .u8)) _ 23 ?hg (N' := 48) ?hd (xs := ([] : List (List Int))) (inner := []) (ok := (fun k_ => ((P0_ k_ ∨ P2_ k_) ∨ w.heap.size ≤ k_) ∧ nO_ k_ v146)) (okp := (fun k_ => ((P0_ k_ ∨ P2_ k_) ∨ w.heap.size ≤ k_) ∧ nO_ k_ v146)) ?hr ?hp (fun _ hk => hk) ((show ∀ k_, w24.heap.size ≤ k_ → (fun k_ => ((P0_ k_ ∨ P2_ k_) ∨ w.heap.size ≤ k_) ∧ nO_ k_ v146) k_ from fun k_ hk => ⟨(.inr (Nat.le_trans (below_size (pH_ HB.out)) hk)), Kd.fresh' (Kd.R_lt (pL_ HO147.out)) k_ hk⟩) _ (Nat.le_refl _)) (Below.refl _ _) (Nat.le_refl _) (by simp) ?_; (case hd => rfl); (case hg => rfl); (case hr => first | (go_simp; done) | (go_simp; rfl)); (case hp => exact (Reps.none _ _)); intro v149 w25 ho26 hb hg_ hnew_; clear hg_ hnew_; (first | rw [← Ny148.out] at ho26 | (simp only [Int.reduceToNat] at ho26; rw [← Ny148.out] at ho26)); have n0_ := Aside0.mk (Kd.V_elder' (by (with_reducible repeat (first | apply Kd.V_alloc | apply Kd.V_drewN | apply Kd.V_drew)); exact HO_0.out) (by first | exact Kd.N_base ho26 | exact Kd.N_base (Kd.S_N ho26)) hb); have n1_ := Aside0.mk (Kd.V_elder' (by (with_reducible repeat (first | apply Kd.V_alloc | apply Kd.V_drewN | apply Kd.V_drew)); exact HO_2.out) (by first | exact Kd.N_base ho26 | exact Kd.N_base (Kd.S_N ho26)) hb); have n2_ := Aside0.mk (Kd.R_below (pL_ HO147.out) hb); have n3_ := Aside0.mk (Kd.N_lower ho26 (below_size (pH_ HB.out))); have n4_ := Aside0.mk (below_step (pH_ HB.out) hb); clear HO_0; clear HO_2; clear HO147; clear HB; have HO_0 := n0_; have HO_2 := n1_; have HO147 := n2_; have HO150 := n3_; have HB := n4_; clear n0_ n1_ n2_ n3_ n4_; clear hb ho26) | ((with_reducible refine gate_builtin (b := .append) (xs := #[.tmp 48, .tmp 49]) rfl ?_); (try (refine gate_guard (by rfl) ?_; dsimp only)); at_builtin; refine Kd.N_append_rows (Kd.slice 5 (Kd.int .u8)) (w0 := w) w.heap.size rfl (.tmp 48) (.tmp 49) 22 23 (.slice none 0 0) 24 rfl Tryd.underlying22 info23 rfl (by decide) (by omega) v149 y148 l0 _ _ _ (fun k_ => ((P0_ k_ ∨ P2_ k_) ∨ w.heap.size ≤ k_) ∧ nO_ k_ v146) (fun k_ => ((fun k_ => ((P0_ k_ ∨ P2_ k_) ∨ w.heap.size ≤ k_) ∧ nO_ k_ v146)) k_ ∧ nO_ k_ v149) rfl rfl ?aO ?aR (fun _ hk => hk) ?aF ?aB ?aS ?aL ?_; (case aR => exact (by skip; exact Kd.V_F (Kd.V_mono (ok' := (fun k_ => ((fun k_ => ((P0_ k_ ∨ P2_ k_) ∨ w.heap.size ≤ k_) ∧ nO_ k_ v146)) k_ ∧ nO_ k_ v149)) (HO_0.out) (fun k_ hk => ⟨⟨hk.1.1, hk.1.2⟩, hk.2⟩)))); (case aB => exact (pH_ HB.out)); (case aF => exact (fun k_ hk => ⟨(.inr (Nat.le_trans (below_size (pH_ HB.out)) hk)), Kd.fresh' (Kd.R_lt (pL_ HO147.out)) k_ hk⟩)); (case aO => exact (by (with_reducible repeat (first | apply Kd.N_alloc | apply Kd.N_drewN | apply Kd.N_drew)); exact HO150.out)); (case aS => exact (below_size (pH_ HB.out))); (case aL => have := LMc19.out; omega); intro v152 w27 ho hb hg hat; (try simp only [Int.reduceToNat] at ho); rw [← Ny151.out] at ho; have n0_ := Aside0.mk (Kd.V_afterv (ok := (fun k_ => ((P0_ k_ ∨ P2_ k_) ∨ w.heap.size ≤ k_) ∧ nO_ k_ v146)) (by (with_reducible repeat (first | apply Kd.V_alloc | apply Kd.V_drewN | apply Kd.V_drew)); exact HO_0.out) hg hat); have n1_ := Aside0.mk (Kd.V_afterv (ok := (fun k_ => ((P0_ k_ ∨ P2_ k_) ∨ w.heap.size ≤ k_) ∧ nO_ k_ v146)) (by (with_reducible repeat (first | apply Kd.V_alloc | apply Kd.V_drewN | apply Kd.V_drew)); exact HO_2.out) hg hat); have n2_ := Aside0.mk (Kd.R_over' (pL_ HO147.out) (Kd.N_typed (by (with_reducible repeat (first | apply Kd.N_alloc | apply Kd.N_drewN | apply Kd.N_drew)); exact HO150.out)) (by decide) hg); have n3_ := Aside0.mk (hb); have n4_ := Aside0.mk (ho); clear HO_0; clear HO_2; clear HO147; clear HB; clear HO150; have HO_0 := n0_; have HO_2 := n1_; have HO147 := n2_; have HB := n3_; have HO153 := n4_; clear n0_ n1_ n2_ n3_ n4_; clear ho hb hg hat; have p22 : 0 ≤ (a1 : Int) := of_decide_eq_true (by first | (with_reducible assumption) | assumption); have q22 : (a1 : Int) < ((y151.length : Int) : Int) := of_decide_eq_true (by first | (with_reducible assumption) | assumption); obtain ⟨go22, co22, eo22, gb22, gl22, cl22, HG22⟩ := Kd.N_form HO153.out (by omega); (first | cases eo22 | (injection eo22 with ea_ en_ ec_; (first | subst ea_ | (injection ea_ with ea_; subst ea_)); subst ec_; clear en_)); have GB22 := Aside0.mk gb22; have GG22 := Aside0.mk HG22; clear gb22 gl22 HG22; obtain ⟨ce22, hcl22, hM22, hcc22, hfr22⟩ := Kd.N_elem HO153.out [] (a1 : Int) p22 q22; obtain ⟨ua22_0, uc22_0, rfl, ul22_0, ge22_0⟩ := Kd.FK_slice_open hM22; have hx22_0 := hcc22 0 _ rfl; have hf22_0 := hfr22 0; (try simp only [show ((Kd.slice 5 (Kd.int .u8))).sz = 1 from rfl, Nat.mul_one, Nat.add_zero] at hx22_0); (try simp only [show ((Kd.slice 5 (Kd.int .u8))).sz = 1 from rfl, Nat.mul_one, Nat.add_zero] at hf22_0); clear hcl22 hcc22 hfr22 hM22; replace p22 := eq_true p22; replace q22 := eq_true q22; have HX28 := Aside0.mk (show Kd.N (Kd.slice 5 (Kd.int .u8)) 23 w27 w.heap.size (fun k_ => ((P0_ k_ ∨ P2_ k_) ∨ w.heap.size ≤ k_) ∧ nO_ k_ v146) (.slice (some ⟨go22, 0, none⟩) y151.length co22) y151 from (by (with_reducible repeat (first | apply Kd.N_alloc | apply Kd.N_drewN | apply Kd.N_drew)); exact HO153.out)); obtain ⟨ce28, hcl28, hM28, hcc28, hfr28⟩ := Kd.N_elem HX28.out [] (a1 : Int) (of_decide_eq_true (by first | (with_reducible assumption) | assumption)) (by have h_ : (a1 : Int) < ((y151.length : Int) : Int) := of_decide_eq_true (by first | (with_reducible assumption) | assumption); first | exact h_ | (have e_ := (Kd.N_reads' HO153.out).1; omega) | simpa using h_); obtain ⟨ua28_0, uc28_0, rfl, ul28_0, ge28_0⟩ := Kd.FK_slice_open hM28; have HP28 := Kd.N_seg HX28.out (a1 : Int) (of_decide_eq_true (by first | (with_reducible assumption) | assumption)) (by have h_ : (a1 : Int) < ((y151.length : Int) : Int) := of_decide_eq_true (by first | (with_reducible assumption) | assumption); first | exact h_ | (have e_ := (Kd.N_reads' HO153.out).1; omega) | simpa using h_) (seg := [.slice A2 l2.length c2]) (j := 0) hcl28 hcc28 (show 1 ≤ 1 from by decide) (x' := l2) (Kd.FK_slice_mk (Kd.V_reads' (Kd.V_mono (ok' := (fun k_ => ((fun k_ => ((P0_ k_ ∨ P2_ k_) ∨ w.heap.size ≤ k_) ∧ nO_ k_ v146)) k_ ∧ k_ ≠ go22)) (HO_2.out) (fun k_ hk => ⟨⟨hk.1.1, hk.1.2⟩, fun e_ => (hk.2) (by rw [e_]; rfl)⟩))).2.1 (Kd.V_F (Kd.V_mono (ok' := (fun k_ => ((fun k_ => ((P0_ k_ ∨ P2_ k_) ∨ w.heap.size ≤ k_) ∧ nO_ k_ v146)) k_ ∧ k_ ≠ go22)) (HO_2.out) (fun k_ hk => ⟨⟨hk.1.1, hk.1.2⟩, fun e_ => (hk.2) (by rw [e_]; rfl)⟩)))) (fun _ hk => hk); have hx28_0 := hcc28 0 _ rfl; (try simp only [show ((Kd.slice 5 (Kd.int .u8))).sz = 1 from rfl, Nat.mul_one, Nat.add_zero] at hx28_0); have hf28_0 := hfr28 0; (try simp only [show ((Kd.slice 5 (Kd.int .u8))).sz = 1 from rfl, Nat.mul_one, Nat.add_zero] at hf28_0); clear hcl28 hcc28 hfr28 hM28; (try simp only [show ((Kd.slice 5 (Kd.int .u8))).sz = 1 from rfl, Nat.mul_one, Nat.add_zero] at HP28); (try simp only [show ((Kd.slice 5 (Kd.int .u8))).sz = 1 from rfl, Nat.mul_one, Nat.add_zero] at HP28)) | ((with_reducible refine gate_store (t := 23) (p := 54) rfl ?_); (try (rw [drewN_self w27]; generalize hq_ : World.drewN w27 _ = w27; have n0_ := Aside0.mk (Kd.V_at hq_ HO_0.out); have n1_ := Aside0.mk (Kd.V_at hq_ HO_2.out); have n2_ := Aside0.mk (Kd.R_at hq_ HO147.out); have n3_ := Aside0.mk (Kd.N_at hq_ HO153.out); have n4_ := Aside0.mk (below_at hq_ HB.out); clear hq_ HO_0 HO_2 HO147 HO153 HB; have HO_0 := n0_; have HO_2 := n1_; have HO147 := n2_; have HO153 := n3_; have HB := n4_; clear n0_ n1_ n2_ n3_ n4_; (try (have HX28 := Aside0.mk (show Kd.N (Kd.slice 5 (Kd.int .u8)) 23 w27 w.heap.size (fun k_ => ((P0_ k_ ∨ P2_ k_) ∨ w.heap.size ≤ k_) ∧ nO_ k_ v146) (.slice (some ⟨go22, 0, none⟩) y151.length co22) y151 from (by (with_reducible repeat (first | apply Kd.N_alloc | apply Kd.N_drewN | apply Kd.N_drew)); exact HO153.out)))); (try (obtain ⟨ce28, hcl28, hM28, hcc28, hfr28⟩ := Kd.N_elem HX28.out [] (a1 : Int) (of_decide_eq_true (by first | (with_reducible assumption) | assumption)) (by have h_ : (a1 : Int) < ((y151.length : Int) : Int) := of_decide_eq_true (by first | (with_reducible assumption) | assumption); first | exact h_ | (have e_ := (Kd.N_reads' HO153.out).1; omega) | simpa using h_))); (try (obtain ⟨ua28_0, uc28_0, rfl, ul28_0, ge28_0⟩ := Kd.FK_slice_open hM28)); (try (have HP28 := Kd.N_seg HX28.out (a1 : Int) (of_decide_eq_true (by first | (with_reducible assumption) | assumption)) (by have h_ : (a1 : Int) < ((y151.length : Int) : Int) := of_decide_eq_true (by first | (with_reducible assumption) | assumption); first | exact h_ | (have e_ := (Kd.N_reads' HO153.out).1; omega) | simpa using h_) (seg := [.slice A2 l2.length c2]) (j := 0) hcl28 hcc28 (show 1 ≤ 1 from by decide) (x' := l2) (Kd.FK_slice_mk (Kd.V_reads' (Kd.V_mono (ok' := (fun k_ => ((fun k_ => ((P0_ k_ ∨ P2_ k_) ∨ w.heap.size ≤ k_) ∧ nO_ k_ v146)) k_ ∧ k_ ≠ go22)) (HO_2.out) (fun k_ hk => ⟨⟨hk.1.1, hk.1.2⟩, fun e_ => (hk.2) (by rw [e_]; rfl)⟩))).2.1 (Kd.V_F (Kd.V_mono (ok' := (fun k_ => ((fun k_ => ((P0_ k_ ∨ P2_ k_) ∨ w.heap.size ≤ k_) ∧ nO_ k_ v146)) k_ ∧ k_ ≠ go22)) (HO_2.out) (fun k_ hk => ⟨⟨hk.1.1, hk.1.2⟩, fun e_ => (hk.2) (by rw [e_]; rfl)⟩)))) (fun _ hk => hk))); (try (have hx28_0 := hcc28 0 _ rfl)); (try (try simp only [show ((Kd.slice 5 (Kd.int .u8))).sz = 1 from rfl, Nat.mul_one, Nat.add_zero] at hx28_0)); (try (have hf28_0 := hfr28 0)); (try (try simp only [show ((Kd.slice 5 (Kd.int .u8))).sz = 1 from rfl, Nat.mul_one, Nat.add_zero] at hf28_0)); (try (clear hcl28 hcc28 hfr28 hM28)); (try (try simp only [show ((Kd.slice 5 (Kd.int .u8))).sz = 1 from rfl, Nat.mul_one, Nat.add_zero] at HP28)); (try (try simp only [show ((Kd.slice 5 (Kd.int .u8))).sz = 1 from rfl, Nat.mul_one, Nat.add_zero] at HP28)))); refine store_event (t := 23) (p := 54) (v := ?vo_w29) (w1 := (w27.setCell ⟨go22, (a1 : Int).toNat, none⟩ (.slice A2 l2.length c2))) ?hg ?ho ?hn ?hr ?_; (case ho => rfl); (case hg => rfl); (case hn => rfl); (case hr => first | (go_simp; done) | (go_simp; rfl)); intro w29 hw; have hg : w27.grownBy w29 (some go22) := (by rw [hw]; exact HP28.2); have hp_ : Kd.N (Kd.slice 5 (Kd.int .u8)) 23 w29 w.heap.size (fun k_ => ((P0_ k_ ∨ P2_ k_) ∨ w.heap.size ≤ k_) ∧ nO_ k_ v146) (.slice (some ⟨go22, 0, none⟩) y151.length co22) y154 := (by rw [hw, Ny154.out]; exact HP28.1); clear HP28; have n0_ := Aside0.mk (Kd.V_afterv (v := (.slice (some ⟨go22, 0, none⟩) y151.length co22)) (v1 := (.slice (some ⟨go22, 0, none⟩) y151.length co22)) (ok := (fun k_ => ((P0_ k_ ∨ P2_ k_) ∨ w.heap.size ≤ k_) ∧ nO_ k_ v146)) (by (with_reducible repeat (first | apply Kd.V_alloc | apply Kd.V_drewN | apply Kd.V_drew)); exact HO_0.out) hg (.inl rfl)); have n1_ := Aside0.mk (Kd.V_afterv (v := (.slice (some ⟨go22, 0, none⟩) y151.length co22)) (v1 := (.slice (some ⟨go22, 0, none⟩) y151.length co22)) (ok := (fun k_ => ((P0_ k_ ∨ P2_ k_) ∨ w.heap.size ≤ k_) ∧ nO_ k_ v146)) (by (with_reducible repeat (first | apply Kd.V_alloc | apply Kd.V_drewN | apply Kd.V_drew)); exact HO_2.out) hg (.inl rfl)); have n2_ := Aside0.mk (Kd.R_over' (v := (.slice (some ⟨go22, 0, none⟩) y151.length co22)) (pL_ HO147.out) (Kd.N_typed HO153.out) (by decide) hg); have n3_ := Aside0.mk (hp_); have n4_ := Aside0.mk ((by rw [hw]; exact below_set (HB.out) GB22.out : Below w.heap.size w w29)); clear HO_0; clear HO_2; clear HO147; clear HO153; clear HB; have HO_0 := n0_; have HO_2 := n1_; have HO147 := n2_; have HO153 := n3_; have HB := n4_; clear n0_ n1_ n2_ n3_ n4_; clear hg hw hp_; obtain ⟨Ao30, co30, eo30⟩ := Kd.R_slice HO147.out; subst eo30) | (go_at_call 11; refine calls_of_args (args' := #[.slice (some ⟨go22, 0, none⟩) y154.length co22, .int .i64 a1, .slice Ao30 t144.length co30]) (by first | (rw [show y154.length = y151.length from (Kd.N_reads' HO153.out).1.symm] <;> rfl) | rfl) ?_; (with_reducible refine (parity_Repair.calls _ _ y154 a1 _ _ t144 t155 t156 _ ?side1 ?side2 ?side3 ?side4 A23.out).mono ?_); (case side1 => repeat (first | exact (Kd.N_reads' HO153.out).2.2 | (with_reducible refine Kd.C_alloc ?_ _) | (with_reducible refine Kd.C_drewN ?_ _) | (with_reducible refine Kd.C_drew ?_))); (case side2 => rw [show y154.length = y151.length from (Kd.N_reads' HO153.out).1.symm]; exact (Kd.N_reads' HO153.out).2.1); (case side3 => repeat (first | exact (Kd.R_reads' HO147.out).2.2 | (with_reducible refine Kd.C_alloc ?_ _) | (with_reducible refine Kd.C_drewN ?_ _) | (with_reducible refine Kd.C_drew ?_))); (case side4 => exact (Kd.R_reads' HO147.out).2.1); rintro e w31 ⟨v157, rfl, ho0, hb⟩; have n0_ := Aside0.mk (Kd.V_elder' (by (with_reducible repeat (first | apply Kd.V_alloc | apply Kd.V_drewN | apply Kd.V_drew)); exact HO_0.out) (Kd.Q_base ho0) hb); have n1_ := Aside0.mk (Kd.V_elder' (by (with_reducible repeat (first | apply Kd.V_alloc | apply Kd.V_drewN | apply Kd.V_drew)); exact HO_2.out) (Kd.Q_base ho0) hb); have n2_ := Aside0.mk (Kd.R_elder' (pL_ HO147.out) (Kd.Q_base ho0) hb); have n3_ := Aside0.mk (Kd.N_elder' (by (with_reducible repeat (first | apply Kd.N_alloc | apply Kd.N_drewN | apply Kd.N_drew)); exact HO153.out) (Kd.Q_base ho0) hb); have n4_ := Aside0.mk (Kd.Q_lower (Kd.Q_new' (Kd.Q_newM (M := fun k_ => (w.heap.size ≤ k_)) ho0 (below_size (pH_ HB.out)) (fun k_ h_ => h_)) (Kd.R_lt (pL_ HO147.out))) (below_size (pH_ HB.out))); have n5_ := Aside0.mk (below_step (pH_ HB.out) hb); clear HO_0; clear HO_2; clear HO147; clear HO153; clear HB; have HO_0 := n0_; have HO_2 := n1_; have HO147 := n2_; have HO153 := n3_; have HO158 := n4_; have HB := n5_; clear n0_ n1_ n2_ n3_ n4_ n5_; (try clear hb); (try clear ho0)))
       repeat (go_quiet (first | (go_at_call 10; (with_reducible refine (parity_Of.calls _ _ l0 t144 t145 _ ?side1 ?side2 A18.out).mono ?_); (case side1 => repeat (first | exact (Kd.V_reads' HO_0.out).2.2 | (with_reducible refine Kd.C_alloc ?_ _) | (with_reducible refine Kd.C_drewN ?_ _) | (with_reducible refine Kd.C_drew ?_))); (case side2 => exact (Kd.V_reads' HO_0.out).2.1); rintro e w24 ⟨v146, rfl, ho0, hb⟩; have n0_ := Aside0.mk (Kd.V_elder' (by (with_reducible repeat (first | apply Kd.V_alloc | apply Kd.V_drewN | apply Kd.V_drew)); exact HO_0.out) (Kd.R_base ho0) hb); have n1_ := Aside0.mk (Kd.V_elder' (by (with_reducible repeat (first | apply Kd.V_alloc | apply Kd.V_drewN | apply Kd.V_drew)); exact HO_2.out) (Kd.R_base ho0) hb); have n2_ := Aside0.mk (Kd.R_lower (Kd.R_newM (M := fun k_ => (w.heap.size ≤ k_)) ho0 (below_size (pH_ HB.out)) (fun k_ h_ => h_)) (below_size (pH_ HB.out))); have n3_ := Aside0.mk (below_step (pH_ HB.out) hb); clear HO_0; clear HO_2; clear HB; have HO_0 := n0_; have HO_2 := n1_; have HO147 := n2_; have HB := n3_; clear n0_ n1_ n2_ n3_; (try clear hb); (try clear ho0)) | ((with_reducible refine gate_dst (N := 48) rfl ?_); (try (refine gate_guard (by rfl) ?_; dsimp only)); refine Kd.N_lit (Kd.slice 5 (Kd.int .u8)) _ 23 ?hg (N' := 48) ?hd (xs := ([] : List (List Int))) (inner := []) (ok := (fun k_ => ((P0_ k_ ∨ P2_ k_) ∨ w.heap.size ≤ k_) ∧ nO_ k_ v146)) (okp := (fun k_ => ((P0_ k_ ∨ P2_ k_) ∨ w.heap.size ≤ k_) ∧ nO_ k_ v146)) ?hr ?hp (fun _ hk => hk) ((show ∀ k_, w24.heap.size ≤ k_ → (fun k_ => ((P0_ k_ ∨ P2_ k_) ∨ w.heap.size ≤ k_) ∧ nO_ k_ v146) k_ from fun k_ hk => ⟨(.inr (Nat.le_trans (below_size (pH_ HB.out)) hk)), Kd.fresh' (Kd.R_lt (pL_ HO147.out)) k_ hk⟩) _ (Nat.le_refl _)) (Below.refl _ _) (Nat.le_refl _) (by simp) ?_; (case hd => rfl); (case hg => rfl); (case hr => first | (go_simp; done) | (go_simp; rfl)); (case hp => exact (Reps.none _ _)); intro v149 w25 ho26 hb hg_ hnew_; clear hg_ hnew_; (first | rw [← Ny148.out] at ho26 | (simp only [Int.reduceToNat] at ho26; rw [← Ny148.out] at ho26)); have n0_ := Aside0.mk (Kd.V_elder' (by (with_reducible repeat (first | apply Kd.V_alloc | apply Kd.V_drewN | apply Kd.V_drew)); exact HO_0.out) (by first | exact Kd.N_base ho26 | exact Kd.N_base (Kd.S_N ho26)) hb); have n1_ := Aside0.mk (Kd.V_elder' (by (with_reducible repeat (first | apply Kd.V_alloc | apply Kd.V_drewN | apply Kd.V_drew)); exact HO_2.out) (by first | exact Kd.N_base ho26 | exact Kd.N_base (Kd.S_N ho26)) hb); have n2_ := Aside0.mk (Kd.R_below (pL_ HO147.out) hb); have n3_ := Aside0.mk (Kd.N_lower ho26 (below_size (pH_ HB.out))); have n4_ := Aside0.mk (below_step (pH_ HB.out) hb); clear HO_0; clear HO_2; clear HO147; clear HB; have HO_0 := n0_; have HO_2 := n1_; have HO147 := n2_; have HO150 := n3_; have HB := n4_; clear n0_ n1_ n2_ n3_ n4_; clear hb ho26) | ((with_reducible refine gate_builtin (b := .append) (xs := #[.tmp 48, .tmp 49]) rfl ?_); (try (refine gate_guard (by rfl) ?_; dsimp only)); at_builtin; refine Kd.N_append_rows (Kd.slice 5 (Kd.int .u8)) (w0 := w) w.heap.size rfl (.tmp 48) (.tmp 49) 22 23 (.slice none 0 0) 24 rfl Tryd.underlying22 info23 rfl (by decide) (by omega) v149 y148 l0 _ _ _ (fun k_ => ((P0_ k_ ∨ P2_ k_) ∨ w.heap.size ≤ k_) ∧ nO_ k_ v146) (fun k_ => ((fun k_ => ((P0_ k_ ∨ P2_ k_) ∨ w.heap.size ≤ k_) ∧ nO_ k_ v146)) k_ ∧ nO_ k_ v149) rfl rfl ?aO ?aR (fun _ hk => hk) ?aF ?aB ?aS ?aL ?_; (case aR => exact (by skip; exact Kd.V_F (Kd.V_mono (ok' := (fun k_ => ((fun k_ => ((P0_ k_ ∨ P2_ k_) ∨ w.heap.size ≤ k_) ∧ nO_ k_ v146)) k_ ∧ nO_ k_ v149)) (HO_0.out) (fun k_ hk => ⟨⟨hk.1.1, hk.1.2⟩, hk.2⟩)))); (case aB => exact (pH_ HB.out)); (case aF => exact (fun k_ hk => ⟨(.inr (Nat.le_trans (below_size (pH_ HB.out)) hk)), Kd.fresh' (Kd.R_lt (pL_ HO147.out)) k_ hk⟩)); (case aO => exact (by (with_reducible repeat (first | apply Kd.N_alloc | apply Kd.N_drewN | apply Kd.N_drew)); exact HO150.out)); (case aS => exact (below_size (pH_ HB.out))); (case aL => have := LMc19.out; omega); intro v152 w27 ho hb hg hat; (try simp only [Int.reduceToNat] at ho); rw [← Ny151.out] at ho; have n0_ := Aside0.mk (Kd.V_afterv (ok := (fun k_ => ((P0_ k_ ∨ P2_ k_) ∨ w.heap.size ≤ k_) ∧ nO_ k_ v146)) (by (with_reducible repeat (first | apply Kd.V_alloc | apply Kd.V_drewN | apply Kd.V_drew)); exact HO_0.out) hg hat); have n1_ := Aside0.mk (Kd.V_afterv (ok := (fun k_ => ((P0_ k_ ∨ P2_ k_) ∨ w.heap.size ≤ k_) ∧ nO_ k_ v146)) (by (with_reducible repeat (first | apply Kd.V_alloc | apply Kd.V_drewN | apply Kd.V_drew)); exact HO_2.out) hg hat); have n2_ := Aside0.mk (Kd.R_over' (pL_ HO147.out) (Kd.N_typed (by (with_reducible repeat (first | apply Kd.N_alloc | apply Kd.N_drewN | apply Kd.N_drew)); exact HO150.out)) (by decide) hg); have n3_ := Aside0.mk (hb); have n4_ := Aside0.mk (ho); clear HO_0; clear HO_2; clear HO147; clear HB; clear HO150; have HO_0 := n0_; have HO_2 := n1_; have HO147 := n2_; have HB := n3_; have HO153 := n4_; clear n0_ n1_ n2_ n3_ n4_; clear ho hb hg hat; have p22 : 0 ≤ (a1 : Int) := of_decide_eq_true (by first | (with_reducible assumption) | assumption); have q22 : (a1 : Int) < ((y151.length : Int) : Int) := of_decide_eq_true (by first | (with_reducible assumption) | assumption); obtain ⟨go22, co22, eo22, gb22, gl22, cl22, HG22⟩ := Kd.N_form HO153.out (by omega); (first | cases eo22 | (injection eo22 with ea_ en_ ec_; (first | subst ea_ | (injection ea_ with ea_; subst ea_)); subst ec_; clear en_)); have GB22 := Aside0.mk gb22; have GG22 := Aside0.mk HG22; clear gb22 gl22 HG22; obtain ⟨ce22, hcl22, hM22, hcc22, hfr22⟩ := Kd.N_elem HO153.out [] (a1 : Int) p22 q22; obtain ⟨ua22_0, uc22_0, rfl, ul22_0, ge22_0⟩ := Kd.FK_slice_open hM22; have hx22_0 := hcc22 0 _ rfl; have hf22_0 := hfr22 0; (try simp only [show ((Kd.slice 5 (Kd.int .u8))).sz = 1 from rfl, Nat.mul_one, Nat.add_zero] at hx22_0); (try simp only [show ((Kd.slice 5 (Kd.int .u8))).sz = 1 from rfl, Nat.mul_one, Nat.add_zero] at hf22_0); clear hcl22 hcc22 hfr22 hM22; replace p22 := eq_true p22; replace q22 := eq_true q22; have HX28 := Aside0.mk (show Kd.N (Kd.slice 5 (Kd.int .u8)) 23 w27 w.heap.size (fun k_ => ((P0_ k_ ∨ P2_ k_) ∨ w.heap.size ≤ k_) ∧ nO_ k_ v146) (.slice (some ⟨go22, 0, none⟩) y151.length co22) y151 from (by (with_reducible repeat (first | apply Kd.N_alloc | apply Kd.N_drewN | apply Kd.N_drew)); exact HO153.out)); obtain ⟨ce28, hcl28, hM28, hcc28, hfr28⟩ := Kd.N_elem HX28.out [] (a1 : Int) (of_decide_eq_true (by first | (with_reducible assumption) | assumption)) (by have h_ : (a1 : Int) < ((y151.length : Int) : Int) := of_decide_eq_true (by first | (with_reducible assumption) | assumption); first | exact h_ | (have e_ := (Kd.N_reads' HO153.out).1; omega) | simpa using h_); obtain ⟨ua28_0, uc28_0, rfl, ul28_0, ge28_0⟩ := Kd.FK_slice_open hM28; have HP28 := Kd.N_seg HX28.out (a1 : Int) (of_decide_eq_true (by first | (with_reducible assumption) | assumption)) (by have h_ : (a1 : Int) < ((y151.length : Int) : Int) := of_decide_eq_true (by first | (with_reducible assumption) | assumption); first | exact h_ | (have e_ := (Kd.N_reads' HO153.out).1; omega) | simpa using h_) (seg := [.slice A2 l2.length c2]) (j := 0) hcl28 hcc28 (show 1 ≤ 1 from by decide) (x' := l2) (Kd.FK_slice_mk (Kd.V_reads' (Kd.V_mono (ok' := (fun k_ => ((fun k_ => ((P0_ k_ ∨ P2_ k_) ∨ w.heap.size ≤ k_) ∧ nO_ k_ v146)) k_ ∧ k_ ≠ go22)) (HO_2.out) (fun k_ hk => ⟨⟨hk.1.1, hk.1.2⟩, fun e_ => (hk.2) (by rw [e_]; rfl)⟩))).2.1 (Kd.V_F (Kd.V_mono (ok' := (fun k_ => ((fun k_ => ((P0_ k_ ∨ P2_ k_) ∨ w.heap.size ≤ k_) ∧ nO_ k_ v146)) k_ ∧ k_ ≠ go22)) (HO_2.out) (fun k_ hk => ⟨⟨hk.1.1, hk.1.2⟩, fun e_ => (hk.2) (by rw [e_]; rfl)⟩)))) (fun _ hk => hk); have hx28_0 := hcc28 0 _ rfl; (try simp only [show ((Kd.slice 5 (Kd.int .u8))).sz = 1 from rfl, Nat.mul_one, Nat.add_zero] at hx28_0); have hf28_0 := hfr28 0; (try simp only [show ((Kd.slice 5 (Kd.int .u8))).sz = 1 from rfl, Nat.mul_one, Nat.add_zero] at hf28_0); clear hcl28 hcc28 hfr28 hM28; (try simp only [show ((Kd.slice 5 (Kd.int .u8))).sz = 1 from rfl, Nat.mul_one, Nat.add_zero] at HP28); (try simp only [show ((Kd.slice 5 (Kd.int .u8))).sz = 1 from rfl, Nat.mul_one, Nat.add_zero] at HP28)) | ((with_reducible refine gate_store (t := 23) (p := 54) rfl ?_); (try (rw [drewN_self w27]; generalize hq_ : World.drewN w27 _ = w27; have n0_ := Aside0.mk (Kd.V_at hq_ HO_0.out); have n1_ := Aside0.mk (Kd.V_at hq_ HO_2.out); have n2_ := Aside0.mk (Kd.R_at hq_ HO147.out); have n3_ := Aside0.mk (Kd.N_at hq_ HO153.out); have n4_ := Aside0.mk (below_at hq_ HB.out); clear hq_ HO_0 HO_2 HO147 HO153 HB; have HO_0 := n0_; have HO_2 := n1_; have HO147 := n2_; have HO153 := n3_; have HB := n4_; clear n0_ n1_ n2_ n3_ n4_; (try (have HX28 := Aside0.mk (show Kd.N (Kd.slice 5 (Kd.int .u8)) 23 w27 w.heap.size (fun k_ => ((P0_ k_ ∨ P2_ k_) ∨ w.heap.size ≤ k_) ∧ nO_ k_ v146) (.slice (some ⟨go22, 0, none⟩) y151.length co22) y151 from (by (with_reducible repeat (first | apply Kd.N_alloc | apply Kd.N_drewN | apply Kd.N_drew)); exact HO153.out)))); (try (obtain ⟨ce28, hcl28, hM28, hcc28, hfr28⟩ := Kd.N_elem HX28.out [] (a1 : Int) (of_decide_eq_true (by first | (with_reducible assumption) | assumption)) (by have h_ : (a1 : Int) < ((y151.length : Int) : Int) := of_decide_eq_true (by first | (with_reducible assumption) | assumption); first | exact h_ | (have e_ := (Kd.N_reads' HO153.out).1; omega) | simpa using h_))); (try (obtain ⟨ua28_0, uc28_0, rfl, ul28_0, ge28_0⟩ := Kd.FK_slice_open hM28)); (try (have HP28 := Kd.N_seg HX28.out (a1 : Int) (of_decide_eq_true (by first | (with_reducible assumption) | assumption)) (by have h_ : (a1 : Int) < ((y151.length : Int) : Int) := of_decide_eq_true (by first | (with_reducible assumption) | assumption); first | exact h_ | (have e_ := (Kd.N_reads' HO153.out).1; omega) | simpa using h_) (seg := [.slice A2 l2.length c2]) (j := 0) hcl28 hcc28 (show 1 ≤ 1 from by decide) (x' := l2) (Kd.FK_slice_mk (Kd.V_reads' (Kd.V_mono (ok' := (fun k_ => ((fun k_ => ((P0_ k_ ∨ P2_ k_) ∨ w.heap.size ≤ k_) ∧ nO_ k_ v146)) k_ ∧ k_ ≠ go22)) (HO_2.out) (fun k_ hk => ⟨⟨hk.1.1, hk.1.2⟩, fun e_ => (hk.2) (by rw [e_]; rfl)⟩))).2.1 (Kd.V_F (Kd.V_mono (ok' := (fun k_ => ((fun k_ => ((P0_ k_ ∨ P2_ k_) ∨ w.heap.size ≤ k_) ∧ nO_ k_ v146)) k_ ∧ k_ ≠ go22)) (HO_2.out) (fun k_ hk => ⟨⟨hk.1.1, hk.1.2⟩, fun e_ => (hk.2) (by rw [e_]; rfl)⟩)))) (fun _ hk => hk))); (try (have hx28_0 := hcc28 0 _ rfl)); (try (try simp only [show ((Kd.slice 5 (Kd.int .u8))).sz = 1 from rfl, Nat.mul_one, Nat.add_zero] at hx28_0)); (try (have hf28_0 := hfr28 0)); (try (try simp only [show ((Kd.slice 5 (Kd.int .u8))).sz = 1 from rfl, Nat.mul_one, Nat.add_zero] at hf28_0)); (try (clear hcl28 hcc28 hfr28 hM28)); (try (try simp only [show ((Kd.slice 5 (Kd.int .u8))).sz = 1 from rfl, Nat.mul_one, Nat.add_zero] at HP28)); (try (try simp only [show ((Kd.slice 5 (Kd.int .u8))).sz = 1 from rfl, Nat.mul_one, Nat.add_zero] at HP28)))); refine store_event (t := 23) (p := 54) (v := ?vo_w29) (w1 := (w27.setCell ⟨go22, (a1 : Int).toNat, none⟩ (.slice A2 l2.length c2))) ?hg ?ho ?hn ?hr ?_; (case ho => rfl); (case hg => rfl); (case hn => rfl); (case hr => first | (go_simp; done) | (go_simp; rfl)); intro w29 hw; have hg : w27.grownBy w29 (some go22) := (by rw [hw]; exact HP28.2); have hp_ : Kd.N (Kd.slice 5 (Kd.int .u8)) 23 w29 w.heap.size (fun k_ => ((P0_ k_ ∨ P2_ k_) ∨ w.heap.size ≤ k_) ∧ nO_ k_ v146) (.slice (some ⟨go22, 0, none⟩) y151.length co22) y154 := (by rw [hw, Ny154.out]; exact HP28.1); clear HP28; have n0_ := Aside0.mk (Kd.V_afterv (v := (.slice (some ⟨go22, 0, none⟩) y151.length co22)) (v1 := (.slice (some ⟨go22, 0, none⟩) y151.length co22)) (ok := (fun k_ => ((P0_ k_ ∨ P2_ k_) ∨ w.heap.size ≤ k_) ∧ nO_ k_ v146)) (by (with_reducible repeat (first | apply Kd.V_alloc | apply Kd.V_drewN | apply Kd.V_drew)); exact HO_0.out) hg (.inl rfl)); have n1_ := Aside0.mk (Kd.V_afterv (v := (.slice (some ⟨go22, 0, none⟩) y151.length co22)) (v1 := (.slice (some ⟨go22, 0, none⟩) y151.length co22)) (ok := (fun k_ => ((P0_ k_ ∨ P2_ k_) ∨ w.heap.size ≤ k_) ∧ nO_ k_ v146)) (by (with_reducible repeat (first | apply Kd.V_alloc | apply Kd.V_drewN | apply Kd.V_drew)); exact HO_2.out) hg (.inl rfl)); have n2_ := Aside0.mk (Kd.R_over' (v := (.slice (some ⟨go22, 0, none⟩) y151.length co22)) (pL_ HO147.out) (Kd.N_typed HO153.out) (by decide) hg); have n3_ := Aside0.mk (hp_); have n4_ := Aside0.mk ((by rw [hw]; exact below_set (HB.out) GB22.out : Below w.heap.size w w29)); clear HO_0; clear HO_2; clear HO147; clear HO153; clear HB; have HO_0 := n0_; have HO_2 := n1_; have HO147 := n2_; have HO153 := n3_; have HB := n4_; clear n0_ n1_ n2_ n3_ n4_; clear hg hw hp_; obtain ⟨Ao30, co30, eo30⟩ := Kd.R_slice HO147.out; subst eo30) | (go_at_call 11; refine calls_of_args (args' := #[.slice (some ⟨go22, 0, none⟩) y154.length co22, .int .i64 a1, .slice Ao30 t144.length co30]) (by first | (rw [show y154.length = y151.length from (Kd.N_reads' HO153.out).1.symm] <;> rfl) | rfl) ?_; (with_reducible refine (parity_Repair.calls _ _ y154 a1 _ _ t144 t155 t156 _ ?side1 ?side2 ?side3 ?side4 A23.out).mono ?_); (case side1 => repeat (first | exact (Kd.N_reads' HO153.out).2.2 | (with_reducible refine Kd.C_alloc ?_ _) | (with_reducible refine Kd.C_drewN ?_ _) | (with_reducible refine Kd.C_drew ?_))); (case side2 => rw [show y154.length = y151.length from (Kd.N_reads' HO153.out).1.symm]; exact (Kd.N_reads' HO153.out).2.1); (case side3 => repeat (first | exact (Kd.R_reads' HO147.out).2.2 | (with_reducible refine Kd.C_alloc ?_ _) | (with_reducible refine Kd.C_drewN ?_ _) | (with_reducible refine Kd.C_drew ?_))); (case side4 => exact (Kd.R_reads' HO147.out).2.1); rintro e w31 ⟨v157, rfl, ho0, hb⟩; have n0_ := Aside0.mk (Kd.V_elder' (by (with_reducible repeat (first | apply Kd.V_alloc | apply Kd.V_drewN | apply Kd.V_drew)); exact HO_0.out) (Kd.Q_base ho0) hb); have n1_ := Aside0.mk (Kd.V_elder' (by (with_reducible repeat (first | apply Kd.V_alloc | apply Kd.V_drewN | apply Kd.V_drew)); exact HO_2.out) (Kd.Q_base ho0) hb); have n2_ := Aside0.mk (Kd.R_elder' (pL_ HO147.out) (Kd.Q_base ho0) hb); have n3_ := Aside0.mk (Kd.N_elder' (by (with_reducible repeat (first | apply Kd.N_alloc | apply Kd.N_drewN | apply Kd.N_drew)); exact HO153.out) (Kd.Q_base ho0) hb); have n4_ := Aside0.mk (Kd.Q_lower (Kd.Q_new' (Kd.Q_newM (M := fun k_ => (w.heap.size ≤ k_)) ho0 (below_size (pH_ HB.out)) (fun k_ h_ => h_)) (Kd.R_lt (pL_ HO147.out))) (below_size (pH_ HB.out))); have n5_ := Aside0.mk (below_step (pH_ HB.out) hb); clear HO_0; clear HO_2; clear HO147; clear HO153; clear HB; have HO_0 := n0_; have HO_2 := n1_; have HO147 := n2_; have HO153 := n3_; have HO158 := n4_; have HB := n5_; clear n0_ n1_ n2_ n3_ n4_ n5_; (try clear hb); (try clear ho0))); try go_wp2_with (first | (go_at_call 10; (with_reducible refine (parity_Of.calls _ _ l0 t144 t145 _ ?side1 ?side2 A18.out).mono ?_); (case side1 => repeat (first | exact (Kd.V_reads' HO_0.out).2.2 | (with_reducible refine Kd.C_alloc ?_ _) | (with_reducible refine Kd.C_drewN ?_ _) | (with_reducible refine Kd.C_drew ?_))); (case side2 => exact (Kd.V_reads' HO_0.out).2.1); rintro e w24 ⟨v146, rfl, ho0, hb⟩; have n0_ := Aside0.mk (Kd.V_elder' (by (with_reducible repeat (first | apply Kd.V_alloc | apply Kd.V_drewN | apply Kd.V_drew)); exact HO_0.out) (Kd.R_base ho0) hb); have n1_ := Aside0.mk (Kd.V_elder' (by (with_reducible repeat (first | apply Kd.V_alloc | apply Kd.V_drewN | apply Kd.V_drew)); exact HO_2.out) (Kd.R_base ho0) hb); have n2_ := Aside0.mk (Kd.R_lower (Kd.R_newM (M := fun k_ => (w.heap.size ≤ k_)) ho0 (below_size (pH_ HB.out)) (fun k_ h_ => h_)) (below_size (pH_ HB.out))); have n3_ := Aside0.mk (below_step (pH_ HB.out) hb); clear HO_0; clear HO_2; clear HB; have HO_0 := n0_; have HO_2 := n1_; have HO147 := n2_; have HB := n3_; clear n0_ n1_ n2_ n3_; (try clear hb); (try clear ho0)) | ((with_reducible refine gate_dst (N := 48) rfl ?_); (try (refine gate_guard (by rfl) ?_; dsimp only)); refine Kd.N_lit (Kd.slice 5 (Kd.int .u8)) _ 23 ?hg (N' := 48) ?hd (xs := ([] : List (List Int))) (inner := []) (ok := (fun k_ => ((P0_ k_ ∨ P2_ k_) ∨ w.heap.size ≤ k_) ∧ nO_ k_ v146)) (okp := (fun k_ => ((P0_ k_ ∨ P2_ k_) ∨ w.heap.size ≤ k_) ∧ nO_ k_ v146)) ?hr ?hp (fun _ hk => hk) ((show ∀ k_, w24.heap.size ≤ k_ → (fun k_ => ((P0_ k_ ∨ P2_ k_) ∨ w.heap.size ≤ k_) ∧ nO_ k_ v146) k_ from fun k_ hk => ⟨(.inr (Nat.le_trans (below_size (pH_ HB.out)) hk)), Kd.fresh' (Kd.R_lt (pL_ HO147.out)) k_ hk⟩) _ (Nat.le_refl _)) (Below.refl _ _) (Nat.le_refl _) (by simp) ?_; (case hd => rfl); (case hg => rfl); (case hr => first | (go_simp; done) | (go_simp; rfl)); (case hp => exact (Reps.none _ _)); intro v149 w25 ho26 hb hg_ hnew_; clear hg_ hnew_; (first | rw [← Ny148.out] at ho26 | (simp only [Int.reduceToNat] at ho26; rw [← Ny148.out] at ho26)); have n0_ := Aside0.mk (Kd.V_elder' (by (with_reducible repeat (first | apply Kd.V_alloc | apply Kd.V_drewN | apply Kd.V_drew)); exact HO_0.out) (by first | exact Kd.N_base ho26 | exact Kd.N_base (Kd.S_N ho26)) hb); have n1_ := Aside0.mk (Kd.V_elder' (by (with_reducible repeat (first | apply Kd.V_alloc | apply Kd.V_drewN | apply Kd.V_drew)); exact HO_2.out) (by first | exact Kd.N_base ho26 | exact Kd.N_base (Kd.S_N ho26)) hb); have n2_ := Aside0.mk (Kd.R_below (pL_ HO147.out) hb); have n3_ := Aside0.mk (Kd.N_lower ho26 (below_size (pH_ HB.out))); have n4_ := Aside0.mk (below_step (pH_ HB.out) hb); clear HO_0; clear HO_2; clear HO147; clear HB; have HO_0 := n0_; have HO_2 := n1_; have HO147 := n2_; have HO150 := n3_; have HB := n4_; clear n0_ n1_ n2_ n3_ n4_; clear hb ho26) | ((with_reducible refine gate_builtin (b := .append) (xs := #[.tmp 48, .tmp 49]) rfl ?_); (try (refine gate_guard (by rfl) ?_; dsimp only)); at_builtin; refine Kd.N_append_rows (Kd.slice 5 (Kd.int .u8)) (w0 := w) w.heap.size rfl (.tmp 48) (.tmp 49) 22 23 (.slice none 0 0) 24 rfl Tryd.underlying22 info23 rfl (by decide) (by omega) v149 y148 l0 _ _ _ (fun k_ => ((P0_ k_ ∨ P2_ k_) ∨ w.heap.size ≤ k_) ∧ nO_ k_ v146) (fun k_ => ((fun k_ => ((P0_ k_ ∨ P2_ k_) ∨ w.heap.size ≤ k_) ∧ nO_ k_ v146)) k_ ∧ nO_ k_ v149) rfl rfl ?aO ?aR (fun _ hk => hk) ?aF ?aB ?aS ?aL ?_; (case aR => exact (by skip; exact Kd.V_F (Kd.V_mono (ok' := (fun k_ => ((fun k_ => ((P0_ k_ ∨ P2_ k_) ∨ w.heap.size ≤ k_) ∧ nO_ k_ v146)) k_ ∧ nO_ k_ v149)) (HO_0.out) (fun k_ hk => ⟨⟨hk.1.1, hk.1.2⟩, hk.2⟩)))); (case aB => exact (pH_ HB.out)); (case aF => exact (fun k_ hk => ⟨(.inr (Nat.le_trans (below_size (pH_ HB.out)) hk)), Kd.fresh' (Kd.R_lt (pL_ HO147.out)) k_ hk⟩)); (case aO => exact (by (with_reducible repeat (first | apply Kd.N_alloc | apply Kd.N_drewN | apply Kd.N_drew)); exact HO150.out)); (case aS => exact (below_size (pH_ HB.out))); (case aL => have := LMc19.out; omega); intro v152 w27 ho hb hg hat; (try simp only [Int.reduceToNat] at ho); rw [← Ny151.out] at ho; have n0_ := Aside0.mk (Kd.V_afterv (ok := (fun k_ => ((P0_ k_ ∨ P2_ k_) ∨ w.heap.size ≤ k_) ∧ nO_ k_ v146)) (by (with_reducible repeat (first | apply Kd.V_alloc | apply Kd.V_drewN | apply Kd.V_drew)); exact HO_0.out) hg hat); have n1_ := Aside0.mk (Kd.V_afterv (ok := (fun k_ => ((P0_ k_ ∨ P2_ k_) ∨ w.heap.size ≤ k_) ∧ nO_ k_ v146)) (by (with_reducible repeat (first | apply Kd.V_alloc | apply Kd.V_drewN | apply Kd.V_drew)); exact HO_2.out) hg hat); have n2_ := Aside0.mk (Kd.R_over' (pL_ HO147.out) (Kd.N_typed (by (with_reducible repeat (first | apply Kd.N_alloc | apply Kd.N_drewN | apply Kd.N_drew)); exact HO150.out)) (by decide) hg); have n3_ := Aside0.mk (hb); have n4_ := Aside0.mk (ho); clear HO_0; clear HO_2; clear HO147; clear HB; clear HO150; have HO_0 := n0_; have HO_2 := n1_; have HO147 := n2_; have HB := n3_; have HO153 := n4_; clear n0_ n1_ n2_ n3_ n4_; clear ho hb hg hat; have p22 : 0 ≤ (a1 : Int) := of_decide_eq_true (by first | (with_reducible assumption) | assumption); have q22 : (a1 : Int) < ((y151.length : Int) : Int) := of_decide_eq_true (by first | (with_reducible assumption) | assumption); obtain ⟨go22, co22, eo22, gb22, gl22, cl22, HG22⟩ := Kd.N_form HO153.out (by omega); (first | cases eo22 | (injection eo22 with ea_ en_ ec_; (first | subst ea_ | (injection ea_ with ea_; subst ea_)); subst ec_; clear en_)); have GB22 := Aside0.mk gb22; have GG22 := Aside0.mk HG22; clear gb22 gl22 HG22; obtain ⟨ce22, hcl22, hM22, hcc22, hfr22⟩ := Kd.N_elem HO153.out [] (a1 : Int) p22 q22; obtain ⟨ua22_0, uc22_0, rfl, ul22_0, ge22_0⟩ := Kd.FK_slice_open hM22; have hx22_0 := hcc22 0 _ rfl; have hf22_0 := hfr22 0; (try simp only [show ((Kd.slice 5 (Kd.int .u8))).sz = 1 from rfl, Nat.mul_one, Nat.add_zero] at hx22_0); (try simp only [show ((Kd.slice 5 (Kd.int .u8))).sz = 1 from rfl, Nat.mul_one, Nat.add_zero] at hf22_0); clear hcl22 hcc22 hfr22 hM22; replace p22 := eq_true p22; replace q22 := eq_true q22; have HX28 := Aside0.mk (show Kd.N (Kd.slice 5 (Kd.int .u8)) 23 w27 w.heap.size (fun k_ => ((P0_ k_ ∨ P2_ k_) ∨ w.heap.size ≤ k_) ∧ nO_ k_ v146) (.slice (some ⟨go22, 0, none⟩) y151.length co22) y151 from (by (with_reducible repeat (first | apply Kd.N_alloc | apply Kd.N_drewN | apply Kd.N_drew)); exact HO153.out)); obtain ⟨ce28, hcl28, hM28, hcc28, hfr28⟩ := Kd.N_elem HX28.out [] (a1 : Int) (of_decide_eq_true (by first | (with_reducible assumption) | assumption)) (by have h_ : (a1 : Int) < ((y151.length : Int) : Int) := of_decide_eq_true (by first | (with_reducible assumption) | assumption); first | exact h_ | (have e_ := (Kd.N_reads' HO153.out).1; omega) | simpa using h_); obtain ⟨ua28_0, uc28_0, rfl, ul28_0, ge28_0⟩ := Kd.FK_slice_open hM28; have HP28 := Kd.N_seg HX28.out (a1 : Int) (of_decide_eq_true (by first | (with_reducible assumption) | assumption)) (by have h_ : (a1 : Int) < ((y151.length : Int) : Int) := of_decide_eq_true (by first | (with_reducible assumption) | assumption); first | exact h_ | (have e_ := (Kd.N_reads' HO153.out).1; omega) | simpa using h_) (seg := [.slice A2 l2.length c2]) (j := 0) hcl28 hcc28 (show 1 ≤ 1 from by decide) (x' := l2) (Kd.FK_slice_mk (Kd.V_reads' (Kd.V_mono (ok' := (fun k_ => ((fun k_ => ((P0_ k_ ∨ P2_ k_) ∨ w.heap.size ≤ k_) ∧ nO_ k_ v146)) k_ ∧ k_ ≠ go22)) (HO_2.out) (fun k_ hk => ⟨⟨hk.1.1, hk.1.2⟩, fun e_ => (hk.2) (by rw [e_]; rfl)⟩))).2.1 (Kd.V_F (Kd.V_mono (ok' := (fun k_ => ((fun k_ => ((P0_ k_ ∨ P2_ k_) ∨ w.heap.size ≤ k_) ∧ nO_ k_ v146)) k_ ∧ k_ ≠ go22)) (HO_2.out) (fun k_ hk => ⟨⟨hk.1.1, hk.1.2⟩, fun e_ => (hk.2) (by rw [e_]; rfl)⟩)))) (fun _ hk => hk); have hx28_0 := hcc28 0 _ rfl; (try simp only [show ((Kd.slice 5 (Kd.int .u8))).sz = 1 from rfl, Nat.mul_one, Nat.add_zero] at hx28_0); have hf28_0 := hfr28 0; (try simp only [show ((Kd.slice 5 (Kd.int .u8))).sz = 1 from rfl, Nat.mul_one, Nat.add_zero] at hf28_0); clear hcl28 hcc28 hfr28 hM28; (try simp only [show ((Kd.slice 5 (Kd.int .u8))).sz = 1 from rfl, Nat.mul_one, Nat.add_zero] at HP28); (try simp only [show ((Kd.slice 5 (Kd.int .u8))).sz = 1 from rfl, Nat.mul_one, Nat.add_zero] at HP28)) | ((with_reducible refine gate_store (t := 23) (p := 54) rfl ?_); (try (rw [drewN_self w27]; generalize hq_ : World.drewN w27 _ = w27; have n0_ := Aside0.mk (Kd.V_at hq_ HO_0.out); have n1_ := Aside0.mk (Kd.V_at hq_ HO_2.out); have n2_ := Aside0.mk (Kd.R_at hq_ HO147.out); have n3_ := Aside0.mk (Kd.N_at hq_ HO153.out); have n4_ := Aside0.mk (below_at hq_ HB.out); clear hq_ HO_0 HO_2 HO147 HO153 HB; have HO_0 := n0_; have HO_2 := n1_; have HO147 := n2_; have HO153 := n3_; have HB := n4_; clear n0_ n1_ n2_ n3_ n4_; (try (have HX28 := Aside0.mk (show Kd.N (Kd.slice 5 (Kd.int .u8)) 23 w27 w.heap.size (fun k_ => ((P0_ k_ ∨ P2_ k_) ∨ w.heap.size ≤ k_) ∧ nO_ k_ v146) (.slice (some ⟨go22, 0, none⟩) y151.length co22) y151 from (by (with_reducible repeat (first | apply Kd.N_alloc | apply Kd.N_drewN | apply Kd.N_drew)); exact HO153.out)))); (try (obtain ⟨ce28, hcl28, hM28, hcc28, hfr28⟩ := Kd.N_elem HX28.out [] (a1 : Int) (of_decide_eq_true (by first | (with_reducible assumption) | assumption)) (by have h_ : (a1 : Int) < ((y151.length : Int) : Int) := of_decide_eq_true (by first | (with_reducible assumption) | assumption); first | exact h_ | (have e_ := (Kd.N_reads' HO153.out).1; omega) | simpa using h_))); (try (obtain ⟨ua28_0, uc28_0, rfl, ul28_0, ge28_0⟩ := Kd.FK_slice_open hM28)); (try (have HP28 := Kd.N_seg HX28.out (a1 : Int) (of_decide_eq_true (by first | (with_reducible assumption) | assumption)) (by have h_ : (a1 : Int) < ((y151.length : Int) : Int) := of_decide_eq_true (by first | (with_reducible assumption) | assumption); first | exact h_ | (have e_ := (Kd.N_reads' HO153.out).1; omega) | simpa using h_) (seg := [.slice A2 l2.length c2]) (j := 0) hcl28 hcc28 (show 1 ≤ 1 from by decide) (x' := l2) (Kd.FK_slice_mk (Kd.V_reads' (Kd.V_mono (ok' := (fun k_ => ((fun k_ => ((P0_ k_ ∨ P2_ k_) ∨ w.heap.size ≤ k_) ∧ nO_ k_ v146)) k_ ∧ k_ ≠ go22)) (HO_2.out) (fun k_ hk => ⟨⟨hk.1.1, hk.1.2⟩, fun e_ => (hk.2) (by rw [e_]; rfl)⟩))).2.1 (Kd.V_F (Kd.V_mono (ok' := (fun k_ => ((fun k_ => ((P0_ k_ ∨ P2_ k_) ∨ w.heap.size ≤ k_) ∧ nO_ k_ v146)) k_ ∧ k_ ≠ go22)) (HO_2.out) (fun k_ hk => ⟨⟨hk.1.1, hk.1.2⟩, fun e_ => (hk.2) (by rw [e_]; rfl)⟩)))) (fun _ hk => hk))); (try (have hx28_0 := hcc28 0 _ rfl)); (try (try simp only [show ((Kd.slice 5 (Kd.int .u8))).sz = 1 from rfl, Nat.mul_one, Nat.add_zero] at hx28_0)); (try (have hf28_0 := hfr28 0)); (try (try simp only [show ((Kd.slice 5 (Kd.int .u8))).sz = 1 from rfl, Nat.mul_one, Nat.add_zero] at hf28_0)); (try (clear hcl28 hcc28 hfr28 hM28)); (try (try simp only [show ((Kd.slice 5 (Kd.int .u8))).sz = 1 from rfl, Nat.mul_one, Nat.add_zero] at HP28)); (try (try simp only [show ((Kd.slice 5 (Kd.int .u8))).sz = 1 from rfl, Nat.mul_one, Nat.add_zero] at HP28)))); refine store_event (t := 23) (p := 54) (v := ?vo_w29) (w1 := (w27.setCell ⟨go22, (a1 : Int).toNat, none⟩ (.slice A2 l2.length c2))) ?hg ?ho ?hn ?hr ?_; (case ho => rfl); (case hg => rfl); (case hn => rfl); (case hr => first | (go_simp; done) | (go_simp; rfl)); intro w29 hw; have hg : w27.grownBy w29 (some go22) := (by rw [hw]; exact HP28.2); have hp_ : Kd.N (Kd.slice 5 (Kd.int .u8)) 23 w29 w.heap.size (fun k_ => ((P0_ k_ ∨ P2_ k_) ∨ w.heap.size ≤ k_) ∧ nO_ k_ v146) (.slice (some ⟨go22, 0, none⟩) y151.length co22) y154 := (by rw [hw, Ny154.out]; exact HP28.1); clear HP28; have n0_ := Aside0.mk (Kd.V_afterv (v := (.slice (some ⟨go22, 0, none⟩) y151.length co22)) (v1 := (.slice (some ⟨go22, 0, none⟩) y151.length co22)) (ok := (fun k_ => ((P0_ k_ ∨ P2_ k_) ∨ w.heap.size ≤ k_) ∧ nO_ k_ v146)) (by (with_reducible repeat (first | apply Kd.V_alloc | apply Kd.V_drewN | apply Kd.V_drew)); exact HO_0.out) hg (.inl rfl)); have n1_ := Aside0.mk (Kd.V_afterv (v := (.slice (some ⟨go22, 0, none⟩) y151.length co22)) (v1 := (.slice (some ⟨go22, 0, none⟩) y151.length co22)) (ok := (fun k_ => ((P0_ k_ ∨ P2_ k_) ∨ w.heap.size ≤ k_) ∧ nO_ k_ v146)) (by (with_reducible repeat (first | apply Kd.V_alloc | apply Kd.V_drewN | apply Kd.V_drew)); exact HO_2.out) hg (.inl rfl)); have n2_ := Aside0.mk (Kd.R_over' (v := (.slice (some ⟨go22, 0, none⟩) y151.length co22)) (pL_ HO147.out) (Kd.N_typed HO153.out) (by decide) hg); have n3_ := Aside0.mk (hp_); have n4_ := Aside0.mk ((by rw [hw]; exact below_set (HB.out) GB22.out : Below w.heap.size w w29)); clear HO_0; clear HO_2; clear HO147; clear HO153; clear HB; have HO_0 := n0_; have HO_2 := n1_; have HO147 := n2_; have HO153 := n3_; have HB := n4_; clear n0_ n1_ n2_ n3_ n4_; clear hg hw hp_; obtain ⟨Ao30, co30, eo30⟩ := Kd.R_slice HO147.out; subst eo30) | (go_at_call 11; refine calls_of_args (args' := #[.slice (some ⟨go22, 0, none⟩) y154.length co22, .int .i64 a1, .slice Ao30 t144.length co30]) (by first | (rw [show y154.length = y151.length from (Kd.N_reads' HO153.out).1.symm] <;> rfl) | rfl) ?_; (with_reducible refine (parity_Repair.calls _ _ y154 a1 _ _ t144 t155 t156 _ ?side1 ?side2 ?side3 ?side4 A23.out).mono ?_); (case side1 => repeat (first | exact (Kd.N_reads' HO153.out).2.2 | (with_reducible refine Kd.C_alloc ?_ _) | (with_reducible refine Kd.C_drewN ?_ _) | (with_reducible refine Kd.C_drew ?_))); (case side2 => rw [show y154.length = y151.length from (Kd.N_reads' HO153.out).1.symm]; exact (Kd.N_reads' HO153.out).2.1); (case side3 => repeat (first | exact (Kd.R_reads' HO147.out).2.2 | (with_reducible refine Kd.C_alloc ?_ _) | (with_reducible refine Kd.C_drewN ?_ _) | (with_reducible refine Kd.C_drew ?_))); (case side4 => exact (Kd.R_reads' HO147.out).2.1); rintro e w31 ⟨v157, rfl, ho0, hb⟩; have n0_ := Aside0.mk (Kd.V_elder' (by (with_reducible repeat (first | apply Kd.V_alloc | apply Kd.V_drewN | apply Kd.V_drew)); exact HO_0.out) (Kd.Q_base ho0) hb); have n1_ := Aside0.mk (Kd.V_elder' (by (with_reducible repeat (first | apply Kd.V_alloc | apply Kd.V_drewN | apply Kd.V_drew)); exact HO_2.out) (Kd.Q_base ho0) hb); have n2_ := Aside0.mk (Kd.R_elder' (pL_ HO147.out) (Kd.Q_base ho0) hb); have n3_ := Aside0.mk (Kd.N_elder' (by (with_reducible repeat (first | apply Kd.N_alloc | apply Kd.N_drewN | apply Kd.N_drew)); exact HO153.out) (Kd.Q_base ho0) hb); have n4_ := Aside0.mk (Kd.Q_lower (Kd.Q_new' (Kd.Q_newM (M := fun k_ => (w.heap.size ≤ k_)) ho0 (below_size (pH_ HB.out)) (fun k_ h_ => h_)) (Kd.R_lt (pL_ HO147.out))) (below_size (pH_ HB.out))); have n5_ := Aside0.mk (below_step (pH_ HB.out) hb); clear HO_0; clear HO_2; clear HO147; clear HO153; clear HB; have HO_0 := n0_; have HO_2 := n1_; have HO147 := n2_; have HO153 := n3_; have HO158 := n4_; have HB := n5_; clear n0_ n1_ n2_ n3_ n4_ n5_; (try clear hb); (try clear ho0))))
       go_loopg [13, 14] kj4 (fun kq v13 v14 w' => ∃ (x13_2 : List (List Int)) (x14_2 : Int), v14 = .int .i64 x14_2 ∧ Aside0 (bitloftlaw42_ParityRepairs.l0 kq l0 a1 t142 t144 t145 t155 t156 x13_2 x14_2 = some r) ∧ Aside0 (kq ≤ kj4) ∧ Aside0 (Kd.V (Kd.slice 5 (Kd.int .u8)) 23 w' w.heap.size (fun k_ => ((P0_ k_ ∨ P2_ k_) ∨ w.heap.size ≤ k_) ∧ some k_ ≠ ((.slice Ao30 t144.length co30) : Value).ownBlock ∧ nO_ k_ v157 ∧ nO_ k_ v13) (.slice A0 l0.length c0) l0) ∧ Aside0 (Kd.R (Kd.int .u8) 5 w' w.heap.size (fun k_ => (w.heap.size ≤ k_) ∧ nO_ k_ v157) (.slice Ao30 t144.length co30) t144) ∧ Aside0 (Kd.Q (Kd.int .u8) 5 w' w.heap.size (fun k_ => (w.heap.size ≤ k_) ∧ some k_ ≠ ((.slice Ao30 t144.length co30) : Value).ownBlock) v157 t155) ∧ Aside0 (Kd.N (Kd.slice 5 (Kd.int .u8)) 23 w' w.heap.size (fun k_ => ((P0_ k_ ∨ P2_ k_) ∨ w.heap.size ≤ k_) ∧ some k_ ≠ ((.slice Ao30 t144.length co30) : Value).ownBlock ∧ nO_ k_ v157) v13 x13_2) ∧ Aside0 (Below w.heap.size w w'))
       case atStart => exact ⟨(([] : List (List Int))), (wrap64 ((l0.length : Int) - 1)), (by first | rfl | (simp; done) | (simp [*]; done)), H', ⟨Nat.le_refl _⟩, ⟨by (with_reducible repeat (first | apply Kd.V_alloc | apply Kd.V_drewN | apply Kd.V_drew)); exact Kd.V_mono HO_0.out (fun _ hk => ⟨hk.1.1.1, ⟨hk.1.1.2, ⟨hk.2, (by simp [Value.ownBlock])⟩⟩⟩)⟩, ⟨by (with_reducible repeat (first | apply rA_ | apply rN_ | apply rD_)); exact Kd.R_mono HO147.out (fun _ hk => ⟨hk.1.1, hk.2⟩)⟩, ⟨by (with_reducible repeat (first | apply Kd.Q_alloc | apply Kd.Q_drewN | apply Kd.Q_drew)); exact Kd.Q_mono HO158.out (fun _ hk => ⟨hk.1.1, hk.2⟩)⟩, ⟨by first | exact Kd.S_nil _ _ _ _ _ | exact Kd.N_nil _ _ _ _ _ | exact Kd.V_nil _ _ _ _ _ | exact Kd.Q_nil _ _ _ _ _ | exact Kd.R_nil _ _ _ _ _⟩, ⟨pH_ HB.out⟩⟩
       case round =>
        clear H'
        try clear c1
        try clear c2
        try clear p2
        try clear q2
        try clear hx2
        try clear c3
        try clear p6
        try clear c8
        try clear c9
        try clear c9b0
        try clear c11
        try clear c11b0
        try clear c13
        try clear c13b0
        try clear c13b1
        try clear c17
        try clear c19
        try clear c20
        try clear c20b0
        try clear c21
        try clear c21b0
        try clear c22
        try clear p22
        try clear q22
        try clear hx22
        try clear hf22
        try clear c28
        try clear hx28
        try clear hf28
        try clear hx22_0
        try clear hx28_0
        try clear p2
        try clear p22
        try clear q22
        obtain ⟨x13_2, x14_2, rfl, HA, HK2, HO_0, HO_8, HO_11, HO_13, HB⟩ := hrel
        cases gk with
        | zero => exact absurd HA.out (by simp [bitloftlaw42_ParityRepairs.l0])
        | succ k2 =>
         have H := HA.out; clear HA; simp only [bitloftlaw42_ParityRepairs.l0] at H
         by_cases c32 : x14_2 ≥ 0
         ·
          rw [if_pos c32] at H; have c32b0 : decide (0 ≤ x14_2) = true := decide_eq_true c32; clear c32
          by_cases c33 : 0 ≤ x14_2
          ·
           rw [if_pos c33] at H; have c33b0 : decide (0 ≤ x14_2) = true := decide_eq_true c33; clear c33
           by_cases c34 : x14_2 < (l0.length : Int)
           ·
            rw [if_pos c34] at H; have c34b0 : decide (x14_2 < (l0.length : Int)) = true := decide_eq_true c34; clear c34
            by_cases c35 : x13_2.length < 5864062014805
            ·
             rw [if_pos c35] at H; have LMc35 := Aside0.mk c35; clear c35; obtain ⟨y160, hy160⟩ : ∃ y_ : List (List Int), y_ = (x13_2 ++ [rd_L1 l0 x14_2]) := ⟨_, rfl⟩
             replace H : (bitloftlaw42_ParityRepairs.l0 k2 l0 a1 t142 t144 t145 t155 t156 y160 (wrap64 (x14_2 - 1))) = some r := by first | (rw [hy160]; with_reducible exact H) | (have H2_ := (Option.bind_some _ _).symm.trans H; rw [hy160]; with_reducible exact H2_) | (have H2_ := (Option.bind_some _ _).symm.trans H; with_reducible exact H2_) | with_reducible exact H | (rw [hy160]; exact H) | exact H
             have Ny160 := Aside0.mk hy160; clear hy160; have H' := Aside0.mk H; clear H; have p159 : 0 ≤ (x14_2 : Int) := of_decide_eq_true (by first | (with_reducible assumption) | assumption); have q159 : x14_2 < (l0.length : Int) := of_decide_eq_true (by first | (with_reducible assumption) | assumption); obtain ⟨ad159, A159_0, c159_0, e159, hx159_0, hl159_0, hi159_0⟩ := at_L1 (Kd.V_reads' HO_0.out).2.2 x14_2 p159 q159
             cases e159
             obtain ⟨ce159, hce159, hMe159, hcc159⟩ := Kd.V_get HO_0.out [] x14_2 p159 (by first | exact q159 | exact of_decide_eq_true (by first | (with_reducible assumption) | assumption) | (have e_ := (Kd.V_reads' HO_0.out).1; omega)); obtain ⟨ua159_0, uc159_0, rfl, ul159_0, ge159_0⟩ := Kd.FK_slice_open hMe159; have hv159_0 := hcc159 0 _ rfl; rw [Nat.add_zero, show ((Kd.slice 5 (Kd.int .u8))).sz = 1 from rfl, Nat.mul_one] at hv159_0; replace hv159_0 := Option.some.inj (hv159_0.symm.trans hx159_0)
             injection hv159_0 with hva_ hvn_ hvc_
             rw [hva_] at ge159_0; rw [hvc_] at ul159_0; have HL159_0 := Aside0.mk (show Kd.V (Kd.int .u8) 5 _ w.heap.size _ _ (rd_L1 l0 x14_2) from Kd.V_mk ul159_0 ge159_0); clear hva_ hvn_ hvc_ ge159_0 ul159_0; clear hcc159 hce159; have HR159_0 := Aside0.mk hi159_0; have HC159_0 := Aside0.mk hl159_0; clear hi159_0 hl159_0; replace p159 := eq_true p159; replace q159 := eq_true q159
             go_wp2_with (first | ((with_reducible refine gate_builtin (b := .append) (xs := #[.tmp 69, .tmp 74]) rfl ?_); (try (refine gate_guard (by rfl) ?_; dsimp only)); at_builtin; refine Kd.N_append (Kd.slice 5 (Kd.int .u8)) (w0 := w) w.heap.size rfl (.tmp 69) (.tmp 74) 22 23 (.slice none 0 0) 24 rfl Tryd.underlying22 info23 rfl (by decide) (by omega) u13 x13_2 (rd_L1 l0 x14_2) [.slice A159_0 (rd_L1 l0 x14_2).length c159_0] (fun k_ => ((P0_ k_ ∨ P2_ k_) ∨ w.heap.size ≤ k_) ∧ nO_ k_ (.slice Ao30 t144.length co30) ∧ nO_ k_ v157) (fun k_ => ((fun k_ => ((P0_ k_ ∨ P2_ k_) ∨ w.heap.size ≤ k_) ∧ nO_ k_ (.slice Ao30 t144.length co30) ∧ nO_ k_ v157)) k_ ∧ nO_ k_ u13) rfl rfl ?aP (fun _ hk => hk) ?aF ?aO ?aB ?aS ?aL ?_; (case aP => exact (Kd.FK_slice_mk (Kd.V_reads' (Kd.V_mono (ok' := (fun k_ => ((fun k_ => ((P0_ k_ ∨ P2_ k_) ∨ w.heap.size ≤ k_) ∧ nO_ k_ (.slice Ao30 t144.length co30) ∧ nO_ k_ v157)) k_ ∧ nO_ k_ u13)) (HL159_0.out) (fun k_ hk => ⟨⟨hk.1, ⟨hk.2.1, hk.2.2.1⟩⟩, hk.2.2.2⟩))).2.1 (Kd.V_F (Kd.V_mono (ok' := (fun k_ => ((fun k_ => ((P0_ k_ ∨ P2_ k_) ∨ w.heap.size ≤ k_) ∧ nO_ k_ (.slice Ao30 t144.length co30) ∧ nO_ k_ v157)) k_ ∧ nO_ k_ u13)) (HL159_0.out) (fun k_ hk => ⟨⟨hk.1, ⟨hk.2.1, hk.2.2.1⟩⟩, hk.2.2.2⟩))))); (case aB => exact (pH_ HB.out)); (case aF => exact (fun k_ hk => ⟨(.inr (Nat.le_trans (below_size (pH_ HB.out)) hk)), Kd.fresh' (Kd.R_lt (pL_ HO_8.out)) k_ hk, Kd.fresh' (Kd.Q_lt (pQ_ HO_11.out)) k_ hk⟩)); (case aO => exact (by (with_reducible repeat (first | apply Kd.N_alloc | apply Kd.N_drewN | apply Kd.N_drew)); exact HO_13.out)); (case aS => exact (below_size (pH_ HB.out))); (case aL => have := LMc35.out; omega); intro v161 w36 ho hb hg hat; (try simp only [Int.reduceToNat] at ho); rw [← Ny160.out] at ho; have n0_ := Aside0.mk (Kd.V_afterv (ok := (fun k_ => ((P0_ k_ ∨ P2_ k_) ∨ w.heap.size ≤ k_) ∧ nO_ k_ (.slice Ao30 t144.length co30) ∧ nO_ k_ v157)) (by (with_reducible repeat (first | apply Kd.V_alloc | apply Kd.V_drewN | apply Kd.V_drew)); exact Kd.V_mono HO_0.out (fun _ hk => ⟨⟨hk.1, ⟨hk.2.1, hk.2.2.1⟩⟩, hk.2.2.2⟩)) hg hat); have n1_ := Aside0.mk (Kd.R_over' (pL_ HO_8.out) (Kd.N_typed (by (with_reducible repeat (first | apply Kd.N_alloc | apply Kd.N_drewN | apply Kd.N_drew)); exact HO_13.out)) (by decide) hg); have n2_ := Aside0.mk (Kd.Q_over' (d := (Kd.int .u8)) (e := 5) (pQ_ HO_11.out) (Kd.N_typed (by (with_reducible repeat (first | apply Kd.N_alloc | apply Kd.N_drewN | apply Kd.N_drew)); exact HO_13.out)) (by decide) hg); have n3_ := Aside0.mk (Kd.V_afterv (ok := (fun k_ => ((P0_ k_ ∨ P2_ k_) ∨ w.heap.size ≤ k_) ∧ nO_ k_ (.slice Ao30 t144.length co30) ∧ nO_ k_ v157)) (by (with_reducible repeat (first | apply Kd.V_alloc | apply Kd.V_drewN | apply Kd.V_drew)); exact Kd.V_mono HL159_0.out (fun _ hk => ⟨⟨hk.1, ⟨hk.2.1, hk.2.2.1⟩⟩, hk.2.2.2⟩)) hg hat); have n4_ := Aside0.mk (hb); have n5_ := Aside0.mk (ho); clear HO_0; clear HO_8; clear HO_11; clear HL159_0; clear HB; clear HO_13; have HO_0 := n0_; have HO_8 := n1_; have HO_11 := n2_; have HL159_0 := n3_; have HB := n4_; have HO162 := n5_; clear n0_ n1_ n2_ n3_ n4_ n5_; clear ho hb hg hat))
             repeat (go_quiet (first | ((with_reducible refine gate_builtin (b := .append) (xs := #[.tmp 69, .tmp 74]) rfl ?_); (try (refine gate_guard (by rfl) ?_; dsimp only)); at_builtin; refine Kd.N_append (Kd.slice 5 (Kd.int .u8)) (w0 := w) w.heap.size rfl (.tmp 69) (.tmp 74) 22 23 (.slice none 0 0) 24 rfl Tryd.underlying22 info23 rfl (by decide) (by omega) u13 x13_2 (rd_L1 l0 x14_2) [.slice A159_0 (rd_L1 l0 x14_2).length c159_0] (fun k_ => ((P0_ k_ ∨ P2_ k_) ∨ w.heap.size ≤ k_) ∧ nO_ k_ (.slice Ao30 t144.length co30) ∧ nO_ k_ v157) (fun k_ => ((fun k_ => ((P0_ k_ ∨ P2_ k_) ∨ w.heap.size ≤ k_) ∧ nO_ k_ (.slice Ao30 t144.length co30) ∧ nO_ k_ v157)) k_ ∧ nO_ k_ u13) rfl rfl ?aP (fun _ hk => hk) ?aF ?aO ?aB ?aS ?aL ?_; (case aP => exact (Kd.FK_slice_mk (Kd.V_reads' (Kd.V_mono (ok' := (fun k_ => ((fun k_ => ((P0_ k_ ∨ P2_ k_) ∨ w.heap.size ≤ k_) ∧ nO_ k_ (.slice Ao30 t144.length co30) ∧ nO_ k_ v157)) k_ ∧ nO_ k_ u13)) (HL159_0.out) (fun k_ hk => ⟨⟨hk.1, ⟨hk.2.1, hk.2.2.1⟩⟩, hk.2.2.2⟩))).2.1 (Kd.V_F (Kd.V_mono (ok' := (fun k_ => ((fun k_ => ((P0_ k_ ∨ P2_ k_) ∨ w.heap.size ≤ k_) ∧ nO_ k_ (.slice Ao30 t144.length co30) ∧ nO_ k_ v157)) k_ ∧ nO_ k_ u13)) (HL159_0.out) (fun k_ hk => ⟨⟨hk.1, ⟨hk.2.1, hk.2.2.1⟩⟩, hk.2.2.2⟩))))); (case aB => exact (pH_ HB.out)); (case aF => exact (fun k_ hk => ⟨(.inr (Nat.le_trans (below_size (pH_ HB.out)) hk)), Kd.fresh' (Kd.R_lt (pL_ HO_8.out)) k_ hk, Kd.fresh' (Kd.Q_lt (pQ_ HO_11.out)) k_ hk⟩)); (case aO => exact (by (with_reducible repeat (first | apply Kd.N_alloc | apply Kd.N_drewN | apply Kd.N_drew)); exact HO_13.out)); (case aS => exact (below_size (pH_ HB.out))); (case aL => have := LMc35.out; omega); intro v161 w36 ho hb hg hat; (try simp only [Int.reduceToNat] at ho); rw [← Ny160.out] at ho; have n0_ := Aside0.mk (Kd.V_afterv (ok := (fun k_ => ((P0_ k_ ∨ P2_ k_) ∨ w.heap.size ≤ k_) ∧ nO_ k_ (.slice Ao30 t144.length co30) ∧ nO_ k_ v157)) (by (with_reducible repeat (first | apply Kd.V_alloc | apply Kd.V_drewN | apply Kd.V_drew)); exact Kd.V_mono HO_0.out (fun _ hk => ⟨⟨hk.1, ⟨hk.2.1, hk.2.2.1⟩⟩, hk.2.2.2⟩)) hg hat); have n1_ := Aside0.mk (Kd.R_over' (pL_ HO_8.out) (Kd.N_typed (by (with_reducible repeat (first | apply Kd.N_alloc | apply Kd.N_drewN | apply Kd.N_drew)); exact HO_13.out)) (by decide) hg); have n2_ := Aside0.mk (Kd.Q_over' (d := (Kd.int .u8)) (e := 5) (pQ_ HO_11.out) (Kd.N_typed (by (with_reducible repeat (first | apply Kd.N_alloc | apply Kd.N_drewN | apply Kd.N_drew)); exact HO_13.out)) (by decide) hg); have n3_ := Aside0.mk (Kd.V_afterv (ok := (fun k_ => ((P0_ k_ ∨ P2_ k_) ∨ w.heap.size ≤ k_) ∧ nO_ k_ (.slice Ao30 t144.length co30) ∧ nO_ k_ v157)) (by (with_reducible repeat (first | apply Kd.V_alloc | apply Kd.V_drewN | apply Kd.V_drew)); exact Kd.V_mono HL159_0.out (fun _ hk => ⟨⟨hk.1, ⟨hk.2.1, hk.2.2.1⟩⟩, hk.2.2.2⟩)) hg hat); have n4_ := Aside0.mk (hb); have n5_ := Aside0.mk (ho); clear HO_0; clear HO_8; clear HO_11; clear HL159_0; clear HB; clear HO_13; have HO_0 := n0_; have HO_8 := n1_; have HO_11 := n2_; have HL159_0 := n3_; have HB := n4_; have HO162 := n5_; clear n0_ n1_ n2_ n3_ n4_ n5_; clear ho hb hg hat)); try go_wp2_with (first | ((with_reducible refine gate_builtin (b := .append) (xs := #[.tmp 69, .tmp 74]) rfl ?_); (try (refine gate_guard (by rfl) ?_; dsimp only)); at_builtin; refine Kd.N_append (Kd.slice 5 (Kd.int .u8)) (w0 := w) w.heap.size rfl (.tmp 69) (.tmp 74) 22 23 (.slice none 0 0) 24 rfl Tryd.underlying22 info23 rfl (by decide) (by omega) u13 x13_2 (rd_L1 l0 x14_2) [.slice A159_0 (rd_L1 l0 x14_2).length c159_0] (fun k_ => ((P0_ k_ ∨ P2_ k_) ∨ w.heap.size ≤ k_) ∧ nO_ k_ (.slice Ao30 t144.length co30) ∧ nO_ k_ v157) (fun k_ => ((fun k_ => ((P0_ k_ ∨ P2_ k_) ∨ w.heap.size ≤ k_) ∧ nO_ k_ (.slice Ao30 t144.length co30) ∧ nO_ k_ v157)) k_ ∧ nO_ k_ u13) rfl rfl ?aP (fun _ hk => hk) ?aF ?aO ?aB ?aS ?aL ?_; (case aP => exact (Kd.FK_slice_mk (Kd.V_reads' (Kd.V_mono (ok' := (fun k_ => ((fun k_ => ((P0_ k_ ∨ P2_ k_) ∨ w.heap.size ≤ k_) ∧ nO_ k_ (.slice Ao30 t144.length co30) ∧ nO_ k_ v157)) k_ ∧ nO_ k_ u13)) (HL159_0.out) (fun k_ hk => ⟨⟨hk.1, ⟨hk.2.1, hk.2.2.1⟩⟩, hk.2.2.2⟩))).2.1 (Kd.V_F (Kd.V_mono (ok' := (fun k_ => ((fun k_ => ((P0_ k_ ∨ P2_ k_) ∨ w.heap.size ≤ k_) ∧ nO_ k_ (.slice Ao30 t144.length co30) ∧ nO_ k_ v157)) k_ ∧ nO_ k_ u13)) (HL159_0.out) (fun k_ hk => ⟨⟨hk.1, ⟨hk.2.1, hk.2.2.1⟩⟩, hk.2.2.2⟩))))); (case aB => exact (pH_ HB.out)); (case aF => exact (fun k_ hk => ⟨(.inr (Nat.le_trans (below_size (pH_ HB.out)) hk)), Kd.fresh' (Kd.R_lt (pL_ HO_8.out)) k_ hk, Kd.fresh' (Kd.Q_lt (pQ_ HO_11.out)) k_ hk⟩)); (case aO => exact (by (with_reducible repeat (first | apply Kd.N_alloc | apply Kd.N_drewN | apply Kd.N_drew)); exact HO_13.out)); (case aS => exact (below_size (pH_ HB.out))); (case aL => have := LMc35.out; omega); intro v161 w36 ho hb hg hat; (try simp only [Int.reduceToNat] at ho); rw [← Ny160.out] at ho; have n0_ := Aside0.mk (Kd.V_afterv (ok := (fun k_ => ((P0_ k_ ∨ P2_ k_) ∨ w.heap.size ≤ k_) ∧ nO_ k_ (.slice Ao30 t144.length co30) ∧ nO_ k_ v157)) (by (with_reducible repeat (first | apply Kd.V_alloc | apply Kd.V_drewN | apply Kd.V_drew)); exact Kd.V_mono HO_0.out (fun _ hk => ⟨⟨hk.1, ⟨hk.2.1, hk.2.2.1⟩⟩, hk.2.2.2⟩)) hg hat); have n1_ := Aside0.mk (Kd.R_over' (pL_ HO_8.out) (Kd.N_typed (by (with_reducible repeat (first | apply Kd.N_alloc | apply Kd.N_drewN | apply Kd.N_drew)); exact HO_13.out)) (by decide) hg); have n2_ := Aside0.mk (Kd.Q_over' (d := (Kd.int .u8)) (e := 5) (pQ_ HO_11.out) (Kd.N_typed (by (with_reducible repeat (first | apply Kd.N_alloc | apply Kd.N_drewN | apply Kd.N_drew)); exact HO_13.out)) (by decide) hg); have n3_ := Aside0.mk (Kd.V_afterv (ok := (fun k_ => ((P0_ k_ ∨ P2_ k_) ∨ w.heap.size ≤ k_) ∧ nO_ k_ (.slice Ao30 t144.length co30) ∧ nO_ k_ v157)) (by (with_reducible repeat (first | apply Kd.V_alloc | apply Kd.V_drewN | apply Kd.V_drew)); exact Kd.V_mono HL159_0.out (fun _ hk => ⟨⟨hk.1, ⟨hk.2.1, hk.2.2.1⟩⟩, hk.2.2.2⟩)) hg hat); have n4_ := Aside0.mk (hb); have n5_ := Aside0.mk (ho); clear HO_0; clear HO_8; clear HO_11; clear HL159_0; clear HB; clear HO_13; have HO_0 := n0_; have HO_8 := n1_; have HO_11 := n2_; have HL159_0 := n3_; have HB := n4_; have HO162 := n5_; clear n0_ n1_ n2_ n3_ n4_ n5_; clear ho hb hg hat)))
             go_roundg k2
             case measure => have := HJ4.out; have := HK2.out; omega
             case rel => exact ⟨(y160), (wrap64 (x14_2 - 1)), (by first | rfl | (simp; done) | (simp [*]; done)), H', ⟨by have := HJ4.out; have := HK2.out; omega⟩, ⟨by (with_reducible repeat (first | apply Kd.V_alloc | apply Kd.V_drewN | apply Kd.V_drew)); exact Kd.V_mono HO_0.out (fun _ hk => ⟨hk.1.1, ⟨hk.1.2.1, ⟨hk.1.2.2, hk.2⟩⟩⟩)⟩, ⟨pL_ HO_8.out⟩, ⟨pQ_ HO_11.out⟩, ⟨by (with_reducible repeat (first | apply Kd.N_alloc | apply Kd.N_drewN | apply Kd.N_drew)); exact HO162.out⟩, ⟨pH_ HB.out⟩⟩
            ·
             rw [if_neg c35] at H; exact absurd H (by simp)
           ·
            rw [if_neg c34] at H; exact absurd H (by simp)
          ·
           rw [if_neg c33] at H; exact absurd H (by simp)
         ·
          rw [if_neg c32] at H; have c32b0 : decide (0 ≤ x14_2) = false := decide_eq_false c32; clear c32; replace H := Option.bind_eq_some_iff.mp H; obtain ⟨⟨t163, t164⟩, A370, H⟩ := H; replace H : (if 0 ≤ a1 then (if a1 ≤ (wrap64 (a1 + 1)) then (if (wrap64 (a1 + 1)) ≤ (l0.length : Int) then ((parity_Of.f ((l0.take ((wrap64 (a1 + 1)) : Int).toNat).drop (a1 : Int).toNat)).bind fun bt172 => (if t145 = 0 then (if t156 = 0 then (if a1 < (l0.length : Int) then (if (strOfNums t155).toList = (strOfNums (rd_L1 l0 a1)).toList then (if t164 = 0 then (if (strOfNums t144).toList = (strOfNums t163).toList then (if bt172.2 = 0 then (bitloftlaw42_ParityRepairs.j2 k2 l0 a1 t142 bt172.1 ((bt172.1.length : Int) != (wrap64 (((rd_L1 l0 a1).length : Int) + 2)))) else (bitloftlaw42_ParityRepairs.j2 k2 l0 a1 t142 bt172.1 true)) else (bitloftlaw42_ParityRepairs.j2 k2 l0 a1 t142 bt172.1 true)) else (bitloftlaw42_ParityRepairs.j2 k2 l0 a1 t142 bt172.1 true)) else (bitloftlaw42_ParityRepairs.j2 k2 l0 a1 t142 bt172.1 true)) else (none)) else (bitloftlaw42_ParityRepairs.j2 k2 l0 a1 t142 bt172.1 true)) else (bitloftlaw42_ParityRepairs.j2 k2 l0 a1 t142 bt172.1 true))) else (none)) else (none)) else (none)) = some r := H; have A37 := Aside0.mk A370; clear A370
          by_cases c38 : 0 ≤ a1
          ·
           rw [if_pos c38] at H; have c38b0 := eq_true c38; have c38b1 : decide (0 ≤ a1) = true := decide_eq_true c38; clear c38
           by_cases c39 : a1 ≤ (wrap64 (a1 + 1))
           ·
            rw [if_pos c39] at H; have c39b0 := eq_true c39; have c39b1 : decide (a1 ≤ (wrap64 (a1 + 1))) = true := decide_eq_true c39
            by_cases c40 : (wrap64 (a1 + 1)) ≤ (l0.length : Int)
            ·
             rw [if_pos c40] at H; have c40b0 := eq_true c40; have c40b1 : decide ((wrap64 (a1 + 1)) ≤ (l0.length : Int)) = true := decide_eq_true c40; obtain ⟨y167, hy167⟩ : ∃ y_ : List (List Int), y_ = ((l0.take ((wrap64 (a1 + 1)) : Int).toNat).drop (a1 : Int).toNat) := ⟨_, rfl⟩
             replace H : ((parity_Of.f y167).bind fun bt172 => (if t145 = 0 then (if t156 = 0 then (if a1 < (l0.length : Int) then (if (strOfNums t155).toList = (strOfNums (rd_L1 l0 a1)).toList then (if t164 = 0 then (if (strOfNums t144).toList = (strOfNums t163).toList then (if bt172.2 = 0 then (bitloftlaw42_ParityRepairs.j2 k2 l0 a1 t142 bt172.1 ((bt172.1.length : Int) != (wrap64 (((rd_L1 l0 a1).length : Int) + 2)))) else (bitloftlaw42_ParityRepairs.j2 k2 l0 a1 t142 bt172.1 true)) else (bitloftlaw42_ParityRepairs.j2 k2 l0 a1 t142 bt172.1 true)) else (bitloftlaw42_ParityRepairs.j2 k2 l0 a1 t142 bt172.1 true)) else (bitloftlaw42_ParityRepairs.j2 k2 l0 a1 t142 bt172.1 true)) else (none)) else (bitloftlaw42_ParityRepairs.j2 k2 l0 a1 t142 bt172.1 true)) else (bitloftlaw42_ParityRepairs.j2 k2 l0 a1 t142 bt172.1 true))) = some r := by first | (rw [hy167]; with_reducible exact H) | (have H2_ := (Option.bind_some _ _).symm.trans H; rw [hy167]; with_reducible exact H2_) | (have H2_ := (Option.bind_some _ _).symm.trans H; with_reducible exact H2_) | with_reducible exact H | (rw [hy167]; exact H) | exact H
             have Ny167 := Aside0.mk hy167; clear hy167; replace H := Option.bind_eq_some_iff.mp H; obtain ⟨⟨t172, t173⟩, A410, H⟩ := H; replace H : (if t145 = 0 then (if t156 = 0 then (if a1 < (l0.length : Int) then (if (strOfNums t155).toList = (strOfNums (rd_L1 l0 a1)).toList then (if t164 = 0 then (if (strOfNums t144).toList = (strOfNums t163).toList then (if t173 = 0 then (bitloftlaw42_ParityRepairs.j2 k2 l0 a1 t142 t172 ((t172.length : Int) != (wrap64 (((rd_L1 l0 a1).length : Int) + 2)))) else (bitloftlaw42_ParityRepairs.j2 k2 l0 a1 t142 t172 true)) else (bitloftlaw42_ParityRepairs.j2 k2 l0 a1 t142 t172 true)) else (bitloftlaw42_ParityRepairs.j2 k2 l0 a1 t142 t172 true)) else (bitloftlaw42_ParityRepairs.j2 k2 l0 a1 t142 t172 true)) else (none)) else (bitloftlaw42_ParityRepairs.j2 k2 l0 a1 t142 t172 true)) else (bitloftlaw42_ParityRepairs.j2 k2 l0 a1 t142 t172 true)) = some r := H; have A41 := Aside0.mk A410; clear A410; have HC42 := Aside0.mk H; clear H; obtain ⟨Ao43, co43, eo43⟩ := Kd.N_slice HO_13.out
             subst eo43
             go_upto_region 15 with (first | (go_at_call 10; (with_reducible refine (parity_Of.calls _ _ x13_2 t163 t164 _ ?side1 ?side2 A37.out).mono ?_); (case side1 => repeat (first | exact (Kd.N_reads' HO_13.out).2.2 | (with_reducible refine Kd.C_alloc ?_ _) | (with_reducible refine Kd.C_drewN ?_ _) | (with_reducible refine Kd.C_drew ?_))); (case side2 => exact (Kd.N_reads' HO_13.out).2.1); rintro e w44 ⟨v165, rfl, ho0, hb⟩; have n0_ := Aside0.mk (Kd.V_elder' (by (with_reducible repeat (first | apply Kd.V_alloc | apply Kd.V_drewN | apply Kd.V_drew)); exact HO_0.out) (Kd.R_base ho0) hb); have n1_ := Aside0.mk (Kd.R_elder' (pL_ HO_8.out) (Kd.R_base ho0) hb); have n2_ := Aside0.mk (Kd.Q_elder' (pQ_ HO_11.out) (Kd.R_base ho0) hb); have n3_ := Aside0.mk (Kd.N_elder' (by (with_reducible repeat (first | apply Kd.N_alloc | apply Kd.N_drewN | apply Kd.N_drew)); exact HO_13.out) (Kd.R_base ho0) hb); have n4_ := Aside0.mk (Kd.R_lower (Kd.R_new' (Kd.R_new' (Kd.R_newM (M := fun k_ => (w.heap.size ≤ k_)) ho0 (below_size (pH_ HB.out)) (fun k_ h_ => h_)) (Kd.R_lt (pL_ HO_8.out))) (Kd.Q_lt (pQ_ HO_11.out))) (below_size (pH_ HB.out))); have n5_ := Aside0.mk (below_step (pH_ HB.out) hb); clear HO_0; clear HO_8; clear HO_11; clear HO_13; clear HB; have HO_0 := n0_; have HO_8 := n1_; have HO_11 := n2_; have HO_13 := n3_; have HO166 := n4_; have HB := n5_; clear n0_ n1_ n2_ n3_ n4_ n5_; (try clear hb); (try clear ho0); have q45 : ((wrap64 (a1 + 1)) : Int) ≤ ((l0.length : Int) : Int) := of_decide_eq_true (by first | (with_reducible assumption) | assumption); obtain ⟨i045, hi045, _, hsz45, _⟩ := info_parts info23; have hroom45 : l0.length ≤ c0 := (Kd.V_reads' HO_0.out).2.1; have hC45 : Kd.F (Kd.slice 5 (Kd.int .u8)) _ _ A0 l0.length l0 := (Kd.V_at (base := w.heap.size) HO_0.out).2.2; have ql45 : (a1 : Int) ≤ ((wrap64 (a1 + 1)) : Int) := of_decide_eq_true (by first | (with_reducible assumption) | assumption); have q045 : (0 : Int) ≤ (a1 : Int) := of_decide_eq_true (by first | (with_reducible assumption) | assumption); have hcut45 := cut_mid (P := Tryd.prog) 22 23 .i64 .i64 Tryd.underlying22 hi045 1 hsz45 A0 l0.length c0 a1 (wrap64 (a1 + 1)) q045 ql45 q45 hroom45; have hr45 := Kd.F_mid (lo := (a1 : Int).toNat) (hi := ((wrap64 (a1 + 1)) : Int).toNat) (c := c0) hC45 (by omega) (by omega) hroom45; obtain ⟨A45, hA45⟩ : ∃ A1, A1 = (if c0 = (a1 : Int).toNat then A0 else (A0 : Option Addr).map (·.add ((a1 : Int).toNat * 1))) := ⟨_, rfl⟩; obtain ⟨c45, hc45⟩ : ∃ c1, c1 = c0 - (a1 : Int).toNat := ⟨_, rfl⟩; have hy45 : y167.length = ((wrap64 (a1 + 1)) : Int).toNat - (a1 : Int).toNat := (by rw [Ny167.out, List.length_drop, List.length_take] <;> omega); rw [show ((l0).take ((wrap64 (a1 + 1)) : Int).toNat).drop (a1 : Int).toNat = y167 from Ny167.out.symm] at hr45; replace hr45 : Kd.F (Kd.slice 5 (Kd.int .u8)) _ _ A45 y167.length y167 := (by rw [hA45]; exact hr45); rw [← hy45, ← hA45, ← hc45] at hcut45; have HO171 := Aside0.mk (show Kd.V (Kd.slice 5 (Kd.int .u8)) 23 _ w.heap.size _ (.slice A45 y167.length c45) y167 from Kd.V_mk (by rw [hy45, hc45]; exact Nat.sub_le_sub_right (Nat.le_trans (by omega) hroom45) _) hr45); have HC171 := Aside0.mk (show y167.length ≤ c45 from by rw [hy45, hc45]; exact Nat.sub_le_sub_right (Nat.le_trans (by omega) hroom45) _); clear hr45 hC45 hroom45 hi045 hsz45 hc45; have KY45 := Aside0.mk hy45; have KA45 := Aside0.mk hA45; clear hy45 hA45; replace q45 := eq_true q45) | (go_at_call 10; (with_reducible refine (parity_Of.calls _ _ y167 t172 t173 _ ?side1 ?side2 A41.out).mono ?_); (case side1 => repeat (first | exact (Kd.V_reads' HO171.out).2.2 | (with_reducible refine Kd.C_alloc ?_ _) | (with_reducible refine Kd.C_drewN ?_ _) | (with_reducible refine Kd.C_drew ?_))); (case side2 => exact (Kd.V_reads' HO171.out).2.1); rintro e w46 ⟨v174, rfl, ho0, hb⟩; have n0_ := Aside0.mk (Kd.V_elder' (by (with_reducible repeat (first | apply Kd.V_alloc | apply Kd.V_drewN | apply Kd.V_drew)); exact HO_0.out) (Kd.R_base ho0) hb); have n1_ := Aside0.mk (Kd.R_elder' (pL_ HO_8.out) (Kd.R_base ho0) hb); have n2_ := Aside0.mk (Kd.Q_elder' (pQ_ HO_11.out) (Kd.R_base ho0) hb); have n3_ := Aside0.mk (Kd.N_elder' (by (with_reducible repeat (first | apply Kd.N_alloc | apply Kd.N_drewN | apply Kd.N_drew)); exact HO_13.out) (Kd.R_base ho0) hb); have n4_ := Aside0.mk (Kd.R_elder' (pL_ HO166.out) (Kd.R_base ho0) hb); have n5_ := Aside0.mk (Kd.V_elder' (by (with_reducible repeat (first | apply Kd.V_alloc | apply Kd.V_drewN | apply Kd.V_drew)); exact HO171.out) (Kd.R_base ho0) hb); have n6_ := Aside0.mk (Kd.R_lower (Kd.R_new' (Kd.R_new' (Kd.R_new' (Kd.R_newM (M := fun k_ => (w.heap.size ≤ k_)) ho0 (below_size (pH_ HB.out)) (fun k_ h_ => h_)) (Kd.R_lt (pL_ HO_8.out))) (Kd.Q_lt (pQ_ HO_11.out))) (Kd.R_lt (pL_ HO166.out))) (below_size (pH_ HB.out))); have n7_ := Aside0.mk (below_step (pH_ HB.out) hb); clear HO_0; clear HO_8; clear HO_11; clear HO_13; clear HO166; clear HO171; clear HB; have HO_0 := n0_; have HO_8 := n1_; have HO_11 := n2_; have HO_13 := n3_; have HO166 := n4_; have HO171 := n5_; have HO175 := n6_; have HB := n7_; clear n0_ n1_ n2_ n3_ n4_ n5_ n6_ n7_; (try clear hb); (try clear ho0)))
             repeat (go_quiet (first | (go_at_call 10; (with_reducible refine (parity_Of.calls _ _ x13_2 t163 t164 _ ?side1 ?side2 A37.out).mono ?_); (case side1 => repeat (first | exact (Kd.N_reads' HO_13.out).2.2 | (with_reducible refine Kd.C_alloc ?_ _) | (with_reducible refine Kd.C_drewN ?_ _) | (with_reducible refine Kd.C_drew ?_))); (case side2 => exact (Kd.N_reads' HO_13.out).2.1); rintro e w44 ⟨v165, rfl, ho0, hb⟩; have n0_ := Aside0.mk (Kd.V_elder' (by (with_reducible repeat (first | apply Kd.V_alloc | apply Kd.V_drewN | apply Kd.V_drew)); exact HO_0.out) (Kd.R_base ho0) hb); have n1_ := Aside0.mk (Kd.R_elder' (pL_ HO_8.out) (Kd.R_base ho0) hb); have n2_ := Aside0.mk (Kd.Q_elder' (pQ_ HO_11.out) (Kd.R_base ho0) hb); have n3_ := Aside0.mk (Kd.N_elder' (by (with_reducible repeat (first | apply Kd.N_alloc | apply Kd.N_drewN | apply Kd.N_drew)); exact HO_13.out) (Kd.R_base ho0) hb); have n4_ := Aside0.mk (Kd.R_lower (Kd.R_new' (Kd.R_new' (Kd.R_newM (M := fun k_ => (w.heap.size ≤ k_)) ho0 (below_size (pH_ HB.out)) (fun k_ h_ => h_)) (Kd.R_lt (pL_ HO_8.out))) (Kd.Q_lt (pQ_ HO_11.out))) (below_size (pH_ HB.out))); have n5_ := Aside0.mk (below_step (pH_ HB.out) hb); clear HO_0; clear HO_8; clear HO_11; clear HO_13; clear HB; have HO_0 := n0_; have HO_8 := n1_; have HO_11 := n2_; have HO_13 := n3_; have HO166 := n4_; have HB := n5_; clear n0_ n1_ n2_ n3_ n4_ n5_; (try clear hb); (try clear ho0); have q45 : ((wrap64 (a1 + 1)) : Int) ≤ ((l0.length : Int) : Int) := of_decide_eq_true (by first | (with_reducible assumption) | assumption); obtain ⟨i045, hi045, _, hsz45, _⟩ := info_parts info23; have hroom45 : l0.length ≤ c0 := (Kd.V_reads' HO_0.out).2.1; have hC45 : Kd.F (Kd.slice 5 (Kd.int .u8)) _ _ A0 l0.length l0 := (Kd.V_at (base := w.heap.size) HO_0.out).2.2; have ql45 : (a1 : Int) ≤ ((wrap64 (a1 + 1)) : Int) := of_decide_eq_true (by first | (with_reducible assumption) | assumption); have q045 : (0 : Int) ≤ (a1 : Int) := of_decide_eq_true (by first | (with_reducible assumption) | assumption); have hcut45 := cut_mid (P := Tryd.prog) 22 23 .i64 .i64 Tryd.underlying22 hi045 1 hsz45 A0 l0.length c0 a1 (wrap64 (a1 + 1)) q045 ql45 q45 hroom45; have hr45 := Kd.F_mid (lo := (a1 : Int).toNat) (hi := ((wrap64 (a1 + 1)) : Int).toNat) (c := c0) hC45 (by omega) (by omega) hroom45; obtain ⟨A45, hA45⟩ : ∃ A1, A1 = (if c0 = (a1 : Int).toNat then A0 else (A0 : Option Addr).map (·.add ((a1 : Int).toNat * 1))) := ⟨_, rfl⟩; obtain ⟨c45, hc45⟩ : ∃ c1, c1 = c0 - (a1 : Int).toNat := ⟨_, rfl⟩; have hy45 : y167.length = ((wrap64 (a1 + 1)) : Int).toNat - (a1 : Int).toNat := (by rw [Ny167.out, List.length_drop, List.length_take] <;> omega); rw [show ((l0).take ((wrap64 (a1 + 1)) : Int).toNat).drop (a1 : Int).toNat = y167 from Ny167.out.symm] at hr45; replace hr45 : Kd.F (Kd.slice 5 (Kd.int .u8)) _ _ A45 y167.length y167 := (by rw [hA45]; exact hr45); rw [← hy45, ← hA45, ← hc45] at hcut45; have HO171 := Aside0.mk (show Kd.V (Kd.slice 5 (Kd.int .u8)) 23 _ w.heap.size _ (.slice A45 y167.length c45) y167 from Kd.V_mk (by rw [hy45, hc45]; exact Nat.sub_le_sub_right (Nat.le_trans (by omega) hroom45) _) hr45); have HC171 := Aside0.mk (show y167.length ≤ c45 from by rw [hy45, hc45]; exact Nat.sub_le_sub_right (Nat.le_trans (by omega) hroom45) _); clear hr45 hC45 hroom45 hi045 hsz45 hc45; have KY45 := Aside0.mk hy45; have KA45 := Aside0.mk hA45; clear hy45 hA45; replace q45 := eq_true q45) | (go_at_call 10; (with_reducible refine (parity_Of.calls _ _ y167 t172 t173 _ ?side1 ?side2 A41.out).mono ?_); (case side1 => repeat (first | exact (Kd.V_reads' HO171.out).2.2 | (with_reducible refine Kd.C_alloc ?_ _) | (with_reducible refine Kd.C_drewN ?_ _) | (with_reducible refine Kd.C_drew ?_))); (case side2 => exact (Kd.V_reads' HO171.out).2.1); rintro e w46 ⟨v174, rfl, ho0, hb⟩; have n0_ := Aside0.mk (Kd.V_elder' (by (with_reducible repeat (first | apply Kd.V_alloc | apply Kd.V_drewN | apply Kd.V_drew)); exact HO_0.out) (Kd.R_base ho0) hb); have n1_ := Aside0.mk (Kd.R_elder' (pL_ HO_8.out) (Kd.R_base ho0) hb); have n2_ := Aside0.mk (Kd.Q_elder' (pQ_ HO_11.out) (Kd.R_base ho0) hb); have n3_ := Aside0.mk (Kd.N_elder' (by (with_reducible repeat (first | apply Kd.N_alloc | apply Kd.N_drewN | apply Kd.N_drew)); exact HO_13.out) (Kd.R_base ho0) hb); have n4_ := Aside0.mk (Kd.R_elder' (pL_ HO166.out) (Kd.R_base ho0) hb); have n5_ := Aside0.mk (Kd.V_elder' (by (with_reducible repeat (first | apply Kd.V_alloc | apply Kd.V_drewN | apply Kd.V_drew)); exact HO171.out) (Kd.R_base ho0) hb); have n6_ := Aside0.mk (Kd.R_lower (Kd.R_new' (Kd.R_new' (Kd.R_new' (Kd.R_newM (M := fun k_ => (w.heap.size ≤ k_)) ho0 (below_size (pH_ HB.out)) (fun k_ h_ => h_)) (Kd.R_lt (pL_ HO_8.out))) (Kd.Q_lt (pQ_ HO_11.out))) (Kd.R_lt (pL_ HO166.out))) (below_size (pH_ HB.out))); have n7_ := Aside0.mk (below_step (pH_ HB.out) hb); clear HO_0; clear HO_8; clear HO_11; clear HO_13; clear HO166; clear HO171; clear HB; have HO_0 := n0_; have HO_8 := n1_; have HO_11 := n2_; have HO_13 := n3_; have HO166 := n4_; have HO171 := n5_; have HO175 := n6_; have HB := n7_; clear n0_ n1_ n2_ n3_ n4_ n5_ n6_ n7_; (try clear hb); (try clear ho0))); go_upto_region 15 with (first | (go_at_call 10; (with_reducible refine (parity_Of.calls _ _ x13_2 t163 t164 _ ?side1 ?side2 A37.out).mono ?_); (case side1 => repeat (first | exact (Kd.N_reads' HO_13.out).2.2 | (with_reducible refine Kd.C_alloc ?_ _) | (with_reducible refine Kd.C_drewN ?_ _) | (with_reducible refine Kd.C_drew ?_))); (case side2 => exact (Kd.N_reads' HO_13.out).2.1); rintro e w44 ⟨v165, rfl, ho0, hb⟩; have n0_ := Aside0.mk (Kd.V_elder' (by (with_reducible repeat (first | apply Kd.V_alloc | apply Kd.V_drewN | apply Kd.V_drew)); exact HO_0.out) (Kd.R_base ho0) hb); have n1_ := Aside0.mk (Kd.R_elder' (pL_ HO_8.out) (Kd.R_base ho0) hb); have n2_ := Aside0.mk (Kd.Q_elder' (pQ_ HO_11.out) (Kd.R_base ho0) hb); have n3_ := Aside0.mk (Kd.N_elder' (by (with_reducible repeat (first | apply Kd.N_alloc | apply Kd.N_drewN | apply Kd.N_drew)); exact HO_13.out) (Kd.R_base ho0) hb); have n4_ := Aside0.mk (Kd.R_lower (Kd.R_new' (Kd.R_new' (Kd.R_newM (M := fun k_ => (w.heap.size ≤ k_)) ho0 (below_size (pH_ HB.out)) (fun k_ h_ => h_)) (Kd.R_lt (pL_ HO_8.out))) (Kd.Q_lt (pQ_ HO_11.out))) (below_size (pH_ HB.out))); have n5_ := Aside0.mk (below_step (pH_ HB.out) hb); clear HO_0; clear HO_8; clear HO_11; clear HO_13; clear HB; have HO_0 := n0_; have HO_8 := n1_; have HO_11 := n2_; have HO_13 := n3_; have HO166 := n4_; have HB := n5_; clear n0_ n1_ n2_ n3_ n4_ n5_; (try clear hb); (try clear ho0); have q45 : ((wrap64 (a1 + 1)) : Int) ≤ ((l0.length : Int) : Int) := of_decide_eq_true (by first | (with_reducible assumption) | assumption); obtain ⟨i045, hi045, _, hsz45, _⟩ := info_parts info23; have hroom45 : l0.length ≤ c0 := (Kd.V_reads' HO_0.out).2.1; have hC45 : Kd.F (Kd.slice 5 (Kd.int .u8)) _ _ A0 l0.length l0 := (Kd.V_at (base := w.heap.size) HO_0.out).2.2; have ql45 : (a1 : Int) ≤ ((wrap64 (a1 + 1)) : Int) := of_decide_eq_true (by first | (with_reducible assumption) | assumption); have q045 : (0 : Int) ≤ (a1 : Int) := of_decide_eq_true (by first | (with_reducible assumption) | assumption); have hcut45 := cut_mid (P := Tryd.prog) 22 23 .i64 .i64 Tryd.underlying22 hi045 1 hsz45 A0 l0.length c0 a1 (wrap64 (a1 + 1)) q045 ql45 q45 hroom45; have hr45 := Kd.F_mid (lo := (a1 : Int).toNat) (hi := ((wrap64 (a1 + 1)) : Int).toNat) (c := c0) hC45 (by omega) (by omega) hroom45; obtain ⟨A45, hA45⟩ : ∃ A1, A1 = (if c0 = (a1 : Int).toNat then A0 else (A0 : Option Addr).map (·.add ((a1 : Int).toNat * 1))) := ⟨_, rfl⟩; obtain ⟨c45, hc45⟩ : ∃ c1, c1 = c0 - (a1 : Int).toNat := ⟨_, rfl⟩; have hy45 : y167.length = ((wrap64 (a1 + 1)) : Int).toNat - (a1 : Int).toNat := (by rw [Ny167.out, List.length_drop, List.length_take] <;> omega); rw [show ((l0).take ((wrap64 (a1 + 1)) : Int).toNat).drop (a1 : Int).toNat = y167 from Ny167.out.symm] at hr45; replace hr45 : Kd.F (Kd.slice 5 (Kd.int .u8)) _ _ A45 y167.length y167 := (by rw [hA45]; exact hr45); rw [← hy45, ← hA45, ← hc45] at hcut45; have HO171 := Aside0.mk (show Kd.V (Kd.slice 5 (Kd.int .u8)) 23 _ w.heap.size _ (.slice A45 y167.length c45) y167 from Kd.V_mk (by rw [hy45, hc45]; exact Nat.sub_le_sub_right (Nat.le_trans (by omega) hroom45) _) hr45); have HC171 := Aside0.mk (show y167.length ≤ c45 from by rw [hy45, hc45]; exact Nat.sub_le_sub_right (Nat.le_trans (by omega) hroom45) _); clear hr45 hC45 hroom45 hi045 hsz45 hc45; have KY45 := Aside0.mk hy45; have KA45 := Aside0.mk hA45; clear hy45 hA45; replace q45 := eq_true q45) | (go_at_call 10; (with_reducible refine (parity_Of.calls _ _ y167 t172 t173 _ ?side1 ?side2 A41.out).mono ?_); (case side1 => repeat (first | exact (Kd.V_reads' HO171.out).2.2 | (with_reducible refine Kd.C_alloc ?_ _) | (with_reducible refine Kd.C_drewN ?_ _) | (with_reducible refine Kd.C_drew ?_))); (case side2 => exact (Kd.V_reads' HO171.out).2.1); rintro e w46 ⟨v174, rfl, ho0, hb⟩; have n0_ := Aside0.mk (Kd.V_elder' (by (with_reducible repeat (first | apply Kd.V_alloc | apply Kd.V_drewN | apply Kd.V_drew)); exact HO_0.out) (Kd.R_base ho0) hb); have n1_ := Aside0.mk (Kd.R_elder' (pL_ HO_8.out) (Kd.R_base ho0) hb); have n2_ := Aside0.mk (Kd.Q_elder' (pQ_ HO_11.out) (Kd.R_base ho0) hb); have n3_ := Aside0.mk (Kd.N_elder' (by (with_reducible repeat (first | apply Kd.N_alloc | apply Kd.N_drewN | apply Kd.N_drew)); exact HO_13.out) (Kd.R_base ho0) hb); have n4_ := Aside0.mk (Kd.R_elder' (pL_ HO166.out) (Kd.R_base ho0) hb); have n5_ := Aside0.mk (Kd.V_elder' (by (with_reducible repeat (first | apply Kd.V_alloc | apply Kd.V_drewN | apply Kd.V_drew)); exact HO171.out) (Kd.R_base ho0) hb); have n6_ := Aside0.mk (Kd.R_lower (Kd.R_new' (Kd.R_new' (Kd.R_new' (Kd.R_newM (M := fun k_ => (w.heap.size ≤ k_)) ho0 (below_size (pH_ HB.out)) (fun k_ h_ => h_)) (Kd.R_lt (pL_ HO_8.out))) (Kd.Q_lt (pQ_ HO_11.out))) (Kd.R_lt (pL_ HO166.out))) (below_size (pH_ HB.out))); have n7_ := Aside0.mk (below_step (pH_ HB.out) hb); clear HO_0; clear HO_8; clear HO_11; clear HO_13; clear HO166; clear HO171; clear HB; have HO_0 := n0_; have HO_8 := n1_; have HO_11 := n2_; have HO_13 := n3_; have HO166 := n4_; have HO171 := n5_; have HO175 := n6_; have HB := n7_; clear n0_ n1_ n2_ n3_ n4_ n5_ n6_ n7_; (try clear hb); (try clear ho0))))
             (try simp only [Act.put, sA_, sZ_, sS_]); (with_reducible first | refine then_id_ ?_ | (refine wp_tail_ ?_; intro Kt_ hKt_))
             go_cut [131] (fun v131 wc => ∃ (kq : Nat) (x131_41 : Bool), v131 = .bool x131_41 ∧ Aside0 (bitloftlaw42_ParityRepairs.j2 kq l0 a1 t142 t172 x131_41 = some r) ∧ Aside0 (kq ≤ k2) ∧ Aside0 (Kd.V (Kd.slice 5 (Kd.int .u8)) 23 wc w.heap.size (fun k_ => ((P0_ k_ ∨ P2_ k_) ∨ w.heap.size ≤ k_) ∧ nO_ k_ v174) (.slice A0 l0.length c0) l0) ∧ Aside0 (Kd.R (Kd.int .u8) 5 wc w.heap.size (fun k_ => (w.heap.size ≤ k_)) v174 t172) ∧ Aside0 (Below w.heap.size w wc))
             case first =>
              have H := HC42.out; clear HC42
              by_cases c47 : t145 = 0
              ·
               rw [if_pos c47] at H; have c47b0 : (t145 == 0) = true := beq_iff_eq.mpr c47; have c47b1 : (t145 != 0) = false := bne_eq_false_iff_eq.mpr c47; clear c47; (first | rw [c47b0] | (simp only [i64_w, i32_w]; rw [c47b0]) | skip)
               by_cases c48 : t156 = 0
               ·
                rw [if_pos c48] at H; have c48b0 : (t156 == 0) = true := beq_iff_eq.mpr c48; have c48b1 : (t156 != 0) = false := bne_eq_false_iff_eq.mpr c48; clear c48
                by_cases c49 : a1 < (l0.length : Int)
                ·
                 rw [if_pos c49] at H; have c49b0 : decide (a1 < (l0.length : Int)) = true := decide_eq_true c49; clear c49
                 by_cases c50 : (strOfNums t155).toList = (strOfNums (rd_L1 l0 a1)).toList
                 ·
                  rw [if_pos c50] at H; have c50b0 : ((strOfNums t155).toList == (strOfNums (rd_L1 l0 a1)).toList) = true := beq_iff_eq.mpr c50; have c50b1 : ((strOfNums t155).toList != (strOfNums (rd_L1 l0 a1)).toList) = false := bne_eq_false_iff_eq.mpr c50; clear c50
                  by_cases c51 : t164 = 0
                  ·
                   rw [if_pos c51] at H; have c51b0 : (t164 == 0) = true := beq_iff_eq.mpr c51; have c51b1 : (t164 != 0) = false := bne_eq_false_iff_eq.mpr c51; clear c51
                   by_cases c52 : (strOfNums t144).toList = (strOfNums t163).toList
                   ·
                    rw [if_pos c52] at H; have c52b0 : ((strOfNums t144).toList == (strOfNums t163).toList) = true := beq_iff_eq.mpr c52; have c52b1 : ((strOfNums t144).toList != (strOfNums t163).toList) = false := bne_eq_false_iff_eq.mpr c52; clear c52
                    by_cases c53 : t173 = 0
                    ·
                     rw [if_pos c53] at H; have c53b0 : (t173 == 0) = true := beq_iff_eq.mpr c53; have c53b1 : (t173 != 0) = false := bne_eq_false_iff_eq.mpr c53; clear c53; have H' := Aside0.mk H; clear H; obtain ⟨Ao54, co54, eo54, _⟩ := Kd.Q_slice HO_11.out
                     subst eo54
                     have hcv55 := Kd.C_string (P := Tryd.prog) (A := Ao54) (c := co54) Tryd.underlying23 Tryd.underlying5 Tryd.underlying9 (Kd.Q_reads' HO_11.out).2.2; have dhcv55 := fun a_ : Nat => Kd.C_string (P := Tryd.prog) (A := Ao54) (c := co54) Tryd.underlying23 Tryd.underlying5 Tryd.underlying9 (Kd.C_drewN (Kd.Q_reads' HO_11.out).2.2 a_)
                     have p176 : 0 ≤ (a1 : Int) := of_decide_eq_true (by first | (with_reducible assumption) | assumption); have q176 : a1 < (l0.length : Int) := of_decide_eq_true (by first | (with_reducible assumption) | assumption); obtain ⟨ad176, A176_0, c176_0, e176, hx176_0, hl176_0, hi176_0⟩ := at_L1 (Kd.V_reads' HO_0.out).2.2 a1 p176 q176
                     cases e176
                     obtain ⟨ce176, hce176, hMe176, hcc176⟩ := Kd.V_get HO_0.out [] a1 p176 (by first | exact q176 | exact of_decide_eq_true (by first | (with_reducible assumption) | assumption) | (have e_ := (Kd.V_reads' HO_0.out).1; omega)); obtain ⟨ua176_0, uc176_0, rfl, ul176_0, ge176_0⟩ := Kd.FK_slice_open hMe176; have hv176_0 := hcc176 0 _ rfl; rw [Nat.add_zero, show ((Kd.slice 5 (Kd.int .u8))).sz = 1 from rfl, Nat.mul_one] at hv176_0; replace hv176_0 := Option.some.inj (hv176_0.symm.trans hx176_0)
                     injection hv176_0 with hva_ hvn_ hvc_
                     rw [hva_] at ge176_0; rw [hvc_] at ul176_0; have HL176_0 := Aside0.mk (show Kd.V (Kd.int .u8) 5 _ w.heap.size _ _ (rd_L1 l0 a1) from Kd.V_mk ul176_0 ge176_0); clear hva_ hvn_ hvc_ ge176_0 ul176_0; clear hcc176 hce176; have HR176_0 := Aside0.mk hi176_0; have HC176_0 := Aside0.mk hl176_0; clear hi176_0 hl176_0; replace p176 := eq_true p176; replace q176 := eq_true q176
                     have hcv56 := Kd.C_string (P := Tryd.prog) (A := A176_0) (c := c176_0) Tryd.underlying23 Tryd.underlying5 Tryd.underlying9 (by repeat (first | (with_reducible exact HR176_0.out) | (with_reducible refine Kd.C_alloc ?_ _) | (with_reducible refine Kd.C_drewN ?_ _) | (with_reducible refine Kd.C_drew ?_) | exact HR176_0.out)); have dhcv56 := fun a_ : Nat => Kd.C_string (P := Tryd.prog) (A := A176_0) (c := c176_0) Tryd.underlying23 Tryd.underlying5 Tryd.underlying9 (Kd.C_drewN (by repeat (first | (with_reducible exact HR176_0.out) | (with_reducible refine Kd.C_alloc ?_ _) | (with_reducible refine Kd.C_drewN ?_ _) | (with_reducible refine Kd.C_drew ?_) | exact HR176_0.out)) a_)
                     have hcv57 := own_string (P := Tryd.prog) Tryd.underlying23 Tryd.underlying5 Tryd.underlying9 (Kd.own_of_R HO_8.out); have dhcv57 := fun a_ : Nat => own_string (P := Tryd.prog) Tryd.underlying23 Tryd.underlying5 Tryd.underlying9 (Kd.own_of_R (Kd.R_drewN HO_8.out a_))
                     have hcv58 := own_string (P := Tryd.prog) Tryd.underlying23 Tryd.underlying5 Tryd.underlying9 (Kd.own_of_R HO166.out); have dhcv58 := fun a_ : Nat => own_string (P := Tryd.prog) Tryd.underlying23 Tryd.underlying5 Tryd.underlying9 (Kd.own_of_R (Kd.R_drewN HO166.out a_))
                     obtain ⟨Ao59, co59, eo59⟩ := Kd.R_slice HO175.out
                     subst eo59
                     have p177 : 0 ≤ (a1 : Int) := of_decide_eq_true (by first | (with_reducible assumption) | assumption); have q177 : a1 < (l0.length : Int) := of_decide_eq_true (by first | (with_reducible assumption) | assumption); obtain ⟨ad177, A177_0, c177_0, e177, hx177_0, hl177_0, hi177_0⟩ := at_L1 (Kd.V_reads' HO_0.out).2.2 a1 p177 q177; obtain rfl : ad176 = ad177 := (by injection e177); obtain ⟨ce177, hce177, hMe177, hcc177⟩ := Kd.V_get HO_0.out [] a1 p177 (by first | exact q177 | exact of_decide_eq_true (by first | (with_reducible assumption) | assumption) | (have e_ := (Kd.V_reads' HO_0.out).1; omega)); obtain ⟨ua177_0, uc177_0, rfl, ul177_0, ge177_0⟩ := Kd.FK_slice_open hMe177; have hv177_0 := hcc177 0 _ rfl; rw [Nat.add_zero, show ((Kd.slice 5 (Kd.int .u8))).sz = 1 from rfl, Nat.mul_one] at hv177_0; replace hv177_0 := Option.some.inj (hv177_0.symm.trans hx177_0)
                     injection hv177_0 with hva_ hvn_ hvc_
                     rw [hva_] at ge177_0; rw [hvc_] at ul177_0; have HL177_0 := Aside0.mk (show Kd.V (Kd.int .u8) 5 _ w.heap.size _ _ (rd_L1 l0 a1) from Kd.V_mk ul177_0 ge177_0); clear hva_ hvn_ hvc_ ge177_0 ul177_0; clear hcc177 hce177; have HR177_0 := Aside0.mk hi177_0; have HC177_0 := Aside0.mk hl177_0; clear hi177_0 hl177_0; replace p177 := eq_true p177; replace q177 := eq_true q177; have ea_ := Option.some.inj (hx176_0.symm.trans hx177_0)
                     injection ea_ with ea_ en_ ec_
                     subst ea_
                     subst ec_
                     clear en_
                     go_wp2
                     repeat (go_quiet (fail); try go_wp2)
                     (first | go_meet | (refine Met.intro ?_; go_step; (repeat apply Exists.intro); refine ⟨?rel, ?eqf_⟩; case eqf_ => ((simp only [c53b0, c52b0, c51b0, c50b0, c49b0, c48b0, c47b0, c32b0]) <;> rfl)))
                     case rel => exact ⟨_, (((t172.length : Int) != (wrap64 (((rd_L1 l0 a1).length : Int) + 2)))), (by first | rfl | (simp; done) | (simp [*]; done)), H', ⟨by have := HJ4.out; have := HK2.out; first | omega | exact Nat.le_refl _⟩, ⟨by (with_reducible repeat (first | apply Kd.V_alloc | apply Kd.V_drewN | apply Kd.V_drew)); exact Kd.V_mono HO_0.out (fun _ hk => ⟨hk.1.1.1, hk.2⟩)⟩, ⟨by (with_reducible repeat (first | apply rA_ | apply rN_ | apply rD_)); exact Kd.R_mono HO175.out (fun _ hk => hk.1.1.1.1)⟩, ⟨pH_ HB.out⟩⟩
                    ·
                     rw [if_neg c53] at H; have c53b0 : (t173 == 0) = false := beq_eq_false_iff_ne.mpr c53; have c53b1 : (t173 != 0) = true := bne_iff_ne.mpr c53; exact absurd (H.trans (congrArg some HRT_.out)) (by first | (simp; done) | (generalize k2 = k_; cases k_ <;> simp [bitloftlaw42_ParityRepairs.j0, bitloftlaw42_ParityRepairs.l0, bitloftlaw42_ParityRepairs.j2, bitloftlaw42_ParityRepairs.j3]))
                   ·
                    rw [if_neg c52] at H; have c52b0 : ((strOfNums t144).toList == (strOfNums t163).toList) = false := beq_eq_false_iff_ne.mpr c52; have c52b1 : ((strOfNums t144).toList != (strOfNums t163).toList) = true := bne_iff_ne.mpr c52; exact absurd (H.trans (congrArg some HRT_.out)) (by first | (simp; done) | (generalize k2 = k_; cases k_ <;> simp [bitloftlaw42_ParityRepairs.j0, bitloftlaw42_ParityRepairs.l0, bitloftlaw42_ParityRepairs.j2, bitloftlaw42_ParityRepairs.j3]))
                  ·
                   rw [if_neg c51] at H; have c51b0 : (t164 == 0) = false := beq_eq_false_iff_ne.mpr c51; have c51b1 : (t164 != 0) = true := bne_iff_ne.mpr c51; exact absurd (H.trans (congrArg some HRT_.out)) (by first | (simp; done) | (generalize k2 = k_; cases k_ <;> simp [bitloftlaw42_ParityRepairs.j0, bitloftlaw42_ParityRepairs.l0, bitloftlaw42_ParityRepairs.j2, bitloftlaw42_ParityRepairs.j3]))
                 ·
                  rw [if_neg c50] at H; have c50b0 : ((strOfNums t155).toList == (strOfNums (rd_L1 l0 a1)).toList) = false := beq_eq_false_iff_ne.mpr c50; have c50b1 : ((strOfNums t155).toList != (strOfNums (rd_L1 l0 a1)).toList) = true := bne_iff_ne.mpr c50; exact absurd (H.trans (congrArg some HRT_.out)) (by first | (simp; done) | (generalize k2 = k_; cases k_ <;> simp [bitloftlaw42_ParityRepairs.j0, bitloftlaw42_ParityRepairs.l0, bitloftlaw42_ParityRepairs.j2, bitloftlaw42_ParityRepairs.j3]))
                ·
                 rw [if_neg c49] at H; exact absurd H (by simp)
               ·
                rw [if_neg c48] at H; have c48b0 : (t156 == 0) = false := beq_eq_false_iff_ne.mpr c48; have c48b1 : (t156 != 0) = true := bne_iff_ne.mpr c48; exact absurd (H.trans (congrArg some HRT_.out)) (by first | (simp; done) | (generalize k2 = k_; cases k_ <;> simp [bitloftlaw42_ParityRepairs.j0, bitloftlaw42_ParityRepairs.l0, bitloftlaw42_ParityRepairs.j2, bitloftlaw42_ParityRepairs.j3]))
              ·
               rw [if_neg c47] at H; have c47b0 : (t145 == 0) = false := beq_eq_false_iff_ne.mpr c47; have c47b1 : (t145 != 0) = true := bne_iff_ne.mpr c47; (first | rw [c47b0] | (simp only [i64_w, i32_w]; rw [c47b0]) | skip); exact absurd (H.trans (congrArg some HRT_.out)) (by first | (simp; done) | (generalize k2 = k_; cases k_ <;> simp [bitloftlaw42_ParityRepairs.j0, bitloftlaw42_ParityRepairs.l0, bitloftlaw42_ParityRepairs.j2, bitloftlaw42_ParityRepairs.j3]))
             case rest =>
              (try (refine hKt_ _ _ ?_; clear hKt_; clear Kt_)); clear HC42
              try clear c1
              try clear p1
              try clear q1
              try clear hx1
              try clear c2
              try clear p2
              try clear q2
              try clear hx2
              try clear c3
              try clear c4
              try clear q4
              try clear c5
              try clear hcv5
              try clear p6
              try clear c8
              try clear c9
              try clear c9b0
              try clear c11
              try clear c11b0
              try clear c13
              try clear c13b0
              try clear c13b1
              try clear c15
              try clear p15
              try clear q15
              try clear hx15
              try clear c17
              try clear p17
              try clear q17
              try clear hx17
              try clear c19
              try clear c20
              try clear c20b0
              try clear c21
              try clear c21b0
              try clear c22
              try clear p22
              try clear q22
              try clear hx22
              try clear hf22
              try clear c28
              try clear hx28
              try clear hf28
              try clear c32
              try clear c32b0
              try clear c33
              try clear c33b0
              try clear c34
              try clear c34b0
              try clear c35
              try clear c38
              try clear c38b0
              try clear c38b1
              try clear c39
              try clear c39b0
              try clear c39b1
              try clear c40
              try clear c40b0
              try clear c40b1
              try clear c45
              try clear q45
              try clear c47
              try clear c47b0
              try clear c47b1
              try clear c48
              try clear c48b0
              try clear c48b1
              try clear c49
              try clear c49b0
              try clear c50
              try clear c50b0
              try clear c50b1
              try clear c51
              try clear c51b0
              try clear c51b1
              try clear c52
              try clear c52b0
              try clear c52b1
              try clear c53
              try clear c53b0
              try clear c53b1
              try clear hcv55
              try clear hcv56
              try clear hcv57
              try clear hcv58
              try clear hx159_0
              try clear hx176_0
              try clear hx177_0
              try clear hx22_0
              try clear hx28_0
              try clear p159
              try clear p176
              try clear p177
              try clear p2
              try clear p22
              try clear p6
              try clear q045
              try clear q159
              try clear q176
              try clear q177
              try clear q2
              try clear q22
              try clear q45
              obtain ⟨kq, x131_41, rfl, HA, HJ41, HO_0, HO_17, HB⟩ := hcut
              cases kq with
              | zero => exact absurd HA.out (by simp [bitloftlaw42_ParityRepairs.j2])
              | succ kj41 =>
               have H := HA.out; clear HA; simp only [bitloftlaw42_ParityRepairs.j2] at H
               by_cases c60 : x131_41 = true
               ·
                subst c60
                have H1 : (some false) = some r := by rw [if_pos rfl] at H; exact H
                clear H; have H := H1; clear H1; exact absurd (H.trans (congrArg some HRT_.out)) (by simp)
               ·
                replace c60 := Bool.eq_false_iff.mpr c60
                subst c60
                have H1 : (if t142 = true then (if 2 ≤ (t172.length : Int) then (if 0 ≤ a1 then (if a1 < (l0.length : Int) then (if (strOfNums (t172.drop 2)).toList = (strOfNums (rd_L1 l0 a1)).toList then (if 0 < (t172.length : Int) then (if 1 < (t172.length : Int) then (bitloftlaw42_ParityRepairs.j3 kj41 ((wrap64 ((wrap64 (256 * (wrap64 (rd t172 0)))) + (wrap64 (rd t172 1)))) == ((rd_L1 l0 a1).length : Int))) else (none)) else (none)) else (bitloftlaw42_ParityRepairs.j3 kj41 false)) else (none)) else (none)) else (none)) else (bitloftlaw42_ParityRepairs.j3 kj41 false)) = some r := by rw [if_neg (show ¬ (false = true) by decide)] at H; exact H
                clear H; have H := H1; clear H1; have HC61 := Aside0.mk H; clear H
                go_upto_region 17 with (fail)
                repeat (go_quiet (fail); go_upto_region 17 with (fail))
                (with_reducible first | refine then_id_ ?_ | (refine wp_tail_ ?_; intro Kt_ hKt_))
                go_cut [6] (fun v6 wc => ∃ (kq : Nat) (x6_60 : Bool), v6 = .bool x6_60 ∧ Aside0 (bitloftlaw42_ParityRepairs.j3 kq x6_60 = some r) ∧ Aside0 (kq ≤ kj41) ∧ Aside0 (Below w.heap.size w wc))
                case first =>
                 have H := HC61.out; clear HC61
                 by_cases c62 : t142 = true
                 ·
                  subst c62
                  have H1 : (if 2 ≤ (t172.length : Int) then (if 0 ≤ a1 then (if a1 < (l0.length : Int) then (if (strOfNums (t172.drop 2)).toList = (strOfNums (rd_L1 l0 a1)).toList then (if 0 < (t172.length : Int) then (if 1 < (t172.length : Int) then (bitloftlaw42_ParityRepairs.j3 kj41 ((wrap64 ((wrap64 (256 * (wrap64 (rd t172 0)))) + (wrap64 (rd t172 1)))) == ((rd_L1 l0 a1).length : Int))) else (none)) else (none)) else (bitloftlaw42_ParityRepairs.j3 kj41 false)) else (none)) else (none)) else (none)) = some r := by rw [if_pos rfl] at H; exact H
                  clear H; have H := H1; clear H1
                  by_cases c63 : 2 ≤ (t172.length : Int)
                  ·
                   rw [if_pos c63] at H; have c63b0 := eq_true c63; have c63b1 : decide (2 ≤ (t172.length : Int)) = true := decide_eq_true c63; clear c63; obtain ⟨y178, hy178⟩ : ∃ y_ : List Int, y_ = (t172.drop 2) := ⟨_, rfl⟩
                   replace H : (if 0 ≤ a1 then (if a1 < (l0.length : Int) then (if (strOfNums y178).toList = (strOfNums (rd_L1 l0 a1)).toList then (if 0 < (t172.length : Int) then (if 1 < (t172.length : Int) then (bitloftlaw42_ParityRepairs.j3 kj41 ((wrap64 ((wrap64 (256 * (wrap64 (rd t172 0)))) + (wrap64 (rd t172 1)))) == ((rd_L1 l0 a1).length : Int))) else (none)) else (none)) else (bitloftlaw42_ParityRepairs.j3 kj41 false)) else (none)) else (none)) = some r := by first | (rw [hy178]; with_reducible exact H) | (have H2_ := (Option.bind_some _ _).symm.trans H; rw [hy178]; with_reducible exact H2_) | (have H2_ := (Option.bind_some _ _).symm.trans H; with_reducible exact H2_) | with_reducible exact H | (rw [hy178]; exact H) | exact H
                   have Ny178 := Aside0.mk hy178; clear hy178
                   by_cases c64 : 0 ≤ a1
                   ·
                    rw [if_pos c64] at H; have c64b0 : decide (0 ≤ a1) = true := decide_eq_true c64; clear c64; (first | rw [c64b0] | (simp only [i64_w, i32_w]; rw [c64b0]) | skip)
                    by_cases c65 : a1 < (l0.length : Int)
                    ·
                     rw [if_pos c65] at H; have c65b0 : decide (a1 < (l0.length : Int)) = true := decide_eq_true c65; clear c65
                     by_cases c66 : (strOfNums y178).toList = (strOfNums (rd_L1 l0 a1)).toList
                     ·
                      rw [if_pos c66] at H; have c66b0 : ((strOfNums y178).toList == (strOfNums (rd_L1 l0 a1)).toList) = true := beq_iff_eq.mpr c66; have c66b1 : ((strOfNums y178).toList != (strOfNums (rd_L1 l0 a1)).toList) = false := bne_eq_false_iff_eq.mpr c66; clear c66
                      by_cases c67 : 0 < (t172.length : Int)
                      ·
                       rw [if_pos c67] at H; have c67b0 : decide (0 < (t172.length : Int)) = true := decide_eq_true c67; have c67b1 : decide (0 < t172.length) = true := decide_eq_true (by omega); clear c67
                       by_cases c68 : 1 < (t172.length : Int)
                       ·
                        rw [if_pos c68] at H; have c68b0 : decide (1 < (t172.length : Int)) = true := decide_eq_true c68; have c68b1 : decide (1 < t172.length) = true := decide_eq_true (by omega); clear c68; have H' := Aside0.mk H; clear H; obtain ⟨Ao70, co70, eo70⟩ := Kd.R_slice HO_17.out
                        subst eo70
                        have q69 : (2 : Int) ≤ ((t172.length : Int) : Int) := of_decide_eq_true (by first | (with_reducible assumption) | assumption); obtain ⟨i069, hi069, _, hsz69, _⟩ := info_parts info5; have hroom69 : t172.length ≤ co70 := (Kd.R_reads' HO_17.out).2.1; have hC69 : Kd.F (Kd.int .u8) _ _ Ao70 t172.length t172 := (Kd.V_at (base := w.heap.size) (Kd.V_mono (ok' := (fun k_ => ((P0_ k_ ∨ P2_ k_) ∨ w.heap.size ≤ k_))) (Kd.R_V HO_17.out) (fun k_ hk => (.inr (hk))))).2.2; have hcut69 := cut_from (P := Tryd.prog) 23 5 .i64 Tryd.underlying23 hi069 1 hsz69 Ao70 t172.length co70 2 (by omega) q69; have hr69 := Kd.F_cut (m := (2 : Int).toNat) (c := co70) hC69 (by omega) hroom69; obtain ⟨A69, hA69⟩ : ∃ A1, A1 = (if co70 = (2 : Int).toNat then Ao70 else (Ao70 : Option Addr).map (·.add ((2 : Int).toNat * 1))) := ⟨_, rfl⟩; obtain ⟨c69, hc69⟩ : ∃ c1, c1 = co70 - (2 : Int).toNat := ⟨_, rfl⟩; have hy69 : y178.length = t172.length - (2 : Int).toNat := (by rw [Ny178.out, List.length_drop] <;> omega); rw [show (t172).drop (2 : Int).toNat = y178 from Ny178.out.symm] at hr69; replace hr69 : Kd.F (Kd.int .u8) _ _ A69 y178.length y178 := (by rw [hA69]; exact hr69); rw [← hy69, ← hA69, ← hc69] at hcut69; have HO182 := Aside0.mk (show Kd.V (Kd.int .u8) 5 _ w.heap.size _ (.slice A69 y178.length c69) y178 from Kd.V_mk (by rw [hy69, hc69]; exact Nat.sub_le_sub_right hroom69 _) hr69); have HC182 := Aside0.mk (show y178.length ≤ c69 from by rw [hy69, hc69]; exact Nat.sub_le_sub_right hroom69 _); clear hr69 hC69 hroom69 hi069 hsz69 hc69; have KY69 := Aside0.mk hy69; have KA69 := Aside0.mk hA69; clear hy69 hA69; replace q69 := eq_true q69
                        have hcv71 := Kd.C_string (P := Tryd.prog) (A := A69) (c := c69) Tryd.underlying23 Tryd.underlying5 Tryd.underlying9 (Kd.V_reads' HO182.out).2.2; have dhcv71 := fun a_ : Nat => Kd.C_string (P := Tryd.prog) (A := A69) (c := c69) Tryd.underlying23 Tryd.underlying5 Tryd.underlying9 (Kd.C_drewN (Kd.V_reads' HO182.out).2.2 a_)
                        have p183 : 0 ≤ (a1 : Int) := of_decide_eq_true (by first | (with_reducible assumption) | assumption); have q183 : a1 < (l0.length : Int) := of_decide_eq_true (by first | (with_reducible assumption) | assumption); obtain ⟨ad183, A183_0, c183_0, e183, hx183_0, hl183_0, hi183_0⟩ := at_L1 (Kd.V_reads' HO_0.out).2.2 a1 p183 q183
                        cases e183
                        obtain ⟨ce183, hce183, hMe183, hcc183⟩ := Kd.V_get HO_0.out [] a1 p183 (by first | exact q183 | exact of_decide_eq_true (by first | (with_reducible assumption) | assumption) | (have e_ := (Kd.V_reads' HO_0.out).1; omega)); obtain ⟨ua183_0, uc183_0, rfl, ul183_0, ge183_0⟩ := Kd.FK_slice_open hMe183; have hv183_0 := hcc183 0 _ rfl; rw [Nat.add_zero, show ((Kd.slice 5 (Kd.int .u8))).sz = 1 from rfl, Nat.mul_one] at hv183_0; replace hv183_0 := Option.some.inj (hv183_0.symm.trans hx183_0)
                        injection hv183_0 with hva_ hvn_ hvc_
                        rw [hva_] at ge183_0; rw [hvc_] at ul183_0; have HL183_0 := Aside0.mk (show Kd.V (Kd.int .u8) 5 _ w.heap.size _ _ (rd_L1 l0 a1) from Kd.V_mk ul183_0 ge183_0); clear hva_ hvn_ hvc_ ge183_0 ul183_0; clear hcc183 hce183; have HR183_0 := Aside0.mk hi183_0; have HC183_0 := Aside0.mk hl183_0; clear hi183_0 hl183_0; replace p183 := eq_true p183; replace q183 := eq_true q183
                        have hcv72 := Kd.C_string (P := Tryd.prog) (A := A183_0) (c := c183_0) Tryd.underlying23 Tryd.underlying5 Tryd.underlying9 (by repeat (first | (with_reducible exact HR183_0.out) | (with_reducible refine Kd.C_alloc ?_ _) | (with_reducible refine Kd.C_drewN ?_ _) | (with_reducible refine Kd.C_drew ?_) | exact HR183_0.out)); have dhcv72 := fun a_ : Nat => Kd.C_string (P := Tryd.prog) (A := A183_0) (c := c183_0) Tryd.underlying23 Tryd.underlying5 Tryd.underlying9 (Kd.C_drewN (by repeat (first | (with_reducible exact HR183_0.out) | (with_reducible refine Kd.C_alloc ?_ _) | (with_reducible refine Kd.C_drewN ?_ _) | (with_reducible refine Kd.C_drew ?_) | exact HR183_0.out)) a_)
                        have p184 : 0 ≤ (0 : Int) := (by omega); have q184 : 0 < (t172.length : Int) := of_decide_eq_true (by first | (with_reducible assumption) | assumption); obtain ⟨ad184, e184, hx184_0⟩ := Kd.at_int (Kd.R_reads' HO_17.out).2.2 0 p184 q184
                        cases e184
                        have qi184 : (0 < t172.length) = True := eq_true (by omega); (try rw [show ((0 : Int)).toNat = 0 from rfl] at hx184_0); (try rw [Addr.add_zero'] at hx184_0); replace p184 := eq_true p184; replace q184 := eq_true q184; have p185 : 0 ≤ (1 : Int) := (by omega); have q185 : 1 < (t172.length : Int) := of_decide_eq_true (by first | (with_reducible assumption) | assumption); obtain ⟨ad185, e185, hx185_0⟩ := Kd.at_int (Kd.R_reads' HO_17.out).2.2 1 p185 q185; obtain rfl : ad184 = ad185 := (by injection e185); (try simp only [show (1 : Int).toNat = 1 from rfl, Nat.reduceMul, Nat.reduceEqDiff, Go.Addr.add, ↓reduceIte] at hx185_0); have qi185 : (1 < t172.length) = True := eq_true (by omega); (try rw [show ((1 : Int)).toNat = 1 from rfl] at hx185_0); replace p185 := eq_true p185; replace q185 := eq_true q185; have p186 : 0 ≤ (a1 : Int) := of_decide_eq_true (by first | (with_reducible assumption) | assumption); have q186 : a1 < (l0.length : Int) := of_decide_eq_true (by first | (with_reducible assumption) | assumption); obtain ⟨ad186, A186_0, c186_0, e186, hx186_0, hl186_0, hi186_0⟩ := at_L1 (Kd.V_reads' HO_0.out).2.2 a1 p186 q186; obtain rfl : ad183 = ad186 := (by injection e186); obtain ⟨ce186, hce186, hMe186, hcc186⟩ := Kd.V_get HO_0.out [] a1 p186 (by first | exact q186 | exact of_decide_eq_true (by first | (with_reducible assumption) | assumption) | (have e_ := (Kd.V_reads' HO_0.out).1; omega)); obtain ⟨ua186_0, uc186_0, rfl, ul186_0, ge186_0⟩ := Kd.FK_slice_open hMe186; have hv186_0 := hcc186 0 _ rfl; rw [Nat.add_zero, show ((Kd.slice 5 (Kd.int .u8))).sz = 1 from rfl, Nat.mul_one] at hv186_0; replace hv186_0 := Option.some.inj (hv186_0.symm.trans hx186_0)
                        injection hv186_0 with hva_ hvn_ hvc_
                        rw [hva_] at ge186_0; rw [hvc_] at ul186_0; have HL186_0 := Aside0.mk (show Kd.V (Kd.int .u8) 5 _ w.heap.size _ _ (rd_L1 l0 a1) from Kd.V_mk ul186_0 ge186_0); clear hva_ hvn_ hvc_ ge186_0 ul186_0; clear hcc186 hce186; have HR186_0 := Aside0.mk hi186_0; have HC186_0 := Aside0.mk hl186_0; clear hi186_0 hl186_0; replace p186 := eq_true p186; replace q186 := eq_true q186; have ea_ := Option.some.inj (hx183_0.symm.trans hx186_0)
                        injection ea_ with ea_ en_ ec_
                        subst ea_
                        subst ec_
                        clear en_
                        go_wp2
                        repeat (go_quiet (fail); try go_wp2)
                        (first | go_meet | (refine Met.intro ?_; go_step; (repeat apply Exists.intro); refine ⟨?rel, ?eqf_⟩; case eqf_ => ((simp only [c68b0, c67b0, c66b0, c65b0, c64b0]) <;> rfl)))
                        case rel => exact ⟨_, (((wrap64 ((wrap64 (256 * (wrap64 (rd t172 0)))) + (wrap64 (rd t172 1)))) == ((rd_L1 l0 a1).length : Int))), (by first | rfl | (simp; done) | (simp [*]; done)), H', ⟨by have := HJ4.out; have := HK2.out; have := HJ41.out; first | omega | exact Nat.le_refl _⟩, ⟨pH_ HB.out⟩⟩
                       ·
                        rw [if_neg c68] at H; exact absurd H (by simp)
                      ·
                       rw [if_neg c67] at H; exact absurd H (by simp)
                     ·
                      rw [if_neg c66] at H; have c66b0 : ((strOfNums y178).toList == (strOfNums (rd_L1 l0 a1)).toList) = false := beq_eq_false_iff_ne.mpr c66; have c66b1 : ((strOfNums y178).toList != (strOfNums (rd_L1 l0 a1)).toList) = true := bne_iff_ne.mpr c66; exact absurd (H.trans (congrArg some HRT_.out)) (by first | (simp; done) | (generalize kj41 = k_; cases k_ <;> simp [bitloftlaw42_ParityRepairs.j0, bitloftlaw42_ParityRepairs.l0, bitloftlaw42_ParityRepairs.j2, bitloftlaw42_ParityRepairs.j3]))
                    ·
                     rw [if_neg c65] at H; exact absurd H (by simp)
                   ·
                    rw [if_neg c64] at H; exact absurd H (by simp)
                  ·
                   rw [if_neg c63] at H; exact absurd H (by simp)
                 ·
                  replace c62 := Bool.eq_false_iff.mpr c62
                  subst c62
                  have H1 : (bitloftlaw42_ParityRepairs.j3 kj41 false) = some r := by rw [if_neg (show ¬ (false = true) by decide)] at H; exact H
                  clear H; have H := H1; clear H1; exact absurd (H.trans (congrArg some HRT_.out)) (by first | (simp; done) | (generalize kj41 = k_; cases k_ <;> simp [bitloftlaw42_ParityRepairs.j0, bitloftlaw42_ParityRepairs.l0, bitloftlaw42_ParityRepairs.j2, bitloftlaw42_ParityRepairs.j3]))
                case rest =>
                 (try (refine hKt_ _ _ ?_; clear hKt_; clear Kt_)); clear HC61
                 try clear c1
                 try clear p1
                 try clear q1
                 try clear hx1
                 try clear qi1
                 try clear c2
                 try clear p2
                 try clear q2
                 try clear hx2
                 try clear c3
                 try clear c4
                 try clear q4
                 try clear c5
                 try clear hcv5
                 try clear c6
                 try clear p6
                 try clear q6
                 try clear hcv7
                 try clear c8
                 try clear c9
                 try clear c9b0
                 try clear c11
                 try clear c11b0
                 try clear c13
                 try clear c13b0
                 try clear c13b1
                 try clear c15
                 try clear p15
                 try clear q15
                 try clear hx15
                 try clear c17
                 try clear p17
                 try clear q17
                 try clear hx17
                 try clear c18
                 try clear p18
                 try clear q18
                 try clear hx18
                 try clear qi18
                 try clear c19
                 try clear c20
                 try clear c20b0
                 try clear c21
                 try clear c21b0
                 try clear c22
                 try clear p22
                 try clear q22
                 try clear hx22
                 try clear hf22
                 try clear c28
                 try clear hx28
                 try clear hf28
                 try clear c32
                 try clear c32b0
                 try clear c33
                 try clear c33b0
                 try clear c34
                 try clear c34b0
                 try clear c35
                 try clear c38
                 try clear c38b0
                 try clear c38b1
                 try clear c39
                 try clear c39b0
                 try clear c39b1
                 try clear c40
                 try clear c40b0
                 try clear c40b1
                 try clear c45
                 try clear q45
                 try clear c47
                 try clear c47b0
                 try clear c47b1
                 try clear c48
                 try clear c48b0
                 try clear c48b1
                 try clear c49
                 try clear c49b0
                 try clear c50
                 try clear c50b0
                 try clear c50b1
                 try clear c51
                 try clear c51b0
                 try clear c51b1
                 try clear c52
                 try clear c52b0
                 try clear c52b1
                 try clear c53
                 try clear c53b0
                 try clear c53b1
                 try clear hcv55
                 try clear hcv56
                 try clear hcv57
                 try clear hcv58
                 try clear c60
                 try clear c62
                 try clear c63
                 try clear c63b0
                 try clear c63b1
                 try clear c64
                 try clear c64b0
                 try clear p64
                 try clear c65
                 try clear c65b0
                 try clear c66
                 try clear c66b0
                 try clear c66b1
                 try clear c67
                 try clear c67b0
                 try clear c67b1
                 try clear c68
                 try clear c68b0
                 try clear c68b1
                 try clear c69
                 try clear q69
                 try clear hcv71
                 try clear hcv72
                 try clear hx159_0
                 try clear hx176_0
                 try clear hx177_0
                 try clear hx183_0
                 try clear hx184_0
                 try clear hx185_0
                 try clear hx186_0
                 try clear hx22_0
                 try clear hx28_0
                 try clear p1
                 try clear p15
                 try clear p159
                 try clear p17
                 try clear p176
                 try clear p177
                 try clear p183
                 try clear p184
                 try clear p185
                 try clear p186
                 try clear p2
                 try clear p22
                 try clear p6
                 try clear q045
                 try clear q1
                 try clear q15
                 try clear q159
                 try clear q17
                 try clear q176
                 try clear q177
                 try clear q183
                 try clear q184
                 try clear q185
                 try clear q186
                 try clear q2
                 try clear q22
                 try clear q4
                 try clear q45
                 try clear q69
                 obtain ⟨kq, x6_60, rfl, HA, HJ60, HB⟩ := hcut
                 cases kq with
                 | zero => exact absurd HA.out (by simp [bitloftlaw42_ParityRepairs.j3])
                 | succ kj60 =>
                  have H := HA.out; clear HA; simp only [bitloftlaw42_ParityRepairs.j3] at H; obtain rfl := Option.some.inj H
                  go_wp2
                  repeat (go_quiet (fail); try go_wp2)
                  go_ret
                  exact ⟨by first | rfl | (simp [errW_none, errW_some] <;> rfl) | (simp [*, errW_none, errW_some] <;> rfl), pH_ HB.out⟩
            ·
             rw [if_neg c40] at H; exact absurd H (by simp)
           ·
            rw [if_neg c39] at H; exact absurd H (by simp)
          ·
           rw [if_neg c38] at H; exact absurd H (by simp)
      ·
       rw [if_neg c21] at H; exact absurd H (by simp)
     ·
      rw [if_neg c20] at H; exact absurd H (by simp)
    ·
     rw [if_neg c19] at H; exact absurd H (by simp)

/-- The one plain statement of bitloftlaw42_ParityRepairs. -/
def bitloftlaw42_ParityRepairs.Pure : Prop := ∀ (l0 : List (List Int)) (a1 : Int) (l2 : List Int), l0.length ≤ maxLen → (∀ x_ ∈ l0, (fun l_ : List Int => l_.length ≤ maxLen ∧ ∀ x_ ∈ l_, (fun n_ : Int => (Lit.int .u8 n_).wf = true) x_) x_) → (Lit.int .i64 a1).wf = true → l2.length ≤ maxLen → l2.length * 1 ≤ 140737488351232 → (∀ x ∈ l2, (Lit.int .u8 x).wf = true) → ∃ k, bitloftlaw42_ParityRepairs.f k l0 a1 l2 = some true

end Go.Proofs.YtejamobohmljfaaDoor.XParityRepairs
