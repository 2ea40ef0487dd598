-- Laid by a program of this session (wip/mkxprint.py, over the kit's print): Lean checks it.
import Derived.Test.YtejamobohmljfaaDoorXParityMendsx0
import Derived.Test.YtejamobohmljfaaDoorXParityMendsx1
import Derived.Test.YtejamobohmljfaaDoorXParityMendsx3
import Derived.Test.YtejamobohmljfaaDoorXParityMendsx4
namespace Go.Proofs.YtejamobohmljfaaDoor.XParityMends
open List (setIfInBounds_toArray set_cons_zero set_cons_succ)
open Go.RowKit Go.Proofs.YtejamobohmljfaaDoorW.PrintWords Go.Proofs.YtejamobohmljfaaDoorW.PrintLast Go.Proofs.YtejamobohmljfaaDoorW.PrintMore
attribute [local go_sem] max2_int min2_int max_two min_two max_three min_three max_four min_four   -- for this text's walks alone
set_option linter.unusedVariables false
set_option linter.unusedSimpArgs false

/-! ### parity_Recover: function 15 -/
mutual
def parity_Recover.j0 : Nat → List (List Int) → List Bool → Int → List (List Int) → Bool → Option ((List (List Int)) × Int)
 | 0, _, _, _, _, _ => none
 | k + 1, x0, x1, x2, x3, x32 => if x32 = true then (some (([] : List (List Int)), 2)) else (if (x0.length : Int) > 100 then (some (([] : List (List Int)), 4)) else ((parity_groups.f x0 x2).bind fun t163 => (if 0 ≤ (t163.length : Int) then (if ((t163.length : Int) : Int).toNat ≤ 35184372088832 then ((some (List.replicate ((t163.length : Int) : Int).toNat 0 : List Int)).bind fun y166 => (parity_Recover.l0 k x0 x1 x2 x3 t163 y166 (y166.length : Int) 0)) else (none)) else (none))))
def parity_Recover.l0 : Nat → List (List Int) → List Bool → Int → List (List Int) → List (List (List Int)) → List Int → Int → Int → Option ((List (List Int)) × Int)
 | 0, _, _, _, _, _, _, _, _ => none
 | k + 1, x0, x1, x2, x3, x10, x11, x43, x44 => if x44 < x43 then (if 0 ≤ x44 then (if x44 < (x11.length : Int) then (parity_Recover.l0 k x0 x1 x2 x3 x10 (x11.set (x44 : Int).toNat (-1)) x43 (wrap64 (x44 + 1))) else (none)) else (none)) else (if 0 ≤ (x0.length : Int) then (if ((x0.length : Int) : Int).toNat ≤ 11728124029610 then (parity_Recover.l1 k x0 x1 x2 x3 x10 x11 false (List.replicate ((x0.length : Int) : Int).toNat []) (x0.length : Int) 0) else (none)) else (none))
def parity_Recover.l1 : Nat → List (List Int) → List Bool → Int → List (List Int) → List (List (List Int)) → List Int → Bool → List (List Int) → Int → Int → Option ((List (List Int)) × Int)
 | 0, _, _, _, _, _, _, _, _, _, _ => none
 | k + 1, x0, x1, x2, x3, x10, x11, x13, x14, x55, x56 => if x56 < x55 then (if 0 ≤ x56 then (if x56 < (x1.length : Int) then (if rdOf false x1 x56 = true then (if x13 = true then (if x2 = 0 then (none) else (if 0 ≤ (wrap64 (Int.tdiv x56 x2)) then (if (wrap64 (Int.tdiv x56 x2)) < (x11.length : Int) then (parity_Recover.l1 k x0 x1 x2 x3 x10 (x11.set ((wrap64 (Int.tdiv x56 x2)) : Int).toNat (Int.tmod x56 x2)) true x14 x55 (wrap64 (x56 + 1))) else (none)) else (none))) else (if x2 = 0 then (none) else (if 0 ≤ (wrap64 (Int.tdiv x56 x2)) then (if (wrap64 (Int.tdiv x56 x2)) < (x11.length : Int) then (parity_Recover.l1 k x0 x1 x2 x3 x10 (x11.set ((wrap64 (Int.tdiv x56 x2)) : Int).toNat (Int.tmod x56 x2)) (decide ((rd x11 (wrap64 (Int.tdiv x56 x2))) ≥ 0)) x14 x55 (wrap64 (x56 + 1))) else (none)) else (none)))) else (if x56 < (x0.length : Int) then ((parity_long.f (rd_L1 x0 x56)).bind fun t178 => (if t178 = true then (some (([] : List (List Int)), 4)) else ((slices_Clone_byte_byte.f (rd_L1 x0 x56)).bind fun t180 => (if x56 < (x14.length : Int) then (parity_Recover.l1 k x0 x1 x2 x3 x10 x11 x13 (x14.set (x56 : Int).toNat t180) x55 (wrap64 (x56 + 1))) else (none))))) else (none))) else (none)) else (none)) else (if x13 = true then (parity_Recover.j3 k x2 x3 x10 x11 x14 true) else (parity_Recover.j3 k x2 x3 x10 x11 x14 ((x3.length : Int) != (x10.length : Int))))
def parity_Recover.j3 : Nat → Int → List (List Int) → List (List (List Int)) → List Int → List (List Int) → Bool → Option ((List (List Int)) × Int)
 | 0, _, _, _, _, _, _ => none
 | k + 1, x2, x3, x10, x11, x14, x103 => if x103 = true then (some (([] : List (List Int)), 40)) else (parity_Recover.l2 k x2 x3 x10 x14 x11 (x11.length : Int) 0)
def parity_Recover.l2 : Nat → Int → List (List Int) → List (List (List Int)) → List (List Int) → List Int → Int → Int → Option ((List (List Int)) × Int)
 | 0, _, _, _, _, _, _, _ => none
 | k + 1, x2, x3, x10, x14, x104, x105, x106 => if x106 < x105 then (if 0 ≤ x106 then (if x106 < (x104.length : Int) then (if (rd x104 x106) < 0 then (parity_Recover.l2 k x2 x3 x10 x14 x104 x105 (wrap64 (x106 + 1))) else (if x106 < (x10.length : Int) then (if x106 < (x3.length : Int) then ((parity_Repair.f (rd_L2 x10 x106) (rd x104 x106) (rd_L1 x3 x106)).bind fun bt187 => (if bt187.2 = 0 then (if 0 ≤ (wrap64 ((wrap64 (x106 * x2)) + (rd x104 x106))) then (if (wrap64 ((wrap64 (x106 * x2)) + (rd x104 x106))) < (x14.length : Int) then (parity_Recover.l2 k x2 x3 x10 (x14.set ((wrap64 ((wrap64 (x106 * x2)) + (rd x104 x106))) : Int).toNat bt187.1) x104 x105 (wrap64 (x106 + 1))) else (none)) else (none)) else (some (([] : List (List Int)), bt187.2)))) else (none)) else (none))) else (none)) else (none)) else (some (x14, 0))
end
def parity_Recover.f (k : Nat) (l0 : List (List Int)) (l1 : List Bool) (a2 : Int) (l3 : List (List Int)) : Option ((List (List Int)) × Int) := if a2 < 1 then (parity_Recover.j0 k l0 l1 a2 l3 true) else (if a2 > 16 then (parity_Recover.j0 k l0 l1 a2 l3 true) else (parity_Recover.j0 k l0 l1 a2 l3 ((l1.length : Int) != (l0.length : Int))))
theorem parity_Recover.mono_l : ∀ k, (∀ y0 y1 y2 y3 y4, LeO (parity_Recover.j0 k y0 y1 y2 y3 y4) (parity_Recover.j0 (k + 1) y0 y1 y2 y3 y4)) ∧ (∀ y0 y1 y2 y3 y4 y5 y6 y7, LeO (parity_Recover.l0 k y0 y1 y2 y3 y4 y5 y6 y7) (parity_Recover.l0 (k + 1) y0 y1 y2 y3 y4 y5 y6 y7)) ∧ (∀ y0 y1 y2 y3 y4 y5 y6 y7 y8 y9, LeO (parity_Recover.l1 k y0 y1 y2 y3 y4 y5 y6 y7 y8 y9) (parity_Recover.l1 (k + 1) y0 y1 y2 y3 y4 y5 y6 y7 y8 y9)) ∧ (∀ y0 y1 y2 y3 y4 y5, LeO (parity_Recover.j3 k y0 y1 y2 y3 y4 y5) (parity_Recover.j3 (k + 1) y0 y1 y2 y3 y4 y5)) ∧ (∀ y0 y1 y2 y3 y4 y5 y6, LeO (parity_Recover.l2 k y0 y1 y2 y3 y4 y5 y6) (parity_Recover.l2 (k + 1) y0 y1 y2 y3 y4 y5 y6))
 | 0 => ⟨fun _ _ _ _ _ r h => by simp [parity_Recover.j0] at h, fun _ _ _ _ _ _ _ _ r h => by simp [parity_Recover.l0] at h, fun _ _ _ _ _ _ _ _ _ _ r h => by simp [parity_Recover.l1] at h, fun _ _ _ _ _ _ r h => by simp [parity_Recover.j3] at h, fun _ _ _ _ _ _ _ r h => by simp [parity_Recover.l2] at h⟩
 | k + 1 => by
  obtain ⟨ih0, ih1, ih2, ih3, ih4⟩ := parity_Recover.mono_l k; refine ⟨?_, ?_, ?_, ?_, ?_⟩
  ·
   intro y0 y1 y2 y3 y4
   unfold parity_Recover.j0
   repeat' first
   | (with_reducible exact ih0 _ _ _ _ _)
   | (with_reducible exact ih1 _ _ _ _ _ _ _ _)
   | (with_reducible exact ih2 _ _ _ _ _ _ _ _ _ _)
   | (with_reducible exact ih3 _ _ _ _ _ _)
   | (with_reducible exact ih4 _ _ _ _ _ _ _)
   | (with_reducible exact LeO.refl _)
   | (with_reducible exact LeO.none _)
   | (with_reducible refine LeO.ite ?_ ?_)
   | (with_reducible refine LeO.bind ?_ (fun _ => ?_))
   | exact ih0 _ _ _ _ _
   | exact ih1 _ _ _ _ _ _ _ _
   | exact ih2 _ _ _ _ _ _ _ _ _ _
   | exact ih3 _ _ _ _ _ _
   | exact ih4 _ _ _ _ _ _ _
   | exact LeO.none _
   | refine LeO.ite ?_ ?_
   | refine LeO.bind ?_ (fun _ => ?_)
  ·
   intro y0 y1 y2 y3 y4 y5 y6 y7
   unfold parity_Recover.l0
   repeat' first
   | (with_reducible exact ih0 _ _ _ _ _)
   | (with_reducible exact ih1 _ _ _ _ _ _ _ _)
   | (with_reducible exact ih2 _ _ _ _ _ _ _ _ _ _)
   | (with_reducible exact ih3 _ _ _ _ _ _)
   | (with_reducible exact ih4 _ _ _ _ _ _ _)
   | (with_reducible exact LeO.refl _)
   | (with_reducible exact LeO.none _)
   | (with_reducible refine LeO.ite ?_ ?_)
   | (with_reducible refine LeO.bind ?_ (fun _ => ?_))
   | exact ih0 _ _ _ _ _
   | exact ih1 _ _ _ _ _ _ _ _
   | exact ih2 _ _ _ _ _ _ _ _ _ _
   | exact ih3 _ _ _ _ _ _
   | exact ih4 _ _ _ _ _ _ _
   | exact LeO.none _
   | refine LeO.ite ?_ ?_
   | refine LeO.bind ?_ (fun _ => ?_)
  ·
   intro y0 y1 y2 y3 y4 y5 y6 y7 y8 y9
   unfold parity_Recover.l1
   repeat' first
   | (with_reducible exact ih0 _ _ _ _ _)
   | (with_reducible exact ih1 _ _ _ _ _ _ _ _)
   | (with_reducible exact ih2 _ _ _ _ _ _ _ _ _ _)
   | (with_reducible exact ih3 _ _ _ _ _ _)
   | (with_reducible exact ih4 _ _ _ _ _ _ _)
   | (with_reducible exact LeO.refl _)
   | (with_reducible exact LeO.none _)
   | (with_reducible refine LeO.ite ?_ ?_)
   | (with_reducible refine LeO.bind ?_ (fun _ => ?_))
   | exact ih0 _ _ _ _ _
   | exact ih1 _ _ _ _ _ _ _ _
   | exact ih2 _ _ _ _ _ _ _ _ _ _
   | exact ih3 _ _ _ _ _ _
   | exact ih4 _ _ _ _ _ _ _
   | exact LeO.none _
   | refine LeO.ite ?_ ?_
   | refine LeO.bind ?_ (fun _ => ?_)
  ·
   intro y0 y1 y2 y3 y4 y5
   unfold parity_Recover.j3
   repeat' first
   | (with_reducible exact ih0 _ _ _ _ _)
   | (with_reducible exact ih1 _ _ _ _ _ _ _ _)
   | (with_reducible exact ih2 _ _ _ _ _ _ _ _ _ _)
   | (with_reducible exact ih3 _ _ _ _ _ _)
   | (with_reducible exact ih4 _ _ _ _ _ _ _)
   | (with_reducible exact LeO.refl _)
   | (with_reducible exact LeO.none _)
   | (with_reducible refine LeO.ite ?_ ?_)
   | (with_reducible refine LeO.bind ?_ (fun _ => ?_))
   | exact ih0 _ _ _ _ _
   | exact ih1 _ _ _ _ _ _ _ _
   | exact ih2 _ _ _ _ _ _ _ _ _ _
   | exact ih3 _ _ _ _ _ _
   | exact ih4 _ _ _ _ _ _ _
   | exact LeO.none _
   | refine LeO.ite ?_ ?_
   | refine LeO.bind ?_ (fun _ => ?_)
  ·
   intro y0 y1 y2 y3 y4 y5 y6
   unfold parity_Recover.l2
   repeat' first
   | (with_reducible exact ih0 _ _ _ _ _)
   | (with_reducible exact ih1 _ _ _ _ _ _ _ _)
   | (with_reducible exact ih2 _ _ _ _ _ _ _ _ _ _)
   | (with_reducible exact ih3 _ _ _ _ _ _)
   | (with_reducible exact ih4 _ _ _ _ _ _ _)
   | (with_reducible exact LeO.refl _)
   | (with_reducible exact LeO.none _)
   | (with_reducible refine LeO.ite ?_ ?_)
   | (with_reducible refine LeO.bind ?_ (fun _ => ?_))
   | exact ih0 _ _ _ _ _
   | exact ih1 _ _ _ _ _ _ _ _
   | exact ih2 _ _ _ _ _ _ _ _ _ _
   | exact ih3 _ _ _ _ _ _
   | exact ih4 _ _ _ _ _ _ _
   | exact LeO.none _
   | refine LeO.ite ?_ ?_
   | refine LeO.bind ?_ (fun _ => ?_)
theorem parity_Recover.mono : ∀ a0 a1 a2 a3 k, LeO (parity_Recover.f k a0 a1 a2 a3) (parity_Recover.f (k + 1) a0 a1 a2 a3) := by
 intro a0 a1 a2 a3 k; obtain ⟨ih0, ih1, ih2, ih3, ih4⟩ := parity_Recover.mono_l k
 unfold parity_Recover.f
 repeat' first
   | (with_reducible exact ih0 _ _ _ _ _)
   | (with_reducible exact ih1 _ _ _ _ _ _ _ _)
   | (with_reducible exact ih2 _ _ _ _ _ _ _ _ _ _)
   | (with_reducible exact ih3 _ _ _ _ _ _)
   | (with_reducible exact ih4 _ _ _ _ _ _ _)
   | (with_reducible exact LeO.refl _)
   | (with_reducible exact LeO.none _)
   | (with_reducible refine LeO.ite ?_ ?_)
   | (with_reducible refine LeO.bind ?_ (fun _ => ?_))
   | exact ih0 _ _ _ _ _
   | exact ih1 _ _ _ _ _ _ _ _
   | exact ih2 _ _ _ _ _ _ _ _ _ _
   | exact ih3 _ _ _ _ _ _
   | exact ih4 _ _ _ _ _ _ _
   | exact LeO.none _
   | refine LeO.ite ?_ ?_
   | refine LeO.bind ?_ (fun _ => ?_)
def parity_Recover.T22 : Bool × List (List Nat × List Nat) := (true, [([], []), ([], []), ([], []), ([1, 2], [1, 2]), ([], []), ([], []), ([4, 5], [4, 5]), ([0, 3, 0, 1, 2, 3, 4, 5, 6], [0, 3]), ([7, 6, 0, 1, 2, 3, 4, 5, 6], [6, 7])])
def parity_Recover.B22 : List Nat := [0, 0, 0, 6, 0, 0, 48, 127, 255]
theorem parity_Recover.tab22 : rtab .any (opsOf Tryd.f15 22) = parity_Recover.T22 := by kernel_rfl
theorem parity_Recover.bits22 : waitsOk parity_Recover.T22.2 parity_Recover.B22 = true := by kernel_rfl
def parity_Recover.T30 : Bool × List (List Nat × List Nat) := (true, [([], []), ([], []), ([0, 1], [0, 1]), ([2], [2]), ([], []), ([], []), ([], []), ([5, 6], [5, 6]), ([7], [7]), ([3, 4, 8], [3, 4, 8]), ([9], [9]), ([10], [10]), ([10], [10]), ([11, 9, 0, 1, 2, 3, 4, 5, 6, 7, 8, 9, 10, 11], [11]), ([12, 13, 0, 1, 2, 3, 4, 5, 6, 7, 8, 9, 10, 11, 12, 13], [12])])
def parity_Recover.B30 : List Nat := [0, 0, 3, 7, 0, 0, 0, 96, 224, 511, 1023, 2047, 2047, 4095, 16383]
theorem parity_Recover.tab30 : rtab .any (opsOf Tryd.f15 30) = parity_Recover.T30 := by kernel_rfl
theorem parity_Recover.bits30 : waitsOk parity_Recover.T30.2 parity_Recover.B30 = true := by kernel_rfl
set_option maxHeartbeats 8000000 in
set_option maxRecDepth 100000 in
theorem parity_Recover.calls (k : Nat) (P0_ : Nat → Prop) (A0 : Option Addr) (c0 : Nat) (l0 : List (List Int)) (A1 : Option Addr) (c1 : Nat) (l1 : List Bool) (a2 : Int) (A3 : Option Addr) (c3 : Nat) (l3 : List (List Int)) (r1 : List (List Int)) (r2 : Int) (w : World) (hs0 : Kd.V (Kd.slice 5 (Kd.int .u8)) 23 w w.heap.size (fun k_ => P0_ k_) (.slice A0 l0.length c0) l0) (hr1 : Kd.C Kd.bool w A1 l1.length l1) (hc1 : l1.length ≤ c1) (hr3 : Kd.C (Kd.slice 5 (Kd.int .u8)) w A3 l3.length l3) (hc3 : l3.length ≤ c3) (h : parity_Recover.f k l0 l1 a2 l3 = some (r1, r2)) :
  Calls Tryd.prog 15 #[.slice A0 l0.length c0, .slice A1 l1.length c1, .int .i64 a2, .slice A3 l3.length c3] w fun e w' => ∃ v0_ : Value, e = .returned (.tuple #[v0_, .int .i64 r2]) ∧ Kd.N (Kd.slice 5 (Kd.int .u8)) 23 w' w.heap.size (fun k_ => (P0_ k_ ∨ w.heap.size ≤ k_)) v0_ r1 ∧ Below w.heap.size w w' := by
 have HO0 := Aside0.mk (show Kd.V (Kd.slice 5 (Kd.int .u8)) 23 w w.heap.size (fun k_ => (P0_ k_ ∨ w.heap.size ≤ k_)) (.slice A0 l0.length c0) l0 from Kd.V_mono hs0 (fun k_ hk => .inl hk)); have HR1 := Aside0.mk hr1; have HC1 := Aside0.mk hc1; clear hr1 hc1; have HR3 := Aside0.mk hr3; have HC3 := Aside0.mk hc3; clear hr3 hc3; have HB := Aside0.mk (Below.refl w.heap.size w); have H : (if a2 < 1 then (parity_Recover.j0 k l0 l1 a2 l3 true) else (if a2 > 16 then (parity_Recover.j0 k l0 l1 a2 l3 true) else (parity_Recover.j0 k l0 l1 a2 l3 ((l1.length : Int) != (l0.length : Int))))) = some (r1, r2) := h; clear h; have HC5 := Aside0.mk H; clear H
 go_enter Tryd.func15, Tryd.ntmps15
 go_upto_region 1 with (fail)
 (with_reducible first | refine then_id_ ?_ | (refine wp_tail_ ?_; intro Kt_ hKt_))
 go_cut [32] (fun v32 wc => ∃ (kq : Nat) (x32_4 : Bool), v32 = .bool x32_4 ∧ Aside0 (parity_Recover.j0 kq l0 l1 a2 l3 x32_4 = some (r1, r2)) ∧ Aside0 (kq ≤ k) ∧ Aside0 (Kd.V (Kd.slice 5 (Kd.int .u8)) 23 wc w.heap.size (fun k_ => (P0_ k_ ∨ w.heap.size ≤ k_)) (.slice A0 l0.length c0) l0) ∧ Aside0 (Below w.heap.size w wc))
 case first =>
  have H := HC5.out; clear HC5
  by_cases c6 : a2 < 1
  ·
   rw [if_pos c6] at H; have c6b0 : decide (a2 < 1) = true := decide_eq_true c6; clear c6; (first | rw [c6b0] | (simp only [i64_w, i32_w]; rw [c6b0]) | skip); have H' := Aside0.mk H; clear H
   go_wp2
   (first | go_meet | (refine Met.intro ?_; go_step; (repeat apply Exists.intro); refine ⟨?rel, ?eqf_⟩; case eqf_ => ((simp only [c6b0]) <;> rfl)))
   case rel => exact ⟨_, (true), (by first | rfl | (simp; done) | (simp [*]; done)), H', ⟨by first | omega | exact Nat.le_refl _⟩, ⟨by (with_reducible repeat (first | apply Kd.V_alloc | apply Kd.V_drewN | apply Kd.V_drew)); exact HO0.out⟩, ⟨pH_ HB.out⟩⟩
  ·
   rw [if_neg c6] at H; have c6b0 : decide (a2 < 1) = false := decide_eq_false c6; clear c6; (first | rw [c6b0] | (simp only [i64_w, i32_w]; rw [c6b0]) | skip)
   by_cases c7 : a2 > 16
   ·
    rw [if_pos c7] at H; have c7b0 : decide (16 < a2) = true := decide_eq_true c7; clear c7; have H' := Aside0.mk H; clear H
    go_wp2
    (first | go_meet | (refine Met.intro ?_; go_step; (repeat apply Exists.intro); refine ⟨?rel, ?eqf_⟩; case eqf_ => ((simp only [c7b0, c6b0]) <;> rfl)))
    case rel => exact ⟨_, (true), (by first | rfl | (simp; done) | (simp [*]; done)), H', ⟨by first | omega | exact Nat.le_refl _⟩, ⟨by (with_reducible repeat (first | apply Kd.V_alloc | apply Kd.V_drewN | apply Kd.V_drew)); exact HO0.out⟩, ⟨pH_ HB.out⟩⟩
   ·
    rw [if_neg c7] at H; have c7b0 : decide (16 < a2) = false := decide_eq_false c7; clear c7; have H' := Aside0.mk H; clear H
    go_wp2
    (first | go_meet | (refine Met.intro ?_; go_step; (repeat apply Exists.intro); refine ⟨?rel, ?eqf_⟩; case eqf_ => ((simp only [c7b0, c6b0]) <;> rfl)))
    case rel => exact ⟨_, (((l1.length : Int) != (l0.length : Int))), (by first | rfl | (simp; done) | (simp [*]; done)), H', ⟨by first | omega | exact Nat.le_refl _⟩, ⟨by (with_reducible repeat (first | apply Kd.V_alloc | apply Kd.V_drewN | apply Kd.V_drew)); exact HO0.out⟩, ⟨pH_ HB.out⟩⟩
 case rest =>
  (try (refine hKt_ _ _ ?_; clear hKt_; clear Kt_)); clear HC5
  try clear c1
  try clear p2
  try clear c3
  try clear c6
  try clear c6b0
  try clear c7
  try clear c7b0
  obtain ⟨kq, x32_4, rfl, HA, HJ4, HO_0, HB⟩ := hcut
  cases kq with
  | zero => exact absurd HA.out (by simp [parity_Recover.j0])
  | succ kj4 =>
   have H := HA.out; clear HA; simp only [parity_Recover.j0] at H
   by_cases c8 : x32_4 = true
   ·
    subst c8
    have H1 : (some (([] : List (List Int)), 2)) = some (r1, r2) := by rw [if_pos rfl] at H; exact H
    clear H; have H := H1; clear H1; simp only [Option.some.injEq, Prod.mk.injEq] at H; obtain ⟨rfl, rfl⟩ := H
    go_wp2
    go_ret2
    exact ⟨_, by first | rfl | (simp [errW_none, errW_some] <;> rfl) | (simp [*, errW_none, errW_some] <;> rfl), by first | exact Kd.S_nil _ _ _ _ _ | exact Kd.N_nil _ _ _ _ _ | exact Kd.V_nil _ _ _ _ _ | exact Kd.Q_nil _ _ _ _ _ | exact Kd.R_nil _ _ _ _ _, pH_ HB.out⟩
   ·
    replace c8 := Bool.eq_false_iff.mpr c8
    subst c8
    have H1 : (if (l0.length : Int) > 100 then (some (([] : List (List Int)), 4)) else ((parity_groups.f l0 a2).bind fun t163 => (if 0 ≤ (t163.length : Int) then (if ((t163.length : Int) : Int).toNat ≤ 35184372088832 then ((some (List.replicate ((t163.length : Int) : Int).toNat 0 : List Int)).bind fun y166 => (parity_Recover.l0 kj4 l0 l1 a2 l3 t163 y166 (y166.length : Int) 0)) else (none)) else (none)))) = some (r1, r2) := by rw [if_neg (show ¬ (false = true) by decide)] at H; exact H
    clear H; have H := H1; clear H1
    by_cases c9 : (l0.length : Int) > 100
    ·
     rw [if_pos c9] at H; have c9b0 : decide (100 < (l0.length : Int)) = true := decide_eq_true c9; have c9b1 : decide (100 < l0.length) = true := decide_eq_true (by omega); clear c9; simp only [Option.some.injEq, Prod.mk.injEq] at H; obtain ⟨rfl, rfl⟩ := H
     go_wp2
     go_ret2
     exact ⟨_, by first | rfl | (simp [errW_none, errW_some] <;> rfl) | (simp [*, errW_none, errW_some] <;> rfl), by first | exact Kd.S_nil _ _ _ _ _ | exact Kd.N_nil _ _ _ _ _ | exact Kd.V_nil _ _ _ _ _ | exact Kd.Q_nil _ _ _ _ _ | exact Kd.R_nil _ _ _ _ _, pH_ HB.out⟩
    ·
     rw [if_neg c9] at H; have c9b0 : decide (100 < (l0.length : Int)) = false := decide_eq_false c9; have c9b1 : decide (100 < l0.length) = false := decide_eq_false (by omega); clear c9; replace H := Option.bind_eq_some_iff.mp H; obtain ⟨t163, A100, H⟩ := H; replace H : (if 0 ≤ (t163.length : Int) then (if ((t163.length : Int) : Int).toNat ≤ 35184372088832 then ((some (List.replicate ((t163.length : Int) : Int).toNat 0 : List Int)).bind fun y166 => (parity_Recover.l0 kj4 l0 l1 a2 l3 t163 y166 (y166.length : Int) 0)) else (none)) else (none)) = some (r1, r2) := H; have A10 := Aside0.mk A100; clear A100
     by_cases c11 : 0 ≤ (t163.length : Int)
     ·
      rw [if_pos c11] at H; have c11b0 := eq_true c11; have c11b1 : decide (0 ≤ (t163.length : Int)) = true := decide_eq_true c11; clear c11
      by_cases c12 : ((t163.length : Int) : Int).toNat ≤ 35184372088832
      ·
       rw [if_pos c12] at H; have c12b0 := eq_true c12; have c12b1 : decide (((t163.length : Int) : Int).toNat ≤ 35184372088832) = true := decide_eq_true c12; clear c12; obtain ⟨y166, hy166⟩ : ∃ y_ : List Int, y_ = (List.replicate ((t163.length : Int) : Int).toNat 0) := ⟨_, rfl⟩
       replace H : (parity_Recover.l0 kj4 l0 l1 a2 l3 t163 y166 (y166.length : Int) 0) = some (r1, r2) := by first | (rw [hy166]; with_reducible exact H) | (have H2_ := (Option.bind_some _ _).symm.trans H; rw [hy166]; with_reducible exact H2_) | (have H2_ := (Option.bind_some _ _).symm.trans H; with_reducible exact H2_) | with_reducible exact H | (rw [hy166]; exact H) | exact H
       have Ny166 := Aside0.mk hy166; clear hy166; have H' := Aside0.mk H; clear H
       go_wp2_with (first | ((with_reducible refine gate_callee (f := 29) rfl ?_); refine gL_ (some 38) Tryd.func29 #[.slice A0 l0.length c0, .int .i64 a2] ?_; (with_reducible refine (parity_groups.calls (fun k_ => (P0_ k_ ∨ w.heap.size ≤ k_)) _ _ l0 a2 t163 _ ?side1 A10.out).mono ?_); (case side1 => exact HO_0.out); rintro e w13 ⟨v164, rfl, ho0, hb⟩; refine ⟨_, rfl, ?_⟩; have n0_ := Aside0.mk (Kd.V_elder' (by (with_reducible repeat (first | apply Kd.V_alloc | apply Kd.V_drewN | apply Kd.V_drew)); exact HO_0.out) (by first | exact Kd.N_base ho0 | exact Kd.N_base (Kd.S_N ho0)) hb); have n1_ := Aside0.mk (Kd.N_lower (Kd.N_mono (ok' := fun k_ => (P0_ k_ ∨ w.heap.size ≤ k_)) ho0 (fun k_ hk_ => Or.elim hk_ (fun hs_ => hs_) (fun hn_ => (.inr (Nat.le_trans (below_size (pH_ HB.out)) hn_))))) (below_size (pH_ HB.out))); have n2_ := Aside0.mk (below_step (pH_ HB.out) hb); clear HO_0; clear HB; have HO_0 := n0_; have HO165 := n1_; have HB := n2_; clear n0_ n1_ n2_; (try clear hb); (try clear ho0); obtain ⟨Ao14, co14, eo14⟩ := Kd.N_slice HO165.out; subst eo14) | ((with_reducible refine gate_dst (N := 41) rfl ?_); (try (refine gate_guard (by rfl) ?_; dsimp only)); refine Kd.R_make (Kd.int .i64) _ 3 rfl (N := 41) rfl 44 _ _ rfl (t163.length : Int) rfl rfl Tryd.underlying44 (.int .i64 0) 8 info3 rfl (by decide) (by omega) 0 (ok := fun _ => True) (okp := fun _ => True) rfl (fun _ hk => hk) trivial (of_decide_eq_true (by first | (with_reducible assumption) | assumption)) (Nat.le_trans (Nat.mul_le_mul_right _ (of_decide_eq_true (by first | (with_reducible assumption) | assumption) : (t163.length : Int).toNat ≤ 35184372088832)) (by omega)) (Below.refl _ _) (Nat.le_refl _) ?_; intro v167 w15 ho16 hb hg_ hnew_; clear hg_ hnew_; (first | rw [← Ny166.out] at ho16 | (simp only [Int.reduceToNat] at ho16; rw [← Ny166.out] at ho16)); have n0_ := Aside0.mk (Kd.V_elder' (by (with_reducible repeat (first | apply Kd.V_alloc | apply Kd.V_drewN | apply Kd.V_drew)); exact HO_0.out) (Kd.R_base ho16) hb); have n1_ := Aside0.mk (Kd.N_elder' (by (with_reducible repeat (first | apply Kd.N_alloc | apply Kd.N_drewN | apply Kd.N_drew)); exact HO165.out) (Kd.R_base ho16) hb); have n2_ := Aside0.mk (Kd.R_lower (Kd.R_newM (M := fun k_ => (w.heap.size ≤ k_)) ho16 (below_size (pH_ HB.out)) (fun k_ h_ => h_)) (below_size (pH_ HB.out))); have n3_ := Aside0.mk (below_step (pH_ HB.out) hb); clear HO_0; clear HO165; clear HB; have HO_0 := n0_; have HO165 := n1_; have HO168 := n2_; have HB := n3_; clear n0_ n1_ n2_ n3_; clear hb ho16; obtain ⟨Ao17, co17, eo17⟩ := Kd.R_slice HO168.out; subst eo17))
       go_loopg [44] kj4 (fun kq v44 w' => ∃ (x11_2 : List Int) (x44_2 : Int), v44 = .int .i64 x44_2 ∧ Aside0 (parity_Recover.l0 kq l0 l1 a2 l3 t163 x11_2 (y166.length : Int) x44_2 = some (r1, r2)) ∧ Aside0 (kq ≤ kj4) ∧ Aside0 (Kd.V (Kd.slice 5 (Kd.int .u8)) 23 w' w.heap.size (fun k_ => (P0_ k_ ∨ w.heap.size ≤ k_) ∧ some k_ ≠ ((.slice Ao14 t163.length co14) : Value).ownBlock ∧ some k_ ≠ ((.slice Ao17 y166.length co17) : Value).ownBlock) (.slice A0 l0.length c0) l0) ∧ Aside0 (Kd.N (Kd.slice 23 (Kd.slice 5 (Kd.int .u8))) 22 w' w.heap.size (fun k_ => (P0_ k_ ∨ w.heap.size ≤ k_) ∧ some k_ ≠ ((.slice Ao17 y166.length co17) : Value).ownBlock) (.slice Ao14 t163.length co14) t163) ∧ Aside0 (Kd.R (Kd.int .i64) 3 w' w.heap.size (fun k_ => (w.heap.size ≤ k_)) (.slice Ao17 y166.length co17) x11_2) ∧ Aside0 (Below w.heap.size w w'))
       case atStart => exact ⟨(y166), (0), (by first | rfl | (simp; done) | (simp [*]; done)), H', ⟨Nat.le_refl _⟩, ⟨by (with_reducible repeat (first | apply Kd.V_alloc | apply Kd.V_drewN | apply Kd.V_drew)); exact Kd.V_mono HO_0.out (fun _ hk => ⟨hk.1.1, ⟨hk.1.2, hk.2⟩⟩)⟩, ⟨by (with_reducible repeat (first | apply Kd.N_alloc | apply Kd.N_drewN | apply Kd.N_drew)); exact HO165.out⟩, ⟨by (with_reducible repeat (first | apply rA_ | apply rN_ | apply rD_)); exact Kd.R_mono HO168.out (fun _ hk => hk.1)⟩, ⟨pH_ HB.out⟩⟩
       case round =>
        clear H'
        try clear c1
        try clear c2
        try clear p2
        try clear c3
        try clear c6
        try clear c6b0
        try clear c7
        try clear c7b0
        try clear c8
        try clear c9
        try clear c9b0
        try clear c9b1
        try clear c11
        try clear c11b0
        try clear c11b1
        try clear c12
        try clear c12b0
        try clear c12b1
        try clear c15
        try clear p2
        obtain ⟨x11_2, x44_2, rfl, HA, HK2, HO_0, HO_10, HO_11, HB⟩ := hrel; have hl11_2 := (Kd.R_reads' HO_11.out).1; rw [hl11_2] at HO_11; (try simp only [hl11_2]); (try simp only [hl11_2] at HO_0); (try simp only [hl11_2] at HO_10)
        cases gk with
        | zero => exact absurd HA.out (by simp [parity_Recover.l0])
        | succ k2 =>
         have H := HA.out; clear HA; simp only [parity_Recover.l0] at H
         by_cases c18 : x44_2 < (y166.length : Int)
         ·
          rw [if_pos c18] at H; have c18b0 : decide (x44_2 < (y166.length : Int)) = true := decide_eq_true c18; (try simp only [hl11_2] at c18b0); clear c18
          by_cases c19 : 0 ≤ x44_2
          ·
           rw [if_pos c19] at H; have c19b0 : decide (0 ≤ x44_2) = true := decide_eq_true c19; (try simp only [hl11_2] at c19b0); clear c19
           by_cases c20 : x44_2 < (x11_2.length : Int)
           ·
            rw [if_pos c20] at H; have c20b0 : decide (x44_2 < (x11_2.length : Int)) = true := decide_eq_true c20; (try simp only [hl11_2] at c20b0); clear c20; obtain ⟨y169, hy169⟩ : ∃ y_ : List Int, y_ = (x11_2.set (x44_2 : Int).toNat (-1)) := ⟨_, rfl⟩
            replace H : (parity_Recover.l0 k2 l0 l1 a2 l3 t163 y169 (y166.length : Int) (wrap64 (x44_2 + 1))) = some (r1, r2) := by first | (rw [hy169]; with_reducible exact H) | (have H2_ := (Option.bind_some _ _).symm.trans H; rw [hy169]; with_reducible exact H2_) | (have H2_ := (Option.bind_some _ _).symm.trans H; with_reducible exact H2_) | with_reducible exact H | (rw [hy169]; exact H) | exact H
            have Ny169 := Aside0.mk hy169; clear hy169; have H' := Aside0.mk H; clear H; have p21 : 0 ≤ (x44_2 : Int) := of_decide_eq_true (by first | (with_reducible assumption) | assumption); have q21 : (x44_2 : Int) < ((x11_2.length : Int) : Int) := of_decide_eq_true (by first | (with_reducible assumption) | assumption); obtain ⟨go21, co21, eo21, gb21, gl21, cl21, HG21⟩ := Kd.R_form HO_11.out (by omega); (first | cases eo21 | (injection eo21 with ea_ en_ ec_; (first | subst ea_ | (injection ea_ with ea_; subst ea_)); subst ec_; clear en_)); have GB21 := Aside0.mk gb21; have GG21 := Aside0.mk HG21; clear gb21 gl21 HG21; obtain ⟨hx21_0, hf21_0⟩ := Kd.R_celln 0 HO_11.out (x44_2 : Int) p21 q21; replace p21 := eq_true p21; replace q21 := eq_true q21; have HP22 := Kd.R_putg HO_11.out (x44_2 : Int) (-1)
            go_wp2_with (first | ((with_reducible refine gate_store (t := 3) (p := 49) rfl ?_); refine store_event (t := 3) (p := 49) (v := ?vo_w23) (w1 := (wr.setCell ⟨go21, (x44_2 : Int).toNat, none⟩ (.int .i64 (-1)))) ?hg ?ho ?hn ?hr ?_; (case ho => rfl); (case hg => rfl); (case hn => rfl); (case hr => first | (go_simp; done) | (go_simp; rfl)); intro w23 hw; have hg : wr.grownBy w23 (some go21) := (by rw [hw]; exact HP22.2); have hp_ : Kd.R (Kd.int .i64) 3 w23 w.heap.size (fun k_ => (w.heap.size ≤ k_)) (.slice (some ⟨go21, 0, none⟩) x11_2.length co17) y169 := (by rw [hw, Ny169.out]; exact HP22.1); clear HP22; have n0_ := Aside0.mk (Kd.V_afterv (v := (.slice (some ⟨go21, 0, none⟩) x11_2.length co17)) (v1 := (.slice (some ⟨go21, 0, none⟩) x11_2.length co17)) (ok := (fun k_ => (P0_ k_ ∨ w.heap.size ≤ k_) ∧ nO_ k_ (.slice Ao14 t163.length co14))) (by (with_reducible repeat (first | apply Kd.V_alloc | apply Kd.V_drewN | apply Kd.V_drew)); exact Kd.V_mono HO_0.out (fun _ hk => ⟨⟨hk.1, hk.2.1⟩, hk.2.2⟩)) hg (.inl rfl)); have n1_ := Aside0.mk (Kd.N_afterv (v := (.slice (some ⟨go21, 0, none⟩) x11_2.length co17)) (v1 := (.slice (some ⟨go21, 0, none⟩) x11_2.length co17)) (ok := (fun k_ => (P0_ k_ ∨ w.heap.size ≤ k_))) (by (with_reducible repeat (first | apply Kd.N_alloc | apply Kd.N_drewN | apply Kd.N_drew)); exact HO_10.out) hg (.inl rfl)); have n2_ := Aside0.mk (hp_); have n3_ := Aside0.mk ((by rw [hw]; exact below_set (HB.out) GB21.out : Below w.heap.size w w23)); clear HO_0; clear HO_10; clear HO_11; clear HB; have HO_0 := n0_; have HO_10 := n1_; have HO_11 := n2_; have HB := n3_; clear n0_ n1_ n2_ n3_; clear hg hw hp_))
            (try simp only [← hl11_2])
            go_roundg k2
            case measure => have := HJ4.out; have := HK2.out; omega
            case rel => exact ⟨(y169), (wrap64 (x44_2 + 1)), (by first | rfl | (simp; done) | (simp [*]; done)), H', ⟨by have := HJ4.out; have := HK2.out; omega⟩, ⟨by (try simp only [hl11_2]); (with_reducible repeat (first | apply Kd.V_alloc | apply Kd.V_drewN | apply Kd.V_drew)); exact Kd.V_mono HO_0.out (fun _ hk => ⟨hk.1.1, ⟨hk.1.2, hk.2⟩⟩)⟩, ⟨by (try simp only [hl11_2]); (with_reducible repeat (first | apply Kd.N_alloc | apply Kd.N_drewN | apply Kd.N_drew)); exact HO_10.out⟩, ⟨by (try simp only [hl11_2]); (with_reducible repeat (first | apply rA_ | apply rN_ | apply rD_)); exact HO_11.out⟩, ⟨pH_ HB.out⟩⟩
           ·
            rw [if_neg c20] at H; exact absurd H (by simp)
          ·
           rw [if_neg c19] at H; exact absurd H (by simp)
         ·
          rw [if_neg c18] at H; have c18b0 : decide (x44_2 < (y166.length : Int)) = false := decide_eq_false c18; (try simp only [hl11_2] at c18b0); clear c18
          by_cases c24 : 0 ≤ (l0.length : Int)
          ·
           rw [if_pos c24] at H; have c24b0 := eq_true c24; have c24b1 : decide (0 ≤ (l0.length : Int)) = true := decide_eq_true c24; (try simp only [hl11_2] at c24b1); clear c24
           by_cases c25 : ((l0.length : Int) : Int).toNat ≤ 11728124029610
           ·
            rw [if_pos c25] at H; have c25b0 := eq_true c25; have c25b1 : decide (((l0.length : Int) : Int).toNat ≤ 11728124029610) = true := decide_eq_true c25; (try simp only [hl11_2] at c25b1); clear c25; obtain ⟨y170, hy170⟩ : ∃ y_ : List (List Int), y_ = (List.replicate ((l0.length : Int) : Int).toNat []) := ⟨_, rfl⟩
            replace H : (parity_Recover.l1 k2 l0 l1 a2 l3 t163 x11_2 false y170 (l0.length : Int) 0) = some (r1, r2) := by first | (rw [hy170]; with_reducible exact H) | (have H2_ := (Option.bind_some _ _).symm.trans H; rw [hy170]; with_reducible exact H2_) | (have H2_ := (Option.bind_some _ _).symm.trans H; with_reducible exact H2_) | with_reducible exact H | (rw [hy170]; exact H) | exact H
            have Ny170 := Aside0.mk hy170; clear hy170; have H' := Aside0.mk H; clear H
            go_wp2_with (first | ((with_reducible refine gate_dst (N := 53) rfl ?_); (try (refine gate_guard (by rfl) ?_; dsimp only)); refine Kd.N_make (Kd.slice 5 (Kd.int .u8)) _ 23 rfl (N' := 53) rfl 22 _ _ rfl (l0.length : Int) rfl rfl Tryd.underlying22 (.slice none 0 0) 24 info23 rfl (by decide) (by omega) [] (ok := fun k_ => wr.heap.size ≤ k_) (okp := fun _ => False) (Kd.FK_slice_mk (Nat.le_refl _) (Kd.F_nil _ _ _)) (fun _ hk => hk.elim) (Nat.le_refl _) (of_decide_eq_true (by first | (with_reducible assumption) | assumption)) (Nat.le_trans (Nat.mul_le_mul_right _ (of_decide_eq_true (by first | (with_reducible assumption) | assumption) : (l0.length : Int).toNat ≤ 11728124029610)) (by omega)) (Below.refl _ _) (Nat.le_refl _) ?_; intro v171 w26 ho27 hb hg_ hnew_; clear hg_ hnew_; (first | rw [← Ny170.out] at ho27 | (simp only [Int.reduceToNat] at ho27; rw [← Ny170.out] at ho27)); have n0_ := Aside0.mk (Kd.V_elder' (by (with_reducible repeat (first | apply Kd.V_alloc | apply Kd.V_drewN | apply Kd.V_drew)); exact HO_0.out) (by first | exact Kd.N_base ho27 | exact Kd.N_base (Kd.S_N ho27)) hb); have n1_ := Aside0.mk (Kd.N_elder' (by (with_reducible repeat (first | apply Kd.N_alloc | apply Kd.N_drewN | apply Kd.N_drew)); exact HO_10.out) (by first | exact Kd.N_base ho27 | exact Kd.N_base (Kd.S_N ho27)) hb); have n2_ := Aside0.mk (Kd.R_below (pL_ HO_11.out) hb); have n3_ := Aside0.mk (Kd.N_lower (Kd.N_mono (ok' := fun k_ => (P0_ k_ ∨ w.heap.size ≤ k_) ∧ nO_ k_ (.slice Ao14 t163.length co14) ∧ nO_ k_ (.slice Ao17 x11_2.length co17)) ho27 (fun k_ hk_ => ⟨(.inr (Nat.le_trans (below_size (pH_ HB.out)) hk_)), (Kd.fresh' (Kd.N_lt (by (with_reducible repeat (first | apply Kd.N_alloc | apply Kd.N_drewN | apply Kd.N_drew)); exact HO_10.out)) k_ hk_), (Kd.fresh' (Kd.R_lt (pL_ HO_11.out)) k_ hk_)⟩)) (below_size (pH_ HB.out))); have n4_ := Aside0.mk (below_step (pH_ HB.out) hb); clear HO_0; clear HO_10; clear HO_11; clear HB; have HO_0 := n0_; have HO_10 := n1_; have HO_11 := n2_; have HO172 := n3_; have HB := n4_; clear n0_ n1_ n2_ n3_ n4_; clear hb ho27))
            go_loopg [13, 56] k2 (fun kq v13 v56 w' => ∃ (x11_3 : List Int) (x13_3 : Bool) (x14_3 : List (List Int)) (x56_3 : Int), v13 = .bool x13_3 ∧ v56 = .int .i64 x56_3 ∧ Aside0 (parity_Recover.l1 kq l0 l1 a2 l3 t163 x11_3 x13_3 x14_3 (l0.length : Int) x56_3 = some (r1, r2)) ∧ Aside0 (kq ≤ k2) ∧ Aside0 (Kd.V (Kd.slice 5 (Kd.int .u8)) 23 w' w.heap.size (fun k_ => (P0_ k_ ∨ w.heap.size ≤ k_) ∧ some k_ ≠ ((.slice Ao14 t163.length co14) : Value).ownBlock ∧ some k_ ≠ ((.slice Ao17 x11_2.length co17) : Value).ownBlock ∧ nO_ k_ v171) (.slice A0 l0.length c0) l0) ∧ Aside0 (Kd.N (Kd.slice 23 (Kd.slice 5 (Kd.int .u8))) 22 w' w.heap.size (fun k_ => (P0_ k_ ∨ w.heap.size ≤ k_) ∧ some k_ ≠ ((.slice Ao17 x11_2.length co17) : Value).ownBlock ∧ nO_ k_ v171) (.slice Ao14 t163.length co14) t163) ∧ Aside0 (Kd.R (Kd.int .i64) 3 w' w.heap.size (fun k_ => (w.heap.size ≤ k_)) (.slice Ao17 x11_2.length co17) x11_3) ∧ Aside0 (Kd.N (Kd.slice 5 (Kd.int .u8)) 23 w' w.heap.size (fun k_ => (P0_ k_ ∨ w.heap.size ≤ k_) ∧ some k_ ≠ ((.slice Ao14 t163.length co14) : Value).ownBlock ∧ some k_ ≠ ((.slice Ao17 x11_2.length co17) : Value).ownBlock) v171 x14_3) ∧ Aside0 (Below w.heap.size w w'))
            case atStart => exact ⟨(x11_2), (false), (y170), (0), (by first | rfl | (simp; done) | (simp [*]; done)), (by first | rfl | (simp; done) | (simp [*]; done)), H', ⟨Nat.le_refl _⟩, ⟨by (try simp only [hl11_2]); (with_reducible repeat (first | apply Kd.V_alloc | apply Kd.V_drewN | apply Kd.V_drew)); exact Kd.V_mono HO_0.out (fun _ hk => ⟨hk.1.1, ⟨hk.1.2.1, ⟨hk.1.2.2, hk.2⟩⟩⟩)⟩, ⟨by (try simp only [hl11_2]); (with_reducible repeat (first | apply Kd.N_alloc | apply Kd.N_drewN | apply Kd.N_drew)); exact Kd.N_mono HO_10.out (fun _ hk => ⟨hk.1.1, ⟨hk.1.2, hk.2⟩⟩)⟩, ⟨by (try simp only [hl11_2]); (with_reducible repeat (first | apply rA_ | apply rN_ | apply rD_)); exact HO_11.out⟩, ⟨by (try simp only [hl11_2]); (with_reducible repeat (first | apply Kd.N_alloc | apply Kd.N_drewN | apply Kd.N_drew)); exact HO172.out⟩, ⟨pH_ HB.out⟩⟩
            case round =>
             clear H'
             try clear c1
             try clear c2
             try clear p2
             try clear q2
             try clear hx2
             try clear c3
             try clear c6
             try clear c6b0
             try clear p6
             try clear c7
             try clear c7b0
             try clear c8
             try clear c9
             try clear c9b0
             try clear c9b1
             try clear c11
             try clear c11b0
             try clear c11b1
             try clear c12
             try clear c12b0
             try clear c12b1
             try clear c15
             try clear c18
             try clear c18b0
             try clear c19
             try clear c19b0
             try clear c20
             try clear c20b0
             try clear p21
             try clear q21
             try clear hx21
             try clear hf21
             try clear c24
             try clear c24b0
             try clear c24b1
             try clear c25
             try clear c25b0
             try clear c25b1
             try clear hx21_0
             try clear p2
             try clear p21
             try clear q21
             obtain ⟨x11_3, x13_3, x14_3, x56_3, rfl, rfl, HA, HK3, HO_0, HO_10, HO_11, HO_14, HB⟩ := hrel; have hl11_3 := (Kd.R_reads' HO_11.out).1; rw [hl11_3] at HO_11; (try simp only [hl11_3]); (try simp only [hl11_3] at HO_0); (try simp only [hl11_3] at HO_10); (try simp only [hl11_3] at HO_14)
             cases gk with
             | zero => exact absurd HA.out (by simp [parity_Recover.l1])
             | succ k3 =>
              have H := HA.out; clear HA; simp only [parity_Recover.l1] at H
              by_cases c28 : x56_3 < (l0.length : Int)
              ·
               rw [if_pos c28] at H; have c28b0 : decide (x56_3 < (l0.length : Int)) = true := decide_eq_true c28; (try simp only [hl11_2, hl11_3] at c28b0); clear c28
               by_cases c29 : 0 ≤ x56_3
               ·
                rw [if_pos c29] at H; have c29b0 : decide (0 ≤ x56_3) = true := decide_eq_true c29; (try simp only [hl11_2, hl11_3] at c29b0); clear c29
                by_cases c30 : x56_3 < (l1.length : Int)
                ·
                 rw [if_pos c30] at H; have c30b0 : decide (x56_3 < (l1.length : Int)) = true := decide_eq_true c30; (try simp only [hl11_2, hl11_3] at c30b0); clear c30; obtain ⟨bq31, hbq31⟩ : ∃ b_ : Bool, b_ = (rdOf false l1 x56_3) := ⟨_, rfl⟩
                 replace H : (if bq31 = true then (if x13_3 = true then (if a2 = 0 then (none) else (if 0 ≤ (wrap64 (Int.tdiv x56_3 a2)) then (if (wrap64 (Int.tdiv x56_3 a2)) < (x11_3.length : Int) then (parity_Recover.l1 k3 l0 l1 a2 l3 t163 (x11_3.set ((wrap64 (Int.tdiv x56_3 a2)) : Int).toNat (Int.tmod x56_3 a2)) true x14_3 (l0.length : Int) (wrap64 (x56_3 + 1))) else (none)) else (none))) else (if a2 = 0 then (none) else (if 0 ≤ (wrap64 (Int.tdiv x56_3 a2)) then (if (wrap64 (Int.tdiv x56_3 a2)) < (x11_3.length : Int) then (parity_Recover.l1 k3 l0 l1 a2 l3 t163 (x11_3.set ((wrap64 (Int.tdiv x56_3 a2)) : Int).toNat (Int.tmod x56_3 a2)) (decide ((rd x11_3 (wrap64 (Int.tdiv x56_3 a2))) ≥ 0)) x14_3 (l0.length : Int) (wrap64 (x56_3 + 1))) else (none)) else (none)))) else (if x56_3 < (l0.length : Int) then ((parity_long.f (rd_L1 l0 x56_3)).bind fun t178 => (if t178 = true then (some (([] : List (List Int)), 4)) else ((slices_Clone_byte_byte.f (rd_L1 l0 x56_3)).bind fun t180 => (if x56_3 < (x14_3.length : Int) then (parity_Recover.l1 k3 l0 l1 a2 l3 t163 x11_3 x13_3 (x14_3.set (x56_3 : Int).toNat t180) (l0.length : Int) (wrap64 (x56_3 + 1))) else (none))))) else (none))) = some (r1, r2) := by rw [← hbq31] at H; exact H
                 have Nbq31 := Aside0.mk hbq31; clear hbq31
                 by_cases c32 : bq31 = true
                 ·
                  subst c32
                  have H1 : (if x13_3 = true then (if a2 = 0 then (none) else (if 0 ≤ (wrap64 (Int.tdiv x56_3 a2)) then (if (wrap64 (Int.tdiv x56_3 a2)) < (x11_3.length : Int) then (parity_Recover.l1 k3 l0 l1 a2 l3 t163 (x11_3.set ((wrap64 (Int.tdiv x56_3 a2)) : Int).toNat (Int.tmod x56_3 a2)) true x14_3 (l0.length : Int) (wrap64 (x56_3 + 1))) else (none)) else (none))) else (if a2 = 0 then (none) else (if 0 ≤ (wrap64 (Int.tdiv x56_3 a2)) then (if (wrap64 (Int.tdiv x56_3 a2)) < (x11_3.length : Int) then (parity_Recover.l1 k3 l0 l1 a2 l3 t163 (x11_3.set ((wrap64 (Int.tdiv x56_3 a2)) : Int).toNat (Int.tmod x56_3 a2)) (decide ((rd x11_3 (wrap64 (Int.tdiv x56_3 a2))) ≥ 0)) x14_3 (l0.length : Int) (wrap64 (x56_3 + 1))) else (none)) else (none)))) = some (r1, r2) := by rw [if_pos rfl] at H; exact H
                  clear H; have H := H1; clear H1
                  by_cases c33 : x13_3 = true
                  ·
                   subst c33
                   have H1 : (if a2 = 0 then (none) else (if 0 ≤ (wrap64 (Int.tdiv x56_3 a2)) then (if (wrap64 (Int.tdiv x56_3 a2)) < (x11_3.length : Int) then (parity_Recover.l1 k3 l0 l1 a2 l3 t163 (x11_3.set ((wrap64 (Int.tdiv x56_3 a2)) : Int).toNat (Int.tmod x56_3 a2)) true x14_3 (l0.length : Int) (wrap64 (x56_3 + 1))) else (none)) else (none))) = some (r1, r2) := by rw [if_pos rfl] at H; exact H
                   clear H; have H := H1; clear H1
                   by_cases c34 : a2 = 0
                   ·
                    rw [if_pos c34] at H; exact absurd H (by simp)
                   ·
                    rw [if_neg c34] at H; have c34b0 : (a2 == 0) = false := beq_eq_false_iff_ne.mpr c34; (try simp only [hl11_2, hl11_3] at c34b0); have c34b1 : (a2 != 0) = true := bne_iff_ne.mpr c34; (try simp only [hl11_2, hl11_3] at c34b1); obtain ⟨ji35, hji35⟩ : ∃ j_ : Int, (wrap64 (Int.tdiv x56_3 a2)) = j_ := ⟨_, rfl⟩
                    replace H : (if 0 ≤ (ji35) then (if (ji35) < (x11_3.length : Int) then (parity_Recover.l1 k3 l0 l1 a2 l3 t163 (x11_3.set ((ji35) : Int).toNat (Int.tmod x56_3 a2)) true x14_3 (l0.length : Int) (wrap64 (x56_3 + 1))) else (none)) else (none)) = some (r1, r2) := by first | (rw [hji35] at H; exact H) | (simp only [hji35] at H ⊢; exact H)
                    have hji35w : (IntKind.i64.wrap (Int.tdiv x56_3 a2)) = ji35 := (i64_w _).trans hji35
                    by_cases c36 : 0 ≤ (ji35)
                    ·
                     rw [if_pos c36] at H; have c36b0 : decide (0 ≤ (ji35)) = true := decide_eq_true c36; (try simp only [hl11_2, hl11_3] at c36b0); clear c36
                     by_cases c37 : (ji35) < (x11_3.length : Int)
                     ·
                      rw [if_pos c37] at H; have c37b0 : decide ((ji35) < (x11_3.length : Int)) = true := decide_eq_true c37; (try simp only [hl11_2, hl11_3] at c37b0); clear c37; obtain ⟨y174, hy174⟩ : ∃ y_ : List Int, y_ = (x11_3.set ((ji35) : Int).toNat (Int.tmod x56_3 a2)) := ⟨_, rfl⟩
                      replace H : (parity_Recover.l1 k3 l0 l1 a2 l3 t163 y174 true x14_3 (l0.length : Int) (wrap64 (x56_3 + 1))) = some (r1, r2) := by first | (rw [hy174]; with_reducible exact H) | (have H2_ := (Option.bind_some _ _).symm.trans H; rw [hy174]; with_reducible exact H2_) | (have H2_ := (Option.bind_some _ _).symm.trans H; with_reducible exact H2_) | with_reducible exact H | (rw [hy174]; exact H) | exact H
                      have Ny174 := Aside0.mk hy174; clear hy174; have H' := Aside0.mk H; clear H; have p173 : 0 ≤ (x56_3 : Int) := of_decide_eq_true (by first | (with_reducible assumption) | assumption); have q173 : x56_3 < (l1.length : Int) := of_decide_eq_true (by first | (with_reducible assumption) | assumption); obtain ⟨ad173, e173, hx173_0⟩ := Kd.at_bool HR1.out x56_3 p173 q173; (try rw [← Nbq31.out] at hx173_0)
                      cases e173
                      replace hx173_0 := (HB.out.cell (World.block_lt_of_cell? w _ hx173_0)).trans hx173_0; replace p173 := eq_true p173; replace q173 := eq_true q173
                      try go_wp2
                      have n0_ := Aside0.mk (Kd.V_drew HO_0.out); have n1_ := Aside0.mk (Kd.N_drew HO_10.out); have n2_ := Aside0.mk (Kd.R_drew HO_11.out); have n3_ := Aside0.mk (Kd.N_drew HO_14.out); have n4_ := Aside0.mk (below_drew1 HB.out); clear HO_0; clear HO_10; clear HO_11; clear HO_14; clear HB; have HO_0 := n0_; have HO_10 := n1_; have HO_11 := n2_; have HO_14 := n3_; have HB := n4_; clear n0_ n1_ n2_ n3_ n4_; have p38 : 0 ≤ ((ji35) : Int) := of_decide_eq_true (by first | (with_reducible assumption) | assumption); have q38 : ((ji35) : Int) < ((x11_3.length : Int) : Int) := of_decide_eq_true (by first | (with_reducible assumption) | assumption); obtain ⟨go38, co38, eo38, gb38, gl38, cl38, HG38⟩ := Kd.R_form HO_11.out (by omega); (first | cases eo38 | (injection eo38 with ea_ en_ ec_; (first | subst ea_ | (injection ea_ with ea_; subst ea_)); subst ec_; clear en_)); have GB38 := Aside0.mk gb38; have GG38 := Aside0.mk HG38; clear gb38 gl38 HG38; obtain ⟨hx38_0, hf38_0⟩ := Kd.R_celln 0 HO_11.out ((ji35) : Int) p38 q38; replace p38 := eq_true p38; replace q38 := eq_true q38; have HP40 := Kd.R_putn HO_11.out ((ji35) : Int) (Int.tmod x56_3 a2); rw [← Ny174.out] at HP40; have HQ40 := Aside0.mk HP40; clear HP40; refine start_ (n := 9) (S := fun w' => True) (ds := [8]) #[f_, f_, f_, f_, f_, f_, f_, f_, f_] (by kernel_rfl) rfl rfl trivial (fun hHeld => ?_); refine with_tabW parity_Recover.tab22 parity_Recover.bits22 (fun HT_ HW_ => ?_)
                      generalize wr.drew = w39 at HO_0 HO_10 HO_11 HO_14 HB GG38 HQ40 hf38_0 hx38_0 hHeld ⊢
                      refine pure_ (i := 0) (N := some 87) (v := ?_) (a' := ?_) #[t_, f_, f_, f_, f_, f_, f_, f_, f_] rfl rfl (any_of HT_.out (by kernel_rfl)) (fun _ _ _ h => h) (Or.inl ⟨by rfl, ?_⟩) ?_ ?_; rotate_left
                      ·
                       intro w'; go_simp
                       with_reducible rfl
                      rotate_left
                      ·
                       simp only [Act.put, sA_, sZ_, sS_, i64_w, i32_w]; rfl
                      refine pure_ (i := 1) (N := some 88) (v := ?_) (a' := ?_) #[t_, t_, f_, f_, f_, f_, f_, f_, f_] rfl rfl (any_of HT_.out (by kernel_rfl)) (fun _ _ _ h => h) (Or.inl ⟨by rfl, ?_⟩) ?_ ?_; rotate_left
                      ·
                       intro w'; go_simp
                       with_reducible rfl
                      rotate_left
                      ·
                       simp only [Act.put, sA_, sZ_, sS_, i64_w, i32_w]; rfl
                      refine pure_ (i := 2) (N := some 89) (v := ?_) (a' := ?_) #[t_, t_, t_, f_, f_, f_, f_, f_, f_] rfl rfl (any_of HT_.out (by kernel_rfl)) (fun _ _ _ h => h) (Or.inl ⟨by rfl, ?_⟩) ?_ ?_; rotate_left
                      ·
                       intro w'; go_simp
                       with_reducible rfl
                      rotate_left
                      ·
                       simp only [Act.put, sA_, sZ_, sS_, i64_w, i32_w]; rfl
                      refine pure_ (i := 3) (N := some 90) (v := ?_) (a' := ?_) #[t_, t_, t_, t_, f_, f_, f_, f_, f_] rfl rfl (any_of HT_.out (by kernel_rfl)) (fun _ _ _ h => h) (Or.inl ⟨by rfl, ?_⟩) ?_ ?_; rotate_left
                      ·
                       intro w'; go_simp
                       with_reducible rfl
                      rotate_left
                      ·
                       simp only [Act.put, sA_, sZ_, sS_, i64_w, i32_w]; rfl
                      refine pure_ (i := 4) (N := some 91) (v := ?_) (a' := ?_) #[t_, t_, t_, t_, t_, f_, f_, f_, f_] rfl rfl (any_of HT_.out (by kernel_rfl)) (fun _ _ _ h => h) (Or.inl ⟨by rfl, ?_⟩) ?_ ?_; rotate_left
                      ·
                       intro w'; go_simp
                       with_reducible rfl
                      rotate_left
                      ·
                       simp only [Act.put, sA_, sZ_, sS_, i64_w, i32_w]; rfl
                      refine pure_ (i := 5) (N := some 92) (v := ?_) (a' := ?_) #[t_, t_, t_, t_, t_, t_, f_, f_, f_] rfl rfl (any_of HT_.out (by kernel_rfl)) (fun _ _ _ h => h) (Or.inl ⟨by rfl, ?_⟩) ?_ ?_; rotate_left
                      ·
                       intro w'; go_simp
                       with_reducible rfl
                      rotate_left
                      ·
                       simp only [Act.put, sA_, sZ_, sS_, i64_w, i32_w]; rfl
                      refine pure_ (i := 6) (N := some 93) (v := ?_) (a' := ?_) #[t_, t_, t_, t_, t_, t_, t_, f_, f_] rfl rfl (any_of HT_.out (by kernel_rfl)) (fun _ _ _ h => h) (Or.inl ⟨by rfl, ?_⟩) ?_ ?_; rotate_left
                      ·
                       intro w'; go_simp
                       with_reducible rfl
                      rotate_left
                      ·
                       simp only [Act.put, sA_, sZ_, sS_, i64_w, i32_w]; rfl
                      refine pure_ (i := 7) (N := some 94) (v := ?_) (a' := ?_) #[t_, t_, t_, t_, t_, t_, t_, t_, f_] rfl rfl (any_of HT_.out (by kernel_rfl)) (fun _ _ _ h => h) (Or.inl ⟨by rfl, ?_⟩) ?_ ?_; rotate_left
                      ·
                       intro w'; go_simp
                       with_reducible rfl
                      rotate_left
                      ·
                       simp only [Act.put, sA_, sZ_, sS_, i64_w, i32_w]; rfl
                      refine last_ (i := 8) (N := none) #[t_, t_, t_, t_, t_, t_, t_, t_, t_] rfl rfl (one_of HT_.out (by kernel_rfl)) (by decide) (fun K hK => ?_); refine skip_ (w1 := ?_) (by rfl) rfl ?_ ?_; rotate_left
                      ·
                       go_simp; rfl
                      refine hK.out _ _ ?_; clear hK K; refine done_ (done_of HT_.out (by kernel_rfl)) ?_
                      try go_wp2
                      (try simp only [← hl11_3])
                      go_roundg k3
                      case measure => have := HJ4.out; have := HK2.out; have := HK3.out; omega
                      case rel => exact ⟨(y174), (true), (x14_3), (wrap64 (x56_3 + 1)), (by first | rfl | (simp; done) | (simp [*]; done)), (by first | rfl | (simp; done) | (simp [*]; done)), H', ⟨by have := HJ4.out; have := HK2.out; have := HK3.out; omega⟩, ⟨by (try simp only [hl11_2]); (try simp only [hl11_3]); (with_reducible repeat (first | apply Kd.V_alloc | apply Kd.V_drewN | apply Kd.V_drew)); exact Kd.V_mono (Kd.V_far (p := ⟨go38, ((ji35) : Int).toNat, none⟩) (Kd.V_mono HO_0.out (fun k_ hk => (⟨hk, fun e_ => hk.2.2.1 (by rw [e_]; rfl)⟩ : _ ∧ k_ ≠ go38))) (fun _ hk => hk.2) (.int .i64 (Int.tmod x56_3 a2))) (fun _ hk => ⟨hk.1.1, ⟨hk.1.2.1, ⟨hk.1.2.2.1, hk.1.2.2.2⟩⟩⟩)⟩, ⟨by (try simp only [hl11_2]); (try simp only [hl11_3]); (with_reducible repeat (first | apply Kd.N_alloc | apply Kd.N_drewN | apply Kd.N_drew)); exact Kd.N_mono (Kd.N_far (p := ⟨go38, ((ji35) : Int).toNat, none⟩) (Kd.N_mono HO_10.out (fun k_ hk => (⟨hk, fun e_ => hk.2.1 (by rw [e_]; rfl)⟩ : _ ∧ k_ ≠ go38))) (fun _ hk => hk.2) (.int .i64 (Int.tmod x56_3 a2))) (fun _ hk => ⟨hk.1.1, ⟨hk.1.2.1, hk.1.2.2⟩⟩)⟩, ⟨by (try simp only [hl11_2]); (try simp only [hl11_3]); (with_reducible repeat (first | apply rA_ | apply rN_ | apply rD_)); exact HQ40.out⟩, ⟨by (try simp only [hl11_2]); (try simp only [hl11_3]); (with_reducible repeat (first | apply Kd.N_alloc | apply Kd.N_drewN | apply Kd.N_drew)); exact Kd.N_mono (Kd.N_far (p := ⟨go38, ((ji35) : Int).toNat, none⟩) (Kd.N_mono HO_14.out (fun k_ hk => (⟨hk, fun e_ => hk.2.2 (by rw [e_]; rfl)⟩ : _ ∧ k_ ≠ go38))) (fun _ hk => hk.2) (.int .i64 (Int.tmod x56_3 a2))) (fun _ hk => ⟨hk.1.1, ⟨hk.1.2.1, hk.1.2.2⟩⟩)⟩, ⟨by repeat (first | (with_reducible first | exact HB.out | apply below_alloc | apply bN_ | apply below_drew1 | refine below_set ?_ GB38.out) | exact HB.out)⟩⟩
                     ·
                      rw [if_neg c37] at H; exact absurd H (by simp)
                    ·
                     rw [if_neg c36] at H; exact absurd H (by simp)
                  ·
                   replace c33 := Bool.eq_false_iff.mpr c33
                   subst c33
                   have H1 : (if a2 = 0 then (none) else (if 0 ≤ (wrap64 (Int.tdiv x56_3 a2)) then (if (wrap64 (Int.tdiv x56_3 a2)) < (x11_3.length : Int) then (parity_Recover.l1 k3 l0 l1 a2 l3 t163 (x11_3.set ((wrap64 (Int.tdiv x56_3 a2)) : Int).toNat (Int.tmod x56_3 a2)) (decide ((rd x11_3 (wrap64 (Int.tdiv x56_3 a2))) ≥ 0)) x14_3 (l0.length : Int) (wrap64 (x56_3 + 1))) else (none)) else (none))) = some (r1, r2) := by rw [if_neg (show ¬ (false = true) by decide)] at H; exact H
                   clear H; have H := H1; clear H1
                   by_cases c41 : a2 = 0
                   ·
                    rw [if_pos c41] at H; exact absurd H (by simp)
                   ·
                    rw [if_neg c41] at H; have c41b0 : (a2 == 0) = false := beq_eq_false_iff_ne.mpr c41; (try simp only [hl11_2, hl11_3] at c41b0); have c41b1 : (a2 != 0) = true := bne_iff_ne.mpr c41; (try simp only [hl11_2, hl11_3] at c41b1); obtain ⟨ji42, hji42⟩ : ∃ j_ : Int, (wrap64 (Int.tdiv x56_3 a2)) = j_ := ⟨_, rfl⟩
                    replace H : (if 0 ≤ (ji42) then (if (ji42) < (x11_3.length : Int) then (parity_Recover.l1 k3 l0 l1 a2 l3 t163 (x11_3.set ((ji42) : Int).toNat (Int.tmod x56_3 a2)) (decide ((rd x11_3 (ji42)) ≥ 0)) x14_3 (l0.length : Int) (wrap64 (x56_3 + 1))) else (none)) else (none)) = some (r1, r2) := by first | (rw [hji42] at H; exact H) | (simp only [hji42] at H ⊢; exact H)
                    have hji42w : (IntKind.i64.wrap (Int.tdiv x56_3 a2)) = ji42 := (i64_w _).trans hji42
                    by_cases c43 : 0 ≤ (ji42)
                    ·
                     rw [if_pos c43] at H; have c43b0 : decide (0 ≤ (ji42)) = true := decide_eq_true c43; (try simp only [hl11_2, hl11_3] at c43b0); clear c43
                     by_cases c44 : (ji42) < (x11_3.length : Int)
                     ·
                      rw [if_pos c44] at H; have c44b0 : decide ((ji42) < (x11_3.length : Int)) = true := decide_eq_true c44; (try simp only [hl11_2, hl11_3] at c44b0); clear c44; obtain ⟨y176, hy176⟩ : ∃ y_ : List Int, y_ = (x11_3.set ((ji42) : Int).toNat (Int.tmod x56_3 a2)) := ⟨_, rfl⟩
                      replace H : (parity_Recover.l1 k3 l0 l1 a2 l3 t163 y176 (decide ((rd x11_3 (ji42)) ≥ 0)) x14_3 (l0.length : Int) (wrap64 (x56_3 + 1))) = some (r1, r2) := by first | (rw [hy176]; with_reducible exact H) | (have H2_ := (Option.bind_some _ _).symm.trans H; rw [hy176]; with_reducible exact H2_) | (have H2_ := (Option.bind_some _ _).symm.trans H; with_reducible exact H2_) | with_reducible exact H | (rw [hy176]; exact H) | exact H
                      have Ny176 := Aside0.mk hy176; clear hy176; have H' := Aside0.mk H; clear H; have p173 : 0 ≤ (x56_3 : Int) := of_decide_eq_true (by first | (with_reducible assumption) | assumption); have q173 : x56_3 < (l1.length : Int) := of_decide_eq_true (by first | (with_reducible assumption) | assumption); obtain ⟨ad173, e173, hx173_0⟩ := Kd.at_bool HR1.out x56_3 p173 q173; (try rw [← Nbq31.out] at hx173_0)
                      cases e173
                      replace hx173_0 := (HB.out.cell (World.block_lt_of_cell? w _ hx173_0)).trans hx173_0; replace p173 := eq_true p173; replace q173 := eq_true q173; have p175 : 0 ≤ ((ji42) : Int) := of_decide_eq_true (by first | (with_reducible assumption) | assumption); have q175 : (ji42) < (x11_3.length : Int) := of_decide_eq_true (by first | (with_reducible assumption) | assumption); obtain ⟨ad175, e175, hx175_0⟩ := Kd.at_int (Kd.R_reads' HO_11.out).2.2 (ji42) p175 q175
                      cases e175
                      replace p175 := eq_true p175; replace q175 := eq_true q175
                      try go_wp2
                      have n0_ := Aside0.mk (Kd.V_drew HO_0.out); have n1_ := Aside0.mk (Kd.N_drew HO_10.out); have n2_ := Aside0.mk (Kd.R_drew HO_11.out); have n3_ := Aside0.mk (Kd.N_drew HO_14.out); have n4_ := Aside0.mk (below_drew1 HB.out); clear HO_0; clear HO_10; clear HO_11; clear HO_14; clear HB; have HO_0 := n0_; have HO_10 := n1_; have HO_11 := n2_; have HO_14 := n3_; have HB := n4_; clear n0_ n1_ n2_ n3_ n4_; have p45 : 0 ≤ ((ji42) : Int) := of_decide_eq_true (by first | (with_reducible assumption) | assumption); have q45 : ((ji42) : Int) < ((x11_3.length : Int) : Int) := of_decide_eq_true (by first | (with_reducible assumption) | assumption); obtain ⟨go45, co45, eo45, gb45, gl45, cl45, HG45⟩ := Kd.R_form HO_11.out (by omega); (first | cases eo45 | (injection eo45 with ea_ en_ ec_; (first | subst ea_ | (injection ea_ with ea_; subst ea_)); subst ec_; clear en_)); have GB45 := Aside0.mk gb45; have GG45 := Aside0.mk HG45; clear gb45 gl45 HG45; (first | simp only [add_plain] at hx175_0 | skip); obtain ⟨hx45_0, hf45_0⟩ := Kd.R_celln 0 HO_11.out ((ji42) : Int) p45 q45; replace p45 := eq_true p45; replace q45 := eq_true q45; have HP47 := Kd.R_putn HO_11.out ((ji42) : Int) (Int.tmod x56_3 a2); rw [← Ny176.out] at HP47; have HQ47 := Aside0.mk HP47; clear HP47; refine start_ (n := 9) (S := fun w' => True) (ds := [8]) #[f_, f_, f_, f_, f_, f_, f_, f_, f_] (by kernel_rfl) rfl rfl trivial (fun hHeld => ?_); refine with_tabW parity_Recover.tab22 parity_Recover.bits22 (fun HT_ HW_ => ?_)
                      generalize wr.drew = w46 at HO_0 HO_10 HO_11 HO_14 HB GG45 HQ47 hf45_0 hx175_0 hx45_0 hHeld ⊢
                      refine pure_ (i := 0) (N := some 87) (v := ?_) (a' := ?_) #[t_, f_, f_, f_, f_, f_, f_, f_, f_] rfl rfl (any_of HT_.out (by kernel_rfl)) (fun _ _ _ h => h) (Or.inl ⟨by rfl, ?_⟩) ?_ ?_; rotate_left
                      ·
                       intro w'; go_simp
                       with_reducible rfl
                      rotate_left
                      ·
                       simp only [Act.put, sA_, sZ_, sS_, i64_w, i32_w]; rfl
                      refine pure_ (i := 1) (N := some 88) (v := ?_) (a' := ?_) #[t_, t_, f_, f_, f_, f_, f_, f_, f_] rfl rfl (any_of HT_.out (by kernel_rfl)) (fun _ _ _ h => h) (Or.inl ⟨by rfl, ?_⟩) ?_ ?_; rotate_left
                      ·
                       intro w'; go_simp
                       with_reducible rfl
                      rotate_left
                      ·
                       simp only [Act.put, sA_, sZ_, sS_, i64_w, i32_w]; rfl
                      refine pure_ (i := 2) (N := some 89) (v := ?_) (a' := ?_) #[t_, t_, t_, f_, f_, f_, f_, f_, f_] rfl rfl (any_of HT_.out (by kernel_rfl)) (fun _ _ _ h => h) (Or.inl ⟨by rfl, ?_⟩) ?_ ?_; rotate_left
                      ·
                       intro w'; go_simp
                       with_reducible rfl
                      rotate_left
                      ·
                       simp only [Act.put, sA_, sZ_, sS_, i64_w, i32_w]; rfl
                      refine pure_ (i := 3) (N := some 90) (v := ?_) (a' := ?_) #[t_, t_, t_, t_, f_, f_, f_, f_, f_] rfl rfl (any_of HT_.out (by kernel_rfl)) (fun _ _ _ h => h) (Or.inl ⟨by rfl, ?_⟩) ?_ ?_; rotate_left
                      ·
                       intro w'; go_simp
                       with_reducible rfl
                      rotate_left
                      ·
                       simp only [Act.put, sA_, sZ_, sS_, i64_w, i32_w]; rfl
                      refine pure_ (i := 4) (N := some 91) (v := ?_) (a' := ?_) #[t_, t_, t_, t_, t_, f_, f_, f_, f_] rfl rfl (any_of HT_.out (by kernel_rfl)) (fun _ _ _ h => h) (Or.inl ⟨by rfl, ?_⟩) ?_ ?_; rotate_left
                      ·
                       intro w'; go_simp
                       with_reducible rfl
                      rotate_left
                      ·
                       simp only [Act.put, sA_, sZ_, sS_, i64_w, i32_w]; rfl
                      refine pure_ (i := 5) (N := some 92) (v := ?_) (a' := ?_) #[t_, t_, t_, t_, t_, t_, f_, f_, f_] rfl rfl (any_of HT_.out (by kernel_rfl)) (fun _ _ _ h => h) (Or.inl ⟨by rfl, ?_⟩) ?_ ?_; rotate_left
                      ·
                       intro w'; go_simp
                       with_reducible rfl
                      rotate_left
                      ·
                       simp only [Act.put, sA_, sZ_, sS_, i64_w, i32_w]; rfl
                      refine pure_ (i := 6) (N := some 93) (v := ?_) (a' := ?_) #[t_, t_, t_, t_, t_, t_, t_, f_, f_] rfl rfl (any_of HT_.out (by kernel_rfl)) (fun _ _ _ h => h) (Or.inl ⟨by rfl, ?_⟩) ?_ ?_; rotate_left
                      ·
                       intro w'; go_simp
                       with_reducible rfl
                      rotate_left
                      ·
                       simp only [Act.put, sA_, sZ_, sS_, i64_w, i32_w]; rfl
                      refine pure_ (i := 7) (N := some 94) (v := ?_) (a' := ?_) #[t_, t_, t_, t_, t_, t_, t_, t_, f_] rfl rfl (any_of HT_.out (by kernel_rfl)) (fun _ _ _ h => h) (Or.inl ⟨by rfl, ?_⟩) ?_ ?_; rotate_left
                      ·
                       intro w'; go_simp
                       with_reducible rfl
                      rotate_left
                      ·
                       simp only [Act.put, sA_, sZ_, sS_, i64_w, i32_w]; rfl
                      refine last_ (i := 8) (N := none) #[t_, t_, t_, t_, t_, t_, t_, t_, t_] rfl rfl (one_of HT_.out (by kernel_rfl)) (by decide) (fun K hK => ?_); refine skip_ (w1 := ?_) (by rfl) rfl ?_ ?_; rotate_left
                      ·
                       go_simp; rfl
                      refine hK.out _ _ ?_; clear hK K; refine done_ (done_of HT_.out (by kernel_rfl)) ?_
                      try go_wp2
                      (try simp only [← hl11_3])
                      go_roundg k3
                      case measure => have := HJ4.out; have := HK2.out; have := HK3.out; omega
                      case rel => exact ⟨(y176), (decide ((rd x11_3 (ji42)) ≥ 0)), (x14_3), (wrap64 (x56_3 + 1)), (by first | rfl | (simp; done) | (simp only [← hji42] <;> (first | rfl | simp)) | (simp [*]; done)), (by first | rfl | (simp; done) | (simp [*]; done)), H', ⟨by have := HJ4.out; have := HK2.out; have := HK3.out; omega⟩, ⟨by (try simp only [hl11_2]); (try simp only [hl11_3]); (with_reducible repeat (first | apply Kd.V_alloc | apply Kd.V_drewN | apply Kd.V_drew)); exact Kd.V_mono (Kd.V_far (p := ⟨go45, ((ji42) : Int).toNat, none⟩) (Kd.V_mono HO_0.out (fun k_ hk => (⟨hk, fun e_ => hk.2.2.1 (by rw [e_]; rfl)⟩ : _ ∧ k_ ≠ go45))) (fun _ hk => hk.2) (.int .i64 (Int.tmod x56_3 a2))) (fun _ hk => ⟨hk.1.1, ⟨hk.1.2.1, ⟨hk.1.2.2.1, hk.1.2.2.2⟩⟩⟩)⟩, ⟨by (try simp only [hl11_2]); (try simp only [hl11_3]); (with_reducible repeat (first | apply Kd.N_alloc | apply Kd.N_drewN | apply Kd.N_drew)); exact Kd.N_mono (Kd.N_far (p := ⟨go45, ((ji42) : Int).toNat, none⟩) (Kd.N_mono HO_10.out (fun k_ hk => (⟨hk, fun e_ => hk.2.1 (by rw [e_]; rfl)⟩ : _ ∧ k_ ≠ go45))) (fun _ hk => hk.2) (.int .i64 (Int.tmod x56_3 a2))) (fun _ hk => ⟨hk.1.1, ⟨hk.1.2.1, hk.1.2.2⟩⟩)⟩, ⟨by (try simp only [hl11_2]); (try simp only [hl11_3]); (with_reducible repeat (first | apply rA_ | apply rN_ | apply rD_)); exact HQ47.out⟩, ⟨by (try simp only [hl11_2]); (try simp only [hl11_3]); (with_reducible repeat (first | apply Kd.N_alloc | apply Kd.N_drewN | apply Kd.N_drew)); exact Kd.N_mono (Kd.N_far (p := ⟨go45, ((ji42) : Int).toNat, none⟩) (Kd.N_mono HO_14.out (fun k_ hk => (⟨hk, fun e_ => hk.2.2 (by rw [e_]; rfl)⟩ : _ ∧ k_ ≠ go45))) (fun _ hk => hk.2) (.int .i64 (Int.tmod x56_3 a2))) (fun _ hk => ⟨hk.1.1, ⟨hk.1.2.1, hk.1.2.2⟩⟩)⟩, ⟨by repeat (first | (with_reducible first | exact HB.out | apply below_alloc | apply bN_ | apply below_drew1 | refine below_set ?_ GB45.out) | exact HB.out)⟩⟩
                     ·
                      rw [if_neg c44] at H; exact absurd H (by simp)
                    ·
                     rw [if_neg c43] at H; exact absurd H (by simp)
                 ·
                  replace c32 := Bool.eq_false_iff.mpr c32
                  subst c32
                  have H1 : (if x56_3 < (l0.length : Int) then ((parity_long.f (rd_L1 l0 x56_3)).bind fun t178 => (if t178 = true then (some (([] : List (List Int)), 4)) else ((slices_Clone_byte_byte.f (rd_L1 l0 x56_3)).bind fun t180 => (if x56_3 < (x14_3.length : Int) then (parity_Recover.l1 k3 l0 l1 a2 l3 t163 x11_3 x13_3 (x14_3.set (x56_3 : Int).toNat t180) (l0.length : Int) (wrap64 (x56_3 + 1))) else (none))))) else (none)) = some (r1, r2) := by rw [if_neg (show ¬ (false = true) by decide)] at H; exact H
                  clear H; have H := H1; clear H1
                  by_cases c48 : x56_3 < (l0.length : Int)
                  ·
                   rw [if_pos c48] at H; have c48b0 : decide (x56_3 < (l0.length : Int)) = true := decide_eq_true c48; (try simp only [hl11_2, hl11_3] at c48b0); clear c48; replace H := Option.bind_eq_some_iff.mp H; obtain ⟨t178, A490, H⟩ := H; replace H : (if t178 = true then (some (([] : List (List Int)), 4)) else ((slices_Clone_byte_byte.f (rd_L1 l0 x56_3)).bind fun t180 => (if x56_3 < (x14_3.length : Int) then (parity_Recover.l1 k3 l0 l1 a2 l3 t163 x11_3 x13_3 (x14_3.set (x56_3 : Int).toNat t180) (l0.length : Int) (wrap64 (x56_3 + 1))) else (none)))) = some (r1, r2) := H; have A49 := Aside0.mk A490; clear A490
                   by_cases c50 : t178 = true
                   ·
                    subst c50
                    have H1 : (some (([] : List (List Int)), 4)) = some (r1, r2) := by rw [if_pos rfl] at H; exact H
                    clear H; have H := H1; clear H1; simp only [Option.some.injEq, Prod.mk.injEq] at H; obtain ⟨rfl, rfl⟩ := H; have p173 : 0 ≤ (x56_3 : Int) := of_decide_eq_true (by first | (with_reducible assumption) | assumption); have q173 : x56_3 < (l1.length : Int) := of_decide_eq_true (by first | (with_reducible assumption) | assumption); obtain ⟨ad173, e173, hx173_0⟩ := Kd.at_bool HR1.out x56_3 p173 q173; (try rw [← Nbq31.out] at hx173_0)
                    cases e173
                    replace hx173_0 := (HB.out.cell (World.block_lt_of_cell? w _ hx173_0)).trans hx173_0; replace p173 := eq_true p173; replace q173 := eq_true q173; have p177 : 0 ≤ (x56_3 : Int) := of_decide_eq_true (by first | (with_reducible assumption) | assumption); have q177 : x56_3 < (l0.length : Int) := of_decide_eq_true (by first | (with_reducible assumption) | assumption); obtain ⟨ad177, A177_0, c177_0, e177, hx177_0, hl177_0, hi177_0⟩ := at_L1 (Kd.V_reads' HO_0.out).2.2 x56_3 p177 q177
                    cases e177
                    obtain ⟨ce177, hce177, hMe177, hcc177⟩ := Kd.V_get HO_0.out [] x56_3 p177 (by first | exact q177 | exact of_decide_eq_true (by first | (with_reducible assumption) | assumption) | (have e_ := (Kd.V_reads' HO_0.out).1; omega)); obtain ⟨ua177_0, uc177_0, rfl, ul177_0, ge177_0⟩ := Kd.FK_slice_open hMe177; have hv177_0 := hcc177 0 _ rfl; rw [Nat.add_zero, show ((Kd.slice 5 (Kd.int .u8))).sz = 1 from rfl, Nat.mul_one] at hv177_0; replace hv177_0 := Option.some.inj (hv177_0.symm.trans hx177_0)
                    injection hv177_0 with hva_ hvn_ hvc_
                    rw [hva_] at ge177_0; rw [hvc_] at ul177_0; have HL177_0 := Aside0.mk (show Kd.V (Kd.int .u8) 5 _ w.heap.size _ _ (rd_L1 l0 x56_3) from Kd.V_mk ul177_0 ge177_0); clear hva_ hvn_ hvc_ ge177_0 ul177_0; clear hcc177 hce177; have HR177_0 := Aside0.mk hi177_0; have HC177_0 := Aside0.mk hl177_0; clear hi177_0 hl177_0; replace p177 := eq_true p177; replace q177 := eq_true q177
                    go_wp2_with (first | ((with_reducible refine gate_callee (f := 22) rfl ?_); refine gL_ (some 68) Tryd.func22 #[.slice A177_0 (rd_L1 l0 x56_3).length c177_0] ?_; (with_reducible refine (parity_long.calls _ _ (rd_L1 l0 x56_3) true _ ?side1 ?side2 A49.out).mono ?_); (case side1 => repeat (first | exact (by repeat (first | (with_reducible exact HR177_0.out) | (with_reducible refine Kd.C_alloc ?_ _) | (with_reducible refine Kd.C_drewN ?_ _) | (with_reducible refine Kd.C_drew ?_) | exact HR177_0.out)) | (with_reducible refine Kd.C_alloc ?_ _) | (with_reducible refine Kd.C_drewN ?_ _) | (with_reducible refine Kd.C_drew ?_))); (case side2 => exact HC177_0.out); rintro e w' ⟨rfl, ⟨nd, rfl⟩⟩; refine ⟨_, rfl, ?_⟩))
                    go_ret2
                    exact ⟨_, by first | rfl | (simp [errW_none, errW_some] <;> rfl) | (simp [*, errW_none, errW_some] <;> rfl), by first | exact Kd.S_nil _ _ _ _ _ | exact Kd.N_nil _ _ _ _ _ | exact Kd.V_nil _ _ _ _ _ | exact Kd.Q_nil _ _ _ _ _ | exact Kd.R_nil _ _ _ _ _, pH_ HB.out⟩
                   ·
                    replace c50 := Bool.eq_false_iff.mpr c50
                    subst c50
                    have H1 : ((slices_Clone_byte_byte.f (rd_L1 l0 x56_3)).bind fun t180 => (if x56_3 < (x14_3.length : Int) then (parity_Recover.l1 k3 l0 l1 a2 l3 t163 x11_3 x13_3 (x14_3.set (x56_3 : Int).toNat t180) (l0.length : Int) (wrap64 (x56_3 + 1))) else (none))) = some (r1, r2) := by rw [if_neg (show ¬ (false = true) by decide)] at H; exact H
                    clear H; have H := H1; clear H1; replace H := Option.bind_eq_some_iff.mp H; obtain ⟨t180, A510, H⟩ := H; replace H : (if x56_3 < (x14_3.length : Int) then (parity_Recover.l1 k3 l0 l1 a2 l3 t163 x11_3 x13_3 (x14_3.set (x56_3 : Int).toNat t180) (l0.length : Int) (wrap64 (x56_3 + 1))) else (none)) = some (r1, r2) := H; have A51 := Aside0.mk A510; clear A510
                    by_cases c52 : x56_3 < (x14_3.length : Int)
                    ·
                     rw [if_pos c52] at H; have c52b0 : decide (x56_3 < (x14_3.length : Int)) = true := decide_eq_true c52; (try simp only [hl11_2, hl11_3] at c52b0); clear c52; obtain ⟨y183, hy183⟩ : ∃ y_ : List (List Int), y_ = (x14_3.set (x56_3 : Int).toNat t180) := ⟨_, rfl⟩
                     replace H : (parity_Recover.l1 k3 l0 l1 a2 l3 t163 x11_3 x13_3 y183 (l0.length : Int) (wrap64 (x56_3 + 1))) = some (r1, r2) := by first | (rw [hy183]; with_reducible exact H) | (have H2_ := (Option.bind_some _ _).symm.trans H; rw [hy183]; with_reducible exact H2_) | (have H2_ := (Option.bind_some _ _).symm.trans H; with_reducible exact H2_) | with_reducible exact H | (rw [hy183]; exact H) | exact H
                     have Ny183 := Aside0.mk hy183; clear hy183; have H' := Aside0.mk H; clear H; have p173 : 0 ≤ (x56_3 : Int) := of_decide_eq_true (by first | (with_reducible assumption) | assumption); have q173 : x56_3 < (l1.length : Int) := of_decide_eq_true (by first | (with_reducible assumption) | assumption); obtain ⟨ad173, e173, hx173_0⟩ := Kd.at_bool HR1.out x56_3 p173 q173; (try rw [← Nbq31.out] at hx173_0)
                     cases e173
                     replace hx173_0 := (HB.out.cell (World.block_lt_of_cell? w _ hx173_0)).trans hx173_0; replace p173 := eq_true p173; replace q173 := eq_true q173; have p177 : 0 ≤ (x56_3 : Int) := of_decide_eq_true (by first | (with_reducible assumption) | assumption); have q177 : x56_3 < (l0.length : Int) := of_decide_eq_true (by first | (with_reducible assumption) | assumption); obtain ⟨ad177, A177_0, c177_0, e177, hx177_0, hl177_0, hi177_0⟩ := at_L1 (Kd.V_reads' HO_0.out).2.2 x56_3 p177 q177
                     cases e177
                     obtain ⟨ce177, hce177, hMe177, hcc177⟩ := Kd.V_get HO_0.out [] x56_3 p177 (by first | exact q177 | exact of_decide_eq_true (by first | (with_reducible assumption) | assumption) | (have e_ := (Kd.V_reads' HO_0.out).1; omega)); obtain ⟨ua177_0, uc177_0, rfl, ul177_0, ge177_0⟩ := Kd.FK_slice_open hMe177; have hv177_0 := hcc177 0 _ rfl; rw [Nat.add_zero, show ((Kd.slice 5 (Kd.int .u8))).sz = 1 from rfl, Nat.mul_one] at hv177_0; replace hv177_0 := Option.some.inj (hv177_0.symm.trans hx177_0)
                     injection hv177_0 with hva_ hvn_ hvc_
                     rw [hva_] at ge177_0; rw [hvc_] at ul177_0; have HL177_0 := Aside0.mk (show Kd.V (Kd.int .u8) 5 _ w.heap.size _ _ (rd_L1 l0 x56_3) from Kd.V_mk ul177_0 ge177_0); clear hva_ hvn_ hvc_ ge177_0 ul177_0; clear hcc177 hce177; have HR177_0 := Aside0.mk hi177_0; have HC177_0 := Aside0.mk hl177_0; clear hi177_0 hl177_0; replace p177 := eq_true p177; replace q177 := eq_true q177
                     go_wp2_with (first | ((with_reducible refine gate_callee (f := 22) rfl ?_); refine gL_ (some 68) Tryd.func22 #[.slice A177_0 (rd_L1 l0 x56_3).length c177_0] ?_; (with_reducible refine (parity_long.calls _ _ (rd_L1 l0 x56_3) false _ ?side1 ?side2 A49.out).mono ?_); (case side1 => repeat (first | exact (by repeat (first | (with_reducible exact HR177_0.out) | (with_reducible refine Kd.C_alloc ?_ _) | (with_reducible refine Kd.C_drewN ?_ _) | (with_reducible refine Kd.C_drew ?_) | exact HR177_0.out)) | (with_reducible refine Kd.C_alloc ?_ _) | (with_reducible refine Kd.C_drewN ?_ _) | (with_reducible refine Kd.C_drew ?_))); (case side2 => exact HC177_0.out); rintro e w' ⟨rfl, ⟨nd, rfl⟩⟩; refine ⟨_, rfl, ?_⟩; (try (rw [drewN_self wr]; generalize hq_ : World.drewN wr _ = wr; have n0_ : Aside0 (Kd.V (Kd.int .u8) 5 wr w.heap.size (fun k_ => (P0_ k_ ∨ w.heap.size ≤ k_) ∧ nO_ k_ (.slice Ao14 t163.length co14) ∧ nO_ k_ (.slice Ao17 x11_3.length co17) ∧ nO_ k_ v171) (.slice A177_0 (rd_L1 l0 x56_3).length c177_0) (rd_L1 l0 x56_3)) := ⟨by rw [← hq_]; exact (by (with_reducible repeat (first | apply Kd.V_alloc | apply Kd.V_drewN | apply Kd.V_drew)); exact HL177_0.out)⟩; have n1_ : Aside0 (Kd.V (Kd.slice 5 (Kd.int .u8)) 23 wr w.heap.size (fun k_ => (P0_ k_ ∨ w.heap.size ≤ k_) ∧ nO_ k_ (.slice Ao14 t163.length co14) ∧ nO_ k_ (.slice Ao17 x11_3.length co17) ∧ nO_ k_ v171) (.slice (some ad177) l0.length c0) l0) := ⟨by rw [← hq_]; exact (by (with_reducible repeat (first | apply Kd.V_alloc | apply Kd.V_drewN | apply Kd.V_drew)); exact HO_0.out)⟩; have n2_ : Aside0 (Kd.N (Kd.slice 23 (Kd.slice 5 (Kd.int .u8))) 22 wr w.heap.size (fun k_ => (P0_ k_ ∨ w.heap.size ≤ k_) ∧ nO_ k_ (.slice Ao17 x11_3.length co17) ∧ nO_ k_ v171) (.slice Ao14 t163.length co14) t163) := ⟨by rw [← hq_]; exact (by (with_reducible repeat (first | apply Kd.N_alloc | apply Kd.N_drewN | apply Kd.N_drew)); exact HO_10.out)⟩; have n3_ : Aside0 (Kd.R (Kd.int .i64) 3 wr w.heap.size (fun k_ => (w.heap.size ≤ k_)) (.slice Ao17 x11_3.length co17) x11_3) := ⟨by rw [← hq_]; exact (pL_ HO_11.out)⟩; have n4_ : Aside0 (Kd.N (Kd.slice 5 (Kd.int .u8)) 23 wr w.heap.size (fun k_ => (P0_ k_ ∨ w.heap.size ≤ k_) ∧ nO_ k_ (.slice Ao14 t163.length co14) ∧ nO_ k_ (.slice Ao17 x11_3.length co17)) v171 x14_3) := ⟨by rw [← hq_]; exact (by (with_reducible repeat (first | apply Kd.N_alloc | apply Kd.N_drewN | apply Kd.N_drew)); exact HO_14.out)⟩; have n5_ : Aside0 (Below w.heap.size w wr) := ⟨by rw [← hq_]; exact (pH_ HB.out)⟩; have n6_ : Aside0 (Kd.C (Kd.int .u8) wr A177_0 (rd_L1 l0 x56_3).length (rd_L1 l0 x56_3)) := ⟨by rw [← hq_]; exact (by repeat (first | (with_reducible exact HR177_0.out) | (with_reducible refine Kd.C_alloc ?_ _) | (with_reducible refine Kd.C_drewN ?_ _) | (with_reducible refine Kd.C_drew ?_) | exact HR177_0.out))⟩; (try (have nx_ := cell_at hq_ hx177_0; clear hx177_0; have hx177_0 := nx_; clear nx_)); clear HL177_0 HO_0 HO_10 HO_11 HO_14 HB HR177_0 hq_; have HL177_0 := n0_; have HO_0 := n1_; have HO_10 := n2_; have HO_11 := n3_; have HO_14 := n4_; have HB := n5_; have HR177_0 := n6_; clear n0_ n1_ n2_ n3_ n4_ n5_ n6_)); have p179 : 0 ≤ (x56_3 : Int) := of_decide_eq_true (by first | (with_reducible assumption) | assumption); have q179 : x56_3 < (l0.length : Int) := of_decide_eq_true (by first | (with_reducible assumption) | assumption); obtain ⟨ad179, A179_0, c179_0, e179, hx179_0, hl179_0, hi179_0⟩ := at_L1 (Kd.V_reads' HO_0.out).2.2 x56_3 p179 q179; obtain rfl : ad177 = ad179 := (by injection e179); obtain ⟨ce179, hce179, hMe179, hcc179⟩ := Kd.V_get HO_0.out [] x56_3 p179 (by first | exact q179 | exact of_decide_eq_true (by first | (with_reducible assumption) | assumption) | (have e_ := (Kd.V_reads' HO_0.out).1; omega)); obtain ⟨ua179_0, uc179_0, rfl, ul179_0, ge179_0⟩ := Kd.FK_slice_open hMe179; have hv179_0 := hcc179 0 _ rfl; rw [Nat.add_zero, show ((Kd.slice 5 (Kd.int .u8))).sz = 1 from rfl, Nat.mul_one] at hv179_0; replace hv179_0 := Option.some.inj (hv179_0.symm.trans hx179_0); injection hv179_0 with hva_ hvn_ hvc_; rw [hva_] at ge179_0; rw [hvc_] at ul179_0; have HL179_0 := Aside0.mk (show Kd.V (Kd.int .u8) 5 _ w.heap.size _ _ (rd_L1 l0 x56_3) from Kd.V_mk ul179_0 ge179_0); clear hva_ hvn_ hvc_ ge179_0 ul179_0; clear hcc179 hce179; have HR179_0 := Aside0.mk hi179_0; have HC179_0 := Aside0.mk hl179_0; clear hi179_0 hl179_0; replace p179 := eq_true p179; replace q179 := eq_true q179; have ea_ := Option.some.inj (hx177_0.symm.trans hx179_0); injection ea_ with ea_ en_ ec_; subst ea_; subst ec_; clear en_) | ((with_reducible refine gate_callee (f := 24) rfl ?_); refine gL_ (some 75) Tryd.func24 #[.slice A177_0 (rd_L1 l0 x56_3).length c177_0] ?_; (with_reducible refine (slices_Clone_byte_byte.calls _ _ (rd_L1 l0 x56_3) t180 _ ?side1 ?side2 A51.out).mono ?_); (case side1 => repeat (first | exact (by repeat (first | (with_reducible exact HR179_0.out) | (with_reducible refine Kd.C_alloc ?_ _) | (with_reducible refine Kd.C_drewN ?_ _) | (with_reducible refine Kd.C_drew ?_) | exact HR179_0.out)) | (with_reducible refine Kd.C_alloc ?_ _) | (with_reducible refine Kd.C_drewN ?_ _) | (with_reducible refine Kd.C_drew ?_))); (case side2 => exact HC179_0.out); rintro e w54 ⟨v181, rfl, ho0, hb⟩; refine ⟨_, rfl, ?_⟩; have n0_ := Aside0.mk (Kd.V_elder' (by (with_reducible repeat (first | apply Kd.V_alloc | apply Kd.V_drewN | apply Kd.V_drew)); exact HO_0.out) (Kd.R_base ho0) hb); have n1_ := Aside0.mk (Kd.N_elder' (by (with_reducible repeat (first | apply Kd.N_alloc | apply Kd.N_drewN | apply Kd.N_drew)); exact HO_10.out) (Kd.R_base ho0) hb); have n2_ := Aside0.mk (Kd.R_below (pL_ HO_11.out) hb); have n3_ := Aside0.mk (Kd.N_elder' (by (with_reducible repeat (first | apply Kd.N_alloc | apply Kd.N_drewN | apply Kd.N_drew)); exact HO_14.out) (Kd.R_base ho0) hb); have n4_ := Aside0.mk (Kd.V_elder' (by (with_reducible repeat (first | apply Kd.V_alloc | apply Kd.V_drewN | apply Kd.V_drew)); exact HL177_0.out) (Kd.R_base ho0) hb); have n5_ := Aside0.mk (Kd.V_elder' (by (with_reducible repeat (first | apply Kd.V_alloc | apply Kd.V_drewN | apply Kd.V_drew)); exact HL179_0.out) (Kd.R_base ho0) hb); have n6_ := Aside0.mk (Kd.R_lower (Kd.R_newM (M := fun k_ => (w.heap.size ≤ k_)) ho0 (below_size (pH_ HB.out)) (fun k_ h_ => h_)) (below_size (pH_ HB.out))); have n7_ := Aside0.mk (Kd.C_below (by repeat (first | (with_reducible exact HR177_0.out) | (with_reducible refine Kd.C_alloc ?_ _) | (with_reducible refine Kd.C_drewN ?_ _) | (with_reducible refine Kd.C_drew ?_) | exact HR177_0.out)) hb); have n8_ := Aside0.mk (Kd.C_below (by repeat (first | (with_reducible exact HR179_0.out) | (with_reducible refine Kd.C_alloc ?_ _) | (with_reducible refine Kd.C_drewN ?_ _) | (with_reducible refine Kd.C_drew ?_) | exact HR179_0.out)) hb); have n9_ := Aside0.mk (below_step (pH_ HB.out) hb); clear HO_0; clear HO_10; clear HO_11; clear HO_14; clear HL177_0; clear HL179_0; clear HR177_0; clear HR179_0; clear HB; have HO_0 := n0_; have HO_10 := n1_; have HO_11 := n2_; have HO_14 := n3_; have HL177_0 := n4_; have HL179_0 := n5_; have HO182 := n6_; have HR177_0 := n7_; have HR179_0 := n8_; have HB := n9_; clear n0_ n1_ n2_ n3_ n4_ n5_ n6_ n7_ n8_ n9_; (try clear hb); (try clear ho0); have p53 : 0 ≤ (x56_3 : Int) := of_decide_eq_true (by first | (with_reducible assumption) | assumption); have q53 : (x56_3 : Int) < ((x14_3.length : Int) : Int) := of_decide_eq_true (by first | (with_reducible assumption) | assumption); obtain ⟨go53, co53, eo53, gb53, gl53, cl53, HG53⟩ := Kd.N_form HO_14.out (by omega); (first | cases eo53 | (injection eo53 with ea_ en_ ec_; (first | subst ea_ | (injection ea_ with ea_; subst ea_)); subst ec_; clear en_)); have GB53 := Aside0.mk gb53; have GG53 := Aside0.mk HG53; clear gb53 gl53 HG53; obtain ⟨ce53, hcl53, hM53, hcc53, hfr53⟩ := Kd.N_elem HO_14.out [] (x56_3 : Int) p53 q53; obtain ⟨ua53_0, uc53_0, rfl, ul53_0, ge53_0⟩ := Kd.FK_slice_open hM53; have hx53_0 := hcc53 0 _ rfl; have hf53_0 := hfr53 0; (try simp only [show ((Kd.slice 5 (Kd.int .u8))).sz = 1 from rfl, Nat.mul_one, Nat.add_zero] at hx53_0); (try simp only [show ((Kd.slice 5 (Kd.int .u8))).sz = 1 from rfl, Nat.mul_one, Nat.add_zero] at hf53_0); clear hcl53 hcc53 hfr53 hM53; replace p53 := eq_true p53; replace q53 := eq_true q53; obtain ⟨Ao57, co57, eo57⟩ := Kd.R_slice HO182.out; subst eo57; have n_ := Aside0.mk (Kd.N_mono (ok' := (fun k_ => (P0_ k_ ∨ w.heap.size ≤ k_) ∧ nO_ k_ (.slice Ao14 t163.length co14) ∧ nO_ k_ (.slice Ao17 x11_3.length co17) ∧ nO_ k_ (.slice Ao57 t180.length co57))) HO_14.out (fun k_ hk => ⟨hk.1.1, ⟨hk.1.2.1, ⟨hk.1.2.2, hk.2⟩⟩⟩)); clear HO_14; have HO_14 := n_; clear n_; have HX55 := Aside0.mk (show Kd.N (Kd.slice 5 (Kd.int .u8)) 23 w54 w.heap.size (fun k_ => (P0_ k_ ∨ w.heap.size ≤ k_) ∧ nO_ k_ (.slice Ao14 t163.length co14) ∧ nO_ k_ (.slice Ao17 x11_3.length co17)) (.slice (some ⟨go53, 0, none⟩) x14_3.length co53) x14_3 from (by (with_reducible repeat (first | apply Kd.N_alloc | apply Kd.N_drewN | apply Kd.N_drew)); exact Kd.N_mono HO_14.out (fun _ hk => ⟨hk.1, ⟨hk.2.1, hk.2.2.1⟩⟩))); obtain ⟨ce55, hcl55, hM55, hcc55, hfr55⟩ := Kd.N_elem HX55.out [] (x56_3 : Int) (of_decide_eq_true (by first | (with_reducible assumption) | assumption)) (by have h_ : (x56_3 : Int) < ((x14_3.length : Int) : Int) := of_decide_eq_true (by first | (with_reducible assumption) | assumption); first | exact h_ | (have e_ := (Kd.N_reads' HO_14.out).1; omega) | simpa using h_); obtain ⟨ua55_0, uc55_0, rfl, ul55_0, ge55_0⟩ := Kd.FK_slice_open hM55; have HP55 := Kd.N_seg HX55.out (x56_3 : Int) (of_decide_eq_true (by first | (with_reducible assumption) | assumption)) (by have h_ : (x56_3 : Int) < ((x14_3.length : Int) : Int) := of_decide_eq_true (by first | (with_reducible assumption) | assumption); first | exact h_ | (have e_ := (Kd.N_reads' HO_14.out).1; omega) | simpa using h_) (seg := [.slice Ao57 t180.length co57]) (j := 0) hcl55 hcc55 (show 1 ≤ 1 from by decide) (x' := t180) (by have zf0_ := (Kd.R_mono (ok' := (fun k_ => ((fun k_ => (P0_ k_ ∨ w.heap.size ≤ k_) ∧ nO_ k_ (.slice Ao14 t163.length co14) ∧ nO_ k_ (.slice Ao17 x11_3.length co17))) k_ ∧ k_ ≠ go53)) (Kd.R_apart' (Kd.R_apart' (Kd.R_apart' (HO182.out) (Kd.N_typed HO_10.out) (by decide)) (Kd.R_typed HO_11.out) (by decide)) (Kd.N_typed HO_14.out) (by decide)) (fun k_ hk => ⟨⟨(.inr (hk.1.1.1.1)), ⟨hk.1.1.2, hk.1.2⟩⟩, fun e_ => (hk.2) (by rw [e_]; rfl)⟩)); first | exact Kd.FK_slice_mk (Kd.R_reads' zf0_).2.1 (Kd.R_F zf0_) | (obtain ⟨Az_, cz_, ez_⟩ := Kd.R_slice zf0_; have zg_ := zf0_; rw [ez_] at zg_ ⊢; exact Kd.FK_slice_mk (Kd.R_reads' zg_).2.1 (Kd.R_F zg_))) (fun _ hk => hk); have hx55_0 := hcc55 0 _ rfl; (try simp only [show ((Kd.slice 5 (Kd.int .u8))).sz = 1 from rfl, Nat.mul_one, Nat.add_zero] at hx55_0); have hf55_0 := hfr55 0; (try simp only [show ((Kd.slice 5 (Kd.int .u8))).sz = 1 from rfl, Nat.mul_one, Nat.add_zero] at hf55_0); clear hcl55 hcc55 hfr55 hM55; (try simp only [show ((Kd.slice 5 (Kd.int .u8))).sz = 1 from rfl, Nat.mul_one, Nat.add_zero] at HP55); (try simp only [show ((Kd.slice 5 (Kd.int .u8))).sz = 1 from rfl, Nat.mul_one, Nat.add_zero] at HP55)) | ((with_reducible refine gate_store (t := 23) (p := 76) rfl ?_); refine store_event (t := 23) (p := 76) (v := ?vo_w56) (w1 := (w54.setCell ⟨go53, (x56_3 : Int).toNat, none⟩ (.slice Ao57 t180.length co57))) ?hg ?ho ?hn ?hr ?_; (case ho => rfl); (case hg => rfl); (case hn => rfl); (case hr => first | (go_simp; done) | (go_simp; rfl)); intro w56 hw; have hg : w54.grownBy w56 (some go53) := (by rw [hw]; exact HP55.2); have hp_ : Kd.N (Kd.slice 5 (Kd.int .u8)) 23 w56 w.heap.size (fun k_ => (P0_ k_ ∨ w.heap.size ≤ k_) ∧ nO_ k_ (.slice Ao14 t163.length co14) ∧ nO_ k_ (.slice Ao17 x11_3.length co17)) (.slice (some ⟨go53, 0, none⟩) x14_3.length co53) y183 := (by rw [hw, Ny183.out]; exact HP55.1); clear HP55; have n0_ := Aside0.mk (Kd.V_afterv (v := (.slice (some ⟨go53, 0, none⟩) x14_3.length co53)) (v1 := (.slice (some ⟨go53, 0, none⟩) x14_3.length co53)) (ok := (fun k_ => (P0_ k_ ∨ w.heap.size ≤ k_) ∧ nO_ k_ (.slice Ao14 t163.length co14) ∧ nO_ k_ (.slice Ao17 x11_3.length co17) ∧ nO_ k_ (.slice Ao57 t180.length co57))) (by (with_reducible repeat (first | apply Kd.V_alloc | apply Kd.V_drewN | apply Kd.V_drew)); exact Kd.V_mono HO_0.out (fun _ hk => ⟨⟨hk.1.1, ⟨hk.1.2.1, ⟨hk.1.2.2.1, hk.2⟩⟩⟩, hk.1.2.2.2⟩)) hg (.inl rfl)); have n1_ := Aside0.mk (Kd.N_afterv (v := (.slice (some ⟨go53, 0, none⟩) x14_3.length co53)) (v1 := (.slice (some ⟨go53, 0, none⟩) x14_3.length co53)) (ok := (fun k_ => (P0_ k_ ∨ w.heap.size ≤ k_) ∧ nO_ k_ (.slice Ao17 x11_3.length co17) ∧ nO_ k_ (.slice Ao57 t180.length co57))) (by (with_reducible repeat (first | apply Kd.N_alloc | apply Kd.N_drewN | apply Kd.N_drew)); exact Kd.N_mono HO_10.out (fun _ hk => ⟨⟨hk.1.1, ⟨hk.1.2.1, hk.2⟩⟩, hk.1.2.2⟩)) hg (.inl rfl)); have n2_ := Aside0.mk (Kd.R_over' (v := (.slice (some ⟨go53, 0, none⟩) x14_3.length co53)) (pL_ HO_11.out) (Kd.N_typed HO_14.out) (by decide) hg); have n3_ := Aside0.mk (hp_); have n4_ := Aside0.mk (Kd.V_afterv (v := (.slice (some ⟨go53, 0, none⟩) x14_3.length co53)) (v1 := (.slice (some ⟨go53, 0, none⟩) x14_3.length co53)) (ok := (fun k_ => (P0_ k_ ∨ w.heap.size ≤ k_) ∧ nO_ k_ (.slice Ao14 t163.length co14) ∧ nO_ k_ (.slice Ao17 x11_3.length co17) ∧ nO_ k_ (.slice Ao57 t180.length co57))) (by (with_reducible repeat (first | apply Kd.V_alloc | apply Kd.V_drewN | apply Kd.V_drew)); exact Kd.V_mono HL177_0.out (fun _ hk => ⟨⟨hk.1.1, ⟨hk.1.2.1, ⟨hk.1.2.2.1, hk.2⟩⟩⟩, hk.1.2.2.2⟩)) hg (.inl rfl)); have n5_ := Aside0.mk (Kd.V_afterv (v := (.slice (some ⟨go53, 0, none⟩) x14_3.length co53)) (v1 := (.slice (some ⟨go53, 0, none⟩) x14_3.length co53)) (ok := (fun k_ => (P0_ k_ ∨ w.heap.size ≤ k_) ∧ nO_ k_ (.slice Ao14 t163.length co14) ∧ nO_ k_ (.slice Ao17 x11_3.length co17) ∧ nO_ k_ (.slice Ao57 t180.length co57))) (by (with_reducible repeat (first | apply Kd.V_alloc | apply Kd.V_drewN | apply Kd.V_drew)); exact Kd.V_mono HL179_0.out (fun _ hk => ⟨⟨hk.1.1, ⟨hk.1.2.1, ⟨hk.1.2.2.1, hk.2⟩⟩⟩, hk.1.2.2.2⟩)) hg (.inl rfl)); have n6_ := Aside0.mk ((by rw [hw]; exact below_set (HB.out) GB53.out : Below w.heap.size w w56)); clear HO_0; clear HO_10; clear HO_11; clear HO_14; clear HL177_0; clear HL179_0; clear HB; clear HO182; have HO_0 := n0_; have HO_10 := n1_; have HO_11 := n2_; have HO_14 := n3_; have HL177_0 := n4_; have HL179_0 := n5_; have HB := n6_; clear n0_ n1_ n2_ n3_ n4_ n5_ n6_; clear hg hw hp_))
                     (try simp only [← hl11_3])
                     go_roundg k3
                     case measure => have := HJ4.out; have := HK2.out; have := HK3.out; omega
                     case rel => exact ⟨(x11_3), (x13_3), (y183), (wrap64 (x56_3 + 1)), (by first | rfl | (simp; done) | (simp [*]; done)), (by first | rfl | (simp; done) | (simp [*]; done)), H', ⟨by have := HJ4.out; have := HK2.out; have := HK3.out; omega⟩, ⟨by (try simp only [hl11_2]); (try simp only [hl11_3]); (with_reducible repeat (first | apply Kd.V_alloc | apply Kd.V_drewN | apply Kd.V_drew)); exact Kd.V_mono HO_0.out (fun _ hk => ⟨hk.1.1, ⟨hk.1.2.1, ⟨hk.1.2.2.1, hk.2⟩⟩⟩)⟩, ⟨by (try simp only [hl11_2]); (try simp only [hl11_3]); (with_reducible repeat (first | apply Kd.N_alloc | apply Kd.N_drewN | apply Kd.N_drew)); exact Kd.N_mono HO_10.out (fun _ hk => ⟨hk.1.1, ⟨hk.1.2.1, hk.2⟩⟩)⟩, ⟨by (try simp only [hl11_2]); (try simp only [hl11_3]); (with_reducible repeat (first | apply rA_ | apply rN_ | apply rD_)); exact HO_11.out⟩, ⟨by (try simp only [hl11_2]); (try simp only [hl11_3]); (with_reducible repeat (first | apply Kd.N_alloc | apply Kd.N_drewN | apply Kd.N_drew)); exact HO_14.out⟩, ⟨pH_ HB.out⟩⟩
                    ·
                     rw [if_neg c52] at H; exact absurd H (by simp)
                  ·
                   rw [if_neg c48] at H; exact absurd H (by simp)
                ·
                 rw [if_neg c30] at H; exact absurd H (by simp)
               ·
                rw [if_neg c29] at H; exact absurd H (by simp)
              ·
               rw [if_neg c28] at H; have c28b0 : decide (x56_3 < (l0.length : Int)) = false := decide_eq_false c28; (try simp only [hl11_2, hl11_3] at c28b0); clear c28; have HC58 := Aside0.mk H; clear H
               go_upto_region 24 with (fail)
               (with_reducible first | refine then_id_ ?_ | (refine wp_tail_ ?_; intro Kt_ hKt_))
               go_cut [103] (fun v103 wc => ∃ (kq : Nat) (x103_57 : Bool), v103 = .bool x103_57 ∧ Aside0 (parity_Recover.j3 kq a2 l3 t163 x11_3 x14_3 x103_57 = some (r1, r2)) ∧ Aside0 (kq ≤ k3) ∧ Aside0 (Kd.N (Kd.slice 23 (Kd.slice 5 (Kd.int .u8))) 22 wc w.heap.size (fun k_ => (P0_ k_ ∨ w.heap.size ≤ k_) ∧ some k_ ≠ ((.slice Ao17 x11_3.length co17) : Value).ownBlock ∧ nO_ k_ v171) (.slice Ao14 t163.length co14) t163) ∧ Aside0 (Kd.R (Kd.int .i64) 3 wc w.heap.size (fun k_ => (w.heap.size ≤ k_)) (.slice Ao17 x11_3.length co17) x11_3) ∧ Aside0 (Kd.N (Kd.slice 5 (Kd.int .u8)) 23 wc w.heap.size (fun k_ => (P0_ k_ ∨ w.heap.size ≤ k_) ∧ some k_ ≠ ((.slice Ao14 t163.length co14) : Value).ownBlock ∧ some k_ ≠ ((.slice Ao17 x11_3.length co17) : Value).ownBlock) v171 x14_3) ∧ Aside0 (Below w.heap.size w wc))
               case first =>
                have H := HC58.out; clear HC58
                by_cases c59 : x13_3 = true
                ·
                 subst c59
                 have H1 : (parity_Recover.j3 k3 a2 l3 t163 x11_3 x14_3 true) = some (r1, r2) := by rw [if_pos rfl] at H; exact H
                 clear H; have H := H1; clear H1; have H' := Aside0.mk H; clear H
                 go_wp2
                 (first | go_meet | (refine Met.intro ?_; go_step; (repeat apply Exists.intro); refine ⟨?rel, ?eqf_⟩; case eqf_ => ((simp only [c28b0]) <;> rfl)))
                 case rel => exact ⟨_, (true), (by first | rfl | (simp; done) | (simp [*]; done)), H', ⟨by have := HJ4.out; have := HK2.out; have := HK3.out; first | omega | exact Nat.le_refl _⟩, ⟨by (try simp only [hl11_2]); (try simp only [hl11_3]); (with_reducible repeat (first | apply Kd.N_alloc | apply Kd.N_drewN | apply Kd.N_drew)); exact HO_10.out⟩, ⟨by (try simp only [hl11_2]); (try simp only [hl11_3]); (with_reducible repeat (first | apply rA_ | apply rN_ | apply rD_)); exact HO_11.out⟩, ⟨by (try simp only [hl11_2]); (try simp only [hl11_3]); (with_reducible repeat (first | apply Kd.N_alloc | apply Kd.N_drewN | apply Kd.N_drew)); exact HO_14.out⟩, ⟨pH_ HB.out⟩⟩
                ·
                 replace c59 := Bool.eq_false_iff.mpr c59
                 subst c59
                 have H1 : (parity_Recover.j3 k3 a2 l3 t163 x11_3 x14_3 ((l3.length : Int) != (t163.length : Int))) = some (r1, r2) := by rw [if_neg (show ¬ (false = true) by decide)] at H; exact H
                 clear H; have H := H1; clear H1; have H' := Aside0.mk H; clear H
                 go_wp2
                 (first | go_meet | (refine Met.intro ?_; go_step; (repeat apply Exists.intro); refine ⟨?rel, ?eqf_⟩; case eqf_ => ((simp only [c28b0]) <;> rfl)))
                 case rel => exact ⟨_, (((l3.length : Int) != (t163.length : Int))), (by first | rfl | (simp; done) | (simp [*]; done)), H', ⟨by have := HJ4.out; have := HK2.out; have := HK3.out; first | omega | exact Nat.le_refl _⟩, ⟨by (try simp only [hl11_2]); (try simp only [hl11_3]); (with_reducible repeat (first | apply Kd.N_alloc | apply Kd.N_drewN | apply Kd.N_drew)); exact HO_10.out⟩, ⟨by (try simp only [hl11_2]); (try simp only [hl11_3]); (with_reducible repeat (first | apply rA_ | apply rN_ | apply rD_)); exact HO_11.out⟩, ⟨by (try simp only [hl11_2]); (try simp only [hl11_3]); (with_reducible repeat (first | apply Kd.N_alloc | apply Kd.N_drewN | apply Kd.N_drew)); exact HO_14.out⟩, ⟨pH_ HB.out⟩⟩
               case rest =>
                (try (refine hKt_ _ _ ?_; clear hKt_; clear Kt_)); clear HC58
                try clear c1
                try clear p1
                try clear q1
                try clear hx1
                try clear c2
                try clear p2
                try clear q2
                try clear hx2
                try clear c3
                try clear p3
                try clear q3
                try clear hx3
                try clear c4
                try clear p4
                try clear q4
                try clear hx4
                try clear hf4
                try clear c5
                try clear p5
                try clear q5
                try clear hx5
                try clear hf5
                try clear c6
                try clear c6b0
                try clear p6
                try clear c7
                try clear c7b0
                try clear c8
                try clear c9
                try clear c9b0
                try clear c9b1
                try clear c11
                try clear c11b0
                try clear c11b1
                try clear c12
                try clear c12b0
                try clear c12b1
                try clear c15
                try clear c17
                try clear p17
                try clear q17
                try clear hx17
                try clear c18
                try clear c18b0
                try clear c19
                try clear c19b0
                try clear c20
                try clear c20b0
                try clear p21
                try clear q21
                try clear hx21
                try clear hf21
                try clear c22
                try clear c24
                try clear c24b0
                try clear c24b1
                try clear c25
                try clear c25b0
                try clear c25b1
                try clear c28
                try clear c28b0
                try clear c29
                try clear c29b0
                try clear c30
                try clear c30b0
                try clear q31
                try clear c32
                try clear c33
                try clear c34
                try clear c34b0
                try clear c34b1
                try clear c36
                try clear c36b0
                try clear c37
                try clear c37b0
                try clear p38
                try clear q38
                try clear hx38
                try clear hf38
                try clear c41
                try clear c41b0
                try clear c41b1
                try clear c43
                try clear c43b0
                try clear c44
                try clear c44b0
                try clear p45
                try clear q45
                try clear hx45
                try clear hf45
                try clear c48
                try clear c48b0
                try clear c50
                try clear c52
                try clear c52b0
                try clear c53
                try clear p53
                try clear q53
                try clear hx53
                try clear hf53
                try clear c55
                try clear hx55
                try clear hf55
                try clear c59
                try clear hx173_0
                try clear hx175_0
                try clear hx177_0
                try clear hx179_0
                try clear hx21_0
                try clear hx38_0
                try clear hx45_0
                try clear hx53_0
                try clear hx55_0
                try clear p173
                try clear p175
                try clear p177
                try clear p179
                try clear p2
                try clear p21
                try clear p38
                try clear p45
                try clear p53
                try clear p6
                try clear q173
                try clear q175
                try clear q177
                try clear q179
                try clear q2
                try clear q21
                try clear q38
                try clear q45
                try clear q53
                obtain ⟨kq, x103_57, rfl, HA, HJ57, HO_10, HO_11, HO_14, HB⟩ := hcut
                cases kq with
                | zero => exact absurd HA.out (by simp [parity_Recover.j3])
                | succ kj57 =>
                 have H := HA.out; clear HA; simp only [parity_Recover.j3] at H
                 by_cases c60 : x103_57 = true
                 ·
                  subst c60
                  have H1 : (some (([] : List (List Int)), 40)) = some (r1, r2) := by rw [if_pos rfl] at H; exact H
                  clear H; have H := H1; clear H1; simp only [Option.some.injEq, Prod.mk.injEq] at H; obtain ⟨rfl, rfl⟩ := H
                  go_wp2
                  go_ret2
                  exact ⟨_, by first | rfl | (simp [errW_none, errW_some] <;> rfl) | (simp [*, errW_none, errW_some] <;> rfl), by first | exact Kd.S_nil _ _ _ _ _ | exact Kd.N_nil _ _ _ _ _ | exact Kd.V_nil _ _ _ _ _ | exact Kd.Q_nil _ _ _ _ _ | exact Kd.R_nil _ _ _ _ _, pH_ HB.out⟩
                 ·
                  replace c60 := Bool.eq_false_iff.mpr c60
                  subst c60
                  have H1 : (parity_Recover.l2 kj57 a2 l3 t163 x14_3 x11_3 (x11_3.length : Int) 0) = some (r1, r2) := by rw [if_neg (show ¬ (false = true) by decide)] at H; exact H
                  clear H; have H := H1; clear H1; have H' := Aside0.mk H; clear H
                  go_wp2
                  go_loopg [106] kj57 (fun kq v106 w' => ∃ (x14_5 : List (List Int)) (x106_5 : Int), v106 = .int .i64 x106_5 ∧ Aside0 (parity_Recover.l2 kq a2 l3 t163 x14_5 x11_3 (x11_3.length : Int) x106_5 = some (r1, r2)) ∧ Aside0 (kq ≤ kj57) ∧ Aside0 (Kd.N (Kd.slice 23 (Kd.slice 5 (Kd.int .u8))) 22 w' w.heap.size (fun k_ => (P0_ k_ ∨ w.heap.size ≤ k_) ∧ nO_ k_ v171 ∧ some k_ ≠ ((.slice Ao17 x11_3.length co17) : Value).ownBlock) (.slice Ao14 t163.length co14) t163) ∧ Aside0 (Kd.N (Kd.slice 5 (Kd.int .u8)) 23 w' w.heap.size (fun k_ => (P0_ k_ ∨ w.heap.size ≤ k_) ∧ some k_ ≠ ((.slice Ao14 t163.length co14) : Value).ownBlock ∧ some k_ ≠ ((.slice Ao17 x11_3.length co17) : Value).ownBlock) v171 x14_5) ∧ Aside0 (Kd.R (Kd.int .i64) 3 w' w.heap.size (fun k_ => (w.heap.size ≤ k_)) (.slice Ao17 x11_3.length co17) x11_3) ∧ Aside0 (Below w.heap.size w w'))
                  case atStart => exact ⟨(x14_3), (0), (by first | rfl | (simp; done) | (simp [*]; done)), H', ⟨Nat.le_refl _⟩, ⟨by (try simp only [hl11_2]); (try simp only [hl11_3]); (with_reducible repeat (first | apply Kd.N_alloc | apply Kd.N_drewN | apply Kd.N_drew)); exact Kd.N_mono HO_10.out (fun _ hk => ⟨hk.1, ⟨hk.2.2, hk.2.1⟩⟩)⟩, ⟨by (try simp only [hl11_2]); (try simp only [hl11_3]); (with_reducible repeat (first | apply Kd.N_alloc | apply Kd.N_drewN | apply Kd.N_drew)); exact HO_14.out⟩, ⟨by (try simp only [hl11_2]); (try simp only [hl11_3]); (with_reducible repeat (first | apply rA_ | apply rN_ | apply rD_)); exact HO_11.out⟩, ⟨pH_ HB.out⟩⟩
                  case round =>
                   clear H'
                   try clear c1
                   try clear p1
                   try clear q1
                   try clear hx1
                   try clear c2
                   try clear p2
                   try clear q2
                   try clear hx2
                   try clear c3
                   try clear p3
                   try clear q3
                   try clear hx3
                   try clear c4
                   try clear p4
                   try clear q4
                   try clear hx4
                   try clear hf4
                   try clear c5
                   try clear p5
                   try clear q5
                   try clear hx5
                   try clear hf5
                   try clear c6
                   try clear c6b0
                   try clear p6
                   try clear c7
                   try clear c7b0
                   try clear c8
                   try clear c9
                   try clear c9b0
                   try clear c9b1
                   try clear c11
                   try clear c11b0
                   try clear c11b1
                   try clear c12
                   try clear c12b0
                   try clear c12b1
                   try clear c15
                   try clear c17
                   try clear p17
                   try clear q17
                   try clear hx17
                   try clear c18
                   try clear c18b0
                   try clear c19
                   try clear c19b0
                   try clear c20
                   try clear c20b0
                   try clear p21
                   try clear q21
                   try clear hx21
                   try clear hf21
                   try clear c22
                   try clear c24
                   try clear c24b0
                   try clear c24b1
                   try clear c25
                   try clear c25b0
                   try clear c25b1
                   try clear c28
                   try clear c28b0
                   try clear c29
                   try clear c29b0
                   try clear c30
                   try clear c30b0
                   try clear q31
                   try clear c32
                   try clear c33
                   try clear c34
                   try clear c34b0
                   try clear c34b1
                   try clear c36
                   try clear c36b0
                   try clear c37
                   try clear c37b0
                   try clear p38
                   try clear q38
                   try clear hx38
                   try clear hf38
                   try clear c41
                   try clear c41b0
                   try clear c41b1
                   try clear c43
                   try clear c43b0
                   try clear c44
                   try clear c44b0
                   try clear p45
                   try clear q45
                   try clear hx45
                   try clear hf45
                   try clear c48
                   try clear c48b0
                   try clear c50
                   try clear c52
                   try clear c52b0
                   try clear c53
                   try clear p53
                   try clear q53
                   try clear hx53
                   try clear hf53
                   try clear c55
                   try clear hx55
                   try clear hf55
                   try clear c59
                   try clear c60
                   try clear hx173_0
                   try clear hx175_0
                   try clear hx177_0
                   try clear hx179_0
                   try clear hx21_0
                   try clear hx38_0
                   try clear hx45_0
                   try clear hx53_0
                   try clear hx55_0
                   try clear p1
                   try clear p17
                   try clear p173
                   try clear p175
                   try clear p177
                   try clear p179
                   try clear p2
                   try clear p21
                   try clear p3
                   try clear p38
                   try clear p4
                   try clear p45
                   try clear p5
                   try clear p53
                   try clear p6
                   try clear q1
                   try clear q17
                   try clear q173
                   try clear q175
                   try clear q177
                   try clear q179
                   try clear q2
                   try clear q21
                   try clear q3
                   try clear q31
                   try clear q38
                   try clear q4
                   try clear q45
                   try clear q5
                   try clear q53
                   obtain ⟨x14_5, x106_5, rfl, HA, HK5, HO_10, HO_14, HO_104, HB⟩ := hrel
                   cases gk with
                   | zero => exact absurd HA.out (by simp [parity_Recover.l2])
                   | succ k5 =>
                    have H := HA.out; clear HA; simp only [parity_Recover.l2] at H
                    by_cases c61 : x106_5 < (x11_3.length : Int)
                    ·
                     rw [if_pos c61] at H; have c61b0 : decide (x106_5 < (x11_3.length : Int)) = true := decide_eq_true c61; (try simp only [hl11_2, hl11_3] at c61b0); clear c61
                     by_cases c62 : 0 ≤ x106_5
                     ·
                      rw [if_pos c62] at H; have c62b0 : decide (0 ≤ x106_5) = true := decide_eq_true c62; (try simp only [hl11_2, hl11_3] at c62b0); clear c62
                      by_cases c63 : x106_5 < (x11_3.length : Int)
                      ·
                       rw [if_pos c63] at H; have c63b0 : decide (x106_5 < (x11_3.length : Int)) = true := decide_eq_true c63; (try simp only [hl11_2, hl11_3] at c63b0); clear c63
                       by_cases c64 : (rd x11_3 x106_5) < 0
                       ·
                        rw [if_pos c64] at H; have c64b0 : decide ((rd x11_3 x106_5) < 0) = true := decide_eq_true c64; (try simp only [hl11_2, hl11_3] at c64b0); clear c64; have H' := Aside0.mk H; clear H; have p184 : 0 ≤ (x106_5 : Int) := of_decide_eq_true (by first | (with_reducible assumption) | assumption); have q184 : x106_5 < (x11_3.length : Int) := of_decide_eq_true (by first | (with_reducible assumption) | assumption); obtain ⟨ad184, e184, hx184_0⟩ := Kd.at_int (Kd.R_reads' HO_104.out).2.2 x106_5 p184 q184
                        cases e184
                        replace p184 := eq_true p184; replace q184 := eq_true q184
                        go_wp2
                        go_roundg k5
                        case measure => have := HJ4.out; have := HK2.out; have := HK3.out; have := HJ57.out; have := HK5.out; omega
                        case rel => exact ⟨(x14_5), (wrap64 (x106_5 + 1)), (by first | rfl | (simp; done) | (simp [*]; done)), H', ⟨by have := HJ4.out; have := HK2.out; have := HK3.out; have := HJ57.out; have := HK5.out; omega⟩, ⟨by (try simp only [hl11_2]); (try simp only [hl11_3]); (with_reducible repeat (first | apply Kd.N_alloc | apply Kd.N_drewN | apply Kd.N_drew)); exact HO_10.out⟩, ⟨by (try simp only [hl11_2]); (try simp only [hl11_3]); (with_reducible repeat (first | apply Kd.N_alloc | apply Kd.N_drewN | apply Kd.N_drew)); exact HO_14.out⟩, ⟨by (try simp only [hl11_2]); (try simp only [hl11_3]); (with_reducible repeat (first | apply rA_ | apply rN_ | apply rD_)); exact HO_104.out⟩, ⟨pH_ HB.out⟩⟩
                       ·
                        rw [if_neg c64] at H; have c64b0 : decide ((rd x11_3 x106_5) < 0) = false := decide_eq_false c64; (try simp only [hl11_2, hl11_3] at c64b0); clear c64
                        by_cases c65 : x106_5 < (t163.length : Int)
                        ·
                         rw [if_pos c65] at H; have c65b0 : decide (x106_5 < (t163.length : Int)) = true := decide_eq_true c65; (try simp only [hl11_2, hl11_3] at c65b0); clear c65
                         by_cases c66 : x106_5 < (l3.length : Int)
                         ·
                          rw [if_pos c66] at H; have c66b0 : decide (x106_5 < (l3.length : Int)) = true := decide_eq_true c66; (try simp only [hl11_2, hl11_3] at c66b0); clear c66; replace H := Option.bind_eq_some_iff.mp H; obtain ⟨⟨t187, t188⟩, A670, H⟩ := H; replace H : (if t188 = 0 then (if 0 ≤ (wrap64 ((wrap64 (x106_5 * a2)) + (rd x11_3 x106_5))) then (if (wrap64 ((wrap64 (x106_5 * a2)) + (rd x11_3 x106_5))) < (x14_5.length : Int) then (parity_Recover.l2 k5 a2 l3 t163 (x14_5.set ((wrap64 ((wrap64 (x106_5 * a2)) + (rd x11_3 x106_5))) : Int).toNat t187) x11_3 (x11_3.length : Int) (wrap64 (x106_5 + 1))) else (none)) else (none)) else (some (([] : List (List Int)), t188))) = some (r1, r2) := H; have A67 := Aside0.mk A670; clear A670
                          by_cases c68 : t188 = 0
                          ·
                           rw [if_pos c68] at H; have c68b0 : (t188 == 0) = true := beq_iff_eq.mpr c68; (try simp only [hl11_2, hl11_3] at c68b0); have c68b1 : (t188 != 0) = false := bne_eq_false_iff_eq.mpr c68; (try simp only [hl11_2, hl11_3] at c68b1); clear c68; obtain ⟨ji69, hji69⟩ : ∃ j_ : Int, (wrap64 ((wrap64 (x106_5 * a2)) + (rd x11_3 x106_5))) = j_ := ⟨_, rfl⟩
                           replace H : (if 0 ≤ (ji69) then (if (ji69) < (x14_5.length : Int) then (parity_Recover.l2 k5 a2 l3 t163 (x14_5.set ((ji69) : Int).toNat t187) x11_3 (x11_3.length : Int) (wrap64 (x106_5 + 1))) else (none)) else (none)) = some (r1, r2) := by first | (rw [hji69] at H; exact H) | (simp only [hji69] at H ⊢; exact H)
                           (try rw [hji69] at A67); have hji69w : (IntKind.i64.wrap ((wrap64 (x106_5 * a2)) + (rd x11_3 x106_5))) = ji69 := (i64_w _).trans hji69
                           by_cases c70 : 0 ≤ (ji69)
                           ·
                            rw [if_pos c70] at H; have c70b0 : decide (0 ≤ (ji69)) = true := decide_eq_true c70; (try simp only [hl11_2, hl11_3] at c70b0); clear c70
                            by_cases c71 : (ji69) < (x14_5.length : Int)
                            ·
                             rw [if_pos c71] at H; have c71b0 : decide ((ji69) < (x14_5.length : Int)) = true := decide_eq_true c71; (try simp only [hl11_2, hl11_3] at c71b0); clear c71; obtain ⟨y191, hy191⟩ : ∃ y_ : List (List Int), y_ = (x14_5.set ((ji69) : Int).toNat t187) := ⟨_, rfl⟩
                             replace H : (parity_Recover.l2 k5 a2 l3 t163 y191 x11_3 (x11_3.length : Int) (wrap64 (x106_5 + 1))) = some (r1, r2) := by first | (rw [hy191]; with_reducible exact H) | (have H2_ := (Option.bind_some _ _).symm.trans H; rw [hy191]; with_reducible exact H2_) | (have H2_ := (Option.bind_some _ _).symm.trans H; with_reducible exact H2_) | with_reducible exact H | (rw [hy191]; exact H) | exact H
                             have Ny191 := Aside0.mk hy191; clear hy191; have H' := Aside0.mk H; clear H; have p184 : 0 ≤ (x106_5 : Int) := of_decide_eq_true (by first | (with_reducible assumption) | assumption); have q184 : x106_5 < (x11_3.length : Int) := of_decide_eq_true (by first | (with_reducible assumption) | assumption); obtain ⟨ad184, e184, hx184_0⟩ := Kd.at_int (Kd.R_reads' HO_104.out).2.2 x106_5 p184 q184
                             cases e184
                             replace p184 := eq_true p184; replace q184 := eq_true q184
                             try go_wp2
                             have n0_ := Aside0.mk (Kd.N_drew HO_10.out); have n1_ := Aside0.mk (Kd.N_drew HO_14.out); have n2_ := Aside0.mk (Kd.R_drew HO_104.out); have n3_ := Aside0.mk (below_drew1 HB.out); clear HO_10; clear HO_14; clear HO_104; clear HB; have HO_10 := n0_; have HO_14 := n1_; have HO_104 := n2_; have HB := n3_; clear n0_ n1_ n2_ n3_; have p185 : 0 ≤ (x106_5 : Int) := of_decide_eq_true (by first | (with_reducible assumption) | assumption); have q185 : x106_5 < (t163.length : Int) := of_decide_eq_true (by first | (with_reducible assumption) | assumption); obtain ⟨ad185, A185_0, c185_0, e185, hx185_0, hl185_0, hi185_0⟩ := at_L2 (Kd.N_reads' HO_10.out).2.2 x106_5 p185 q185
                             cases e185
                             obtain ⟨ce185, hce185, hMe185, hcc185⟩ := Kd.N_get HO_10.out [] x106_5 p185 (by first | exact q185 | exact of_decide_eq_true (by first | (with_reducible assumption) | assumption) | (have e_ := (Kd.N_reads' HO_10.out).1; omega)); obtain ⟨ua185_0, uc185_0, rfl, ul185_0, ge185_0⟩ := Kd.FK_slice_open hMe185; have hv185_0 := hcc185 0 _ rfl; rw [Nat.add_zero, show ((Kd.slice 23 (Kd.slice 5 (Kd.int .u8)))).sz = 1 from rfl, Nat.mul_one] at hv185_0; replace hv185_0 := Option.some.inj (hv185_0.symm.trans hx185_0)
                             injection hv185_0 with hva_ hvn_ hvc_
                             rw [hva_] at ge185_0; rw [hvc_] at ul185_0; have HL185_0 := Aside0.mk (show Kd.V (Kd.slice 5 (Kd.int .u8)) 23 _ w.heap.size _ _ (rd_L2 t163 x106_5) from Kd.V_mk ul185_0 ge185_0); clear hva_ hvn_ hvc_ ge185_0 ul185_0; clear hcc185 hce185; have HR185_0 := Aside0.mk hi185_0; have HC185_0 := Aside0.mk hl185_0; clear hi185_0 hl185_0; replace p185 := eq_true p185; replace q185 := eq_true q185; have p186 : 0 ≤ (x106_5 : Int) := of_decide_eq_true (by first | (with_reducible assumption) | assumption); have q186 : x106_5 < (l3.length : Int) := of_decide_eq_true (by first | (with_reducible assumption) | assumption); obtain ⟨ad186, A186_0, c186_0, e186, hx186_0, hl186_0, hi186_0⟩ := at_L1 HR3.out x106_5 p186 q186; have hw186_0 := hx186_0
                             cases e186
                             replace hx186_0 := (HB.out.cell (World.block_lt_of_cell? w _ hx186_0)).trans hx186_0; have HR186_0 := Aside0.mk hi186_0; have HC186_0 := Aside0.mk hl186_0; clear hi186_0 hl186_0; replace p186 := eq_true p186; replace q186 := eq_true q186; refine start_ (n := 15) (S := fun w' => w'.cell? (ad185.add (x106_5).toNat) = some (.slice A185_0 (rd_L2 t163 x106_5).length c185_0) ∧ w'.cell? (ad186.add (x106_5).toNat) = some (.slice A186_0 (rd_L1 l3 x106_5).length c186_0)) (ds := []) #[f_, f_, f_, f_, f_, f_, f_, f_, f_, f_, f_, f_, f_, f_, f_] (by kernel_rfl) rfl rfl ⟨hx185_0, ((HB.out.cell (World.block_lt_of_cell? w _ hw186_0)).trans hw186_0)⟩ (fun hHeld => ?_); refine with_tabW parity_Recover.tab30 parity_Recover.bits30 (fun HT_ HW_ => ?_)
                             generalize wr.drew = w73 at HO_10 HO_14 HO_104 HB HL185_0 HR185_0 HR186_0 hx185_0 hx186_0 hHeld ⊢
                             refine pure_ (i := 0) (N := some 114) (v := ?_) (a' := ?_) #[t_, f_, f_, f_, f_, f_, f_, f_, f_, f_, f_, f_, f_, f_, f_] rfl rfl (any_of HT_.out (by kernel_rfl)) (fun _ _ _ h => h) (Or.inl ⟨by rfl, ?_⟩) ?_ ?_; rotate_left
                             ·
                              intro w'; go_simp
                              with_reducible rfl
                             rotate_left
                             ·
                              simp only [Act.put, sA_, sZ_, sS_, i64_w, i32_w]; rfl
                             refine pure_ (i := 1) (N := some 115) (v := ?_) (a' := ?_) #[t_, t_, f_, f_, f_, f_, f_, f_, f_, f_, f_, f_, f_, f_, f_] rfl rfl (any_of HT_.out (by kernel_rfl)) (fun _ _ _ h => h) (Or.inl ⟨by rfl, ?_⟩) ?_ ?_; rotate_left
                             ·
                              intro w'; go_simp
                              with_reducible rfl
                             rotate_left
                             ·
                              simp only [Act.put, sA_, sZ_, sS_, i64_w, i32_w]; rfl
                             refine pure_ (i := 2) (N := some 116) (v := ?_) (a' := ?_) #[t_, t_, t_, f_, f_, f_, f_, f_, f_, f_, f_, f_, f_, f_, f_] rfl rfl (any_of HT_.out (by kernel_rfl)) (fun _ _ _ h => h) (Or.inl ⟨by rfl, ?_⟩) ?_ ?_; rotate_left
                             ·
                              intro w'; go_simp
                              with_reducible rfl
                             rotate_left
                             ·
                              simp only [Act.put, sA_, sZ_, sS_, i64_w, i32_w]; rfl
                             refine pure_ (i := 4) (N := some 118) (v := ?_) (a' := ?_) #[t_, t_, t_, f_, t_, f_, f_, f_, f_, f_, f_, f_, f_, f_, f_] rfl rfl (any_of HT_.out (by kernel_rfl)) (fun _ _ _ h => h) (Or.inl ⟨by rfl, ?_⟩) ?_ ?_; rotate_left
                             ·
                              intro w'; go_simp
                              with_reducible rfl
                             rotate_left
                             ·
                              simp only [Act.put, sA_, sZ_, sS_, i64_w, i32_w]; rfl
                             refine pure_ (i := 5) (N := some 119) (v := ?_) (a' := ?_) #[t_, t_, t_, f_, t_, t_, f_, f_, f_, f_, f_, f_, f_, f_, f_] rfl rfl (any_of HT_.out (by kernel_rfl)) (fun _ _ _ h => h) (Or.inl ⟨by rfl, ?_⟩) ?_ ?_; rotate_left
                             ·
                              intro w'; go_simp
                              with_reducible rfl
                             rotate_left
                             ·
                              simp only [Act.put, sA_, sZ_, sS_, i64_w, i32_w]; rfl
                             refine pure_ (i := 6) (N := some 120) (v := ?_) (a' := ?_) #[t_, t_, t_, f_, t_, t_, t_, f_, f_, f_, f_, f_, f_, f_, f_] rfl rfl (any_of HT_.out (by kernel_rfl)) (fun _ _ _ h => h) (Or.inl ⟨by rfl, ?_⟩) ?_ ?_; rotate_left
                             ·
                              intro w'; go_simp
                              with_reducible rfl
                             rotate_left
                             ·
                              simp only [Act.put, sA_, sZ_, sS_, i64_w, i32_w]; rfl
                             refine pure_ (i := 7) (N := some 121) (v := ?_) (a' := ?_) #[t_, t_, t_, f_, t_, t_, t_, t_, f_, f_, f_, f_, f_, f_, f_] rfl rfl (any_of HT_.out (by kernel_rfl)) (fun _ _ _ h => h) (Or.inl ⟨by rfl, ?_⟩) ?_ ?_; rotate_left
                             ·
                              intro w'; go_simp
                              with_reducible rfl
                             rotate_left
                             ·
                              simp only [Act.put, sA_, sZ_, sS_, i64_w, i32_w]; rfl
                             refine take_ (i := 3) (N := some 117) (v := ?_) (a' := ?_) #[t_, t_, t_, t_, t_, t_, t_, t_, f_, f_, f_, f_, f_, f_, f_] rfl rfl (take_ofW HT_.out HW_.out (by kernel_rfl)) (fun _ _ _ h => h) (Or.inl ⟨by rfl, ?_⟩) hHeld ?_ ?_; rotate_left
                             ·
                              rintro w' ⟨s0, s1⟩
                              go_simp
                              with_reducible rfl
                             rotate_left
                             ·
                              simp only [Act.put, sA_, sZ_, sS_, i64_w, i32_w]; rfl
                             refine take_ (i := 8) (N := some 122) (v := ?_) (a' := ?_) #[t_, t_, t_, t_, t_, t_, t_, t_, t_, f_, f_, f_, f_, f_, f_] rfl rfl (take_ofW HT_.out HW_.out (by kernel_rfl)) (fun _ _ _ h => h) (Or.inl ⟨by rfl, ?_⟩) hHeld ?_ ?_; rotate_left
                             ·
                              rintro w' ⟨s0, s1⟩
                              go_simp
                              with_reducible rfl
                             rotate_left
                             ·
                              simp only [Act.put, sA_, sZ_, sS_, i64_w, i32_w]; rfl
                             refine one_ (i := 9) (N := some 123) #[t_, t_, t_, t_, t_, t_, t_, t_, t_, t_, f_, f_, f_, f_, f_] rfl rfl (one_of HT_.out (by kernel_rfl)) (by decide) (fun K hK => ?_); refine goes_ Tryd.func11 (by kernel_rfl) rfl #[.slice A185_0 (rd_L2 t163 x106_5).length c185_0, .int .i64 (rd x11_3 x106_5), .slice A186_0 (rd_L1 l3 x106_5).length c186_0] (by rfl) rfl rfl (by (try simp only [List.map_toArray, List.map_cons, List.map_nil]); first | done | rfl | (simp only [List.length_drop, List.length_take]; rfl)) ?_
                             with_reducible refine (parity_Repair.calls _ _ (rd_L2 t163 x106_5) (rd x11_3 x106_5) _ _ (rd_L1 l3 x106_5) t187 t188 _ ?side1 ?side2 ?side3 ?side4 A67.out).mono ?_
                             (case side1 => repeat (first | exact (by repeat (first | (with_reducible exact HR185_0.out) | (with_reducible refine Kd.C_alloc ?_ _) | (with_reducible refine Kd.C_drewN ?_ _) | (with_reducible refine Kd.C_drew ?_) | exact HR185_0.out)) | (with_reducible refine Kd.C_alloc ?_ _) | (with_reducible refine Kd.C_drewN ?_ _) | (with_reducible refine Kd.C_drew ?_))); (case side2 => exact HC185_0.out); (case side3 => repeat (first | exact (Kd.C_below HR186_0.out HB.out) | (with_reducible refine Kd.C_alloc ?_ _) | (with_reducible refine Kd.C_drewN ?_ _) | (with_reducible refine Kd.C_drew ?_))); (case side4 => exact HC186_0.out)
                             rintro e w74 ⟨v189, rfl, ho0, hb⟩
                             have HS0_ := (hb.cell (World.block_lt_of_cell? _ _ (hHeld.1))).trans (hHeld.1); refine ⟨_, rfl, ?_⟩; have n0_ := Aside0.mk (Kd.N_elder' (by (with_reducible repeat (first | apply Kd.N_alloc | apply Kd.N_drewN | apply Kd.N_drew)); exact HO_10.out) (Kd.Q_base ho0) hb); have n1_ := Aside0.mk (Kd.N_elder' (by (with_reducible repeat (first | apply Kd.N_alloc | apply Kd.N_drewN | apply Kd.N_drew)); exact HO_14.out) (Kd.Q_base ho0) hb); have n2_ := Aside0.mk (Kd.R_below (pL_ HO_104.out) hb); have n3_ := Aside0.mk (Kd.V_elder' (by (with_reducible repeat (first | apply Kd.V_alloc | apply Kd.V_drewN | apply Kd.V_drew)); exact HL185_0.out) (Kd.Q_base ho0) hb); have n4_ := Aside0.mk (Kd.Q_lower (Kd.Q_newM (M := fun k_ => (w.heap.size ≤ k_)) ho0 (below_size (pH_ HB.out)) (fun k_ h_ => h_)) (below_size (pH_ HB.out))); have n5_ := Aside0.mk (Kd.C_below (by repeat (first | (with_reducible exact HR185_0.out) | (with_reducible refine Kd.C_alloc ?_ _) | (with_reducible refine Kd.C_drewN ?_ _) | (with_reducible refine Kd.C_drew ?_) | exact HR185_0.out)) hb); have n6_ := Aside0.mk (below_step (pH_ HB.out) hb); clear HO_10; clear HO_14; clear HO_104; clear HL185_0; clear HR185_0; clear HB; have HO_10 := n0_; have HO_14 := n1_; have HO_104 := n2_; have HL185_0 := n3_; have HO190 := n4_; have HR185_0 := n5_; have HB := n6_; clear n0_ n1_ n2_ n3_ n4_ n5_ n6_; (try clear hb); (try clear hb2); (try clear hk); (try clear hi); (try clear ho0); refine hK.out _ _ ⟨HS0_, ((HB.out.cell (World.block_lt_of_cell? w _ hw186_0)).trans hw186_0)⟩ (fun hHeld => ?_); clear hK K; refine norm_ (a' := ?_) ?_ ?_; rotate_left
                             ·
                              show Act.put _ (some 123) _ = _
                              simp only [Act.put, sA_, sZ_, sS_, i64_w, i32_w]; rfl
                             refine pure_ (i := 10) (N := some 113) (v := ?_) (a' := ?_) #[t_, t_, t_, t_, t_, t_, t_, t_, t_, t_, t_, f_, f_, f_, f_] rfl rfl (any_of HT_.out (by kernel_rfl)) (fun _ _ _ h => h) (Or.inl ⟨by rfl, ?_⟩) ?_ ?_; rotate_left
                             ·
                              intro w'; go_simp
                              with_reducible rfl
                             rotate_left
                             ·
                              simp only [Act.put, sA_, sZ_, sS_, i64_w, i32_w]; rfl
                             refine pure_ (i := 11) (N := some 124) (v := ?_) (a' := ?_) #[t_, t_, t_, t_, t_, t_, t_, t_, t_, t_, t_, t_, f_, f_, f_] rfl rfl (any_of HT_.out (by kernel_rfl)) (fun _ _ _ h => h) (Or.inl ⟨by rfl, ?_⟩) ?_ ?_; rotate_left
                             ·
                              intro w'; go_simp
                              with_reducible rfl
                             rotate_left
                             ·
                              simp only [Act.put, sA_, sZ_, sS_, i64_w, i32_w]; rfl
                             refine pure_ (i := 12) (N := some 125) (v := ?_) (a' := ?_) #[t_, t_, t_, t_, t_, t_, t_, t_, t_, t_, t_, t_, t_, f_, f_] rfl rfl (any_of HT_.out (by kernel_rfl)) (fun _ _ _ h => h) (Or.inl ⟨by rfl, ?_⟩) ?_ ?_; rotate_left
                             ·
                              intro w'; go_simp
                              with_reducible rfl
                             rotate_left
                             ·
                              simp only [Act.put, sA_, sZ_, sS_, i64_w, i32_w]; rfl
                             refine pure_ (i := 13) (N := some 18) (v := ?_) (a' := ?_) #[t_, t_, t_, t_, t_, t_, t_, t_, t_, t_, t_, t_, t_, t_, f_] rfl rfl (any_of HT_.out (by kernel_rfl)) (fun _ _ _ h => h) (Or.inl ⟨by rfl, ?_⟩) ?_ ?_; rotate_left
                             ·
                              intro w'; go_simp
                              with_reducible rfl
                             rotate_left
                             ·
                              simp only [Act.put, sA_, sZ_, sS_, i64_w, i32_w]; rfl
                             refine pure_ (i := 14) (N := some 19) (v := ?_) (a' := ?_) #[t_, t_, t_, t_, t_, t_, t_, t_, t_, t_, t_, t_, t_, t_, t_] rfl rfl (any_of HT_.out (by kernel_rfl)) (fun _ _ _ h => h) (Or.inl ⟨by rfl, ?_⟩) ?_ ?_; rotate_left
                             ·
                              intro w'; go_simp
                              with_reducible rfl
                             rotate_left
                             ·
                              simp only [Act.put, sA_, sZ_, sS_, i64_w, i32_w]; rfl
                             refine done_ (done_of HT_.out (by kernel_rfl)) ?_; have p72 : 0 ≤ ((ji69) : Int) := of_decide_eq_true (by first | (with_reducible assumption) | assumption); have q72 : ((ji69) : Int) < ((x14_5.length : Int) : Int) := of_decide_eq_true (by first | (with_reducible assumption) | assumption); obtain ⟨go72, co72, eo72, gb72, gl72, cl72, HG72⟩ := Kd.N_form HO_14.out (by omega); (first | cases eo72 | (injection eo72 with ea_ en_ ec_; (first | subst ea_ | (injection ea_ with ea_; subst ea_)); subst ec_; clear en_)); have GB72 := Aside0.mk gb72; have GG72 := Aside0.mk HG72; clear gb72 gl72 HG72; obtain ⟨ce72, hcl72, hM72, hcc72, hfr72⟩ := Kd.N_elem HO_14.out [] ((ji69) : Int) p72 q72; obtain ⟨ua72_0, uc72_0, rfl, ul72_0, ge72_0⟩ := Kd.FK_slice_open hM72; have hx72_0 := hcc72 0 _ rfl; have hf72_0 := hfr72 0; (try simp only [show ((Kd.slice 5 (Kd.int .u8))).sz = 1 from rfl, Nat.mul_one, Nat.add_zero] at hx72_0); (try simp only [show ((Kd.slice 5 (Kd.int .u8))).sz = 1 from rfl, Nat.mul_one, Nat.add_zero] at hf72_0); clear hcl72 hcc72 hfr72 hM72; replace p72 := eq_true p72; replace q72 := eq_true q72; obtain ⟨Ao77, co77, eo77, _⟩ := Kd.Q_slice HO190.out
                             subst eo77
                             have n_ := Aside0.mk (Kd.N_mono (ok' := (fun k_ => (P0_ k_ ∨ w.heap.size ≤ k_) ∧ some k_ ≠ (.slice (some ad185) t163.length co14 : Value).ownBlock ∧ some k_ ≠ (.slice (some ad184) x11_3.length co17 : Value).ownBlock ∧ nO_ k_ (.slice Ao77 t187.length co77))) HO_14.out (fun k_ hk => ⟨hk.1.1, ⟨hk.1.2.1, ⟨hk.1.2.2, hk.2⟩⟩⟩)); clear HO_14; have HO_14 := n_; clear n_; have HX75 := Aside0.mk (show Kd.N (Kd.slice 5 (Kd.int .u8)) 23 w74 w.heap.size (fun k_ => (P0_ k_ ∨ w.heap.size ≤ k_) ∧ some k_ ≠ (.slice (some ad185) t163.length co14 : Value).ownBlock ∧ some k_ ≠ (.slice (some ad184) x11_3.length co17 : Value).ownBlock) (.slice (some ⟨go72, 0, none⟩) x14_5.length co72) x14_5 from (by (with_reducible repeat (first | apply Kd.N_alloc | apply Kd.N_drewN | apply Kd.N_drew)); exact Kd.N_mono HO_14.out (fun _ hk => ⟨hk.1, ⟨hk.2.1, hk.2.2.1⟩⟩))); obtain ⟨ce75, hcl75, hM75, hcc75, hfr75⟩ := Kd.N_elem HX75.out [] ((ji69) : Int) (of_decide_eq_true (by first | (with_reducible assumption) | assumption)) (by have h_ : ((ji69) : Int) < ((x14_5.length : Int) : Int) := of_decide_eq_true (by first | (with_reducible assumption) | assumption); first | exact h_ | (have e_ := (Kd.N_reads' HO_14.out).1; omega) | simpa using h_); obtain ⟨ua75_0, uc75_0, rfl, ul75_0, ge75_0⟩ := Kd.FK_slice_open hM75; have HP75 := Kd.N_seg HX75.out ((ji69) : Int) (of_decide_eq_true (by first | (with_reducible assumption) | assumption)) (by have h_ : ((ji69) : Int) < ((x14_5.length : Int) : Int) := of_decide_eq_true (by first | (with_reducible assumption) | assumption); first | exact h_ | (have e_ := (Kd.N_reads' HO_14.out).1; omega) | simpa using h_) (seg := [.slice Ao77 t187.length co77]) (j := 0) hcl75 hcc75 (show 1 ≤ 1 from by decide) (x' := t187) (Kd.FK_slice_mk (Kd.Q_reads' (Kd.Q_mono (ok' := (fun k_ => ((fun k_ => (P0_ k_ ∨ w.heap.size ≤ k_) ∧ some k_ ≠ (.slice (some ad185) t163.length co14 : Value).ownBlock ∧ some k_ ≠ (.slice (some ad184) x11_3.length co17 : Value).ownBlock)) k_ ∧ k_ ≠ go72)) (Kd.Q_apart' (Kd.Q_apart' (Kd.Q_apart' (HO190.out) (Kd.N_typed HO_10.out) (by decide)) (Kd.R_typed HO_104.out) (by decide)) (Kd.N_typed HO_14.out) (by decide)) (fun k_ hk => ⟨⟨(.inr (hk.1.1.1.1)), ⟨hk.1.1.2, hk.1.2⟩⟩, fun e_ => (hk.2) (by rw [e_]; rfl)⟩))).2.1 (Kd.Q_F (Kd.Q_mono (ok' := (fun k_ => ((fun k_ => (P0_ k_ ∨ w.heap.size ≤ k_) ∧ some k_ ≠ (.slice (some ad185) t163.length co14 : Value).ownBlock ∧ some k_ ≠ (.slice (some ad184) x11_3.length co17 : Value).ownBlock)) k_ ∧ k_ ≠ go72)) (Kd.Q_apart' (Kd.Q_apart' (Kd.Q_apart' (HO190.out) (Kd.N_typed HO_10.out) (by decide)) (Kd.R_typed HO_104.out) (by decide)) (Kd.N_typed HO_14.out) (by decide)) (fun k_ hk => ⟨⟨(.inr (hk.1.1.1.1)), ⟨hk.1.1.2, hk.1.2⟩⟩, fun e_ => (hk.2) (by rw [e_]; rfl)⟩)))) (fun _ hk => hk); have hx75_0 := hcc75 0 _ rfl; (try simp only [show ((Kd.slice 5 (Kd.int .u8))).sz = 1 from rfl, Nat.mul_one, Nat.add_zero] at hx75_0); have hf75_0 := hfr75 0; (try simp only [show ((Kd.slice 5 (Kd.int .u8))).sz = 1 from rfl, Nat.mul_one, Nat.add_zero] at hf75_0); clear hcl75 hcc75 hfr75 hM75; (try simp only [show ((Kd.slice 5 (Kd.int .u8))).sz = 1 from rfl, Nat.mul_one, Nat.add_zero] at HP75); (try simp only [show ((Kd.slice 5 (Kd.int .u8))).sz = 1 from rfl, Nat.mul_one, Nat.add_zero] at HP75)
                             try go_wp2_with (first | ((with_reducible refine gate_store (t := 23) (p := 136) rfl ?_); refine store_event (t := 23) (p := 136) (v := ?vo_w76) (w1 := (w74.setCell ⟨go72, ((ji69) : Int).toNat, none⟩ (.slice Ao77 t187.length co77))) ?hg ?ho ?hn ?hr ?_; (case ho => rfl); (case hg => rfl); (case hn => rfl); (case hr => first | (go_simp; done) | (go_simp; rfl)); intro w76 hw; have hg : w74.grownBy w76 (some go72) := (by rw [hw]; exact HP75.2); have hp_ : Kd.N (Kd.slice 5 (Kd.int .u8)) 23 w76 w.heap.size (fun k_ => (P0_ k_ ∨ w.heap.size ≤ k_) ∧ some k_ ≠ (.slice (some ad185) t163.length co14 : Value).ownBlock ∧ some k_ ≠ (.slice (some ad184) x11_3.length co17 : Value).ownBlock) (.slice (some ⟨go72, 0, none⟩) x14_5.length co72) y191 := (by rw [hw, Ny191.out]; exact HP75.1); clear HP75; have n0_ := Aside0.mk (Kd.N_afterv (v := (.slice (some ⟨go72, 0, none⟩) x14_5.length co72)) (v1 := (.slice (some ⟨go72, 0, none⟩) x14_5.length co72)) (ok := (fun k_ => (P0_ k_ ∨ w.heap.size ≤ k_) ∧ some k_ ≠ (.slice (some ad184) x11_3.length co17 : Value).ownBlock ∧ nO_ k_ (.slice Ao77 t187.length co77))) (by (with_reducible repeat (first | apply Kd.N_alloc | apply Kd.N_drewN | apply Kd.N_drew)); exact Kd.N_mono HO_10.out (fun _ hk => ⟨⟨hk.1.1, ⟨hk.1.2.2, hk.2⟩⟩, hk.1.2.1⟩)) hg (.inl rfl)); have n1_ := Aside0.mk (hp_); have n2_ := Aside0.mk (Kd.R_over' (v := (.slice (some ⟨go72, 0, none⟩) x14_5.length co72)) (pL_ HO_104.out) (Kd.N_typed HO_14.out) (by decide) hg); have n3_ := Aside0.mk (Kd.V_afterv (v := (.slice (some ⟨go72, 0, none⟩) x14_5.length co72)) (v1 := (.slice (some ⟨go72, 0, none⟩) x14_5.length co72)) (ok := (fun k_ => (P0_ k_ ∨ w.heap.size ≤ k_) ∧ some k_ ≠ (.slice (some ad185) t163.length co14 : Value).ownBlock ∧ some k_ ≠ (.slice (some ad184) x11_3.length co17 : Value).ownBlock ∧ nO_ k_ (.slice Ao77 t187.length co77))) (by (with_reducible repeat (first | apply Kd.V_alloc | apply Kd.V_drewN | apply Kd.V_drew)); exact Kd.V_mono HL185_0.out (fun _ hk => ⟨⟨hk.1.1.1, ⟨hk.1.2, ⟨hk.1.1.2.2, hk.2⟩⟩⟩, hk.1.1.2.1⟩)) hg (.inl rfl)); have n4_ := Aside0.mk ((by rw [hw]; exact below_set (HB.out) GB72.out : Below w.heap.size w w76)); clear HO_10; clear HO_14; clear HO_104; clear HL185_0; clear HB; clear HO190; have HO_10 := n0_; have HO_14 := n1_; have HO_104 := n2_; have HL185_0 := n3_; have HB := n4_; clear n0_ n1_ n2_ n3_ n4_; clear hg hw hp_))
                             go_roundg k5
                             case measure => have := HJ4.out; have := HK2.out; have := HK3.out; have := HJ57.out; have := HK5.out; omega
                             case rel => exact ⟨(y191), (wrap64 (x106_5 + 1)), (by first | rfl | (simp; done) | (simp [*]; done)), H', ⟨by have := HJ4.out; have := HK2.out; have := HK3.out; have := HJ57.out; have := HK5.out; omega⟩, ⟨by (try simp only [hl11_2]); (try simp only [hl11_3]); (with_reducible repeat (first | apply Kd.N_alloc | apply Kd.N_drewN | apply Kd.N_drew)); exact Kd.N_mono HO_10.out (fun _ hk => ⟨hk.1.1, ⟨hk.2, hk.1.2.1⟩⟩)⟩, ⟨by (try simp only [hl11_2]); (try simp only [hl11_3]); (with_reducible repeat (first | apply Kd.N_alloc | apply Kd.N_drewN | apply Kd.N_drew)); exact HO_14.out⟩, ⟨by (try simp only [hl11_2]); (try simp only [hl11_3]); (with_reducible repeat (first | apply rA_ | apply rN_ | apply rD_)); exact HO_104.out⟩, ⟨pH_ HB.out⟩⟩
                            ·
                             rw [if_neg c71] at H; exact absurd H (by simp)
                           ·
                            rw [if_neg c70] at H; exact absurd H (by simp)
                          ·
                           rw [if_neg c68] at H; have c68b0 : (t188 == 0) = false := beq_eq_false_iff_ne.mpr c68; (try simp only [hl11_2, hl11_3] at c68b0); have c68b1 : (t188 != 0) = true := bne_iff_ne.mpr c68; (try simp only [hl11_2, hl11_3] at c68b1); simp only [Option.some.injEq, Prod.mk.injEq] at H; obtain ⟨rfl, rfl⟩ := H; have p184 : 0 ≤ (x106_5 : Int) := of_decide_eq_true (by first | (with_reducible assumption) | assumption); have q184 : x106_5 < (x11_3.length : Int) := of_decide_eq_true (by first | (with_reducible assumption) | assumption); obtain ⟨ad184, e184, hx184_0⟩ := Kd.at_int (Kd.R_reads' HO_104.out).2.2 x106_5 p184 q184
                           cases e184
                           replace p184 := eq_true p184; replace q184 := eq_true q184
                           try go_wp2
                           have n0_ := Aside0.mk (Kd.N_drew HO_10.out); have n1_ := Aside0.mk (Kd.N_drew HO_14.out); have n2_ := Aside0.mk (Kd.R_drew HO_104.out); have n3_ := Aside0.mk (below_drew1 HB.out); clear HO_10; clear HO_14; clear HO_104; clear HB; have HO_10 := n0_; have HO_14 := n1_; have HO_104 := n2_; have HB := n3_; clear n0_ n1_ n2_ n3_; have p185 : 0 ≤ (x106_5 : Int) := of_decide_eq_true (by first | (with_reducible assumption) | assumption); have q185 : x106_5 < (t163.length : Int) := of_decide_eq_true (by first | (with_reducible assumption) | assumption); obtain ⟨ad185, A185_0, c185_0, e185, hx185_0, hl185_0, hi185_0⟩ := at_L2 (Kd.N_reads' HO_10.out).2.2 x106_5 p185 q185
                           cases e185
                           obtain ⟨ce185, hce185, hMe185, hcc185⟩ := Kd.N_get HO_10.out [] x106_5 p185 (by first | exact q185 | exact of_decide_eq_true (by first | (with_reducible assumption) | assumption) | (have e_ := (Kd.N_reads' HO_10.out).1; omega)); obtain ⟨ua185_0, uc185_0, rfl, ul185_0, ge185_0⟩ := Kd.FK_slice_open hMe185; have hv185_0 := hcc185 0 _ rfl; rw [Nat.add_zero, show ((Kd.slice 23 (Kd.slice 5 (Kd.int .u8)))).sz = 1 from rfl, Nat.mul_one] at hv185_0; replace hv185_0 := Option.some.inj (hv185_0.symm.trans hx185_0)
                           injection hv185_0 with hva_ hvn_ hvc_
                           rw [hva_] at ge185_0; rw [hvc_] at ul185_0; have HL185_0 := Aside0.mk (show Kd.V (Kd.slice 5 (Kd.int .u8)) 23 _ w.heap.size _ _ (rd_L2 t163 x106_5) from Kd.V_mk ul185_0 ge185_0); clear hva_ hvn_ hvc_ ge185_0 ul185_0; clear hcc185 hce185; have HR185_0 := Aside0.mk hi185_0; have HC185_0 := Aside0.mk hl185_0; clear hi185_0 hl185_0; replace p185 := eq_true p185; replace q185 := eq_true q185; have p186 : 0 ≤ (x106_5 : Int) := of_decide_eq_true (by first | (with_reducible assumption) | assumption); have q186 : x106_5 < (l3.length : Int) := of_decide_eq_true (by first | (with_reducible assumption) | assumption); obtain ⟨ad186, A186_0, c186_0, e186, hx186_0, hl186_0, hi186_0⟩ := at_L1 HR3.out x106_5 p186 q186; have hw186_0 := hx186_0
                           cases e186
                           replace hx186_0 := (HB.out.cell (World.block_lt_of_cell? w _ hx186_0)).trans hx186_0; have HR186_0 := Aside0.mk hi186_0; have HC186_0 := Aside0.mk hl186_0; clear hi186_0 hl186_0; replace p186 := eq_true p186; replace q186 := eq_true q186; refine start_ (n := 15) (S := fun w' => w'.cell? (ad185.add (x106_5).toNat) = some (.slice A185_0 (rd_L2 t163 x106_5).length c185_0) ∧ w'.cell? (ad186.add (x106_5).toNat) = some (.slice A186_0 (rd_L1 l3 x106_5).length c186_0)) (ds := []) #[f_, f_, f_, f_, f_, f_, f_, f_, f_, f_, f_, f_, f_, f_, f_] (by kernel_rfl) rfl rfl ⟨hx185_0, ((HB.out.cell (World.block_lt_of_cell? w _ hw186_0)).trans hw186_0)⟩ (fun hHeld => ?_); refine with_tabW parity_Recover.tab30 parity_Recover.bits30 (fun HT_ HW_ => ?_)
                           generalize wr.drew = w78 at HO_10 HO_14 HO_104 HB HL185_0 HR185_0 HR186_0 hx185_0 hx186_0 hHeld ⊢
                           refine pure_ (i := 0) (N := some 114) (v := ?_) (a' := ?_) #[t_, f_, f_, f_, f_, f_, f_, f_, f_, f_, f_, f_, f_, f_, f_] rfl rfl (any_of HT_.out (by kernel_rfl)) (fun _ _ _ h => h) (Or.inl ⟨by rfl, ?_⟩) ?_ ?_; rotate_left
                           ·
                            intro w'; go_simp
                            with_reducible rfl
                           rotate_left
                           ·
                            simp only [Act.put, sA_, sZ_, sS_, i64_w, i32_w]; rfl
                           refine pure_ (i := 1) (N := some 115) (v := ?_) (a' := ?_) #[t_, t_, f_, f_, f_, f_, f_, f_, f_, f_, f_, f_, f_, f_, f_] rfl rfl (any_of HT_.out (by kernel_rfl)) (fun _ _ _ h => h) (Or.inl ⟨by rfl, ?_⟩) ?_ ?_; rotate_left
                           ·
                            intro w'; go_simp
                            with_reducible rfl
                           rotate_left
                           ·
                            simp only [Act.put, sA_, sZ_, sS_, i64_w, i32_w]; rfl
                           refine pure_ (i := 2) (N := some 116) (v := ?_) (a' := ?_) #[t_, t_, t_, f_, f_, f_, f_, f_, f_, f_, f_, f_, f_, f_, f_] rfl rfl (any_of HT_.out (by kernel_rfl)) (fun _ _ _ h => h) (Or.inl ⟨by rfl, ?_⟩) ?_ ?_; rotate_left
                           ·
                            intro w'; go_simp
                            with_reducible rfl
                           rotate_left
                           ·
                            simp only [Act.put, sA_, sZ_, sS_, i64_w, i32_w]; rfl
                           refine pure_ (i := 4) (N := some 118) (v := ?_) (a' := ?_) #[t_, t_, t_, f_, t_, f_, f_, f_, f_, f_, f_, f_, f_, f_, f_] rfl rfl (any_of HT_.out (by kernel_rfl)) (fun _ _ _ h => h) (Or.inl ⟨by rfl, ?_⟩) ?_ ?_; rotate_left
                           ·
                            intro w'; go_simp
                            with_reducible rfl
                           rotate_left
                           ·
                            simp only [Act.put, sA_, sZ_, sS_, i64_w, i32_w]; rfl
                           refine pure_ (i := 5) (N := some 119) (v := ?_) (a' := ?_) #[t_, t_, t_, f_, t_, t_, f_, f_, f_, f_, f_, f_, f_, f_, f_] rfl rfl (any_of HT_.out (by kernel_rfl)) (fun _ _ _ h => h) (Or.inl ⟨by rfl, ?_⟩) ?_ ?_; rotate_left
                           ·
                            intro w'; go_simp
                            with_reducible rfl
                           rotate_left
                           ·
                            simp only [Act.put, sA_, sZ_, sS_, i64_w, i32_w]; rfl
                           refine pure_ (i := 6) (N := some 120) (v := ?_) (a' := ?_) #[t_, t_, t_, f_, t_, t_, t_, f_, f_, f_, f_, f_, f_, f_, f_] rfl rfl (any_of HT_.out (by kernel_rfl)) (fun _ _ _ h => h) (Or.inl ⟨by rfl, ?_⟩) ?_ ?_; rotate_left
                           ·
                            intro w'; go_simp
                            with_reducible rfl
                           rotate_left
                           ·
                            simp only [Act.put, sA_, sZ_, sS_, i64_w, i32_w]; rfl
                           refine pure_ (i := 7) (N := some 121) (v := ?_) (a' := ?_) #[t_, t_, t_, f_, t_, t_, t_, t_, f_, f_, f_, f_, f_, f_, f_] rfl rfl (any_of HT_.out (by kernel_rfl)) (fun _ _ _ h => h) (Or.inl ⟨by rfl, ?_⟩) ?_ ?_; rotate_left
                           ·
                            intro w'; go_simp
                            with_reducible rfl
                           rotate_left
                           ·
                            simp only [Act.put, sA_, sZ_, sS_, i64_w, i32_w]; rfl
                           refine take_ (i := 3) (N := some 117) (v := ?_) (a' := ?_) #[t_, t_, t_, t_, t_, t_, t_, t_, f_, f_, f_, f_, f_, f_, f_] rfl rfl (take_ofW HT_.out HW_.out (by kernel_rfl)) (fun _ _ _ h => h) (Or.inl ⟨by rfl, ?_⟩) hHeld ?_ ?_; rotate_left
                           ·
                            rintro w' ⟨s0, s1⟩
                            go_simp
                            with_reducible rfl
                           rotate_left
                           ·
                            simp only [Act.put, sA_, sZ_, sS_, i64_w, i32_w]; rfl
                           refine take_ (i := 8) (N := some 122) (v := ?_) (a' := ?_) #[t_, t_, t_, t_, t_, t_, t_, t_, t_, f_, f_, f_, f_, f_, f_] rfl rfl (take_ofW HT_.out HW_.out (by kernel_rfl)) (fun _ _ _ h => h) (Or.inl ⟨by rfl, ?_⟩) hHeld ?_ ?_; rotate_left
                           ·
                            rintro w' ⟨s0, s1⟩
                            go_simp
                            with_reducible rfl
                           rotate_left
                           ·
                            simp only [Act.put, sA_, sZ_, sS_, i64_w, i32_w]; rfl
                           refine one_ (i := 9) (N := some 123) #[t_, t_, t_, t_, t_, t_, t_, t_, t_, t_, f_, f_, f_, f_, f_] rfl rfl (one_of HT_.out (by kernel_rfl)) (by decide) (fun K hK => ?_); refine goes_ Tryd.func11 (by kernel_rfl) rfl #[.slice A185_0 (rd_L2 t163 x106_5).length c185_0, .int .i64 (rd x11_3 x106_5), .slice A186_0 (rd_L1 l3 x106_5).length c186_0] (by rfl) rfl rfl (by (try simp only [List.map_toArray, List.map_cons, List.map_nil]); first | done | rfl | (simp only [List.length_drop, List.length_take]; rfl)) ?_
                           with_reducible refine (parity_Repair.calls _ _ (rd_L2 t163 x106_5) (rd x11_3 x106_5) _ _ (rd_L1 l3 x106_5) t187 t188 _ ?side1 ?side2 ?side3 ?side4 A67.out).mono ?_
                           (case side1 => repeat (first | exact (by repeat (first | (with_reducible exact HR185_0.out) | (with_reducible refine Kd.C_alloc ?_ _) | (with_reducible refine Kd.C_drewN ?_ _) | (with_reducible refine Kd.C_drew ?_) | exact HR185_0.out)) | (with_reducible refine Kd.C_alloc ?_ _) | (with_reducible refine Kd.C_drewN ?_ _) | (with_reducible refine Kd.C_drew ?_))); (case side2 => exact HC185_0.out); (case side3 => repeat (first | exact (Kd.C_below HR186_0.out HB.out) | (with_reducible refine Kd.C_alloc ?_ _) | (with_reducible refine Kd.C_drewN ?_ _) | (with_reducible refine Kd.C_drew ?_))); (case side4 => exact HC186_0.out)
                           rintro e w79 ⟨v189, rfl, ho0, hb⟩
                           have HS0_ := (hb.cell (World.block_lt_of_cell? _ _ (hHeld.1))).trans (hHeld.1); refine ⟨_, rfl, ?_⟩; have n0_ := Aside0.mk (Kd.N_elder' (by (with_reducible repeat (first | apply Kd.N_alloc | apply Kd.N_drewN | apply Kd.N_drew)); exact HO_10.out) (Kd.Q_base ho0) hb); have n1_ := Aside0.mk (Kd.N_elder' (by (with_reducible repeat (first | apply Kd.N_alloc | apply Kd.N_drewN | apply Kd.N_drew)); exact HO_14.out) (Kd.Q_base ho0) hb); have n2_ := Aside0.mk (Kd.R_below (pL_ HO_104.out) hb); have n3_ := Aside0.mk (Kd.V_elder' (by (with_reducible repeat (first | apply Kd.V_alloc | apply Kd.V_drewN | apply Kd.V_drew)); exact HL185_0.out) (Kd.Q_base ho0) hb); have n4_ := Aside0.mk (Kd.Q_lower (Kd.Q_newM (M := fun k_ => (w.heap.size ≤ k_)) ho0 (below_size (pH_ HB.out)) (fun k_ h_ => h_)) (below_size (pH_ HB.out))); have n5_ := Aside0.mk (Kd.C_below (by repeat (first | (with_reducible exact HR185_0.out) | (with_reducible refine Kd.C_alloc ?_ _) | (with_reducible refine Kd.C_drewN ?_ _) | (with_reducible refine Kd.C_drew ?_) | exact HR185_0.out)) hb); have n6_ := Aside0.mk (below_step (pH_ HB.out) hb); clear HO_10; clear HO_14; clear HO_104; clear HL185_0; clear HR185_0; clear HB; have HO_10 := n0_; have HO_14 := n1_; have HO_104 := n2_; have HL185_0 := n3_; have HO190 := n4_; have HR185_0 := n5_; have HB := n6_; clear n0_ n1_ n2_ n3_ n4_ n5_ n6_; (try clear hb); (try clear hb2); (try clear hk); (try clear hi); (try clear ho0); refine hK.out _ _ ⟨HS0_, ((HB.out.cell (World.block_lt_of_cell? w _ hw186_0)).trans hw186_0)⟩ (fun hHeld => ?_); clear hK K; refine norm_ (a' := ?_) ?_ ?_; rotate_left
                           ·
                            show Act.put _ (some 123) _ = _
                            simp only [Act.put, sA_, sZ_, sS_, i64_w, i32_w]; rfl
                           refine pure_ (i := 10) (N := some 113) (v := ?_) (a' := ?_) #[t_, t_, t_, t_, t_, t_, t_, t_, t_, t_, t_, f_, f_, f_, f_] rfl rfl (any_of HT_.out (by kernel_rfl)) (fun _ _ _ h => h) (Or.inl ⟨by rfl, ?_⟩) ?_ ?_; rotate_left
                           ·
                            intro w'; go_simp
                            with_reducible rfl
                           rotate_left
                           ·
                            simp only [Act.put, sA_, sZ_, sS_, i64_w, i32_w]; rfl
                           refine pure_ (i := 11) (N := some 124) (v := ?_) (a' := ?_) #[t_, t_, t_, t_, t_, t_, t_, t_, t_, t_, t_, t_, f_, f_, f_] rfl rfl (any_of HT_.out (by kernel_rfl)) (fun _ _ _ h => h) (Or.inl ⟨by rfl, ?_⟩) ?_ ?_; rotate_left
                           ·
                            intro w'; go_simp
                            with_reducible rfl
                           rotate_left
                           ·
                            simp only [Act.put, sA_, sZ_, sS_, i64_w, i32_w]; rfl
                           refine pure_ (i := 12) (N := some 125) (v := ?_) (a' := ?_) #[t_, t_, t_, t_, t_, t_, t_, t_, t_, t_, t_, t_, t_, f_, f_] rfl rfl (any_of HT_.out (by kernel_rfl)) (fun _ _ _ h => h) (Or.inl ⟨by rfl, ?_⟩) ?_ ?_; rotate_left
                           ·
                            intro w'; go_simp
                            with_reducible rfl
                           rotate_left
                           ·
                            simp only [Act.put, sA_, sZ_, sS_, i64_w, i32_w]; rfl
                           refine pure_ (i := 13) (N := some 18) (v := ?_) (a' := ?_) #[t_, t_, t_, t_, t_, t_, t_, t_, t_, t_, t_, t_, t_, t_, f_] rfl rfl (any_of HT_.out (by kernel_rfl)) (fun _ _ _ h => h) (Or.inl ⟨by rfl, ?_⟩) ?_ ?_; rotate_left
                           ·
                            intro w'; go_simp
                            with_reducible rfl
                           rotate_left
                           ·
                            simp only [Act.put, sA_, sZ_, sS_, i64_w, i32_w]; rfl
                           refine pure_ (i := 14) (N := some 19) (v := ?_) (a' := ?_) #[t_, t_, t_, t_, t_, t_, t_, t_, t_, t_, t_, t_, t_, t_, t_] rfl rfl (any_of HT_.out (by kernel_rfl)) (fun _ _ _ h => h) (Or.inl ⟨by rfl, ?_⟩) ?_ ?_; rotate_left
                           ·
                            intro w'; go_simp
                            with_reducible rfl
                           rotate_left
                           ·
                            simp only [Act.put, sA_, sZ_, sS_, i64_w, i32_w]; rfl
                           refine done_ (done_of HT_.out (by kernel_rfl)) ?_
                           try go_wp2
                           go_ret2
                           exact ⟨_, by first | rfl | (simp [errW_none, errW_some] <;> rfl) | (simp [*, errW_none, errW_some] <;> rfl), by first | exact Kd.S_nil _ _ _ _ _ | exact Kd.N_nil _ _ _ _ _ | exact Kd.V_nil _ _ _ _ _ | exact Kd.Q_nil _ _ _ _ _ | exact Kd.R_nil _ _ _ _ _, pH_ HB.out⟩
                         ·
                          rw [if_neg c66] at H; exact absurd H (by simp)
                        ·
                         rw [if_neg c65] at H; exact absurd H (by simp)
                      ·
                       rw [if_neg c63] at H; exact absurd H (by simp)
                     ·
                      rw [if_neg c62] at H; exact absurd H (by simp)
                    ·
                     rw [if_neg c61] at H; have c61b0 : decide (x106_5 < (x11_3.length : Int)) = false := decide_eq_false c61; (try simp only [hl11_2, hl11_3] at c61b0); clear c61; simp only [Option.some.injEq, Prod.mk.injEq] at H; obtain ⟨rfl, rfl⟩ := H
                     go_wp2
                     go_ret2
                     exact ⟨_, by first | rfl | (simp [errW_none, errW_some] <;> rfl) | (simp [*, errW_none, errW_some] <;> rfl), by (with_reducible repeat (first | apply Kd.N_alloc | apply Kd.N_drewN | apply Kd.N_drew)); exact Kd.N_mono HO_14.out (fun _ hk => hk.1), pH_ HB.out⟩
           ·
            rw [if_neg c25] at H; exact absurd H (by simp)
          ·
           rw [if_neg c24] at H; exact absurd H (by simp)
      ·
       rw [if_neg c12] at H; exact absurd H (by simp)
     ·
      rw [if_neg c11] at H; exact absurd H (by simp)

end Go.Proofs.YtejamobohmljfaaDoor.XParityMends
