-- Laid by a program of this session (wip/mkxprint.py, over the kit's print): Lean checks it.
import Derived.Test.YtejamobohmljfaaDoorXParityMendsx0
import Derived.Test.YtejamobohmljfaaDoorXParityMendsx6
namespace Go.Proofs.YtejamobohmljfaaDoor.XParityMends
open List (setIfInBounds_toArray set_cons_zero set_cons_succ)
open Go.RowKit Go.Proofs.YtejamobohmljfaaDoorW.PrintWords Go.Proofs.YtejamobohmljfaaDoorW.PrintLast Go.Proofs.YtejamobohmljfaaDoorW.PrintMore
attribute [local go_sem] max2_int min2_int max_two min_two max_three min_three max_four min_four   -- for this text's walks alone
set_option linter.unusedVariables false
set_option linter.unusedSimpArgs false

/-! ### bitloftref42_Recover: function 16 -/
mutual
def bitloftref42_Recover.j0 : Nat → List (List Int) → List Bool → Int → List (List Int) → Bool → Option ((List (List Int)) × Int)
 | 0, _, _, _, _, _ => none
 | k + 1, x0, x1, x2, x3, x32 => if x32 = true then (some (([] : List (List Int)), 2)) else (if (x0.length : Int) > 100 then (some (([] : List (List Int)), 4)) else (bitloftref42_Recover.l0 k x0 x1 x2 x3 0))
def bitloftref42_Recover.l0 : Nat → List (List Int) → List Bool → Int → List (List Int) → Int → Option ((List (List Int)) × Int)
 | 0, _, _, _, _, _ => none
 | k + 1, x0, x1, x2, x3, x10 => if x10 < (x0.length : Int) then (if 0 ≤ x10 then (if x10 < (x1.length : Int) then (if rdOf false x1 x10 = true then (bitloftref42_Recover.l0 k x0 x1 x2 x3 (wrap64 (x10 + 1))) else (if ((rd_L1 x0 x10).length : Int) > 5000 then (some (([] : List (List Int)), 4)) else (bitloftref42_Recover.l0 k x0 x1 x2 x3 (wrap64 (x10 + 1))))) else (none)) else (none)) else ((bitloftref42_Groups.f (x0.length : Int) x2).bind fun t226 => (if (x3.length : Int) = t226 then (bitloftref42_Recover.l1 k x0 x1 x2 x3 0) else (some (([] : List (List Int)), 40))))
def bitloftref42_Recover.l1 : Nat → List (List Int) → List Bool → Int → List (List Int) → Int → Option ((List (List Int)) × Int)
 | 0, _, _, _, _, _ => none
 | k + 1, x0, x1, x2, x3, x11 => if x11 < (x0.length : Int) then ((bitloftref42_gone.f k x1 x11 (mn (wrap64 (x11 + x2)) (x0.length : Int))).bind fun t227 => (if (t227.length : Int) > 1 then (some (([] : List (List Int)), 40)) else (bitloftref42_Recover.l1 k x0 x1 x2 x3 (wrap64 (x11 + x2))))) else (bitloftref42_Recover.l2 k x0 x1 x2 x3 ([] : List (List Int)) 0)
def bitloftref42_Recover.l2 : Nat → List (List Int) → List Bool → Int → List (List Int) → List (List Int) → Int → Option ((List (List Int)) × Int)
 | 0, _, _, _, _, _, _ => none
 | k + 1, x0, x1, x2, x3, x12, x13 => if x13 < (x0.length : Int) then ((bitloftref42_gone.f k x1 x13 (mn (wrap64 (x13 + x2)) (x0.length : Int))).bind fun t230 => (bitloftref42_Recover.l3 k x0 x1 x2 x3 x12 x13 (mn (wrap64 (x13 + x2)) (x0.length : Int)) t230 x13)) else (some (x12, 0))
def bitloftref42_Recover.l3 : Nat → List (List Int) → List Bool → Int → List (List Int) → List (List Int) → Int → Int → List Int → Int → Option ((List (List Int)) × Int)
 | 0, _, _, _, _, _, _, _, _, _ => none
 | k + 1, x0, x1, x2, x3, x12, x13, x14, x15, x16 => if x16 < x14 then ((some (([] : List Int) : List Int)).bind fun y233 => (if 0 ≤ x16 then (if x16 < (x0.length : Int) then (if y233.length + (rd_L1 x0 x16).length < 140737488355328 then ((some (y233 ++ (rd_L1 x0 x16) : List Int)).bind fun y237 => (if (x15.length : Int) > 0 then (if 0 < (x15.length : Int) then (bitloftref42_Recover.j5 k x0 x1 x2 x3 x12 x13 x14 x15 x16 y237 (x16 == (rd x15 0))) else (none)) else (bitloftref42_Recover.j5 k x0 x1 x2 x3 x12 x13 x14 x15 x16 y237 false))) else (none)) else (none)) else (none))) else (bitloftref42_Recover.l2 k x0 x1 x2 x3 x12 (wrap64 (x13 + x2)))
def bitloftref42_Recover.j5 : Nat → List (List Int) → List Bool → Int → List (List Int) → List (List Int) → Int → Int → List Int → Int → List Int → Bool → Option ((List (List Int)) × Int)
 | 0, _, _, _, _, _, _, _, _, _, _, _ => none
 | k + 1, x0, x1, x2, x3, x12, x13, x14, x15, x16, x17, x118 => if x118 = true then (if 0 ≤ x13 then (if x13 ≤ x14 then (if x14 ≤ (x0.length : Int) then (if x2 = 0 then (none) else (if 0 ≤ (wrap64 (Int.tdiv x13 x2)) then (if (wrap64 (Int.tdiv x13 x2)) < (x3.length : Int) then ((bitloftref42_Repair.f k ((x0.take (x14 : Int).toNat).drop (x13 : Int).toNat) (wrap64 (x16 - x13)) (rd_L1 x3 (wrap64 (Int.tdiv x13 x2)))).bind fun bt246 => (if bt246.2 = 0 then (if x12.length < 5864062014805 then (bitloftref42_Recover.l3 k x0 x1 x2 x3 (x12 ++ [bt246.1]) x13 x14 x15 (wrap64 (x16 + 1))) else (none)) else (some (([] : List (List Int)), bt246.2)))) else (none)) else (none))) else (none)) else (none)) else (none)) else (if x12.length < 5864062014805 then (bitloftref42_Recover.l3 k x0 x1 x2 x3 (x12 ++ [x17]) x13 x14 x15 (wrap64 (x16 + 1))) else (none))
end
def bitloftref42_Recover.f (k : Nat) (l0 : List (List Int)) (l1 : List Bool) (a2 : Int) (l3 : List (List Int)) : Option ((List (List Int)) × Int) := if a2 < 1 then (bitloftref42_Recover.j0 k l0 l1 a2 l3 true) else (if a2 > 16 then (bitloftref42_Recover.j0 k l0 l1 a2 l3 true) else (bitloftref42_Recover.j0 k l0 l1 a2 l3 ((l1.length : Int) != (l0.length : Int))))
theorem bitloftref42_Recover.mono_l : ∀ k, (∀ y0 y1 y2 y3 y4, LeO (bitloftref42_Recover.j0 k y0 y1 y2 y3 y4) (bitloftref42_Recover.j0 (k + 1) y0 y1 y2 y3 y4)) ∧ (∀ y0 y1 y2 y3 y4, LeO (bitloftref42_Recover.l0 k y0 y1 y2 y3 y4) (bitloftref42_Recover.l0 (k + 1) y0 y1 y2 y3 y4)) ∧ (∀ y0 y1 y2 y3 y4, LeO (bitloftref42_Recover.l1 k y0 y1 y2 y3 y4) (bitloftref42_Recover.l1 (k + 1) y0 y1 y2 y3 y4)) ∧ (∀ y0 y1 y2 y3 y4 y5, LeO (bitloftref42_Recover.l2 k y0 y1 y2 y3 y4 y5) (bitloftref42_Recover.l2 (k + 1) y0 y1 y2 y3 y4 y5)) ∧ (∀ y0 y1 y2 y3 y4 y5 y6 y7 y8, LeO (bitloftref42_Recover.l3 k y0 y1 y2 y3 y4 y5 y6 y7 y8) (bitloftref42_Recover.l3 (k + 1) y0 y1 y2 y3 y4 y5 y6 y7 y8)) ∧ (∀ y0 y1 y2 y3 y4 y5 y6 y7 y8 y9 y10, LeO (bitloftref42_Recover.j5 k y0 y1 y2 y3 y4 y5 y6 y7 y8 y9 y10) (bitloftref42_Recover.j5 (k + 1) y0 y1 y2 y3 y4 y5 y6 y7 y8 y9 y10))
 | 0 => ⟨fun _ _ _ _ _ r h => by simp [bitloftref42_Recover.j0] at h, fun _ _ _ _ _ r h => by simp [bitloftref42_Recover.l0] at h, fun _ _ _ _ _ r h => by simp [bitloftref42_Recover.l1] at h, fun _ _ _ _ _ _ r h => by simp [bitloftref42_Recover.l2] at h, fun _ _ _ _ _ _ _ _ _ r h => by simp [bitloftref42_Recover.l3] at h, fun _ _ _ _ _ _ _ _ _ _ _ r h => by simp [bitloftref42_Recover.j5] at h⟩
 | k + 1 => by
  obtain ⟨ih0, ih1, ih2, ih3, ih4, ih5⟩ := bitloftref42_Recover.mono_l k; refine ⟨?_, ?_, ?_, ?_, ?_, ?_⟩
  ·
   intro y0 y1 y2 y3 y4
   unfold bitloftref42_Recover.j0
   repeat' first
   | (with_reducible exact ih0 _ _ _ _ _)
   | (with_reducible exact ih1 _ _ _ _ _)
   | (with_reducible exact ih2 _ _ _ _ _)
   | (with_reducible exact ih3 _ _ _ _ _ _)
   | (with_reducible exact ih4 _ _ _ _ _ _ _ _ _)
   | (with_reducible exact ih5 _ _ _ _ _ _ _ _ _ _ _)
   | (with_reducible exact bitloftref42_Repair.mono _ _ _ _)
   | (with_reducible exact bitloftref42_gone.mono _ _ _ _)
   | (with_reducible exact LeO.refl _)
   | (with_reducible exact LeO.none _)
   | (with_reducible refine LeO.ite ?_ ?_)
   | (with_reducible refine LeO.bind ?_ (fun _ => ?_))
   | exact ih0 _ _ _ _ _
   | exact ih1 _ _ _ _ _
   | exact ih2 _ _ _ _ _
   | exact ih3 _ _ _ _ _ _
   | exact ih4 _ _ _ _ _ _ _ _ _
   | exact ih5 _ _ _ _ _ _ _ _ _ _ _
   | exact bitloftref42_Repair.mono _ _ _ _
   | exact bitloftref42_gone.mono _ _ _ _
   | exact LeO.none _
   | refine LeO.ite ?_ ?_
   | refine LeO.bind ?_ (fun _ => ?_)
  ·
   intro y0 y1 y2 y3 y4
   unfold bitloftref42_Recover.l0
   repeat' first
   | (with_reducible exact ih0 _ _ _ _ _)
   | (with_reducible exact ih1 _ _ _ _ _)
   | (with_reducible exact ih2 _ _ _ _ _)
   | (with_reducible exact ih3 _ _ _ _ _ _)
   | (with_reducible exact ih4 _ _ _ _ _ _ _ _ _)
   | (with_reducible exact ih5 _ _ _ _ _ _ _ _ _ _ _)
   | (with_reducible exact bitloftref42_Repair.mono _ _ _ _)
   | (with_reducible exact bitloftref42_gone.mono _ _ _ _)
   | (with_reducible exact LeO.refl _)
   | (with_reducible exact LeO.none _)
   | (with_reducible refine LeO.ite ?_ ?_)
   | (with_reducible refine LeO.bind ?_ (fun _ => ?_))
   | exact ih0 _ _ _ _ _
   | exact ih1 _ _ _ _ _
   | exact ih2 _ _ _ _ _
   | exact ih3 _ _ _ _ _ _
   | exact ih4 _ _ _ _ _ _ _ _ _
   | exact ih5 _ _ _ _ _ _ _ _ _ _ _
   | exact bitloftref42_Repair.mono _ _ _ _
   | exact bitloftref42_gone.mono _ _ _ _
   | exact LeO.none _
   | refine LeO.ite ?_ ?_
   | refine LeO.bind ?_ (fun _ => ?_)
  ·
   intro y0 y1 y2 y3 y4
   unfold bitloftref42_Recover.l1
   repeat' first
   | (with_reducible exact ih0 _ _ _ _ _)
   | (with_reducible exact ih1 _ _ _ _ _)
   | (with_reducible exact ih2 _ _ _ _ _)
   | (with_reducible exact ih3 _ _ _ _ _ _)
   | (with_reducible exact ih4 _ _ _ _ _ _ _ _ _)
   | (with_reducible exact ih5 _ _ _ _ _ _ _ _ _ _ _)
   | (with_reducible exact bitloftref42_Repair.mono _ _ _ _)
   | (with_reducible exact bitloftref42_gone.mono _ _ _ _)
   | (with_reducible exact LeO.refl _)
   | (with_reducible exact LeO.none _)
   | (with_reducible refine LeO.ite ?_ ?_)
   | (with_reducible refine LeO.bind ?_ (fun _ => ?_))
   | exact ih0 _ _ _ _ _
   | exact ih1 _ _ _ _ _
   | exact ih2 _ _ _ _ _
   | exact ih3 _ _ _ _ _ _
   | exact ih4 _ _ _ _ _ _ _ _ _
   | exact ih5 _ _ _ _ _ _ _ _ _ _ _
   | exact bitloftref42_Repair.mono _ _ _ _
   | exact bitloftref42_gone.mono _ _ _ _
   | exact LeO.none _
   | refine LeO.ite ?_ ?_
   | refine LeO.bind ?_ (fun _ => ?_)
  ·
   intro y0 y1 y2 y3 y4 y5
   unfold bitloftref42_Recover.l2
   repeat' first
   | (with_reducible exact ih0 _ _ _ _ _)
   | (with_reducible exact ih1 _ _ _ _ _)
   | (with_reducible exact ih2 _ _ _ _ _)
   | (with_reducible exact ih3 _ _ _ _ _ _)
   | (with_reducible exact ih4 _ _ _ _ _ _ _ _ _)
   | (with_reducible exact ih5 _ _ _ _ _ _ _ _ _ _ _)
   | (with_reducible exact bitloftref42_Repair.mono _ _ _ _)
   | (with_reducible exact bitloftref42_gone.mono _ _ _ _)
   | (with_reducible exact LeO.refl _)
   | (with_reducible exact LeO.none _)
   | (with_reducible refine LeO.ite ?_ ?_)
   | (with_reducible refine LeO.bind ?_ (fun _ => ?_))
   | exact ih0 _ _ _ _ _
   | exact ih1 _ _ _ _ _
   | exact ih2 _ _ _ _ _
   | exact ih3 _ _ _ _ _ _
   | exact ih4 _ _ _ _ _ _ _ _ _
   | exact ih5 _ _ _ _ _ _ _ _ _ _ _
   | exact bitloftref42_Repair.mono _ _ _ _
   | exact bitloftref42_gone.mono _ _ _ _
   | exact LeO.none _
   | refine LeO.ite ?_ ?_
   | refine LeO.bind ?_ (fun _ => ?_)
  ·
   intro y0 y1 y2 y3 y4 y5 y6 y7 y8
   unfold bitloftref42_Recover.l3
   repeat' first
   | (with_reducible exact ih0 _ _ _ _ _)
   | (with_reducible exact ih1 _ _ _ _ _)
   | (with_reducible exact ih2 _ _ _ _ _)
   | (with_reducible exact ih3 _ _ _ _ _ _)
   | (with_reducible exact ih4 _ _ _ _ _ _ _ _ _)
   | (with_reducible exact ih5 _ _ _ _ _ _ _ _ _ _ _)
   | (with_reducible exact bitloftref42_Repair.mono _ _ _ _)
   | (with_reducible exact bitloftref42_gone.mono _ _ _ _)
   | (with_reducible exact LeO.refl _)
   | (with_reducible exact LeO.none _)
   | (with_reducible refine LeO.ite ?_ ?_)
   | (with_reducible refine LeO.bind ?_ (fun _ => ?_))
   | exact ih0 _ _ _ _ _
   | exact ih1 _ _ _ _ _
   | exact ih2 _ _ _ _ _
   | exact ih3 _ _ _ _ _ _
   | exact ih4 _ _ _ _ _ _ _ _ _
   | exact ih5 _ _ _ _ _ _ _ _ _ _ _
   | exact bitloftref42_Repair.mono _ _ _ _
   | exact bitloftref42_gone.mono _ _ _ _
   | exact LeO.none _
   | refine LeO.ite ?_ ?_
   | refine LeO.bind ?_ (fun _ => ?_)
  ·
   intro y0 y1 y2 y3 y4 y5 y6 y7 y8 y9 y10
   unfold bitloftref42_Recover.j5
   repeat' first
   | (with_reducible exact ih0 _ _ _ _ _)
   | (with_reducible exact ih1 _ _ _ _ _)
   | (with_reducible exact ih2 _ _ _ _ _)
   | (with_reducible exact ih3 _ _ _ _ _ _)
   | (with_reducible exact ih4 _ _ _ _ _ _ _ _ _)
   | (with_reducible exact ih5 _ _ _ _ _ _ _ _ _ _ _)
   | (with_reducible exact bitloftref42_Repair.mono _ _ _ _)
   | (with_reducible exact bitloftref42_gone.mono _ _ _ _)
   | (with_reducible exact LeO.refl _)
   | (with_reducible exact LeO.none _)
   | (with_reducible refine LeO.ite ?_ ?_)
   | (with_reducible refine LeO.bind ?_ (fun _ => ?_))
   | exact ih0 _ _ _ _ _
   | exact ih1 _ _ _ _ _
   | exact ih2 _ _ _ _ _
   | exact ih3 _ _ _ _ _ _
   | exact ih4 _ _ _ _ _ _ _ _ _
   | exact ih5 _ _ _ _ _ _ _ _ _ _ _
   | exact bitloftref42_Repair.mono _ _ _ _
   | exact bitloftref42_gone.mono _ _ _ _
   | exact LeO.none _
   | refine LeO.ite ?_ ?_
   | refine LeO.bind ?_ (fun _ => ?_)
theorem bitloftref42_Recover.mono : ∀ a0 a1 a2 a3 k, LeO (bitloftref42_Recover.f k a0 a1 a2 a3) (bitloftref42_Recover.f (k + 1) a0 a1 a2 a3) := by
 intro a0 a1 a2 a3 k; obtain ⟨ih0, ih1, ih2, ih3, ih4, ih5⟩ := bitloftref42_Recover.mono_l k
 unfold bitloftref42_Recover.f
 repeat' first
   | (with_reducible exact ih0 _ _ _ _ _)
   | (with_reducible exact ih1 _ _ _ _ _)
   | (with_reducible exact ih2 _ _ _ _ _)
   | (with_reducible exact ih3 _ _ _ _ _ _)
   | (with_reducible exact ih4 _ _ _ _ _ _ _ _ _)
   | (with_reducible exact ih5 _ _ _ _ _ _ _ _ _ _ _)
   | (with_reducible exact bitloftref42_Repair.mono _ _ _ _)
   | (with_reducible exact bitloftref42_gone.mono _ _ _ _)
   | (with_reducible exact LeO.refl _)
   | (with_reducible exact LeO.none _)
   | (with_reducible refine LeO.ite ?_ ?_)
   | (with_reducible refine LeO.bind ?_ (fun _ => ?_))
   | exact ih0 _ _ _ _ _
   | exact ih1 _ _ _ _ _
   | exact ih2 _ _ _ _ _
   | exact ih3 _ _ _ _ _ _
   | exact ih4 _ _ _ _ _ _ _ _ _
   | exact ih5 _ _ _ _ _ _ _ _ _ _ _
   | exact bitloftref42_Repair.mono _ _ _ _
   | exact bitloftref42_gone.mono _ _ _ _
   | exact LeO.none _
   | refine LeO.ite ?_ ?_
   | refine LeO.bind ?_ (fun _ => ?_)
def bitloftref42_Recover.T28 : Bool × List (List Nat × List Nat) := (true, [([], []), ([], []), ([], []), ([0, 1, 2], [0, 1, 2]), ([], []), ([], []), ([4, 5], [4, 5]), ([], []), ([], []), ([], []), ([8, 9], [8, 9]), ([7, 10], [7, 10]), ([11], [11]), ([3, 6, 12], [3, 6, 12]), ([13], [13]), ([14], [14]), ([14], [14]), ([15, 13, 0, 1, 2, 3, 4, 5, 6, 7, 8, 9, 10, 11, 12, 13, 14, 15], [15]), ([16, 17, 0, 1, 2, 3, 4, 5, 6, 7, 8, 9, 10, 11, 12, 13, 14, 15, 16, 17], [16])])
def bitloftref42_Recover.B28 : List Nat := [0, 0, 0, 7, 0, 0, 48, 0, 0, 0, 768, 1920, 3968, 8191, 16383, 32767, 32767, 65535, 262143]
theorem bitloftref42_Recover.tab28 : rtab .any (opsOf Tryd.f16 28) = bitloftref42_Recover.T28 := by kernel_rfl
theorem bitloftref42_Recover.bits28 : waitsOk bitloftref42_Recover.T28.2 bitloftref42_Recover.B28 = true := by kernel_rfl
set_option maxHeartbeats 8000000 in
set_option maxRecDepth 100000 in
theorem bitloftref42_Recover.calls (k : Nat) (A0 : Option Addr) (c0 : Nat) (l0 : List (List Int)) (A1 : Option Addr) (c1 : Nat) (l1 : List Bool) (a2 : Int) (A3 : Option Addr) (c3 : Nat) (l3 : List (List Int)) (r1 : List (List Int)) (r2 : Int) (w : World) (hr0 : Kd.C (Kd.slice 5 (Kd.int .u8)) w A0 l0.length l0) (hc0 : l0.length ≤ c0) (hr1 : Kd.C Kd.bool w A1 l1.length l1) (hc1 : l1.length ≤ c1) (hr3 : Kd.C (Kd.slice 5 (Kd.int .u8)) w A3 l3.length l3) (hc3 : l3.length ≤ c3) (h : bitloftref42_Recover.f k l0 l1 a2 l3 = some (r1, r2)) :
  Calls Tryd.prog 16 #[.slice A0 l0.length c0, .slice A1 l1.length c1, .int .i64 a2, .slice A3 l3.length c3] w fun e w' => ∃ v0_ : Value, e = .returned (.tuple #[v0_, .int .i64 r2]) ∧ Kd.S (Kd.slice 5 (Kd.int .u8)) 23 w' w.heap.size (fun _ => True) v0_ r1 ∧ Below w.heap.size w w' := by
 have HR0 := Aside0.mk hr0; have HC0 := Aside0.mk hc0; clear hr0 hc0; have HR1 := Aside0.mk hr1; have HC1 := Aside0.mk hc1; clear hr1 hc1; have HR3 := Aside0.mk hr3; have HC3 := Aside0.mk hc3; clear hr3 hc3; have HB := Aside0.mk (Below.refl w.heap.size w); have H : (if a2 < 1 then (bitloftref42_Recover.j0 k l0 l1 a2 l3 true) else (if a2 > 16 then (bitloftref42_Recover.j0 k l0 l1 a2 l3 true) else (bitloftref42_Recover.j0 k l0 l1 a2 l3 ((l1.length : Int) != (l0.length : Int))))) = some (r1, r2) := h; clear h; have HC5 := Aside0.mk H; clear H
 go_enter Tryd.func16, Tryd.ntmps16
 go_upto_region 1 with (fail)
 (with_reducible first | refine then_id_ ?_ | (refine wp_tail_ ?_; intro Kt_ hKt_))
 go_cut [32] (fun v32 wc => ∃ (kq : Nat) (x32_4 : Bool), v32 = .bool x32_4 ∧ Aside0 (bitloftref42_Recover.j0 kq l0 l1 a2 l3 x32_4 = some (r1, r2)) ∧ Aside0 (kq ≤ k) ∧ Aside0 (Below w.heap.size w wc))
 case first =>
  have H := HC5.out; clear HC5
  by_cases c6 : a2 < 1
  ·
   rw [if_pos c6] at H; have c6b0 : decide (a2 < 1) = true := decide_eq_true c6; clear c6; (first | rw [c6b0] | (simp only [i64_w, i32_w]; rw [c6b0]) | skip); have H' := Aside0.mk H; clear H
   go_wp2
   (first | go_meet | (refine Met.intro ?_; go_step; (repeat apply Exists.intro); refine ⟨?rel, ?eqf_⟩; case eqf_ => ((simp only [c6b0]) <;> rfl)))
   case rel => exact ⟨_, (true), (by first | rfl | (simp; done) | (simp [*]; done)), H', ⟨by first | omega | exact Nat.le_refl _⟩, ⟨pH_ HB.out⟩⟩
  ·
   rw [if_neg c6] at H; have c6b0 : decide (a2 < 1) = false := decide_eq_false c6; clear c6; (first | rw [c6b0] | (simp only [i64_w, i32_w]; rw [c6b0]) | skip)
   by_cases c7 : a2 > 16
   ·
    rw [if_pos c7] at H; have c7b0 : decide (16 < a2) = true := decide_eq_true c7; clear c7; have H' := Aside0.mk H; clear H
    go_wp2
    (first | go_meet | (refine Met.intro ?_; go_step; (repeat apply Exists.intro); refine ⟨?rel, ?eqf_⟩; case eqf_ => ((simp only [c7b0, c6b0]) <;> rfl)))
    case rel => exact ⟨_, (true), (by first | rfl | (simp; done) | (simp [*]; done)), H', ⟨by first | omega | exact Nat.le_refl _⟩, ⟨pH_ HB.out⟩⟩
   ·
    rw [if_neg c7] at H; have c7b0 : decide (16 < a2) = false := decide_eq_false c7; clear c7; have H' := Aside0.mk H; clear H
    go_wp2
    (first | go_meet | (refine Met.intro ?_; go_step; (repeat apply Exists.intro); refine ⟨?rel, ?eqf_⟩; case eqf_ => ((simp only [c7b0, c6b0]) <;> rfl)))
    case rel => exact ⟨_, (((l1.length : Int) != (l0.length : Int))), (by first | rfl | (simp; done) | (simp [*]; done)), H', ⟨by first | omega | exact Nat.le_refl _⟩, ⟨pH_ HB.out⟩⟩
 case rest =>
  (try (refine hKt_ _ _ ?_; clear hKt_; clear Kt_)); clear HC5
  try clear c1
  try clear p2
  try clear c3
  try clear c6
  try clear c6b0
  try clear c7
  try clear c7b0
  obtain ⟨kq, x32_4, rfl, HA, HJ4, HB⟩ := hcut
  cases kq with
  | zero => exact absurd HA.out (by simp [bitloftref42_Recover.j0])
  | succ kj4 =>
   have H := HA.out; clear HA; simp only [bitloftref42_Recover.j0] at H
   by_cases c8 : x32_4 = true
   ·
    subst c8
    have H1 : (some (([] : List (List Int)), 2)) = some (r1, r2) := by rw [if_pos rfl] at H; exact H
    clear H; have H := H1; clear H1; simp only [Option.some.injEq, Prod.mk.injEq] at H; obtain ⟨rfl, rfl⟩ := H
    go_wp2
    go_ret2
    exact ⟨_, by first | rfl | (simp [errW_none, errW_some] <;> rfl) | (simp [*, errW_none, errW_some] <;> rfl), by first | exact Kd.S_nil _ _ _ _ _ | exact Kd.N_nil _ _ _ _ _ | exact Kd.V_nil _ _ _ _ _ | exact Kd.Q_nil _ _ _ _ _ | exact Kd.R_nil _ _ _ _ _, pH_ HB.out⟩
   ·
    replace c8 := Bool.eq_false_iff.mpr c8
    subst c8
    have H1 : (if (l0.length : Int) > 100 then (some (([] : List (List Int)), 4)) else (bitloftref42_Recover.l0 kj4 l0 l1 a2 l3 0)) = some (r1, r2) := by rw [if_neg (show ¬ (false = true) by decide)] at H; exact H
    clear H; have H := H1; clear H1
    by_cases c9 : (l0.length : Int) > 100
    ·
     rw [if_pos c9] at H; have c9b0 : decide (100 < (l0.length : Int)) = true := decide_eq_true c9; have c9b1 : decide (100 < l0.length) = true := decide_eq_true (by omega); clear c9; simp only [Option.some.injEq, Prod.mk.injEq] at H; obtain ⟨rfl, rfl⟩ := H
     go_wp2
     go_ret2
     exact ⟨_, by first | rfl | (simp [errW_none, errW_some] <;> rfl) | (simp [*, errW_none, errW_some] <;> rfl), by first | exact Kd.S_nil _ _ _ _ _ | exact Kd.N_nil _ _ _ _ _ | exact Kd.V_nil _ _ _ _ _ | exact Kd.Q_nil _ _ _ _ _ | exact Kd.R_nil _ _ _ _ _, pH_ HB.out⟩
    ·
     rw [if_neg c9] at H; have c9b0 : decide (100 < (l0.length : Int)) = false := decide_eq_false c9; have c9b1 : decide (100 < l0.length) = false := decide_eq_false (by omega); clear c9; have H' := Aside0.mk H; clear H
     go_wp2
     go_loopg [10] kj4 (fun kq v10 w' => ∃ (x10_2 : Int), v10 = .int .i64 x10_2 ∧ Aside0 (bitloftref42_Recover.l0 kq l0 l1 a2 l3 x10_2 = some (r1, r2)) ∧ Aside0 (kq ≤ kj4) ∧ Aside0 (Below w.heap.size w w'))
     case atStart => exact ⟨(0), (by first | rfl | (simp; done) | (simp [*]; done)), H', ⟨Nat.le_refl _⟩, ⟨pH_ HB.out⟩⟩
     case round =>
      clear H'
      try clear c1
      try clear p2
      try clear c3
      try clear c6
      try clear c6b0
      try clear c7
      try clear c7b0
      try clear c8
      try clear c9
      try clear c9b0
      try clear c9b1
      try clear p2
      obtain ⟨x10_2, rfl, HA, HK2, HB⟩ := hrel
      cases gk with
      | zero => exact absurd HA.out (by simp [bitloftref42_Recover.l0])
      | succ k2 =>
       have H := HA.out; clear HA; simp only [bitloftref42_Recover.l0] at H
       by_cases c10 : x10_2 < (l0.length : Int)
       ·
        rw [if_pos c10] at H; have c10b0 : decide (x10_2 < (l0.length : Int)) = true := decide_eq_true c10; clear c10
        by_cases c11 : 0 ≤ x10_2
        ·
         rw [if_pos c11] at H; have c11b0 : decide (0 ≤ x10_2) = true := decide_eq_true c11; clear c11
         by_cases c12 : x10_2 < (l1.length : Int)
         ·
          rw [if_pos c12] at H; have c12b0 : decide (x10_2 < (l1.length : Int)) = true := decide_eq_true c12; clear c12; obtain ⟨bq13, hbq13⟩ : ∃ b_ : Bool, b_ = (rdOf false l1 x10_2) := ⟨_, rfl⟩
          replace H : (if bq13 = true then (bitloftref42_Recover.l0 k2 l0 l1 a2 l3 (wrap64 (x10_2 + 1))) else (if ((rd_L1 l0 x10_2).length : Int) > 5000 then (some (([] : List (List Int)), 4)) else (bitloftref42_Recover.l0 k2 l0 l1 a2 l3 (wrap64 (x10_2 + 1))))) = some (r1, r2) := by rw [← hbq13] at H; exact H
          have Nbq13 := Aside0.mk hbq13; clear hbq13
          by_cases c14 : bq13 = true
          ·
           subst c14
           have H1 : (bitloftref42_Recover.l0 k2 l0 l1 a2 l3 (wrap64 (x10_2 + 1))) = some (r1, r2) := by rw [if_pos rfl] at H; exact H
           clear H; have H := H1; clear H1; have H' := Aside0.mk H; clear H; have p224 : 0 ≤ (x10_2 : Int) := of_decide_eq_true (by first | (with_reducible assumption) | assumption); have q224 : x10_2 < (l1.length : Int) := of_decide_eq_true (by first | (with_reducible assumption) | assumption); obtain ⟨ad224, e224, hx224_0⟩ := Kd.at_bool HR1.out x10_2 p224 q224; (try rw [← Nbq13.out] at hx224_0)
           cases e224
           replace hx224_0 := (HB.out.cell (World.block_lt_of_cell? w _ hx224_0)).trans hx224_0; replace p224 := eq_true p224; replace q224 := eq_true q224
           go_wp2
           go_roundg k2
           case measure => have := HJ4.out; have := HK2.out; omega
           case rel => exact ⟨(wrap64 (x10_2 + 1)), (by first | rfl | (simp; done) | (simp [*]; done)), H', ⟨by have := HJ4.out; have := HK2.out; omega⟩, ⟨pH_ HB.out⟩⟩
          ·
           replace c14 := Bool.eq_false_iff.mpr c14
           subst c14
           have H1 : (if ((rd_L1 l0 x10_2).length : Int) > 5000 then (some (([] : List (List Int)), 4)) else (bitloftref42_Recover.l0 k2 l0 l1 a2 l3 (wrap64 (x10_2 + 1)))) = some (r1, r2) := by rw [if_neg (show ¬ (false = true) by decide)] at H; exact H
           clear H; have H := H1; clear H1
           by_cases c15 : ((rd_L1 l0 x10_2).length : Int) > 5000
           ·
            rw [if_pos c15] at H; have c15b0 : decide (5000 < ((rd_L1 l0 x10_2).length : Int)) = true := decide_eq_true c15; have c15b1 : decide (5000 < (rd_L1 l0 x10_2).length) = true := decide_eq_true (by omega); clear c15; simp only [Option.some.injEq, Prod.mk.injEq] at H; obtain ⟨rfl, rfl⟩ := H; have p224 : 0 ≤ (x10_2 : Int) := of_decide_eq_true (by first | (with_reducible assumption) | assumption); have q224 : x10_2 < (l1.length : Int) := of_decide_eq_true (by first | (with_reducible assumption) | assumption); obtain ⟨ad224, e224, hx224_0⟩ := Kd.at_bool HR1.out x10_2 p224 q224; (try rw [← Nbq13.out] at hx224_0)
            cases e224
            replace hx224_0 := (HB.out.cell (World.block_lt_of_cell? w _ hx224_0)).trans hx224_0; replace p224 := eq_true p224; replace q224 := eq_true q224; have p225 : 0 ≤ (x10_2 : Int) := of_decide_eq_true (by first | (with_reducible assumption) | assumption); have q225 : x10_2 < (l0.length : Int) := of_decide_eq_true (by first | (with_reducible assumption) | assumption); obtain ⟨ad225, A225_0, c225_0, e225, hx225_0, hl225_0, hi225_0⟩ := at_L1 HR0.out x10_2 p225 q225
            cases e225
            replace hx225_0 := (HB.out.cell (World.block_lt_of_cell? w _ hx225_0)).trans hx225_0; have HR225_0 := Aside0.mk hi225_0; have HC225_0 := Aside0.mk hl225_0; clear hi225_0 hl225_0; replace p225 := eq_true p225; replace q225 := eq_true q225
            go_wp2
            go_ret2
            exact ⟨_, by first | rfl | (simp [errW_none, errW_some] <;> rfl) | (simp [*, errW_none, errW_some] <;> rfl), by first | exact Kd.S_nil _ _ _ _ _ | exact Kd.N_nil _ _ _ _ _ | exact Kd.V_nil _ _ _ _ _ | exact Kd.Q_nil _ _ _ _ _ | exact Kd.R_nil _ _ _ _ _, pH_ HB.out⟩
           ·
            rw [if_neg c15] at H; have c15b0 : decide (5000 < ((rd_L1 l0 x10_2).length : Int)) = false := decide_eq_false c15; have c15b1 : decide (5000 < (rd_L1 l0 x10_2).length) = false := decide_eq_false (by omega); clear c15; have H' := Aside0.mk H; clear H; have p224 : 0 ≤ (x10_2 : Int) := of_decide_eq_true (by first | (with_reducible assumption) | assumption); have q224 : x10_2 < (l1.length : Int) := of_decide_eq_true (by first | (with_reducible assumption) | assumption); obtain ⟨ad224, e224, hx224_0⟩ := Kd.at_bool HR1.out x10_2 p224 q224; (try rw [← Nbq13.out] at hx224_0)
            cases e224
            replace hx224_0 := (HB.out.cell (World.block_lt_of_cell? w _ hx224_0)).trans hx224_0; replace p224 := eq_true p224; replace q224 := eq_true q224; have p225 : 0 ≤ (x10_2 : Int) := of_decide_eq_true (by first | (with_reducible assumption) | assumption); have q225 : x10_2 < (l0.length : Int) := of_decide_eq_true (by first | (with_reducible assumption) | assumption); obtain ⟨ad225, A225_0, c225_0, e225, hx225_0, hl225_0, hi225_0⟩ := at_L1 HR0.out x10_2 p225 q225
            cases e225
            replace hx225_0 := (HB.out.cell (World.block_lt_of_cell? w _ hx225_0)).trans hx225_0; have HR225_0 := Aside0.mk hi225_0; have HC225_0 := Aside0.mk hl225_0; clear hi225_0 hl225_0; replace p225 := eq_true p225; replace q225 := eq_true q225
            go_wp2
            go_roundg k2
            case measure => have := HJ4.out; have := HK2.out; omega
            case rel => exact ⟨(wrap64 (x10_2 + 1)), (by first | rfl | (simp; done) | (simp [*]; done)), H', ⟨by have := HJ4.out; have := HK2.out; omega⟩, ⟨pH_ HB.out⟩⟩
         ·
          rw [if_neg c12] at H; exact absurd H (by simp)
        ·
         rw [if_neg c11] at H; exact absurd H (by simp)
       ·
        rw [if_neg c10] at H; have c10b0 : decide (x10_2 < (l0.length : Int)) = false := decide_eq_false c10; clear c10; replace H := Option.bind_eq_some_iff.mp H; obtain ⟨t226, A160, H⟩ := H; replace H : (if (l3.length : Int) = t226 then (bitloftref42_Recover.l1 k2 l0 l1 a2 l3 0) else (some (([] : List (List Int)), 40))) = some (r1, r2) := H; have A16 := Aside0.mk A160; clear A160
        by_cases c17 : (l3.length : Int) = t226
        ·
         rw [if_pos c17] at H; have c17b0 : ((l3.length : Int) == t226) = true := beq_iff_eq.mpr c17; have c17b1 : ((l3.length : Int) != t226) = false := bne_eq_false_iff_eq.mpr c17; clear c17; have H' := Aside0.mk H; clear H
         go_wp2_with (first | ((with_reducible refine gate_callee (f := 30) rfl ?_); refine gL_ (some 60) Tryd.func30 #[.int .i64 (l0.length : Int), .int .i64 a2] ?_; (with_reducible refine (bitloftref42_Groups.calls (l0.length : Int) a2 t226 _ A16.out).mono ?_); rintro e w' ⟨rfl, ⟨nd, rfl⟩⟩; refine ⟨_, rfl, ?_⟩))
         go_loopg [11] k2 (fun kq v11 w' => ∃ (x11_3 : Int), v11 = .int .i64 x11_3 ∧ Aside0 (bitloftref42_Recover.l1 kq l0 l1 a2 l3 x11_3 = some (r1, r2)) ∧ Aside0 (kq ≤ k2) ∧ Aside0 (Below w.heap.size w w'))
         case atStart => exact ⟨(0), (by first | rfl | (simp; done) | (simp [*]; done)), H', ⟨Nat.le_refl _⟩, ⟨pH_ HB.out⟩⟩
         case round =>
          clear H'
          try clear c1
          try clear q1
          try clear c2
          try clear p2
          try clear q2
          try clear hx2
          try clear c3
          try clear c6
          try clear c6b0
          try clear p6
          try clear c7
          try clear c7b0
          try clear c8
          try clear c9
          try clear c9b0
          try clear c9b1
          try clear c10
          try clear c10b0
          try clear c11
          try clear c11b0
          try clear c12
          try clear c12b0
          try clear q13
          try clear c14
          try clear c15
          try clear c15b0
          try clear c15b1
          try clear c16
          try clear c17
          try clear c17b0
          try clear c17b1
          try clear hx224_0
          try clear hx225_0
          try clear p2
          try clear p224
          try clear p225
          try clear q224
          try clear q225
          obtain ⟨x11_3, rfl, HA, HK3, HB⟩ := hrel
          cases gk with
          | zero => exact absurd HA.out (by simp [bitloftref42_Recover.l1])
          | succ k3 =>
           have H := HA.out; clear HA; simp only [bitloftref42_Recover.l1] at H
           by_cases c18 : x11_3 < (l0.length : Int)
           ·
            rw [if_pos c18] at H; have c18b0 : decide (x11_3 < (l0.length : Int)) = true := decide_eq_true c18; clear c18; obtain ⟨ji19, hji19⟩ : ∃ j_ : Int, (mn (wrap64 (x11_3 + a2)) (l0.length : Int)) = j_ := ⟨_, rfl⟩
            replace H : ((bitloftref42_gone.f k3 l1 x11_3 (ji19)).bind fun t227 => (if (t227.length : Int) > 1 then (some (([] : List (List Int)), 40)) else (bitloftref42_Recover.l1 k3 l0 l1 a2 l3 (wrap64 (x11_3 + a2))))) = some (r1, r2) := by first | (rw [hji19] at H; exact H) | (simp only [hji19] at H ⊢; exact H)
            have hji19_ : (if (l0.length : Int) < (wrap64 (x11_3 + a2)) then (l0.length : Int) else (wrap64 (x11_3 + a2))) = ji19 := hji19; replace H := Option.bind_eq_some_iff.mp H; obtain ⟨t227, A200, H⟩ := H; replace H : (if (t227.length : Int) > 1 then (some (([] : List (List Int)), 40)) else (bitloftref42_Recover.l1 k3 l0 l1 a2 l3 (wrap64 (x11_3 + a2)))) = some (r1, r2) := H; have A20 := Aside0.mk A200; clear A200
            by_cases c21 : (t227.length : Int) > 1
            ·
             rw [if_pos c21] at H; have c21b0 : decide (1 < (t227.length : Int)) = true := decide_eq_true c21; have c21b1 : decide (1 < t227.length) = true := decide_eq_true (by omega); clear c21; simp only [Option.some.injEq, Prod.mk.injEq] at H; obtain ⟨rfl, rfl⟩ := H
             go_wp2_with (first | ((with_reducible refine gate_callee (f := 31) rfl ?_); refine goesL_ (some 77) rfl rfl Tryd.func31 (by kernel_rfl) rfl #[.slice A1 l1.length c1, .int .i64 x11_3, .int .i64 ji19] rfl (by (try simp only [List.map_toArray, List.map_cons, List.map_nil]); first | done | (simp only [hji19]; rfl) | rfl | (simp only [List.length_drop, List.length_take]; rfl)) ?_; (with_reducible refine (bitloftref42_gone.calls k3 _ _ l1 x11_3 ji19 t227 _ ?side1 ?side2 A20.out).mono ?_); (case side1 => repeat (first | exact (Kd.C_below HR1.out HB.out) | (with_reducible refine Kd.C_alloc ?_ _) | (with_reducible refine Kd.C_drewN ?_ _) | (with_reducible refine Kd.C_drew ?_))); (case side2 => exact HC1.out); rintro e w22 ⟨v228, rfl, ho0, hb⟩; refine ⟨_, rfl, ?_⟩; have n0_ := Aside0.mk (Kd.R_lower ho0 (below_size (pH_ HB.out))); have n1_ := Aside0.mk (below_step (pH_ HB.out) hb); clear HB; have HO229 := n0_; have HB := n1_; clear n0_ n1_; (try clear hb); (try clear ho0); obtain ⟨Ao23, co23, eo23⟩ := Kd.R_slice HO229.out; subst eo23))
             go_ret2
             exact ⟨_, by first | rfl | (simp [errW_none, errW_some] <;> rfl) | (simp only [← hji19]; first | rfl | (simp [errW_none, errW_some] <;> rfl)) | (simp [*, errW_none, errW_some] <;> rfl), by first | exact Kd.S_nil _ _ _ _ _ | exact Kd.N_nil _ _ _ _ _ | exact Kd.V_nil _ _ _ _ _ | exact Kd.Q_nil _ _ _ _ _ | exact Kd.R_nil _ _ _ _ _, pH_ HB.out⟩
            ·
             rw [if_neg c21] at H; have c21b0 : decide (1 < (t227.length : Int)) = false := decide_eq_false c21; have c21b1 : decide (1 < t227.length) = false := decide_eq_false (by omega); clear c21; have H' := Aside0.mk H; clear H
             go_wp2_with (first | ((with_reducible refine gate_callee (f := 31) rfl ?_); refine goesL_ (some 77) rfl rfl Tryd.func31 (by kernel_rfl) rfl #[.slice A1 l1.length c1, .int .i64 x11_3, .int .i64 ji19] rfl (by (try simp only [List.map_toArray, List.map_cons, List.map_nil]); first | done | (simp only [hji19]; rfl) | rfl | (simp only [List.length_drop, List.length_take]; rfl)) ?_; (with_reducible refine (bitloftref42_gone.calls k3 _ _ l1 x11_3 ji19 t227 _ ?side1 ?side2 A20.out).mono ?_); (case side1 => repeat (first | exact (Kd.C_below HR1.out HB.out) | (with_reducible refine Kd.C_alloc ?_ _) | (with_reducible refine Kd.C_drewN ?_ _) | (with_reducible refine Kd.C_drew ?_))); (case side2 => exact HC1.out); rintro e w24 ⟨v228, rfl, ho0, hb⟩; refine ⟨_, rfl, ?_⟩; have n0_ := Aside0.mk (Kd.R_lower ho0 (below_size (pH_ HB.out))); have n1_ := Aside0.mk (below_step (pH_ HB.out) hb); clear HB; have HO229 := n0_; have HB := n1_; clear n0_ n1_; (try clear hb); (try clear ho0); obtain ⟨Ao25, co25, eo25⟩ := Kd.R_slice HO229.out; subst eo25))
             go_roundg k3
             case measure => have := HJ4.out; have := HK2.out; have := HK3.out; omega
             case rel => exact ⟨(wrap64 (x11_3 + a2)), (by first | rfl | (simp; done) | (simp [*]; done)), H', ⟨by have := HJ4.out; have := HK2.out; have := HK3.out; omega⟩, ⟨pH_ HB.out⟩⟩
           ·
            rw [if_neg c18] at H; have c18b0 : decide (x11_3 < (l0.length : Int)) = false := decide_eq_false c18; clear c18; have H' := Aside0.mk H; clear H
            go_wp2
            go_loopg [12, 13] k3 (fun kq v12 v13 w' => ∃ (x12_4 : List (List Int)) (x13_4 : Int), v13 = .int .i64 x13_4 ∧ Aside0 (bitloftref42_Recover.l2 kq l0 l1 a2 l3 x12_4 x13_4 = some (r1, r2)) ∧ Aside0 (kq ≤ k3) ∧ Aside0 (Kd.S (Kd.slice 5 (Kd.int .u8)) 23 w' w.heap.size (fun _ => True) v12 x12_4) ∧ Aside0 (Below w.heap.size w w'))
            case atStart => exact ⟨(([] : List (List Int))), (0), (by first | rfl | (simp; done) | (simp [*]; done)), H', ⟨Nat.le_refl _⟩, ⟨by first | exact Kd.S_nil _ _ _ _ _ | exact Kd.N_nil _ _ _ _ _ | exact Kd.V_nil _ _ _ _ _ | exact Kd.Q_nil _ _ _ _ _ | exact Kd.R_nil _ _ _ _ _⟩, ⟨pH_ HB.out⟩⟩
            case round =>
             clear H'
             try clear c1
             try clear q1
             try clear c2
             try clear p2
             try clear q2
             try clear hx2
             try clear c3
             try clear c6
             try clear c6b0
             try clear p6
             try clear c7
             try clear c7b0
             try clear c8
             try clear c9
             try clear c9b0
             try clear c9b1
             try clear c10
             try clear c10b0
             try clear c11
             try clear c11b0
             try clear c12
             try clear c12b0
             try clear q13
             try clear c14
             try clear c15
             try clear c15b0
             try clear c15b1
             try clear c16
             try clear c17
             try clear c17b0
             try clear c17b1
             try clear c18
             try clear c18b0
             try clear c21
             try clear c21b0
             try clear c21b1
             try clear c22
             try clear p22
             try clear q22
             try clear hx22
             try clear hx224_0
             try clear hx225_0
             try clear p2
             try clear p224
             try clear p225
             try clear p6
             try clear q1
             try clear q13
             try clear q2
             try clear q224
             try clear q225
             obtain ⟨x12_4, x13_4, rfl, HA, HK4, HO_12, HB⟩ := hrel
             cases gk with
             | zero => exact absurd HA.out (by simp [bitloftref42_Recover.l2])
             | succ k4 =>
              have H := HA.out; clear HA; simp only [bitloftref42_Recover.l2] at H
              by_cases c26 : x13_4 < (l0.length : Int)
              ·
               rw [if_pos c26] at H; have c26b0 : decide (x13_4 < (l0.length : Int)) = true := decide_eq_true c26; clear c26; obtain ⟨ji27, hji27⟩ : ∃ j_ : Int, (mn (wrap64 (x13_4 + a2)) (l0.length : Int)) = j_ := ⟨_, rfl⟩
               replace H : ((bitloftref42_gone.f k4 l1 x13_4 (ji27)).bind fun t230 => (bitloftref42_Recover.l3 k4 l0 l1 a2 l3 x12_4 x13_4 ji27 t230 x13_4)) = some (r1, r2) := by first | (rw [hji27] at H; exact H) | (simp only [hji27] at H ⊢; exact H)
               have hji27_ : (if (l0.length : Int) < (wrap64 (x13_4 + a2)) then (l0.length : Int) else (wrap64 (x13_4 + a2))) = ji27 := hji27; replace H := Option.bind_eq_some_iff.mp H; obtain ⟨t230, A280, H⟩ := H; replace H : (bitloftref42_Recover.l3 k4 l0 l1 a2 l3 x12_4 x13_4 ji27 t230 x13_4) = some (r1, r2) := H; have A28 := Aside0.mk A280; clear A280; have H' := Aside0.mk H; clear H
               go_wp2_with (first | ((with_reducible refine gate_callee (f := 31) rfl ?_); refine goesL_ (some 96) rfl rfl Tryd.func31 (by kernel_rfl) rfl #[.slice A1 l1.length c1, .int .i64 x13_4, .int .i64 ji27] rfl (by (try simp only [List.map_toArray, List.map_cons, List.map_nil]); first | done | (simp only [hji27]; rfl) | rfl | (simp only [List.length_drop, List.length_take]; rfl)) ?_; (with_reducible refine (bitloftref42_gone.calls k4 _ _ l1 x13_4 ji27 t230 _ ?side1 ?side2 A28.out).mono ?_); (case side1 => repeat (first | exact (Kd.C_below HR1.out HB.out) | (with_reducible refine Kd.C_alloc ?_ _) | (with_reducible refine Kd.C_drewN ?_ _) | (with_reducible refine Kd.C_drew ?_))); (case side2 => exact HC1.out); rintro e w29 ⟨v231, rfl, ho0, hb⟩; refine ⟨_, rfl, ?_⟩; have n0_ := Aside0.mk (Kd.S_below (by (with_reducible repeat (first | apply Kd.S_alloc | apply Kd.S_drewN | apply Kd.S_drew)); exact HO_12.out) hb); have n1_ := Aside0.mk (Kd.R_lower ho0 (below_size (pH_ HB.out))); have n2_ := Aside0.mk (below_step (pH_ HB.out) hb); clear HO_12; clear HB; have HO_12 := n0_; have HO232 := n1_; have HB := n2_; clear n0_ n1_ n2_; (try clear hb); (try clear ho0)))
               go_loopg [12, 16] k4 (fun kq v12 v16 w' => ∃ (x12_5 : List (List Int)) (x16_5 : Int), v16 = .int .i64 x16_5 ∧ Aside0 (bitloftref42_Recover.l3 kq l0 l1 a2 l3 x12_5 x13_4 ji27 t230 x16_5 = some (r1, r2)) ∧ Aside0 (kq ≤ k4) ∧ Aside0 (Kd.S (Kd.slice 5 (Kd.int .u8)) 23 w' w.heap.size (fun _ => True) v12 x12_5) ∧ Aside0 (Kd.R (Kd.int .i64) 3 w' w.heap.size (fun _ => True) v231 t230) ∧ Aside0 (Below w.heap.size w w'))
               case atStart => exact ⟨(x12_4), (x13_4), (by first | rfl | (simp; done) | (simp [*]; done)), H', ⟨Nat.le_refl _⟩, ⟨by (with_reducible repeat (first | apply Kd.S_alloc | apply Kd.S_drewN | apply Kd.S_drew)); exact HO_12.out⟩, ⟨pL_ HO232.out⟩, ⟨pH_ HB.out⟩⟩
               case round =>
                clear H'
                try clear c1
                try clear q1
                try clear c2
                try clear p2
                try clear q2
                try clear hx2
                try clear c3
                try clear c6
                try clear c6b0
                try clear p6
                try clear c7
                try clear c7b0
                try clear c8
                try clear c9
                try clear c9b0
                try clear c9b1
                try clear c10
                try clear c10b0
                try clear c11
                try clear c11b0
                try clear c12
                try clear c12b0
                try clear q13
                try clear c14
                try clear c15
                try clear c15b0
                try clear c15b1
                try clear c16
                try clear c17
                try clear c17b0
                try clear c17b1
                try clear c18
                try clear c18b0
                try clear c21
                try clear c21b0
                try clear c21b1
                try clear c22
                try clear p22
                try clear q22
                try clear hx22
                try clear c26
                try clear c26b0
                try clear hx224_0
                try clear hx225_0
                try clear p2
                try clear p22
                try clear p224
                try clear p225
                try clear p6
                try clear q1
                try clear q13
                try clear q2
                try clear q22
                try clear q224
                try clear q225
                obtain ⟨x12_5, x16_5, rfl, HA, HK5, HO_12, HO_15, HB⟩ := hrel
                cases gk with
                | zero => exact absurd HA.out (by simp [bitloftref42_Recover.l3])
                | succ k5 =>
                 have H := HA.out; clear HA; simp only [bitloftref42_Recover.l3] at H
                 by_cases c30 : x16_5 < ji27
                 ·
                  rw [if_pos c30] at H; have c30b0 : decide (x16_5 < ji27) = true := decide_eq_true c30; clear c30; obtain ⟨y233, hy233⟩ : ∃ y_ : List Int, y_ = (([] : List Int)) := ⟨_, rfl⟩
                  replace H : (if 0 ≤ x16_5 then (if x16_5 < (l0.length : Int) then (if y233.length + (rd_L1 l0 x16_5).length < 140737488355328 then ((some (y233 ++ (rd_L1 l0 x16_5) : List Int)).bind fun y237 => (if (t230.length : Int) > 0 then (if 0 < (t230.length : Int) then (bitloftref42_Recover.j5 k5 l0 l1 a2 l3 x12_5 x13_4 ji27 t230 x16_5 y237 (x16_5 == (rd t230 0))) else (none)) else (bitloftref42_Recover.j5 k5 l0 l1 a2 l3 x12_5 x13_4 ji27 t230 x16_5 y237 false))) else (none)) else (none)) else (none)) = some (r1, r2) := by first | (rw [hy233]; with_reducible exact H) | (have H2_ := (Option.bind_some _ _).symm.trans H; rw [hy233]; with_reducible exact H2_) | (have H2_ := (Option.bind_some _ _).symm.trans H; with_reducible exact H2_) | with_reducible exact H | (rw [hy233]; exact H) | exact H
                  have Ny233 := Aside0.mk hy233; clear hy233
                  by_cases c31 : 0 ≤ x16_5
                  ·
                   rw [if_pos c31] at H; have c31b0 : decide (0 ≤ x16_5) = true := decide_eq_true c31; clear c31
                   by_cases c32 : x16_5 < (l0.length : Int)
                   ·
                    rw [if_pos c32] at H; have c32b0 : decide (x16_5 < (l0.length : Int)) = true := decide_eq_true c32; clear c32
                    by_cases c33 : y233.length + (rd_L1 l0 x16_5).length < 140737488355328
                    ·
                     rw [if_pos c33] at H; have LMc33 := Aside0.mk c33; clear c33; obtain ⟨y237, hy237⟩ : ∃ y_ : List Int, y_ = (y233 ++ (rd_L1 l0 x16_5)) := ⟨_, rfl⟩
                     replace H : (if (t230.length : Int) > 0 then (if 0 < (t230.length : Int) then (bitloftref42_Recover.j5 k5 l0 l1 a2 l3 x12_5 x13_4 ji27 t230 x16_5 y237 (x16_5 == (rd t230 0))) else (none)) else (bitloftref42_Recover.j5 k5 l0 l1 a2 l3 x12_5 x13_4 ji27 t230 x16_5 y237 false)) = some (r1, r2) := by first | (rw [hy237]; with_reducible exact H) | (have H2_ := (Option.bind_some _ _).symm.trans H; rw [hy237]; with_reducible exact H2_) | (have H2_ := (Option.bind_some _ _).symm.trans H; with_reducible exact H2_) | with_reducible exact H | (rw [hy237]; exact H) | exact H
                     have Ny237 := Aside0.mk hy237; clear hy237; have HC34 := Aside0.mk H; clear H
                     go_upto_region 27 with (first | ((with_reducible refine gate_dst (N := 103) rfl ?_); (try (refine gate_guard (by rfl) ?_; dsimp only)); refine Kd.R_lit (Kd.int .u8) _ 5 ?hg (N := 103) ?hd (xs := ([] : List Int)) (inner := []) (ok := fun _ => True) (okp := fun _ => True) ?hr ?hp (fun _ hk => hk) trivial (Below.refl _ _) (Nat.le_refl _) (by simp) ?_; (case hd => rfl); (case hg => rfl); (case hr => first | (go_simp; done) | (go_simp; rfl)); (case hp => exact (Reps.none _ _)); intro v234 w35 ho36 hb hg_ hnew_; clear hg_ hnew_; (first | rw [← Ny233.out] at ho36 | (simp only [Int.reduceToNat] at ho36; rw [← Ny233.out] at ho36)); have n0_ := Aside0.mk (Kd.S_elder' (by (with_reducible repeat (first | apply Kd.S_alloc | apply Kd.S_drewN | apply Kd.S_drew)); exact HO_12.out) (Kd.R_base ho36) hb); have n1_ := Aside0.mk (Kd.R_below (pL_ HO_15.out) hb); have n2_ := Aside0.mk (Kd.R_lower ho36 (below_size (pH_ HB.out))); have n3_ := Aside0.mk (below_step (pH_ HB.out) hb); clear HO_12; clear HO_15; clear HB; have HO_12 := n0_; have HO_15 := n1_; have HO235 := n2_; have HB := n3_; clear n0_ n1_ n2_ n3_; clear hb ho36; have p236 : 0 ≤ (x16_5 : Int) := of_decide_eq_true (by first | (with_reducible assumption) | assumption); have q236 : x16_5 < (l0.length : Int) := of_decide_eq_true (by first | (with_reducible assumption) | assumption); obtain ⟨ad236, A236_0, c236_0, e236, hx236_0, hl236_0, hi236_0⟩ := at_L1 HR0.out x16_5 p236 q236; cases e236; replace hx236_0 := (HB.out.cell (World.block_lt_of_cell? w _ hx236_0)).trans hx236_0; have HR236_0 := Aside0.mk hi236_0; have HC236_0 := Aside0.mk hl236_0; clear hi236_0 hl236_0; replace p236 := eq_true p236; replace q236 := eq_true q236) | ((with_reducible refine gate_builtin (b := .append) (xs := #[.tmp 103, .tmp 107]) rfl ?_); (try (refine gate_guard (by rfl) ?_; dsimp only)); at_builtin; refine Kd.R_append_rows (Kd.int .u8) (w0 := w) w.heap.size rfl (.tmp 103) (.tmp 107) 23 5 (.int .u8 0) 1 rfl Tryd.underlying23 info5 rfl (by decide) (by omega) v234 y233 (rd_L1 l0 x16_5) _ _ _ (fun _ => True) (fun _ => False) rfl rfl ?aO ?aR (fun _ _ h => h) (fun _ h => h.elim) ?aF ?aB ?aS ?aL ?_; (case aR => repeat (first | exact (Kd.C_below HR236_0.out HB.out) | (with_reducible refine Kd.C_alloc ?_ _) | (with_reducible refine Kd.C_drewN ?_ _) | (with_reducible refine Kd.C_drew ?_))); (case aB => exact (pH_ HB.out)); (case aF => exact (fun _ _ => trivial)); (case aO => exact (pL_ HO235.out)); (case aS => exact (below_size (pH_ HB.out))); (case aL => have := LMc33.out; omega); intro v238 w37 ho hb hg hat; (try simp only [Int.reduceToNat] at ho); rw [← Ny237.out] at ho; have n0_ := Aside0.mk (Kd.S_after (ok := (fun _ => True)) (by (with_reducible repeat (first | apply Kd.S_alloc | apply Kd.S_drewN | apply Kd.S_drew)); exact HO_12.out) hg hat); have n1_ := Aside0.mk (Kd.R_over' (pL_ HO_15.out) (Kd.R_typed (pL_ HO235.out)) (by decide) hg); have n2_ := Aside0.mk (hb); have n3_ := Aside0.mk (ho); clear HO_12; clear HO_15; clear HB; clear HO235; have HO_12 := n0_; have HO_15 := n1_; have HB := n2_; have HO239 := n3_; clear n0_ n1_ n2_ n3_; clear ho hb hg hat))
                     (try simp only [Act.put, sA_, sZ_, sS_]); (with_reducible first | refine then_id_ ?_ | (refine wp_tail_ ?_; intro Kt_ hKt_))
                     go_cut [118] (fun v118 wc => ∃ (kq : Nat) (x118_33 : Bool), v118 = .bool x118_33 ∧ Aside0 (bitloftref42_Recover.j5 kq l0 l1 a2 l3 x12_5 x13_4 ji27 t230 x16_5 y237 x118_33 = some (r1, r2)) ∧ Aside0 (kq ≤ k5) ∧ Aside0 (Kd.S (Kd.slice 5 (Kd.int .u8)) 23 wc w.heap.size (fun k_ => nO_ k_ v238) u12 x12_5) ∧ Aside0 (Kd.R (Kd.int .i64) 3 wc w.heap.size (fun _ => True) v231 t230) ∧ Aside0 (Kd.R (Kd.int .u8) 5 wc w.heap.size (fun _ => True) v238 y237) ∧ Aside0 (Below w.heap.size w wc))
                     case first =>
                      have H := HC34.out; clear HC34
                      by_cases c38 : (t230.length : Int) > 0
                      ·
                       rw [if_pos c38] at H; have c38b0 : decide (0 < (t230.length : Int)) = true := decide_eq_true c38; have c38b1 : decide (0 < t230.length) = true := decide_eq_true (by omega); clear c38; (first | rw [c38b0] | (simp only [i64_w, i32_w]; rw [c38b0]) | skip)
                       by_cases c39 : 0 < (t230.length : Int)
                       ·
                        rw [if_pos c39] at H; have c39b0 : decide (0 < (t230.length : Int)) = true := decide_eq_true c39; have c39b1 : decide (0 < t230.length) = true := decide_eq_true (by omega); clear c39; have H' := Aside0.mk H; clear H; obtain ⟨Ao40, co40, eo40⟩ := Kd.R_slice HO_15.out
                        subst eo40
                        have p240 : 0 ≤ (0 : Int) := (by omega); have q240 : 0 < (t230.length : Int) := of_decide_eq_true (by first | (with_reducible assumption) | assumption); obtain ⟨ad240, e240, hx240_0⟩ := Kd.at_int (Kd.R_reads' HO_15.out).2.2 0 p240 q240
                        cases e240
                        have qi240 : (0 < t230.length) = True := eq_true (by omega); (try rw [show ((0 : Int)).toNat = 0 from rfl] at hx240_0); (try rw [Addr.add_zero'] at hx240_0); replace p240 := eq_true p240; replace q240 := eq_true q240
                        go_wp2
                        (first | go_meet | (refine Met.intro ?_; go_step; (repeat apply Exists.intro); refine ⟨?rel, ?eqf_⟩; case eqf_ => ((simp only [c39b0, c38b0, c32b0, c31b0, c30b0]) <;> rfl)))
                        case rel => exact ⟨_, ((x16_5 == (rd t230 0))), (by first | rfl | (simp; done) | (simp [*]; done)), H', ⟨by have := HJ4.out; have := HK2.out; have := HK3.out; have := HK4.out; have := HK5.out; first | omega | exact Nat.le_refl _⟩, ⟨by (with_reducible repeat (first | apply Kd.S_alloc | apply Kd.S_drewN | apply Kd.S_drew)); exact Kd.S_mono HO_12.out (fun _ hk => hk.2)⟩, ⟨pL_ HO_15.out⟩, ⟨pL_ HO239.out⟩, ⟨pH_ HB.out⟩⟩
                       ·
                        rw [if_neg c39] at H; exact absurd H (by simp)
                      ·
                       rw [if_neg c38] at H; have c38b0 : decide (0 < (t230.length : Int)) = false := decide_eq_false c38; have c38b1 : decide (0 < t230.length) = false := decide_eq_false (by omega); clear c38; (first | rw [c38b0] | (simp only [i64_w, i32_w]; rw [c38b0]) | skip); have H' := Aside0.mk H; clear H; obtain ⟨Ao41, co41, eo41⟩ := Kd.R_slice HO_15.out
                       subst eo41
                       go_wp2
                       (first | go_meet | (refine Met.intro ?_; go_step; (repeat apply Exists.intro); refine ⟨?rel, ?eqf_⟩; case eqf_ => ((simp only [c38b0, c32b0, c31b0, c30b0]) <;> rfl)))
                       case rel => exact ⟨_, (false), (by first | rfl | (simp; done) | (simp [*]; done)), H', ⟨by have := HJ4.out; have := HK2.out; have := HK3.out; have := HK4.out; have := HK5.out; first | omega | exact Nat.le_refl _⟩, ⟨by (with_reducible repeat (first | apply Kd.S_alloc | apply Kd.S_drewN | apply Kd.S_drew)); exact Kd.S_mono HO_12.out (fun _ hk => hk.2)⟩, ⟨pL_ HO_15.out⟩, ⟨pL_ HO239.out⟩, ⟨pH_ HB.out⟩⟩
                     case rest =>
                      (try (refine hKt_ _ _ ?_; clear hKt_; clear Kt_)); clear HC34
                      try clear c1
                      try clear q1
                      try clear c2
                      try clear p2
                      try clear q2
                      try clear hx2
                      try clear qi2
                      try clear c3
                      try clear c6
                      try clear c6b0
                      try clear p6
                      try clear c7
                      try clear c7b0
                      try clear c8
                      try clear c9
                      try clear c9b0
                      try clear c9b1
                      try clear c10
                      try clear c10b0
                      try clear c11
                      try clear c11b0
                      try clear c12
                      try clear c12b0
                      try clear q13
                      try clear c14
                      try clear c15
                      try clear c15b0
                      try clear c15b1
                      try clear c16
                      try clear c17
                      try clear c17b0
                      try clear c17b1
                      try clear c18
                      try clear c18b0
                      try clear c21
                      try clear c21b0
                      try clear c21b1
                      try clear c22
                      try clear p22
                      try clear q22
                      try clear hx22
                      try clear c23
                      try clear p23
                      try clear q23
                      try clear hx23
                      try clear p24
                      try clear q24
                      try clear hx24
                      try clear qi24
                      try clear c26
                      try clear c26b0
                      try clear c30
                      try clear c30b0
                      try clear c31
                      try clear c31b0
                      try clear c32
                      try clear c32b0
                      try clear c33
                      try clear c38
                      try clear c38b0
                      try clear c38b1
                      try clear c39
                      try clear c39b0
                      try clear c39b1
                      try clear hx224_0
                      try clear hx225_0
                      try clear hx236_0
                      try clear hx240_0
                      try clear p2
                      try clear p22
                      try clear p224
                      try clear p225
                      try clear p236
                      try clear p240
                      try clear p6
                      try clear q1
                      try clear q13
                      try clear q2
                      try clear q22
                      try clear q224
                      try clear q225
                      try clear q236
                      try clear q240
                      obtain ⟨kq, x118_33, rfl, HA, HJ33, HO_12, HO_15, HO_17, HB⟩ := hcut
                      cases kq with
                      | zero => exact absurd HA.out (by simp [bitloftref42_Recover.j5])
                      | succ kj33 =>
                       have H := HA.out; clear HA; simp only [bitloftref42_Recover.j5] at H
                       by_cases c42 : x118_33 = true
                       ·
                        subst c42
                        have H1 : (if 0 ≤ x13_4 then (if x13_4 ≤ ji27 then (if ji27 ≤ (l0.length : Int) then (if a2 = 0 then (none) else (if 0 ≤ (wrap64 (Int.tdiv x13_4 a2)) then (if (wrap64 (Int.tdiv x13_4 a2)) < (l3.length : Int) then ((bitloftref42_Repair.f kj33 ((l0.take (ji27 : Int).toNat).drop (x13_4 : Int).toNat) (wrap64 (x16_5 - x13_4)) (rd_L1 l3 (wrap64 (Int.tdiv x13_4 a2)))).bind fun bt246 => (if bt246.2 = 0 then (if x12_5.length < 5864062014805 then (bitloftref42_Recover.l3 kj33 l0 l1 a2 l3 (x12_5 ++ [bt246.1]) x13_4 ji27 t230 (wrap64 (x16_5 + 1))) else (none)) else (some (([] : List (List Int)), bt246.2)))) else (none)) else (none))) else (none)) else (none)) else (none)) = some (r1, r2) := by rw [if_pos rfl] at H; exact H
                        clear H; have H := H1; clear H1
                        by_cases c43 : 0 ≤ x13_4
                        ·
                         rw [if_pos c43] at H; have c43b0 := eq_true c43; have c43b1 : decide (0 ≤ x13_4) = true := decide_eq_true c43; clear c43
                         by_cases c44 : x13_4 ≤ ji27
                         ·
                          rw [if_pos c44] at H; have c44b0 := eq_true c44; have c44b1 : decide (x13_4 ≤ ji27) = true := decide_eq_true c44; clear c44
                          by_cases c45 : ji27 ≤ (l0.length : Int)
                          ·
                           rw [if_pos c45] at H; have c45b0 := eq_true c45; have c45b1 : decide (ji27 ≤ (l0.length : Int)) = true := decide_eq_true c45; clear c45; obtain ⟨y241, hy241⟩ : ∃ y_ : List (List Int), y_ = ((l0.take (ji27 : Int).toNat).drop (x13_4 : Int).toNat) := ⟨_, rfl⟩
                           replace H : (if a2 = 0 then (none) else (if 0 ≤ (wrap64 (Int.tdiv x13_4 a2)) then (if (wrap64 (Int.tdiv x13_4 a2)) < (l3.length : Int) then ((bitloftref42_Repair.f kj33 y241 (wrap64 (x16_5 - x13_4)) (rd_L1 l3 (wrap64 (Int.tdiv x13_4 a2)))).bind fun bt246 => (if bt246.2 = 0 then (if x12_5.length < 5864062014805 then (bitloftref42_Recover.l3 kj33 l0 l1 a2 l3 (x12_5 ++ [bt246.1]) x13_4 ji27 t230 (wrap64 (x16_5 + 1))) else (none)) else (some (([] : List (List Int)), bt246.2)))) else (none)) else (none))) = some (r1, r2) := by first | (rw [hy241]; with_reducible exact H) | (have H2_ := (Option.bind_some _ _).symm.trans H; rw [hy241]; with_reducible exact H2_) | (have H2_ := (Option.bind_some _ _).symm.trans H; with_reducible exact H2_) | with_reducible exact H | (rw [hy241]; exact H) | exact H
                           have Ny241 := Aside0.mk hy241; clear hy241
                           by_cases c46 : a2 = 0
                           ·
                            rw [if_pos c46] at H; exact absurd H (by simp)
                           ·
                            rw [if_neg c46] at H; have c46b0 : (a2 == 0) = false := beq_eq_false_iff_ne.mpr c46; have c46b1 : (a2 != 0) = true := bne_iff_ne.mpr c46; obtain ⟨ji47, hji47⟩ : ∃ j_ : Int, (wrap64 (Int.tdiv x13_4 a2)) = j_ := ⟨_, rfl⟩
                            replace H : (if 0 ≤ (ji47) then (if (ji47) < (l3.length : Int) then ((bitloftref42_Repair.f kj33 y241 (wrap64 (x16_5 - x13_4)) (rd_L1 l3 (ji47))).bind fun bt246 => (if bt246.2 = 0 then (if x12_5.length < 5864062014805 then (bitloftref42_Recover.l3 kj33 l0 l1 a2 l3 (x12_5 ++ [bt246.1]) x13_4 ji27 t230 (wrap64 (x16_5 + 1))) else (none)) else (some (([] : List (List Int)), bt246.2)))) else (none)) else (none)) = some (r1, r2) := by first | (rw [hji47] at H; exact H) | (simp only [hji47] at H ⊢; exact H)
                            have hji47w : (IntKind.i64.wrap (Int.tdiv x13_4 a2)) = ji47 := (i64_w _).trans hji47
                            by_cases c48 : 0 ≤ (ji47)
                            ·
                             rw [if_pos c48] at H; have c48b0 : decide (0 ≤ (ji47)) = true := decide_eq_true c48; clear c48
                             by_cases c49 : (ji47) < (l3.length : Int)
                             ·
                              rw [if_pos c49] at H; have c49b0 : decide ((ji47) < (l3.length : Int)) = true := decide_eq_true c49; clear c49; replace H := Option.bind_eq_some_iff.mp H; obtain ⟨⟨t246, t247⟩, A500, H⟩ := H; replace H : (if t247 = 0 then (if x12_5.length < 5864062014805 then (bitloftref42_Recover.l3 kj33 l0 l1 a2 l3 (x12_5 ++ [t246]) x13_4 ji27 t230 (wrap64 (x16_5 + 1))) else (none)) else (some (([] : List (List Int)), t247))) = some (r1, r2) := H; have A50 := Aside0.mk A500; clear A500
                              by_cases c51 : t247 = 0
                              ·
                               rw [if_pos c51] at H; have c51b0 : (t247 == 0) = true := beq_iff_eq.mpr c51; have c51b1 : (t247 != 0) = false := bne_eq_false_iff_eq.mpr c51; clear c51
                               by_cases c52 : x12_5.length < 5864062014805
                               ·
                                rw [if_pos c52] at H; have LMc52 := Aside0.mk c52; clear c52; obtain ⟨y250, hy250⟩ : ∃ y_ : List (List Int), y_ = (x12_5 ++ [t246]) := ⟨_, rfl⟩
                                replace H : (bitloftref42_Recover.l3 kj33 l0 l1 a2 l3 y250 x13_4 ji27 t230 (wrap64 (x16_5 + 1))) = some (r1, r2) := by first | (rw [hy250]; with_reducible exact H) | (have H2_ := (Option.bind_some _ _).symm.trans H; rw [hy250]; with_reducible exact H2_) | (have H2_ := (Option.bind_some _ _).symm.trans H; with_reducible exact H2_) | with_reducible exact H | (rw [hy250]; exact H) | exact H
                                have Ny250 := Aside0.mk hy250; clear hy250; have H' := Aside0.mk H; clear H
                                try go_wp2
                                have n0_ := Aside0.mk (Kd.S_drew HO_12.out); have n1_ := Aside0.mk (Kd.R_drew HO_15.out); have n2_ := Aside0.mk (Kd.R_drew HO_17.out); have n3_ := Aside0.mk (below_drew1 HB.out); clear HO_12; clear HO_15; clear HO_17; clear HB; have HO_12 := n0_; have HO_15 := n1_; have HO_17 := n2_; have HB := n3_; clear n0_ n1_ n2_ n3_; have q54 : (ji27 : Int) ≤ ((l0.length : Int) : Int) := of_decide_eq_true (by first | (with_reducible assumption) | assumption); obtain ⟨i054, hi054, _, hsz54, _⟩ := info_parts info23; have hroom54 : l0.length ≤ c0 := HC0.out; have hC54 : Kd.C (Kd.slice 5 (Kd.int .u8)) _ (some ad236) l0.length l0 := HR0.out; have ql54 : (x13_4 : Int) ≤ (ji27 : Int) := of_decide_eq_true (by first | (with_reducible assumption) | assumption); have q054 : (0 : Int) ≤ (x13_4 : Int) := of_decide_eq_true (by first | (with_reducible assumption) | assumption); have hcut54 := cut_mid (P := Tryd.prog) 22 23 .i64 .i64 Tryd.underlying22 hi054 1 hsz54 (some ad236) l0.length c0 x13_4 ji27 q054 ql54 q54 hroom54; have hr54 := Kd.C_mid (lo := (x13_4 : Int).toNat) (hi := (ji27 : Int).toNat) (c := c0) hC54 (by omega) (by omega) hroom54; obtain ⟨A54, hA54⟩ : ∃ A1, A1 = (if c0 = (x13_4 : Int).toNat then (some ad236) else ((some ad236) : Option Addr).map (·.add ((x13_4 : Int).toNat * 1))) := ⟨_, rfl⟩; obtain ⟨c54, hc54⟩ : ∃ c1, c1 = c0 - (x13_4 : Int).toNat := ⟨_, rfl⟩; have hy54 : y241.length = (ji27 : Int).toNat - (x13_4 : Int).toNat := (by rw [Ny241.out, List.length_drop, List.length_take] <;> omega); rw [show ((l0).take (ji27 : Int).toNat).drop (x13_4 : Int).toNat = y241 from Ny241.out.symm] at hr54; replace hr54 : Kd.C (Kd.slice 5 (Kd.int .u8)) _ A54 y241.length y241 := (by rw [hA54]; exact hr54); rw [← hy54, ← hA54, ← hc54] at hcut54; have HR244 := Aside0.mk hr54; have HC244 := Aside0.mk (show y241.length ≤ c54 from by rw [hy54, hc54]; exact Nat.sub_le_sub_right (Nat.le_trans (by omega) hroom54) _); clear hr54 hC54 hroom54 hi054 hsz54 hc54; have KY54 := Aside0.mk hy54; have KA54 := Aside0.mk hA54; clear hy54 hA54; replace q54 := eq_true q54; have p245 : 0 ≤ ((ji47) : Int) := of_decide_eq_true (by first | (with_reducible assumption) | assumption); have q245 : (ji47) < (l3.length : Int) := of_decide_eq_true (by first | (with_reducible assumption) | assumption); obtain ⟨ad245, A245_0, c245_0, e245, hx245_0, hl245_0, hi245_0⟩ := at_L1 HR3.out (ji47) p245 q245; have hw245_0 := hx245_0
                                cases e245
                                replace hx245_0 := (HB.out.cell (World.block_lt_of_cell? w _ hx245_0)).trans hx245_0; have HR245_0 := Aside0.mk hi245_0; have HC245_0 := Aside0.mk hl245_0; clear hi245_0 hl245_0; replace p245 := eq_true p245; replace q245 := eq_true q245; refine start_ (n := 19) (S := fun w' => w'.cell? (ad245.add ((ji47)).toNat) = some (.slice A245_0 (rd_L1 l3 (ji47)).length c245_0)) (ds := []) #[f_, f_, f_, f_, f_, f_, f_, f_, f_, f_, f_, f_, f_, f_, f_, f_, f_, f_, f_] (by kernel_rfl) rfl rfl (((HB.out.cell (World.block_lt_of_cell? w _ hw245_0)).trans hw245_0)) (fun hHeld => ?_); refine with_tabW bitloftref42_Recover.tab28 bitloftref42_Recover.bits28 (fun HT_ HW_ => ?_)
                                generalize wc.drew = w53 at HO_12 HO_15 HO_17 HB HR244 HR245_0 hx245_0 hHeld ⊢
                                refine pure_ (i := 0) (N := some 120) (v := ?_) (a' := ?_) #[t_, f_, f_, f_, f_, f_, f_, f_, f_, f_, f_, f_, f_, f_, f_, f_, f_, f_, f_] rfl rfl (any_of HT_.out (by kernel_rfl)) (fun _ _ _ h => h) (Or.inl ⟨by rfl, ?_⟩) ?_ ?_; rotate_left
                                ·
                                 intro w'; go_simp
                                 with_reducible rfl
                                rotate_left
                                ·
                                 simp only [Act.put, sA_, sZ_, sS_, i64_w, i32_w]; rfl
                                refine pure_ (i := 1) (N := some 121) (v := ?_) (a' := ?_) #[t_, t_, f_, f_, f_, f_, f_, f_, f_, f_, f_, f_, f_, f_, f_, f_, f_, f_, f_] rfl rfl (any_of HT_.out (by kernel_rfl)) (fun _ _ _ h => h) (Or.inl ⟨by rfl, ?_⟩) ?_ ?_; rotate_left
                                ·
                                 intro w'; go_simp
                                 with_reducible rfl
                                rotate_left
                                ·
                                 simp only [Act.put, sA_, sZ_, sS_, i64_w, i32_w]; rfl
                                refine pure_ (i := 2) (N := some 122) (v := ?_) (a' := ?_) #[t_, t_, t_, f_, f_, f_, f_, f_, f_, f_, f_, f_, f_, f_, f_, f_, f_, f_, f_] rfl rfl (any_of HT_.out (by kernel_rfl)) (fun _ _ _ h => h) (Or.inl ⟨by rfl, ?_⟩) ?_ ?_; rotate_left
                                ·
                                 intro w'; go_simp
                                 with_reducible rfl
                                rotate_left
                                ·
                                 simp only [Act.put, sA_, sZ_, sS_, i64_w, i32_w]; rfl
                                refine pure_ (i := 3) (N := some 123) (v := ?_) (a' := ?_) #[t_, t_, t_, t_, f_, f_, f_, f_, f_, f_, f_, f_, f_, f_, f_, f_, f_, f_, f_] rfl rfl (any_of HT_.out (by kernel_rfl)) (fun _ _ _ h => h) (Or.inl ⟨by rfl, ?_⟩) ?_ ?_; rotate_left
                                ·
                                 intro w'; go_simp
                                 with_reducible rfl
                                rotate_left
                                ·
                                 simp only [Act.put, sA_, sZ_, sS_, i64_w, i32_w]; rfl
                                refine pure_ (i := 4) (N := some 124) (v := ?_) (a' := ?_) #[t_, t_, t_, t_, t_, f_, f_, f_, f_, f_, f_, f_, f_, f_, f_, f_, f_, f_, f_] rfl rfl (any_of HT_.out (by kernel_rfl)) (fun _ _ _ h => h) (Or.inl ⟨by rfl, ?_⟩) ?_ ?_; rotate_left
                                ·
                                 intro w'; go_simp
                                 with_reducible rfl
                                rotate_left
                                ·
                                 simp only [Act.put, sA_, sZ_, sS_, i64_w, i32_w]; rfl
                                refine pure_ (i := 5) (N := some 125) (v := ?_) (a' := ?_) #[t_, t_, t_, t_, t_, t_, f_, f_, f_, f_, f_, f_, f_, f_, f_, f_, f_, f_, f_] rfl rfl (any_of HT_.out (by kernel_rfl)) (fun _ _ _ h => h) (Or.inl ⟨by rfl, ?_⟩) ?_ ?_; rotate_left
                                ·
                                 intro w'; go_simp
                                 with_reducible rfl
                                rotate_left
                                ·
                                 simp only [Act.put, sA_, sZ_, sS_, i64_w, i32_w]; rfl
                                refine pure_ (i := 6) (N := some 126) (v := ?_) (a' := ?_) #[t_, t_, t_, t_, t_, t_, t_, f_, f_, f_, f_, f_, f_, f_, f_, f_, f_, f_, f_] rfl rfl (any_of HT_.out (by kernel_rfl)) (fun _ _ _ h => h) (Or.inl ⟨by rfl, ?_⟩) ?_ ?_; rotate_left
                                ·
                                 intro w'; go_simp
                                 with_reducible rfl
                                rotate_left
                                ·
                                 simp only [Act.put, sA_, sZ_, sS_, i64_w, i32_w]; rfl
                                refine pure_ (i := 7) (N := some 127) (v := ?_) (a' := ?_) #[t_, t_, t_, t_, t_, t_, t_, t_, f_, f_, f_, f_, f_, f_, f_, f_, f_, f_, f_] rfl rfl (any_of HT_.out (by kernel_rfl)) (fun _ _ _ h => h) (Or.inl ⟨by rfl, ?_⟩) ?_ ?_; rotate_left
                                ·
                                 intro w'; go_simp
                                 with_reducible rfl
                                rotate_left
                                ·
                                 simp only [Act.put, sA_, sZ_, sS_, i64_w, i32_w]; rfl
                                refine pure_ (i := 8) (N := some 128) (v := ?_) (a' := ?_) #[t_, t_, t_, t_, t_, t_, t_, t_, t_, f_, f_, f_, f_, f_, f_, f_, f_, f_, f_] rfl rfl (any_of HT_.out (by kernel_rfl)) (fun _ _ _ h => h) (Or.inl ⟨by rfl, ?_⟩) ?_ ?_; rotate_left
                                ·
                                 intro w'; go_simp
                                 with_reducible rfl
                                rotate_left
                                ·
                                 simp only [Act.put, sA_, sZ_, sS_, i64_w, i32_w]; rfl
                                refine pure_ (i := 9) (N := some 129) (v := ?_) (a' := ?_) #[t_, t_, t_, t_, t_, t_, t_, t_, t_, t_, f_, f_, f_, f_, f_, f_, f_, f_, f_] rfl rfl (any_of HT_.out (by kernel_rfl)) (fun _ _ _ h => h) (Or.inl ⟨by rfl, ?_⟩) ?_ ?_; rotate_left
                                ·
                                 intro w'; go_simp
                                 with_reducible rfl
                                rotate_left
                                ·
                                 simp only [Act.put, sA_, sZ_, sS_, i64_w, i32_w]; rfl
                                refine pure_ (i := 10) (N := some 130) (v := ?_) (a' := ?_) #[t_, t_, t_, t_, t_, t_, t_, t_, t_, t_, t_, f_, f_, f_, f_, f_, f_, f_, f_] rfl rfl (any_of HT_.out (by kernel_rfl)) (fun _ _ _ h => h) (Or.inl ⟨by rfl, ?_⟩) ?_ ?_; rotate_left
                                ·
                                 intro w'; go_simp
                                 with_reducible rfl
                                rotate_left
                                ·
                                 simp only [Act.put, sA_, sZ_, sS_, i64_w, i32_w]; rfl
                                refine pure_ (i := 11) (N := some 131) (v := ?_) (a' := ?_) #[t_, t_, t_, t_, t_, t_, t_, t_, t_, t_, t_, t_, f_, f_, f_, f_, f_, f_, f_] rfl rfl (any_of HT_.out (by kernel_rfl)) (fun _ _ _ h => h) (Or.inl ⟨by rfl, ?_⟩) ?_ ?_; rotate_left
                                ·
                                 intro w'; go_simp
                                 with_reducible rfl
                                rotate_left
                                ·
                                 simp only [Act.put, sA_, sZ_, sS_, i64_w, i32_w]; rfl
                                refine take_ (i := 12) (N := some 132) (v := ?_) (a' := ?_) #[t_, t_, t_, t_, t_, t_, t_, t_, t_, t_, t_, t_, t_, f_, f_, f_, f_, f_, f_] rfl rfl (take_ofW HT_.out HW_.out (by kernel_rfl)) (fun _ _ _ h => h) (Or.inl ⟨by rfl, ?_⟩) hHeld ?_ ?_; rotate_left
                                ·
                                 intro w' s0; go_simp
                                 with_reducible rfl
                                rotate_left
                                ·
                                 simp only [Act.put, sA_, sZ_, sS_, i64_w, i32_w]; rfl
                                refine one_ (i := 13) (N := some 133) #[t_, t_, t_, t_, t_, t_, t_, t_, t_, t_, t_, t_, t_, t_, f_, f_, f_, f_, f_] rfl rfl (one_of HT_.out (by kernel_rfl)) (by decide) (fun K hK => ?_); refine goes_ Tryd.func32 (by kernel_rfl) rfl #[.slice A54 y241.length c54, .int .i64 (wrap64 (x16_5 - x13_4)), .slice A245_0 (rd_L1 l3 (ji47)).length c245_0] (by rfl) rfl rfl (by (try simp only [List.map_toArray, List.map_cons, List.map_nil]); first | done | (simp only [hji47]; rfl) | rfl | (simp only [List.length_drop, List.length_take]; rfl)) ?_
                                with_reducible refine (bitloftref42_Repair.calls kj33 _ _ y241 (wrap64 (x16_5 - x13_4)) _ _ (rd_L1 l3 (ji47)) t246 t247 _ ?side1 ?side2 ?side3 ?side4 A50.out).mono ?_
                                (case side1 => repeat (first | exact (Kd.C_below HR244.out HB.out) | (with_reducible refine Kd.C_alloc ?_ _) | (with_reducible refine Kd.C_drewN ?_ _) | (with_reducible refine Kd.C_drew ?_))); (case side2 => exact HC244.out); (case side3 => repeat (first | exact (Kd.C_below HR245_0.out HB.out) | (with_reducible refine Kd.C_alloc ?_ _) | (with_reducible refine Kd.C_drewN ?_ _) | (with_reducible refine Kd.C_drew ?_))); (case side4 => exact HC245_0.out)
                                rintro e w55 ⟨v248, rfl, ho0, hb⟩
                                refine ⟨_, rfl, ?_⟩; have n0_ := Aside0.mk (Kd.S_elder' (by (with_reducible repeat (first | apply Kd.S_alloc | apply Kd.S_drewN | apply Kd.S_drew)); exact HO_12.out) (Kd.R_base ho0) hb); have n1_ := Aside0.mk (Kd.R_below (pL_ HO_15.out) hb); have n2_ := Aside0.mk (Kd.R_elder' (pL_ HO_17.out) (Kd.R_base ho0) hb); have n3_ := Aside0.mk (Kd.R_lower (Kd.R_new' ho0 (Kd.R_lt (pL_ HO_17.out))) (below_size (pH_ HB.out))); have n4_ := Aside0.mk (below_step (pH_ HB.out) hb); clear HO_12; clear HO_15; clear HO_17; clear HB; have HO_12 := n0_; have HO_15 := n1_; have HO_17 := n2_; have HO249 := n3_; have HB := n4_; clear n0_ n1_ n2_ n3_ n4_; (try clear hb); (try clear hb2); (try clear hk); (try clear hi); (try clear ho0); refine hK.out _ _ (((HB.out.cell (World.block_lt_of_cell? w _ hw245_0)).trans hw245_0)) (fun hHeld => ?_); clear hK K; refine norm_ (a' := ?_) ?_ ?_; rotate_left
                                ·
                                 show Act.put _ (some 133) _ = _
                                 simp only [Act.put, sA_, sZ_, sS_, i64_w, i32_w]; rfl
                                refine pure_ (i := 14) (N := some 119) (v := ?_) (a' := ?_) #[t_, t_, t_, t_, t_, t_, t_, t_, t_, t_, t_, t_, t_, t_, t_, f_, f_, f_, f_] rfl rfl (any_of HT_.out (by kernel_rfl)) (fun _ _ _ h => h) (Or.inl ⟨by rfl, ?_⟩) ?_ ?_; rotate_left
                                ·
                                 intro w'; go_simp
                                 with_reducible rfl
                                rotate_left
                                ·
                                 simp only [Act.put, sA_, sZ_, sS_, i64_w, i32_w]; rfl
                                refine pure_ (i := 15) (N := some 134) (v := ?_) (a' := ?_) #[t_, t_, t_, t_, t_, t_, t_, t_, t_, t_, t_, t_, t_, t_, t_, t_, f_, f_, f_] rfl rfl (any_of HT_.out (by kernel_rfl)) (fun _ _ _ h => h) (Or.inl ⟨by rfl, ?_⟩) ?_ ?_; rotate_left
                                ·
                                 intro w'; go_simp
                                 with_reducible rfl
                                rotate_left
                                ·
                                 simp only [Act.put, sA_, sZ_, sS_, i64_w, i32_w]; rfl
                                refine pure_ (i := 16) (N := some 135) (v := ?_) (a' := ?_) #[t_, t_, t_, t_, t_, t_, t_, t_, t_, t_, t_, t_, t_, t_, t_, t_, t_, f_, f_] rfl rfl (any_of HT_.out (by kernel_rfl)) (fun _ _ _ h => h) (Or.inl ⟨by rfl, ?_⟩) ?_ ?_; rotate_left
                                ·
                                 intro w'; go_simp
                                 with_reducible rfl
                                rotate_left
                                ·
                                 simp only [Act.put, sA_, sZ_, sS_, i64_w, i32_w]; rfl
                                refine pure_ (i := 17) (N := some 18) (v := ?_) (a' := ?_) #[t_, t_, t_, t_, t_, t_, t_, t_, t_, t_, t_, t_, t_, t_, t_, t_, t_, t_, f_] rfl rfl (any_of HT_.out (by kernel_rfl)) (fun _ _ _ h => h) (Or.inl ⟨by rfl, ?_⟩) ?_ ?_; rotate_left
                                ·
                                 intro w'; go_simp
                                 with_reducible rfl
                                rotate_left
                                ·
                                 simp only [Act.put, sA_, sZ_, sS_, i64_w, i32_w]; rfl
                                refine pure_ (i := 18) (N := some 19) (v := ?_) (a' := ?_) #[t_, t_, t_, t_, t_, t_, t_, t_, t_, t_, t_, t_, t_, t_, t_, t_, t_, t_, t_] rfl rfl (any_of HT_.out (by kernel_rfl)) (fun _ _ _ h => h) (Or.inl ⟨by rfl, ?_⟩) ?_ ?_; rotate_left
                                ·
                                 intro w'; go_simp
                                 with_reducible rfl
                                rotate_left
                                ·
                                 simp only [Act.put, sA_, sZ_, sS_, i64_w, i32_w]; rfl
                                refine done_ (done_of HT_.out (by kernel_rfl)) ?_; obtain ⟨Ao57, co57, eo57⟩ := Kd.R_slice HO249.out
                                subst eo57
                                try go_wp2_with (first | ((with_reducible refine gate_builtin (b := .append) (xs := #[.tmp 140, .tmp 142]) rfl ?_); (try (refine gate_guard (by rfl) ?_; dsimp only)); at_builtin; refine Kd.S_append (Kd.slice 5 (Kd.int .u8)) (w0 := w) w.heap.size rfl (.tmp 140) (.tmp 142) 22 23 (.slice none 0 0) 24 rfl Tryd.underlying22 info23 rfl (by decide) (by omega) u12 x12_5 t246 [.slice Ao57 t246.length co57] (fun k_ => nO_ k_ v238) (fun k_ => some k_ = (.slice Ao57 t246.length co57 : Value).ownBlock) rfl rfl ?aP (fun k_ hk_ => ((Kd.R_mono (ok' := fun k_ => ((fun k_ => nO_ k_ v238)) k_ ∧ nO_ k_ u12) (Kd.R_apart' (HO249.out) (Kd.S_typed HO_12.out) (by decide)) (fun k_ hk => ⟨hk.1.2, hk.2⟩))).1 k_ hk_.symm) ?aF ?aO ?aB ?aS ?aL ?_; (case aP => exact Kd.M_row (Kd.R_mono (Kd.R_tight rfl (Kd.R_mono (ok' := fun k_ => ((fun k_ => nO_ k_ v238)) k_ ∧ nO_ k_ u12) (Kd.R_apart' (HO249.out) (Kd.S_typed HO_12.out) (by decide)) (fun k_ hk => ⟨hk.1.2, hk.2⟩))) (fun _ h_ => h_))); (case aB => exact (pH_ HB.out)); (case aF => exact (fun k_ hk => Kd.fresh' (Kd.R_lt (pL_ HO_17.out)) k_ hk)); (case aO => exact (by (with_reducible repeat (first | apply Kd.S_alloc | apply Kd.S_drewN | apply Kd.S_drew)); exact Kd.S_mono HO_12.out (fun k_ hk => ⟨hk.1, fun e_ => hk.2 e_⟩))); (case aS => exact (below_size (pH_ HB.out))); (case aL => have := LMc52.out; omega); intro v251 w56 ho hb hg hat; (try simp only [Int.reduceToNat] at ho); rw [← Ny250.out] at ho; have n0_ := Aside0.mk (Kd.R_over' (pL_ HO_15.out) (Kd.S_typed (by (with_reducible repeat (first | apply Kd.S_alloc | apply Kd.S_drewN | apply Kd.S_drew)); exact HO_12.out)) (by decide) hg); have n1_ := Aside0.mk (Kd.R_over' (pL_ HO_17.out) (Kd.S_typed (by (with_reducible repeat (first | apply Kd.S_alloc | apply Kd.S_drewN | apply Kd.S_drew)); exact HO_12.out)) (by decide) hg); have n2_ := Aside0.mk (hb); have n3_ := Aside0.mk (ho); clear HO_15; clear HO_17; clear HB; clear HO_12; clear HO249; have HO_15 := n0_; have HO_17 := n1_; have HB := n2_; have HO252 := n3_; clear n0_ n1_ n2_ n3_; clear ho hb hg hat))
                                go_roundg kj33
                                case measure => have := HJ4.out; have := HK2.out; have := HK3.out; have := HK4.out; have := HK5.out; have := HJ33.out; omega
                                case rel => exact ⟨(y250), (wrap64 (x16_5 + 1)), (by first | rfl | (simp; done) | (simp [*]; done)), H', ⟨by have := HJ4.out; have := HK2.out; have := HK3.out; have := HK4.out; have := HK5.out; have := HJ33.out; omega⟩, ⟨by (with_reducible repeat (first | apply Kd.S_alloc | apply Kd.S_drewN | apply Kd.S_drew)); exact Kd.S_mono HO252.out (fun _ hk => trivial)⟩, ⟨pL_ HO_15.out⟩, ⟨pH_ HB.out⟩⟩
                               ·
                                rw [if_neg c52] at H; exact absurd H (by simp)
                              ·
                               rw [if_neg c51] at H; have c51b0 : (t247 == 0) = false := beq_eq_false_iff_ne.mpr c51; have c51b1 : (t247 != 0) = true := bne_iff_ne.mpr c51; simp only [Option.some.injEq, Prod.mk.injEq] at H; obtain ⟨rfl, rfl⟩ := H
                               try go_wp2
                               have n0_ := Aside0.mk (Kd.S_drew HO_12.out); have n1_ := Aside0.mk (Kd.R_drew HO_15.out); have n2_ := Aside0.mk (Kd.R_drew HO_17.out); have n3_ := Aside0.mk (below_drew1 HB.out); clear HO_12; clear HO_15; clear HO_17; clear HB; have HO_12 := n0_; have HO_15 := n1_; have HO_17 := n2_; have HB := n3_; clear n0_ n1_ n2_ n3_; have q59 : (ji27 : Int) ≤ ((l0.length : Int) : Int) := of_decide_eq_true (by first | (with_reducible assumption) | assumption); obtain ⟨i059, hi059, _, hsz59, _⟩ := info_parts info23; have hroom59 : l0.length ≤ c0 := HC0.out; have hC59 : Kd.C (Kd.slice 5 (Kd.int .u8)) _ (some ad236) l0.length l0 := HR0.out; have ql59 : (x13_4 : Int) ≤ (ji27 : Int) := of_decide_eq_true (by first | (with_reducible assumption) | assumption); have q059 : (0 : Int) ≤ (x13_4 : Int) := of_decide_eq_true (by first | (with_reducible assumption) | assumption); have hcut59 := cut_mid (P := Tryd.prog) 22 23 .i64 .i64 Tryd.underlying22 hi059 1 hsz59 (some ad236) l0.length c0 x13_4 ji27 q059 ql59 q59 hroom59; have hr59 := Kd.C_mid (lo := (x13_4 : Int).toNat) (hi := (ji27 : Int).toNat) (c := c0) hC59 (by omega) (by omega) hroom59; obtain ⟨A59, hA59⟩ : ∃ A1, A1 = (if c0 = (x13_4 : Int).toNat then (some ad236) else ((some ad236) : Option Addr).map (·.add ((x13_4 : Int).toNat * 1))) := ⟨_, rfl⟩; obtain ⟨c59, hc59⟩ : ∃ c1, c1 = c0 - (x13_4 : Int).toNat := ⟨_, rfl⟩; have hy59 : y241.length = (ji27 : Int).toNat - (x13_4 : Int).toNat := (by rw [Ny241.out, List.length_drop, List.length_take] <;> omega); rw [show ((l0).take (ji27 : Int).toNat).drop (x13_4 : Int).toNat = y241 from Ny241.out.symm] at hr59; replace hr59 : Kd.C (Kd.slice 5 (Kd.int .u8)) _ A59 y241.length y241 := (by rw [hA59]; exact hr59); rw [← hy59, ← hA59, ← hc59] at hcut59; have HR244 := Aside0.mk hr59; have HC244 := Aside0.mk (show y241.length ≤ c59 from by rw [hy59, hc59]; exact Nat.sub_le_sub_right (Nat.le_trans (by omega) hroom59) _); clear hr59 hC59 hroom59 hi059 hsz59 hc59; have KY59 := Aside0.mk hy59; have KA59 := Aside0.mk hA59; clear hy59 hA59; replace q59 := eq_true q59; have p245 : 0 ≤ ((ji47) : Int) := of_decide_eq_true (by first | (with_reducible assumption) | assumption); have q245 : (ji47) < (l3.length : Int) := of_decide_eq_true (by first | (with_reducible assumption) | assumption); obtain ⟨ad245, A245_0, c245_0, e245, hx245_0, hl245_0, hi245_0⟩ := at_L1 HR3.out (ji47) p245 q245; have hw245_0 := hx245_0
                               cases e245
                               replace hx245_0 := (HB.out.cell (World.block_lt_of_cell? w _ hx245_0)).trans hx245_0; have HR245_0 := Aside0.mk hi245_0; have HC245_0 := Aside0.mk hl245_0; clear hi245_0 hl245_0; replace p245 := eq_true p245; replace q245 := eq_true q245; refine start_ (n := 19) (S := fun w' => w'.cell? (ad245.add ((ji47)).toNat) = some (.slice A245_0 (rd_L1 l3 (ji47)).length c245_0)) (ds := []) #[f_, f_, f_, f_, f_, f_, f_, f_, f_, f_, f_, f_, f_, f_, f_, f_, f_, f_, f_] (by kernel_rfl) rfl rfl (((HB.out.cell (World.block_lt_of_cell? w _ hw245_0)).trans hw245_0)) (fun hHeld => ?_); refine with_tabW bitloftref42_Recover.tab28 bitloftref42_Recover.bits28 (fun HT_ HW_ => ?_)
                               generalize wc.drew = w58 at HO_12 HO_15 HO_17 HB HR244 HR245_0 hx245_0 hHeld ⊢
                               refine pure_ (i := 0) (N := some 120) (v := ?_) (a' := ?_) #[t_, f_, f_, f_, f_, f_, f_, f_, f_, f_, f_, f_, f_, f_, f_, f_, f_, f_, f_] rfl rfl (any_of HT_.out (by kernel_rfl)) (fun _ _ _ h => h) (Or.inl ⟨by rfl, ?_⟩) ?_ ?_; rotate_left
                               ·
                                intro w'; go_simp
                                with_reducible rfl
                               rotate_left
                               ·
                                simp only [Act.put, sA_, sZ_, sS_, i64_w, i32_w]; rfl
                               refine pure_ (i := 1) (N := some 121) (v := ?_) (a' := ?_) #[t_, t_, f_, f_, f_, f_, f_, f_, f_, f_, f_, f_, f_, f_, f_, f_, f_, f_, f_] rfl rfl (any_of HT_.out (by kernel_rfl)) (fun _ _ _ h => h) (Or.inl ⟨by rfl, ?_⟩) ?_ ?_; rotate_left
                               ·
                                intro w'; go_simp
                                with_reducible rfl
                               rotate_left
                               ·
                                simp only [Act.put, sA_, sZ_, sS_, i64_w, i32_w]; rfl
                               refine pure_ (i := 2) (N := some 122) (v := ?_) (a' := ?_) #[t_, t_, t_, f_, f_, f_, f_, f_, f_, f_, f_, f_, f_, f_, f_, f_, f_, f_, f_] rfl rfl (any_of HT_.out (by kernel_rfl)) (fun _ _ _ h => h) (Or.inl ⟨by rfl, ?_⟩) ?_ ?_; rotate_left
                               ·
                                intro w'; go_simp
                                with_reducible rfl
                               rotate_left
                               ·
                                simp only [Act.put, sA_, sZ_, sS_, i64_w, i32_w]; rfl
                               refine pure_ (i := 3) (N := some 123) (v := ?_) (a' := ?_) #[t_, t_, t_, t_, f_, f_, f_, f_, f_, f_, f_, f_, f_, f_, f_, f_, f_, f_, f_] rfl rfl (any_of HT_.out (by kernel_rfl)) (fun _ _ _ h => h) (Or.inl ⟨by rfl, ?_⟩) ?_ ?_; rotate_left
                               ·
                                intro w'; go_simp
                                with_reducible rfl
                               rotate_left
                               ·
                                simp only [Act.put, sA_, sZ_, sS_, i64_w, i32_w]; rfl
                               refine pure_ (i := 4) (N := some 124) (v := ?_) (a' := ?_) #[t_, t_, t_, t_, t_, f_, f_, f_, f_, f_, f_, f_, f_, f_, f_, f_, f_, f_, f_] rfl rfl (any_of HT_.out (by kernel_rfl)) (fun _ _ _ h => h) (Or.inl ⟨by rfl, ?_⟩) ?_ ?_; rotate_left
                               ·
                                intro w'; go_simp
                                with_reducible rfl
                               rotate_left
                               ·
                                simp only [Act.put, sA_, sZ_, sS_, i64_w, i32_w]; rfl
                               refine pure_ (i := 5) (N := some 125) (v := ?_) (a' := ?_) #[t_, t_, t_, t_, t_, t_, f_, f_, f_, f_, f_, f_, f_, f_, f_, f_, f_, f_, f_] rfl rfl (any_of HT_.out (by kernel_rfl)) (fun _ _ _ h => h) (Or.inl ⟨by rfl, ?_⟩) ?_ ?_; rotate_left
                               ·
                                intro w'; go_simp
                                with_reducible rfl
                               rotate_left
                               ·
                                simp only [Act.put, sA_, sZ_, sS_, i64_w, i32_w]; rfl
                               refine pure_ (i := 6) (N := some 126) (v := ?_) (a' := ?_) #[t_, t_, t_, t_, t_, t_, t_, f_, f_, f_, f_, f_, f_, f_, f_, f_, f_, f_, f_] rfl rfl (any_of HT_.out (by kernel_rfl)) (fun _ _ _ h => h) (Or.inl ⟨by rfl, ?_⟩) ?_ ?_; rotate_left
                               ·
                                intro w'; go_simp
                                with_reducible rfl
                               rotate_left
                               ·
                                simp only [Act.put, sA_, sZ_, sS_, i64_w, i32_w]; rfl
                               refine pure_ (i := 7) (N := some 127) (v := ?_) (a' := ?_) #[t_, t_, t_, t_, t_, t_, t_, t_, f_, f_, f_, f_, f_, f_, f_, f_, f_, f_, f_] rfl rfl (any_of HT_.out (by kernel_rfl)) (fun _ _ _ h => h) (Or.inl ⟨by rfl, ?_⟩) ?_ ?_; rotate_left
                               ·
                                intro w'; go_simp
                                with_reducible rfl
                               rotate_left
                               ·
                                simp only [Act.put, sA_, sZ_, sS_, i64_w, i32_w]; rfl
                               refine pure_ (i := 8) (N := some 128) (v := ?_) (a' := ?_) #[t_, t_, t_, t_, t_, t_, t_, t_, t_, f_, f_, f_, f_, f_, f_, f_, f_, f_, f_] rfl rfl (any_of HT_.out (by kernel_rfl)) (fun _ _ _ h => h) (Or.inl ⟨by rfl, ?_⟩) ?_ ?_; rotate_left
                               ·
                                intro w'; go_simp
                                with_reducible rfl
                               rotate_left
                               ·
                                simp only [Act.put, sA_, sZ_, sS_, i64_w, i32_w]; rfl
                               refine pure_ (i := 9) (N := some 129) (v := ?_) (a' := ?_) #[t_, t_, t_, t_, t_, t_, t_, t_, t_, t_, f_, f_, f_, f_, f_, f_, f_, f_, f_] rfl rfl (any_of HT_.out (by kernel_rfl)) (fun _ _ _ h => h) (Or.inl ⟨by rfl, ?_⟩) ?_ ?_; rotate_left
                               ·
                                intro w'; go_simp
                                with_reducible rfl
                               rotate_left
                               ·
                                simp only [Act.put, sA_, sZ_, sS_, i64_w, i32_w]; rfl
                               refine pure_ (i := 10) (N := some 130) (v := ?_) (a' := ?_) #[t_, t_, t_, t_, t_, t_, t_, t_, t_, t_, t_, f_, f_, f_, f_, f_, f_, f_, f_] rfl rfl (any_of HT_.out (by kernel_rfl)) (fun _ _ _ h => h) (Or.inl ⟨by rfl, ?_⟩) ?_ ?_; rotate_left
                               ·
                                intro w'; go_simp
                                with_reducible rfl
                               rotate_left
                               ·
                                simp only [Act.put, sA_, sZ_, sS_, i64_w, i32_w]; rfl
                               refine pure_ (i := 11) (N := some 131) (v := ?_) (a' := ?_) #[t_, t_, t_, t_, t_, t_, t_, t_, t_, t_, t_, t_, f_, f_, f_, f_, f_, f_, f_] rfl rfl (any_of HT_.out (by kernel_rfl)) (fun _ _ _ h => h) (Or.inl ⟨by rfl, ?_⟩) ?_ ?_; rotate_left
                               ·
                                intro w'; go_simp
                                with_reducible rfl
                               rotate_left
                               ·
                                simp only [Act.put, sA_, sZ_, sS_, i64_w, i32_w]; rfl
                               refine take_ (i := 12) (N := some 132) (v := ?_) (a' := ?_) #[t_, t_, t_, t_, t_, t_, t_, t_, t_, t_, t_, t_, t_, f_, f_, f_, f_, f_, f_] rfl rfl (take_ofW HT_.out HW_.out (by kernel_rfl)) (fun _ _ _ h => h) (Or.inl ⟨by rfl, ?_⟩) hHeld ?_ ?_; rotate_left
                               ·
                                intro w' s0; go_simp
                                with_reducible rfl
                               rotate_left
                               ·
                                simp only [Act.put, sA_, sZ_, sS_, i64_w, i32_w]; rfl
                               refine one_ (i := 13) (N := some 133) #[t_, t_, t_, t_, t_, t_, t_, t_, t_, t_, t_, t_, t_, t_, f_, f_, f_, f_, f_] rfl rfl (one_of HT_.out (by kernel_rfl)) (by decide) (fun K hK => ?_); refine goes_ Tryd.func32 (by kernel_rfl) rfl #[.slice A59 y241.length c59, .int .i64 (wrap64 (x16_5 - x13_4)), .slice A245_0 (rd_L1 l3 (ji47)).length c245_0] (by rfl) rfl rfl (by (try simp only [List.map_toArray, List.map_cons, List.map_nil]); first | done | (simp only [hji47]; rfl) | rfl | (simp only [List.length_drop, List.length_take]; rfl)) ?_
                               with_reducible refine (bitloftref42_Repair.calls kj33 _ _ y241 (wrap64 (x16_5 - x13_4)) _ _ (rd_L1 l3 (ji47)) t246 t247 _ ?side1 ?side2 ?side3 ?side4 A50.out).mono ?_
                               (case side1 => repeat (first | exact (Kd.C_below HR244.out HB.out) | (with_reducible refine Kd.C_alloc ?_ _) | (with_reducible refine Kd.C_drewN ?_ _) | (with_reducible refine Kd.C_drew ?_))); (case side2 => exact HC244.out); (case side3 => repeat (first | exact (Kd.C_below HR245_0.out HB.out) | (with_reducible refine Kd.C_alloc ?_ _) | (with_reducible refine Kd.C_drewN ?_ _) | (with_reducible refine Kd.C_drew ?_))); (case side4 => exact HC245_0.out)
                               rintro e w60 ⟨v248, rfl, ho0, hb⟩
                               refine ⟨_, rfl, ?_⟩; have n0_ := Aside0.mk (Kd.S_elder' (by (with_reducible repeat (first | apply Kd.S_alloc | apply Kd.S_drewN | apply Kd.S_drew)); exact HO_12.out) (Kd.R_base ho0) hb); have n1_ := Aside0.mk (Kd.R_below (pL_ HO_15.out) hb); have n2_ := Aside0.mk (Kd.R_elder' (pL_ HO_17.out) (Kd.R_base ho0) hb); have n3_ := Aside0.mk (Kd.R_lower (Kd.R_new' ho0 (Kd.R_lt (pL_ HO_17.out))) (below_size (pH_ HB.out))); have n4_ := Aside0.mk (below_step (pH_ HB.out) hb); clear HO_12; clear HO_15; clear HO_17; clear HB; have HO_12 := n0_; have HO_15 := n1_; have HO_17 := n2_; have HO249 := n3_; have HB := n4_; clear n0_ n1_ n2_ n3_ n4_; (try clear hb); (try clear hb2); (try clear hk); (try clear hi); (try clear ho0); refine hK.out _ _ (((HB.out.cell (World.block_lt_of_cell? w _ hw245_0)).trans hw245_0)) (fun hHeld => ?_); clear hK K; refine norm_ (a' := ?_) ?_ ?_; rotate_left
                               ·
                                show Act.put _ (some 133) _ = _
                                simp only [Act.put, sA_, sZ_, sS_, i64_w, i32_w]; rfl
                               refine pure_ (i := 14) (N := some 119) (v := ?_) (a' := ?_) #[t_, t_, t_, t_, t_, t_, t_, t_, t_, t_, t_, t_, t_, t_, t_, f_, f_, f_, f_] rfl rfl (any_of HT_.out (by kernel_rfl)) (fun _ _ _ h => h) (Or.inl ⟨by rfl, ?_⟩) ?_ ?_; rotate_left
                               ·
                                intro w'; go_simp
                                with_reducible rfl
                               rotate_left
                               ·
                                simp only [Act.put, sA_, sZ_, sS_, i64_w, i32_w]; rfl
                               refine pure_ (i := 15) (N := some 134) (v := ?_) (a' := ?_) #[t_, t_, t_, t_, t_, t_, t_, t_, t_, t_, t_, t_, t_, t_, t_, t_, f_, f_, f_] rfl rfl (any_of HT_.out (by kernel_rfl)) (fun _ _ _ h => h) (Or.inl ⟨by rfl, ?_⟩) ?_ ?_; rotate_left
                               ·
                                intro w'; go_simp
                                with_reducible rfl
                               rotate_left
                               ·
                                simp only [Act.put, sA_, sZ_, sS_, i64_w, i32_w]; rfl
                               refine pure_ (i := 16) (N := some 135) (v := ?_) (a' := ?_) #[t_, t_, t_, t_, t_, t_, t_, t_, t_, t_, t_, t_, t_, t_, t_, t_, t_, f_, f_] rfl rfl (any_of HT_.out (by kernel_rfl)) (fun _ _ _ h => h) (Or.inl ⟨by rfl, ?_⟩) ?_ ?_; rotate_left
                               ·
                                intro w'; go_simp
                                with_reducible rfl
                               rotate_left
                               ·
                                simp only [Act.put, sA_, sZ_, sS_, i64_w, i32_w]; rfl
                               refine pure_ (i := 17) (N := some 18) (v := ?_) (a' := ?_) #[t_, t_, t_, t_, t_, t_, t_, t_, t_, t_, t_, t_, t_, t_, t_, t_, t_, t_, f_] rfl rfl (any_of HT_.out (by kernel_rfl)) (fun _ _ _ h => h) (Or.inl ⟨by rfl, ?_⟩) ?_ ?_; rotate_left
                               ·
                                intro w'; go_simp
                                with_reducible rfl
                               rotate_left
                               ·
                                simp only [Act.put, sA_, sZ_, sS_, i64_w, i32_w]; rfl
                               refine pure_ (i := 18) (N := some 19) (v := ?_) (a' := ?_) #[t_, t_, t_, t_, t_, t_, t_, t_, t_, t_, t_, t_, t_, t_, t_, t_, t_, t_, t_] rfl rfl (any_of HT_.out (by kernel_rfl)) (fun _ _ _ h => h) (Or.inl ⟨by rfl, ?_⟩) ?_ ?_; rotate_left
                               ·
                                intro w'; go_simp
                                with_reducible rfl
                               rotate_left
                               ·
                                simp only [Act.put, sA_, sZ_, sS_, i64_w, i32_w]; rfl
                               refine done_ (done_of HT_.out (by kernel_rfl)) ?_
                               try go_wp2
                               go_ret2
                               exact ⟨_, by first | rfl | (simp [errW_none, errW_some] <;> rfl) | (simp only [← hji27, ← hji47]; first | rfl | (simp [errW_none, errW_some] <;> rfl)) | (simp [*, errW_none, errW_some] <;> rfl), by first | exact Kd.S_nil _ _ _ _ _ | exact Kd.N_nil _ _ _ _ _ | exact Kd.V_nil _ _ _ _ _ | exact Kd.Q_nil _ _ _ _ _ | exact Kd.R_nil _ _ _ _ _, pH_ HB.out⟩
                             ·
                              rw [if_neg c49] at H; exact absurd H (by simp)
                            ·
                             rw [if_neg c48] at H; exact absurd H (by simp)
                          ·
                           rw [if_neg c45] at H; exact absurd H (by simp)
                         ·
                          rw [if_neg c44] at H; exact absurd H (by simp)
                        ·
                         rw [if_neg c43] at H; exact absurd H (by simp)
                       ·
                        replace c42 := Bool.eq_false_iff.mpr c42
                        subst c42
                        have H1 : (if x12_5.length < 5864062014805 then (bitloftref42_Recover.l3 kj33 l0 l1 a2 l3 (x12_5 ++ [y237]) x13_4 ji27 t230 (wrap64 (x16_5 + 1))) else (none)) = some (r1, r2) := by rw [if_neg (show ¬ (false = true) by decide)] at H; exact H
                        clear H; have H := H1; clear H1
                        by_cases c61 : x12_5.length < 5864062014805
                        ·
                         rw [if_pos c61] at H; have LMc61 := Aside0.mk c61; clear c61; obtain ⟨y253, hy253⟩ : ∃ y_ : List (List Int), y_ = (x12_5 ++ [y237]) := ⟨_, rfl⟩
                         replace H : (bitloftref42_Recover.l3 kj33 l0 l1 a2 l3 y253 x13_4 ji27 t230 (wrap64 (x16_5 + 1))) = some (r1, r2) := by first | (rw [hy253]; with_reducible exact H) | (have H2_ := (Option.bind_some _ _).symm.trans H; rw [hy253]; with_reducible exact H2_) | (have H2_ := (Option.bind_some _ _).symm.trans H; with_reducible exact H2_) | with_reducible exact H | (rw [hy253]; exact H) | exact H
                         have Ny253 := Aside0.mk hy253; clear hy253; have H' := Aside0.mk H; clear H; obtain ⟨Ao63, co63, eo63⟩ := Kd.R_slice HO_17.out
                         subst eo63
                         go_wp2_with (first | ((with_reducible refine gate_builtin (b := .append) (xs := #[.tmp 140, .tmp 142]) rfl ?_); (try (refine gate_guard (by rfl) ?_; dsimp only)); at_builtin; refine Kd.S_append (Kd.slice 5 (Kd.int .u8)) (w0 := w) w.heap.size rfl (.tmp 140) (.tmp 142) 22 23 (.slice none 0 0) 24 rfl Tryd.underlying22 info23 rfl (by decide) (by omega) u12 x12_5 y237 [.slice Ao63 y237.length co63] (fun _ => True) (fun k_ => some k_ = (.slice Ao63 y237.length co63 : Value).ownBlock) rfl rfl ?aP (fun k_ hk_ => ((Kd.R_mono (ok' := fun k_ => ((fun _ => True)) k_ ∧ nO_ k_ u12) (Kd.R_apart' (HO_17.out) (Kd.S_typed HO_12.out) (by decide)) (fun k_ hk => ⟨trivial, hk.2⟩))).1 k_ hk_.symm) ?aF ?aO ?aB ?aS ?aL ?_; (case aP => exact Kd.M_row (Kd.R_mono (Kd.R_tight rfl (Kd.R_mono (ok' := fun k_ => ((fun _ => True)) k_ ∧ nO_ k_ u12) (Kd.R_apart' (HO_17.out) (Kd.S_typed HO_12.out) (by decide)) (fun k_ hk => ⟨trivial, hk.2⟩))) (fun _ h_ => h_))); (case aB => exact (pH_ HB.out)); (case aF => exact (fun _ _ => trivial)); (case aO => exact (by (with_reducible repeat (first | apply Kd.S_alloc | apply Kd.S_drewN | apply Kd.S_drew)); exact Kd.S_mono HO_12.out (fun k_ hk => ⟨trivial, fun e_ => hk e_⟩))); (case aS => exact (below_size (pH_ HB.out))); (case aL => have := LMc61.out; omega); intro v254 w62 ho hb hg hat; (try simp only [Int.reduceToNat] at ho); rw [← Ny253.out] at ho; have n0_ := Aside0.mk (Kd.R_over' (pL_ HO_15.out) (Kd.S_typed (by (with_reducible repeat (first | apply Kd.S_alloc | apply Kd.S_drewN | apply Kd.S_drew)); exact HO_12.out)) (by decide) hg); have n1_ := Aside0.mk (hb); have n2_ := Aside0.mk (ho); clear HO_15; clear HB; clear HO_12; clear HO_17; have HO_15 := n0_; have HB := n1_; have HO255 := n2_; clear n0_ n1_ n2_; clear ho hb hg hat))
                         go_roundg kj33
                         case measure => have := HJ4.out; have := HK2.out; have := HK3.out; have := HK4.out; have := HK5.out; have := HJ33.out; omega
                         case rel => exact ⟨(y253), (wrap64 (x16_5 + 1)), (by first | rfl | (simp; done) | (simp [*]; done)), H', ⟨by have := HJ4.out; have := HK2.out; have := HK3.out; have := HK4.out; have := HK5.out; have := HJ33.out; omega⟩, ⟨by (with_reducible repeat (first | apply Kd.S_alloc | apply Kd.S_drewN | apply Kd.S_drew)); exact HO255.out⟩, ⟨pL_ HO_15.out⟩, ⟨pH_ HB.out⟩⟩
                        ·
                         rw [if_neg c61] at H; exact absurd H (by simp)
                    ·
                     rw [if_neg c33] at H; exact absurd H (by simp)
                   ·
                    rw [if_neg c32] at H; exact absurd H (by simp)
                  ·
                   rw [if_neg c31] at H; exact absurd H (by simp)
                 ·
                  rw [if_neg c30] at H; have c30b0 : decide (x16_5 < ji27) = false := decide_eq_false c30; clear c30; have H' := Aside0.mk H; clear H
                  go_wp2
                  go_roundg k5
                  case measure => have := HJ4.out; have := HK2.out; have := HK3.out; have := HK4.out; have := HK5.out; omega
                  case rel => exact ⟨(x12_5), (wrap64 (x13_4 + a2)), (by first | rfl | (simp; done) | (simp [*]; done)), H', ⟨by have := HJ4.out; have := HK2.out; have := HK3.out; have := HK4.out; have := HK5.out; omega⟩, ⟨by (with_reducible repeat (first | apply Kd.S_alloc | apply Kd.S_drewN | apply Kd.S_drew)); exact HO_12.out⟩, ⟨pH_ HB.out⟩⟩
              ·
               rw [if_neg c26] at H; have c26b0 : decide (x13_4 < (l0.length : Int)) = false := decide_eq_false c26; clear c26; simp only [Option.some.injEq, Prod.mk.injEq] at H; obtain ⟨rfl, rfl⟩ := H
               go_wp2
               go_ret2
               exact ⟨_, by first | rfl | (simp [errW_none, errW_some] <;> rfl) | (simp [*, errW_none, errW_some] <;> rfl), by (with_reducible repeat (first | apply Kd.S_alloc | apply Kd.S_drewN | apply Kd.S_drew)); exact HO_12.out, pH_ HB.out⟩
        ·
         rw [if_neg c17] at H; have c17b0 : ((l3.length : Int) == t226) = false := beq_eq_false_iff_ne.mpr c17; have c17b1 : ((l3.length : Int) != t226) = true := bne_iff_ne.mpr c17; simp only [Option.some.injEq, Prod.mk.injEq] at H; obtain ⟨rfl, rfl⟩ := H
         go_wp2_with (first | ((with_reducible refine gate_callee (f := 30) rfl ?_); refine gL_ (some 60) Tryd.func30 #[.int .i64 (l0.length : Int), .int .i64 a2] ?_; (with_reducible refine (bitloftref42_Groups.calls (l0.length : Int) a2 t226 _ A16.out).mono ?_); rintro e w' ⟨rfl, ⟨nd, rfl⟩⟩; refine ⟨_, rfl, ?_⟩))
         go_ret2
         exact ⟨_, by first | rfl | (simp [errW_none, errW_some] <;> rfl) | (simp [*, errW_none, errW_some] <;> rfl), by first | exact Kd.S_nil _ _ _ _ _ | exact Kd.N_nil _ _ _ _ _ | exact Kd.V_nil _ _ _ _ _ | exact Kd.Q_nil _ _ _ _ _ | exact Kd.R_nil _ _ _ _ _, pH_ HB.out⟩

end Go.Proofs.YtejamobohmljfaaDoor.XParityMends
