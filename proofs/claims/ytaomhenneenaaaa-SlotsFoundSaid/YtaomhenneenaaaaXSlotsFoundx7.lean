-- Laid by a program of this session (wip/mkxprint.py, over the kit's print): Lean checks it.
import Derived.Test.YtaomhenneenaaaaXSlotsFoundx0
import Derived.Test.YtaomhenneenaaaaXSlotsFoundx1
import Derived.Test.YtaomhenneenaaaaXSlotsFoundx3
import Derived.Test.YtaomhenneenaaaaXSlotsFoundx4
import Derived.Test.YtaomhenneenaaaaXSlotsFoundx6
namespace Go.Proofs.Ytaomhenneenaaaa.XSlotsFound
open List (setIfInBounds_toArray set_cons_zero set_cons_succ)
open Go.RowKit Go.Proofs.YtaomhenneenaaaaW.PrintWords Go.Proofs.YtaomhenneenaaaaW.PrintLast Go.Proofs.YtaomhenneenaaaaW.PrintMore
attribute [local go_sem] max2_int min2_int max_two min_two max_three min_three max_four min_four   -- for this text's walks alone
set_option linter.unusedVariables false
set_option linter.unusedSimpArgs false

attribute [local go_sem high] eqA42
/-! ### bitloftlaw11_SlotsFound: function 6 -/
mutual
def bitloftlaw11_SlotsFound.j0 : Nat → Int → Int → Int → Bool → Int → List (S42) → Int → List (S42) → Option (Bool)
 | 0, _, _, _, _, _, _, _, _ => none
 | k + 1, x6, x8, x10, x92, x233000, x233001, x242000, x242001 => if x92 = true then (some false) else ((bitloftref11_Beside.f x6).bind fun t246 => (if 0 ≤ x6 then (if x6 < (x233001.length : Int) then (bitloftlaw11_SlotsFound.l0 k x6 x8 x10 t246 (((rd_T42 x233001 x6).f0) == x10) 0 x233000 x233001 x242000 x242001) else (none)) else (none)))
def bitloftlaw11_SlotsFound.l0 : Nat → Int → Int → Int → Int → Bool → Int → Int → List (S42) → Int → List (S42) → Option (Bool)
 | 0, _, _, _, _, _, _, _, _, _, _ => none
 | k + 1, x6, x8, x10, x11, x12, x13, x233000, x233001, x242000, x242001 => if x13 < (x233001.length : Int) then (if x13 = x6 then (if x12 = true then (if 0 ≤ x13 then (if x13 < (x242001.length : Int) then (bitloftlaw11_SlotsFound.j2 k x6 x8 x10 x11 x12 x13 (!(((rd_T42 x242001 x13).f0) == ((rd_T42 x233001 x13).f0)) || ((!(((rd_T42 x242001 x13).f1.f0) == ((rd_T42 x233001 x13).f1.f0)) || (!(((rd_T42 x242001 x13).f1.f1) == ((rd_T42 x233001 x13).f1.f1)) || (!(((rd_T42 x242001 x13).f1.f2) == ((rd_T42 x233001 x13).f1.f2)) || (!(((rd_T42 x242001 x13).f1.f3) == ((rd_T42 x233001 x13).f1.f3)) || (!(((rd_T42 x242001 x13).f1.f4) == ((rd_T42 x233001 x13).f1.f4)) || (!(((rd_T42 x242001 x13).f1.f5) == ((rd_T42 x233001 x13).f1.f5)) || (!(((rd_T42 x242001 x13).f1.f6) == ((rd_T42 x233001 x13).f1.f6)) || (!(((rd_T42 x242001 x13).f1.f7) == ((rd_T42 x233001 x13).f1.f7)) || (!(((rd_T42 x242001 x13).f1.f8) == ((rd_T42 x233001 x13).f1.f8)) || (!(((rd_T42 x242001 x13).f1.f9) == ((rd_T42 x233001 x13).f1.f9)) || (!(((rd_T42 x242001 x13).f1.f10) == ((rd_T42 x233001 x13).f1.f10)) || (!(((rd_T42 x242001 x13).f1.f11) == ((rd_T42 x233001 x13).f1.f11)) || (!(((rd_T42 x242001 x13).f1.f12) == ((rd_T42 x233001 x13).f1.f12)) || (!(((rd_T42 x242001 x13).f1.f13) == ((rd_T42 x233001 x13).f1.f13)) || (!(((rd_T42 x242001 x13).f1.f14) == ((rd_T42 x233001 x13).f1.f14))))))))))))))))))) x233000 x233001 x242000 x242001) else (none)) else (none)) else (bitloftlaw11_SlotsFound.j2 k x6 x8 x10 x11 x12 x13 false x233000 x233001 x242000 x242001)) else (if 0 ≤ x13 then (if x13 < (x242001.length : Int) then (bitloftlaw11_SlotsFound.j2 k x6 x8 x10 x11 x12 x13 (!(((rd_T42 x242001 x13).f0) == ((rd_T42 x233001 x13).f0)) || ((!(((rd_T42 x242001 x13).f1.f0) == ((rd_T42 x233001 x13).f1.f0)) || (!(((rd_T42 x242001 x13).f1.f1) == ((rd_T42 x233001 x13).f1.f1)) || (!(((rd_T42 x242001 x13).f1.f2) == ((rd_T42 x233001 x13).f1.f2)) || (!(((rd_T42 x242001 x13).f1.f3) == ((rd_T42 x233001 x13).f1.f3)) || (!(((rd_T42 x242001 x13).f1.f4) == ((rd_T42 x233001 x13).f1.f4)) || (!(((rd_T42 x242001 x13).f1.f5) == ((rd_T42 x233001 x13).f1.f5)) || (!(((rd_T42 x242001 x13).f1.f6) == ((rd_T42 x233001 x13).f1.f6)) || (!(((rd_T42 x242001 x13).f1.f7) == ((rd_T42 x233001 x13).f1.f7)) || (!(((rd_T42 x242001 x13).f1.f8) == ((rd_T42 x233001 x13).f1.f8)) || (!(((rd_T42 x242001 x13).f1.f9) == ((rd_T42 x233001 x13).f1.f9)) || (!(((rd_T42 x242001 x13).f1.f10) == ((rd_T42 x233001 x13).f1.f10)) || (!(((rd_T42 x242001 x13).f1.f11) == ((rd_T42 x233001 x13).f1.f11)) || (!(((rd_T42 x242001 x13).f1.f12) == ((rd_T42 x233001 x13).f1.f12)) || (!(((rd_T42 x242001 x13).f1.f13) == ((rd_T42 x233001 x13).f1.f13)) || (!(((rd_T42 x242001 x13).f1.f14) == ((rd_T42 x233001 x13).f1.f14))))))))))))))))))) x233000 x233001 x242000 x242001) else (none)) else (none))) else (if x12 = true then (if x6 = x8 then ((bitloftlaw11_alive.f k).bind fun t252 => (bitloftlaw11_SlotsFound.j3 k t252)) else (if 0 ≤ x8 then (if x8 < (x233001.length : Int) then (if ((rd_T42 x233001 x8).f0) = x10 then (bitloftlaw11_SlotsFound.j3 k false) else ((bitloftlaw11_alive.f k).bind fun t254 => (bitloftlaw11_SlotsFound.j3 k t254))) else (none)) else (none))) else (if 0 ≤ x6 then (if x6 < (x233001.length : Int) then ((states_Total.f ((rd_T42 x233001 x6).f1.f0)).bind fun bt256 => (if 0 ≤ x11 then (if x11 < (x233001.length : Int) then ((states_Total.f ((rd_T42 x233001 x11).f1.f0)).bind fun bt259 => (if bt256.2 = 0 then (if bt259.2 = 0 then (if x6 < (x242001.length : Int) then (if (((rd_T42 x242001 x6).f0) == x10 && ((((rd_T42 x242001 x6).f1.f0) == 0 && (((rd_T42 x242001 x6).f1.f1) == 0 && (((rd_T42 x242001 x6).f1.f2) == 0 && (((rd_T42 x242001 x6).f1.f3) == 0 && (((rd_T42 x242001 x6).f1.f4) == 0 && (((rd_T42 x242001 x6).f1.f5) == 0 && (((rd_T42 x242001 x6).f1.f6) == 0 && (((rd_T42 x242001 x6).f1.f7) == 0 && (((rd_T42 x242001 x6).f1.f8) == 0 && (((rd_T42 x242001 x6).f1.f9) == 0 && (((rd_T42 x242001 x6).f1.f10) == 0 && (((rd_T42 x242001 x6).f1.f11) == 0 && (((rd_T42 x242001 x6).f1.f12) == 0 && (((rd_T42 x242001 x6).f1.f13) == 0 && (((rd_T42 x242001 x6).f1.f14) == 0))))))))))))))))) = true then (if ((rd_T42 x233001 x11).f0) = x10 then (bitloftlaw11_SlotsFound.j4 k false) else (if bt256.1 < bt259.1 then ((bitloftlaw11_alive.f k).bind fun t263 => (bitloftlaw11_SlotsFound.j4 k t263)) else (if bt256.1 = bt259.1 then (if x6 = x8 then ((bitloftlaw11_alive.f k).bind fun t264 => (bitloftlaw11_SlotsFound.j4 k t264)) else (bitloftlaw11_SlotsFound.j4 k false)) else (bitloftlaw11_SlotsFound.j4 k false)))) else (bitloftlaw11_SlotsFound.j4 k false)) else (none)) else (bitloftlaw11_SlotsFound.j4 k false)) else (bitloftlaw11_SlotsFound.j4 k false))) else (none)) else (none))) else (none)) else (none)))
def bitloftlaw11_SlotsFound.j2 : Nat → Int → Int → Int → Int → Bool → Int → Bool → Int → List (S42) → Int → List (S42) → Option (Bool)
 | 0, _, _, _, _, _, _, _, _, _, _, _ => none
 | k + 1, x6, x8, x10, x11, x12, x13, x128, x233000, x233001, x242000, x242001 => if x128 = true then (some false) else (bitloftlaw11_SlotsFound.l0 k x6 x8 x10 x11 x12 (wrap64 (x13 + 1)) x233000 x233001 x242000 x242001)
def bitloftlaw11_SlotsFound.j3 : Nat → Bool → Option (Bool)
 | 0, _ => none
 | k + 1, x4 => some x4
def bitloftlaw11_SlotsFound.j4 : Nat → Bool → Option (Bool)
 | 0, _ => none
 | k + 1, x4 => some x4
end
def bitloftlaw11_SlotsFound.f (k : Nat) (a0_0 : Int) (l0_1 : List (S42)) (a1 : Int) : Option (Bool) := (bitloftlaw11_fit.f k a0_0 l0_1).bind fun t233 => (if t233 = true then ((slots_Find.f k a0_0 l0_1 a1).bind fun bt235 => ((hashes_Place.f a1 (l0_1.length : Int)).bind fun bt242 => ((hashes_Check.f a1).bind fun t244 => (if bt235.2.2.2 = 0 then (if bt242.2 = 0 then (if bt235.2.2.1 < 0 then (bitloftlaw11_SlotsFound.j0 k bt235.2.2.1 bt242.1 t244 true a0_0 l0_1 bt235.1 bt235.2.1) else (if bt235.2.2.1 ≥ (l0_1.length : Int) then (bitloftlaw11_SlotsFound.j0 k bt235.2.2.1 bt242.1 t244 true a0_0 l0_1 bt235.1 bt235.2.1) else (if (wrap64 (Int.tdiv bt235.2.2.1 2)) = (wrap64 (Int.tdiv bt242.1 2)) then (if bt242.1 < 0 then (bitloftlaw11_SlotsFound.j0 k bt235.2.2.1 bt242.1 t244 true a0_0 l0_1 bt235.1 bt235.2.1) else (if bt242.1 ≥ (l0_1.length : Int) then (bitloftlaw11_SlotsFound.j0 k bt235.2.2.1 bt242.1 t244 true a0_0 l0_1 bt235.1 bt235.2.1) else (if (bt235.2.1.length : Int) = (l0_1.length : Int) then (if 0 ≤ bt235.2.2.1 then (if bt235.2.2.1 < (bt235.2.1.length : Int) then (bitloftlaw11_SlotsFound.j0 k bt235.2.2.1 bt242.1 t244 (((rd_T42 bt235.2.1 bt235.2.2.1).f0) != t244) a0_0 l0_1 bt235.1 bt235.2.1) else (none)) else (none)) else (bitloftlaw11_SlotsFound.j0 k bt235.2.2.1 bt242.1 t244 true a0_0 l0_1 bt235.1 bt235.2.1)))) else (bitloftlaw11_SlotsFound.j0 k bt235.2.2.1 bt242.1 t244 true a0_0 l0_1 bt235.1 bt235.2.1)))) else (bitloftlaw11_SlotsFound.j0 k bt235.2.2.1 bt242.1 t244 true a0_0 l0_1 bt235.1 bt235.2.1)) else (bitloftlaw11_SlotsFound.j0 k bt235.2.2.1 bt242.1 t244 true a0_0 l0_1 bt235.1 bt235.2.1))))) else ((bitloftlaw11_alive.f k).bind fun t234 => (some t234)))
theorem bitloftlaw11_SlotsFound.mono_l : ∀ k, (∀ y0 y1 y2 y3 y4 y5 y6 y7, LeO (bitloftlaw11_SlotsFound.j0 k y0 y1 y2 y3 y4 y5 y6 y7) (bitloftlaw11_SlotsFound.j0 (k + 1) y0 y1 y2 y3 y4 y5 y6 y7)) ∧ (∀ y0 y1 y2 y3 y4 y5 y6 y7 y8 y9, LeO (bitloftlaw11_SlotsFound.l0 k y0 y1 y2 y3 y4 y5 y6 y7 y8 y9) (bitloftlaw11_SlotsFound.l0 (k + 1) y0 y1 y2 y3 y4 y5 y6 y7 y8 y9)) ∧ (∀ y0 y1 y2 y3 y4 y5 y6 y7 y8 y9 y10, LeO (bitloftlaw11_SlotsFound.j2 k y0 y1 y2 y3 y4 y5 y6 y7 y8 y9 y10) (bitloftlaw11_SlotsFound.j2 (k + 1) y0 y1 y2 y3 y4 y5 y6 y7 y8 y9 y10)) ∧ (∀ y0, LeO (bitloftlaw11_SlotsFound.j3 k y0) (bitloftlaw11_SlotsFound.j3 (k + 1) y0)) ∧ (∀ y0, LeO (bitloftlaw11_SlotsFound.j4 k y0) (bitloftlaw11_SlotsFound.j4 (k + 1) y0))
 | 0 => ⟨fun _ _ _ _ _ _ _ _ r h => by simp [bitloftlaw11_SlotsFound.j0] at h, fun _ _ _ _ _ _ _ _ _ _ r h => by simp [bitloftlaw11_SlotsFound.l0] at h, fun _ _ _ _ _ _ _ _ _ _ _ r h => by simp [bitloftlaw11_SlotsFound.j2] at h, fun _ r h => by simp [bitloftlaw11_SlotsFound.j3] at h, fun _ r h => by simp [bitloftlaw11_SlotsFound.j4] at h⟩
 | k + 1 => by
  obtain ⟨ih0, ih1, ih2, ih3, ih4⟩ := bitloftlaw11_SlotsFound.mono_l k; refine ⟨?_, ?_, ?_, ?_, ?_⟩
  ·
   intro y0 y1 y2 y3 y4 y5 y6 y7
   unfold bitloftlaw11_SlotsFound.j0
   repeat' first
   | (with_reducible exact ih0 _ _ _ _ _ _ _ _)
   | (with_reducible exact ih1 _ _ _ _ _ _ _ _ _ _)
   | (with_reducible exact ih2 _ _ _ _ _ _ _ _ _ _ _)
   | (with_reducible exact ih3 _)
   | (with_reducible exact ih4 _)
   | (with_reducible exact bitloftlaw11_alive.mono _)
   | (with_reducible exact bitloftlaw11_fit.mono _ _ _)
   | (with_reducible exact slots_Find.mono _ _ _ _)
   | (with_reducible exact LeO.refl _)
   | (with_reducible exact LeO.none _)
   | (with_reducible refine LeO.ite ?_ ?_)
   | (with_reducible refine LeO.bind ?_ (fun _ => ?_))
   | exact ih0 _ _ _ _ _ _ _ _
   | exact ih1 _ _ _ _ _ _ _ _ _ _
   | exact ih2 _ _ _ _ _ _ _ _ _ _ _
   | exact ih3 _
   | exact ih4 _
   | exact bitloftlaw11_alive.mono _
   | exact bitloftlaw11_fit.mono _ _ _
   | exact slots_Find.mono _ _ _ _
   | exact LeO.none _
   | refine LeO.ite ?_ ?_
   | refine LeO.bind ?_ (fun _ => ?_)
  ·
   intro y0 y1 y2 y3 y4 y5 y6 y7 y8 y9
   unfold bitloftlaw11_SlotsFound.l0
   repeat' first
   | (with_reducible exact ih0 _ _ _ _ _ _ _ _)
   | (with_reducible exact ih1 _ _ _ _ _ _ _ _ _ _)
   | (with_reducible exact ih2 _ _ _ _ _ _ _ _ _ _ _)
   | (with_reducible exact ih3 _)
   | (with_reducible exact ih4 _)
   | (with_reducible exact bitloftlaw11_alive.mono _)
   | (with_reducible exact bitloftlaw11_fit.mono _ _ _)
   | (with_reducible exact slots_Find.mono _ _ _ _)
   | (with_reducible exact LeO.refl _)
   | (with_reducible exact LeO.none _)
   | (with_reducible refine LeO.ite ?_ ?_)
   | (with_reducible refine LeO.bind ?_ (fun _ => ?_))
   | exact ih0 _ _ _ _ _ _ _ _
   | exact ih1 _ _ _ _ _ _ _ _ _ _
   | exact ih2 _ _ _ _ _ _ _ _ _ _ _
   | exact ih3 _
   | exact ih4 _
   | exact bitloftlaw11_alive.mono _
   | exact bitloftlaw11_fit.mono _ _ _
   | exact slots_Find.mono _ _ _ _
   | exact LeO.none _
   | refine LeO.ite ?_ ?_
   | refine LeO.bind ?_ (fun _ => ?_)
  ·
   intro y0 y1 y2 y3 y4 y5 y6 y7 y8 y9 y10
   unfold bitloftlaw11_SlotsFound.j2
   repeat' first
   | (with_reducible exact ih0 _ _ _ _ _ _ _ _)
   | (with_reducible exact ih1 _ _ _ _ _ _ _ _ _ _)
   | (with_reducible exact ih2 _ _ _ _ _ _ _ _ _ _ _)
   | (with_reducible exact ih3 _)
   | (with_reducible exact ih4 _)
   | (with_reducible exact bitloftlaw11_alive.mono _)
   | (with_reducible exact bitloftlaw11_fit.mono _ _ _)
   | (with_reducible exact slots_Find.mono _ _ _ _)
   | (with_reducible exact LeO.refl _)
   | (with_reducible exact LeO.none _)
   | (with_reducible refine LeO.ite ?_ ?_)
   | (with_reducible refine LeO.bind ?_ (fun _ => ?_))
   | exact ih0 _ _ _ _ _ _ _ _
   | exact ih1 _ _ _ _ _ _ _ _ _ _
   | exact ih2 _ _ _ _ _ _ _ _ _ _ _
   | exact ih3 _
   | exact ih4 _
   | exact bitloftlaw11_alive.mono _
   | exact bitloftlaw11_fit.mono _ _ _
   | exact slots_Find.mono _ _ _ _
   | exact LeO.none _
   | refine LeO.ite ?_ ?_
   | refine LeO.bind ?_ (fun _ => ?_)
  ·
   intro y0
   unfold bitloftlaw11_SlotsFound.j3
   repeat' first
   | (with_reducible exact ih0 _ _ _ _ _ _ _ _)
   | (with_reducible exact ih1 _ _ _ _ _ _ _ _ _ _)
   | (with_reducible exact ih2 _ _ _ _ _ _ _ _ _ _ _)
   | (with_reducible exact ih3 _)
   | (with_reducible exact ih4 _)
   | (with_reducible exact bitloftlaw11_alive.mono _)
   | (with_reducible exact bitloftlaw11_fit.mono _ _ _)
   | (with_reducible exact slots_Find.mono _ _ _ _)
   | (with_reducible exact LeO.refl _)
   | (with_reducible exact LeO.none _)
   | (with_reducible refine LeO.ite ?_ ?_)
   | (with_reducible refine LeO.bind ?_ (fun _ => ?_))
   | exact ih0 _ _ _ _ _ _ _ _
   | exact ih1 _ _ _ _ _ _ _ _ _ _
   | exact ih2 _ _ _ _ _ _ _ _ _ _ _
   | exact ih3 _
   | exact ih4 _
   | exact bitloftlaw11_alive.mono _
   | exact bitloftlaw11_fit.mono _ _ _
   | exact slots_Find.mono _ _ _ _
   | exact LeO.none _
   | refine LeO.ite ?_ ?_
   | refine LeO.bind ?_ (fun _ => ?_)
  ·
   intro y0
   unfold bitloftlaw11_SlotsFound.j4
   repeat' first
   | (with_reducible exact ih0 _ _ _ _ _ _ _ _)
   | (with_reducible exact ih1 _ _ _ _ _ _ _ _ _ _)
   | (with_reducible exact ih2 _ _ _ _ _ _ _ _ _ _ _)
   | (with_reducible exact ih3 _)
   | (with_reducible exact ih4 _)
   | (with_reducible exact bitloftlaw11_alive.mono _)
   | (with_reducible exact bitloftlaw11_fit.mono _ _ _)
   | (with_reducible exact slots_Find.mono _ _ _ _)
   | (with_reducible exact LeO.refl _)
   | (with_reducible exact LeO.none _)
   | (with_reducible refine LeO.ite ?_ ?_)
   | (with_reducible refine LeO.bind ?_ (fun _ => ?_))
   | exact ih0 _ _ _ _ _ _ _ _
   | exact ih1 _ _ _ _ _ _ _ _ _ _
   | exact ih2 _ _ _ _ _ _ _ _ _ _ _
   | exact ih3 _
   | exact ih4 _
   | exact bitloftlaw11_alive.mono _
   | exact bitloftlaw11_fit.mono _ _ _
   | exact slots_Find.mono _ _ _ _
   | exact LeO.none _
   | refine LeO.ite ?_ ?_
   | refine LeO.bind ?_ (fun _ => ?_)
theorem bitloftlaw11_SlotsFound.mono : ∀ a0 a1 a2 k, LeO (bitloftlaw11_SlotsFound.f k a0 a1 a2) (bitloftlaw11_SlotsFound.f (k + 1) a0 a1 a2) := by
 intro a0 a1 a2 k; obtain ⟨ih0, ih1, ih2, ih3, ih4⟩ := bitloftlaw11_SlotsFound.mono_l k
 unfold bitloftlaw11_SlotsFound.f
 repeat' first
   | (with_reducible exact ih0 _ _ _ _ _ _ _ _)
   | (with_reducible exact ih1 _ _ _ _ _ _ _ _ _ _)
   | (with_reducible exact ih2 _ _ _ _ _ _ _ _ _ _ _)
   | (with_reducible exact ih3 _)
   | (with_reducible exact ih4 _)
   | (with_reducible exact bitloftlaw11_alive.mono _)
   | (with_reducible exact bitloftlaw11_fit.mono _ _ _)
   | (with_reducible exact slots_Find.mono _ _ _ _)
   | (with_reducible exact LeO.refl _)
   | (with_reducible exact LeO.none _)
   | (with_reducible refine LeO.ite ?_ ?_)
   | (with_reducible refine LeO.bind ?_ (fun _ => ?_))
   | exact ih0 _ _ _ _ _ _ _ _
   | exact ih1 _ _ _ _ _ _ _ _ _ _
   | exact ih2 _ _ _ _ _ _ _ _ _ _ _
   | exact ih3 _
   | exact ih4 _
   | exact bitloftlaw11_alive.mono _
   | exact bitloftlaw11_fit.mono _ _ _
   | exact slots_Find.mono _ _ _ _
   | exact LeO.none _
   | refine LeO.ite ?_ ?_
   | refine LeO.bind ?_ (fun _ => ?_)
set_option maxHeartbeats 8000000 in
set_option maxRecDepth 100000 in
theorem bitloftlaw11_SlotsFound.calls (k : Nat) (a0_0 : Int) (A0_1 : Option Addr) (c0_1 : Nat) (l0_1 : List (S42)) (a1 : Int) (r : Bool) (w : World) (hr0_1 : Kd.C k42 w A0_1 l0_1.length l0_1) (hc0_1 : l0_1.length ≤ c0_1) (hr_ : r = true) (h : bitloftlaw11_SlotsFound.f k a0_0 l0_1 a1 = some r) :
  Calls Try.prog 6 #[.agg #[.int .i64 a0_0, .slice A0_1 l0_1.length c0_1], .int .u32 a1] w fun e w' => e = .returned (.bool r) ∧ Below w.heap.size w w' := by
 have hu24 := Try.underlying24; have hu42 := Try.underlying42; have HRT_ := Aside0.mk hr_; clear hr_; have HR0_1 := Aside0.mk hr0_1; have HC0_1 := Aside0.mk hc0_1; clear hr0_1 hc0_1; have HB := Aside0.mk (Below.refl w.heap.size w); have H : ((bitloftlaw11_fit.f k a0_0 l0_1).bind fun t233 => (if t233 = true then ((slots_Find.f k a0_0 l0_1 a1).bind fun bt235 => ((hashes_Place.f a1 (l0_1.length : Int)).bind fun bt242 => ((hashes_Check.f a1).bind fun t244 => (if bt235.2.2.2 = 0 then (if bt242.2 = 0 then (if bt235.2.2.1 < 0 then (bitloftlaw11_SlotsFound.j0 k bt235.2.2.1 bt242.1 t244 true a0_0 l0_1 bt235.1 bt235.2.1) else (if bt235.2.2.1 ≥ (l0_1.length : Int) then (bitloftlaw11_SlotsFound.j0 k bt235.2.2.1 bt242.1 t244 true a0_0 l0_1 bt235.1 bt235.2.1) else (if (wrap64 (Int.tdiv bt235.2.2.1 2)) = (wrap64 (Int.tdiv bt242.1 2)) then (if bt242.1 < 0 then (bitloftlaw11_SlotsFound.j0 k bt235.2.2.1 bt242.1 t244 true a0_0 l0_1 bt235.1 bt235.2.1) else (if bt242.1 ≥ (l0_1.length : Int) then (bitloftlaw11_SlotsFound.j0 k bt235.2.2.1 bt242.1 t244 true a0_0 l0_1 bt235.1 bt235.2.1) else (if (bt235.2.1.length : Int) = (l0_1.length : Int) then (if 0 ≤ bt235.2.2.1 then (if bt235.2.2.1 < (bt235.2.1.length : Int) then (bitloftlaw11_SlotsFound.j0 k bt235.2.2.1 bt242.1 t244 (((rd_T42 bt235.2.1 bt235.2.2.1).f0) != t244) a0_0 l0_1 bt235.1 bt235.2.1) else (none)) else (none)) else (bitloftlaw11_SlotsFound.j0 k bt235.2.2.1 bt242.1 t244 true a0_0 l0_1 bt235.1 bt235.2.1)))) else (bitloftlaw11_SlotsFound.j0 k bt235.2.2.1 bt242.1 t244 true a0_0 l0_1 bt235.1 bt235.2.1)))) else (bitloftlaw11_SlotsFound.j0 k bt235.2.2.1 bt242.1 t244 true a0_0 l0_1 bt235.1 bt235.2.1)) else (bitloftlaw11_SlotsFound.j0 k bt235.2.2.1 bt242.1 t244 true a0_0 l0_1 bt235.1 bt235.2.1))))) else ((bitloftlaw11_alive.f k).bind fun t234 => (some t234)))) = some r := h; clear h; replace H := Option.bind_eq_some_iff.mp H; obtain ⟨t233, A30, H⟩ := H; replace H : (if t233 = true then ((slots_Find.f k a0_0 l0_1 a1).bind fun bt235 => ((hashes_Place.f a1 (l0_1.length : Int)).bind fun bt242 => ((hashes_Check.f a1).bind fun t244 => (if bt235.2.2.2 = 0 then (if bt242.2 = 0 then (if bt235.2.2.1 < 0 then (bitloftlaw11_SlotsFound.j0 k bt235.2.2.1 bt242.1 t244 true a0_0 l0_1 bt235.1 bt235.2.1) else (if bt235.2.2.1 ≥ (l0_1.length : Int) then (bitloftlaw11_SlotsFound.j0 k bt235.2.2.1 bt242.1 t244 true a0_0 l0_1 bt235.1 bt235.2.1) else (if (wrap64 (Int.tdiv bt235.2.2.1 2)) = (wrap64 (Int.tdiv bt242.1 2)) then (if bt242.1 < 0 then (bitloftlaw11_SlotsFound.j0 k bt235.2.2.1 bt242.1 t244 true a0_0 l0_1 bt235.1 bt235.2.1) else (if bt242.1 ≥ (l0_1.length : Int) then (bitloftlaw11_SlotsFound.j0 k bt235.2.2.1 bt242.1 t244 true a0_0 l0_1 bt235.1 bt235.2.1) else (if (bt235.2.1.length : Int) = (l0_1.length : Int) then (if 0 ≤ bt235.2.2.1 then (if bt235.2.2.1 < (bt235.2.1.length : Int) then (bitloftlaw11_SlotsFound.j0 k bt235.2.2.1 bt242.1 t244 (((rd_T42 bt235.2.1 bt235.2.2.1).f0) != t244) a0_0 l0_1 bt235.1 bt235.2.1) else (none)) else (none)) else (bitloftlaw11_SlotsFound.j0 k bt235.2.2.1 bt242.1 t244 true a0_0 l0_1 bt235.1 bt235.2.1)))) else (bitloftlaw11_SlotsFound.j0 k bt235.2.2.1 bt242.1 t244 true a0_0 l0_1 bt235.1 bt235.2.1)))) else (bitloftlaw11_SlotsFound.j0 k bt235.2.2.1 bt242.1 t244 true a0_0 l0_1 bt235.1 bt235.2.1)) else (bitloftlaw11_SlotsFound.j0 k bt235.2.2.1 bt242.1 t244 true a0_0 l0_1 bt235.1 bt235.2.1))))) else ((bitloftlaw11_alive.f k).bind fun t234 => (some t234))) = some r := H; have A3 := Aside0.mk A30; clear A30
 by_cases c4 : t233 = true
 ·
  as_aux_lemma =>
   subst c4
   have H1 : ((slots_Find.f k a0_0 l0_1 a1).bind fun bt235 => ((hashes_Place.f a1 (l0_1.length : Int)).bind fun bt242 => ((hashes_Check.f a1).bind fun t244 => (if bt235.2.2.2 = 0 then (if bt242.2 = 0 then (if bt235.2.2.1 < 0 then (bitloftlaw11_SlotsFound.j0 k bt235.2.2.1 bt242.1 t244 true a0_0 l0_1 bt235.1 bt235.2.1) else (if bt235.2.2.1 ≥ (l0_1.length : Int) then (bitloftlaw11_SlotsFound.j0 k bt235.2.2.1 bt242.1 t244 true a0_0 l0_1 bt235.1 bt235.2.1) else (if (wrap64 (Int.tdiv bt235.2.2.1 2)) = (wrap64 (Int.tdiv bt242.1 2)) then (if bt242.1 < 0 then (bitloftlaw11_SlotsFound.j0 k bt235.2.2.1 bt242.1 t244 true a0_0 l0_1 bt235.1 bt235.2.1) else (if bt242.1 ≥ (l0_1.length : Int) then (bitloftlaw11_SlotsFound.j0 k bt235.2.2.1 bt242.1 t244 true a0_0 l0_1 bt235.1 bt235.2.1) else (if (bt235.2.1.length : Int) = (l0_1.length : Int) then (if 0 ≤ bt235.2.2.1 then (if bt235.2.2.1 < (bt235.2.1.length : Int) then (bitloftlaw11_SlotsFound.j0 k bt235.2.2.1 bt242.1 t244 (((rd_T42 bt235.2.1 bt235.2.2.1).f0) != t244) a0_0 l0_1 bt235.1 bt235.2.1) else (none)) else (none)) else (bitloftlaw11_SlotsFound.j0 k bt235.2.2.1 bt242.1 t244 true a0_0 l0_1 bt235.1 bt235.2.1)))) else (bitloftlaw11_SlotsFound.j0 k bt235.2.2.1 bt242.1 t244 true a0_0 l0_1 bt235.1 bt235.2.1)))) else (bitloftlaw11_SlotsFound.j0 k bt235.2.2.1 bt242.1 t244 true a0_0 l0_1 bt235.1 bt235.2.1)) else (bitloftlaw11_SlotsFound.j0 k bt235.2.2.1 bt242.1 t244 true a0_0 l0_1 bt235.1 bt235.2.1))))) = some r := by rw [if_pos rfl] at H; exact H
   clear H; have H := H1; clear H1; replace H := Option.bind_eq_some_iff.mp H; obtain ⟨⟨t235, t236, t239, t240⟩, A50, H⟩ := H; replace H : ((hashes_Place.f a1 (l0_1.length : Int)).bind fun bt242 => ((hashes_Check.f a1).bind fun t244 => (if t240 = 0 then (if bt242.2 = 0 then (if t239 < 0 then (bitloftlaw11_SlotsFound.j0 k t239 bt242.1 t244 true a0_0 l0_1 t235 t236) else (if t239 ≥ (l0_1.length : Int) then (bitloftlaw11_SlotsFound.j0 k t239 bt242.1 t244 true a0_0 l0_1 t235 t236) else (if (wrap64 (Int.tdiv t239 2)) = (wrap64 (Int.tdiv bt242.1 2)) then (if bt242.1 < 0 then (bitloftlaw11_SlotsFound.j0 k t239 bt242.1 t244 true a0_0 l0_1 t235 t236) else (if bt242.1 ≥ (l0_1.length : Int) then (bitloftlaw11_SlotsFound.j0 k t239 bt242.1 t244 true a0_0 l0_1 t235 t236) else (if (t236.length : Int) = (l0_1.length : Int) then (if 0 ≤ t239 then (if t239 < (t236.length : Int) then (bitloftlaw11_SlotsFound.j0 k t239 bt242.1 t244 (((rd_T42 t236 t239).f0) != t244) a0_0 l0_1 t235 t236) else (none)) else (none)) else (bitloftlaw11_SlotsFound.j0 k t239 bt242.1 t244 true a0_0 l0_1 t235 t236)))) else (bitloftlaw11_SlotsFound.j0 k t239 bt242.1 t244 true a0_0 l0_1 t235 t236)))) else (bitloftlaw11_SlotsFound.j0 k t239 bt242.1 t244 true a0_0 l0_1 t235 t236)) else (bitloftlaw11_SlotsFound.j0 k t239 bt242.1 t244 true a0_0 l0_1 t235 t236)))) = some r := H; have A5 := Aside0.mk A50; clear A50; replace H := Option.bind_eq_some_iff.mp H; obtain ⟨⟨t242, t243⟩, A60, H⟩ := H; replace H : ((hashes_Check.f a1).bind fun t244 => (if t240 = 0 then (if t243 = 0 then (if t239 < 0 then (bitloftlaw11_SlotsFound.j0 k t239 t242 t244 true a0_0 l0_1 t235 t236) else (if t239 ≥ (l0_1.length : Int) then (bitloftlaw11_SlotsFound.j0 k t239 t242 t244 true a0_0 l0_1 t235 t236) else (if (wrap64 (Int.tdiv t239 2)) = (wrap64 (Int.tdiv t242 2)) then (if t242 < 0 then (bitloftlaw11_SlotsFound.j0 k t239 t242 t244 true a0_0 l0_1 t235 t236) else (if t242 ≥ (l0_1.length : Int) then (bitloftlaw11_SlotsFound.j0 k t239 t242 t244 true a0_0 l0_1 t235 t236) else (if (t236.length : Int) = (l0_1.length : Int) then (if 0 ≤ t239 then (if t239 < (t236.length : Int) then (bitloftlaw11_SlotsFound.j0 k t239 t242 t244 (((rd_T42 t236 t239).f0) != t244) a0_0 l0_1 t235 t236) else (none)) else (none)) else (bitloftlaw11_SlotsFound.j0 k t239 t242 t244 true a0_0 l0_1 t235 t236)))) else (bitloftlaw11_SlotsFound.j0 k t239 t242 t244 true a0_0 l0_1 t235 t236)))) else (bitloftlaw11_SlotsFound.j0 k t239 t242 t244 true a0_0 l0_1 t235 t236)) else (bitloftlaw11_SlotsFound.j0 k t239 t242 t244 true a0_0 l0_1 t235 t236))) = some r := H; have A6 := Aside0.mk A60; clear A60; replace H := Option.bind_eq_some_iff.mp H; obtain ⟨t244, A70, H⟩ := H; replace H : (if t240 = 0 then (if t243 = 0 then (if t239 < 0 then (bitloftlaw11_SlotsFound.j0 k t239 t242 t244 true a0_0 l0_1 t235 t236) else (if t239 ≥ (l0_1.length : Int) then (bitloftlaw11_SlotsFound.j0 k t239 t242 t244 true a0_0 l0_1 t235 t236) else (if (wrap64 (Int.tdiv t239 2)) = (wrap64 (Int.tdiv t242 2)) then (if t242 < 0 then (bitloftlaw11_SlotsFound.j0 k t239 t242 t244 true a0_0 l0_1 t235 t236) else (if t242 ≥ (l0_1.length : Int) then (bitloftlaw11_SlotsFound.j0 k t239 t242 t244 true a0_0 l0_1 t235 t236) else (if (t236.length : Int) = (l0_1.length : Int) then (if 0 ≤ t239 then (if t239 < (t236.length : Int) then (bitloftlaw11_SlotsFound.j0 k t239 t242 t244 (((rd_T42 t236 t239).f0) != t244) a0_0 l0_1 t235 t236) else (none)) else (none)) else (bitloftlaw11_SlotsFound.j0 k t239 t242 t244 true a0_0 l0_1 t235 t236)))) else (bitloftlaw11_SlotsFound.j0 k t239 t242 t244 true a0_0 l0_1 t235 t236)))) else (bitloftlaw11_SlotsFound.j0 k t239 t242 t244 true a0_0 l0_1 t235 t236)) else (bitloftlaw11_SlotsFound.j0 k t239 t242 t244 true a0_0 l0_1 t235 t236)) = some r := H; have A7 := Aside0.mk A70; clear A70; have HC8 := Aside0.mk H; clear H
   go_enter Try.func6, Try.ntmps6
   go_upto_region 6 with (first | ((with_reducible refine gate_dst (N := 2) rfl ?_); (try (refine gate_guard (by rfl) ?_; dsimp only)); refine box_event ?hg (N := 2) ?hd (cs := #[.int .i64 a0_0, .slice A0_1 l0_1.length c0_1]) (t := 24) ?hr ?_; (case hd => rfl); (case hg => rfl); (case hr => first | (go_simp; done) | (go_simp; rfl)); intro gb232 hg w9 hbox hb; have n0_ := Aside0.mk (below_step (pH_ HB.out) hb); have n1_ := Aside0.mk (hbox); have n2_ := Aside0.mk ((by rw [hg]; exact (below_size (pH_ HB.out)) : w.heap.size ≤ gb232)); have n3_ := Aside0.mk ((by rw [hg]; exact (below_size (pH_ HB.out)) : w.heap.size ≤ gb232)); clear HB; have HB := n0_; have BK232 := n1_; have GW232 := n2_; have GE232 := n3_; clear n0_ n1_ n2_ n3_; clear hb hbox hg; have hcz10_0 : w9.cell? ⟨gb232, 0, none⟩ = some (.int .i64 a0_0) := (blk_cell BK232.out 0).trans rfl; have hcz10_1 : w9.cell? ⟨gb232, 1, none⟩ = some (.slice A0_1 l0_1.length c0_1) := (blk_cell BK232.out 1).trans rfl; have hfz10_0 := blk_frozen BK232.out 0; have hfz10_1 := blk_frozen BK232.out 1) | (go_at_call 25; (with_reducible refine (bitloftlaw11_fit.calls k a0_0 _ _ l0_1 true _ ?side1 ?side2 A3.out).mono ?_); (case side1 => repeat (first | exact (Kd.C_below HR0_1.out HB.out) | (with_reducible refine Kd.C_alloc ?_ _) | (with_reducible refine Kd.C_drewN ?_ _) | (with_reducible refine Kd.C_drew ?_))); (case side2 => exact HC0_1.out); rintro e w11 ⟨rfl, hb⟩; have n0_ := Aside0.mk (blk_below (pG_ BK232.out) hb); have n1_ := Aside0.mk (below_step (pH_ HB.out) hb); clear BK232; clear HB; have BK232 := n0_; have HB := n1_; clear n0_ n1_; (try clear hb); have hcz12_0 : w11.cell? ⟨gb232, 0, none⟩ = some (.int .i64 a0_0) := (blk_cell BK232.out 0).trans rfl; have hcz12_1 : w11.cell? ⟨gb232, 1, none⟩ = some (.slice A0_1 l0_1.length c0_1) := (blk_cell BK232.out 1).trans rfl; have hfz12_0 := blk_frozen BK232.out 0; have hfz12_1 := blk_frozen BK232.out 1) | (go_at_call 13; (with_reducible refine (slots_Find.calls k a0_0 _ _ l0_1 a1 t235 t236 t239 t240 _ ?side1 ?side2 A5.out).mono ?_); (case side1 => repeat (first | exact (Kd.C_below HR0_1.out HB.out) | (with_reducible refine Kd.C_alloc ?_ _) | (with_reducible refine Kd.C_drewN ?_ _) | (with_reducible refine Kd.C_drew ?_))); (case side2 => exact HC0_1.out); rintro e w13 ⟨v237, rfl, ho0, hb⟩; have n0_ := Aside0.mk (Kd.R_lower ho0 (below_size (pH_ HB.out))); have n1_ := Aside0.mk (blk_below (pG_ BK232.out) hb); have n2_ := Aside0.mk (below_step (pH_ HB.out) hb); clear BK232; clear HB; have HO238 := n0_; have BK232 := n1_; have HB := n2_; clear n0_ n1_ n2_; (try clear hb); (try clear ho0)) | ((with_reducible refine gate_dst (N := 5) rfl ?_); (try (refine gate_guard (by rfl) ?_; dsimp only)); refine box_event ?hg (N := 5) ?hd (cs := #[.int .i64 0, .slice none 0 0]) (t := 24) ?hr ?_; (case hd => rfl); (case hg => rfl); (case hr => first | (go_simp; done) | (go_simp; rfl)); intro gb241 hg w14 hbox hb; have n0_ := Aside0.mk (Kd.R_below (pL_ HO238.out) hb); have n1_ := Aside0.mk (blk_below (pG_ BK232.out) hb); have n2_ := Aside0.mk (below_step (pH_ HB.out) hb); have n3_ := Aside0.mk (hbox); have n4_ := Aside0.mk ((by rw [hg]; exact (below_size (pH_ HB.out)) : w.heap.size ≤ gb241)); have n5_ := Aside0.mk ((by rw [hg]; exact (below_size (pH_ HB.out)) : w.heap.size ≤ gb241)); have n6_ := Aside0.mk ((by rw [hg]; exact Nat.ne_of_lt (blk_lt (pG_ BK232.out)) : gb232 ≠ gb241)); have n7_ := Aside0.mk ((by rw [hg]; exact Nat.ne_of_gt (blk_lt (pG_ BK232.out)) : gb241 ≠ gb232)); clear HO238; clear BK232; clear HB; have HO238 := n0_; have BK232 := n1_; have HB := n2_; have BK241 := n3_; have GW241 := n4_; have GE241 := n5_; have NB232_241 := n6_; have NB241_232 := n7_; clear n0_ n1_ n2_ n3_ n4_ n5_ n6_ n7_; clear hb hbox hg; have hnb15 := NB241_232.out; have hnc15 := NB232_241.out; have hcz16_0 : w14.cell? ⟨gb241, 0, none⟩ = some (.int .i64 0) := (blk_cell BK241.out 0).trans rfl; have hcz16_1 : w14.cell? ⟨gb241, 1, none⟩ = some (.slice none 0 0) := (blk_cell BK241.out 1).trans rfl; have hfz16_0 := blk_frozen BK241.out 0; have hfz16_1 := blk_frozen BK241.out 1; obtain ⟨Ao17, co17, eo17⟩ := Kd.R_slice HO238.out; subst eo17; have hcz18_0 : w14.cell? ⟨gb232, 0, none⟩ = some (.int .i64 a0_0) := (blk_cell BK232.out 0).trans rfl; have hcz18_1 : w14.cell? ⟨gb232, 1, none⟩ = some (.slice A0_1 l0_1.length c0_1) := (blk_cell BK232.out 1).trans rfl; have hfz18_0 := blk_frozen BK232.out 0; have hfz18_1 := blk_frozen BK232.out 1) | (go_at_call 26; (with_reducible refine (hashes_Place.calls a1 (l0_1.length : Int) t242 t243 _ A6.out).mono ?_); rintro e w' ⟨rfl, ⟨nd, rfl⟩⟩; (try first | exact ⟨rfl, _, World.drewN_drewN _ _ _⟩ | exact ⟨rfl, _, Eq.trans (World.drewN_drewN _ _ _) (congrArg (World.drewN _) (Nat.add_assoc _ _ _))⟩)) | (go_at_call 27; (with_reducible refine (hashes_Check.calls a1 t244 _ A7.out).mono ?_); rintro e w' ⟨rfl, ⟨nd, rfl⟩⟩; (try first | exact ⟨rfl, _, World.drewN_drewN _ _ _⟩ | exact ⟨rfl, _, Eq.trans (World.drewN_drewN _ _ _) (congrArg (World.drewN _) (Nat.add_assoc _ _ _))⟩)))
   repeat (go_quiet (first | ((with_reducible refine gate_dst (N := 2) rfl ?_); (try (refine gate_guard (by rfl) ?_; dsimp only)); refine box_event ?hg (N := 2) ?hd (cs := #[.int .i64 a0_0, .slice A0_1 l0_1.length c0_1]) (t := 24) ?hr ?_; (case hd => rfl); (case hg => rfl); (case hr => first | (go_simp; done) | (go_simp; rfl)); intro gb232 hg w9 hbox hb; have n0_ := Aside0.mk (below_step (pH_ HB.out) hb); have n1_ := Aside0.mk (hbox); have n2_ := Aside0.mk ((by rw [hg]; exact (below_size (pH_ HB.out)) : w.heap.size ≤ gb232)); have n3_ := Aside0.mk ((by rw [hg]; exact (below_size (pH_ HB.out)) : w.heap.size ≤ gb232)); clear HB; have HB := n0_; have BK232 := n1_; have GW232 := n2_; have GE232 := n3_; clear n0_ n1_ n2_ n3_; clear hb hbox hg; have hcz10_0 : w9.cell? ⟨gb232, 0, none⟩ = some (.int .i64 a0_0) := (blk_cell BK232.out 0).trans rfl; have hcz10_1 : w9.cell? ⟨gb232, 1, none⟩ = some (.slice A0_1 l0_1.length c0_1) := (blk_cell BK232.out 1).trans rfl; have hfz10_0 := blk_frozen BK232.out 0; have hfz10_1 := blk_frozen BK232.out 1) | (go_at_call 25; (with_reducible refine (bitloftlaw11_fit.calls k a0_0 _ _ l0_1 true _ ?side1 ?side2 A3.out).mono ?_); (case side1 => repeat (first | exact (Kd.C_below HR0_1.out HB.out) | (with_reducible refine Kd.C_alloc ?_ _) | (with_reducible refine Kd.C_drewN ?_ _) | (with_reducible refine Kd.C_drew ?_))); (case side2 => exact HC0_1.out); rintro e w11 ⟨rfl, hb⟩; have n0_ := Aside0.mk (blk_below (pG_ BK232.out) hb); have n1_ := Aside0.mk (below_step (pH_ HB.out) hb); clear BK232; clear HB; have BK232 := n0_; have HB := n1_; clear n0_ n1_; (try clear hb); have hcz12_0 : w11.cell? ⟨gb232, 0, none⟩ = some (.int .i64 a0_0) := (blk_cell BK232.out 0).trans rfl; have hcz12_1 : w11.cell? ⟨gb232, 1, none⟩ = some (.slice A0_1 l0_1.length c0_1) := (blk_cell BK232.out 1).trans rfl; have hfz12_0 := blk_frozen BK232.out 0; have hfz12_1 := blk_frozen BK232.out 1) | (go_at_call 13; (with_reducible refine (slots_Find.calls k a0_0 _ _ l0_1 a1 t235 t236 t239 t240 _ ?side1 ?side2 A5.out).mono ?_); (case side1 => repeat (first | exact (Kd.C_below HR0_1.out HB.out) | (with_reducible refine Kd.C_alloc ?_ _) | (with_reducible refine Kd.C_drewN ?_ _) | (with_reducible refine Kd.C_drew ?_))); (case side2 => exact HC0_1.out); rintro e w13 ⟨v237, rfl, ho0, hb⟩; have n0_ := Aside0.mk (Kd.R_lower ho0 (below_size (pH_ HB.out))); have n1_ := Aside0.mk (blk_below (pG_ BK232.out) hb); have n2_ := Aside0.mk (below_step (pH_ HB.out) hb); clear BK232; clear HB; have HO238 := n0_; have BK232 := n1_; have HB := n2_; clear n0_ n1_ n2_; (try clear hb); (try clear ho0)) | ((with_reducible refine gate_dst (N := 5) rfl ?_); (try (refine gate_guard (by rfl) ?_; dsimp only)); refine box_event ?hg (N := 5) ?hd (cs := #[.int .i64 0, .slice none 0 0]) (t := 24) ?hr ?_; (case hd => rfl); (case hg => rfl); (case hr => first | (go_simp; done) | (go_simp; rfl)); intro gb241 hg w14 hbox hb; have n0_ := Aside0.mk (Kd.R_below (pL_ HO238.out) hb); have n1_ := Aside0.mk (blk_below (pG_ BK232.out) hb); have n2_ := Aside0.mk (below_step (pH_ HB.out) hb); have n3_ := Aside0.mk (hbox); have n4_ := Aside0.mk ((by rw [hg]; exact (below_size (pH_ HB.out)) : w.heap.size ≤ gb241)); have n5_ := Aside0.mk ((by rw [hg]; exact (below_size (pH_ HB.out)) : w.heap.size ≤ gb241)); have n6_ := Aside0.mk ((by rw [hg]; exact Nat.ne_of_lt (blk_lt (pG_ BK232.out)) : gb232 ≠ gb241)); have n7_ := Aside0.mk ((by rw [hg]; exact Nat.ne_of_gt (blk_lt (pG_ BK232.out)) : gb241 ≠ gb232)); clear HO238; clear BK232; clear HB; have HO238 := n0_; have BK232 := n1_; have HB := n2_; have BK241 := n3_; have GW241 := n4_; have GE241 := n5_; have NB232_241 := n6_; have NB241_232 := n7_; clear n0_ n1_ n2_ n3_ n4_ n5_ n6_ n7_; clear hb hbox hg; have hnb15 := NB241_232.out; have hnc15 := NB232_241.out; have hcz16_0 : w14.cell? ⟨gb241, 0, none⟩ = some (.int .i64 0) := (blk_cell BK241.out 0).trans rfl; have hcz16_1 : w14.cell? ⟨gb241, 1, none⟩ = some (.slice none 0 0) := (blk_cell BK241.out 1).trans rfl; have hfz16_0 := blk_frozen BK241.out 0; have hfz16_1 := blk_frozen BK241.out 1; obtain ⟨Ao17, co17, eo17⟩ := Kd.R_slice HO238.out; subst eo17; have hcz18_0 : w14.cell? ⟨gb232, 0, none⟩ = some (.int .i64 a0_0) := (blk_cell BK232.out 0).trans rfl; have hcz18_1 : w14.cell? ⟨gb232, 1, none⟩ = some (.slice A0_1 l0_1.length c0_1) := (blk_cell BK232.out 1).trans rfl; have hfz18_0 := blk_frozen BK232.out 0; have hfz18_1 := blk_frozen BK232.out 1) | (go_at_call 26; (with_reducible refine (hashes_Place.calls a1 (l0_1.length : Int) t242 t243 _ A6.out).mono ?_); rintro e w' ⟨rfl, ⟨nd, rfl⟩⟩; (try first | exact ⟨rfl, _, World.drewN_drewN _ _ _⟩ | exact ⟨rfl, _, Eq.trans (World.drewN_drewN _ _ _) (congrArg (World.drewN _) (Nat.add_assoc _ _ _))⟩)) | (go_at_call 27; (with_reducible refine (hashes_Check.calls a1 t244 _ A7.out).mono ?_); rintro e w' ⟨rfl, ⟨nd, rfl⟩⟩; (try first | exact ⟨rfl, _, World.drewN_drewN _ _ _⟩ | exact ⟨rfl, _, Eq.trans (World.drewN_drewN _ _ _) (congrArg (World.drewN _) (Nat.add_assoc _ _ _))⟩))); go_upto_region 6 with (first | ((with_reducible refine gate_dst (N := 2) rfl ?_); (try (refine gate_guard (by rfl) ?_; dsimp only)); refine box_event ?hg (N := 2) ?hd (cs := #[.int .i64 a0_0, .slice A0_1 l0_1.length c0_1]) (t := 24) ?hr ?_; (case hd => rfl); (case hg => rfl); (case hr => first | (go_simp; done) | (go_simp; rfl)); intro gb232 hg w9 hbox hb; have n0_ := Aside0.mk (below_step (pH_ HB.out) hb); have n1_ := Aside0.mk (hbox); have n2_ := Aside0.mk ((by rw [hg]; exact (below_size (pH_ HB.out)) : w.heap.size ≤ gb232)); have n3_ := Aside0.mk ((by rw [hg]; exact (below_size (pH_ HB.out)) : w.heap.size ≤ gb232)); clear HB; have HB := n0_; have BK232 := n1_; have GW232 := n2_; have GE232 := n3_; clear n0_ n1_ n2_ n3_; clear hb hbox hg; have hcz10_0 : w9.cell? ⟨gb232, 0, none⟩ = some (.int .i64 a0_0) := (blk_cell BK232.out 0).trans rfl; have hcz10_1 : w9.cell? ⟨gb232, 1, none⟩ = some (.slice A0_1 l0_1.length c0_1) := (blk_cell BK232.out 1).trans rfl; have hfz10_0 := blk_frozen BK232.out 0; have hfz10_1 := blk_frozen BK232.out 1) | (go_at_call 25; (with_reducible refine (bitloftlaw11_fit.calls k a0_0 _ _ l0_1 true _ ?side1 ?side2 A3.out).mono ?_); (case side1 => repeat (first | exact (Kd.C_below HR0_1.out HB.out) | (with_reducible refine Kd.C_alloc ?_ _) | (with_reducible refine Kd.C_drewN ?_ _) | (with_reducible refine Kd.C_drew ?_))); (case side2 => exact HC0_1.out); rintro e w11 ⟨rfl, hb⟩; have n0_ := Aside0.mk (blk_below (pG_ BK232.out) hb); have n1_ := Aside0.mk (below_step (pH_ HB.out) hb); clear BK232; clear HB; have BK232 := n0_; have HB := n1_; clear n0_ n1_; (try clear hb); have hcz12_0 : w11.cell? ⟨gb232, 0, none⟩ = some (.int .i64 a0_0) := (blk_cell BK232.out 0).trans rfl; have hcz12_1 : w11.cell? ⟨gb232, 1, none⟩ = some (.slice A0_1 l0_1.length c0_1) := (blk_cell BK232.out 1).trans rfl; have hfz12_0 := blk_frozen BK232.out 0; have hfz12_1 := blk_frozen BK232.out 1) | (go_at_call 13; (with_reducible refine (slots_Find.calls k a0_0 _ _ l0_1 a1 t235 t236 t239 t240 _ ?side1 ?side2 A5.out).mono ?_); (case side1 => repeat (first | exact (Kd.C_below HR0_1.out HB.out) | (with_reducible refine Kd.C_alloc ?_ _) | (with_reducible refine Kd.C_drewN ?_ _) | (with_reducible refine Kd.C_drew ?_))); (case side2 => exact HC0_1.out); rintro e w13 ⟨v237, rfl, ho0, hb⟩; have n0_ := Aside0.mk (Kd.R_lower ho0 (below_size (pH_ HB.out))); have n1_ := Aside0.mk (blk_below (pG_ BK232.out) hb); have n2_ := Aside0.mk (below_step (pH_ HB.out) hb); clear BK232; clear HB; have HO238 := n0_; have BK232 := n1_; have HB := n2_; clear n0_ n1_ n2_; (try clear hb); (try clear ho0)) | ((with_reducible refine gate_dst (N := 5) rfl ?_); (try (refine gate_guard (by rfl) ?_; dsimp only)); refine box_event ?hg (N := 5) ?hd (cs := #[.int .i64 0, .slice none 0 0]) (t := 24) ?hr ?_; (case hd => rfl); (case hg => rfl); (case hr => first | (go_simp; done) | (go_simp; rfl)); intro gb241 hg w14 hbox hb; have n0_ := Aside0.mk (Kd.R_below (pL_ HO238.out) hb); have n1_ := Aside0.mk (blk_below (pG_ BK232.out) hb); have n2_ := Aside0.mk (below_step (pH_ HB.out) hb); have n3_ := Aside0.mk (hbox); have n4_ := Aside0.mk ((by rw [hg]; exact (below_size (pH_ HB.out)) : w.heap.size ≤ gb241)); have n5_ := Aside0.mk ((by rw [hg]; exact (below_size (pH_ HB.out)) : w.heap.size ≤ gb241)); have n6_ := Aside0.mk ((by rw [hg]; exact Nat.ne_of_lt (blk_lt (pG_ BK232.out)) : gb232 ≠ gb241)); have n7_ := Aside0.mk ((by rw [hg]; exact Nat.ne_of_gt (blk_lt (pG_ BK232.out)) : gb241 ≠ gb232)); clear HO238; clear BK232; clear HB; have HO238 := n0_; have BK232 := n1_; have HB := n2_; have BK241 := n3_; have GW241 := n4_; have GE241 := n5_; have NB232_241 := n6_; have NB241_232 := n7_; clear n0_ n1_ n2_ n3_ n4_ n5_ n6_ n7_; clear hb hbox hg; have hnb15 := NB241_232.out; have hnc15 := NB232_241.out; have hcz16_0 : w14.cell? ⟨gb241, 0, none⟩ = some (.int .i64 0) := (blk_cell BK241.out 0).trans rfl; have hcz16_1 : w14.cell? ⟨gb241, 1, none⟩ = some (.slice none 0 0) := (blk_cell BK241.out 1).trans rfl; have hfz16_0 := blk_frozen BK241.out 0; have hfz16_1 := blk_frozen BK241.out 1; obtain ⟨Ao17, co17, eo17⟩ := Kd.R_slice HO238.out; subst eo17; have hcz18_0 : w14.cell? ⟨gb232, 0, none⟩ = some (.int .i64 a0_0) := (blk_cell BK232.out 0).trans rfl; have hcz18_1 : w14.cell? ⟨gb232, 1, none⟩ = some (.slice A0_1 l0_1.length c0_1) := (blk_cell BK232.out 1).trans rfl; have hfz18_0 := blk_frozen BK232.out 0; have hfz18_1 := blk_frozen BK232.out 1) | (go_at_call 26; (with_reducible refine (hashes_Place.calls a1 (l0_1.length : Int) t242 t243 _ A6.out).mono ?_); rintro e w' ⟨rfl, ⟨nd, rfl⟩⟩; (try first | exact ⟨rfl, _, World.drewN_drewN _ _ _⟩ | exact ⟨rfl, _, Eq.trans (World.drewN_drewN _ _ _) (congrArg (World.drewN _) (Nat.add_assoc _ _ _))⟩)) | (go_at_call 27; (with_reducible refine (hashes_Check.calls a1 t244 _ A7.out).mono ?_); rintro e w' ⟨rfl, ⟨nd, rfl⟩⟩; (try first | exact ⟨rfl, _, World.drewN_drewN _ _ _⟩ | exact ⟨rfl, _, Eq.trans (World.drewN_drewN _ _ _) (congrArg (World.drewN _) (Nat.add_assoc _ _ _))⟩))))
   (try simp only [Act.put, sA_, sZ_, sS_]); (with_reducible first | refine then_id_ ?_ | (refine wp_tail_ ?_; intro Kt_ hKt_))
   go_cut [92] (fun v92 wc => ∃ (kq : Nat) (x92_7 : Bool), v92 = .bool x92_7 ∧ Aside0 (bitloftlaw11_SlotsFound.j0 kq t239 t242 t244 x92_7 a0_0 l0_1 t235 t236 = some r) ∧ Aside0 (kq ≤ k) ∧ Aside0 (Kd.R k42 42 wc w.heap.size (fun _ => True) (.slice Ao17 t236.length co17) t236) ∧ Aside0 (wc.heap[gb232]? = some (.cells #[.int .i64 a0_0, (.slice A0_1 l0_1.length c0_1)] 24 (0, 0))) ∧ Aside0 (wc.heap[gb241]? = some (.cells #[.int .i64 t235, (.slice Ao17 t236.length co17)] 24 (0, 0))) ∧ Aside0 (Below w.heap.size w wc))
   case first =>
    as_aux_lemma =>
     have H := HC8.out; clear HC8
     by_cases c19 : t240 = 0
     ·
      as_aux_lemma =>
       rw [if_pos c19] at H; have c19b0 : (t240 == 0) = true := beq_iff_eq.mpr c19; have c19b1 : (t240 != 0) = false := bne_eq_false_iff_eq.mpr c19; clear c19; (first | rw [c19b0] | (simp only [i64_w, i32_w]; rw [c19b0]) | skip)
       by_cases c20 : t243 = 0
       ·
        as_aux_lemma =>
         rw [if_pos c20] at H; have c20b0 : (t243 == 0) = true := beq_iff_eq.mpr c20; have c20b1 : (t243 != 0) = false := bne_eq_false_iff_eq.mpr c20; clear c20
         by_cases c21 : t239 < 0
         ·
          rw [if_pos c21] at H; have c21b0 : decide (t239 < 0) = true := decide_eq_true c21; clear c21; exact absurd (H.trans (congrArg some HRT_.out)) (by first | (simp; done) | (generalize k = k_; cases k_ <;> simp [bitloftlaw11_SlotsFound.j0, bitloftlaw11_SlotsFound.l0, bitloftlaw11_SlotsFound.j2, bitloftlaw11_SlotsFound.j3, bitloftlaw11_SlotsFound.j4]))
         ·
          as_aux_lemma =>
           rw [if_neg c21] at H; have c21b0 : decide (t239 < 0) = false := decide_eq_false c21; clear c21
           by_cases c22 : t239 ≥ (l0_1.length : Int)
           ·
            rw [if_pos c22] at H; have c22b0 : decide ((l0_1.length : Int) ≤ t239) = true := decide_eq_true c22; clear c22; exact absurd (H.trans (congrArg some HRT_.out)) (by first | (simp; done) | (generalize k = k_; cases k_ <;> simp [bitloftlaw11_SlotsFound.j0, bitloftlaw11_SlotsFound.l0, bitloftlaw11_SlotsFound.j2, bitloftlaw11_SlotsFound.j3, bitloftlaw11_SlotsFound.j4]))
           ·
            as_aux_lemma =>
             rw [if_neg c22] at H; have c22b0 : decide ((l0_1.length : Int) ≤ t239) = false := decide_eq_false c22; clear c22
             by_cases c23 : (wrap64 (Int.tdiv t239 2)) = (wrap64 (Int.tdiv t242 2))
             ·
              as_aux_lemma =>
               rw [if_pos c23] at H; have c23b0 : ((wrap64 (Int.tdiv t239 2)) == (wrap64 (Int.tdiv t242 2))) = true := beq_iff_eq.mpr c23; have c23b1 : ((wrap64 (Int.tdiv t239 2)) != (wrap64 (Int.tdiv t242 2))) = false := bne_eq_false_iff_eq.mpr c23; clear c23
               by_cases c24 : t242 < 0
               ·
                rw [if_pos c24] at H; have c24b0 : decide (t242 < 0) = true := decide_eq_true c24; clear c24; exact absurd (H.trans (congrArg some HRT_.out)) (by first | (simp; done) | (generalize k = k_; cases k_ <;> simp [bitloftlaw11_SlotsFound.j0, bitloftlaw11_SlotsFound.l0, bitloftlaw11_SlotsFound.j2, bitloftlaw11_SlotsFound.j3, bitloftlaw11_SlotsFound.j4]))
               ·
                as_aux_lemma =>
                 rw [if_neg c24] at H; have c24b0 : decide (t242 < 0) = false := decide_eq_false c24; clear c24
                 by_cases c25 : t242 ≥ (l0_1.length : Int)
                 ·
                  rw [if_pos c25] at H; have c25b0 : decide ((l0_1.length : Int) ≤ t242) = true := decide_eq_true c25; clear c25; exact absurd (H.trans (congrArg some HRT_.out)) (by first | (simp; done) | (generalize k = k_; cases k_ <;> simp [bitloftlaw11_SlotsFound.j0, bitloftlaw11_SlotsFound.l0, bitloftlaw11_SlotsFound.j2, bitloftlaw11_SlotsFound.j3, bitloftlaw11_SlotsFound.j4]))
                 ·
                  as_aux_lemma =>
                   rw [if_neg c25] at H; have c25b0 : decide ((l0_1.length : Int) ≤ t242) = false := decide_eq_false c25; clear c25
                   by_cases c26 : (t236.length : Int) = (l0_1.length : Int)
                   ·
                    as_aux_lemma =>
                     rw [if_pos c26] at H; have c26b0 : ((t236.length : Int) == (l0_1.length : Int)) = true := beq_iff_eq.mpr c26; have c26b1 : ((t236.length : Int) != (l0_1.length : Int)) = false := bne_eq_false_iff_eq.mpr c26
                     have c26b2 : (t236.length == l0_1.length) = true := by first | simpa using c26 | (simp at c26 ⊢; omega)
                     clear c26
                     by_cases c27 : 0 ≤ t239
                     ·
                      as_aux_lemma =>
                       rw [if_pos c27] at H; have c27b0 : decide (0 ≤ t239) = true := decide_eq_true c27; clear c27
                       by_cases c28 : t239 < (t236.length : Int)
                       ·
                        as_aux_lemma =>
                         rw [if_pos c28] at H; have c28b0 : decide (t239 < (t236.length : Int)) = true := decide_eq_true c28; clear c28; have H' := Aside0.mk H; clear H; have hnb29 := NB232_241.out; have hnc29 := NB241_232.out; have hcz30_0 : w14.cell? ⟨gb232, 0, none⟩ = some (.int .i64 a0_0) := (blk_cell BK232.out 0).trans rfl; have hcz30_1 : w14.cell? ⟨gb232, 1, none⟩ = some (.slice A0_1 l0_1.length c0_1) := (blk_cell BK232.out 1).trans rfl; have hfz30_0 := blk_frozen BK232.out 0; have hfz30_1 := blk_frozen BK232.out 1; have hcz31_0 : w14.cell? ⟨gb241, 0, none⟩ = some (.int .i64 0) := (blk_cell BK241.out 0).trans rfl; have hcz31_1 : w14.cell? ⟨gb241, 1, none⟩ = some (.slice none 0 0) := (blk_cell BK241.out 1).trans rfl; have hfz31_0 := blk_frozen BK241.out 0; have hfz31_1 := blk_frozen BK241.out 1; have p245 : 0 ≤ (t239 : Int) := of_decide_eq_true (by first | (with_reducible assumption) | assumption); have q245 : t239 < (t236.length : Int) := of_decide_eq_true (by first | (with_reducible assumption) | assumption); obtain ⟨ad245, e245, hx245_0, hx245_1, hx245_2, hx245_3, hx245_4, hx245_5, hx245_6, hx245_7, hx245_8, hx245_9, hx245_10, hx245_11, hx245_12, hx245_13, hx245_14, hx245_15⟩ := at_T42 (Kd.R_reads' HO238.out).2.2 t239 p245 q245
                         cases e245
                         have hn245_0 : ad245.block ≠ gb241 := Kd.own_blk (Kd.R_ne HO238.out BK241.out (by decide)); have hn245_1 : ad245.block ≠ gb241 := Kd.own_blk (Kd.R_ne HO238.out BK241.out (by decide)); replace hx245_0 := (cell_far (p := ⟨gb241, 0, none⟩) (by first | (rw [add_block]; exact hn245_0) | (show (Addr.add _ _).block ≠ _; rw [add_block]; exact hn245_0) | exact hn245_0) (.int .i64 t235)).trans hx245_0; replace hx245_1 := (cell_far (p := ⟨gb241, 0, none⟩) (by first | (rw [add_block]; exact hn245_0) | (show (Addr.add _ _).block ≠ _; rw [add_block]; exact hn245_0) | exact hn245_0) (.int .i64 t235)).trans hx245_1; replace hx245_2 := (cell_far (p := ⟨gb241, 0, none⟩) (by first | (rw [add_block]; exact hn245_0) | (show (Addr.add _ _).block ≠ _; rw [add_block]; exact hn245_0) | exact hn245_0) (.int .i64 t235)).trans hx245_2; replace hx245_3 := (cell_far (p := ⟨gb241, 0, none⟩) (by first | (rw [add_block]; exact hn245_0) | (show (Addr.add _ _).block ≠ _; rw [add_block]; exact hn245_0) | exact hn245_0) (.int .i64 t235)).trans hx245_3; replace hx245_4 := (cell_far (p := ⟨gb241, 0, none⟩) (by first | (rw [add_block]; exact hn245_0) | (show (Addr.add _ _).block ≠ _; rw [add_block]; exact hn245_0) | exact hn245_0) (.int .i64 t235)).trans hx245_4; replace hx245_5 := (cell_far (p := ⟨gb241, 0, none⟩) (by first | (rw [add_block]; exact hn245_0) | (show (Addr.add _ _).block ≠ _; rw [add_block]; exact hn245_0) | exact hn245_0) (.int .i64 t235)).trans hx245_5; replace hx245_6 := (cell_far (p := ⟨gb241, 0, none⟩) (by first | (rw [add_block]; exact hn245_0) | (show (Addr.add _ _).block ≠ _; rw [add_block]; exact hn245_0) | exact hn245_0) (.int .i64 t235)).trans hx245_6; replace hx245_7 := (cell_far (p := ⟨gb241, 0, none⟩) (by first | (rw [add_block]; exact hn245_0) | (show (Addr.add _ _).block ≠ _; rw [add_block]; exact hn245_0) | exact hn245_0) (.int .i64 t235)).trans hx245_7; replace hx245_8 := (cell_far (p := ⟨gb241, 0, none⟩) (by first | (rw [add_block]; exact hn245_0) | (show (Addr.add _ _).block ≠ _; rw [add_block]; exact hn245_0) | exact hn245_0) (.int .i64 t235)).trans hx245_8; replace hx245_9 := (cell_far (p := ⟨gb241, 0, none⟩) (by first | (rw [add_block]; exact hn245_0) | (show (Addr.add _ _).block ≠ _; rw [add_block]; exact hn245_0) | exact hn245_0) (.int .i64 t235)).trans hx245_9; replace hx245_10 := (cell_far (p := ⟨gb241, 0, none⟩) (by first | (rw [add_block]; exact hn245_0) | (show (Addr.add _ _).block ≠ _; rw [add_block]; exact hn245_0) | exact hn245_0) (.int .i64 t235)).trans hx245_10; replace hx245_11 := (cell_far (p := ⟨gb241, 0, none⟩) (by first | (rw [add_block]; exact hn245_0) | (show (Addr.add _ _).block ≠ _; rw [add_block]; exact hn245_0) | exact hn245_0) (.int .i64 t235)).trans hx245_11; replace hx245_12 := (cell_far (p := ⟨gb241, 0, none⟩) (by first | (rw [add_block]; exact hn245_0) | (show (Addr.add _ _).block ≠ _; rw [add_block]; exact hn245_0) | exact hn245_0) (.int .i64 t235)).trans hx245_12; replace hx245_13 := (cell_far (p := ⟨gb241, 0, none⟩) (by first | (rw [add_block]; exact hn245_0) | (show (Addr.add _ _).block ≠ _; rw [add_block]; exact hn245_0) | exact hn245_0) (.int .i64 t235)).trans hx245_13; replace hx245_14 := (cell_far (p := ⟨gb241, 0, none⟩) (by first | (rw [add_block]; exact hn245_0) | (show (Addr.add _ _).block ≠ _; rw [add_block]; exact hn245_0) | exact hn245_0) (.int .i64 t235)).trans hx245_14; replace hx245_15 := (cell_far (p := ⟨gb241, 0, none⟩) (by first | (rw [add_block]; exact hn245_0) | (show (Addr.add _ _).block ≠ _; rw [add_block]; exact hn245_0) | exact hn245_0) (.int .i64 t235)).trans hx245_15; replace hx245_0 := (cell_far (p := ⟨gb241, 1, none⟩) (by first | (rw [add_block]; exact hn245_1) | (show (Addr.add _ _).block ≠ _; rw [add_block]; exact hn245_1) | exact hn245_1) (.slice (some ad245) t236.length co17)).trans hx245_0; replace hx245_1 := (cell_far (p := ⟨gb241, 1, none⟩) (by first | (rw [add_block]; exact hn245_1) | (show (Addr.add _ _).block ≠ _; rw [add_block]; exact hn245_1) | exact hn245_1) (.slice (some ad245) t236.length co17)).trans hx245_1; replace hx245_2 := (cell_far (p := ⟨gb241, 1, none⟩) (by first | (rw [add_block]; exact hn245_1) | (show (Addr.add _ _).block ≠ _; rw [add_block]; exact hn245_1) | exact hn245_1) (.slice (some ad245) t236.length co17)).trans hx245_2; replace hx245_3 := (cell_far (p := ⟨gb241, 1, none⟩) (by first | (rw [add_block]; exact hn245_1) | (show (Addr.add _ _).block ≠ _; rw [add_block]; exact hn245_1) | exact hn245_1) (.slice (some ad245) t236.length co17)).trans hx245_3; replace hx245_4 := (cell_far (p := ⟨gb241, 1, none⟩) (by first | (rw [add_block]; exact hn245_1) | (show (Addr.add _ _).block ≠ _; rw [add_block]; exact hn245_1) | exact hn245_1) (.slice (some ad245) t236.length co17)).trans hx245_4; replace hx245_5 := (cell_far (p := ⟨gb241, 1, none⟩) (by first | (rw [add_block]; exact hn245_1) | (show (Addr.add _ _).block ≠ _; rw [add_block]; exact hn245_1) | exact hn245_1) (.slice (some ad245) t236.length co17)).trans hx245_5; replace hx245_6 := (cell_far (p := ⟨gb241, 1, none⟩) (by first | (rw [add_block]; exact hn245_1) | (show (Addr.add _ _).block ≠ _; rw [add_block]; exact hn245_1) | exact hn245_1) (.slice (some ad245) t236.length co17)).trans hx245_6; replace hx245_7 := (cell_far (p := ⟨gb241, 1, none⟩) (by first | (rw [add_block]; exact hn245_1) | (show (Addr.add _ _).block ≠ _; rw [add_block]; exact hn245_1) | exact hn245_1) (.slice (some ad245) t236.length co17)).trans hx245_7; replace hx245_8 := (cell_far (p := ⟨gb241, 1, none⟩) (by first | (rw [add_block]; exact hn245_1) | (show (Addr.add _ _).block ≠ _; rw [add_block]; exact hn245_1) | exact hn245_1) (.slice (some ad245) t236.length co17)).trans hx245_8; replace hx245_9 := (cell_far (p := ⟨gb241, 1, none⟩) (by first | (rw [add_block]; exact hn245_1) | (show (Addr.add _ _).block ≠ _; rw [add_block]; exact hn245_1) | exact hn245_1) (.slice (some ad245) t236.length co17)).trans hx245_9; replace hx245_10 := (cell_far (p := ⟨gb241, 1, none⟩) (by first | (rw [add_block]; exact hn245_1) | (show (Addr.add _ _).block ≠ _; rw [add_block]; exact hn245_1) | exact hn245_1) (.slice (some ad245) t236.length co17)).trans hx245_10; replace hx245_11 := (cell_far (p := ⟨gb241, 1, none⟩) (by first | (rw [add_block]; exact hn245_1) | (show (Addr.add _ _).block ≠ _; rw [add_block]; exact hn245_1) | exact hn245_1) (.slice (some ad245) t236.length co17)).trans hx245_11; replace hx245_12 := (cell_far (p := ⟨gb241, 1, none⟩) (by first | (rw [add_block]; exact hn245_1) | (show (Addr.add _ _).block ≠ _; rw [add_block]; exact hn245_1) | exact hn245_1) (.slice (some ad245) t236.length co17)).trans hx245_12; replace hx245_13 := (cell_far (p := ⟨gb241, 1, none⟩) (by first | (rw [add_block]; exact hn245_1) | (show (Addr.add _ _).block ≠ _; rw [add_block]; exact hn245_1) | exact hn245_1) (.slice (some ad245) t236.length co17)).trans hx245_13; replace hx245_14 := (cell_far (p := ⟨gb241, 1, none⟩) (by first | (rw [add_block]; exact hn245_1) | (show (Addr.add _ _).block ≠ _; rw [add_block]; exact hn245_1) | exact hn245_1) (.slice (some ad245) t236.length co17)).trans hx245_14; replace hx245_15 := (cell_far (p := ⟨gb241, 1, none⟩) (by first | (rw [add_block]; exact hn245_1) | (show (Addr.add _ _).block ≠ _; rw [add_block]; exact hn245_1) | exact hn245_1) (.slice (some ad245) t236.length co17)).trans hx245_15; (try have hy245_0 := fun (n_ : Nat) => (show ((((w14.drewN n_).setCell ⟨gb241, 0, none⟩ (.int .i64 t235)).setCell ⟨gb241, 1, none⟩ (.slice (some ad245) t236.length co17))).cell? _ = some _ from hx245_0)); (try have hy245_1 := fun (n_ : Nat) => (show ((((w14.drewN n_).setCell ⟨gb241, 0, none⟩ (.int .i64 t235)).setCell ⟨gb241, 1, none⟩ (.slice (some ad245) t236.length co17))).cell? _ = some _ from hx245_1)); (try have hy245_2 := fun (n_ : Nat) => (show ((((w14.drewN n_).setCell ⟨gb241, 0, none⟩ (.int .i64 t235)).setCell ⟨gb241, 1, none⟩ (.slice (some ad245) t236.length co17))).cell? _ = some _ from hx245_2)); (try have hy245_3 := fun (n_ : Nat) => (show ((((w14.drewN n_).setCell ⟨gb241, 0, none⟩ (.int .i64 t235)).setCell ⟨gb241, 1, none⟩ (.slice (some ad245) t236.length co17))).cell? _ = some _ from hx245_3)); (try have hy245_4 := fun (n_ : Nat) => (show ((((w14.drewN n_).setCell ⟨gb241, 0, none⟩ (.int .i64 t235)).setCell ⟨gb241, 1, none⟩ (.slice (some ad245) t236.length co17))).cell? _ = some _ from hx245_4)); (try have hy245_5 := fun (n_ : Nat) => (show ((((w14.drewN n_).setCell ⟨gb241, 0, none⟩ (.int .i64 t235)).setCell ⟨gb241, 1, none⟩ (.slice (some ad245) t236.length co17))).cell? _ = some _ from hx245_5)); (try have hy245_6 := fun (n_ : Nat) => (show ((((w14.drewN n_).setCell ⟨gb241, 0, none⟩ (.int .i64 t235)).setCell ⟨gb241, 1, none⟩ (.slice (some ad245) t236.length co17))).cell? _ = some _ from hx245_6)); (try have hy245_7 := fun (n_ : Nat) => (show ((((w14.drewN n_).setCell ⟨gb241, 0, none⟩ (.int .i64 t235)).setCell ⟨gb241, 1, none⟩ (.slice (some ad245) t236.length co17))).cell? _ = some _ from hx245_7)); (try have hy245_8 := fun (n_ : Nat) => (show ((((w14.drewN n_).setCell ⟨gb241, 0, none⟩ (.int .i64 t235)).setCell ⟨gb241, 1, none⟩ (.slice (some ad245) t236.length co17))).cell? _ = some _ from hx245_8)); (try have hy245_9 := fun (n_ : Nat) => (show ((((w14.drewN n_).setCell ⟨gb241, 0, none⟩ (.int .i64 t235)).setCell ⟨gb241, 1, none⟩ (.slice (some ad245) t236.length co17))).cell? _ = some _ from hx245_9)); (try have hy245_10 := fun (n_ : Nat) => (show ((((w14.drewN n_).setCell ⟨gb241, 0, none⟩ (.int .i64 t235)).setCell ⟨gb241, 1, none⟩ (.slice (some ad245) t236.length co17))).cell? _ = some _ from hx245_10)); (try have hy245_11 := fun (n_ : Nat) => (show ((((w14.drewN n_).setCell ⟨gb241, 0, none⟩ (.int .i64 t235)).setCell ⟨gb241, 1, none⟩ (.slice (some ad245) t236.length co17))).cell? _ = some _ from hx245_11)); (try have hy245_12 := fun (n_ : Nat) => (show ((((w14.drewN n_).setCell ⟨gb241, 0, none⟩ (.int .i64 t235)).setCell ⟨gb241, 1, none⟩ (.slice (some ad245) t236.length co17))).cell? _ = some _ from hx245_12)); (try have hy245_13 := fun (n_ : Nat) => (show ((((w14.drewN n_).setCell ⟨gb241, 0, none⟩ (.int .i64 t235)).setCell ⟨gb241, 1, none⟩ (.slice (some ad245) t236.length co17))).cell? _ = some _ from hx245_13)); (try have hy245_14 := fun (n_ : Nat) => (show ((((w14.drewN n_).setCell ⟨gb241, 0, none⟩ (.int .i64 t235)).setCell ⟨gb241, 1, none⟩ (.slice (some ad245) t236.length co17))).cell? _ = some _ from hx245_14)); (try have hy245_15 := fun (n_ : Nat) => (show ((((w14.drewN n_).setCell ⟨gb241, 0, none⟩ (.int .i64 t235)).setCell ⟨gb241, 1, none⟩ (.slice (some ad245) t236.length co17))).cell? _ = some _ from hx245_15)); clear hn245_0; clear hn245_1; replace p245 := eq_true p245; replace q245 := eq_true q245
                         go_wp2
                         repeat (go_quiet (fail); try go_wp2)
                         (first | go_meet | (refine Met.intro ?_; go_step; (repeat apply Exists.intro); refine ⟨?rel, ?eqf_⟩; case eqf_ => ((simp only [c28b0, c27b0, c26b0, c25b0, c24b0, c23b0, c22b0, c21b0, c20b0, c19b0]) <;> rfl)))
                         case rel => exact ⟨_, ((((rd_T42 t236 t239).f0) != t244)), (by first | rfl | (simp; done) | (simp [*]; done)), H', ⟨by first | omega | exact Nat.le_refl _⟩, ⟨by (with_reducible repeat (first | apply rA_ | apply rN_ | apply rD_)); exact Kd.R_mono (Kd.R_far (p := ⟨gb241, 1, none⟩) (Kd.R_far (p := ⟨gb241, 0, none⟩) (Kd.R_types HO238.out BK241.out (by decide)) (fun _ hk => hk.2) (.int .i64 t235)) (fun _ hk => hk.2) (.slice (some ad245) t236.length co17)) (fun _ hk => trivial)⟩, ⟨by (with_reducible repeat (first | refine blk_drewN ?_ _ | refine blk_drew ?_ | refine blk_alloc ?_ _)); refine blk_far ?_ NB232_241.out _; (with_reducible repeat (first | refine blk_drewN ?_ _ | refine blk_drew ?_ | refine blk_alloc ?_ _)); refine blk_far ?_ NB232_241.out _; (with_reducible repeat (first | refine blk_drewN ?_ _ | refine blk_drew ?_ | refine blk_alloc ?_ _)); exact BK232.out⟩, ⟨by (with_reducible repeat (first | refine blk_drewN ?_ _ | refine blk_drew ?_ | refine blk_alloc ?_ _)); refine blk_put (cs := #[.int .i64 t235, .slice none 0 0]) ?_ 1 _ rfl; (with_reducible repeat (first | refine blk_drewN ?_ _ | refine blk_drew ?_ | refine blk_alloc ?_ _)); refine blk_put (cs := #[.int .i64 0, .slice none 0 0]) ?_ 0 _ rfl; (with_reducible repeat (first | refine blk_drewN ?_ _ | refine blk_drew ?_ | refine blk_alloc ?_ _)); exact BK241.out⟩, ⟨pH_ HB.out⟩⟩
                       ·
                        rw [if_neg c28] at H; exact absurd H (by simp)
                     ·
                      rw [if_neg c27] at H; exact absurd H (by simp)
                   ·
                    rw [if_neg c26] at H; have c26b0 : ((t236.length : Int) == (l0_1.length : Int)) = false := beq_eq_false_iff_ne.mpr c26; have c26b1 : ((t236.length : Int) != (l0_1.length : Int)) = true := bne_iff_ne.mpr c26
                    have c26b2 : (t236.length == l0_1.length) = false := by first | simpa using c26 | (simp at c26 ⊢; omega)
                    exact absurd (H.trans (congrArg some HRT_.out)) (by first | (simp; done) | (generalize k = k_; cases k_ <;> simp [bitloftlaw11_SlotsFound.j0, bitloftlaw11_SlotsFound.l0, bitloftlaw11_SlotsFound.j2, bitloftlaw11_SlotsFound.j3, bitloftlaw11_SlotsFound.j4]))
             ·
              rw [if_neg c23] at H; have c23b0 : ((wrap64 (Int.tdiv t239 2)) == (wrap64 (Int.tdiv t242 2))) = false := beq_eq_false_iff_ne.mpr c23; have c23b1 : ((wrap64 (Int.tdiv t239 2)) != (wrap64 (Int.tdiv t242 2))) = true := bne_iff_ne.mpr c23; exact absurd (H.trans (congrArg some HRT_.out)) (by first | (simp; done) | (generalize k = k_; cases k_ <;> simp [bitloftlaw11_SlotsFound.j0, bitloftlaw11_SlotsFound.l0, bitloftlaw11_SlotsFound.j2, bitloftlaw11_SlotsFound.j3, bitloftlaw11_SlotsFound.j4]))
       ·
        rw [if_neg c20] at H; have c20b0 : (t243 == 0) = false := beq_eq_false_iff_ne.mpr c20; have c20b1 : (t243 != 0) = true := bne_iff_ne.mpr c20; exact absurd (H.trans (congrArg some HRT_.out)) (by first | (simp; done) | (generalize k = k_; cases k_ <;> simp [bitloftlaw11_SlotsFound.j0, bitloftlaw11_SlotsFound.l0, bitloftlaw11_SlotsFound.j2, bitloftlaw11_SlotsFound.j3, bitloftlaw11_SlotsFound.j4]))
     ·
      rw [if_neg c19] at H; have c19b0 : (t240 == 0) = false := beq_eq_false_iff_ne.mpr c19; have c19b1 : (t240 != 0) = true := bne_iff_ne.mpr c19; (first | rw [c19b0] | (simp only [i64_w, i32_w]; rw [c19b0]) | skip); exact absurd (H.trans (congrArg some HRT_.out)) (by first | (simp; done) | (generalize k = k_; cases k_ <;> simp [bitloftlaw11_SlotsFound.j0, bitloftlaw11_SlotsFound.l0, bitloftlaw11_SlotsFound.j2, bitloftlaw11_SlotsFound.j3, bitloftlaw11_SlotsFound.j4]))
   case rest =>
    as_aux_lemma =>
     (try (refine hKt_ _ _ ?_; clear hKt_; clear Kt_)); clear HC8
     try clear c1
     try clear c2
     try clear p2
     try clear q2
     try clear hx2
     try clear c4
     try clear c6
     try clear p6
     try clear c15
     try clear c19
     try clear c19b0
     try clear c19b1
     try clear c20
     try clear c20b0
     try clear c20b1
     try clear c21
     try clear c21b0
     try clear c22
     try clear c22b0
     try clear c23
     try clear c23b0
     try clear c23b1
     try clear c24
     try clear c24b0
     try clear p24
     try clear q24
     try clear hx24
     try clear c25
     try clear c25b0
     try clear c26
     try clear c26b0
     try clear c26b1
     try clear c26b2
     try clear c27
     try clear c27b0
     try clear c28
     try clear c28b0
     try clear c29
     try clear hcz10_0
     try clear hcz10_1
     try clear hcz12_0
     try clear hcz12_1
     try clear hcz16_0
     try clear hcz16_1
     try clear hcz18_0
     try clear hcz18_1
     try clear hcz30_0
     try clear hcz30_1
     try clear hcz31_0
     try clear hcz31_1
     try clear hfz10_0
     try clear hfz10_1
     try clear hfz12_0
     try clear hfz12_1
     try clear hfz16_0
     try clear hfz16_1
     try clear hfz18_0
     try clear hfz18_1
     try clear hfz30_0
     try clear hfz30_1
     try clear hfz31_0
     try clear hfz31_1
     try clear hx245_0
     try clear hx245_1
     try clear hx245_10
     try clear hx245_11
     try clear hx245_12
     try clear hx245_13
     try clear hx245_14
     try clear hx245_15
     try clear hx245_2
     try clear hx245_3
     try clear hx245_4
     try clear hx245_5
     try clear hx245_6
     try clear hx245_7
     try clear hx245_8
     try clear hx245_9
     try clear p245
     try clear q245
     obtain ⟨kq, x92_7, rfl, HA, HJ7, HO_242001, BK232, BK241, HB⟩ := hcut
     cases kq with
     | zero => exact absurd HA.out (by simp [bitloftlaw11_SlotsFound.j0])
     | succ kj7 =>
      have H := HA.out; clear HA; simp only [bitloftlaw11_SlotsFound.j0] at H
      by_cases c32 : x92_7 = true
      ·
       subst c32
       have H1 : (some false) = some r := by rw [if_pos rfl] at H; exact H
       clear H; have H := H1; clear H1; exact absurd (H.trans (congrArg some HRT_.out)) (by simp)
      ·
       as_aux_lemma =>
        replace c32 := Bool.eq_false_iff.mpr c32
        subst c32
        have H1 : ((bitloftref11_Beside.f t239).bind fun t246 => (if 0 ≤ t239 then (if t239 < (l0_1.length : Int) then (bitloftlaw11_SlotsFound.l0 kj7 t239 t242 t244 t246 (((rd_T42 l0_1 t239).f0) == t244) 0 a0_0 l0_1 t235 t236) else (none)) else (none))) = some r := by rw [if_neg (show ¬ (false = true) by decide)] at H; exact H
        clear H; have H := H1; clear H1; replace H := Option.bind_eq_some_iff.mp H; obtain ⟨t246, A330, H⟩ := H; replace H : (if 0 ≤ t239 then (if t239 < (l0_1.length : Int) then (bitloftlaw11_SlotsFound.l0 kj7 t239 t242 t244 t246 (((rd_T42 l0_1 t239).f0) == t244) 0 a0_0 l0_1 t235 t236) else (none)) else (none)) = some r := H; have A33 := Aside0.mk A330; clear A330
        by_cases c34 : 0 ≤ t239
        ·
         as_aux_lemma =>
          rw [if_pos c34] at H; have c34b0 : decide (0 ≤ t239) = true := decide_eq_true c34; clear c34
          by_cases c35 : t239 < (l0_1.length : Int)
          ·
           as_aux_lemma =>
            rw [if_pos c35] at H; have c35b0 : decide (t239 < (l0_1.length : Int)) = true := decide_eq_true c35; clear c35; have H' := Aside0.mk H; clear H
            go_wp2_with (first | (go_at_call 28; (with_reducible refine (bitloftref11_Beside.calls t239 t246 _ A33.out).mono ?_); rintro e w' ⟨rfl, ⟨nd, rfl⟩⟩; (try first | exact ⟨rfl, _, World.drewN_drewN _ _ _⟩ | exact ⟨rfl, _, Eq.trans (World.drewN_drewN _ _ _) (congrArg (World.drewN _) (Nat.add_assoc _ _ _))⟩); have hnb36 := NB232_241.out; have hnc36 := NB241_232.out; have hcz37_0 : wc.cell? ⟨gb232, 0, none⟩ = some (.int .i64 a0_0) := (blk_cell BK232.out 0).trans rfl; have hcz37_1 : wc.cell? ⟨gb232, 1, none⟩ = some (.slice A0_1 l0_1.length c0_1) := (blk_cell BK232.out 1).trans rfl; have hfz37_0 := blk_frozen BK232.out 0; have hfz37_1 := blk_frozen BK232.out 1; have p247 : 0 ≤ (t239 : Int) := of_decide_eq_true (by first | (with_reducible assumption) | assumption); have q247 : t239 < (l0_1.length : Int) := of_decide_eq_true (by first | (with_reducible assumption) | assumption); obtain ⟨ad247, e247, hx247_0, hx247_1, hx247_2, hx247_3, hx247_4, hx247_5, hx247_6, hx247_7, hx247_8, hx247_9, hx247_10, hx247_11, hx247_12, hx247_13, hx247_14, hx247_15⟩ := at_T42 HR0_1.out t239 p247 q247; cases e247; replace hx247_0 := (HB.out.cell (World.block_lt_of_cell? w _ hx247_0)).trans hx247_0; replace hx247_1 := (HB.out.cell (World.block_lt_of_cell? w _ hx247_1)).trans hx247_1; replace hx247_2 := (HB.out.cell (World.block_lt_of_cell? w _ hx247_2)).trans hx247_2; replace hx247_3 := (HB.out.cell (World.block_lt_of_cell? w _ hx247_3)).trans hx247_3; replace hx247_4 := (HB.out.cell (World.block_lt_of_cell? w _ hx247_4)).trans hx247_4; replace hx247_5 := (HB.out.cell (World.block_lt_of_cell? w _ hx247_5)).trans hx247_5; replace hx247_6 := (HB.out.cell (World.block_lt_of_cell? w _ hx247_6)).trans hx247_6; replace hx247_7 := (HB.out.cell (World.block_lt_of_cell? w _ hx247_7)).trans hx247_7; replace hx247_8 := (HB.out.cell (World.block_lt_of_cell? w _ hx247_8)).trans hx247_8; replace hx247_9 := (HB.out.cell (World.block_lt_of_cell? w _ hx247_9)).trans hx247_9; replace hx247_10 := (HB.out.cell (World.block_lt_of_cell? w _ hx247_10)).trans hx247_10; replace hx247_11 := (HB.out.cell (World.block_lt_of_cell? w _ hx247_11)).trans hx247_11; replace hx247_12 := (HB.out.cell (World.block_lt_of_cell? w _ hx247_12)).trans hx247_12; replace hx247_13 := (HB.out.cell (World.block_lt_of_cell? w _ hx247_13)).trans hx247_13; replace hx247_14 := (HB.out.cell (World.block_lt_of_cell? w _ hx247_14)).trans hx247_14; replace hx247_15 := (HB.out.cell (World.block_lt_of_cell? w _ hx247_15)).trans hx247_15; replace p247 := eq_true p247; replace q247 := eq_true q247))
            repeat (go_quiet (first | (go_at_call 28; (with_reducible refine (bitloftref11_Beside.calls t239 t246 _ A33.out).mono ?_); rintro e w' ⟨rfl, ⟨nd, rfl⟩⟩; (try first | exact ⟨rfl, _, World.drewN_drewN _ _ _⟩ | exact ⟨rfl, _, Eq.trans (World.drewN_drewN _ _ _) (congrArg (World.drewN _) (Nat.add_assoc _ _ _))⟩); have hnb36 := NB232_241.out; have hnc36 := NB241_232.out; have hcz37_0 : wc.cell? ⟨gb232, 0, none⟩ = some (.int .i64 a0_0) := (blk_cell BK232.out 0).trans rfl; have hcz37_1 : wc.cell? ⟨gb232, 1, none⟩ = some (.slice A0_1 l0_1.length c0_1) := (blk_cell BK232.out 1).trans rfl; have hfz37_0 := blk_frozen BK232.out 0; have hfz37_1 := blk_frozen BK232.out 1; have p247 : 0 ≤ (t239 : Int) := of_decide_eq_true (by first | (with_reducible assumption) | assumption); have q247 : t239 < (l0_1.length : Int) := of_decide_eq_true (by first | (with_reducible assumption) | assumption); obtain ⟨ad247, e247, hx247_0, hx247_1, hx247_2, hx247_3, hx247_4, hx247_5, hx247_6, hx247_7, hx247_8, hx247_9, hx247_10, hx247_11, hx247_12, hx247_13, hx247_14, hx247_15⟩ := at_T42 HR0_1.out t239 p247 q247; cases e247; replace hx247_0 := (HB.out.cell (World.block_lt_of_cell? w _ hx247_0)).trans hx247_0; replace hx247_1 := (HB.out.cell (World.block_lt_of_cell? w _ hx247_1)).trans hx247_1; replace hx247_2 := (HB.out.cell (World.block_lt_of_cell? w _ hx247_2)).trans hx247_2; replace hx247_3 := (HB.out.cell (World.block_lt_of_cell? w _ hx247_3)).trans hx247_3; replace hx247_4 := (HB.out.cell (World.block_lt_of_cell? w _ hx247_4)).trans hx247_4; replace hx247_5 := (HB.out.cell (World.block_lt_of_cell? w _ hx247_5)).trans hx247_5; replace hx247_6 := (HB.out.cell (World.block_lt_of_cell? w _ hx247_6)).trans hx247_6; replace hx247_7 := (HB.out.cell (World.block_lt_of_cell? w _ hx247_7)).trans hx247_7; replace hx247_8 := (HB.out.cell (World.block_lt_of_cell? w _ hx247_8)).trans hx247_8; replace hx247_9 := (HB.out.cell (World.block_lt_of_cell? w _ hx247_9)).trans hx247_9; replace hx247_10 := (HB.out.cell (World.block_lt_of_cell? w _ hx247_10)).trans hx247_10; replace hx247_11 := (HB.out.cell (World.block_lt_of_cell? w _ hx247_11)).trans hx247_11; replace hx247_12 := (HB.out.cell (World.block_lt_of_cell? w _ hx247_12)).trans hx247_12; replace hx247_13 := (HB.out.cell (World.block_lt_of_cell? w _ hx247_13)).trans hx247_13; replace hx247_14 := (HB.out.cell (World.block_lt_of_cell? w _ hx247_14)).trans hx247_14; replace hx247_15 := (HB.out.cell (World.block_lt_of_cell? w _ hx247_15)).trans hx247_15; replace p247 := eq_true p247; replace q247 := eq_true q247)); try go_wp2_with (first | (go_at_call 28; (with_reducible refine (bitloftref11_Beside.calls t239 t246 _ A33.out).mono ?_); rintro e w' ⟨rfl, ⟨nd, rfl⟩⟩; (try first | exact ⟨rfl, _, World.drewN_drewN _ _ _⟩ | exact ⟨rfl, _, Eq.trans (World.drewN_drewN _ _ _) (congrArg (World.drewN _) (Nat.add_assoc _ _ _))⟩); have hnb36 := NB232_241.out; have hnc36 := NB241_232.out; have hcz37_0 : wc.cell? ⟨gb232, 0, none⟩ = some (.int .i64 a0_0) := (blk_cell BK232.out 0).trans rfl; have hcz37_1 : wc.cell? ⟨gb232, 1, none⟩ = some (.slice A0_1 l0_1.length c0_1) := (blk_cell BK232.out 1).trans rfl; have hfz37_0 := blk_frozen BK232.out 0; have hfz37_1 := blk_frozen BK232.out 1; have p247 : 0 ≤ (t239 : Int) := of_decide_eq_true (by first | (with_reducible assumption) | assumption); have q247 : t239 < (l0_1.length : Int) := of_decide_eq_true (by first | (with_reducible assumption) | assumption); obtain ⟨ad247, e247, hx247_0, hx247_1, hx247_2, hx247_3, hx247_4, hx247_5, hx247_6, hx247_7, hx247_8, hx247_9, hx247_10, hx247_11, hx247_12, hx247_13, hx247_14, hx247_15⟩ := at_T42 HR0_1.out t239 p247 q247; cases e247; replace hx247_0 := (HB.out.cell (World.block_lt_of_cell? w _ hx247_0)).trans hx247_0; replace hx247_1 := (HB.out.cell (World.block_lt_of_cell? w _ hx247_1)).trans hx247_1; replace hx247_2 := (HB.out.cell (World.block_lt_of_cell? w _ hx247_2)).trans hx247_2; replace hx247_3 := (HB.out.cell (World.block_lt_of_cell? w _ hx247_3)).trans hx247_3; replace hx247_4 := (HB.out.cell (World.block_lt_of_cell? w _ hx247_4)).trans hx247_4; replace hx247_5 := (HB.out.cell (World.block_lt_of_cell? w _ hx247_5)).trans hx247_5; replace hx247_6 := (HB.out.cell (World.block_lt_of_cell? w _ hx247_6)).trans hx247_6; replace hx247_7 := (HB.out.cell (World.block_lt_of_cell? w _ hx247_7)).trans hx247_7; replace hx247_8 := (HB.out.cell (World.block_lt_of_cell? w _ hx247_8)).trans hx247_8; replace hx247_9 := (HB.out.cell (World.block_lt_of_cell? w _ hx247_9)).trans hx247_9; replace hx247_10 := (HB.out.cell (World.block_lt_of_cell? w _ hx247_10)).trans hx247_10; replace hx247_11 := (HB.out.cell (World.block_lt_of_cell? w _ hx247_11)).trans hx247_11; replace hx247_12 := (HB.out.cell (World.block_lt_of_cell? w _ hx247_12)).trans hx247_12; replace hx247_13 := (HB.out.cell (World.block_lt_of_cell? w _ hx247_13)).trans hx247_13; replace hx247_14 := (HB.out.cell (World.block_lt_of_cell? w _ hx247_14)).trans hx247_14; replace hx247_15 := (HB.out.cell (World.block_lt_of_cell? w _ hx247_15)).trans hx247_15; replace p247 := eq_true p247; replace q247 := eq_true q247)))
            go_loopg [13] kj7 (fun kq v13 w' => ∃ (x13_2 : Int), v13 = .int .i64 x13_2 ∧ Aside0 (bitloftlaw11_SlotsFound.l0 kq t239 t242 t244 t246 (((rd_T42 l0_1 t239).f0) == t244) x13_2 a0_0 l0_1 t235 t236 = some r) ∧ Aside0 (kq ≤ kj7) ∧ Aside0 (Kd.R k42 42 w' w.heap.size (fun _ => True) (.slice Ao17 t236.length co17) t236) ∧ Aside0 (w'.heap[gb232]? = some (.cells #[.int .i64 a0_0, (.slice (some ad247) l0_1.length c0_1)] 24 (0, 0))) ∧ Aside0 (w'.heap[gb241]? = some (.cells #[.int .i64 t235, (.slice Ao17 t236.length co17)] 24 (0, 0))) ∧ Aside0 (Below w.heap.size w w'))
            case atStart => exact ⟨(0), (by first | rfl | (simp; done) | (simp [*]; done)), H', ⟨Nat.le_refl _⟩, ⟨pL_ HO_242001.out⟩, ⟨pG_ BK232.out⟩, ⟨pG_ BK241.out⟩, ⟨pH_ HB.out⟩⟩
            case round =>
             as_aux_lemma =>
              clear H'
              try clear c1
              try clear c2
              try clear p2
              try clear q2
              try clear hx2
              try clear c3
              try clear c4
              try clear c6
              try clear p6
              try clear c15
              try clear c19
              try clear c19b0
              try clear c19b1
              try clear c20
              try clear c20b0
              try clear c20b1
              try clear c21
              try clear c21b0
              try clear c22
              try clear c22b0
              try clear c23
              try clear c23b0
              try clear c23b1
              try clear c24
              try clear c24b0
              try clear p24
              try clear q24
              try clear hx24
              try clear c25
              try clear c25b0
              try clear c26
              try clear c26b0
              try clear c26b1
              try clear c26b2
              try clear c27
              try clear c27b0
              try clear c28
              try clear c28b0
              try clear c29
              try clear c32
              try clear c34
              try clear c34b0
              try clear c35
              try clear c35b0
              try clear c36
              try clear hcz10_0
              try clear hcz10_1
              try clear hcz12_0
              try clear hcz12_1
              try clear hcz16_0
              try clear hcz16_1
              try clear hcz18_0
              try clear hcz18_1
              try clear hcz30_0
              try clear hcz30_1
              try clear hcz31_0
              try clear hcz31_1
              try clear hcz37_0
              try clear hcz37_1
              try clear hfz10_0
              try clear hfz10_1
              try clear hfz12_0
              try clear hfz12_1
              try clear hfz16_0
              try clear hfz16_1
              try clear hfz18_0
              try clear hfz18_1
              try clear hfz30_0
              try clear hfz30_1
              try clear hfz31_0
              try clear hfz31_1
              try clear hfz37_0
              try clear hfz37_1
              try clear hx245_0
              try clear hx245_1
              try clear hx245_10
              try clear hx245_11
              try clear hx245_12
              try clear hx245_13
              try clear hx245_14
              try clear hx245_15
              try clear hx245_2
              try clear hx245_3
              try clear hx245_4
              try clear hx245_5
              try clear hx245_6
              try clear hx245_7
              try clear hx245_8
              try clear hx245_9
              try clear hx247_0
              try clear hx247_1
              try clear hx247_10
              try clear hx247_11
              try clear hx247_12
              try clear hx247_13
              try clear hx247_14
              try clear hx247_15
              try clear hx247_2
              try clear hx247_3
              try clear hx247_4
              try clear hx247_5
              try clear hx247_6
              try clear hx247_7
              try clear hx247_8
              try clear hx247_9
              try clear p2
              try clear p24
              try clear p245
              try clear p247
              try clear p6
              try clear q2
              try clear q24
              try clear q245
              try clear q247
              obtain ⟨x13_2, rfl, HA, HK2, HO_242001, BK232, BK241, HB⟩ := hrel
              cases gk with
              | zero => exact absurd HA.out (by simp [bitloftlaw11_SlotsFound.l0])
              | succ k2 =>
               have H := HA.out; clear HA; simp only [bitloftlaw11_SlotsFound.l0] at H
               by_cases c38 : x13_2 < (l0_1.length : Int)
               ·
                as_aux_lemma =>
                 rw [if_pos c38] at H; have c38b0 : decide (x13_2 < (l0_1.length : Int)) = true := decide_eq_true c38; clear c38; have HC39 := Aside0.mk H; clear H; have hnb40 := NB232_241.out; have hnc40 := NB241_232.out; have hcz41_0 : wr.cell? ⟨gb232, 0, none⟩ = some (.int .i64 a0_0) := (blk_cell BK232.out 0).trans rfl; have hcz41_1 : wr.cell? ⟨gb232, 1, none⟩ = some (.slice (some ad247) l0_1.length c0_1) := (blk_cell BK232.out 1).trans rfl; have hfz41_0 := blk_frozen BK232.out 0; have hfz41_1 := blk_frozen BK232.out 1
                 go_upto_region 13 with (fail)
                 repeat (go_quiet (fail); go_upto_region 13 with (fail))
                 (with_reducible first | refine then_id_ ?_ | (refine wp_tail_ ?_; intro Kt_ hKt_))
                 go_cut [128] (fun v128 wc => ∃ (kq : Nat) (x128_38 : Bool), v128 = .bool x128_38 ∧ Aside0 (bitloftlaw11_SlotsFound.j2 kq t239 t242 t244 t246 (((rd_T42 l0_1 t239).f0) == t244) x13_2 x128_38 a0_0 l0_1 t235 t236 = some r) ∧ Aside0 (kq ≤ k2) ∧ Aside0 (Kd.R k42 42 wc w.heap.size (fun _ => True) (.slice Ao17 t236.length co17) t236) ∧ Aside0 (wc.heap[gb232]? = some (.cells #[.int .i64 a0_0, (.slice (some ad247) l0_1.length c0_1)] 24 (0, 0))) ∧ Aside0 (wc.heap[gb241]? = some (.cells #[.int .i64 t235, (.slice Ao17 t236.length co17)] 24 (0, 0))) ∧ Aside0 (Below w.heap.size w wc))
                 case first =>
                  as_aux_lemma =>
                   have H := HC39.out; clear HC39
                   by_cases c42 : x13_2 = t239
                   ·
                    rw [if_pos c42] at H; have c42b0 : (x13_2 == t239) = true := beq_iff_eq.mpr c42; have c42b1 : (x13_2 != t239) = false := bne_eq_false_iff_eq.mpr c42; clear c42; (first | rw [c42b0] | (simp only [i64_w, i32_w]; rw [c42b0]) | skip)
                    by_cases c43 : (((rd_T42 l0_1 t239).f0) == t244) = true
                    ·
                     rw [if_pos c43] at H; have c43b0 : (((rd_T42 l0_1 t239).f0) == t244) = true := c43; (try (have c43b1 : decide (((rd_T42 l0_1 t239).f0) = t244) = true := by simpa using c43)); (try (have c43b2 : (((rd_T42 l0_1 t239).f0) == t244) = true := by simpa using c43)); clear c43
                     by_cases c44 : 0 ≤ x13_2
                     ·
                      rw [if_pos c44] at H; have c44b0 : decide (0 ≤ x13_2) = true := decide_eq_true c44; clear c44
                      by_cases c45 : x13_2 < (t236.length : Int)
                      ·
                       as_aux_lemma =>
                        rw [if_pos c45] at H; have c45b0 : decide (x13_2 < (t236.length : Int)) = true := decide_eq_true c45; clear c45; have H' := Aside0.mk H; clear H; have hnb46 := NB241_232.out; have hnc46 := NB232_241.out; have hcz47_0 : wr.cell? ⟨gb241, 0, none⟩ = some (.int .i64 t235) := (blk_cell BK241.out 0).trans rfl; have hcz47_1 : wr.cell? ⟨gb241, 1, none⟩ = some (.slice Ao17 t236.length co17) := (blk_cell BK241.out 1).trans rfl; have hfz47_0 := blk_frozen BK241.out 0; have hfz47_1 := blk_frozen BK241.out 1; have p248 : 0 ≤ (x13_2 : Int) := of_decide_eq_true (by first | (with_reducible assumption) | assumption); have q248 : x13_2 < (t236.length : Int) := of_decide_eq_true (by first | (with_reducible assumption) | assumption); obtain ⟨ad248, e248, hx248_0, hx248_1, hx248_2, hx248_3, hx248_4, hx248_5, hx248_6, hx248_7, hx248_8, hx248_9, hx248_10, hx248_11, hx248_12, hx248_13, hx248_14, hx248_15⟩ := at_T42 (Kd.R_reads' HO_242001.out).2.2 x13_2 p248 q248
                        cases e248
                        replace p248 := eq_true p248; replace q248 := eq_true q248; have hcz48_0 : wr.cell? ⟨gb232, 0, none⟩ = some (.int .i64 a0_0) := (blk_cell BK232.out 0).trans rfl; have hcz48_1 : wr.cell? ⟨gb232, 1, none⟩ = some (.slice (some ad247) l0_1.length c0_1) := (blk_cell BK232.out 1).trans rfl; have hfz48_0 := blk_frozen BK232.out 0; have hfz48_1 := blk_frozen BK232.out 1; have p249 : 0 ≤ (x13_2 : Int) := of_decide_eq_true (by first | (with_reducible assumption) | assumption); have q249 : x13_2 < (l0_1.length : Int) := of_decide_eq_true (by first | (with_reducible assumption) | assumption); obtain ⟨ad249, e249, hx249_0, hx249_1, hx249_2, hx249_3, hx249_4, hx249_5, hx249_6, hx249_7, hx249_8, hx249_9, hx249_10, hx249_11, hx249_12, hx249_13, hx249_14, hx249_15⟩ := at_T42 HR0_1.out x13_2 p249 q249; obtain rfl : ad247 = ad249 := (by injection e249); replace hx249_0 := (HB.out.cell (World.block_lt_of_cell? w _ hx249_0)).trans hx249_0; replace hx249_1 := (HB.out.cell (World.block_lt_of_cell? w _ hx249_1)).trans hx249_1; replace hx249_2 := (HB.out.cell (World.block_lt_of_cell? w _ hx249_2)).trans hx249_2; replace hx249_3 := (HB.out.cell (World.block_lt_of_cell? w _ hx249_3)).trans hx249_3; replace hx249_4 := (HB.out.cell (World.block_lt_of_cell? w _ hx249_4)).trans hx249_4; replace hx249_5 := (HB.out.cell (World.block_lt_of_cell? w _ hx249_5)).trans hx249_5; replace hx249_6 := (HB.out.cell (World.block_lt_of_cell? w _ hx249_6)).trans hx249_6; replace hx249_7 := (HB.out.cell (World.block_lt_of_cell? w _ hx249_7)).trans hx249_7; replace hx249_8 := (HB.out.cell (World.block_lt_of_cell? w _ hx249_8)).trans hx249_8; replace hx249_9 := (HB.out.cell (World.block_lt_of_cell? w _ hx249_9)).trans hx249_9; replace hx249_10 := (HB.out.cell (World.block_lt_of_cell? w _ hx249_10)).trans hx249_10; replace hx249_11 := (HB.out.cell (World.block_lt_of_cell? w _ hx249_11)).trans hx249_11; replace hx249_12 := (HB.out.cell (World.block_lt_of_cell? w _ hx249_12)).trans hx249_12; replace hx249_13 := (HB.out.cell (World.block_lt_of_cell? w _ hx249_13)).trans hx249_13; replace hx249_14 := (HB.out.cell (World.block_lt_of_cell? w _ hx249_14)).trans hx249_14; replace hx249_15 := (HB.out.cell (World.block_lt_of_cell? w _ hx249_15)).trans hx249_15; replace p249 := eq_true p249; replace q249 := eq_true q249
                        go_wp2
                        repeat (go_quiet (fail); try go_wp2)
                        (first | go_meet | (refine Met.intro ?_; go_step; (repeat apply Exists.intro); refine ⟨?rel, ?eqf_⟩; case eqf_ => ((simp only [c45b0, c44b0, c43b0, c42b0, c38b0]) <;> rfl)))
                        case rel => exact ⟨_, ((!(((rd_T42 t236 x13_2).f0) == ((rd_T42 l0_1 x13_2).f0)) || ((!(((rd_T42 t236 x13_2).f1.f0) == ((rd_T42 l0_1 x13_2).f1.f0)) || (!(((rd_T42 t236 x13_2).f1.f1) == ((rd_T42 l0_1 x13_2).f1.f1)) || (!(((rd_T42 t236 x13_2).f1.f2) == ((rd_T42 l0_1 x13_2).f1.f2)) || (!(((rd_T42 t236 x13_2).f1.f3) == ((rd_T42 l0_1 x13_2).f1.f3)) || (!(((rd_T42 t236 x13_2).f1.f4) == ((rd_T42 l0_1 x13_2).f1.f4)) || (!(((rd_T42 t236 x13_2).f1.f5) == ((rd_T42 l0_1 x13_2).f1.f5)) || (!(((rd_T42 t236 x13_2).f1.f6) == ((rd_T42 l0_1 x13_2).f1.f6)) || (!(((rd_T42 t236 x13_2).f1.f7) == ((rd_T42 l0_1 x13_2).f1.f7)) || (!(((rd_T42 t236 x13_2).f1.f8) == ((rd_T42 l0_1 x13_2).f1.f8)) || (!(((rd_T42 t236 x13_2).f1.f9) == ((rd_T42 l0_1 x13_2).f1.f9)) || (!(((rd_T42 t236 x13_2).f1.f10) == ((rd_T42 l0_1 x13_2).f1.f10)) || (!(((rd_T42 t236 x13_2).f1.f11) == ((rd_T42 l0_1 x13_2).f1.f11)) || (!(((rd_T42 t236 x13_2).f1.f12) == ((rd_T42 l0_1 x13_2).f1.f12)) || (!(((rd_T42 t236 x13_2).f1.f13) == ((rd_T42 l0_1 x13_2).f1.f13)) || (!(((rd_T42 t236 x13_2).f1.f14) == ((rd_T42 l0_1 x13_2).f1.f14)))))))))))))))))))), (by first | rfl | (simp; done) | (simp [*]; done)), H', ⟨by have := HJ7.out; have := HK2.out; first | omega | exact Nat.le_refl _⟩, ⟨pL_ HO_242001.out⟩, ⟨pG_ BK232.out⟩, ⟨pG_ BK241.out⟩, ⟨pH_ HB.out⟩⟩
                      ·
                       rw [if_neg c45] at H; exact absurd H (by simp)
                     ·
                      rw [if_neg c44] at H; exact absurd H (by simp)
                    ·
                     as_aux_lemma =>
                      rw [if_neg c43] at H
                      have c43b0 : (((rd_T42 l0_1 t239).f0) == t244) = false := by simpa using c43
                      (try (have c43b1 : decide (((rd_T42 l0_1 t239).f0) = t244) = false := by simpa using c43)); (try (have c43b2 : (((rd_T42 l0_1 t239).f0) == t244) = false := by simpa using c43)); (try (have c43b3 : ¬ (((rd_T42 l0_1 t239).f0) = t244) := by simpa using c43)); clear c43; have H' := Aside0.mk H; clear H
                      go_wp2
                      repeat (go_quiet (fail); try go_wp2)
                      (first | go_meet | (refine Met.intro ?_; go_step; (repeat apply Exists.intro); refine ⟨?rel, ?eqf_⟩; case eqf_ => ((simp only [c43b0, c42b0, c38b0]) <;> rfl)))
                      case rel => exact ⟨_, (false), (by first | rfl | (simp; done) | (simp [*]; done)), H', ⟨by have := HJ7.out; have := HK2.out; first | omega | exact Nat.le_refl _⟩, ⟨pL_ HO_242001.out⟩, ⟨pG_ BK232.out⟩, ⟨pG_ BK241.out⟩, ⟨pH_ HB.out⟩⟩
                   ·
                    rw [if_neg c42] at H; have c42b0 : (x13_2 == t239) = false := beq_eq_false_iff_ne.mpr c42; have c42b1 : (x13_2 != t239) = true := bne_iff_ne.mpr c42; (first | rw [c42b0] | (simp only [i64_w, i32_w]; rw [c42b0]) | skip)
                    by_cases c49 : 0 ≤ x13_2
                    ·
                     rw [if_pos c49] at H; have c49b0 : decide (0 ≤ x13_2) = true := decide_eq_true c49; clear c49
                     by_cases c50 : x13_2 < (t236.length : Int)
                     ·
                      as_aux_lemma =>
                       rw [if_pos c50] at H; have c50b0 : decide (x13_2 < (t236.length : Int)) = true := decide_eq_true c50; clear c50; have H' := Aside0.mk H; clear H; have hnb51 := NB241_232.out; have hnc51 := NB232_241.out; have hcz52_0 : wr.cell? ⟨gb241, 0, none⟩ = some (.int .i64 t235) := (blk_cell BK241.out 0).trans rfl; have hcz52_1 : wr.cell? ⟨gb241, 1, none⟩ = some (.slice Ao17 t236.length co17) := (blk_cell BK241.out 1).trans rfl; have hfz52_0 := blk_frozen BK241.out 0; have hfz52_1 := blk_frozen BK241.out 1; have p250 : 0 ≤ (x13_2 : Int) := of_decide_eq_true (by first | (with_reducible assumption) | assumption); have q250 : x13_2 < (t236.length : Int) := of_decide_eq_true (by first | (with_reducible assumption) | assumption); obtain ⟨ad250, e250, hx250_0, hx250_1, hx250_2, hx250_3, hx250_4, hx250_5, hx250_6, hx250_7, hx250_8, hx250_9, hx250_10, hx250_11, hx250_12, hx250_13, hx250_14, hx250_15⟩ := at_T42 (Kd.R_reads' HO_242001.out).2.2 x13_2 p250 q250
                       cases e250
                       replace p250 := eq_true p250; replace q250 := eq_true q250; have hcz53_0 : wr.cell? ⟨gb232, 0, none⟩ = some (.int .i64 a0_0) := (blk_cell BK232.out 0).trans rfl; have hcz53_1 : wr.cell? ⟨gb232, 1, none⟩ = some (.slice (some ad247) l0_1.length c0_1) := (blk_cell BK232.out 1).trans rfl; have hfz53_0 := blk_frozen BK232.out 0; have hfz53_1 := blk_frozen BK232.out 1; have p251 : 0 ≤ (x13_2 : Int) := of_decide_eq_true (by first | (with_reducible assumption) | assumption); have q251 : x13_2 < (l0_1.length : Int) := of_decide_eq_true (by first | (with_reducible assumption) | assumption); obtain ⟨ad251, e251, hx251_0, hx251_1, hx251_2, hx251_3, hx251_4, hx251_5, hx251_6, hx251_7, hx251_8, hx251_9, hx251_10, hx251_11, hx251_12, hx251_13, hx251_14, hx251_15⟩ := at_T42 HR0_1.out x13_2 p251 q251; obtain rfl : ad247 = ad251 := (by injection e251); replace hx251_0 := (HB.out.cell (World.block_lt_of_cell? w _ hx251_0)).trans hx251_0; replace hx251_1 := (HB.out.cell (World.block_lt_of_cell? w _ hx251_1)).trans hx251_1; replace hx251_2 := (HB.out.cell (World.block_lt_of_cell? w _ hx251_2)).trans hx251_2; replace hx251_3 := (HB.out.cell (World.block_lt_of_cell? w _ hx251_3)).trans hx251_3; replace hx251_4 := (HB.out.cell (World.block_lt_of_cell? w _ hx251_4)).trans hx251_4; replace hx251_5 := (HB.out.cell (World.block_lt_of_cell? w _ hx251_5)).trans hx251_5; replace hx251_6 := (HB.out.cell (World.block_lt_of_cell? w _ hx251_6)).trans hx251_6; replace hx251_7 := (HB.out.cell (World.block_lt_of_cell? w _ hx251_7)).trans hx251_7; replace hx251_8 := (HB.out.cell (World.block_lt_of_cell? w _ hx251_8)).trans hx251_8; replace hx251_9 := (HB.out.cell (World.block_lt_of_cell? w _ hx251_9)).trans hx251_9; replace hx251_10 := (HB.out.cell (World.block_lt_of_cell? w _ hx251_10)).trans hx251_10; replace hx251_11 := (HB.out.cell (World.block_lt_of_cell? w _ hx251_11)).trans hx251_11; replace hx251_12 := (HB.out.cell (World.block_lt_of_cell? w _ hx251_12)).trans hx251_12; replace hx251_13 := (HB.out.cell (World.block_lt_of_cell? w _ hx251_13)).trans hx251_13; replace hx251_14 := (HB.out.cell (World.block_lt_of_cell? w _ hx251_14)).trans hx251_14; replace hx251_15 := (HB.out.cell (World.block_lt_of_cell? w _ hx251_15)).trans hx251_15; replace p251 := eq_true p251; replace q251 := eq_true q251
                       go_wp2
                       repeat (go_quiet (fail); try go_wp2)
                       (first | go_meet | (refine Met.intro ?_; go_step; (repeat apply Exists.intro); refine ⟨?rel, ?eqf_⟩; case eqf_ => ((simp only [c50b0, c49b0, c42b0, c38b0]) <;> rfl)))
                       case rel => exact ⟨_, ((!(((rd_T42 t236 x13_2).f0) == ((rd_T42 l0_1 x13_2).f0)) || ((!(((rd_T42 t236 x13_2).f1.f0) == ((rd_T42 l0_1 x13_2).f1.f0)) || (!(((rd_T42 t236 x13_2).f1.f1) == ((rd_T42 l0_1 x13_2).f1.f1)) || (!(((rd_T42 t236 x13_2).f1.f2) == ((rd_T42 l0_1 x13_2).f1.f2)) || (!(((rd_T42 t236 x13_2).f1.f3) == ((rd_T42 l0_1 x13_2).f1.f3)) || (!(((rd_T42 t236 x13_2).f1.f4) == ((rd_T42 l0_1 x13_2).f1.f4)) || (!(((rd_T42 t236 x13_2).f1.f5) == ((rd_T42 l0_1 x13_2).f1.f5)) || (!(((rd_T42 t236 x13_2).f1.f6) == ((rd_T42 l0_1 x13_2).f1.f6)) || (!(((rd_T42 t236 x13_2).f1.f7) == ((rd_T42 l0_1 x13_2).f1.f7)) || (!(((rd_T42 t236 x13_2).f1.f8) == ((rd_T42 l0_1 x13_2).f1.f8)) || (!(((rd_T42 t236 x13_2).f1.f9) == ((rd_T42 l0_1 x13_2).f1.f9)) || (!(((rd_T42 t236 x13_2).f1.f10) == ((rd_T42 l0_1 x13_2).f1.f10)) || (!(((rd_T42 t236 x13_2).f1.f11) == ((rd_T42 l0_1 x13_2).f1.f11)) || (!(((rd_T42 t236 x13_2).f1.f12) == ((rd_T42 l0_1 x13_2).f1.f12)) || (!(((rd_T42 t236 x13_2).f1.f13) == ((rd_T42 l0_1 x13_2).f1.f13)) || (!(((rd_T42 t236 x13_2).f1.f14) == ((rd_T42 l0_1 x13_2).f1.f14)))))))))))))))))))), (by first | rfl | (simp; done) | (simp [*]; done)), H', ⟨by have := HJ7.out; have := HK2.out; first | omega | exact Nat.le_refl _⟩, ⟨pL_ HO_242001.out⟩, ⟨pG_ BK232.out⟩, ⟨pG_ BK241.out⟩, ⟨pH_ HB.out⟩⟩
                     ·
                      rw [if_neg c50] at H; exact absurd H (by simp)
                    ·
                     rw [if_neg c49] at H; exact absurd H (by simp)
                 case rest =>
                  (try (refine hKt_ _ _ ?_; clear hKt_; clear Kt_)); clear HC39
                  try clear c1
                  try clear c2
                  try clear p2
                  try clear q2
                  try clear hx2
                  try clear c3
                  try clear c4
                  try clear c5
                  try clear c6
                  try clear p6
                  try clear c15
                  try clear c19
                  try clear c19b0
                  try clear c19b1
                  try clear c20
                  try clear c20b0
                  try clear c20b1
                  try clear c21
                  try clear c21b0
                  try clear c22
                  try clear c22b0
                  try clear c23
                  try clear c23b0
                  try clear c23b1
                  try clear c24
                  try clear c24b0
                  try clear p24
                  try clear q24
                  try clear hx24
                  try clear c25
                  try clear c25b0
                  try clear p25
                  try clear q25
                  try clear hx25
                  try clear c26
                  try clear c26b0
                  try clear c26b1
                  try clear c26b2
                  try clear c27
                  try clear c27b0
                  try clear c28
                  try clear c28b0
                  try clear c29
                  try clear c32
                  try clear c34
                  try clear c34b0
                  try clear c35
                  try clear c35b0
                  try clear c36
                  try clear c38
                  try clear c38b0
                  try clear c40
                  try clear c42
                  try clear c42b0
                  try clear c42b1
                  try clear c43
                  try clear c43b0
                  try clear c43b1
                  try clear c43b2
                  try clear c44
                  try clear c44b0
                  try clear c45
                  try clear c45b0
                  try clear c46
                  try clear c49
                  try clear c49b0
                  try clear c50
                  try clear c50b0
                  try clear c51
                  try clear hcz10_0
                  try clear hcz10_1
                  try clear hcz12_0
                  try clear hcz12_1
                  try clear hcz16_0
                  try clear hcz16_1
                  try clear hcz18_0
                  try clear hcz18_1
                  try clear hcz30_0
                  try clear hcz30_1
                  try clear hcz31_0
                  try clear hcz31_1
                  try clear hcz37_0
                  try clear hcz37_1
                  try clear hcz41_0
                  try clear hcz41_1
                  try clear hcz47_0
                  try clear hcz47_1
                  try clear hcz48_0
                  try clear hcz48_1
                  try clear hcz52_0
                  try clear hcz52_1
                  try clear hcz53_0
                  try clear hcz53_1
                  try clear hfz10_0
                  try clear hfz10_1
                  try clear hfz12_0
                  try clear hfz12_1
                  try clear hfz16_0
                  try clear hfz16_1
                  try clear hfz18_0
                  try clear hfz18_1
                  try clear hfz30_0
                  try clear hfz30_1
                  try clear hfz31_0
                  try clear hfz31_1
                  try clear hfz37_0
                  try clear hfz37_1
                  try clear hfz41_0
                  try clear hfz41_1
                  try clear hfz47_0
                  try clear hfz47_1
                  try clear hfz48_0
                  try clear hfz48_1
                  try clear hfz52_0
                  try clear hfz52_1
                  try clear hfz53_0
                  try clear hfz53_1
                  try clear hx245_0
                  try clear hx245_1
                  try clear hx245_10
                  try clear hx245_11
                  try clear hx245_12
                  try clear hx245_13
                  try clear hx245_14
                  try clear hx245_15
                  try clear hx245_2
                  try clear hx245_3
                  try clear hx245_4
                  try clear hx245_5
                  try clear hx245_6
                  try clear hx245_7
                  try clear hx245_8
                  try clear hx245_9
                  try clear hx247_0
                  try clear hx247_1
                  try clear hx247_10
                  try clear hx247_11
                  try clear hx247_12
                  try clear hx247_13
                  try clear hx247_14
                  try clear hx247_15
                  try clear hx247_2
                  try clear hx247_3
                  try clear hx247_4
                  try clear hx247_5
                  try clear hx247_6
                  try clear hx247_7
                  try clear hx247_8
                  try clear hx247_9
                  try clear hx248_0
                  try clear hx248_1
                  try clear hx248_10
                  try clear hx248_11
                  try clear hx248_12
                  try clear hx248_13
                  try clear hx248_14
                  try clear hx248_15
                  try clear hx248_2
                  try clear hx248_3
                  try clear hx248_4
                  try clear hx248_5
                  try clear hx248_6
                  try clear hx248_7
                  try clear hx248_8
                  try clear hx248_9
                  try clear hx249_0
                  try clear hx249_1
                  try clear hx249_10
                  try clear hx249_11
                  try clear hx249_12
                  try clear hx249_13
                  try clear hx249_14
                  try clear hx249_15
                  try clear hx249_2
                  try clear hx249_3
                  try clear hx249_4
                  try clear hx249_5
                  try clear hx249_6
                  try clear hx249_7
                  try clear hx249_8
                  try clear hx249_9
                  try clear hx250_0
                  try clear hx250_1
                  try clear hx250_10
                  try clear hx250_11
                  try clear hx250_12
                  try clear hx250_13
                  try clear hx250_14
                  try clear hx250_15
                  try clear hx250_2
                  try clear hx250_3
                  try clear hx250_4
                  try clear hx250_5
                  try clear hx250_6
                  try clear hx250_7
                  try clear hx250_8
                  try clear hx250_9
                  try clear hx251_0
                  try clear hx251_1
                  try clear hx251_10
                  try clear hx251_11
                  try clear hx251_12
                  try clear hx251_13
                  try clear hx251_14
                  try clear hx251_15
                  try clear hx251_2
                  try clear hx251_3
                  try clear hx251_4
                  try clear hx251_5
                  try clear hx251_6
                  try clear hx251_7
                  try clear hx251_8
                  try clear hx251_9
                  try clear p2
                  try clear p24
                  try clear p245
                  try clear p247
                  try clear p248
                  try clear p249
                  try clear p250
                  try clear p251
                  try clear p6
                  try clear q2
                  try clear q24
                  try clear q245
                  try clear q247
                  try clear q248
                  try clear q249
                  try clear q250
                  try clear q251
                  obtain ⟨kq, x128_38, rfl, HA, HJ38, HO_242001, BK232, BK241, HB⟩ := hcut
                  cases kq with
                  | zero => exact absurd HA.out (by simp [bitloftlaw11_SlotsFound.j2])
                  | succ kj38 =>
                   have H := HA.out; clear HA; simp only [bitloftlaw11_SlotsFound.j2] at H
                   by_cases c54 : x128_38 = true
                   ·
                    subst c54
                    have H1 : (some false) = some r := by rw [if_pos rfl] at H; exact H
                    clear H; have H := H1; clear H1; exact absurd (H.trans (congrArg some HRT_.out)) (by simp)
                   ·
                    replace c54 := Bool.eq_false_iff.mpr c54
                    subst c54
                    have H1 : (bitloftlaw11_SlotsFound.l0 kj38 t239 t242 t244 t246 (((rd_T42 l0_1 t239).f0) == t244) (wrap64 (x13_2 + 1)) a0_0 l0_1 t235 t236) = some r := by rw [if_neg (show ¬ (false = true) by decide)] at H; exact H
                    clear H; have H := H1; clear H1; have H' := Aside0.mk H; clear H
                    go_wp2
                    repeat (go_quiet (fail); try go_wp2)
                    go_roundg kj38
                    case measure => have := HJ7.out; have := HK2.out; have := HJ38.out; omega
                    case rel => exact ⟨(wrap64 (x13_2 + 1)), (by first | rfl | (simp; done) | (simp [*]; done)), H', ⟨by have := HJ7.out; have := HK2.out; have := HJ38.out; omega⟩, ⟨pL_ HO_242001.out⟩, ⟨pG_ BK232.out⟩, ⟨pG_ BK241.out⟩, ⟨pH_ HB.out⟩⟩
               ·
                as_aux_lemma =>
                 rw [if_neg c38] at H; have c38b0 : decide (x13_2 < (l0_1.length : Int)) = false := decide_eq_false c38; clear c38
                 by_cases c55 : (((rd_T42 l0_1 t239).f0) == t244) = true
                 ·
                  as_aux_lemma =>
                   rw [if_pos c55] at H; have c55b0 : (((rd_T42 l0_1 t239).f0) == t244) = true := c55; (try (have c55b1 : decide (((rd_T42 l0_1 t239).f0) = t244) = true := by simpa using c55)); (try (have c55b2 : (((rd_T42 l0_1 t239).f0) == t244) = true := by simpa using c55)); clear c55; have HC56 := Aside0.mk H; clear H; have hnb57 := NB232_241.out; have hnc57 := NB241_232.out; have hcz58_0 : wr.cell? ⟨gb232, 0, none⟩ = some (.int .i64 a0_0) := (blk_cell BK232.out 0).trans rfl; have hcz58_1 : wr.cell? ⟨gb232, 1, none⟩ = some (.slice (some ad247) l0_1.length c0_1) := (blk_cell BK232.out 1).trans rfl; have hfz58_0 := blk_frozen BK232.out 0; have hfz58_1 := blk_frozen BK232.out 1
                   go_upto_region 16 with (fail)
                   repeat (go_quiet (fail); go_upto_region 16 with (fail))
                   (with_reducible first | refine then_id_ ?_ | (refine wp_tail_ ?_; intro Kt_ hKt_))
                   go_cut [4] (fun v4 wc => ∃ (kq : Nat) (x4_55 : Bool), v4 = .bool x4_55 ∧ Aside0 (bitloftlaw11_SlotsFound.j3 kq x4_55 = some r) ∧ Aside0 (kq ≤ k2) ∧ Aside0 (Kd.R k42 42 wc w.heap.size (fun _ => True) (.slice Ao17 t236.length co17) t236) ∧ Aside0 (wc.heap[gb232]? = some (.cells #[.int .i64 a0_0, (.slice (some ad247) l0_1.length c0_1)] 24 (0, 0))) ∧ Aside0 (wc.heap[gb241]? = some (.cells #[.int .i64 t235, (.slice Ao17 t236.length co17)] 24 (0, 0))) ∧ Aside0 (Below w.heap.size w wc))
                   case first =>
                    have H := HC56.out; clear HC56
                    by_cases c59 : t239 = t242
                    ·
                     rw [if_pos c59] at H; have c59b0 : (t239 == t242) = true := beq_iff_eq.mpr c59; have c59b1 : (t239 != t242) = false := bne_eq_false_iff_eq.mpr c59; clear c59; (first | rw [c59b0] | (simp only [i64_w, i32_w]; rw [c59b0]) | skip); replace H := Option.bind_eq_some_iff.mp H; obtain ⟨t252, A600, H⟩ := H; replace H : (bitloftlaw11_SlotsFound.j3 k2 t252) = some r := H; have A60 := Aside0.mk A600; clear A600; have H' := Aside0.mk H; clear H
                     go_wp2_with (first | (go_at_call 24; (with_reducible refine (bitloftlaw11_alive.calls k2  t252 _ A60.out).mono ?_); rintro e w61 ⟨rfl, hb⟩; have n0_ := Aside0.mk (Kd.R_below (pL_ HO_242001.out) hb); have n1_ := Aside0.mk (blk_below (pG_ BK232.out) hb); have n2_ := Aside0.mk (blk_below (pG_ BK241.out) hb); have n3_ := Aside0.mk (below_step (pH_ HB.out) hb); clear HO_242001; clear BK232; clear BK241; clear HB; have HO_242001 := n0_; have BK232 := n1_; have BK241 := n2_; have HB := n3_; clear n0_ n1_ n2_ n3_; (try clear hb)))
                     repeat (go_quiet (first | (go_at_call 24; (with_reducible refine (bitloftlaw11_alive.calls k2  t252 _ A60.out).mono ?_); rintro e w61 ⟨rfl, hb⟩; have n0_ := Aside0.mk (Kd.R_below (pL_ HO_242001.out) hb); have n1_ := Aside0.mk (blk_below (pG_ BK232.out) hb); have n2_ := Aside0.mk (blk_below (pG_ BK241.out) hb); have n3_ := Aside0.mk (below_step (pH_ HB.out) hb); clear HO_242001; clear BK232; clear BK241; clear HB; have HO_242001 := n0_; have BK232 := n1_; have BK241 := n2_; have HB := n3_; clear n0_ n1_ n2_ n3_; (try clear hb))); try go_wp2_with (first | (go_at_call 24; (with_reducible refine (bitloftlaw11_alive.calls k2  t252 _ A60.out).mono ?_); rintro e w61 ⟨rfl, hb⟩; have n0_ := Aside0.mk (Kd.R_below (pL_ HO_242001.out) hb); have n1_ := Aside0.mk (blk_below (pG_ BK232.out) hb); have n2_ := Aside0.mk (blk_below (pG_ BK241.out) hb); have n3_ := Aside0.mk (below_step (pH_ HB.out) hb); clear HO_242001; clear BK232; clear BK241; clear HB; have HO_242001 := n0_; have BK232 := n1_; have BK241 := n2_; have HB := n3_; clear n0_ n1_ n2_ n3_; (try clear hb))))
                     (first | go_meet | (refine Met.intro ?_; go_step; (repeat apply Exists.intro); refine ⟨?rel, ?eqf_⟩; case eqf_ => ((simp only [c59b0, c55b0, c38b0]) <;> rfl)))
                     case rel => exact ⟨_, (t252), (by first | rfl | (simp; done) | (simp [*]; done)), H', ⟨by have := HJ7.out; have := HK2.out; first | omega | exact Nat.le_refl _⟩, ⟨pL_ HO_242001.out⟩, ⟨pG_ BK232.out⟩, ⟨pG_ BK241.out⟩, ⟨pH_ HB.out⟩⟩
                    ·
                     rw [if_neg c59] at H; have c59b0 : (t239 == t242) = false := beq_eq_false_iff_ne.mpr c59; have c59b1 : (t239 != t242) = true := bne_iff_ne.mpr c59; (first | rw [c59b0] | (simp only [i64_w, i32_w]; rw [c59b0]) | skip)
                     by_cases c62 : 0 ≤ t242
                     ·
                      rw [if_pos c62] at H; have c62b0 : decide (0 ≤ t242) = true := decide_eq_true c62; clear c62
                      by_cases c63 : t242 < (l0_1.length : Int)
                      ·
                       rw [if_pos c63] at H; have c63b0 : decide (t242 < (l0_1.length : Int)) = true := decide_eq_true c63; clear c63
                       by_cases c64 : ((rd_T42 l0_1 t242).f0) = t244
                       ·
                        rw [if_pos c64] at H; have c64b0 : (((rd_T42 l0_1 t242).f0) == t244) = true := beq_iff_eq.mpr c64; have c64b1 : (((rd_T42 l0_1 t242).f0) != t244) = false := bne_eq_false_iff_eq.mpr c64; clear c64; exact absurd (H.trans (congrArg some HRT_.out)) (by first | (simp; done) | (generalize k2 = k_; cases k_ <;> simp [bitloftlaw11_SlotsFound.j0, bitloftlaw11_SlotsFound.l0, bitloftlaw11_SlotsFound.j2, bitloftlaw11_SlotsFound.j3, bitloftlaw11_SlotsFound.j4]))
                       ·
                        rw [if_neg c64] at H; have c64b0 : (((rd_T42 l0_1 t242).f0) == t244) = false := beq_eq_false_iff_ne.mpr c64; have c64b1 : (((rd_T42 l0_1 t242).f0) != t244) = true := bne_iff_ne.mpr c64; replace H := Option.bind_eq_some_iff.mp H; obtain ⟨t254, A650, H⟩ := H; replace H : (bitloftlaw11_SlotsFound.j3 k2 t254) = some r := H; have A65 := Aside0.mk A650; clear A650; have H' := Aside0.mk H; clear H; have hnb66 := NB232_241.out; have hnc66 := NB241_232.out; have hcz67_0 : wr.cell? ⟨gb232, 0, none⟩ = some (.int .i64 a0_0) := (blk_cell BK232.out 0).trans rfl; have hcz67_1 : wr.cell? ⟨gb232, 1, none⟩ = some (.slice (some ad247) l0_1.length c0_1) := (blk_cell BK232.out 1).trans rfl; have hfz67_0 := blk_frozen BK232.out 0; have hfz67_1 := blk_frozen BK232.out 1; have p253 : 0 ≤ (t242 : Int) := of_decide_eq_true (by first | (with_reducible assumption) | assumption); have q253 : t242 < (l0_1.length : Int) := of_decide_eq_true (by first | (with_reducible assumption) | assumption); obtain ⟨ad253, e253, hx253_0, hx253_1, hx253_2, hx253_3, hx253_4, hx253_5, hx253_6, hx253_7, hx253_8, hx253_9, hx253_10, hx253_11, hx253_12, hx253_13, hx253_14, hx253_15⟩ := at_T42 HR0_1.out t242 p253 q253; obtain rfl : ad247 = ad253 := (by injection e253); replace hx253_0 := (HB.out.cell (World.block_lt_of_cell? w _ hx253_0)).trans hx253_0; replace hx253_1 := (HB.out.cell (World.block_lt_of_cell? w _ hx253_1)).trans hx253_1; replace hx253_2 := (HB.out.cell (World.block_lt_of_cell? w _ hx253_2)).trans hx253_2; replace hx253_3 := (HB.out.cell (World.block_lt_of_cell? w _ hx253_3)).trans hx253_3; replace hx253_4 := (HB.out.cell (World.block_lt_of_cell? w _ hx253_4)).trans hx253_4; replace hx253_5 := (HB.out.cell (World.block_lt_of_cell? w _ hx253_5)).trans hx253_5; replace hx253_6 := (HB.out.cell (World.block_lt_of_cell? w _ hx253_6)).trans hx253_6; replace hx253_7 := (HB.out.cell (World.block_lt_of_cell? w _ hx253_7)).trans hx253_7; replace hx253_8 := (HB.out.cell (World.block_lt_of_cell? w _ hx253_8)).trans hx253_8; replace hx253_9 := (HB.out.cell (World.block_lt_of_cell? w _ hx253_9)).trans hx253_9; replace hx253_10 := (HB.out.cell (World.block_lt_of_cell? w _ hx253_10)).trans hx253_10; replace hx253_11 := (HB.out.cell (World.block_lt_of_cell? w _ hx253_11)).trans hx253_11; replace hx253_12 := (HB.out.cell (World.block_lt_of_cell? w _ hx253_12)).trans hx253_12; replace hx253_13 := (HB.out.cell (World.block_lt_of_cell? w _ hx253_13)).trans hx253_13; replace hx253_14 := (HB.out.cell (World.block_lt_of_cell? w _ hx253_14)).trans hx253_14; replace hx253_15 := (HB.out.cell (World.block_lt_of_cell? w _ hx253_15)).trans hx253_15; replace p253 := eq_true p253; replace q253 := eq_true q253
                        go_wp2_with (first | (go_at_call 24; (with_reducible refine (bitloftlaw11_alive.calls k2  t254 _ A65.out).mono ?_); rintro e w68 ⟨rfl, hb⟩; have n0_ := Aside0.mk (Kd.R_below (pL_ HO_242001.out) hb); have n1_ := Aside0.mk (blk_below (pG_ BK232.out) hb); have n2_ := Aside0.mk (blk_below (pG_ BK241.out) hb); have n3_ := Aside0.mk (below_step (pH_ HB.out) hb); clear HO_242001; clear BK232; clear BK241; clear HB; have HO_242001 := n0_; have BK232 := n1_; have BK241 := n2_; have HB := n3_; clear n0_ n1_ n2_ n3_; (try clear hb)))
                        repeat (go_quiet (first | (go_at_call 24; (with_reducible refine (bitloftlaw11_alive.calls k2  t254 _ A65.out).mono ?_); rintro e w68 ⟨rfl, hb⟩; have n0_ := Aside0.mk (Kd.R_below (pL_ HO_242001.out) hb); have n1_ := Aside0.mk (blk_below (pG_ BK232.out) hb); have n2_ := Aside0.mk (blk_below (pG_ BK241.out) hb); have n3_ := Aside0.mk (below_step (pH_ HB.out) hb); clear HO_242001; clear BK232; clear BK241; clear HB; have HO_242001 := n0_; have BK232 := n1_; have BK241 := n2_; have HB := n3_; clear n0_ n1_ n2_ n3_; (try clear hb))); try go_wp2_with (first | (go_at_call 24; (with_reducible refine (bitloftlaw11_alive.calls k2  t254 _ A65.out).mono ?_); rintro e w68 ⟨rfl, hb⟩; have n0_ := Aside0.mk (Kd.R_below (pL_ HO_242001.out) hb); have n1_ := Aside0.mk (blk_below (pG_ BK232.out) hb); have n2_ := Aside0.mk (blk_below (pG_ BK241.out) hb); have n3_ := Aside0.mk (below_step (pH_ HB.out) hb); clear HO_242001; clear BK232; clear BK241; clear HB; have HO_242001 := n0_; have BK232 := n1_; have BK241 := n2_; have HB := n3_; clear n0_ n1_ n2_ n3_; (try clear hb))))
                        (first | go_meet | (refine Met.intro ?_; go_step; (repeat apply Exists.intro); refine ⟨?rel, ?eqf_⟩; case eqf_ => ((simp only [c64b0, c63b0, c62b0, c59b0, c55b0, c38b0]) <;> rfl)))
                        case rel => exact ⟨_, (t254), (by first | rfl | (simp; done) | (simp [*]; done)), H', ⟨by have := HJ7.out; have := HK2.out; first | omega | exact Nat.le_refl _⟩, ⟨pL_ HO_242001.out⟩, ⟨pG_ BK232.out⟩, ⟨pG_ BK241.out⟩, ⟨pH_ HB.out⟩⟩
                      ·
                       rw [if_neg c63] at H; exact absurd H (by simp)
                     ·
                      rw [if_neg c62] at H; exact absurd H (by simp)
                   case rest =>
                    (try (refine hKt_ _ _ ?_; clear hKt_; clear Kt_)); clear HC56
                    try clear c1
                    try clear c2
                    try clear p2
                    try clear q2
                    try clear hx2
                    try clear c3
                    try clear c4
                    try clear c5
                    try clear c6
                    try clear p6
                    try clear c15
                    try clear c19
                    try clear c19b0
                    try clear c19b1
                    try clear c20
                    try clear c20b0
                    try clear c20b1
                    try clear c21
                    try clear c21b0
                    try clear c22
                    try clear c22b0
                    try clear c23
                    try clear c23b0
                    try clear c23b1
                    try clear c24
                    try clear c24b0
                    try clear p24
                    try clear q24
                    try clear hx24
                    try clear c25
                    try clear c25b0
                    try clear p25
                    try clear q25
                    try clear hx25
                    try clear c26
                    try clear c26b0
                    try clear c26b1
                    try clear c26b2
                    try clear c27
                    try clear c27b0
                    try clear c28
                    try clear c28b0
                    try clear c29
                    try clear c32
                    try clear c34
                    try clear c34b0
                    try clear c35
                    try clear c35b0
                    try clear c36
                    try clear c38
                    try clear c38b0
                    try clear c40
                    try clear c42
                    try clear c42b0
                    try clear c42b1
                    try clear c43
                    try clear c43b0
                    try clear c43b1
                    try clear c43b2
                    try clear c44
                    try clear c44b0
                    try clear c45
                    try clear c45b0
                    try clear c46
                    try clear c49
                    try clear c49b0
                    try clear c50
                    try clear c50b0
                    try clear c51
                    try clear c54
                    try clear c55
                    try clear c55b0
                    try clear c55b1
                    try clear c55b2
                    try clear c57
                    try clear c59
                    try clear c59b0
                    try clear c59b1
                    try clear c62
                    try clear c62b0
                    try clear c63
                    try clear c63b0
                    try clear c64
                    try clear c64b0
                    try clear c64b1
                    try clear p64
                    try clear c66
                    try clear hcz10_0
                    try clear hcz10_1
                    try clear hcz12_0
                    try clear hcz12_1
                    try clear hcz16_0
                    try clear hcz16_1
                    try clear hcz18_0
                    try clear hcz18_1
                    try clear hcz30_0
                    try clear hcz30_1
                    try clear hcz31_0
                    try clear hcz31_1
                    try clear hcz37_0
                    try clear hcz37_1
                    try clear hcz41_0
                    try clear hcz41_1
                    try clear hcz47_0
                    try clear hcz47_1
                    try clear hcz48_0
                    try clear hcz48_1
                    try clear hcz52_0
                    try clear hcz52_1
                    try clear hcz53_0
                    try clear hcz53_1
                    try clear hcz58_0
                    try clear hcz58_1
                    try clear hcz67_0
                    try clear hcz67_1
                    try clear hfz10_0
                    try clear hfz10_1
                    try clear hfz12_0
                    try clear hfz12_1
                    try clear hfz16_0
                    try clear hfz16_1
                    try clear hfz18_0
                    try clear hfz18_1
                    try clear hfz30_0
                    try clear hfz30_1
                    try clear hfz31_0
                    try clear hfz31_1
                    try clear hfz37_0
                    try clear hfz37_1
                    try clear hfz41_0
                    try clear hfz41_1
                    try clear hfz47_0
                    try clear hfz47_1
                    try clear hfz48_0
                    try clear hfz48_1
                    try clear hfz52_0
                    try clear hfz52_1
                    try clear hfz53_0
                    try clear hfz53_1
                    try clear hfz58_0
                    try clear hfz58_1
                    try clear hfz67_0
                    try clear hfz67_1
                    try clear hx245_0
                    try clear hx245_1
                    try clear hx245_10
                    try clear hx245_11
                    try clear hx245_12
                    try clear hx245_13
                    try clear hx245_14
                    try clear hx245_15
                    try clear hx245_2
                    try clear hx245_3
                    try clear hx245_4
                    try clear hx245_5
                    try clear hx245_6
                    try clear hx245_7
                    try clear hx245_8
                    try clear hx245_9
                    try clear hx247_0
                    try clear hx247_1
                    try clear hx247_10
                    try clear hx247_11
                    try clear hx247_12
                    try clear hx247_13
                    try clear hx247_14
                    try clear hx247_15
                    try clear hx247_2
                    try clear hx247_3
                    try clear hx247_4
                    try clear hx247_5
                    try clear hx247_6
                    try clear hx247_7
                    try clear hx247_8
                    try clear hx247_9
                    try clear hx248_0
                    try clear hx248_1
                    try clear hx248_10
                    try clear hx248_11
                    try clear hx248_12
                    try clear hx248_13
                    try clear hx248_14
                    try clear hx248_15
                    try clear hx248_2
                    try clear hx248_3
                    try clear hx248_4
                    try clear hx248_5
                    try clear hx248_6
                    try clear hx248_7
                    try clear hx248_8
                    try clear hx248_9
                    try clear hx249_0
                    try clear hx249_1
                    try clear hx249_10
                    try clear hx249_11
                    try clear hx249_12
                    try clear hx249_13
                    try clear hx249_14
                    try clear hx249_15
                    try clear hx249_2
                    try clear hx249_3
                    try clear hx249_4
                    try clear hx249_5
                    try clear hx249_6
                    try clear hx249_7
                    try clear hx249_8
                    try clear hx249_9
                    try clear hx250_0
                    try clear hx250_1
                    try clear hx250_10
                    try clear hx250_11
                    try clear hx250_12
                    try clear hx250_13
                    try clear hx250_14
                    try clear hx250_15
                    try clear hx250_2
                    try clear hx250_3
                    try clear hx250_4
                    try clear hx250_5
                    try clear hx250_6
                    try clear hx250_7
                    try clear hx250_8
                    try clear hx250_9
                    try clear hx251_0
                    try clear hx251_1
                    try clear hx251_10
                    try clear hx251_11
                    try clear hx251_12
                    try clear hx251_13
                    try clear hx251_14
                    try clear hx251_15
                    try clear hx251_2
                    try clear hx251_3
                    try clear hx251_4
                    try clear hx251_5
                    try clear hx251_6
                    try clear hx251_7
                    try clear hx251_8
                    try clear hx251_9
                    try clear hx253_0
                    try clear hx253_1
                    try clear hx253_10
                    try clear hx253_11
                    try clear hx253_12
                    try clear hx253_13
                    try clear hx253_14
                    try clear hx253_15
                    try clear hx253_2
                    try clear hx253_3
                    try clear hx253_4
                    try clear hx253_5
                    try clear hx253_6
                    try clear hx253_7
                    try clear hx253_8
                    try clear hx253_9
                    try clear p2
                    try clear p24
                    try clear p245
                    try clear p247
                    try clear p248
                    try clear p249
                    try clear p25
                    try clear p250
                    try clear p251
                    try clear p253
                    try clear p6
                    try clear q2
                    try clear q24
                    try clear q245
                    try clear q247
                    try clear q248
                    try clear q249
                    try clear q25
                    try clear q250
                    try clear q251
                    try clear q253
                    obtain ⟨kq, x4_55, rfl, HA, HJ55, HO_242001, BK232, BK241, HB⟩ := hcut
                    cases kq with
                    | zero => exact absurd HA.out (by simp [bitloftlaw11_SlotsFound.j3])
                    | succ kj55 =>
                     have H := HA.out; clear HA; simp only [bitloftlaw11_SlotsFound.j3] at H; obtain rfl := Option.some.inj H
                     go_wp2
                     repeat (go_quiet (fail); try go_wp2)
                     go_ret
                     exact ⟨by first | rfl | (simp [errW_none, errW_some] <;> rfl) | (simp [*, errW_none, errW_some] <;> rfl), pH_ HB.out⟩
                 ·
                  as_aux_lemma =>
                   rw [if_neg c55] at H
                   have c55b0 : (((rd_T42 l0_1 t239).f0) == t244) = false := by simpa using c55
                   (try (have c55b1 : decide (((rd_T42 l0_1 t239).f0) = t244) = false := by simpa using c55)); (try (have c55b2 : (((rd_T42 l0_1 t239).f0) == t244) = false := by simpa using c55)); (try (have c55b3 : ¬ (((rd_T42 l0_1 t239).f0) = t244) := by simpa using c55)); clear c55
                   by_cases c69 : 0 ≤ t239
                   ·
                    as_aux_lemma =>
                     rw [if_pos c69] at H; have c69b0 : decide (0 ≤ t239) = true := decide_eq_true c69; clear c69
                     by_cases c70 : t239 < (l0_1.length : Int)
                     ·
                      as_aux_lemma =>
                       rw [if_pos c70] at H; have c70b0 : decide (t239 < (l0_1.length : Int)) = true := decide_eq_true c70; clear c70; replace H := Option.bind_eq_some_iff.mp H; obtain ⟨⟨t256, t257⟩, A710, H⟩ := H; replace H : (if 0 ≤ t246 then (if t246 < (l0_1.length : Int) then ((states_Total.f ((rd_T42 l0_1 t246).f1.f0)).bind fun bt259 => (if t257 = 0 then (if bt259.2 = 0 then (if t239 < (t236.length : Int) then (if (((rd_T42 t236 t239).f0) == t244 && ((((rd_T42 t236 t239).f1.f0) == 0 && (((rd_T42 t236 t239).f1.f1) == 0 && (((rd_T42 t236 t239).f1.f2) == 0 && (((rd_T42 t236 t239).f1.f3) == 0 && (((rd_T42 t236 t239).f1.f4) == 0 && (((rd_T42 t236 t239).f1.f5) == 0 && (((rd_T42 t236 t239).f1.f6) == 0 && (((rd_T42 t236 t239).f1.f7) == 0 && (((rd_T42 t236 t239).f1.f8) == 0 && (((rd_T42 t236 t239).f1.f9) == 0 && (((rd_T42 t236 t239).f1.f10) == 0 && (((rd_T42 t236 t239).f1.f11) == 0 && (((rd_T42 t236 t239).f1.f12) == 0 && (((rd_T42 t236 t239).f1.f13) == 0 && (((rd_T42 t236 t239).f1.f14) == 0))))))))))))))))) = true then (if ((rd_T42 l0_1 t246).f0) = t244 then (bitloftlaw11_SlotsFound.j4 k2 false) else (if t256 < bt259.1 then ((bitloftlaw11_alive.f k2).bind fun t263 => (bitloftlaw11_SlotsFound.j4 k2 t263)) else (if t256 = bt259.1 then (if t239 = t242 then ((bitloftlaw11_alive.f k2).bind fun t264 => (bitloftlaw11_SlotsFound.j4 k2 t264)) else (bitloftlaw11_SlotsFound.j4 k2 false)) else (bitloftlaw11_SlotsFound.j4 k2 false)))) else (bitloftlaw11_SlotsFound.j4 k2 false)) else (none)) else (bitloftlaw11_SlotsFound.j4 k2 false)) else (bitloftlaw11_SlotsFound.j4 k2 false))) else (none)) else (none)) = some r := H; have A71 := Aside0.mk A710; clear A710
                       by_cases c72 : 0 ≤ t246
                       ·
                        as_aux_lemma =>
                         rw [if_pos c72] at H; have c72b0 : decide (0 ≤ t246) = true := decide_eq_true c72; clear c72
                         by_cases c73 : t246 < (l0_1.length : Int)
                         ·
                          as_aux_lemma =>
                           rw [if_pos c73] at H; have c73b0 : decide (t246 < (l0_1.length : Int)) = true := decide_eq_true c73; clear c73; replace H := Option.bind_eq_some_iff.mp H; obtain ⟨⟨t259, t260⟩, A740, H⟩ := H; replace H : (if t257 = 0 then (if t260 = 0 then (if t239 < (t236.length : Int) then (if (((rd_T42 t236 t239).f0) == t244 && ((((rd_T42 t236 t239).f1.f0) == 0 && (((rd_T42 t236 t239).f1.f1) == 0 && (((rd_T42 t236 t239).f1.f2) == 0 && (((rd_T42 t236 t239).f1.f3) == 0 && (((rd_T42 t236 t239).f1.f4) == 0 && (((rd_T42 t236 t239).f1.f5) == 0 && (((rd_T42 t236 t239).f1.f6) == 0 && (((rd_T42 t236 t239).f1.f7) == 0 && (((rd_T42 t236 t239).f1.f8) == 0 && (((rd_T42 t236 t239).f1.f9) == 0 && (((rd_T42 t236 t239).f1.f10) == 0 && (((rd_T42 t236 t239).f1.f11) == 0 && (((rd_T42 t236 t239).f1.f12) == 0 && (((rd_T42 t236 t239).f1.f13) == 0 && (((rd_T42 t236 t239).f1.f14) == 0))))))))))))))))) = true then (if ((rd_T42 l0_1 t246).f0) = t244 then (bitloftlaw11_SlotsFound.j4 k2 false) else (if t256 < t259 then ((bitloftlaw11_alive.f k2).bind fun t263 => (bitloftlaw11_SlotsFound.j4 k2 t263)) else (if t256 = t259 then (if t239 = t242 then ((bitloftlaw11_alive.f k2).bind fun t264 => (bitloftlaw11_SlotsFound.j4 k2 t264)) else (bitloftlaw11_SlotsFound.j4 k2 false)) else (bitloftlaw11_SlotsFound.j4 k2 false)))) else (bitloftlaw11_SlotsFound.j4 k2 false)) else (none)) else (bitloftlaw11_SlotsFound.j4 k2 false)) else (bitloftlaw11_SlotsFound.j4 k2 false)) = some r := H; have A74 := Aside0.mk A740; clear A740; have HC75 := Aside0.mk H; clear H; have hnb76 := NB232_241.out; have hnc76 := NB241_232.out; have hcz77_0 : wr.cell? ⟨gb232, 0, none⟩ = some (.int .i64 a0_0) := (blk_cell BK232.out 0).trans rfl; have hcz77_1 : wr.cell? ⟨gb232, 1, none⟩ = some (.slice (some ad247) l0_1.length c0_1) := (blk_cell BK232.out 1).trans rfl; have hfz77_0 := blk_frozen BK232.out 0; have hfz77_1 := blk_frozen BK232.out 1; have p255 : 0 ≤ (t239 : Int) := of_decide_eq_true (by first | (with_reducible assumption) | assumption); have q255 : t239 < (l0_1.length : Int) := of_decide_eq_true (by first | (with_reducible assumption) | assumption); obtain ⟨ad255, e255, hx255_0, hx255_1, hx255_2, hx255_3, hx255_4, hx255_5, hx255_6, hx255_7, hx255_8, hx255_9, hx255_10, hx255_11, hx255_12, hx255_13, hx255_14, hx255_15⟩ := at_T42 HR0_1.out t239 p255 q255; obtain rfl : ad247 = ad255 := (by injection e255); replace hx255_0 := (HB.out.cell (World.block_lt_of_cell? w _ hx255_0)).trans hx255_0; replace hx255_1 := (HB.out.cell (World.block_lt_of_cell? w _ hx255_1)).trans hx255_1; replace hx255_2 := (HB.out.cell (World.block_lt_of_cell? w _ hx255_2)).trans hx255_2; replace hx255_3 := (HB.out.cell (World.block_lt_of_cell? w _ hx255_3)).trans hx255_3; replace hx255_4 := (HB.out.cell (World.block_lt_of_cell? w _ hx255_4)).trans hx255_4; replace hx255_5 := (HB.out.cell (World.block_lt_of_cell? w _ hx255_5)).trans hx255_5; replace hx255_6 := (HB.out.cell (World.block_lt_of_cell? w _ hx255_6)).trans hx255_6; replace hx255_7 := (HB.out.cell (World.block_lt_of_cell? w _ hx255_7)).trans hx255_7; replace hx255_8 := (HB.out.cell (World.block_lt_of_cell? w _ hx255_8)).trans hx255_8; replace hx255_9 := (HB.out.cell (World.block_lt_of_cell? w _ hx255_9)).trans hx255_9; replace hx255_10 := (HB.out.cell (World.block_lt_of_cell? w _ hx255_10)).trans hx255_10; replace hx255_11 := (HB.out.cell (World.block_lt_of_cell? w _ hx255_11)).trans hx255_11; replace hx255_12 := (HB.out.cell (World.block_lt_of_cell? w _ hx255_12)).trans hx255_12; replace hx255_13 := (HB.out.cell (World.block_lt_of_cell? w _ hx255_13)).trans hx255_13; replace hx255_14 := (HB.out.cell (World.block_lt_of_cell? w _ hx255_14)).trans hx255_14; replace hx255_15 := (HB.out.cell (World.block_lt_of_cell? w _ hx255_15)).trans hx255_15; replace p255 := eq_true p255; replace q255 := eq_true q255
                           go_upto_region 19 with (first | (go_at_call 29; (with_reducible refine (states_Total.calls ((rd_T42 l0_1 t239).f1.f0) t256 t257 _ A71.out).mono ?_); rintro e w78 ⟨rfl, hb⟩; have n0_ := Aside0.mk (Kd.R_below (pL_ HO_242001.out) hb); have n1_ := Aside0.mk (blk_below (pG_ BK232.out) hb); have n2_ := Aside0.mk (blk_below (pG_ BK241.out) hb); have n3_ := Aside0.mk (below_step (pH_ HB.out) hb); clear HO_242001; clear BK232; clear BK241; clear HB; have HO_242001 := n0_; have BK232 := n1_; have BK241 := n2_; have HB := n3_; clear n0_ n1_ n2_ n3_; (try clear hb); have hcz79_0 : w78.cell? ⟨gb232, 0, none⟩ = some (.int .i64 a0_0) := (blk_cell BK232.out 0).trans rfl; have hcz79_1 : w78.cell? ⟨gb232, 1, none⟩ = some (.slice (some ad247) l0_1.length c0_1) := (blk_cell BK232.out 1).trans rfl; have hfz79_0 := blk_frozen BK232.out 0; have hfz79_1 := blk_frozen BK232.out 1; have p258 : 0 ≤ (t246 : Int) := of_decide_eq_true (by first | (with_reducible assumption) | assumption); have q258 : t246 < (l0_1.length : Int) := of_decide_eq_true (by first | (with_reducible assumption) | assumption); obtain ⟨ad258, e258, hx258_0, hx258_1, hx258_2, hx258_3, hx258_4, hx258_5, hx258_6, hx258_7, hx258_8, hx258_9, hx258_10, hx258_11, hx258_12, hx258_13, hx258_14, hx258_15⟩ := at_T42 HR0_1.out t246 p258 q258; obtain rfl : ad247 = ad258 := (by injection e258); replace hx258_0 := (HB.out.cell (World.block_lt_of_cell? w _ hx258_0)).trans hx258_0; replace hx258_1 := (HB.out.cell (World.block_lt_of_cell? w _ hx258_1)).trans hx258_1; replace hx258_2 := (HB.out.cell (World.block_lt_of_cell? w _ hx258_2)).trans hx258_2; replace hx258_3 := (HB.out.cell (World.block_lt_of_cell? w _ hx258_3)).trans hx258_3; replace hx258_4 := (HB.out.cell (World.block_lt_of_cell? w _ hx258_4)).trans hx258_4; replace hx258_5 := (HB.out.cell (World.block_lt_of_cell? w _ hx258_5)).trans hx258_5; replace hx258_6 := (HB.out.cell (World.block_lt_of_cell? w _ hx258_6)).trans hx258_6; replace hx258_7 := (HB.out.cell (World.block_lt_of_cell? w _ hx258_7)).trans hx258_7; replace hx258_8 := (HB.out.cell (World.block_lt_of_cell? w _ hx258_8)).trans hx258_8; replace hx258_9 := (HB.out.cell (World.block_lt_of_cell? w _ hx258_9)).trans hx258_9; replace hx258_10 := (HB.out.cell (World.block_lt_of_cell? w _ hx258_10)).trans hx258_10; replace hx258_11 := (HB.out.cell (World.block_lt_of_cell? w _ hx258_11)).trans hx258_11; replace hx258_12 := (HB.out.cell (World.block_lt_of_cell? w _ hx258_12)).trans hx258_12; replace hx258_13 := (HB.out.cell (World.block_lt_of_cell? w _ hx258_13)).trans hx258_13; replace hx258_14 := (HB.out.cell (World.block_lt_of_cell? w _ hx258_14)).trans hx258_14; replace hx258_15 := (HB.out.cell (World.block_lt_of_cell? w _ hx258_15)).trans hx258_15; replace p258 := eq_true p258; replace q258 := eq_true q258) | (go_at_call 29; (with_reducible refine (states_Total.calls ((rd_T42 l0_1 t246).f1.f0) t259 t260 _ A74.out).mono ?_); rintro e w80 ⟨rfl, hb⟩; have n0_ := Aside0.mk (Kd.R_below (pL_ HO_242001.out) hb); have n1_ := Aside0.mk (blk_below (pG_ BK232.out) hb); have n2_ := Aside0.mk (blk_below (pG_ BK241.out) hb); have n3_ := Aside0.mk (below_step (pH_ HB.out) hb); clear HO_242001; clear BK232; clear BK241; clear HB; have HO_242001 := n0_; have BK232 := n1_; have BK241 := n2_; have HB := n3_; clear n0_ n1_ n2_ n3_; (try clear hb)))
                           repeat (go_quiet (first | (go_at_call 29; (with_reducible refine (states_Total.calls ((rd_T42 l0_1 t239).f1.f0) t256 t257 _ A71.out).mono ?_); rintro e w78 ⟨rfl, hb⟩; have n0_ := Aside0.mk (Kd.R_below (pL_ HO_242001.out) hb); have n1_ := Aside0.mk (blk_below (pG_ BK232.out) hb); have n2_ := Aside0.mk (blk_below (pG_ BK241.out) hb); have n3_ := Aside0.mk (below_step (pH_ HB.out) hb); clear HO_242001; clear BK232; clear BK241; clear HB; have HO_242001 := n0_; have BK232 := n1_; have BK241 := n2_; have HB := n3_; clear n0_ n1_ n2_ n3_; (try clear hb); have hcz79_0 : w78.cell? ⟨gb232, 0, none⟩ = some (.int .i64 a0_0) := (blk_cell BK232.out 0).trans rfl; have hcz79_1 : w78.cell? ⟨gb232, 1, none⟩ = some (.slice (some ad247) l0_1.length c0_1) := (blk_cell BK232.out 1).trans rfl; have hfz79_0 := blk_frozen BK232.out 0; have hfz79_1 := blk_frozen BK232.out 1; have p258 : 0 ≤ (t246 : Int) := of_decide_eq_true (by first | (with_reducible assumption) | assumption); have q258 : t246 < (l0_1.length : Int) := of_decide_eq_true (by first | (with_reducible assumption) | assumption); obtain ⟨ad258, e258, hx258_0, hx258_1, hx258_2, hx258_3, hx258_4, hx258_5, hx258_6, hx258_7, hx258_8, hx258_9, hx258_10, hx258_11, hx258_12, hx258_13, hx258_14, hx258_15⟩ := at_T42 HR0_1.out t246 p258 q258; obtain rfl : ad247 = ad258 := (by injection e258); replace hx258_0 := (HB.out.cell (World.block_lt_of_cell? w _ hx258_0)).trans hx258_0; replace hx258_1 := (HB.out.cell (World.block_lt_of_cell? w _ hx258_1)).trans hx258_1; replace hx258_2 := (HB.out.cell (World.block_lt_of_cell? w _ hx258_2)).trans hx258_2; replace hx258_3 := (HB.out.cell (World.block_lt_of_cell? w _ hx258_3)).trans hx258_3; replace hx258_4 := (HB.out.cell (World.block_lt_of_cell? w _ hx258_4)).trans hx258_4; replace hx258_5 := (HB.out.cell (World.block_lt_of_cell? w _ hx258_5)).trans hx258_5; replace hx258_6 := (HB.out.cell (World.block_lt_of_cell? w _ hx258_6)).trans hx258_6; replace hx258_7 := (HB.out.cell (World.block_lt_of_cell? w _ hx258_7)).trans hx258_7; replace hx258_8 := (HB.out.cell (World.block_lt_of_cell? w _ hx258_8)).trans hx258_8; replace hx258_9 := (HB.out.cell (World.block_lt_of_cell? w _ hx258_9)).trans hx258_9; replace hx258_10 := (HB.out.cell (World.block_lt_of_cell? w _ hx258_10)).trans hx258_10; replace hx258_11 := (HB.out.cell (World.block_lt_of_cell? w _ hx258_11)).trans hx258_11; replace hx258_12 := (HB.out.cell (World.block_lt_of_cell? w _ hx258_12)).trans hx258_12; replace hx258_13 := (HB.out.cell (World.block_lt_of_cell? w _ hx258_13)).trans hx258_13; replace hx258_14 := (HB.out.cell (World.block_lt_of_cell? w _ hx258_14)).trans hx258_14; replace hx258_15 := (HB.out.cell (World.block_lt_of_cell? w _ hx258_15)).trans hx258_15; replace p258 := eq_true p258; replace q258 := eq_true q258) | (go_at_call 29; (with_reducible refine (states_Total.calls ((rd_T42 l0_1 t246).f1.f0) t259 t260 _ A74.out).mono ?_); rintro e w80 ⟨rfl, hb⟩; have n0_ := Aside0.mk (Kd.R_below (pL_ HO_242001.out) hb); have n1_ := Aside0.mk (blk_below (pG_ BK232.out) hb); have n2_ := Aside0.mk (blk_below (pG_ BK241.out) hb); have n3_ := Aside0.mk (below_step (pH_ HB.out) hb); clear HO_242001; clear BK232; clear BK241; clear HB; have HO_242001 := n0_; have BK232 := n1_; have BK241 := n2_; have HB := n3_; clear n0_ n1_ n2_ n3_; (try clear hb))); go_upto_region 19 with (first | (go_at_call 29; (with_reducible refine (states_Total.calls ((rd_T42 l0_1 t239).f1.f0) t256 t257 _ A71.out).mono ?_); rintro e w78 ⟨rfl, hb⟩; have n0_ := Aside0.mk (Kd.R_below (pL_ HO_242001.out) hb); have n1_ := Aside0.mk (blk_below (pG_ BK232.out) hb); have n2_ := Aside0.mk (blk_below (pG_ BK241.out) hb); have n3_ := Aside0.mk (below_step (pH_ HB.out) hb); clear HO_242001; clear BK232; clear BK241; clear HB; have HO_242001 := n0_; have BK232 := n1_; have BK241 := n2_; have HB := n3_; clear n0_ n1_ n2_ n3_; (try clear hb); have hcz79_0 : w78.cell? ⟨gb232, 0, none⟩ = some (.int .i64 a0_0) := (blk_cell BK232.out 0).trans rfl; have hcz79_1 : w78.cell? ⟨gb232, 1, none⟩ = some (.slice (some ad247) l0_1.length c0_1) := (blk_cell BK232.out 1).trans rfl; have hfz79_0 := blk_frozen BK232.out 0; have hfz79_1 := blk_frozen BK232.out 1; have p258 : 0 ≤ (t246 : Int) := of_decide_eq_true (by first | (with_reducible assumption) | assumption); have q258 : t246 < (l0_1.length : Int) := of_decide_eq_true (by first | (with_reducible assumption) | assumption); obtain ⟨ad258, e258, hx258_0, hx258_1, hx258_2, hx258_3, hx258_4, hx258_5, hx258_6, hx258_7, hx258_8, hx258_9, hx258_10, hx258_11, hx258_12, hx258_13, hx258_14, hx258_15⟩ := at_T42 HR0_1.out t246 p258 q258; obtain rfl : ad247 = ad258 := (by injection e258); replace hx258_0 := (HB.out.cell (World.block_lt_of_cell? w _ hx258_0)).trans hx258_0; replace hx258_1 := (HB.out.cell (World.block_lt_of_cell? w _ hx258_1)).trans hx258_1; replace hx258_2 := (HB.out.cell (World.block_lt_of_cell? w _ hx258_2)).trans hx258_2; replace hx258_3 := (HB.out.cell (World.block_lt_of_cell? w _ hx258_3)).trans hx258_3; replace hx258_4 := (HB.out.cell (World.block_lt_of_cell? w _ hx258_4)).trans hx258_4; replace hx258_5 := (HB.out.cell (World.block_lt_of_cell? w _ hx258_5)).trans hx258_5; replace hx258_6 := (HB.out.cell (World.block_lt_of_cell? w _ hx258_6)).trans hx258_6; replace hx258_7 := (HB.out.cell (World.block_lt_of_cell? w _ hx258_7)).trans hx258_7; replace hx258_8 := (HB.out.cell (World.block_lt_of_cell? w _ hx258_8)).trans hx258_8; replace hx258_9 := (HB.out.cell (World.block_lt_of_cell? w _ hx258_9)).trans hx258_9; replace hx258_10 := (HB.out.cell (World.block_lt_of_cell? w _ hx258_10)).trans hx258_10; replace hx258_11 := (HB.out.cell (World.block_lt_of_cell? w _ hx258_11)).trans hx258_11; replace hx258_12 := (HB.out.cell (World.block_lt_of_cell? w _ hx258_12)).trans hx258_12; replace hx258_13 := (HB.out.cell (World.block_lt_of_cell? w _ hx258_13)).trans hx258_13; replace hx258_14 := (HB.out.cell (World.block_lt_of_cell? w _ hx258_14)).trans hx258_14; replace hx258_15 := (HB.out.cell (World.block_lt_of_cell? w _ hx258_15)).trans hx258_15; replace p258 := eq_true p258; replace q258 := eq_true q258) | (go_at_call 29; (with_reducible refine (states_Total.calls ((rd_T42 l0_1 t246).f1.f0) t259 t260 _ A74.out).mono ?_); rintro e w80 ⟨rfl, hb⟩; have n0_ := Aside0.mk (Kd.R_below (pL_ HO_242001.out) hb); have n1_ := Aside0.mk (blk_below (pG_ BK232.out) hb); have n2_ := Aside0.mk (blk_below (pG_ BK241.out) hb); have n3_ := Aside0.mk (below_step (pH_ HB.out) hb); clear HO_242001; clear BK232; clear BK241; clear HB; have HO_242001 := n0_; have BK232 := n1_; have BK241 := n2_; have HB := n3_; clear n0_ n1_ n2_ n3_; (try clear hb))))
                           (try simp only [Act.put, sA_, sZ_, sS_]); (with_reducible first | refine then_id_ ?_ | (refine wp_tail_ ?_; intro Kt_ hKt_))
                           go_cut [4] (fun v4 wc => ∃ (kq : Nat) (x4_74 : Bool), v4 = .bool x4_74 ∧ Aside0 (bitloftlaw11_SlotsFound.j4 kq x4_74 = some r) ∧ Aside0 (kq ≤ k2) ∧ Aside0 (Kd.R k42 42 wc w.heap.size (fun _ => True) (.slice Ao17 t236.length co17) t236) ∧ Aside0 (wc.heap[gb232]? = some (.cells #[.int .i64 a0_0, (.slice (some ad247) l0_1.length c0_1)] 24 (0, 0))) ∧ Aside0 (wc.heap[gb241]? = some (.cells #[.int .i64 t235, (.slice Ao17 t236.length co17)] 24 (0, 0))) ∧ Aside0 (Below w.heap.size w wc))
                           case first =>
                            as_aux_lemma =>
                             have H := HC75.out; clear HC75
                             by_cases c81 : t257 = 0
                             ·
                              as_aux_lemma =>
                               rw [if_pos c81] at H; have c81b0 : (t257 == 0) = true := beq_iff_eq.mpr c81; have c81b1 : (t257 != 0) = false := bne_eq_false_iff_eq.mpr c81; clear c81; (first | rw [c81b0] | (simp only [i64_w, i32_w]; rw [c81b0]) | skip)
                               by_cases c82 : t260 = 0
                               ·
                                as_aux_lemma =>
                                 rw [if_pos c82] at H; have c82b0 : (t260 == 0) = true := beq_iff_eq.mpr c82; have c82b1 : (t260 != 0) = false := bne_eq_false_iff_eq.mpr c82; clear c82
                                 by_cases c83 : t239 < (t236.length : Int)
                                 ·
                                  as_aux_lemma =>
                                   rw [if_pos c83] at H; have c83b0 : decide (t239 < (t236.length : Int)) = true := decide_eq_true c83; clear c83
                                   by_cases c84 : (((rd_T42 t236 t239).f0) == t244 && ((((rd_T42 t236 t239).f1.f0) == 0 && (((rd_T42 t236 t239).f1.f1) == 0 && (((rd_T42 t236 t239).f1.f2) == 0 && (((rd_T42 t236 t239).f1.f3) == 0 && (((rd_T42 t236 t239).f1.f4) == 0 && (((rd_T42 t236 t239).f1.f5) == 0 && (((rd_T42 t236 t239).f1.f6) == 0 && (((rd_T42 t236 t239).f1.f7) == 0 && (((rd_T42 t236 t239).f1.f8) == 0 && (((rd_T42 t236 t239).f1.f9) == 0 && (((rd_T42 t236 t239).f1.f10) == 0 && (((rd_T42 t236 t239).f1.f11) == 0 && (((rd_T42 t236 t239).f1.f12) == 0 && (((rd_T42 t236 t239).f1.f13) == 0 && (((rd_T42 t236 t239).f1.f14) == 0))))))))))))))))) = true
                                   ·
                                    as_aux_lemma =>
                                     rw [if_pos c84] at H; have c84b0 : (((rd_T42 t236 t239).f0) == t244 && ((((rd_T42 t236 t239).f1.f0) == 0 && (((rd_T42 t236 t239).f1.f1) == 0 && (((rd_T42 t236 t239).f1.f2) == 0 && (((rd_T42 t236 t239).f1.f3) == 0 && (((rd_T42 t236 t239).f1.f4) == 0 && (((rd_T42 t236 t239).f1.f5) == 0 && (((rd_T42 t236 t239).f1.f6) == 0 && (((rd_T42 t236 t239).f1.f7) == 0 && (((rd_T42 t236 t239).f1.f8) == 0 && (((rd_T42 t236 t239).f1.f9) == 0 && (((rd_T42 t236 t239).f1.f10) == 0 && (((rd_T42 t236 t239).f1.f11) == 0 && (((rd_T42 t236 t239).f1.f12) == 0 && (((rd_T42 t236 t239).f1.f13) == 0 && (((rd_T42 t236 t239).f1.f14) == 0))))))))))))))))) = true := c84; (try (have c84b1 : decide (((rd_T42 t236 t239).f0) = t244 && ((((rd_T42 t236 t239).f1.f0) == 0 && (((rd_T42 t236 t239).f1.f1) == 0 && (((rd_T42 t236 t239).f1.f2) == 0 && (((rd_T42 t236 t239).f1.f3) == 0 && (((rd_T42 t236 t239).f1.f4) == 0 && (((rd_T42 t236 t239).f1.f5) == 0 && (((rd_T42 t236 t239).f1.f6) == 0 && (((rd_T42 t236 t239).f1.f7) == 0 && (((rd_T42 t236 t239).f1.f8) == 0 && (((rd_T42 t236 t239).f1.f9) == 0 && (((rd_T42 t236 t239).f1.f10) == 0 && (((rd_T42 t236 t239).f1.f11) == 0 && (((rd_T42 t236 t239).f1.f12) == 0 && (((rd_T42 t236 t239).f1.f13) == 0 && (((rd_T42 t236 t239).f1.f14) == 0))))))))))))))))) = true := by simpa using c84)); (try (have c84b2 : (((rd_T42 t236 t239).f0) == t244 && ((((rd_T42 t236 t239).f1.f0) == 0 && (((rd_T42 t236 t239).f1.f1) == 0 && (((rd_T42 t236 t239).f1.f2) == 0 && (((rd_T42 t236 t239).f1.f3) == 0 && (((rd_T42 t236 t239).f1.f4) == 0 && (((rd_T42 t236 t239).f1.f5) == 0 && (((rd_T42 t236 t239).f1.f6) == 0 && (((rd_T42 t236 t239).f1.f7) == 0 && (((rd_T42 t236 t239).f1.f8) == 0 && (((rd_T42 t236 t239).f1.f9) == 0 && (((rd_T42 t236 t239).f1.f10) == 0 && (((rd_T42 t236 t239).f1.f11) == 0 && (((rd_T42 t236 t239).f1.f12) == 0 && (((rd_T42 t236 t239).f1.f13) == 0 && (((rd_T42 t236 t239).f1.f14) == 0))))))))))))))))) = true := by simpa using c84)); clear c84
                                     by_cases c85 : ((rd_T42 l0_1 t246).f0) = t244
                                     ·
                                      rw [if_pos c85] at H; have c85b0 : (((rd_T42 l0_1 t246).f0) == t244) = true := beq_iff_eq.mpr c85; have c85b1 : (((rd_T42 l0_1 t246).f0) != t244) = false := bne_eq_false_iff_eq.mpr c85; clear c85; exact absurd (H.trans (congrArg some HRT_.out)) (by first | (simp; done) | (generalize k2 = k_; cases k_ <;> simp [bitloftlaw11_SlotsFound.j0, bitloftlaw11_SlotsFound.l0, bitloftlaw11_SlotsFound.j2, bitloftlaw11_SlotsFound.j3, bitloftlaw11_SlotsFound.j4]))
                                     ·
                                      as_aux_lemma =>
                                       rw [if_neg c85] at H; have c85b0 : (((rd_T42 l0_1 t246).f0) == t244) = false := beq_eq_false_iff_ne.mpr c85; have c85b1 : (((rd_T42 l0_1 t246).f0) != t244) = true := bne_iff_ne.mpr c85
                                       by_cases c86 : t256 < t259
                                       ·
                                        rw [if_pos c86] at H; have c86b0 : decide (t256 < t259) = true := decide_eq_true c86; clear c86; replace H := Option.bind_eq_some_iff.mp H; obtain ⟨t263, A870, H⟩ := H; replace H : (bitloftlaw11_SlotsFound.j4 k2 t263) = some r := H; have A87 := Aside0.mk A870; clear A870; have H' := Aside0.mk H; clear H; have hnb88 := NB241_232.out; have hnc88 := NB232_241.out; have hcz89_0 : w80.cell? ⟨gb241, 0, none⟩ = some (.int .i64 t235) := (blk_cell BK241.out 0).trans rfl; have hcz89_1 : w80.cell? ⟨gb241, 1, none⟩ = some (.slice Ao17 t236.length co17) := (blk_cell BK241.out 1).trans rfl; have hfz89_0 := blk_frozen BK241.out 0; have hfz89_1 := blk_frozen BK241.out 1; have p261 : 0 ≤ (t239 : Int) := of_decide_eq_true (by first | (with_reducible assumption) | assumption); have q261 : t239 < (t236.length : Int) := of_decide_eq_true (by first | (with_reducible assumption) | assumption); obtain ⟨ad261, e261, hx261_0, hx261_1, hx261_2, hx261_3, hx261_4, hx261_5, hx261_6, hx261_7, hx261_8, hx261_9, hx261_10, hx261_11, hx261_12, hx261_13, hx261_14, hx261_15⟩ := at_T42 (Kd.R_reads' HO_242001.out).2.2 t239 p261 q261
                                        cases e261
                                        replace p261 := eq_true p261; replace q261 := eq_true q261; have hcz90_0 : w80.cell? ⟨gb232, 0, none⟩ = some (.int .i64 a0_0) := (blk_cell BK232.out 0).trans rfl; have hcz90_1 : w80.cell? ⟨gb232, 1, none⟩ = some (.slice (some ad247) l0_1.length c0_1) := (blk_cell BK232.out 1).trans rfl; have hfz90_0 := blk_frozen BK232.out 0; have hfz90_1 := blk_frozen BK232.out 1; have p262 : 0 ≤ (t246 : Int) := of_decide_eq_true (by first | (with_reducible assumption) | assumption); have q262 : t246 < (l0_1.length : Int) := of_decide_eq_true (by first | (with_reducible assumption) | assumption); obtain ⟨ad262, e262, hx262_0, hx262_1, hx262_2, hx262_3, hx262_4, hx262_5, hx262_6, hx262_7, hx262_8, hx262_9, hx262_10, hx262_11, hx262_12, hx262_13, hx262_14, hx262_15⟩ := at_T42 HR0_1.out t246 p262 q262; obtain rfl : ad247 = ad262 := (by injection e262); replace hx262_0 := (HB.out.cell (World.block_lt_of_cell? w _ hx262_0)).trans hx262_0; replace hx262_1 := (HB.out.cell (World.block_lt_of_cell? w _ hx262_1)).trans hx262_1; replace hx262_2 := (HB.out.cell (World.block_lt_of_cell? w _ hx262_2)).trans hx262_2; replace hx262_3 := (HB.out.cell (World.block_lt_of_cell? w _ hx262_3)).trans hx262_3; replace hx262_4 := (HB.out.cell (World.block_lt_of_cell? w _ hx262_4)).trans hx262_4; replace hx262_5 := (HB.out.cell (World.block_lt_of_cell? w _ hx262_5)).trans hx262_5; replace hx262_6 := (HB.out.cell (World.block_lt_of_cell? w _ hx262_6)).trans hx262_6; replace hx262_7 := (HB.out.cell (World.block_lt_of_cell? w _ hx262_7)).trans hx262_7; replace hx262_8 := (HB.out.cell (World.block_lt_of_cell? w _ hx262_8)).trans hx262_8; replace hx262_9 := (HB.out.cell (World.block_lt_of_cell? w _ hx262_9)).trans hx262_9; replace hx262_10 := (HB.out.cell (World.block_lt_of_cell? w _ hx262_10)).trans hx262_10; replace hx262_11 := (HB.out.cell (World.block_lt_of_cell? w _ hx262_11)).trans hx262_11; replace hx262_12 := (HB.out.cell (World.block_lt_of_cell? w _ hx262_12)).trans hx262_12; replace hx262_13 := (HB.out.cell (World.block_lt_of_cell? w _ hx262_13)).trans hx262_13; replace hx262_14 := (HB.out.cell (World.block_lt_of_cell? w _ hx262_14)).trans hx262_14; replace hx262_15 := (HB.out.cell (World.block_lt_of_cell? w _ hx262_15)).trans hx262_15; replace p262 := eq_true p262; replace q262 := eq_true q262
                                        go_wp2_with (first | (go_at_call 24; (with_reducible refine (bitloftlaw11_alive.calls k2  t263 _ A87.out).mono ?_); rintro e w91 ⟨rfl, hb⟩; have n0_ := Aside0.mk (Kd.R_below (pL_ HO_242001.out) hb); have n1_ := Aside0.mk (blk_below (pG_ BK232.out) hb); have n2_ := Aside0.mk (blk_below (pG_ BK241.out) hb); have n3_ := Aside0.mk (below_step (pH_ HB.out) hb); clear HO_242001; clear BK232; clear BK241; clear HB; have HO_242001 := n0_; have BK232 := n1_; have BK241 := n2_; have HB := n3_; clear n0_ n1_ n2_ n3_; (try clear hb)))
                                        repeat (go_quiet (first | (go_at_call 24; (with_reducible refine (bitloftlaw11_alive.calls k2  t263 _ A87.out).mono ?_); rintro e w91 ⟨rfl, hb⟩; have n0_ := Aside0.mk (Kd.R_below (pL_ HO_242001.out) hb); have n1_ := Aside0.mk (blk_below (pG_ BK232.out) hb); have n2_ := Aside0.mk (blk_below (pG_ BK241.out) hb); have n3_ := Aside0.mk (below_step (pH_ HB.out) hb); clear HO_242001; clear BK232; clear BK241; clear HB; have HO_242001 := n0_; have BK232 := n1_; have BK241 := n2_; have HB := n3_; clear n0_ n1_ n2_ n3_; (try clear hb))); try go_wp2_with (first | (go_at_call 24; (with_reducible refine (bitloftlaw11_alive.calls k2  t263 _ A87.out).mono ?_); rintro e w91 ⟨rfl, hb⟩; have n0_ := Aside0.mk (Kd.R_below (pL_ HO_242001.out) hb); have n1_ := Aside0.mk (blk_below (pG_ BK232.out) hb); have n2_ := Aside0.mk (blk_below (pG_ BK241.out) hb); have n3_ := Aside0.mk (below_step (pH_ HB.out) hb); clear HO_242001; clear BK232; clear BK241; clear HB; have HO_242001 := n0_; have BK232 := n1_; have BK241 := n2_; have HB := n3_; clear n0_ n1_ n2_ n3_; (try clear hb))))
                                        (first | go_meet | (refine Met.intro ?_; go_step; (repeat apply Exists.intro); refine ⟨?rel, ?eqf_⟩; case eqf_ => ((simp only [c86b0, c85b0, c84b0, c83b0, c82b0, c81b0, c73b0, c72b0, c70b0, c69b0, c55b0, c38b0]) <;> rfl)))
                                        case rel => exact ⟨_, (t263), (by first | rfl | (simp; done) | (simp [*]; done)), H', ⟨by have := HJ7.out; have := HK2.out; first | omega | exact Nat.le_refl _⟩, ⟨pL_ HO_242001.out⟩, ⟨pG_ BK232.out⟩, ⟨pG_ BK241.out⟩, ⟨pH_ HB.out⟩⟩
                                       ·
                                        rw [if_neg c86] at H; have c86b0 : decide (t256 < t259) = false := decide_eq_false c86; clear c86
                                        by_cases c92 : t256 = t259
                                        ·
                                         rw [if_pos c92] at H; have c92b0 : (t256 == t259) = true := beq_iff_eq.mpr c92; have c92b1 : (t256 != t259) = false := bne_eq_false_iff_eq.mpr c92; clear c92
                                         by_cases c93 : t239 = t242
                                         ·
                                          rw [if_pos c93] at H; have c93b0 : (t239 == t242) = true := beq_iff_eq.mpr c93; have c93b1 : (t239 != t242) = false := bne_eq_false_iff_eq.mpr c93; clear c93; replace H := Option.bind_eq_some_iff.mp H; obtain ⟨t264, A940, H⟩ := H; replace H : (bitloftlaw11_SlotsFound.j4 k2 t264) = some r := H; have A94 := Aside0.mk A940; clear A940; have H' := Aside0.mk H; clear H; have hnb95 := NB241_232.out; have hnc95 := NB232_241.out; have hcz96_0 : w80.cell? ⟨gb241, 0, none⟩ = some (.int .i64 t235) := (blk_cell BK241.out 0).trans rfl; have hcz96_1 : w80.cell? ⟨gb241, 1, none⟩ = some (.slice Ao17 t236.length co17) := (blk_cell BK241.out 1).trans rfl; have hfz96_0 := blk_frozen BK241.out 0; have hfz96_1 := blk_frozen BK241.out 1; have p261 : 0 ≤ (t239 : Int) := of_decide_eq_true (by first | (with_reducible assumption) | assumption); have q261 : t239 < (t236.length : Int) := of_decide_eq_true (by first | (with_reducible assumption) | assumption); obtain ⟨ad261, e261, hx261_0, hx261_1, hx261_2, hx261_3, hx261_4, hx261_5, hx261_6, hx261_7, hx261_8, hx261_9, hx261_10, hx261_11, hx261_12, hx261_13, hx261_14, hx261_15⟩ := at_T42 (Kd.R_reads' HO_242001.out).2.2 t239 p261 q261
                                          cases e261
                                          replace p261 := eq_true p261; replace q261 := eq_true q261; have hcz97_0 : w80.cell? ⟨gb232, 0, none⟩ = some (.int .i64 a0_0) := (blk_cell BK232.out 0).trans rfl; have hcz97_1 : w80.cell? ⟨gb232, 1, none⟩ = some (.slice (some ad247) l0_1.length c0_1) := (blk_cell BK232.out 1).trans rfl; have hfz97_0 := blk_frozen BK232.out 0; have hfz97_1 := blk_frozen BK232.out 1; have p262 : 0 ≤ (t246 : Int) := of_decide_eq_true (by first | (with_reducible assumption) | assumption); have q262 : t246 < (l0_1.length : Int) := of_decide_eq_true (by first | (with_reducible assumption) | assumption); obtain ⟨ad262, e262, hx262_0, hx262_1, hx262_2, hx262_3, hx262_4, hx262_5, hx262_6, hx262_7, hx262_8, hx262_9, hx262_10, hx262_11, hx262_12, hx262_13, hx262_14, hx262_15⟩ := at_T42 HR0_1.out t246 p262 q262; obtain rfl : ad247 = ad262 := (by injection e262); replace hx262_0 := (HB.out.cell (World.block_lt_of_cell? w _ hx262_0)).trans hx262_0; replace hx262_1 := (HB.out.cell (World.block_lt_of_cell? w _ hx262_1)).trans hx262_1; replace hx262_2 := (HB.out.cell (World.block_lt_of_cell? w _ hx262_2)).trans hx262_2; replace hx262_3 := (HB.out.cell (World.block_lt_of_cell? w _ hx262_3)).trans hx262_3; replace hx262_4 := (HB.out.cell (World.block_lt_of_cell? w _ hx262_4)).trans hx262_4; replace hx262_5 := (HB.out.cell (World.block_lt_of_cell? w _ hx262_5)).trans hx262_5; replace hx262_6 := (HB.out.cell (World.block_lt_of_cell? w _ hx262_6)).trans hx262_6; replace hx262_7 := (HB.out.cell (World.block_lt_of_cell? w _ hx262_7)).trans hx262_7; replace hx262_8 := (HB.out.cell (World.block_lt_of_cell? w _ hx262_8)).trans hx262_8; replace hx262_9 := (HB.out.cell (World.block_lt_of_cell? w _ hx262_9)).trans hx262_9; replace hx262_10 := (HB.out.cell (World.block_lt_of_cell? w _ hx262_10)).trans hx262_10; replace hx262_11 := (HB.out.cell (World.block_lt_of_cell? w _ hx262_11)).trans hx262_11; replace hx262_12 := (HB.out.cell (World.block_lt_of_cell? w _ hx262_12)).trans hx262_12; replace hx262_13 := (HB.out.cell (World.block_lt_of_cell? w _ hx262_13)).trans hx262_13; replace hx262_14 := (HB.out.cell (World.block_lt_of_cell? w _ hx262_14)).trans hx262_14; replace hx262_15 := (HB.out.cell (World.block_lt_of_cell? w _ hx262_15)).trans hx262_15; replace p262 := eq_true p262; replace q262 := eq_true q262
                                          go_wp2_with (first | (go_at_call 24; (with_reducible refine (bitloftlaw11_alive.calls k2  t264 _ A94.out).mono ?_); rintro e w98 ⟨rfl, hb⟩; have n0_ := Aside0.mk (Kd.R_below (pL_ HO_242001.out) hb); have n1_ := Aside0.mk (blk_below (pG_ BK232.out) hb); have n2_ := Aside0.mk (blk_below (pG_ BK241.out) hb); have n3_ := Aside0.mk (below_step (pH_ HB.out) hb); clear HO_242001; clear BK232; clear BK241; clear HB; have HO_242001 := n0_; have BK232 := n1_; have BK241 := n2_; have HB := n3_; clear n0_ n1_ n2_ n3_; (try clear hb)))
                                          repeat (go_quiet (first | (go_at_call 24; (with_reducible refine (bitloftlaw11_alive.calls k2  t264 _ A94.out).mono ?_); rintro e w98 ⟨rfl, hb⟩; have n0_ := Aside0.mk (Kd.R_below (pL_ HO_242001.out) hb); have n1_ := Aside0.mk (blk_below (pG_ BK232.out) hb); have n2_ := Aside0.mk (blk_below (pG_ BK241.out) hb); have n3_ := Aside0.mk (below_step (pH_ HB.out) hb); clear HO_242001; clear BK232; clear BK241; clear HB; have HO_242001 := n0_; have BK232 := n1_; have BK241 := n2_; have HB := n3_; clear n0_ n1_ n2_ n3_; (try clear hb))); try go_wp2_with (first | (go_at_call 24; (with_reducible refine (bitloftlaw11_alive.calls k2  t264 _ A94.out).mono ?_); rintro e w98 ⟨rfl, hb⟩; have n0_ := Aside0.mk (Kd.R_below (pL_ HO_242001.out) hb); have n1_ := Aside0.mk (blk_below (pG_ BK232.out) hb); have n2_ := Aside0.mk (blk_below (pG_ BK241.out) hb); have n3_ := Aside0.mk (below_step (pH_ HB.out) hb); clear HO_242001; clear BK232; clear BK241; clear HB; have HO_242001 := n0_; have BK232 := n1_; have BK241 := n2_; have HB := n3_; clear n0_ n1_ n2_ n3_; (try clear hb))))
                                          (first | go_meet | (refine Met.intro ?_; go_step; (repeat apply Exists.intro); refine ⟨?rel, ?eqf_⟩; case eqf_ => ((simp only [c93b0, c92b0, c86b0, c85b0, c84b0, c83b0, c82b0, c81b0, c73b0, c72b0, c70b0, c69b0, c55b0, c38b0]) <;> rfl)))
                                          case rel => exact ⟨_, (t264), (by first | rfl | (simp; done) | (simp [*]; done)), H', ⟨by have := HJ7.out; have := HK2.out; first | omega | exact Nat.le_refl _⟩, ⟨pL_ HO_242001.out⟩, ⟨pG_ BK232.out⟩, ⟨pG_ BK241.out⟩, ⟨pH_ HB.out⟩⟩
                                         ·
                                          rw [if_neg c93] at H; have c93b0 : (t239 == t242) = false := beq_eq_false_iff_ne.mpr c93; have c93b1 : (t239 != t242) = true := bne_iff_ne.mpr c93; exact absurd (H.trans (congrArg some HRT_.out)) (by first | (simp; done) | (generalize k2 = k_; cases k_ <;> simp [bitloftlaw11_SlotsFound.j0, bitloftlaw11_SlotsFound.l0, bitloftlaw11_SlotsFound.j2, bitloftlaw11_SlotsFound.j3, bitloftlaw11_SlotsFound.j4]))
                                        ·
                                         rw [if_neg c92] at H; have c92b0 : (t256 == t259) = false := beq_eq_false_iff_ne.mpr c92; have c92b1 : (t256 != t259) = true := bne_iff_ne.mpr c92; exact absurd (H.trans (congrArg some HRT_.out)) (by first | (simp; done) | (generalize k2 = k_; cases k_ <;> simp [bitloftlaw11_SlotsFound.j0, bitloftlaw11_SlotsFound.l0, bitloftlaw11_SlotsFound.j2, bitloftlaw11_SlotsFound.j3, bitloftlaw11_SlotsFound.j4]))
                                   ·
                                    rw [if_neg c84] at H
                                    have c84b0 : (((rd_T42 t236 t239).f0) == t244 && ((((rd_T42 t236 t239).f1.f0) == 0 && (((rd_T42 t236 t239).f1.f1) == 0 && (((rd_T42 t236 t239).f1.f2) == 0 && (((rd_T42 t236 t239).f1.f3) == 0 && (((rd_T42 t236 t239).f1.f4) == 0 && (((rd_T42 t236 t239).f1.f5) == 0 && (((rd_T42 t236 t239).f1.f6) == 0 && (((rd_T42 t236 t239).f1.f7) == 0 && (((rd_T42 t236 t239).f1.f8) == 0 && (((rd_T42 t236 t239).f1.f9) == 0 && (((rd_T42 t236 t239).f1.f10) == 0 && (((rd_T42 t236 t239).f1.f11) == 0 && (((rd_T42 t236 t239).f1.f12) == 0 && (((rd_T42 t236 t239).f1.f13) == 0 && (((rd_T42 t236 t239).f1.f14) == 0))))))))))))))))) = false := by simpa using c84
                                    (try (have c84b1 : decide (((rd_T42 t236 t239).f0) = t244 && ((((rd_T42 t236 t239).f1.f0) == 0 && (((rd_T42 t236 t239).f1.f1) == 0 && (((rd_T42 t236 t239).f1.f2) == 0 && (((rd_T42 t236 t239).f1.f3) == 0 && (((rd_T42 t236 t239).f1.f4) == 0 && (((rd_T42 t236 t239).f1.f5) == 0 && (((rd_T42 t236 t239).f1.f6) == 0 && (((rd_T42 t236 t239).f1.f7) == 0 && (((rd_T42 t236 t239).f1.f8) == 0 && (((rd_T42 t236 t239).f1.f9) == 0 && (((rd_T42 t236 t239).f1.f10) == 0 && (((rd_T42 t236 t239).f1.f11) == 0 && (((rd_T42 t236 t239).f1.f12) == 0 && (((rd_T42 t236 t239).f1.f13) == 0 && (((rd_T42 t236 t239).f1.f14) == 0))))))))))))))))) = false := by simpa using c84)); (try (have c84b2 : (((rd_T42 t236 t239).f0) == t244 && ((((rd_T42 t236 t239).f1.f0) == 0 && (((rd_T42 t236 t239).f1.f1) == 0 && (((rd_T42 t236 t239).f1.f2) == 0 && (((rd_T42 t236 t239).f1.f3) == 0 && (((rd_T42 t236 t239).f1.f4) == 0 && (((rd_T42 t236 t239).f1.f5) == 0 && (((rd_T42 t236 t239).f1.f6) == 0 && (((rd_T42 t236 t239).f1.f7) == 0 && (((rd_T42 t236 t239).f1.f8) == 0 && (((rd_T42 t236 t239).f1.f9) == 0 && (((rd_T42 t236 t239).f1.f10) == 0 && (((rd_T42 t236 t239).f1.f11) == 0 && (((rd_T42 t236 t239).f1.f12) == 0 && (((rd_T42 t236 t239).f1.f13) == 0 && (((rd_T42 t236 t239).f1.f14) == 0))))))))))))))))) = false := by simpa using c84)); (try (have c84b3 : ¬ (((rd_T42 t236 t239).f0) = t244 && ((((rd_T42 t236 t239).f1.f0) == 0 && (((rd_T42 t236 t239).f1.f1) == 0 && (((rd_T42 t236 t239).f1.f2) == 0 && (((rd_T42 t236 t239).f1.f3) == 0 && (((rd_T42 t236 t239).f1.f4) == 0 && (((rd_T42 t236 t239).f1.f5) == 0 && (((rd_T42 t236 t239).f1.f6) == 0 && (((rd_T42 t236 t239).f1.f7) == 0 && (((rd_T42 t236 t239).f1.f8) == 0 && (((rd_T42 t236 t239).f1.f9) == 0 && (((rd_T42 t236 t239).f1.f10) == 0 && (((rd_T42 t236 t239).f1.f11) == 0 && (((rd_T42 t236 t239).f1.f12) == 0 && (((rd_T42 t236 t239).f1.f13) == 0 && (((rd_T42 t236 t239).f1.f14) == 0))))))))))))))))) := by simpa using c84)); clear c84; exact absurd (H.trans (congrArg some HRT_.out)) (by first | (simp; done) | (generalize k2 = k_; cases k_ <;> simp [bitloftlaw11_SlotsFound.j0, bitloftlaw11_SlotsFound.l0, bitloftlaw11_SlotsFound.j2, bitloftlaw11_SlotsFound.j3, bitloftlaw11_SlotsFound.j4]))
                                 ·
                                  rw [if_neg c83] at H; exact absurd H (by simp)
                               ·
                                rw [if_neg c82] at H; have c82b0 : (t260 == 0) = false := beq_eq_false_iff_ne.mpr c82; have c82b1 : (t260 != 0) = true := bne_iff_ne.mpr c82; exact absurd (H.trans (congrArg some HRT_.out)) (by first | (simp; done) | (generalize k2 = k_; cases k_ <;> simp [bitloftlaw11_SlotsFound.j0, bitloftlaw11_SlotsFound.l0, bitloftlaw11_SlotsFound.j2, bitloftlaw11_SlotsFound.j3, bitloftlaw11_SlotsFound.j4]))
                             ·
                              rw [if_neg c81] at H; have c81b0 : (t257 == 0) = false := beq_eq_false_iff_ne.mpr c81; have c81b1 : (t257 != 0) = true := bne_iff_ne.mpr c81; (first | rw [c81b0] | (simp only [i64_w, i32_w]; rw [c81b0]) | skip); exact absurd (H.trans (congrArg some HRT_.out)) (by first | (simp; done) | (generalize k2 = k_; cases k_ <;> simp [bitloftlaw11_SlotsFound.j0, bitloftlaw11_SlotsFound.l0, bitloftlaw11_SlotsFound.j2, bitloftlaw11_SlotsFound.j3, bitloftlaw11_SlotsFound.j4]))
                           case rest =>
                            as_aux_lemma =>
                             (try (refine hKt_ _ _ ?_; clear hKt_; clear Kt_)); clear HC75
                             try clear c1
                             try clear c2
                             try clear p2
                             try clear q2
                             try clear hx2
                             try clear c3
                             try clear c4
                             try clear c5
                             try clear c6
                             try clear p6
                             try clear c7
                             try clear c8
                             try clear c9
                             try clear c15
                             try clear c19
                             try clear c19b0
                             try clear c19b1
                             try clear c20
                             try clear c20b0
                             try clear c20b1
                             try clear c21
                             try clear c21b0
                             try clear c22
                             try clear c22b0
                             try clear c23
                             try clear c23b0
                             try clear c23b1
                             try clear c24
                             try clear c24b0
                             try clear p24
                             try clear q24
                             try clear hx24
                             try clear c25
                             try clear c25b0
                             try clear p25
                             try clear q25
                             try clear hx25
                             try clear c26
                             try clear c26b0
                             try clear c26b1
                             try clear c26b2
                             try clear p26
                             try clear q26
                             try clear hx26
                             try clear c27
                             try clear c27b0
                             try clear c28
                             try clear c28b0
                             try clear c29
                             try clear c32
                             try clear c34
                             try clear c34b0
                             try clear c35
                             try clear c35b0
                             try clear c36
                             try clear c38
                             try clear c38b0
                             try clear c40
                             try clear c42
                             try clear c42b0
                             try clear c42b1
                             try clear c43
                             try clear c43b0
                             try clear c43b1
                             try clear c43b2
                             try clear c44
                             try clear c44b0
                             try clear c45
                             try clear c45b0
                             try clear c46
                             try clear c49
                             try clear c49b0
                             try clear c50
                             try clear c50b0
                             try clear c51
                             try clear c54
                             try clear c55
                             try clear c55b0
                             try clear c55b1
                             try clear c55b2
                             try clear c57
                             try clear c59
                             try clear c59b0
                             try clear c59b1
                             try clear c62
                             try clear c62b0
                             try clear c63
                             try clear c63b0
                             try clear c64
                             try clear c64b0
                             try clear c64b1
                             try clear p64
                             try clear c66
                             try clear c69
                             try clear c69b0
                             try clear c70
                             try clear c70b0
                             try clear c72
                             try clear c72b0
                             try clear c73
                             try clear c73b0
                             try clear c76
                             try clear c81
                             try clear c81b0
                             try clear c81b1
                             try clear c82
                             try clear c82b0
                             try clear c82b1
                             try clear c83
                             try clear c83b0
                             try clear c84
                             try clear c84b0
                             try clear c84b1
                             try clear c84b2
                             try clear c85
                             try clear c85b0
                             try clear c85b1
                             try clear c86
                             try clear c86b0
                             try clear c88
                             try clear c92
                             try clear c92b0
                             try clear c92b1
                             try clear c93
                             try clear c93b0
                             try clear c93b1
                             try clear c95
                             try clear hcz10_0
                             try clear hcz10_1
                             try clear hcz12_0
                             try clear hcz12_1
                             try clear hcz16_0
                             try clear hcz16_1
                             try clear hcz18_0
                             try clear hcz18_1
                             try clear hcz30_0
                             try clear hcz30_1
                             try clear hcz31_0
                             try clear hcz31_1
                             try clear hcz37_0
                             try clear hcz37_1
                             try clear hcz41_0
                             try clear hcz41_1
                             try clear hcz47_0
                             try clear hcz47_1
                             try clear hcz48_0
                             try clear hcz48_1
                             try clear hcz52_0
                             try clear hcz52_1
                             try clear hcz53_0
                             try clear hcz53_1
                             try clear hcz58_0
                             try clear hcz58_1
                             try clear hcz67_0
                             try clear hcz67_1
                             try clear hcz77_0
                             try clear hcz77_1
                             try clear hcz79_0
                             try clear hcz79_1
                             try clear hcz89_0
                             try clear hcz89_1
                             try clear hcz90_0
                             try clear hcz90_1
                             try clear hcz96_0
                             try clear hcz96_1
                             try clear hcz97_0
                             try clear hcz97_1
                             try clear hfz10_0
                             try clear hfz10_1
                             try clear hfz12_0
                             try clear hfz12_1
                             try clear hfz16_0
                             try clear hfz16_1
                             try clear hfz18_0
                             try clear hfz18_1
                             try clear hfz30_0
                             try clear hfz30_1
                             try clear hfz31_0
                             try clear hfz31_1
                             try clear hfz37_0
                             try clear hfz37_1
                             try clear hfz41_0
                             try clear hfz41_1
                             try clear hfz47_0
                             try clear hfz47_1
                             try clear hfz48_0
                             try clear hfz48_1
                             try clear hfz52_0
                             try clear hfz52_1
                             try clear hfz53_0
                             try clear hfz53_1
                             try clear hfz58_0
                             try clear hfz58_1
                             try clear hfz67_0
                             try clear hfz67_1
                             try clear hfz77_0
                             try clear hfz77_1
                             try clear hfz79_0
                             try clear hfz79_1
                             try clear hfz89_0
                             try clear hfz89_1
                             try clear hfz90_0
                             try clear hfz90_1
                             try clear hfz96_0
                             try clear hfz96_1
                             try clear hfz97_0
                             try clear hfz97_1
                             try clear hx245_0
                             try clear hx245_1
                             try clear hx245_10
                             try clear hx245_11
                             try clear hx245_12
                             try clear hx245_13
                             try clear hx245_14
                             try clear hx245_15
                             try clear hx245_2
                             try clear hx245_3
                             try clear hx245_4
                             try clear hx245_5
                             try clear hx245_6
                             try clear hx245_7
                             try clear hx245_8
                             try clear hx245_9
                             try clear hx247_0
                             try clear hx247_1
                             try clear hx247_10
                             try clear hx247_11
                             try clear hx247_12
                             try clear hx247_13
                             try clear hx247_14
                             try clear hx247_15
                             try clear hx247_2
                             try clear hx247_3
                             try clear hx247_4
                             try clear hx247_5
                             try clear hx247_6
                             try clear hx247_7
                             try clear hx247_8
                             try clear hx247_9
                             try clear hx248_0
                             try clear hx248_1
                             try clear hx248_10
                             try clear hx248_11
                             try clear hx248_12
                             try clear hx248_13
                             try clear hx248_14
                             try clear hx248_15
                             try clear hx248_2
                             try clear hx248_3
                             try clear hx248_4
                             try clear hx248_5
                             try clear hx248_6
                             try clear hx248_7
                             try clear hx248_8
                             try clear hx248_9
                             try clear hx249_0
                             try clear hx249_1
                             try clear hx249_10
                             try clear hx249_11
                             try clear hx249_12
                             try clear hx249_13
                             try clear hx249_14
                             try clear hx249_15
                             try clear hx249_2
                             try clear hx249_3
                             try clear hx249_4
                             try clear hx249_5
                             try clear hx249_6
                             try clear hx249_7
                             try clear hx249_8
                             try clear hx249_9
                             try clear hx250_0
                             try clear hx250_1
                             try clear hx250_10
                             try clear hx250_11
                             try clear hx250_12
                             try clear hx250_13
                             try clear hx250_14
                             try clear hx250_15
                             try clear hx250_2
                             try clear hx250_3
                             try clear hx250_4
                             try clear hx250_5
                             try clear hx250_6
                             try clear hx250_7
                             try clear hx250_8
                             try clear hx250_9
                             try clear hx251_0
                             try clear hx251_1
                             try clear hx251_10
                             try clear hx251_11
                             try clear hx251_12
                             try clear hx251_13
                             try clear hx251_14
                             try clear hx251_15
                             try clear hx251_2
                             try clear hx251_3
                             try clear hx251_4
                             try clear hx251_5
                             try clear hx251_6
                             try clear hx251_7
                             try clear hx251_8
                             try clear hx251_9
                             try clear hx253_0
                             try clear hx253_1
                             try clear hx253_10
                             try clear hx253_11
                             try clear hx253_12
                             try clear hx253_13
                             try clear hx253_14
                             try clear hx253_15
                             try clear hx253_2
                             try clear hx253_3
                             try clear hx253_4
                             try clear hx253_5
                             try clear hx253_6
                             try clear hx253_7
                             try clear hx253_8
                             try clear hx253_9
                             try clear hx255_0
                             try clear hx255_1
                             try clear hx255_10
                             try clear hx255_11
                             try clear hx255_12
                             try clear hx255_13
                             try clear hx255_14
                             try clear hx255_15
                             try clear hx255_2
                             try clear hx255_3
                             try clear hx255_4
                             try clear hx255_5
                             try clear hx255_6
                             try clear hx255_7
                             try clear hx255_8
                             try clear hx255_9
                             try clear hx258_0
                             try clear hx258_1
                             try clear hx258_10
                             try clear hx258_11
                             try clear hx258_12
                             try clear hx258_13
                             try clear hx258_14
                             try clear hx258_15
                             try clear hx258_2
                             try clear hx258_3
                             try clear hx258_4
                             try clear hx258_5
                             try clear hx258_6
                             try clear hx258_7
                             try clear hx258_8
                             try clear hx258_9
                             try clear hx261_0
                             try clear hx261_1
                             try clear hx261_10
                             try clear hx261_11
                             try clear hx261_12
                             try clear hx261_13
                             try clear hx261_14
                             try clear hx261_15
                             try clear hx261_2
                             try clear hx261_3
                             try clear hx261_4
                             try clear hx261_5
                             try clear hx261_6
                             try clear hx261_7
                             try clear hx261_8
                             try clear hx261_9
                             try clear hx262_0
                             try clear hx262_1
                             try clear hx262_10
                             try clear hx262_11
                             try clear hx262_12
                             try clear hx262_13
                             try clear hx262_14
                             try clear hx262_15
                             try clear hx262_2
                             try clear hx262_3
                             try clear hx262_4
                             try clear hx262_5
                             try clear hx262_6
                             try clear hx262_7
                             try clear hx262_8
                             try clear hx262_9
                             try clear p2
                             try clear p24
                             try clear p245
                             try clear p247
                             try clear p248
                             try clear p249
                             try clear p25
                             try clear p250
                             try clear p251
                             try clear p253
                             try clear p255
                             try clear p258
                             try clear p261
                             try clear p262
                             try clear p6
                             try clear p64
                             try clear q2
                             try clear q24
                             try clear q245
                             try clear q247
                             try clear q248
                             try clear q249
                             try clear q25
                             try clear q250
                             try clear q251
                             try clear q253
                             try clear q255
                             try clear q258
                             try clear q261
                             try clear q262
                             obtain ⟨kq, x4_74, rfl, HA, HJ74, HO_242001, BK232, BK241, HB⟩ := hcut
                             cases kq with
                             | zero => exact absurd HA.out (by simp [bitloftlaw11_SlotsFound.j4])
                             | succ kj74 =>
                              have H := HA.out; clear HA; simp only [bitloftlaw11_SlotsFound.j4] at H; obtain rfl := Option.some.inj H
                              go_wp2
                              repeat (go_quiet (fail); try go_wp2)
                              go_ret
                              exact ⟨by first | rfl | (simp [errW_none, errW_some] <;> rfl) | (simp [*, errW_none, errW_some] <;> rfl), pH_ HB.out⟩
                         ·
                          rw [if_neg c73] at H; exact absurd H (by simp)
                       ·
                        rw [if_neg c72] at H; exact absurd H (by simp)
                     ·
                      rw [if_neg c70] at H; exact absurd H (by simp)
                   ·
                    rw [if_neg c69] at H; exact absurd H (by simp)
          ·
           rw [if_neg c35] at H; exact absurd H (by simp)
        ·
         rw [if_neg c34] at H; exact absurd H (by simp)
 ·
  replace c4 := Bool.eq_false_iff.mpr c4
  subst c4
  have H1 : ((bitloftlaw11_alive.f k).bind fun t234 => (some t234)) = some r := by rw [if_neg (show ¬ (false = true) by decide)] at H; exact H
  clear H; have H := H1; clear H1; replace H := Option.bind_eq_some_iff.mp H; obtain ⟨t234, A990, H⟩ := H; replace H : (some t234) = some r := H; have A99 := Aside0.mk A990; clear A990; obtain rfl := Option.some.inj H
  go_enter Try.func6, Try.ntmps6
  go_wp2_with (first | ((with_reducible refine gate_dst (N := 2) rfl ?_); (try (refine gate_guard (by rfl) ?_; dsimp only)); refine box_event ?hg (N := 2) ?hd (cs := #[.int .i64 a0_0, .slice A0_1 l0_1.length c0_1]) (t := 24) ?hr ?_; (case hd => rfl); (case hg => rfl); (case hr => first | (go_simp; done) | (go_simp; rfl)); intro gb232 hg w100 hbox hb; have n0_ := Aside0.mk (below_step (pH_ HB.out) hb); have n1_ := Aside0.mk (hbox); have n2_ := Aside0.mk ((by rw [hg]; exact (below_size (pH_ HB.out)) : w.heap.size ≤ gb232)); have n3_ := Aside0.mk ((by rw [hg]; exact (below_size (pH_ HB.out)) : w.heap.size ≤ gb232)); clear HB; have HB := n0_; have BK232 := n1_; have GW232 := n2_; have GE232 := n3_; clear n0_ n1_ n2_ n3_; clear hb hbox hg; have hcz101_0 : w100.cell? ⟨gb232, 0, none⟩ = some (.int .i64 a0_0) := (blk_cell BK232.out 0).trans rfl; have hcz101_1 : w100.cell? ⟨gb232, 1, none⟩ = some (.slice A0_1 l0_1.length c0_1) := (blk_cell BK232.out 1).trans rfl; have hfz101_0 := blk_frozen BK232.out 0; have hfz101_1 := blk_frozen BK232.out 1) | (go_at_call 25; (with_reducible refine (bitloftlaw11_fit.calls k a0_0 _ _ l0_1 false _ ?side1 ?side2 A3.out).mono ?_); (case side1 => repeat (first | exact (Kd.C_below HR0_1.out HB.out) | (with_reducible refine Kd.C_alloc ?_ _) | (with_reducible refine Kd.C_drewN ?_ _) | (with_reducible refine Kd.C_drew ?_))); (case side2 => exact HC0_1.out); rintro e w102 ⟨rfl, hb⟩; have n0_ := Aside0.mk (blk_below (pG_ BK232.out) hb); have n1_ := Aside0.mk (below_step (pH_ HB.out) hb); clear BK232; clear HB; have BK232 := n0_; have HB := n1_; clear n0_ n1_; (try clear hb)) | (go_at_call 24; (with_reducible refine (bitloftlaw11_alive.calls k  t234 _ A99.out).mono ?_); rintro e w103 ⟨rfl, hb⟩; have n0_ := Aside0.mk (blk_below (pG_ BK232.out) hb); have n1_ := Aside0.mk (below_step (pH_ HB.out) hb); clear BK232; clear HB; have BK232 := n0_; have HB := n1_; clear n0_ n1_; (try clear hb)))
  repeat (go_quiet (first | ((with_reducible refine gate_dst (N := 2) rfl ?_); (try (refine gate_guard (by rfl) ?_; dsimp only)); refine box_event ?hg (N := 2) ?hd (cs := #[.int .i64 a0_0, .slice A0_1 l0_1.length c0_1]) (t := 24) ?hr ?_; (case hd => rfl); (case hg => rfl); (case hr => first | (go_simp; done) | (go_simp; rfl)); intro gb232 hg w100 hbox hb; have n0_ := Aside0.mk (below_step (pH_ HB.out) hb); have n1_ := Aside0.mk (hbox); have n2_ := Aside0.mk ((by rw [hg]; exact (below_size (pH_ HB.out)) : w.heap.size ≤ gb232)); have n3_ := Aside0.mk ((by rw [hg]; exact (below_size (pH_ HB.out)) : w.heap.size ≤ gb232)); clear HB; have HB := n0_; have BK232 := n1_; have GW232 := n2_; have GE232 := n3_; clear n0_ n1_ n2_ n3_; clear hb hbox hg; have hcz101_0 : w100.cell? ⟨gb232, 0, none⟩ = some (.int .i64 a0_0) := (blk_cell BK232.out 0).trans rfl; have hcz101_1 : w100.cell? ⟨gb232, 1, none⟩ = some (.slice A0_1 l0_1.length c0_1) := (blk_cell BK232.out 1).trans rfl; have hfz101_0 := blk_frozen BK232.out 0; have hfz101_1 := blk_frozen BK232.out 1) | (go_at_call 25; (with_reducible refine (bitloftlaw11_fit.calls k a0_0 _ _ l0_1 false _ ?side1 ?side2 A3.out).mono ?_); (case side1 => repeat (first | exact (Kd.C_below HR0_1.out HB.out) | (with_reducible refine Kd.C_alloc ?_ _) | (with_reducible refine Kd.C_drewN ?_ _) | (with_reducible refine Kd.C_drew ?_))); (case side2 => exact HC0_1.out); rintro e w102 ⟨rfl, hb⟩; have n0_ := Aside0.mk (blk_below (pG_ BK232.out) hb); have n1_ := Aside0.mk (below_step (pH_ HB.out) hb); clear BK232; clear HB; have BK232 := n0_; have HB := n1_; clear n0_ n1_; (try clear hb)) | (go_at_call 24; (with_reducible refine (bitloftlaw11_alive.calls k  t234 _ A99.out).mono ?_); rintro e w103 ⟨rfl, hb⟩; have n0_ := Aside0.mk (blk_below (pG_ BK232.out) hb); have n1_ := Aside0.mk (below_step (pH_ HB.out) hb); clear BK232; clear HB; have BK232 := n0_; have HB := n1_; clear n0_ n1_; (try clear hb))); try go_wp2_with (first | ((with_reducible refine gate_dst (N := 2) rfl ?_); (try (refine gate_guard (by rfl) ?_; dsimp only)); refine box_event ?hg (N := 2) ?hd (cs := #[.int .i64 a0_0, .slice A0_1 l0_1.length c0_1]) (t := 24) ?hr ?_; (case hd => rfl); (case hg => rfl); (case hr => first | (go_simp; done) | (go_simp; rfl)); intro gb232 hg w100 hbox hb; have n0_ := Aside0.mk (below_step (pH_ HB.out) hb); have n1_ := Aside0.mk (hbox); have n2_ := Aside0.mk ((by rw [hg]; exact (below_size (pH_ HB.out)) : w.heap.size ≤ gb232)); have n3_ := Aside0.mk ((by rw [hg]; exact (below_size (pH_ HB.out)) : w.heap.size ≤ gb232)); clear HB; have HB := n0_; have BK232 := n1_; have GW232 := n2_; have GE232 := n3_; clear n0_ n1_ n2_ n3_; clear hb hbox hg; have hcz101_0 : w100.cell? ⟨gb232, 0, none⟩ = some (.int .i64 a0_0) := (blk_cell BK232.out 0).trans rfl; have hcz101_1 : w100.cell? ⟨gb232, 1, none⟩ = some (.slice A0_1 l0_1.length c0_1) := (blk_cell BK232.out 1).trans rfl; have hfz101_0 := blk_frozen BK232.out 0; have hfz101_1 := blk_frozen BK232.out 1) | (go_at_call 25; (with_reducible refine (bitloftlaw11_fit.calls k a0_0 _ _ l0_1 false _ ?side1 ?side2 A3.out).mono ?_); (case side1 => repeat (first | exact (Kd.C_below HR0_1.out HB.out) | (with_reducible refine Kd.C_alloc ?_ _) | (with_reducible refine Kd.C_drewN ?_ _) | (with_reducible refine Kd.C_drew ?_))); (case side2 => exact HC0_1.out); rintro e w102 ⟨rfl, hb⟩; have n0_ := Aside0.mk (blk_below (pG_ BK232.out) hb); have n1_ := Aside0.mk (below_step (pH_ HB.out) hb); clear BK232; clear HB; have BK232 := n0_; have HB := n1_; clear n0_ n1_; (try clear hb)) | (go_at_call 24; (with_reducible refine (bitloftlaw11_alive.calls k  t234 _ A99.out).mono ?_); rintro e w103 ⟨rfl, hb⟩; have n0_ := Aside0.mk (blk_below (pG_ BK232.out) hb); have n1_ := Aside0.mk (below_step (pH_ HB.out) hb); clear BK232; clear HB; have BK232 := n0_; have HB := n1_; clear n0_ n1_; (try clear hb))))
  go_ret
  exact ⟨by first | rfl | (simp [errW_none, errW_some] <;> rfl) | (simp [*, errW_none, errW_some] <;> rfl), pH_ HB.out⟩

/-- The one plain statement of bitloftlaw11_SlotsFound. -/
def bitloftlaw11_SlotsFound.Pure : Prop := ∀ (a0_0 : Int) (l0_1 : List (S42)) (a1 : Int), (Lit.int .i64 a0_0).wf = true → l0_1.length ≤ maxLen → (∀ x_ ∈ l0_1, wf42 x_) → (Lit.int .u32 a1).wf = true → ∃ k, bitloftlaw11_SlotsFound.f k a0_0 l0_1 a1 = some true

end Go.Proofs.Ytaomhenneenaaaa.XSlotsFound

