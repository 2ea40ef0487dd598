-- Laid by a program of this session (wip/mkxprint.py, over the kit's print): Lean checks it.
import Derived.Test.YtmncppbhnjngkaaDoorXAdaptRangex0
import Derived.Test.YtmncppbhnjngkaaDoorXAdaptRangex1
import Derived.Test.YtmncppbhnjngkaaDoorXAdaptRangex2
import Derived.Test.YtmncppbhnjngkaaDoorXAdaptRangex3
namespace Go.Proofs.YtmncppbhnjngkaaDoor.XAdaptRange
open List (setIfInBounds_toArray set_cons_zero set_cons_succ)
open Go.RowKit Go.Proofs.YtmncppbhnjngkaaDoorW.PrintWords Go.Proofs.YtmncppbhnjngkaaDoorW.PrintLast Go.Proofs.YtmncppbhnjngkaaDoorW.PrintMore
attribute [local go_sem] max2_int min2_int max_two min_two max_three min_three max_four min_four   -- for this text's walks alone
set_option linter.unusedVariables false
set_option linter.unusedSimpArgs false

/-! ### bitloftlaw09_AdaptRange: function 4 -/
mutual
def bitloftlaw09_AdaptRange.j0 : Nat → Int → Int → Int → Int → Bool → Int → List Int → List Int → Int → List Int → List Int → Option (Bool)
 | 0, _, _, _, _, _, _, _, _, _, _, _ => none
 | k + 1, x1, x2, x7, x11, x86, x224000, x224001, x224002, x236000, x236001, x236002 => if x86 = true then (some false) else (bitloftlaw09_AdaptRange.l0 k x1 x2 x7 x11 0 x224000 x224001 x224002 x236000 x236001 x236002)
def bitloftlaw09_AdaptRange.l0 : Nat → Int → Int → Int → Int → Int → Int → List Int → List Int → Int → List Int → List Int → Option (Bool)
 | 0, _, _, _, _, _, _, _, _, _, _, _ => none
 | k + 1, x1, x2, x7, x11, x13, x224000, x224001, x224002, x236000, x236001, x236002 => if x13 < 193 then (if x13 = (wrap64 (x1)) then (bitloftlaw09_AdaptRange.j2 k x1 x2 x7 x11 x13 false x224000 x224001 x224002 x236000 x236001 x236002) else (if 0 ≤ x13 then (if x13 < (x236001.length : Int) then (if x13 < (x224001.length : Int) then (if (rd x236001 x13) = (rd x224001 x13) then (if x13 < (x236002.length : Int) then (if x13 < (x224002.length : Int) then (bitloftlaw09_AdaptRange.j2 k x1 x2 x7 x11 x13 ((rd x236002 x13) != (rd x224002 x13)) x224000 x224001 x224002 x236000 x236001 x236002) else (none)) else (none)) else (bitloftlaw09_AdaptRange.j2 k x1 x2 x7 x11 x13 true x224000 x224001 x224002 x236000 x236001 x236002)) else (none)) else (none)) else (none))) else (if x2 = 1 then (if x11 ≥ x7 then (if x11 ≤ 65535 then (bitloftlaw09_AdaptRange.j3 k true) else (bitloftlaw09_AdaptRange.j3 k false)) else (bitloftlaw09_AdaptRange.j3 k false)) else (if x11 ≤ x7 then (if x11 ≥ 0 then (if x7 = 0 then (bitloftlaw09_AdaptRange.j4 k true) else (if x11 < x7 then (bitloftlaw09_AdaptRange.j4 k true) else (bitloftlaw09_AdaptRange.j4 k false))) else (bitloftlaw09_AdaptRange.j4 k false)) else (bitloftlaw09_AdaptRange.j4 k false)))
def bitloftlaw09_AdaptRange.j2 : Nat → Int → Int → Int → Int → Int → Bool → Int → List Int → List Int → Int → List Int → List Int → Option (Bool)
 | 0, _, _, _, _, _, _, _, _, _, _, _, _ => none
 | k + 1, x1, x2, x7, x11, x13, x120, x224000, x224001, x224002, x236000, x236001, x236002 => if x120 = true then (some false) else (bitloftlaw09_AdaptRange.l0 k x1 x2 x7 x11 (wrap64 (x13 + 1)) x224000 x224001 x224002 x236000 x236001 x236002)
def bitloftlaw09_AdaptRange.j3 : Nat → Bool → Option (Bool)
 | 0, _ => none
 | k + 1, x6 => some x6
def bitloftlaw09_AdaptRange.j4 : Nat → Bool → Option (Bool)
 | 0, _ => none
 | k + 1, x6 => some x6
end
def bitloftlaw09_AdaptRange.f (k : Nat) (a0_0 : Int) (l0_1 : List Int) (l0_2 : List Int) (a1 : Int) (a2 : Int) : Option (Bool) := (bitloftlaw09_fit.f k a0_0 l0_1 l0_2 a1 a2).bind fun t224 => (if t224 = true then ((adapt_P.f k a0_0 l0_1 l0_2 a1).bind fun bt225 => ((adapt_Update.f k a0_0 l0_1 l0_2 a1 a2).bind fun bt227 => ((adapt_P.f k bt227.1 bt227.2.1 bt227.2.2.1 a1).bind fun bt236 => (if bt225.2 = 0 then (if bt227.2.2.2 = 0 then (if bt236.2 = 0 then ((bitloftref09_Check.f k bt227.1 bt227.2.1 bt227.2.2.1).bind fun t238 => (if t238 = 0 then (if bt227.1 = a0_0 then (if 0 ≤ a1 then (if a1 < (bt227.2.2.1.length : Int) then (if a1 < (l0_2.length : Int) then (if (rd bt227.2.2.1 a1) = (mn (wrap32 ((rd l0_2 a1) + 1)) a0_0) then (if a1 < (bt227.2.1.length : Int) then (bitloftlaw09_AdaptRange.j0 k a1 a2 bt225.1 bt236.1 ((rd bt227.2.1 a1) != bt236.1) a0_0 l0_1 l0_2 bt227.1 bt227.2.1 bt227.2.2.1) else (none)) else (bitloftlaw09_AdaptRange.j0 k a1 a2 bt225.1 bt236.1 true a0_0 l0_1 l0_2 bt227.1 bt227.2.1 bt227.2.2.1)) else (none)) else (none)) else (none)) else (bitloftlaw09_AdaptRange.j0 k a1 a2 bt225.1 bt236.1 true a0_0 l0_1 l0_2 bt227.1 bt227.2.1 bt227.2.2.1)) else (bitloftlaw09_AdaptRange.j0 k a1 a2 bt225.1 bt236.1 true a0_0 l0_1 l0_2 bt227.1 bt227.2.1 bt227.2.2.1))) else (bitloftlaw09_AdaptRange.j0 k a1 a2 bt225.1 bt236.1 true a0_0 l0_1 l0_2 bt227.1 bt227.2.1 bt227.2.2.1)) else (bitloftlaw09_AdaptRange.j0 k a1 a2 bt225.1 bt236.1 true a0_0 l0_1 l0_2 bt227.1 bt227.2.1 bt227.2.2.1)) else (bitloftlaw09_AdaptRange.j0 k a1 a2 bt225.1 bt236.1 true a0_0 l0_1 l0_2 bt227.1 bt227.2.1 bt227.2.2.1))))) else (some true))
theorem bitloftlaw09_AdaptRange.mono_l : ∀ k, (∀ y0 y1 y2 y3 y4 y5 y6 y7 y8 y9 y10, LeO (bitloftlaw09_AdaptRange.j0 k y0 y1 y2 y3 y4 y5 y6 y7 y8 y9 y10) (bitloftlaw09_AdaptRange.j0 (k + 1) y0 y1 y2 y3 y4 y5 y6 y7 y8 y9 y10)) ∧ (∀ y0 y1 y2 y3 y4 y5 y6 y7 y8 y9 y10, LeO (bitloftlaw09_AdaptRange.l0 k y0 y1 y2 y3 y4 y5 y6 y7 y8 y9 y10) (bitloftlaw09_AdaptRange.l0 (k + 1) y0 y1 y2 y3 y4 y5 y6 y7 y8 y9 y10)) ∧ (∀ y0 y1 y2 y3 y4 y5 y6 y7 y8 y9 y10 y11, LeO (bitloftlaw09_AdaptRange.j2 k y0 y1 y2 y3 y4 y5 y6 y7 y8 y9 y10 y11) (bitloftlaw09_AdaptRange.j2 (k + 1) y0 y1 y2 y3 y4 y5 y6 y7 y8 y9 y10 y11)) ∧ (∀ y0, LeO (bitloftlaw09_AdaptRange.j3 k y0) (bitloftlaw09_AdaptRange.j3 (k + 1) y0)) ∧ (∀ y0, LeO (bitloftlaw09_AdaptRange.j4 k y0) (bitloftlaw09_AdaptRange.j4 (k + 1) y0))
 | 0 => ⟨fun _ _ _ _ _ _ _ _ _ _ _ r h => by simp [bitloftlaw09_AdaptRange.j0] at h, fun _ _ _ _ _ _ _ _ _ _ _ r h => by simp [bitloftlaw09_AdaptRange.l0] at h, fun _ _ _ _ _ _ _ _ _ _ _ _ r h => by simp [bitloftlaw09_AdaptRange.j2] at h, fun _ r h => by simp [bitloftlaw09_AdaptRange.j3] at h, fun _ r h => by simp [bitloftlaw09_AdaptRange.j4] at h⟩
 | k + 1 => by
  obtain ⟨ih0, ih1, ih2, ih3, ih4⟩ := bitloftlaw09_AdaptRange.mono_l k; refine ⟨?_, ?_, ?_, ?_, ?_⟩
  ·
   intro y0 y1 y2 y3 y4 y5 y6 y7 y8 y9 y10
   unfold bitloftlaw09_AdaptRange.j0
   repeat' first
   | (with_reducible exact ih0 _ _ _ _ _ _ _ _ _ _ _)
   | (with_reducible exact ih1 _ _ _ _ _ _ _ _ _ _ _)
   | (with_reducible exact ih2 _ _ _ _ _ _ _ _ _ _ _ _)
   | (with_reducible exact ih3 _)
   | (with_reducible exact ih4 _)
   | (with_reducible exact adapt_P.mono _ _ _ _ _)
   | (with_reducible exact adapt_Update.mono _ _ _ _ _ _)
   | (with_reducible exact bitloftlaw09_alive.mono _)
   | (with_reducible exact bitloftlaw09_fit.mono _ _ _ _ _ _)
   | (with_reducible exact bitloftref09_Check.mono _ _ _ _)
   | (with_reducible exact LeO.refl _)
   | (with_reducible exact LeO.none _)
   | (with_reducible refine LeO.ite ?_ ?_)
   | (with_reducible refine LeO.bind ?_ (fun _ => ?_))
   | exact ih0 _ _ _ _ _ _ _ _ _ _ _
   | exact ih1 _ _ _ _ _ _ _ _ _ _ _
   | exact ih2 _ _ _ _ _ _ _ _ _ _ _ _
   | exact ih3 _
   | exact ih4 _
   | exact adapt_P.mono _ _ _ _ _
   | exact adapt_Update.mono _ _ _ _ _ _
   | exact bitloftlaw09_alive.mono _
   | exact bitloftlaw09_fit.mono _ _ _ _ _ _
   | exact bitloftref09_Check.mono _ _ _ _
   | exact LeO.none _
   | refine LeO.ite ?_ ?_
   | refine LeO.bind ?_ (fun _ => ?_)
  ·
   intro y0 y1 y2 y3 y4 y5 y6 y7 y8 y9 y10
   unfold bitloftlaw09_AdaptRange.l0
   repeat' first
   | (with_reducible exact ih0 _ _ _ _ _ _ _ _ _ _ _)
   | (with_reducible exact ih1 _ _ _ _ _ _ _ _ _ _ _)
   | (with_reducible exact ih2 _ _ _ _ _ _ _ _ _ _ _ _)
   | (with_reducible exact ih3 _)
   | (with_reducible exact ih4 _)
   | (with_reducible exact adapt_P.mono _ _ _ _ _)
   | (with_reducible exact adapt_Update.mono _ _ _ _ _ _)
   | (with_reducible exact bitloftlaw09_alive.mono _)
   | (with_reducible exact bitloftlaw09_fit.mono _ _ _ _ _ _)
   | (with_reducible exact bitloftref09_Check.mono _ _ _ _)
   | (with_reducible exact LeO.refl _)
   | (with_reducible exact LeO.none _)
   | (with_reducible refine LeO.ite ?_ ?_)
   | (with_reducible refine LeO.bind ?_ (fun _ => ?_))
   | exact ih0 _ _ _ _ _ _ _ _ _ _ _
   | exact ih1 _ _ _ _ _ _ _ _ _ _ _
   | exact ih2 _ _ _ _ _ _ _ _ _ _ _ _
   | exact ih3 _
   | exact ih4 _
   | exact adapt_P.mono _ _ _ _ _
   | exact adapt_Update.mono _ _ _ _ _ _
   | exact bitloftlaw09_alive.mono _
   | exact bitloftlaw09_fit.mono _ _ _ _ _ _
   | exact bitloftref09_Check.mono _ _ _ _
   | exact LeO.none _
   | refine LeO.ite ?_ ?_
   | refine LeO.bind ?_ (fun _ => ?_)
  ·
   intro y0 y1 y2 y3 y4 y5 y6 y7 y8 y9 y10 y11
   unfold bitloftlaw09_AdaptRange.j2
   repeat' first
   | (with_reducible exact ih0 _ _ _ _ _ _ _ _ _ _ _)
   | (with_reducible exact ih1 _ _ _ _ _ _ _ _ _ _ _)
   | (with_reducible exact ih2 _ _ _ _ _ _ _ _ _ _ _ _)
   | (with_reducible exact ih3 _)
   | (with_reducible exact ih4 _)
   | (with_reducible exact adapt_P.mono _ _ _ _ _)
   | (with_reducible exact adapt_Update.mono _ _ _ _ _ _)
   | (with_reducible exact bitloftlaw09_alive.mono _)
   | (with_reducible exact bitloftlaw09_fit.mono _ _ _ _ _ _)
   | (with_reducible exact bitloftref09_Check.mono _ _ _ _)
   | (with_reducible exact LeO.refl _)
   | (with_reducible exact LeO.none _)
   | (with_reducible refine LeO.ite ?_ ?_)
   | (with_reducible refine LeO.bind ?_ (fun _ => ?_))
   | exact ih0 _ _ _ _ _ _ _ _ _ _ _
   | exact ih1 _ _ _ _ _ _ _ _ _ _ _
   | exact ih2 _ _ _ _ _ _ _ _ _ _ _ _
   | exact ih3 _
   | exact ih4 _
   | exact adapt_P.mono _ _ _ _ _
   | exact adapt_Update.mono _ _ _ _ _ _
   | exact bitloftlaw09_alive.mono _
   | exact bitloftlaw09_fit.mono _ _ _ _ _ _
   | exact bitloftref09_Check.mono _ _ _ _
   | exact LeO.none _
   | refine LeO.ite ?_ ?_
   | refine LeO.bind ?_ (fun _ => ?_)
  ·
   intro y0
   unfold bitloftlaw09_AdaptRange.j3
   repeat' first
   | (with_reducible exact ih0 _ _ _ _ _ _ _ _ _ _ _)
   | (with_reducible exact ih1 _ _ _ _ _ _ _ _ _ _ _)
   | (with_reducible exact ih2 _ _ _ _ _ _ _ _ _ _ _ _)
   | (with_reducible exact ih3 _)
   | (with_reducible exact ih4 _)
   | (with_reducible exact adapt_P.mono _ _ _ _ _)
   | (with_reducible exact adapt_Update.mono _ _ _ _ _ _)
   | (with_reducible exact bitloftlaw09_alive.mono _)
   | (with_reducible exact bitloftlaw09_fit.mono _ _ _ _ _ _)
   | (with_reducible exact bitloftref09_Check.mono _ _ _ _)
   | (with_reducible exact LeO.refl _)
   | (with_reducible exact LeO.none _)
   | (with_reducible refine LeO.ite ?_ ?_)
   | (with_reducible refine LeO.bind ?_ (fun _ => ?_))
   | exact ih0 _ _ _ _ _ _ _ _ _ _ _
   | exact ih1 _ _ _ _ _ _ _ _ _ _ _
   | exact ih2 _ _ _ _ _ _ _ _ _ _ _ _
   | exact ih3 _
   | exact ih4 _
   | exact adapt_P.mono _ _ _ _ _
   | exact adapt_Update.mono _ _ _ _ _ _
   | exact bitloftlaw09_alive.mono _
   | exact bitloftlaw09_fit.mono _ _ _ _ _ _
   | exact bitloftref09_Check.mono _ _ _ _
   | exact LeO.none _
   | refine LeO.ite ?_ ?_
   | refine LeO.bind ?_ (fun _ => ?_)
  ·
   intro y0
   unfold bitloftlaw09_AdaptRange.j4
   repeat' first
   | (with_reducible exact ih0 _ _ _ _ _ _ _ _ _ _ _)
   | (with_reducible exact ih1 _ _ _ _ _ _ _ _ _ _ _)
   | (with_reducible exact ih2 _ _ _ _ _ _ _ _ _ _ _ _)
   | (with_reducible exact ih3 _)
   | (with_reducible exact ih4 _)
   | (with_reducible exact adapt_P.mono _ _ _ _ _)
   | (with_reducible exact adapt_Update.mono _ _ _ _ _ _)
   | (with_reducible exact bitloftlaw09_alive.mono _)
   | (with_reducible exact bitloftlaw09_fit.mono _ _ _ _ _ _)
   | (with_reducible exact bitloftref09_Check.mono _ _ _ _)
   | (with_reducible exact LeO.refl _)
   | (with_reducible exact LeO.none _)
   | (with_reducible refine LeO.ite ?_ ?_)
   | (with_reducible refine LeO.bind ?_ (fun _ => ?_))
   | exact ih0 _ _ _ _ _ _ _ _ _ _ _
   | exact ih1 _ _ _ _ _ _ _ _ _ _ _
   | exact ih2 _ _ _ _ _ _ _ _ _ _ _ _
   | exact ih3 _
   | exact ih4 _
   | exact adapt_P.mono _ _ _ _ _
   | exact adapt_Update.mono _ _ _ _ _ _
   | exact bitloftlaw09_alive.mono _
   | exact bitloftlaw09_fit.mono _ _ _ _ _ _
   | exact bitloftref09_Check.mono _ _ _ _
   | exact LeO.none _
   | refine LeO.ite ?_ ?_
   | refine LeO.bind ?_ (fun _ => ?_)
theorem bitloftlaw09_AdaptRange.mono : ∀ a0 a1 a2 a3 a4 k, LeO (bitloftlaw09_AdaptRange.f k a0 a1 a2 a3 a4) (bitloftlaw09_AdaptRange.f (k + 1) a0 a1 a2 a3 a4) := by
 intro a0 a1 a2 a3 a4 k; obtain ⟨ih0, ih1, ih2, ih3, ih4⟩ := bitloftlaw09_AdaptRange.mono_l k
 unfold bitloftlaw09_AdaptRange.f
 repeat' first
   | (with_reducible exact ih0 _ _ _ _ _ _ _ _ _ _ _)
   | (with_reducible exact ih1 _ _ _ _ _ _ _ _ _ _ _)
   | (with_reducible exact ih2 _ _ _ _ _ _ _ _ _ _ _ _)
   | (with_reducible exact ih3 _)
   | (with_reducible exact ih4 _)
   | (with_reducible exact adapt_P.mono _ _ _ _ _)
   | (with_reducible exact adapt_Update.mono _ _ _ _ _ _)
   | (with_reducible exact bitloftlaw09_alive.mono _)
   | (with_reducible exact bitloftlaw09_fit.mono _ _ _ _ _ _)
   | (with_reducible exact bitloftref09_Check.mono _ _ _ _)
   | (with_reducible exact LeO.refl _)
   | (with_reducible exact LeO.none _)
   | (with_reducible refine LeO.ite ?_ ?_)
   | (with_reducible refine LeO.bind ?_ (fun _ => ?_))
   | exact ih0 _ _ _ _ _ _ _ _ _ _ _
   | exact ih1 _ _ _ _ _ _ _ _ _ _ _
   | exact ih2 _ _ _ _ _ _ _ _ _ _ _ _
   | exact ih3 _
   | exact ih4 _
   | exact adapt_P.mono _ _ _ _ _
   | exact adapt_Update.mono _ _ _ _ _ _
   | exact bitloftlaw09_alive.mono _
   | exact bitloftlaw09_fit.mono _ _ _ _ _ _
   | exact bitloftref09_Check.mono _ _ _ _
   | exact LeO.none _
   | refine LeO.ite ?_ ?_
   | refine LeO.bind ?_ (fun _ => ?_)
def bitloftlaw09_AdaptRange.T6 : Bool × List (List Nat × List Nat) := (true, [([], []), ([0], [0]), ([1], [1]), ([2], [2]), ([3, 2], [2, 3]), ([2, 4], [2, 4]), ([5, 2], [5]), ([6], [6]), ([7, 6], [6, 7]), ([6, 8], [6, 8]), ([9, 6], [9]), ([10], [10]), ([11, 10, 10], [10, 11]), ([12, 10], [10, 12]), ([10, 13], [10, 13]), ([14, 12], [14]), ([15], [15]), ([16, 15], [15, 16]), ([15], [15]), ([18, 15], [15, 18]), ([17, 19, 15], [15, 17, 19]), ([15, 20], [15, 20]), ([21, 15], [21]), ([22], [22]), ([23, 22], [22, 23]), ([22], [22]), ([24, 25, 22], [22, 24, 25]), ([26, 22], [22, 26]), ([22], [22]), ([28, 22], [22, 28]), ([22], [22]), ([29, 30, 22], [22, 29, 30]), ([31, 22], [22, 31]), ([32, 22], [22, 32]), ([22], [22]), ([34, 22], [22, 34]), ([33, 35, 22], [22, 33, 35]), ([27, 36, 22], [22, 27, 36]), ([22, 37], [22, 37]), ([38, 22], [38]), ([39], [39]), ([40, 39], [39, 40]), ([39], [39]), ([41, 42, 39], [39, 41, 42]), ([43, 39], [39, 43]), ([39], [39]), ([44, 45, 39], [39, 44, 45]), ([39, 46], [39, 46])])
def bitloftlaw09_AdaptRange.B6 : List Nat := [0, 1, 3, 7, 15, 31, 63, 127, 255, 511, 1023, 2047, 4095, 8191, 16383, 32767, 65535, 131071, 65535, 327679, 1048575, 2097151, 4194303, 8388607, 16777215, 8388607, 67108863, 134217727, 8388607, 276824063, 8388607, 1887436799, 4034920447, 8329887743, 8388607, 17188257791, 68459429887, 137438953471, 274877906943, 549755813887, 1099511627775, 2199023255551, 1099511627775, 8796093022207, 17592186044415, 1099511627775, 70368744177663, 140737488355327]
theorem bitloftlaw09_AdaptRange.tab6 : rtab .any (opsOf Tryd.f4 6) = bitloftlaw09_AdaptRange.T6 := by kernel_rfl
theorem bitloftlaw09_AdaptRange.bits6 : waitsOk bitloftlaw09_AdaptRange.T6.2 bitloftlaw09_AdaptRange.B6 = true := by kernel_rfl
def bitloftlaw09_AdaptRange.T11 : Bool × List (List Nat × List Nat) := (true, [([], []), ([], []), ([1], [1]), ([0, 2], [0, 2]), ([3], [3]), ([4], [4]), ([5, 4], [4, 5]), ([4], [4]), ([6, 7, 4], [4, 6, 7]), ([8, 4], [4, 8]), ([4], [4]), ([10, 4], [4, 10]), ([4], [4]), ([11, 12, 4], [4, 11, 12]), ([13, 4], [4, 13]), ([9, 14, 4], [4, 9, 14]), ([15, 4, 4], [4, 15]), ([16], [16]), ([17, 16], [16, 17]), ([16], [16]), ([18, 19, 16], [16, 18, 19]), ([20, 16], [16, 20]), ([16], [16]), ([22, 16], [16, 22]), ([16], [16]), ([23, 24, 16], [16, 23, 24]), ([25, 16], [16, 25]), ([21, 26, 16], [16, 21, 26]), ([16, 27, 4], [4, 16, 27]), ([4, 28], [4, 28])])
def bitloftlaw09_AdaptRange.B11 : List Nat := [0, 0, 2, 7, 15, 31, 63, 31, 255, 511, 31, 1055, 31, 7199, 15391, 32767, 65535, 131071, 262143, 131071, 1048575, 2097151, 131071, 4325375, 131071, 29491199, 63045631, 134217727, 268435455, 536870911]
theorem bitloftlaw09_AdaptRange.tab11 : rtab .any (opsOf Tryd.f4 11) = bitloftlaw09_AdaptRange.T11 := by kernel_rfl
theorem bitloftlaw09_AdaptRange.bits11 : waitsOk bitloftlaw09_AdaptRange.T11.2 bitloftlaw09_AdaptRange.B11 = true := by kernel_rfl
set_option maxHeartbeats 8000000 in
set_option maxRecDepth 100000 in
theorem bitloftlaw09_AdaptRange.calls (k : Nat) (a0_0 : Int) (A0_1 : Option Addr) (c0_1 : Nat) (l0_1 : List Int) (A0_2 : Option Addr) (c0_2 : Nat) (l0_2 : List Int) (a1 : Int) (a2 : Int) (r : Bool) (w : World) (hr0_1 : Kd.C (Kd.int .i32) w A0_1 l0_1.length l0_1) (hc0_1 : l0_1.length ≤ c0_1) (hr0_2 : Kd.C (Kd.int .i32) w A0_2 l0_2.length l0_2) (hc0_2 : l0_2.length ≤ c0_2) (hT : Tab_ w) (hr_ : r = true) (h : bitloftlaw09_AdaptRange.f k a0_0 l0_1 l0_2 a1 a2 = some r) :
  Calls Tryd.prog 4 #[.agg #[.int .i32 a0_0, .slice A0_1 l0_1.length c0_1, .slice A0_2 l0_2.length c0_2], .int .u8 a1, .int .u8 a2] w fun e w' => e = .returned (.bool r) ∧ Below w.heap.size w w' := by
 have hu24 := Tryd.underlying24; have HRT_ := Aside0.mk hr_; clear hr_; have HR0_1 := Aside0.mk hr0_1; have HC0_1 := Aside0.mk hc0_1; clear hr0_1 hc0_1; have HR0_2 := Aside0.mk hr0_2; have HC0_2 := Aside0.mk hc0_2; clear hr0_2 hc0_2; have HB := Aside0.mk (Below.refl w.heap.size w); have H : ((bitloftlaw09_fit.f k a0_0 l0_1 l0_2 a1 a2).bind fun t224 => (if t224 = true then ((adapt_P.f k a0_0 l0_1 l0_2 a1).bind fun bt225 => ((adapt_Update.f k a0_0 l0_1 l0_2 a1 a2).bind fun bt227 => ((adapt_P.f k bt227.1 bt227.2.1 bt227.2.2.1 a1).bind fun bt236 => (if bt225.2 = 0 then (if bt227.2.2.2 = 0 then (if bt236.2 = 0 then ((bitloftref09_Check.f k bt227.1 bt227.2.1 bt227.2.2.1).bind fun t238 => (if t238 = 0 then (if bt227.1 = a0_0 then (if 0 ≤ a1 then (if a1 < (bt227.2.2.1.length : Int) then (if a1 < (l0_2.length : Int) then (if (rd bt227.2.2.1 a1) = (mn (wrap32 ((rd l0_2 a1) + 1)) a0_0) then (if a1 < (bt227.2.1.length : Int) then (bitloftlaw09_AdaptRange.j0 k a1 a2 bt225.1 bt236.1 ((rd bt227.2.1 a1) != bt236.1) a0_0 l0_1 l0_2 bt227.1 bt227.2.1 bt227.2.2.1) else (none)) else (bitloftlaw09_AdaptRange.j0 k a1 a2 bt225.1 bt236.1 true a0_0 l0_1 l0_2 bt227.1 bt227.2.1 bt227.2.2.1)) else (none)) else (none)) else (none)) else (bitloftlaw09_AdaptRange.j0 k a1 a2 bt225.1 bt236.1 true a0_0 l0_1 l0_2 bt227.1 bt227.2.1 bt227.2.2.1)) else (bitloftlaw09_AdaptRange.j0 k a1 a2 bt225.1 bt236.1 true a0_0 l0_1 l0_2 bt227.1 bt227.2.1 bt227.2.2.1))) else (bitloftlaw09_AdaptRange.j0 k a1 a2 bt225.1 bt236.1 true a0_0 l0_1 l0_2 bt227.1 bt227.2.1 bt227.2.2.1)) else (bitloftlaw09_AdaptRange.j0 k a1 a2 bt225.1 bt236.1 true a0_0 l0_1 l0_2 bt227.1 bt227.2.1 bt227.2.2.1)) else (bitloftlaw09_AdaptRange.j0 k a1 a2 bt225.1 bt236.1 true a0_0 l0_1 l0_2 bt227.1 bt227.2.1 bt227.2.2.1))))) else (some true))) = some r := h; clear h; replace H := Option.bind_eq_some_iff.mp H; obtain ⟨t224, A40, H⟩ := H; replace H : (if t224 = true then ((adapt_P.f k a0_0 l0_1 l0_2 a1).bind fun bt225 => ((adapt_Update.f k a0_0 l0_1 l0_2 a1 a2).bind fun bt227 => ((adapt_P.f k bt227.1 bt227.2.1 bt227.2.2.1 a1).bind fun bt236 => (if bt225.2 = 0 then (if bt227.2.2.2 = 0 then (if bt236.2 = 0 then ((bitloftref09_Check.f k bt227.1 bt227.2.1 bt227.2.2.1).bind fun t238 => (if t238 = 0 then (if bt227.1 = a0_0 then (if 0 ≤ a1 then (if a1 < (bt227.2.2.1.length : Int) then (if a1 < (l0_2.length : Int) then (if (rd bt227.2.2.1 a1) = (mn (wrap32 ((rd l0_2 a1) + 1)) a0_0) then (if a1 < (bt227.2.1.length : Int) then (bitloftlaw09_AdaptRange.j0 k a1 a2 bt225.1 bt236.1 ((rd bt227.2.1 a1) != bt236.1) a0_0 l0_1 l0_2 bt227.1 bt227.2.1 bt227.2.2.1) else (none)) else (bitloftlaw09_AdaptRange.j0 k a1 a2 bt225.1 bt236.1 true a0_0 l0_1 l0_2 bt227.1 bt227.2.1 bt227.2.2.1)) else (none)) else (none)) else (none)) else (bitloftlaw09_AdaptRange.j0 k a1 a2 bt225.1 bt236.1 true a0_0 l0_1 l0_2 bt227.1 bt227.2.1 bt227.2.2.1)) else (bitloftlaw09_AdaptRange.j0 k a1 a2 bt225.1 bt236.1 true a0_0 l0_1 l0_2 bt227.1 bt227.2.1 bt227.2.2.1))) else (bitloftlaw09_AdaptRange.j0 k a1 a2 bt225.1 bt236.1 true a0_0 l0_1 l0_2 bt227.1 bt227.2.1 bt227.2.2.1)) else (bitloftlaw09_AdaptRange.j0 k a1 a2 bt225.1 bt236.1 true a0_0 l0_1 l0_2 bt227.1 bt227.2.1 bt227.2.2.1)) else (bitloftlaw09_AdaptRange.j0 k a1 a2 bt225.1 bt236.1 true a0_0 l0_1 l0_2 bt227.1 bt227.2.1 bt227.2.2.1))))) else (some true)) = some r := H; have A4 := Aside0.mk A40; clear A40
 by_cases c5 : t224 = true
 ·
  subst c5
  have H1 : ((adapt_P.f k a0_0 l0_1 l0_2 a1).bind fun bt225 => ((adapt_Update.f k a0_0 l0_1 l0_2 a1 a2).bind fun bt227 => ((adapt_P.f k bt227.1 bt227.2.1 bt227.2.2.1 a1).bind fun bt236 => (if bt225.2 = 0 then (if bt227.2.2.2 = 0 then (if bt236.2 = 0 then ((bitloftref09_Check.f k bt227.1 bt227.2.1 bt227.2.2.1).bind fun t238 => (if t238 = 0 then (if bt227.1 = a0_0 then (if 0 ≤ a1 then (if a1 < (bt227.2.2.1.length : Int) then (if a1 < (l0_2.length : Int) then (if (rd bt227.2.2.1 a1) = (mn (wrap32 ((rd l0_2 a1) + 1)) a0_0) then (if a1 < (bt227.2.1.length : Int) then (bitloftlaw09_AdaptRange.j0 k a1 a2 bt225.1 bt236.1 ((rd bt227.2.1 a1) != bt236.1) a0_0 l0_1 l0_2 bt227.1 bt227.2.1 bt227.2.2.1) else (none)) else (bitloftlaw09_AdaptRange.j0 k a1 a2 bt225.1 bt236.1 true a0_0 l0_1 l0_2 bt227.1 bt227.2.1 bt227.2.2.1)) else (none)) else (none)) else (none)) else (bitloftlaw09_AdaptRange.j0 k a1 a2 bt225.1 bt236.1 true a0_0 l0_1 l0_2 bt227.1 bt227.2.1 bt227.2.2.1)) else (bitloftlaw09_AdaptRange.j0 k a1 a2 bt225.1 bt236.1 true a0_0 l0_1 l0_2 bt227.1 bt227.2.1 bt227.2.2.1))) else (bitloftlaw09_AdaptRange.j0 k a1 a2 bt225.1 bt236.1 true a0_0 l0_1 l0_2 bt227.1 bt227.2.1 bt227.2.2.1)) else (bitloftlaw09_AdaptRange.j0 k a1 a2 bt225.1 bt236.1 true a0_0 l0_1 l0_2 bt227.1 bt227.2.1 bt227.2.2.1)) else (bitloftlaw09_AdaptRange.j0 k a1 a2 bt225.1 bt236.1 true a0_0 l0_1 l0_2 bt227.1 bt227.2.1 bt227.2.2.1))))) = some r := by rw [if_pos rfl] at H; exact H
  clear H; have H := H1; clear H1; replace H := Option.bind_eq_some_iff.mp H; obtain ⟨⟨t225, t226⟩, A60, H⟩ := H; replace H : ((adapt_Update.f k a0_0 l0_1 l0_2 a1 a2).bind fun bt227 => ((adapt_P.f k bt227.1 bt227.2.1 bt227.2.2.1 a1).bind fun bt236 => (if t226 = 0 then (if bt227.2.2.2 = 0 then (if bt236.2 = 0 then ((bitloftref09_Check.f k bt227.1 bt227.2.1 bt227.2.2.1).bind fun t238 => (if t238 = 0 then (if bt227.1 = a0_0 then (if 0 ≤ a1 then (if a1 < (bt227.2.2.1.length : Int) then (if a1 < (l0_2.length : Int) then (if (rd bt227.2.2.1 a1) = (mn (wrap32 ((rd l0_2 a1) + 1)) a0_0) then (if a1 < (bt227.2.1.length : Int) then (bitloftlaw09_AdaptRange.j0 k a1 a2 t225 bt236.1 ((rd bt227.2.1 a1) != bt236.1) a0_0 l0_1 l0_2 bt227.1 bt227.2.1 bt227.2.2.1) else (none)) else (bitloftlaw09_AdaptRange.j0 k a1 a2 t225 bt236.1 true a0_0 l0_1 l0_2 bt227.1 bt227.2.1 bt227.2.2.1)) else (none)) else (none)) else (none)) else (bitloftlaw09_AdaptRange.j0 k a1 a2 t225 bt236.1 true a0_0 l0_1 l0_2 bt227.1 bt227.2.1 bt227.2.2.1)) else (bitloftlaw09_AdaptRange.j0 k a1 a2 t225 bt236.1 true a0_0 l0_1 l0_2 bt227.1 bt227.2.1 bt227.2.2.1))) else (bitloftlaw09_AdaptRange.j0 k a1 a2 t225 bt236.1 true a0_0 l0_1 l0_2 bt227.1 bt227.2.1 bt227.2.2.1)) else (bitloftlaw09_AdaptRange.j0 k a1 a2 t225 bt236.1 true a0_0 l0_1 l0_2 bt227.1 bt227.2.1 bt227.2.2.1)) else (bitloftlaw09_AdaptRange.j0 k a1 a2 t225 bt236.1 true a0_0 l0_1 l0_2 bt227.1 bt227.2.1 bt227.2.2.1)))) = some r := H; have A6 := Aside0.mk A60; clear A60; replace H := Option.bind_eq_some_iff.mp H; obtain ⟨⟨t227, t228, t231, t234⟩, A70, H⟩ := H; replace H : ((adapt_P.f k t227 t228 t231 a1).bind fun bt236 => (if t226 = 0 then (if t234 = 0 then (if bt236.2 = 0 then ((bitloftref09_Check.f k t227 t228 t231).bind fun t238 => (if t238 = 0 then (if t227 = a0_0 then (if 0 ≤ a1 then (if a1 < (t231.length : Int) then (if a1 < (l0_2.length : Int) then (if (rd t231 a1) = (mn (wrap32 ((rd l0_2 a1) + 1)) a0_0) then (if a1 < (t228.length : Int) then (bitloftlaw09_AdaptRange.j0 k a1 a2 t225 bt236.1 ((rd t228 a1) != bt236.1) a0_0 l0_1 l0_2 t227 t228 t231) else (none)) else (bitloftlaw09_AdaptRange.j0 k a1 a2 t225 bt236.1 true a0_0 l0_1 l0_2 t227 t228 t231)) else (none)) else (none)) else (none)) else (bitloftlaw09_AdaptRange.j0 k a1 a2 t225 bt236.1 true a0_0 l0_1 l0_2 t227 t228 t231)) else (bitloftlaw09_AdaptRange.j0 k a1 a2 t225 bt236.1 true a0_0 l0_1 l0_2 t227 t228 t231))) else (bitloftlaw09_AdaptRange.j0 k a1 a2 t225 bt236.1 true a0_0 l0_1 l0_2 t227 t228 t231)) else (bitloftlaw09_AdaptRange.j0 k a1 a2 t225 bt236.1 true a0_0 l0_1 l0_2 t227 t228 t231)) else (bitloftlaw09_AdaptRange.j0 k a1 a2 t225 bt236.1 true a0_0 l0_1 l0_2 t227 t228 t231))) = some r := H; have A7 := Aside0.mk A70; clear A70; replace H := Option.bind_eq_some_iff.mp H; obtain ⟨⟨t236, t237⟩, A80, H⟩ := H; replace H : (if t226 = 0 then (if t234 = 0 then (if t237 = 0 then ((bitloftref09_Check.f k t227 t228 t231).bind fun t238 => (if t238 = 0 then (if t227 = a0_0 then (if 0 ≤ a1 then (if a1 < (t231.length : Int) then (if a1 < (l0_2.length : Int) then (if (rd t231 a1) = (mn (wrap32 ((rd l0_2 a1) + 1)) a0_0) then (if a1 < (t228.length : Int) then (bitloftlaw09_AdaptRange.j0 k a1 a2 t225 t236 ((rd t228 a1) != t236) a0_0 l0_1 l0_2 t227 t228 t231) else (none)) else (bitloftlaw09_AdaptRange.j0 k a1 a2 t225 t236 true a0_0 l0_1 l0_2 t227 t228 t231)) else (none)) else (none)) else (none)) else (bitloftlaw09_AdaptRange.j0 k a1 a2 t225 t236 true a0_0 l0_1 l0_2 t227 t228 t231)) else (bitloftlaw09_AdaptRange.j0 k a1 a2 t225 t236 true a0_0 l0_1 l0_2 t227 t228 t231))) else (bitloftlaw09_AdaptRange.j0 k a1 a2 t225 t236 true a0_0 l0_1 l0_2 t227 t228 t231)) else (bitloftlaw09_AdaptRange.j0 k a1 a2 t225 t236 true a0_0 l0_1 l0_2 t227 t228 t231)) else (bitloftlaw09_AdaptRange.j0 k a1 a2 t225 t236 true a0_0 l0_1 l0_2 t227 t228 t231)) = some r := H; have A8 := Aside0.mk A80; clear A80; have HC9 := Aside0.mk H; clear H
  go_enter Tryd.func4, Tryd.ntmps4
  go_upto_region 6 with (first | ((with_reducible refine gate_dst (N := 3) rfl ?_); (try (refine gate_guard (by rfl) ?_; dsimp only)); refine box_event ?hg (N := 3) ?hd (cs := #[.int .i32 a0_0, .slice A0_1 l0_1.length c0_1, .slice A0_2 l0_2.length c0_2]) (t := 24) ?hr ?_; (case hd => rfl); (case hg => rfl); (case hr => first | (go_simp; done) | (go_simp; rfl)); intro gb223 hg w10 hbox hb; have n0_ := Aside0.mk (below_step (pH_ HB.out) hb); have n1_ := Aside0.mk (hbox); have n2_ := Aside0.mk ((by rw [hg]; exact (below_size (pH_ HB.out)) : w.heap.size ≤ gb223)); have n3_ := Aside0.mk ((by rw [hg]; exact (below_size (pH_ HB.out)) : w.heap.size ≤ gb223)); clear HB; have HB := n0_; have BK223 := n1_; have GW223 := n2_; have GE223 := n3_; clear n0_ n1_ n2_ n3_; clear hb hbox hg; have hcz11_0 : w10.cell? ⟨gb223, 0, none⟩ = some (.int .i32 a0_0) := (blk_cell BK223.out 0).trans rfl; have hcz11_1 : w10.cell? ⟨gb223, 1, none⟩ = some (.slice A0_1 l0_1.length c0_1) := (blk_cell BK223.out 1).trans rfl; have hcz11_2 : w10.cell? ⟨gb223, 2, none⟩ = some (.slice A0_2 l0_2.length c0_2) := (blk_cell BK223.out 2).trans rfl; have hfz11_0 := blk_frozen BK223.out 0; have hfz11_1 := blk_frozen BK223.out 1; have hfz11_2 := blk_frozen BK223.out 2) | ((with_reducible refine gate_callee (f := 20) rfl ?_); refine gL_ (some 17) Tryd.func20 #[.agg #[.int .i32 a0_0, .slice A0_1 l0_1.length c0_1, .slice A0_2 l0_2.length c0_2], .int .u8 a1, .int .u8 a2] ?_; (with_reducible refine (bitloftlaw09_fit.calls k a0_0 _ _ l0_1 _ _ l0_2 a1 a2 true _ ?side1 ?side2 ?side3 ?side4 A4.out).mono ?_); (case side1 => repeat (first | exact (Kd.C_below HR0_1.out HB.out) | (with_reducible refine Kd.C_alloc ?_ _) | (with_reducible refine Kd.C_drewN ?_ _) | (with_reducible refine Kd.C_drew ?_))); (case side2 => exact HC0_1.out); (case side3 => repeat (first | exact (Kd.C_below HR0_2.out HB.out) | (with_reducible refine Kd.C_alloc ?_ _) | (with_reducible refine Kd.C_drewN ?_ _) | (with_reducible refine Kd.C_drew ?_))); (case side4 => exact HC0_2.out); rintro e w12 ⟨rfl, hb⟩; refine ⟨_, rfl, ?_⟩; have n0_ := Aside0.mk (blk_below (pG_ BK223.out) hb); have n1_ := Aside0.mk (below_step (pH_ HB.out) hb); clear BK223; clear HB; have BK223 := n0_; have HB := n1_; clear n0_ n1_; (try clear hb); have hcz13_0 : w12.cell? ⟨gb223, 0, none⟩ = some (.int .i32 a0_0) := (blk_cell BK223.out 0).trans rfl; have hcz13_1 : w12.cell? ⟨gb223, 1, none⟩ = some (.slice A0_1 l0_1.length c0_1) := (blk_cell BK223.out 1).trans rfl; have hcz13_2 : w12.cell? ⟨gb223, 2, none⟩ = some (.slice A0_2 l0_2.length c0_2) := (blk_cell BK223.out 2).trans rfl; have hfz13_0 := blk_frozen BK223.out 0; have hfz13_1 := blk_frozen BK223.out 1; have hfz13_2 := blk_frozen BK223.out 2) | ((with_reducible refine gate_callee (f := 13) rfl ?_); refine gL_ (some 23) Tryd.func13 #[.agg #[.int .i32 a0_0, .slice A0_1 l0_1.length c0_1, .slice A0_2 l0_2.length c0_2], .int .u8 a1] ?_; (with_reducible refine (adapt_P.calls k a0_0 _ _ l0_1 _ _ l0_2 a1 t225 t226 _ ?side1 ?side2 ?side3 ?side4 (tab_bel hT (pH_ HB.out)) A6.out).mono ?_); (case side1 => repeat (first | exact (Kd.C_below HR0_1.out HB.out) | (with_reducible refine Kd.C_alloc ?_ _) | (with_reducible refine Kd.C_drewN ?_ _) | (with_reducible refine Kd.C_drew ?_))); (case side2 => exact HC0_1.out); (case side3 => repeat (first | exact (Kd.C_below HR0_2.out HB.out) | (with_reducible refine Kd.C_alloc ?_ _) | (with_reducible refine Kd.C_drewN ?_ _) | (with_reducible refine Kd.C_drew ?_))); (case side4 => exact HC0_2.out); rintro e w14 ⟨rfl, hb⟩; refine ⟨_, rfl, ?_⟩; have n0_ := Aside0.mk (blk_below (pG_ BK223.out) hb); have n1_ := Aside0.mk (below_step (pH_ HB.out) hb); clear BK223; clear HB; have BK223 := n0_; have HB := n1_; clear n0_ n1_; (try clear hb); have hcz15_0 : w14.cell? ⟨gb223, 0, none⟩ = some (.int .i32 a0_0) := (blk_cell BK223.out 0).trans rfl; have hcz15_1 : w14.cell? ⟨gb223, 1, none⟩ = some (.slice A0_1 l0_1.length c0_1) := (blk_cell BK223.out 1).trans rfl; have hcz15_2 : w14.cell? ⟨gb223, 2, none⟩ = some (.slice A0_2 l0_2.length c0_2) := (blk_cell BK223.out 2).trans rfl; have hfz15_0 := blk_frozen BK223.out 0; have hfz15_1 := blk_frozen BK223.out 1; have hfz15_2 := blk_frozen BK223.out 2) | ((with_reducible refine gate_callee (f := 15) rfl ?_); refine gL_ (some 30) Tryd.func15 #[.agg #[.int .i32 a0_0, .slice A0_1 l0_1.length c0_1, .slice A0_2 l0_2.length c0_2], .int .u8 a1, .int .u8 a2] ?_; (with_reducible refine (adapt_Update.calls k a0_0 _ _ l0_1 _ _ l0_2 a1 a2 t227 t228 t231 t234 _ ?side1 ?side2 ?side3 ?side4 (tab_bel hT (pH_ HB.out)) A7.out).mono ?_); (case side1 => repeat (first | exact (Kd.C_below HR0_1.out HB.out) | (with_reducible refine Kd.C_alloc ?_ _) | (with_reducible refine Kd.C_drewN ?_ _) | (with_reducible refine Kd.C_drew ?_))); (case side2 => exact HC0_1.out); (case side3 => repeat (first | exact (Kd.C_below HR0_2.out HB.out) | (with_reducible refine Kd.C_alloc ?_ _) | (with_reducible refine Kd.C_drewN ?_ _) | (with_reducible refine Kd.C_drew ?_))); (case side4 => exact HC0_2.out); rintro e w16 ⟨v229, v232, rfl, ho0, ho1, hb⟩; refine ⟨_, rfl, ?_⟩; have n0_ := Aside0.mk (Kd.R_lower ho0 (below_size (pH_ HB.out))); have n1_ := Aside0.mk (Kd.R_lower ho1 (below_size (pH_ HB.out))); have n2_ := Aside0.mk (blk_below (pG_ BK223.out) hb); have n3_ := Aside0.mk (below_step (pH_ HB.out) hb); clear BK223; clear HB; have HO230 := n0_; have HO233 := n1_; have BK223 := n2_; have HB := n3_; clear n0_ n1_ n2_ n3_; (try clear hb); (try clear ho0); (try clear ho1)) | ((with_reducible refine gate_dst (N := 9) rfl ?_); (try (refine gate_guard (by rfl) ?_; dsimp only)); refine box_event ?hg (N := 9) ?hd (cs := #[.int .i32 0, .slice none 0 0, .slice none 0 0]) (t := 24) ?hr ?_; (case hd => rfl); (case hg => rfl); (case hr => first | (go_simp; done) | (go_simp; rfl)); intro gb235 hg w17 hbox hb; have n0_ := Aside0.mk (Kd.R_below (pL_ HO230.out) hb); have n1_ := Aside0.mk (Kd.R_below (pL_ HO233.out) hb); have n2_ := Aside0.mk (blk_below (pG_ BK223.out) hb); have n3_ := Aside0.mk (below_step (pH_ HB.out) hb); have n4_ := Aside0.mk (hbox); have n5_ := Aside0.mk ((by rw [hg]; exact (below_size (pH_ HB.out)) : w.heap.size ≤ gb235)); have n6_ := Aside0.mk ((by rw [hg]; exact (below_size (pH_ HB.out)) : w.heap.size ≤ gb235)); have n7_ := Aside0.mk ((by rw [hg]; exact Nat.ne_of_lt (blk_lt (pG_ BK223.out)) : gb223 ≠ gb235)); have n8_ := Aside0.mk ((by rw [hg]; exact Nat.ne_of_gt (blk_lt (pG_ BK223.out)) : gb235 ≠ gb223)); clear HO230; clear HO233; clear BK223; clear HB; have HO230 := n0_; have HO233 := n1_; have BK223 := n2_; have HB := n3_; have BK235 := n4_; have GW235 := n5_; have GE235 := n6_; have NB223_235 := n7_; have NB235_223 := n8_; clear n0_ n1_ n2_ n3_ n4_ n5_ n6_ n7_ n8_; clear hb hbox hg; have hnb18 := NB235_223.out; have hnc18 := NB223_235.out; have hcz19_0 : w17.cell? ⟨gb235, 0, none⟩ = some (.int .i32 0) := (blk_cell BK235.out 0).trans rfl; have hcz19_1 : w17.cell? ⟨gb235, 1, none⟩ = some (.slice none 0 0) := (blk_cell BK235.out 1).trans rfl; have hcz19_2 : w17.cell? ⟨gb235, 2, none⟩ = some (.slice none 0 0) := (blk_cell BK235.out 2).trans rfl; have hfz19_0 := blk_frozen BK235.out 0; have hfz19_1 := blk_frozen BK235.out 1; have hfz19_2 := blk_frozen BK235.out 2; obtain ⟨Ao20, co20, eo20⟩ := Kd.R_slice HO230.out; subst eo20; obtain ⟨Ao21, co21, eo21⟩ := Kd.R_slice HO233.out; subst eo21) | ((with_reducible refine gate_callee (f := 13) rfl ?_); refine gL_ (some 36) Tryd.func13 #[.agg #[.int .i32 t227, .slice Ao20 t228.length co20, .slice Ao21 t231.length co21], .int .u8 a1] ?_; (with_reducible refine (adapt_P.calls k t227 _ _ t228 _ _ t231 a1 t236 t237 _ ?side1 ?side2 ?side3 ?side4 (tab_bel hT (pH_ HB.out)) A8.out).mono ?_); (case side1 => refine (Kd.R_reads' (e := 21) (base := w.heap.size) (ok := fun k_ => nO_ k_ (.slice Ao21 t231.length co21)) (n := t228.length) (c := co20) ?_).2.2; exact (by (with_reducible repeat (first | apply rA_ | apply rN_ | apply rD_)); exact (Kd.R_mono (Kd.R_far (p := ⟨gb235, 2, none⟩) (Kd.R_far (p := ⟨gb235, 1, none⟩) (Kd.R_far (p := ⟨gb235, 0, none⟩) (Kd.R_types HO230.out BK235.out (by decide)) (fun _ hk => hk.2) (.int .i32 t227)) (fun _ hk => hk.2) (.slice Ao20 t228.length co20)) (fun _ hk => hk.2) (.slice Ao21 t231.length co21)) (fun _ h_ => h_.1)))); (case side2 => exact (Kd.R_reads' HO230.out).2.1); (case side3 => refine (Kd.R_reads' (e := 21) (base := w.heap.size) (ok := fun k_ => nO_ k_ (.slice Ao20 t228.length co20)) (n := t231.length) (c := co21) ?_).2.2; exact (by (with_reducible repeat (first | apply rA_ | apply rN_ | apply rD_)); exact (Kd.R_mono (Kd.R_far (p := ⟨gb235, 2, none⟩) (Kd.R_far (p := ⟨gb235, 1, none⟩) (Kd.R_far (p := ⟨gb235, 0, none⟩) (Kd.R_types HO233.out BK235.out (by decide)) (fun _ hk => hk.2) (.int .i32 t227)) (fun _ hk => hk.2) (.slice Ao20 t228.length co20)) (fun _ hk => hk.2) (.slice Ao21 t231.length co21)) (fun _ h_ => h_.1)))); (case side4 => exact (Kd.R_reads' HO233.out).2.1); rintro e w22 ⟨rfl, hb⟩; refine ⟨_, rfl, ?_⟩; have n0_ := Aside0.mk (Kd.R_below (by (with_reducible repeat (first | apply rA_ | apply rN_ | apply rD_)); exact (Kd.R_mono (Kd.R_far (p := ⟨gb235, 2, none⟩) (Kd.R_far (p := ⟨gb235, 1, none⟩) (Kd.R_far (p := ⟨gb235, 0, none⟩) (Kd.R_types HO230.out BK235.out (by decide)) (fun _ hk => hk.2) (.int .i32 t227)) (fun _ hk => hk.2) (.slice Ao20 t228.length co20)) (fun _ hk => hk.2) (.slice Ao21 t231.length co21)) (fun _ h_ => h_.1))) hb); have n1_ := Aside0.mk (Kd.R_below (by (with_reducible repeat (first | apply rA_ | apply rN_ | apply rD_)); exact (Kd.R_mono (Kd.R_far (p := ⟨gb235, 2, none⟩) (Kd.R_far (p := ⟨gb235, 1, none⟩) (Kd.R_far (p := ⟨gb235, 0, none⟩) (Kd.R_types HO233.out BK235.out (by decide)) (fun _ hk => hk.2) (.int .i32 t227)) (fun _ hk => hk.2) (.slice Ao20 t228.length co20)) (fun _ hk => hk.2) (.slice Ao21 t231.length co21)) (fun _ h_ => h_.1))) hb); have n2_ := Aside0.mk (blk_below (g := gb223) (o := .cells #[.int .i32 a0_0, .slice A0_1 l0_1.length c0_1, .slice A0_2 l0_2.length c0_2] 24 (0, 0)) (by (with_reducible repeat (first | refine blk_drewN ?_ _ | refine blk_drew ?_ | refine blk_alloc ?_ _)); refine blk_far ?_ NB223_235.out _; (with_reducible repeat (first | refine blk_drewN ?_ _ | refine blk_drew ?_ | refine blk_alloc ?_ _)); refine blk_far ?_ NB223_235.out _; (with_reducible repeat (first | refine blk_drewN ?_ _ | refine blk_drew ?_ | refine blk_alloc ?_ _)); refine blk_far ?_ NB223_235.out _; (with_reducible repeat (first | refine blk_drewN ?_ _ | refine blk_drew ?_ | refine blk_alloc ?_ _)); exact BK223.out) hb); have n3_ := Aside0.mk (blk_below (g := gb235) (o := .cells #[.int .i32 t227, .slice Ao20 t228.length co20, .slice Ao21 t231.length co21] 24 (0, 0)) (by (with_reducible repeat (first | refine blk_drewN ?_ _ | refine blk_drew ?_ | refine blk_alloc ?_ _)); refine blk_put (cs := #[.int .i32 t227, .slice Ao20 t228.length co20, .slice none 0 0]) ?_ 2 _ rfl; (with_reducible repeat (first | refine blk_drewN ?_ _ | refine blk_drew ?_ | refine blk_alloc ?_ _)); refine blk_put (cs := #[.int .i32 t227, .slice none 0 0, .slice none 0 0]) ?_ 1 _ rfl; (with_reducible repeat (first | refine blk_drewN ?_ _ | refine blk_drew ?_ | refine blk_alloc ?_ _)); refine blk_put (cs := #[.int .i32 0, .slice none 0 0, .slice none 0 0]) ?_ 0 _ rfl; (with_reducible repeat (first | refine blk_drewN ?_ _ | refine blk_drew ?_ | refine blk_alloc ?_ _)); exact BK235.out) hb); have n4_ := Aside0.mk (below_step (pH_ HB.out) hb); clear HO230; clear HO233; clear BK223; clear BK235; clear HB; have HO230 := n0_; have HO233 := n1_; have BK223 := n2_; have BK235 := n3_; have HB := n4_; clear n0_ n1_ n2_ n3_ n4_; (try clear hb)))
  (try simp only [Act.put, sA_, sZ_, sS_]); (with_reducible first | refine then_id_ ?_ | (refine wp_tail_ ?_; intro Kt_ hKt_))
  go_cut [86] (fun v86 wc => ∃ (kq : Nat) (x86_8 : Bool), v86 = .bool x86_8 ∧ Aside0 (bitloftlaw09_AdaptRange.j0 kq a1 a2 t225 t236 x86_8 a0_0 l0_1 l0_2 t227 t228 t231 = some r) ∧ Aside0 (kq ≤ k) ∧ Aside0 (Kd.R (Kd.int .i32) 21 wc w.heap.size (fun k_ => some k_ ≠ ((.slice Ao21 t231.length co21) : Value).ownBlock) (.slice Ao20 t228.length co20) t228) ∧ Aside0 (Kd.R (Kd.int .i32) 21 wc w.heap.size (fun k_ => some k_ ≠ ((.slice Ao20 t228.length co20) : Value).ownBlock) (.slice Ao21 t231.length co21) t231) ∧ Aside0 (wc.heap[gb223]? = some (.cells #[.int .i32 a0_0, (.slice A0_1 l0_1.length c0_1), (.slice A0_2 l0_2.length c0_2)] 24 (0, 0))) ∧ Aside0 (wc.heap[gb235]? = some (.cells #[.int .i32 t227, (.slice Ao20 t228.length co20), (.slice Ao21 t231.length co21)] 24 (0, 0))) ∧ Aside0 (Below w.heap.size w wc))
  case first =>
   have H := HC9.out; clear HC9
   by_cases c23 : t226 = 0
   ·
    rw [if_pos c23] at H; have c23b0 : (t226 == 0) = true := beq_iff_eq.mpr c23; have c23b1 : (t226 != 0) = false := bne_eq_false_iff_eq.mpr c23; clear c23; (first | rw [c23b0] | (simp only [i64_w, i32_w]; rw [c23b0]) | skip)
    by_cases c24 : t234 = 0
    ·
     rw [if_pos c24] at H; have c24b0 : (t234 == 0) = true := beq_iff_eq.mpr c24; have c24b1 : (t234 != 0) = false := bne_eq_false_iff_eq.mpr c24; clear c24
     by_cases c25 : t237 = 0
     ·
      rw [if_pos c25] at H; have c25b0 : (t237 == 0) = true := beq_iff_eq.mpr c25; have c25b1 : (t237 != 0) = false := bne_eq_false_iff_eq.mpr c25; clear c25; replace H := Option.bind_eq_some_iff.mp H; obtain ⟨t238, A260, H⟩ := H; replace H : (if t238 = 0 then (if t227 = a0_0 then (if 0 ≤ a1 then (if a1 < (t231.length : Int) then (if a1 < (l0_2.length : Int) then (if (rd t231 a1) = (mn (wrap32 ((rd l0_2 a1) + 1)) a0_0) then (if a1 < (t228.length : Int) then (bitloftlaw09_AdaptRange.j0 k a1 a2 t225 t236 ((rd t228 a1) != t236) a0_0 l0_1 l0_2 t227 t228 t231) else (none)) else (bitloftlaw09_AdaptRange.j0 k a1 a2 t225 t236 true a0_0 l0_1 l0_2 t227 t228 t231)) else (none)) else (none)) else (none)) else (bitloftlaw09_AdaptRange.j0 k a1 a2 t225 t236 true a0_0 l0_1 l0_2 t227 t228 t231)) else (bitloftlaw09_AdaptRange.j0 k a1 a2 t225 t236 true a0_0 l0_1 l0_2 t227 t228 t231)) = some r := H; have A26 := Aside0.mk A260; clear A260
      by_cases c27 : t238 = 0
      ·
       rw [if_pos c27] at H; have c27b0 : (t238 == 0) = true := beq_iff_eq.mpr c27; have c27b1 : (t238 != 0) = false := bne_eq_false_iff_eq.mpr c27; clear c27
       by_cases c28 : t227 = a0_0
       ·
        rw [if_pos c28] at H; have c28b0 : (t227 == a0_0) = true := beq_iff_eq.mpr c28; have c28b1 : (t227 != a0_0) = false := bne_eq_false_iff_eq.mpr c28; clear c28
        by_cases c29 : 0 ≤ a1
        ·
         rw [if_pos c29] at H; have c29b0 : decide (0 ≤ a1) = true := decide_eq_true c29; clear c29
         by_cases c30 : a1 < (t231.length : Int)
         ·
          rw [if_pos c30] at H; have c30b0 : decide (a1 < (t231.length : Int)) = true := decide_eq_true c30; clear c30
          by_cases c31 : a1 < (l0_2.length : Int)
          ·
           rw [if_pos c31] at H; have c31b0 : decide (a1 < (l0_2.length : Int)) = true := decide_eq_true c31; clear c31; obtain ⟨ji32, hji32⟩ : ∃ j_ : Int, (mn (wrap32 ((rd l0_2 a1) + 1)) a0_0) = j_ := ⟨_, rfl⟩
           replace H : (if (rd t231 a1) = (ji32) then (if a1 < (t228.length : Int) then (bitloftlaw09_AdaptRange.j0 k a1 a2 t225 t236 ((rd t228 a1) != t236) a0_0 l0_1 l0_2 t227 t228 t231) else (none)) else (bitloftlaw09_AdaptRange.j0 k a1 a2 t225 t236 true a0_0 l0_1 l0_2 t227 t228 t231)) = some r := by first | (rw [hji32] at H; exact H) | (simp only [hji32] at H ⊢; exact H)
           (try rw [hji32] at A26); have hji32_ : (if a0_0 < (wrap32 ((rd l0_2 a1) + 1)) then a0_0 else (wrap32 ((rd l0_2 a1) + 1))) = ji32 := hji32
           by_cases c33 : (rd t231 a1) = (ji32)
           ·
            rw [if_pos c33] at H; have c33b0 : ((rd t231 a1) == (ji32)) = true := beq_iff_eq.mpr c33; have c33b1 : ((rd t231 a1) != (ji32)) = false := bne_eq_false_iff_eq.mpr c33; clear c33
            by_cases c34 : a1 < (t228.length : Int)
            ·
             rw [if_pos c34] at H; have c34b0 : decide (a1 < (t228.length : Int)) = true := decide_eq_true c34; clear c34; have H' := Aside0.mk H; clear H
             try go_wp2
             have n0_ := Aside0.mk (Kd.R_drew HO230.out); have n1_ := Aside0.mk (Kd.R_drew HO233.out); have n2_ := Aside0.mk (blk_drew BK223.out); have n3_ := Aside0.mk (blk_drew BK235.out); have n4_ := Aside0.mk (below_drew1 HB.out); clear HO230; clear HO233; clear BK223; clear BK235; clear HB; have HO230 := n0_; have HO233 := n1_; have BK223 := n2_; have BK235 := n3_; have HB := n4_; clear n0_ n1_ n2_ n3_ n4_; have p239 : 0 ≤ (a1 : Int) := of_decide_eq_true (by first | (with_reducible assumption) | assumption); have q239 : a1 < (t231.length : Int) := of_decide_eq_true (by first | (with_reducible assumption) | assumption); obtain ⟨ad239, e239, hx239_0⟩ := Kd.at_int (Kd.R_reads' HO233.out).2.2 a1 p239 q239
             cases e239
             replace p239 := eq_true p239; replace q239 := eq_true q239; have p240 : 0 ≤ (a1 : Int) := of_decide_eq_true (by first | (with_reducible assumption) | assumption); have q240 : a1 < (l0_2.length : Int) := of_decide_eq_true (by first | (with_reducible assumption) | assumption); obtain ⟨ad240, e240, hx240_0⟩ := Kd.at_int HR0_2.out a1 p240 q240; have hw240_0 := hx240_0
             cases e240
             replace hx240_0 := (HB.out.cell (World.block_lt_of_cell? w _ hx240_0)).trans hx240_0; replace p240 := eq_true p240; replace q240 := eq_true q240; have p241 : 0 ≤ (a1 : Int) := of_decide_eq_true (by first | (with_reducible assumption) | assumption); have q241 : a1 < (t228.length : Int) := of_decide_eq_true (by first | (with_reducible assumption) | assumption); obtain ⟨ad241, e241, hx241_0⟩ := Kd.at_int (Kd.R_reads' HO230.out).2.2 a1 p241 q241
             cases e241
             replace p241 := eq_true p241; replace q241 := eq_true q241; refine start_ (n := 48) (S := fun w' => w'.cell? ⟨gb235, 0, none⟩ = some (.int .i32 t227) ∧ w'.cell? ⟨gb235, 1, none⟩ = some (.slice (some ad241) t228.length co20) ∧ w'.cell? ⟨gb235, 2, none⟩ = some (.slice (some ad239) t231.length co21) ∧ w'.cell? ⟨gb223, 0, none⟩ = some (.int .i32 a0_0) ∧ w'.cell? ⟨gb223, 1, none⟩ = some (.slice A0_1 l0_1.length c0_1) ∧ w'.cell? ⟨gb223, 2, none⟩ = some (.slice (some ad240) l0_2.length c0_2) ∧ w'.cell? (ad239.add (a1).toNat) = some (.int .i32 (rd t231 a1)) ∧ w'.cell? (ad240.add (a1).toNat) = some (.int .i32 (rd l0_2 a1)) ∧ w'.cell? (ad241.add (a1).toNat) = some (.int .i32 (rd t228 a1))) (ds := []) #[f_, f_, f_, f_, f_, f_, f_, f_, f_, f_, f_, f_, f_, f_, f_, f_, f_, f_, f_, f_, f_, f_, f_, f_, f_, f_, f_, f_, f_, f_, f_, f_, f_, f_, f_, f_, f_, f_, f_, f_, f_, f_, f_, f_, f_, f_, f_, f_] (by kernel_rfl) rfl rfl ⟨(blk_cell BK235.out 0).trans rfl, (blk_cell BK235.out 1).trans rfl, (blk_cell BK235.out 2).trans rfl, (blk_cell BK223.out 0).trans rfl, (blk_cell BK223.out 1).trans rfl, (blk_cell BK223.out 2).trans rfl, hx239_0, ((HB.out.cell (World.block_lt_of_cell? w _ hw240_0)).trans hw240_0), hx241_0⟩ (fun hHeld => ?_); refine with_tabW bitloftlaw09_AdaptRange.tab6 bitloftlaw09_AdaptRange.bits6 (fun HT_ HW_ => ?_)
             generalize w22.drew = w35 at HO230 HO233 BK223 BK235 HB hx239_0 hx240_0 hx241_0 hHeld ⊢
             refine pure_ (i := 0) (N := some 39) (v := ?_) (a' := ?_) #[t_, f_, f_, f_, f_, f_, f_, f_, f_, f_, f_, f_, f_, f_, f_, f_, f_, f_, f_, f_, f_, f_, f_, f_, f_, f_, f_, f_, f_, f_, f_, f_, f_, f_, f_, f_, f_, f_, f_, f_, f_, f_, f_, f_, f_, f_, f_, f_] rfl rfl (any_of HT_.out (by kernel_rfl)) (fun _ _ _ h => h) (Or.inl ⟨by rfl, ?_⟩) ?_ ?_; rotate_left
             ·
              intro w'; go_simp
              with_reducible rfl
             rotate_left
             ·
              simp only [Act.put, sA_, sZ_, sS_, i64_w, i32_w]; rfl
             refine pure_ (i := 1) (N := some 40) (v := ?_) (a' := ?_) #[t_, t_, f_, f_, f_, f_, f_, f_, f_, f_, f_, f_, f_, f_, f_, f_, f_, f_, f_, f_, f_, f_, f_, f_, f_, f_, f_, f_, f_, f_, f_, f_, f_, f_, f_, f_, f_, f_, f_, f_, f_, f_, f_, f_, f_, f_, f_, f_] rfl rfl (any_of HT_.out (by kernel_rfl)) (fun _ _ _ h => h) (Or.inl ⟨by rfl, ?_⟩) ?_ ?_; rotate_left
             ·
              intro w'; go_simp
              with_reducible rfl
             rotate_left
             ·
              simp only [Act.put, sA_, sZ_, sS_, i64_w, i32_w]; rfl
             refine pure_ (i := 2) (N := some 41) (v := ?_) (a' := ?_) #[t_, t_, t_, f_, f_, f_, f_, f_, f_, f_, f_, f_, f_, f_, f_, f_, f_, f_, f_, f_, f_, f_, f_, f_, f_, f_, f_, f_, f_, f_, f_, f_, f_, f_, f_, f_, f_, f_, f_, f_, f_, f_, f_, f_, f_, f_, f_, f_] rfl rfl (any_of HT_.out (by kernel_rfl)) (fun _ _ _ h => h) (Or.inl ⟨by rfl, ?_⟩) ?_ ?_; rotate_left
             ·
              intro w'; go_simp
              with_reducible rfl
             rotate_left
             ·
              simp only [Act.put, sA_, sZ_, sS_, i64_w, i32_w]; rfl
             refine pure_ (i := 3) (N := some 42) (v := ?_) (a' := ?_) #[t_, t_, t_, t_, f_, f_, f_, f_, f_, f_, f_, f_, f_, f_, f_, f_, f_, f_, f_, f_, f_, f_, f_, f_, f_, f_, f_, f_, f_, f_, f_, f_, f_, f_, f_, f_, f_, f_, f_, f_, f_, f_, f_, f_, f_, f_, f_, f_] rfl rfl (any_of HT_.out (by kernel_rfl)) (fun _ _ _ h => h) (Or.inl ⟨by rfl, ?_⟩) ?_ ?_; rotate_left
             ·
              intro w'; go_simp
              with_reducible rfl
             rotate_left
             ·
              simp only [Act.put, sA_, sZ_, sS_, i64_w, i32_w]; rfl
             refine pure_ (i := 4) (N := some 43) (v := ?_) (a' := ?_) #[t_, t_, t_, t_, t_, f_, f_, f_, f_, f_, f_, f_, f_, f_, f_, f_, f_, f_, f_, f_, f_, f_, f_, f_, f_, f_, f_, f_, f_, f_, f_, f_, f_, f_, f_, f_, f_, f_, f_, f_, f_, f_, f_, f_, f_, f_, f_, f_] rfl rfl (any_of HT_.out (by kernel_rfl)) (fun _ _ _ h => h) (Or.inl ⟨by rfl, ?_⟩) ?_ ?_; rotate_left
             ·
              intro w'; go_simp
              with_reducible rfl
             rotate_left
             ·
              simp only [Act.put, sA_, sZ_, sS_, i64_w, i32_w]; rfl
             refine pure_ (i := 5) (N := some 44) (v := ?_) (a' := ?_) #[t_, t_, t_, t_, t_, t_, f_, f_, f_, f_, f_, f_, f_, f_, f_, f_, f_, f_, f_, f_, f_, f_, f_, f_, f_, f_, f_, f_, f_, f_, f_, f_, f_, f_, f_, f_, f_, f_, f_, f_, f_, f_, f_, f_, f_, f_, f_, f_] rfl rfl (any_of HT_.out (by kernel_rfl)) (fun _ _ _ h => h) (Or.inl ⟨by rfl, ?_⟩) ?_ ?_; rotate_left
             ·
              intro w'; go_simp
              with_reducible rfl
             rotate_left
             ·
              simp only [Act.put, sA_, sZ_, sS_, i64_w, i32_w]; rfl
             refine pure_ (i := 6) (N := some 45) (v := ?_) (a' := ?_) #[t_, t_, t_, t_, t_, t_, t_, f_, f_, f_, f_, f_, f_, f_, f_, f_, f_, f_, f_, f_, f_, f_, f_, f_, f_, f_, f_, f_, f_, f_, f_, f_, f_, f_, f_, f_, f_, f_, f_, f_, f_, f_, f_, f_, f_, f_, f_, f_] rfl rfl (any_of HT_.out (by kernel_rfl)) (fun _ _ _ h => h) (Or.inl ⟨by rfl, ?_⟩) ?_ ?_; rotate_left
             ·
              intro w'; go_simp
              with_reducible rfl
             rotate_left
             ·
              simp only [Act.put, sA_, sZ_, sS_, i64_w, i32_w]; rfl
             refine pure_ (i := 7) (N := some 46) (v := ?_) (a' := ?_) #[t_, t_, t_, t_, t_, t_, t_, t_, f_, f_, f_, f_, f_, f_, f_, f_, f_, f_, f_, f_, f_, f_, f_, f_, f_, f_, f_, f_, f_, f_, f_, f_, f_, f_, f_, f_, f_, f_, f_, f_, f_, f_, f_, f_, f_, f_, f_, f_] rfl rfl (any_of HT_.out (by kernel_rfl)) (fun _ _ _ h => h) (Or.inl ⟨by rfl, ?_⟩) ?_ ?_; rotate_left
             ·
              intro w'; go_simp
              with_reducible rfl
             rotate_left
             ·
              simp only [Act.put, sA_, sZ_, sS_, i64_w, i32_w]; rfl
             refine pure_ (i := 8) (N := some 47) (v := ?_) (a' := ?_) #[t_, t_, t_, t_, t_, t_, t_, t_, t_, f_, f_, f_, f_, f_, f_, f_, f_, f_, f_, f_, f_, f_, f_, f_, f_, f_, f_, f_, f_, f_, f_, f_, f_, f_, f_, f_, f_, f_, f_, f_, f_, f_, f_, f_, f_, f_, f_, f_] rfl rfl (any_of HT_.out (by kernel_rfl)) (fun _ _ _ h => h) (Or.inl ⟨by rfl, ?_⟩) ?_ ?_; rotate_left
             ·
              intro w'; go_simp
              with_reducible rfl
             rotate_left
             ·
              simp only [Act.put, sA_, sZ_, sS_, i64_w, i32_w]; rfl
             refine pure_ (i := 9) (N := some 48) (v := ?_) (a' := ?_) #[t_, t_, t_, t_, t_, t_, t_, t_, t_, t_, f_, f_, f_, f_, f_, f_, f_, f_, f_, f_, f_, f_, f_, f_, f_, f_, f_, f_, f_, f_, f_, f_, f_, f_, f_, f_, f_, f_, f_, f_, f_, f_, f_, f_, f_, f_, f_, f_] rfl rfl (any_of HT_.out (by kernel_rfl)) (fun _ _ _ h => h) (Or.inl ⟨by rfl, ?_⟩) ?_ ?_; rotate_left
             ·
              intro w'; go_simp
              with_reducible rfl
             rotate_left
             ·
              simp only [Act.put, sA_, sZ_, sS_, i64_w, i32_w]; rfl
             refine pure_ (i := 10) (N := some 49) (v := ?_) (a' := ?_) #[t_, t_, t_, t_, t_, t_, t_, t_, t_, t_, t_, f_, f_, f_, f_, f_, f_, f_, f_, f_, f_, f_, f_, f_, f_, f_, f_, f_, f_, f_, f_, f_, f_, f_, f_, f_, f_, f_, f_, f_, f_, f_, f_, f_, f_, f_, f_, f_] rfl rfl (any_of HT_.out (by kernel_rfl)) (fun _ _ _ h => h) (Or.inl ⟨by rfl, ?_⟩) ?_ ?_; rotate_left
             ·
              intro w'; go_simp
              with_reducible rfl
             rotate_left
             ·
              simp only [Act.put, sA_, sZ_, sS_, i64_w, i32_w]; rfl
             refine take_ (i := 11) (N := some 50) (v := ?_) (a' := ?_) #[t_, t_, t_, t_, t_, t_, t_, t_, t_, t_, t_, t_, f_, f_, f_, f_, f_, f_, f_, f_, f_, f_, f_, f_, f_, f_, f_, f_, f_, f_, f_, f_, f_, f_, f_, f_, f_, f_, f_, f_, f_, f_, f_, f_, f_, f_, f_, f_] rfl rfl (take_ofW HT_.out HW_.out (by kernel_rfl)) (fun _ _ _ h => h) (Or.inl ⟨by rfl, ?_⟩) hHeld ?_ ?_; rotate_left
             ·
              rintro w' ⟨s0, s1, s2, s3, s4, s5, s6, s7, s8⟩
              go_simp
              with_reducible rfl
             rotate_left
             ·
              simp only [Act.put, sA_, sZ_, sS_, i64_w, i32_w]; rfl
             refine one_ (i := 12) (N := some 51) #[t_, t_, t_, t_, t_, t_, t_, t_, t_, t_, t_, t_, t_, f_, f_, f_, f_, f_, f_, f_, f_, f_, f_, f_, f_, f_, f_, f_, f_, f_, f_, f_, f_, f_, f_, f_, f_, f_, f_, f_, f_, f_, f_, f_, f_, f_, f_, f_] rfl rfl (one_of HT_.out (by kernel_rfl)) (by decide) (fun K hK => ?_); refine goes_ Tryd.func19 (by kernel_rfl) rfl #[.agg #[.int .i32 t227, .slice (some ad241) t228.length co20, .slice (some ad239) t231.length co21]] (by rfl) rfl rfl (by (try simp only [List.map_toArray, List.map_cons, List.map_nil]); first | done | rfl | (simp only [List.length_drop, List.length_take]; rfl)) ?_
             with_reducible refine (bitloftref09_Check.calls k t227 _ _ t228 _ _ t231 t238 _ ?side1 ?side2 ?side3 ?side4 A26.out).mono ?_
             (case side1 => repeat (first | exact (Kd.R_reads' HO230.out).2.2 | (with_reducible refine Kd.C_alloc ?_ _) | (with_reducible refine Kd.C_drewN ?_ _) | (with_reducible refine Kd.C_drew ?_))); (case side2 => exact (Kd.R_reads' HO230.out).2.1); (case side3 => repeat (first | exact (Kd.R_reads' HO233.out).2.2 | (with_reducible refine Kd.C_alloc ?_ _) | (with_reducible refine Kd.C_drewN ?_ _) | (with_reducible refine Kd.C_drew ?_))); (case side4 => exact (Kd.R_reads' HO233.out).2.1)
             rintro e w36 ⟨rfl, hb⟩
             have HS6_ := (hb.cell (World.block_lt_of_cell? _ _ (hHeld.2.2.2.2.2.2.1))).trans (hHeld.2.2.2.2.2.2.1); have HS8_ := (hb.cell (World.block_lt_of_cell? _ _ (hHeld.2.2.2.2.2.2.2.2))).trans (hHeld.2.2.2.2.2.2.2.2); refine ⟨_, rfl, ?_⟩; have n0_ := Aside0.mk (Kd.R_below (pL_ HO230.out) hb); have n1_ := Aside0.mk (Kd.R_below (pL_ HO233.out) hb); have n2_ := Aside0.mk (blk_below (pG_ BK223.out) hb); have n3_ := Aside0.mk (blk_below (pG_ BK235.out) hb); have n4_ := Aside0.mk (below_step (pH_ HB.out) hb); clear HO230; clear HO233; clear BK223; clear BK235; clear HB; have HO230 := n0_; have HO233 := n1_; have BK223 := n2_; have BK235 := n3_; have HB := n4_; clear n0_ n1_ n2_ n3_ n4_; (try clear hb); (try clear hb2); (try clear hk); (try clear hi); refine hK.out _ _ ⟨(blk_cell BK235.out 0).trans rfl, (blk_cell BK235.out 1).trans rfl, (blk_cell BK235.out 2).trans rfl, (blk_cell BK223.out 0).trans rfl, (blk_cell BK223.out 1).trans rfl, (blk_cell BK223.out 2).trans rfl, HS6_, ((HB.out.cell (World.block_lt_of_cell? w _ hw240_0)).trans hw240_0), HS8_⟩ (fun hHeld => ?_); clear hK K; refine norm_ (a' := ?_) ?_ ?_; rotate_left
             ·
              show Act.put _ (some 51) _ = _
              simp only [Act.put, sA_, sZ_, sS_, i64_w, i32_w]; rfl
             refine pure_ (i := 13) (N := some 52) (v := ?_) (a' := ?_) #[t_, t_, t_, t_, t_, t_, t_, t_, t_, t_, t_, t_, t_, t_, f_, f_, f_, f_, f_, f_, f_, f_, f_, f_, f_, f_, f_, f_, f_, f_, f_, f_, f_, f_, f_, f_, f_, f_, f_, f_, f_, f_, f_, f_, f_, f_, f_, f_] rfl rfl (any_of HT_.out (by kernel_rfl)) (fun _ _ _ h => h) (Or.inl ⟨by rfl, ?_⟩) ?_ ?_; rotate_left
             ·
              intro w'; go_simp
              with_reducible rfl
             rotate_left
             ·
              simp only [Act.put, sA_, sZ_, sS_, i64_w, i32_w]; rfl
             refine pure_ (i := 14) (N := some 53) (v := ?_) (a' := ?_) #[t_, t_, t_, t_, t_, t_, t_, t_, t_, t_, t_, t_, t_, t_, t_, f_, f_, f_, f_, f_, f_, f_, f_, f_, f_, f_, f_, f_, f_, f_, f_, f_, f_, f_, f_, f_, f_, f_, f_, f_, f_, f_, f_, f_, f_, f_, f_, f_] rfl rfl (any_of HT_.out (by kernel_rfl)) (fun _ _ _ h => h) (Or.inl ⟨by rfl, ?_⟩) ?_ ?_; rotate_left
             ·
              intro w'; go_simp
              with_reducible rfl
             rotate_left
             ·
              simp only [Act.put, sA_, sZ_, sS_, i64_w, i32_w]; rfl
             refine pure_ (i := 15) (N := some 54) (v := ?_) (a' := ?_) #[t_, t_, t_, t_, t_, t_, t_, t_, t_, t_, t_, t_, t_, t_, t_, t_, f_, f_, f_, f_, f_, f_, f_, f_, f_, f_, f_, f_, f_, f_, f_, f_, f_, f_, f_, f_, f_, f_, f_, f_, f_, f_, f_, f_, f_, f_, f_, f_] rfl rfl (any_of HT_.out (by kernel_rfl)) (fun _ _ _ h => h) (Or.inl ⟨by rfl, ?_⟩) ?_ ?_; rotate_left
             ·
              intro w'; go_simp
              with_reducible rfl
             rotate_left
             ·
              simp only [Act.put, sA_, sZ_, sS_, i64_w, i32_w]; rfl
             refine pure_ (i := 16) (N := some 55) (v := ?_) (a' := ?_) #[t_, t_, t_, t_, t_, t_, t_, t_, t_, t_, t_, t_, t_, t_, t_, t_, t_, f_, f_, f_, f_, f_, f_, f_, f_, f_, f_, f_, f_, f_, f_, f_, f_, f_, f_, f_, f_, f_, f_, f_, f_, f_, f_, f_, f_, f_, f_, f_] rfl rfl (any_of HT_.out (by kernel_rfl)) (fun _ _ _ h => h) (Or.inl ⟨by rfl, ?_⟩) ?_ ?_; rotate_left
             ·
              intro w'; go_simp
              with_reducible rfl
             rotate_left
             ·
              simp only [Act.put, sA_, sZ_, sS_, i64_w, i32_w]; rfl
             refine pure_ (i := 18) (N := some 57) (v := ?_) (a' := ?_) #[t_, t_, t_, t_, t_, t_, t_, t_, t_, t_, t_, t_, t_, t_, t_, t_, t_, f_, t_, f_, f_, f_, f_, f_, f_, f_, f_, f_, f_, f_, f_, f_, f_, f_, f_, f_, f_, f_, f_, f_, f_, f_, f_, f_, f_, f_, f_, f_] rfl rfl (any_of HT_.out (by kernel_rfl)) (fun _ _ _ h => h) (Or.inl ⟨by rfl, ?_⟩) ?_ ?_; rotate_left
             ·
              intro w'; go_simp
              with_reducible rfl
             rotate_left
             ·
              simp only [Act.put, sA_, sZ_, sS_, i64_w, i32_w]; rfl
             refine take_ (i := 17) (N := some 56) (v := ?_) (a' := ?_) #[t_, t_, t_, t_, t_, t_, t_, t_, t_, t_, t_, t_, t_, t_, t_, t_, t_, t_, t_, f_, f_, f_, f_, f_, f_, f_, f_, f_, f_, f_, f_, f_, f_, f_, f_, f_, f_, f_, f_, f_, f_, f_, f_, f_, f_, f_, f_, f_] rfl rfl (take_ofW HT_.out HW_.out (by kernel_rfl)) (fun _ _ _ h => h) (Or.inl ⟨by rfl, ?_⟩) hHeld ?_ ?_; rotate_left
             ·
              rintro w' ⟨s0, s1, s2, s3, s4, s5, s6, s7, s8⟩
              go_simp
              with_reducible rfl
             rotate_left
             ·
              simp only [Act.put, sA_, sZ_, sS_, i64_w, i32_w]; rfl
             refine take_ (i := 19) (N := some 58) (v := ?_) (a' := ?_) #[t_, t_, t_, t_, t_, t_, t_, t_, t_, t_, t_, t_, t_, t_, t_, t_, t_, t_, t_, t_, f_, f_, f_, f_, f_, f_, f_, f_, f_, f_, f_, f_, f_, f_, f_, f_, f_, f_, f_, f_, f_, f_, f_, f_, f_, f_, f_, f_] rfl rfl (take_ofW HT_.out HW_.out (by kernel_rfl)) (fun _ _ _ h => h) (Or.inl ⟨by rfl, ?_⟩) hHeld ?_ ?_; rotate_left
             ·
              rintro w' ⟨s0, s1, s2, s3, s4, s5, s6, s7, s8⟩
              go_simp
              with_reducible rfl
             rotate_left
             ·
              simp only [Act.put, sA_, sZ_, sS_, i64_w, i32_w]; rfl
             refine pure_ (i := 20) (N := some 59) (v := ?_) (a' := ?_) #[t_, t_, t_, t_, t_, t_, t_, t_, t_, t_, t_, t_, t_, t_, t_, t_, t_, t_, t_, t_, t_, f_, f_, f_, f_, f_, f_, f_, f_, f_, f_, f_, f_, f_, f_, f_, f_, f_, f_, f_, f_, f_, f_, f_, f_, f_, f_, f_] rfl rfl (any_of HT_.out (by kernel_rfl)) (fun _ _ _ h => h) (Or.inl ⟨by rfl, ?_⟩) ?_ ?_; rotate_left
             ·
              intro w'; go_simp
              with_reducible rfl
             rotate_left
             ·
              simp only [Act.put, sA_, sZ_, sS_, i64_w, i32_w]; rfl
             refine pure_ (i := 21) (N := some 60) (v := ?_) (a' := ?_) #[t_, t_, t_, t_, t_, t_, t_, t_, t_, t_, t_, t_, t_, t_, t_, t_, t_, t_, t_, t_, t_, t_, f_, f_, f_, f_, f_, f_, f_, f_, f_, f_, f_, f_, f_, f_, f_, f_, f_, f_, f_, f_, f_, f_, f_, f_, f_, f_] rfl rfl (any_of HT_.out (by kernel_rfl)) (fun _ _ _ h => h) (Or.inl ⟨by rfl, ?_⟩) ?_ ?_; rotate_left
             ·
              intro w'; go_simp
              with_reducible rfl
             rotate_left
             ·
              simp only [Act.put, sA_, sZ_, sS_, i64_w, i32_w]; rfl
             refine pure_ (i := 22) (N := some 61) (v := ?_) (a' := ?_) #[t_, t_, t_, t_, t_, t_, t_, t_, t_, t_, t_, t_, t_, t_, t_, t_, t_, t_, t_, t_, t_, t_, t_, f_, f_, f_, f_, f_, f_, f_, f_, f_, f_, f_, f_, f_, f_, f_, f_, f_, f_, f_, f_, f_, f_, f_, f_, f_] rfl rfl (any_of HT_.out (by kernel_rfl)) (fun _ _ _ h => h) (Or.inl ⟨by rfl, ?_⟩) ?_ ?_; rotate_left
             ·
              intro w'; go_simp
              with_reducible rfl
             rotate_left
             ·
              simp only [Act.put, sA_, sZ_, sS_, i64_w, i32_w]; rfl
             refine pure_ (i := 23) (N := some 62) (v := ?_) (a' := ?_) #[t_, t_, t_, t_, t_, t_, t_, t_, t_, t_, t_, t_, t_, t_, t_, t_, t_, t_, t_, t_, t_, t_, t_, t_, f_, f_, f_, f_, f_, f_, f_, f_, f_, f_, f_, f_, f_, f_, f_, f_, f_, f_, f_, f_, f_, f_, f_, f_] rfl rfl (any_of HT_.out (by kernel_rfl)) (fun _ _ _ h => h) (Or.inl ⟨by rfl, ?_⟩) ?_ ?_; rotate_left
             ·
              intro w'; go_simp
              with_reducible rfl
             rotate_left
             ·
              simp only [Act.put, sA_, sZ_, sS_, i64_w, i32_w]; rfl
             refine pure_ (i := 25) (N := some 64) (v := ?_) (a' := ?_) #[t_, t_, t_, t_, t_, t_, t_, t_, t_, t_, t_, t_, t_, t_, t_, t_, t_, t_, t_, t_, t_, t_, t_, t_, f_, t_, f_, f_, f_, f_, f_, f_, f_, f_, f_, f_, f_, f_, f_, f_, f_, f_, f_, f_, f_, f_, f_, f_] rfl rfl (any_of HT_.out (by kernel_rfl)) (fun _ _ _ h => h) (Or.inl ⟨by rfl, ?_⟩) ?_ ?_; rotate_left
             ·
              intro w'; go_simp
              with_reducible rfl
             rotate_left
             ·
              simp only [Act.put, sA_, sZ_, sS_, i64_w, i32_w]; rfl
             refine pure_ (i := 28) (N := some 67) (v := ?_) (a' := ?_) #[t_, t_, t_, t_, t_, t_, t_, t_, t_, t_, t_, t_, t_, t_, t_, t_, t_, t_, t_, t_, t_, t_, t_, t_, f_, t_, f_, f_, t_, f_, f_, f_, f_, f_, f_, f_, f_, f_, f_, f_, f_, f_, f_, f_, f_, f_, f_, f_] rfl rfl (any_of HT_.out (by kernel_rfl)) (fun _ _ _ h => h) (Or.inl ⟨by rfl, ?_⟩) ?_ ?_; rotate_left
             ·
              intro w'; go_simp
              with_reducible rfl
             rotate_left
             ·
              simp only [Act.put, sA_, sZ_, sS_, i64_w, i32_w]; rfl
             refine pure_ (i := 30) (N := some 69) (v := ?_) (a' := ?_) #[t_, t_, t_, t_, t_, t_, t_, t_, t_, t_, t_, t_, t_, t_, t_, t_, t_, t_, t_, t_, t_, t_, t_, t_, f_, t_, f_, f_, t_, f_, t_, f_, f_, f_, f_, f_, f_, f_, f_, f_, f_, f_, f_, f_, f_, f_, f_, f_] rfl rfl (any_of HT_.out (by kernel_rfl)) (fun _ _ _ h => h) (Or.inl ⟨by rfl, ?_⟩) ?_ ?_; rotate_left
             ·
              intro w'; go_simp
              with_reducible rfl
             rotate_left
             ·
              simp only [Act.put, sA_, sZ_, sS_, i64_w, i32_w]; rfl
             refine pure_ (i := 34) (N := some 73) (v := ?_) (a' := ?_) #[t_, t_, t_, t_, t_, t_, t_, t_, t_, t_, t_, t_, t_, t_, t_, t_, t_, t_, t_, t_, t_, t_, t_, t_, f_, t_, f_, f_, t_, f_, t_, f_, f_, f_, t_, f_, f_, f_, f_, f_, f_, f_, f_, f_, f_, f_, f_, f_] rfl rfl (any_of HT_.out (by kernel_rfl)) (fun _ _ _ h => h) (Or.inl ⟨by rfl, ?_⟩) ?_ ?_; rotate_left
             ·
              intro w'; go_simp
              with_reducible rfl
             rotate_left
             ·
              simp only [Act.put, sA_, sZ_, sS_, i64_w, i32_w]; rfl
             refine take_ (i := 24) (N := some 63) (v := ?_) (a' := ?_) #[t_, t_, t_, t_, t_, t_, t_, t_, t_, t_, t_, t_, t_, t_, t_, t_, t_, t_, t_, t_, t_, t_, t_, t_, t_, t_, f_, f_, t_, f_, t_, f_, f_, f_, t_, f_, f_, f_, f_, f_, f_, f_, f_, f_, f_, f_, f_, f_] rfl rfl (take_ofW HT_.out HW_.out (by kernel_rfl)) (fun _ _ _ h => h) (Or.inl ⟨by rfl, ?_⟩) hHeld ?_ ?_; rotate_left
             ·
              rintro w' ⟨s0, s1, s2, s3, s4, s5, s6, s7, s8⟩
              go_simp
              with_reducible rfl
             rotate_left
             ·
              simp only [Act.put, sA_, sZ_, sS_, i64_w, i32_w]; rfl
             refine pure_ (i := 26) (N := some 65) (v := ?_) (a' := ?_) #[t_, t_, t_, t_, t_, t_, t_, t_, t_, t_, t_, t_, t_, t_, t_, t_, t_, t_, t_, t_, t_, t_, t_, t_, t_, t_, t_, f_, t_, f_, t_, f_, f_, f_, t_, f_, f_, f_, f_, f_, f_, f_, f_, f_, f_, f_, f_, f_] rfl rfl (any_of HT_.out (by kernel_rfl)) (fun _ _ _ h => h) (Or.inl ⟨by rfl, ?_⟩) ?_ ?_; rotate_left
             ·
              intro w'; go_simp
              with_reducible rfl
             rotate_left
             ·
              simp only [Act.put, sA_, sZ_, sS_, i64_w, i32_w]; rfl
             refine take_ (i := 27) (N := some 66) (v := ?_) (a' := ?_) #[t_, t_, t_, t_, t_, t_, t_, t_, t_, t_, t_, t_, t_, t_, t_, t_, t_, t_, t_, t_, t_, t_, t_, t_, t_, t_, t_, t_, t_, f_, t_, f_, f_, f_, t_, f_, f_, f_, f_, f_, f_, f_, f_, f_, f_, f_, f_, f_] rfl rfl (take_ofW HT_.out HW_.out (by kernel_rfl)) (fun _ _ _ h => h) (Or.inl ⟨by rfl, ?_⟩) hHeld ?_ ?_; rotate_left
             ·
              rintro w' ⟨s0, s1, s2, s3, s4, s5, s6, s7, s8⟩
              go_simp
              with_reducible rfl
             rotate_left
             ·
              simp only [Act.put, sA_, sZ_, sS_, i64_w, i32_w]; rfl
             refine take_ (i := 29) (N := some 68) (v := ?_) (a' := ?_) #[t_, t_, t_, t_, t_, t_, t_, t_, t_, t_, t_, t_, t_, t_, t_, t_, t_, t_, t_, t_, t_, t_, t_, t_, t_, t_, t_, t_, t_, t_, t_, f_, f_, f_, t_, f_, f_, f_, f_, f_, f_, f_, f_, f_, f_, f_, f_, f_] rfl rfl (take_ofW HT_.out HW_.out (by kernel_rfl)) (fun _ _ _ h => h) (Or.inl ⟨by rfl, ?_⟩) hHeld ?_ ?_; rotate_left
             ·
              rintro w' ⟨s0, s1, s2, s3, s4, s5, s6, s7, s8⟩
              go_simp
              with_reducible rfl
             rotate_left
             ·
              simp only [Act.put, sA_, sZ_, sS_, i64_w, i32_w]; rfl
             refine pure_ (i := 31) (N := some 70) (v := ?_) (a' := ?_) #[t_, t_, t_, t_, t_, t_, t_, t_, t_, t_, t_, t_, t_, t_, t_, t_, t_, t_, t_, t_, t_, t_, t_, t_, t_, t_, t_, t_, t_, t_, t_, t_, f_, f_, t_, f_, f_, f_, f_, f_, f_, f_, f_, f_, f_, f_, f_, f_] rfl rfl (any_of HT_.out (by kernel_rfl)) (fun _ _ _ h => h) (Or.inl ⟨by rfl, ?_⟩) ?_ ?_; rotate_left
             ·
              intro w'; go_simp
              with_reducible rfl
             rotate_left
             ·
              simp only [Act.put, sA_, sZ_, sS_, i64_w, i32_w]; rfl
             refine take_ (i := 32) (N := some 71) (v := ?_) (a' := ?_) #[t_, t_, t_, t_, t_, t_, t_, t_, t_, t_, t_, t_, t_, t_, t_, t_, t_, t_, t_, t_, t_, t_, t_, t_, t_, t_, t_, t_, t_, t_, t_, t_, t_, f_, t_, f_, f_, f_, f_, f_, f_, f_, f_, f_, f_, f_, f_, f_] rfl rfl (take_ofW HT_.out HW_.out (by kernel_rfl)) (fun _ _ _ h => h) (Or.inl ⟨by rfl, ?_⟩) hHeld ?_ ?_; rotate_left
             ·
              rintro w' ⟨s0, s1, s2, s3, s4, s5, s6, s7, s8⟩
              go_simp
              with_reducible rfl
             rotate_left
             ·
              simp only [Act.put, sA_, sZ_, sS_, i64_w, i32_w]; rfl
             refine pure_ (i := 33) (N := some 72) (v := ?_) (a' := ?_) #[t_, t_, t_, t_, t_, t_, t_, t_, t_, t_, t_, t_, t_, t_, t_, t_, t_, t_, t_, t_, t_, t_, t_, t_, t_, t_, t_, t_, t_, t_, t_, t_, t_, t_, t_, f_, f_, f_, f_, f_, f_, f_, f_, f_, f_, f_, f_, f_] rfl rfl (any_of HT_.out (by kernel_rfl)) (fun _ _ _ h => h) (Or.inl ⟨by rfl, ?_⟩) ?_ ?_; rotate_left
             ·
              intro w'; go_simp
              with_reducible rfl
             rotate_left
             ·
              simp only [Act.put, sA_, sZ_, sS_, i64_w, i32_w]; rfl
             refine take_ (i := 35) (N := some 74) (v := ?_) (a' := ?_) #[t_, t_, t_, t_, t_, t_, t_, t_, t_, t_, t_, t_, t_, t_, t_, t_, t_, t_, t_, t_, t_, t_, t_, t_, t_, t_, t_, t_, t_, t_, t_, t_, t_, t_, t_, t_, f_, f_, f_, f_, f_, f_, f_, f_, f_, f_, f_, f_] rfl rfl (take_ofW HT_.out HW_.out (by kernel_rfl)) (fun _ _ _ h => h) (Or.inl ⟨by rfl, ?_⟩) hHeld ?_ ?_; rotate_left
             ·
              rintro w' ⟨s0, s1, s2, s3, s4, s5, s6, s7, s8⟩
              go_simp
              with_reducible rfl
             rotate_left
             ·
              simp only [Act.put, sA_, sZ_, sS_, i64_w, i32_w]; rfl
             refine pure_ (i := 36) (N := some 75) (v := ?_) (a' := ?_) #[t_, t_, t_, t_, t_, t_, t_, t_, t_, t_, t_, t_, t_, t_, t_, t_, t_, t_, t_, t_, t_, t_, t_, t_, t_, t_, t_, t_, t_, t_, t_, t_, t_, t_, t_, t_, t_, f_, f_, f_, f_, f_, f_, f_, f_, f_, f_, f_] rfl rfl (any_of HT_.out (by kernel_rfl)) (fun _ _ _ h => h) (Or.inl ⟨by rfl, ?_⟩) ?_ ?_; rotate_left
             ·
              intro w'; go_simp
              with_reducible rfl
             rotate_left
             ·
              simp only [Act.put, sA_, sZ_, sS_, i64_w, i32_w]; rfl
             refine pure_ (i := 37) (N := some 76) (v := ?_) (a' := ?_) #[t_, t_, t_, t_, t_, t_, t_, t_, t_, t_, t_, t_, t_, t_, t_, t_, t_, t_, t_, t_, t_, t_, t_, t_, t_, t_, t_, t_, t_, t_, t_, t_, t_, t_, t_, t_, t_, t_, f_, f_, f_, f_, f_, f_, f_, f_, f_, f_] rfl rfl (any_of HT_.out (by kernel_rfl)) (fun _ _ _ h => h) (Or.inl ⟨by rfl, ?_⟩) ?_ ?_; rotate_left
             ·
              intro w'; go_simp
              with_reducible rfl
             rotate_left
             ·
              simp only [Act.put, sA_, sZ_, sS_, i64_w, i32_w]; rfl
             refine pure_ (i := 38) (N := some 77) (v := ?_) (a' := ?_) #[t_, t_, t_, t_, t_, t_, t_, t_, t_, t_, t_, t_, t_, t_, t_, t_, t_, t_, t_, t_, t_, t_, t_, t_, t_, t_, t_, t_, t_, t_, t_, t_, t_, t_, t_, t_, t_, t_, t_, f_, f_, f_, f_, f_, f_, f_, f_, f_] rfl rfl (any_of HT_.out (by kernel_rfl)) (fun _ _ _ h => h) (Or.inl ⟨by rfl, ?_⟩) ?_ ?_; rotate_left
             ·
              intro w'; go_simp
              with_reducible rfl
             rotate_left
             ·
              simp only [Act.put, sA_, sZ_, sS_, i64_w, i32_w]; rfl
             refine pure_ (i := 39) (N := some 78) (v := ?_) (a' := ?_) #[t_, t_, t_, t_, t_, t_, t_, t_, t_, t_, t_, t_, t_, t_, t_, t_, t_, t_, t_, t_, t_, t_, t_, t_, t_, t_, t_, t_, t_, t_, t_, t_, t_, t_, t_, t_, t_, t_, t_, t_, f_, f_, f_, f_, f_, f_, f_, f_] rfl rfl (any_of HT_.out (by kernel_rfl)) (fun _ _ _ h => h) (Or.inl ⟨by rfl, ?_⟩) ?_ ?_; rotate_left
             ·
              intro w'; go_simp
              with_reducible rfl
             rotate_left
             ·
              simp only [Act.put, sA_, sZ_, sS_, i64_w, i32_w]; rfl
             refine pure_ (i := 40) (N := some 79) (v := ?_) (a' := ?_) #[t_, t_, t_, t_, t_, t_, t_, t_, t_, t_, t_, t_, t_, t_, t_, t_, t_, t_, t_, t_, t_, t_, t_, t_, t_, t_, t_, t_, t_, t_, t_, t_, t_, t_, t_, t_, t_, t_, t_, t_, t_, f_, f_, f_, f_, f_, f_, f_] rfl rfl (any_of HT_.out (by kernel_rfl)) (fun _ _ _ h => h) (Or.inl ⟨by rfl, ?_⟩) ?_ ?_; rotate_left
             ·
              intro w'; go_simp
              with_reducible rfl
             rotate_left
             ·
              simp only [Act.put, sA_, sZ_, sS_, i64_w, i32_w]; rfl
             refine pure_ (i := 42) (N := some 81) (v := ?_) (a' := ?_) #[t_, t_, t_, t_, t_, t_, t_, t_, t_, t_, t_, t_, t_, t_, t_, t_, t_, t_, t_, t_, t_, t_, t_, t_, t_, t_, t_, t_, t_, t_, t_, t_, t_, t_, t_, t_, t_, t_, t_, t_, t_, f_, t_, f_, f_, f_, f_, f_] rfl rfl (any_of HT_.out (by kernel_rfl)) (fun _ _ _ h => h) (Or.inl ⟨by rfl, ?_⟩) ?_ ?_; rotate_left
             ·
              intro w'; go_simp
              with_reducible rfl
             rotate_left
             ·
              simp only [Act.put, sA_, sZ_, sS_, i64_w, i32_w]; rfl
             refine pure_ (i := 45) (N := some 84) (v := ?_) (a' := ?_) #[t_, t_, t_, t_, t_, t_, t_, t_, t_, t_, t_, t_, t_, t_, t_, t_, t_, t_, t_, t_, t_, t_, t_, t_, t_, t_, t_, t_, t_, t_, t_, t_, t_, t_, t_, t_, t_, t_, t_, t_, t_, f_, t_, f_, f_, t_, f_, f_] rfl rfl (any_of HT_.out (by kernel_rfl)) (fun _ _ _ h => h) (Or.inl ⟨by rfl, ?_⟩) ?_ ?_; rotate_left
             ·
              intro w'; go_simp
              with_reducible rfl
             rotate_left
             ·
              simp only [Act.put, sA_, sZ_, sS_, i64_w, i32_w]; rfl
             refine take_ (i := 41) (N := some 80) (v := ?_) (a' := ?_) #[t_, t_, t_, t_, t_, t_, t_, t_, t_, t_, t_, t_, t_, t_, t_, t_, t_, t_, t_, t_, t_, t_, t_, t_, t_, t_, t_, t_, t_, t_, t_, t_, t_, t_, t_, t_, t_, t_, t_, t_, t_, t_, t_, f_, f_, t_, f_, f_] rfl rfl (take_ofW HT_.out HW_.out (by kernel_rfl)) (fun _ _ _ h => h) (Or.inl ⟨by rfl, ?_⟩) hHeld ?_ ?_; rotate_left
             ·
              rintro w' ⟨s0, s1, s2, s3, s4, s5, s6, s7, s8⟩
              go_simp
              with_reducible rfl
             rotate_left
             ·
              simp only [Act.put, sA_, sZ_, sS_, i64_w, i32_w]; rfl
             refine pure_ (i := 43) (N := some 82) (v := ?_) (a' := ?_) #[t_, t_, t_, t_, t_, t_, t_, t_, t_, t_, t_, t_, t_, t_, t_, t_, t_, t_, t_, t_, t_, t_, t_, t_, t_, t_, t_, t_, t_, t_, t_, t_, t_, t_, t_, t_, t_, t_, t_, t_, t_, t_, t_, t_, f_, t_, f_, f_] rfl rfl (any_of HT_.out (by kernel_rfl)) (fun _ _ _ h => h) (Or.inl ⟨by rfl, ?_⟩) ?_ ?_; rotate_left
             ·
              intro w'; go_simp
              with_reducible rfl
             rotate_left
             ·
              simp only [Act.put, sA_, sZ_, sS_, i64_w, i32_w]; rfl
             refine take_ (i := 44) (N := some 83) (v := ?_) (a' := ?_) #[t_, t_, t_, t_, t_, t_, t_, t_, t_, t_, t_, t_, t_, t_, t_, t_, t_, t_, t_, t_, t_, t_, t_, t_, t_, t_, t_, t_, t_, t_, t_, t_, t_, t_, t_, t_, t_, t_, t_, t_, t_, t_, t_, t_, t_, t_, f_, f_] rfl rfl (take_ofW HT_.out HW_.out (by kernel_rfl)) (fun _ _ _ h => h) (Or.inl ⟨by rfl, ?_⟩) hHeld ?_ ?_; rotate_left
             ·
              rintro w' ⟨s0, s1, s2, s3, s4, s5, s6, s7, s8⟩
              go_simp
              with_reducible rfl
             rotate_left
             ·
              simp only [Act.put, sA_, sZ_, sS_, i64_w, i32_w]; rfl
             refine pure_ (i := 46) (N := some 85) (v := ?_) (a' := ?_) #[t_, t_, t_, t_, t_, t_, t_, t_, t_, t_, t_, t_, t_, t_, t_, t_, t_, t_, t_, t_, t_, t_, t_, t_, t_, t_, t_, t_, t_, t_, t_, t_, t_, t_, t_, t_, t_, t_, t_, t_, t_, t_, t_, t_, t_, t_, t_, f_] rfl rfl (any_of HT_.out (by kernel_rfl)) (fun _ _ _ h => h) (Or.inl ⟨by rfl, ?_⟩) ?_ ?_; rotate_left
             ·
              intro w'; go_simp
              with_reducible rfl
             rotate_left
             ·
              simp only [Act.put, sA_, sZ_, sS_, i64_w, i32_w]; rfl
             refine pure_ (i := 47) (N := some 86) (v := ?_) (a' := ?_) #[t_, t_, t_, t_, t_, t_, t_, t_, t_, t_, t_, t_, t_, t_, t_, t_, t_, t_, t_, t_, t_, t_, t_, t_, t_, t_, t_, t_, t_, t_, t_, t_, t_, t_, t_, t_, t_, t_, t_, t_, t_, t_, t_, t_, t_, t_, t_, t_] rfl rfl (any_of HT_.out (by kernel_rfl)) (fun _ _ _ h => h) (Or.inl ⟨by rfl, ?_⟩) ?_ ?_; rotate_left
             ·
              intro w'; go_simp
              with_reducible rfl
             rotate_left
             ·
              simp only [Act.put, sA_, sZ_, sS_, i64_w, i32_w]; rfl
             refine done_ (done_of HT_.out (by kernel_rfl)) ?_
             try go_wp2
             (first | go_meet | (refine Met.intro ?_; go_step; (repeat apply Exists.intro); refine ⟨?rel, ?eqf_⟩; case eqf_ => ((simp only [c34b0, c33b0, c31b0, c30b0, c29b0, c28b0, c27b0, c25b0, c24b0, c23b0]) <;> rfl)))
             case rel => exact ⟨_, (((rd t228 a1) != t236)), (by first | rfl | (simp; done) | (simp [*]; done)), H', ⟨by first | omega | exact Nat.le_refl _⟩, ⟨pL_ HO230.out⟩, ⟨pL_ HO233.out⟩, ⟨pG_ BK223.out⟩, ⟨pG_ BK235.out⟩, ⟨pH_ HB.out⟩⟩
            ·
             rw [if_neg c34] at H; exact absurd H (by simp)
           ·
            rw [if_neg c33] at H; have c33b0 : ((rd t231 a1) == (ji32)) = false := beq_eq_false_iff_ne.mpr c33; have c33b1 : ((rd t231 a1) != (ji32)) = true := bne_iff_ne.mpr c33; exact absurd (H.trans (congrArg some HRT_.out)) (by first | (simp; done) | (generalize k = k_; cases k_ <;> simp [bitloftlaw09_AdaptRange.j0, bitloftlaw09_AdaptRange.l0, bitloftlaw09_AdaptRange.j2, bitloftlaw09_AdaptRange.j3, bitloftlaw09_AdaptRange.j4]))
          ·
           rw [if_neg c31] at H; exact absurd H (by simp)
         ·
          rw [if_neg c30] at H; exact absurd H (by simp)
        ·
         rw [if_neg c29] at H; exact absurd H (by simp)
       ·
        rw [if_neg c28] at H; have c28b0 : (t227 == a0_0) = false := beq_eq_false_iff_ne.mpr c28; have c28b1 : (t227 != a0_0) = true := bne_iff_ne.mpr c28; exact absurd (H.trans (congrArg some HRT_.out)) (by first | (simp; done) | (generalize k = k_; cases k_ <;> simp [bitloftlaw09_AdaptRange.j0, bitloftlaw09_AdaptRange.l0, bitloftlaw09_AdaptRange.j2, bitloftlaw09_AdaptRange.j3, bitloftlaw09_AdaptRange.j4]))
      ·
       rw [if_neg c27] at H; have c27b0 : (t238 == 0) = false := beq_eq_false_iff_ne.mpr c27; have c27b1 : (t238 != 0) = true := bne_iff_ne.mpr c27; exact absurd (H.trans (congrArg some HRT_.out)) (by first | (simp; done) | (generalize k = k_; cases k_ <;> simp [bitloftlaw09_AdaptRange.j0, bitloftlaw09_AdaptRange.l0, bitloftlaw09_AdaptRange.j2, bitloftlaw09_AdaptRange.j3, bitloftlaw09_AdaptRange.j4]))
     ·
      rw [if_neg c25] at H; have c25b0 : (t237 == 0) = false := beq_eq_false_iff_ne.mpr c25; have c25b1 : (t237 != 0) = true := bne_iff_ne.mpr c25; exact absurd (H.trans (congrArg some HRT_.out)) (by first | (simp; done) | (generalize k = k_; cases k_ <;> simp [bitloftlaw09_AdaptRange.j0, bitloftlaw09_AdaptRange.l0, bitloftlaw09_AdaptRange.j2, bitloftlaw09_AdaptRange.j3, bitloftlaw09_AdaptRange.j4]))
    ·
     rw [if_neg c24] at H; have c24b0 : (t234 == 0) = false := beq_eq_false_iff_ne.mpr c24; have c24b1 : (t234 != 0) = true := bne_iff_ne.mpr c24; exact absurd (H.trans (congrArg some HRT_.out)) (by first | (simp; done) | (generalize k = k_; cases k_ <;> simp [bitloftlaw09_AdaptRange.j0, bitloftlaw09_AdaptRange.l0, bitloftlaw09_AdaptRange.j2, bitloftlaw09_AdaptRange.j3, bitloftlaw09_AdaptRange.j4]))
   ·
    rw [if_neg c23] at H; have c23b0 : (t226 == 0) = false := beq_eq_false_iff_ne.mpr c23; have c23b1 : (t226 != 0) = true := bne_iff_ne.mpr c23; (first | rw [c23b0] | (simp only [i64_w, i32_w]; rw [c23b0]) | skip); exact absurd (H.trans (congrArg some HRT_.out)) (by first | (simp; done) | (generalize k = k_; cases k_ <;> simp [bitloftlaw09_AdaptRange.j0, bitloftlaw09_AdaptRange.l0, bitloftlaw09_AdaptRange.j2, bitloftlaw09_AdaptRange.j3, bitloftlaw09_AdaptRange.j4]))
  case rest =>
   (try (refine hKt_ _ _ ?_; clear hKt_; clear Kt_)); clear HC9
   try clear c1
   try clear c2
   try clear p2
   try clear q2
   try clear hx2
   try clear c3
   try clear p3
   try clear c4
   try clear c5
   try clear c13
   try clear c15
   try clear c18
   try clear c19
   try clear c20
   try clear c23
   try clear c23b0
   try clear c23b1
   try clear p23
   try clear q23
   try clear hx23
   try clear c24
   try clear c24b0
   try clear c24b1
   try clear p24
   try clear q24
   try clear hx24
   try clear c25
   try clear c25b0
   try clear c25b1
   try clear c27
   try clear c27b0
   try clear c27b1
   try clear c28
   try clear c28b0
   try clear c28b1
   try clear c29
   try clear c29b0
   try clear c30
   try clear c30b0
   try clear c31
   try clear c31b0
   try clear p32
   try clear c33
   try clear c33b0
   try clear c33b1
   try clear c34
   try clear c34b0
   try clear hcz11_0
   try clear hcz11_1
   try clear hcz11_2
   try clear hcz13_0
   try clear hcz13_1
   try clear hcz13_2
   try clear hcz15_0
   try clear hcz15_1
   try clear hcz15_2
   try clear hcz19_0
   try clear hcz19_1
   try clear hcz19_2
   try clear hfz11_0
   try clear hfz11_1
   try clear hfz11_2
   try clear hfz13_0
   try clear hfz13_1
   try clear hfz13_2
   try clear hfz15_0
   try clear hfz15_1
   try clear hfz15_2
   try clear hfz19_0
   try clear hfz19_1
   try clear hfz19_2
   try clear hx239_0
   try clear hx240_0
   try clear hx241_0
   try clear p239
   try clear p240
   try clear p241
   try clear q239
   try clear q240
   try clear q241
   obtain ⟨kq, x86_8, rfl, HA, HJ8, HO_236001, HO_236002, BK223, BK235, HB⟩ := hcut
   cases kq with
   | zero => exact absurd HA.out (by simp [bitloftlaw09_AdaptRange.j0])
   | succ kj8 =>
    have H := HA.out; clear HA; simp only [bitloftlaw09_AdaptRange.j0] at H
    by_cases c37 : x86_8 = true
    ·
     subst c37
     have H1 : (some false) = some r := by rw [if_pos rfl] at H; exact H
     clear H; have H := H1; clear H1; exact absurd (H.trans (congrArg some HRT_.out)) (by simp)
    ·
     replace c37 := Bool.eq_false_iff.mpr c37
     subst c37
     have H1 : (bitloftlaw09_AdaptRange.l0 kj8 a1 a2 t225 t236 0 a0_0 l0_1 l0_2 t227 t228 t231) = some r := by rw [if_neg (show ¬ (false = true) by decide)] at H; exact H
     clear H; have H := H1; clear H1; have H' := Aside0.mk H; clear H
     go_wp2
     go_loopg [13] kj8 (fun kq v13 w' => ∃ (x13_2 : Int), v13 = .int .i64 x13_2 ∧ Aside0 (bitloftlaw09_AdaptRange.l0 kq a1 a2 t225 t236 x13_2 a0_0 l0_1 l0_2 t227 t228 t231 = some r) ∧ Aside0 (kq ≤ kj8) ∧ Aside0 (Kd.R (Kd.int .i32) 21 w' w.heap.size (fun k_ => some k_ ≠ ((.slice Ao21 t231.length co21) : Value).ownBlock) (.slice Ao20 t228.length co20) t228) ∧ Aside0 (Kd.R (Kd.int .i32) 21 w' w.heap.size (fun k_ => some k_ ≠ ((.slice Ao20 t228.length co20) : Value).ownBlock) (.slice Ao21 t231.length co21) t231) ∧ Aside0 (w'.heap[gb223]? = some (.cells #[.int .i32 a0_0, (.slice A0_1 l0_1.length c0_1), (.slice A0_2 l0_2.length c0_2)] 24 (0, 0))) ∧ Aside0 (w'.heap[gb235]? = some (.cells #[.int .i32 t227, (.slice Ao20 t228.length co20), (.slice Ao21 t231.length co21)] 24 (0, 0))) ∧ Aside0 (Below w.heap.size w w'))
     case atStart => exact ⟨(0), (by first | rfl | (simp; done) | (simp [*]; done)), H', ⟨Nat.le_refl _⟩, ⟨pL_ HO_236001.out⟩, ⟨pL_ HO_236002.out⟩, ⟨pG_ BK223.out⟩, ⟨pG_ BK235.out⟩, ⟨pH_ HB.out⟩⟩
     case round =>
      clear H'
      try clear c1
      try clear c2
      try clear p2
      try clear q2
      try clear hx2
      try clear c3
      try clear p3
      try clear c4
      try clear c5
      try clear c13
      try clear c15
      try clear c18
      try clear c19
      try clear c20
      try clear c23
      try clear c23b0
      try clear c23b1
      try clear p23
      try clear q23
      try clear hx23
      try clear c24
      try clear c24b0
      try clear c24b1
      try clear p24
      try clear q24
      try clear hx24
      try clear c25
      try clear c25b0
      try clear c25b1
      try clear c27
      try clear c27b0
      try clear c27b1
      try clear c28
      try clear c28b0
      try clear c28b1
      try clear c29
      try clear c29b0
      try clear c30
      try clear c30b0
      try clear c31
      try clear c31b0
      try clear p32
      try clear c33
      try clear c33b0
      try clear c33b1
      try clear c34
      try clear c34b0
      try clear c37
      try clear hcz11_0
      try clear hcz11_1
      try clear hcz11_2
      try clear hcz13_0
      try clear hcz13_1
      try clear hcz13_2
      try clear hcz15_0
      try clear hcz15_1
      try clear hcz15_2
      try clear hcz19_0
      try clear hcz19_1
      try clear hcz19_2
      try clear hfz11_0
      try clear hfz11_1
      try clear hfz11_2
      try clear hfz13_0
      try clear hfz13_1
      try clear hfz13_2
      try clear hfz15_0
      try clear hfz15_1
      try clear hfz15_2
      try clear hfz19_0
      try clear hfz19_1
      try clear hfz19_2
      try clear hx239_0
      try clear hx240_0
      try clear hx241_0
      try clear p2
      try clear p23
      try clear p239
      try clear p24
      try clear p240
      try clear p241
      try clear p3
      try clear p32
      try clear q2
      try clear q23
      try clear q239
      try clear q24
      try clear q240
      try clear q241
      obtain ⟨x13_2, rfl, HA, HK2, HO_236001, HO_236002, BK223, BK235, HB⟩ := hrel
      cases gk with
      | zero => exact absurd HA.out (by simp [bitloftlaw09_AdaptRange.l0])
      | succ k2 =>
       have H := HA.out; clear HA; simp only [bitloftlaw09_AdaptRange.l0] at H
       by_cases c38 : x13_2 < 193
       ·
        rw [if_pos c38] at H; have c38b0 : decide (x13_2 < 193) = true := decide_eq_true c38; clear c38; have HC39 := Aside0.mk H; clear H
        go_upto_region 11 with (fail)
        (with_reducible first | refine then_id_ ?_ | (refine wp_tail_ ?_; intro Kt_ hKt_))
        go_cut [120] (fun v120 wc => ∃ (kq : Nat) (x120_38 : Bool), v120 = .bool x120_38 ∧ Aside0 (bitloftlaw09_AdaptRange.j2 kq a1 a2 t225 t236 x13_2 x120_38 a0_0 l0_1 l0_2 t227 t228 t231 = some r) ∧ Aside0 (kq ≤ k2) ∧ Aside0 (Kd.R (Kd.int .i32) 21 wc w.heap.size (fun k_ => some k_ ≠ ((.slice Ao21 t231.length co21) : Value).ownBlock) (.slice Ao20 t228.length co20) t228) ∧ Aside0 (Kd.R (Kd.int .i32) 21 wc w.heap.size (fun k_ => some k_ ≠ ((.slice Ao20 t228.length co20) : Value).ownBlock) (.slice Ao21 t231.length co21) t231) ∧ Aside0 (wc.heap[gb223]? = some (.cells #[.int .i32 a0_0, (.slice A0_1 l0_1.length c0_1), (.slice A0_2 l0_2.length c0_2)] 24 (0, 0))) ∧ Aside0 (wc.heap[gb235]? = some (.cells #[.int .i32 t227, (.slice Ao20 t228.length co20), (.slice Ao21 t231.length co21)] 24 (0, 0))) ∧ Aside0 (Below w.heap.size w wc))
        case first =>
         have H := HC39.out; clear HC39
         by_cases c40 : x13_2 = (wrap64 (a1))
         ·
          rw [if_pos c40] at H; have c40b0 : (x13_2 == (wrap64 (a1))) = true := beq_iff_eq.mpr c40; have c40b1 : (x13_2 != (wrap64 (a1))) = false := bne_eq_false_iff_eq.mpr c40; clear c40; (first | rw [c40b0] | (simp only [i64_w, i32_w]; rw [c40b0]) | skip); have H' := Aside0.mk H; clear H
          try go_wp2
          have n0_ := Aside0.mk (Kd.R_drew HO_236001.out); have n1_ := Aside0.mk (Kd.R_drew HO_236002.out); have n2_ := Aside0.mk (blk_drew BK223.out); have n3_ := Aside0.mk (blk_drew BK235.out); have n4_ := Aside0.mk (below_drew1 HB.out); clear HO_236001; clear HO_236002; clear BK223; clear BK235; clear HB; have HO_236001 := n0_; have HO_236002 := n1_; have BK223 := n2_; have BK235 := n3_; have HB := n4_; clear n0_ n1_ n2_ n3_ n4_; refine start_ (n := 30) (S := fun w' => True) (ds := []) #[f_, f_, f_, f_, f_, f_, f_, f_, f_, f_, f_, f_, f_, f_, f_, f_, f_, f_, f_, f_, f_, f_, f_, f_, f_, f_, f_, f_, f_, f_] (by kernel_rfl) rfl rfl trivial (fun hHeld => ?_); refine with_tabW bitloftlaw09_AdaptRange.tab11 bitloftlaw09_AdaptRange.bits11 (fun HT_ HW_ => ?_)
          generalize wr.drew = w41 at HO_236001 HO_236002 BK223 BK235 HB hHeld ⊢
          refine pure_ (i := 0) (N := some 91) (v := ?_) (a' := ?_) #[t_, f_, f_, f_, f_, f_, f_, f_, f_, f_, f_, f_, f_, f_, f_, f_, f_, f_, f_, f_, f_, f_, f_, f_, f_, f_, f_, f_, f_, f_] rfl rfl (any_of HT_.out (by kernel_rfl)) (fun _ _ _ h => h) (Or.inl ⟨by rfl, ?_⟩) ?_ ?_; rotate_left
          ·
           intro w'; go_simp
           with_reducible rfl
          rotate_left
          ·
           simp only [Act.put, sA_, sZ_, sS_, i64_w, i32_w]; rfl
          refine pure_ (i := 1) (N := some 92) (v := ?_) (a' := ?_) #[t_, t_, f_, f_, f_, f_, f_, f_, f_, f_, f_, f_, f_, f_, f_, f_, f_, f_, f_, f_, f_, f_, f_, f_, f_, f_, f_, f_, f_, f_] rfl rfl (any_of HT_.out (by kernel_rfl)) (fun _ _ _ h => h) (Or.inl ⟨by rfl, ?_⟩) ?_ ?_; rotate_left
          ·
           intro w'; go_simp
           with_reducible rfl
          rotate_left
          ·
           simp only [Act.put, sA_, sZ_, sS_, i64_w, i32_w]; rfl
          refine pure_ (i := 2) (N := some 93) (v := ?_) (a' := ?_) #[t_, t_, t_, f_, f_, f_, f_, f_, f_, f_, f_, f_, f_, f_, f_, f_, f_, f_, f_, f_, f_, f_, f_, f_, f_, f_, f_, f_, f_, f_] rfl rfl (any_of HT_.out (by kernel_rfl)) (fun _ _ _ h => h) (Or.inl ⟨by rfl, ?_⟩) ?_ ?_; rotate_left
          ·
           intro w'; go_simp
           with_reducible rfl
          rotate_left
          ·
           simp only [Act.put, sA_, sZ_, sS_, i64_w, i32_w]; rfl
          refine pure_ (i := 3) (N := some 94) (v := ?_) (a' := ?_) #[t_, t_, t_, t_, f_, f_, f_, f_, f_, f_, f_, f_, f_, f_, f_, f_, f_, f_, f_, f_, f_, f_, f_, f_, f_, f_, f_, f_, f_, f_] rfl rfl (any_of HT_.out (by kernel_rfl)) (fun _ _ _ h => h) (Or.inl ⟨by rfl, ?_⟩) ?_ ?_; rotate_left
          ·
           intro w'; go_simp
           with_reducible rfl
          rotate_left
          ·
           simp only [Act.put, sA_, sZ_, sS_, i64_w, i32_w]; rfl
          refine pure_ (i := 4) (N := some 95) (v := ?_) (a' := ?_) #[t_, t_, t_, t_, t_, f_, f_, f_, f_, f_, f_, f_, f_, f_, f_, f_, f_, f_, f_, f_, f_, f_, f_, f_, f_, f_, f_, f_, f_, f_] rfl rfl (any_of HT_.out (by kernel_rfl)) (fun _ _ _ h => h) (Or.inl ⟨by rfl, ?_⟩) ?_ ?_; rotate_left
          ·
           intro w'; go_simp
           with_reducible rfl
          rotate_left
          ·
           simp only [Act.put, sA_, sZ_, sS_, i64_w, i32_w]; rfl
          refine pure_ (i := 5) (N := some 96) (v := undef) (a' := ?_) #[t_, t_, t_, t_, t_, t_, f_, f_, f_, f_, f_, f_, f_, f_, f_, f_, f_, f_, f_, f_, f_, f_, f_, f_, f_, f_, f_, f_, f_, f_] rfl rfl (any_of HT_.out (by kernel_rfl)) (fun _ _ _ h => h) (Or.inr ⟨by rfl, rfl⟩) ?_ ?_; rotate_left
          ·
           simp only [Act.put, sA_, sZ_, sS_, i64_w, i32_w]; rfl
          refine pure_ (i := 6) (N := some 97) (v := undef) (a' := ?_) #[t_, t_, t_, t_, t_, t_, t_, f_, f_, f_, f_, f_, f_, f_, f_, f_, f_, f_, f_, f_, f_, f_, f_, f_, f_, f_, f_, f_, f_, f_] rfl rfl (any_of HT_.out (by kernel_rfl)) (fun _ _ _ h => h) (Or.inr ⟨by rfl, rfl⟩) ?_ ?_; rotate_left
          ·
           simp only [Act.put, sA_, sZ_, sS_, i64_w, i32_w]; rfl
          refine pure_ (i := 7) (N := some 98) (v := undef) (a' := ?_) #[t_, t_, t_, t_, t_, t_, t_, t_, f_, f_, f_, f_, f_, f_, f_, f_, f_, f_, f_, f_, f_, f_, f_, f_, f_, f_, f_, f_, f_, f_] rfl rfl (any_of HT_.out (by kernel_rfl)) (fun _ _ _ h => h) (Or.inr ⟨by rfl, rfl⟩) ?_ ?_; rotate_left
          ·
           simp only [Act.put, sA_, sZ_, sS_, i64_w, i32_w]; rfl
          refine pure_ (i := 8) (N := some 99) (v := undef) (a' := ?_) #[t_, t_, t_, t_, t_, t_, t_, t_, t_, f_, f_, f_, f_, f_, f_, f_, f_, f_, f_, f_, f_, f_, f_, f_, f_, f_, f_, f_, f_, f_] rfl rfl (any_of HT_.out (by kernel_rfl)) (fun _ _ _ h => h) (Or.inr ⟨by rfl, rfl⟩) ?_ ?_; rotate_left
          ·
           simp only [Act.put, sA_, sZ_, sS_, i64_w, i32_w]; rfl
          refine pure_ (i := 9) (N := some 100) (v := undef) (a' := ?_) #[t_, t_, t_, t_, t_, t_, t_, t_, t_, t_, f_, f_, f_, f_, f_, f_, f_, f_, f_, f_, f_, f_, f_, f_, f_, f_, f_, f_, f_, f_] rfl rfl (any_of HT_.out (by kernel_rfl)) (fun _ _ _ h => h) (Or.inr ⟨by rfl, rfl⟩) ?_ ?_; rotate_left
          ·
           simp only [Act.put, sA_, sZ_, sS_, i64_w, i32_w]; rfl
          refine pure_ (i := 10) (N := some 101) (v := undef) (a' := ?_) #[t_, t_, t_, t_, t_, t_, t_, t_, t_, t_, t_, f_, f_, f_, f_, f_, f_, f_, f_, f_, f_, f_, f_, f_, f_, f_, f_, f_, f_, f_] rfl rfl (any_of HT_.out (by kernel_rfl)) (fun _ _ _ h => h) (Or.inr ⟨by rfl, rfl⟩) ?_ ?_; rotate_left
          ·
           simp only [Act.put, sA_, sZ_, sS_, i64_w, i32_w]; rfl
          refine pure_ (i := 11) (N := some 102) (v := undef) (a' := ?_) #[t_, t_, t_, t_, t_, t_, t_, t_, t_, t_, t_, t_, f_, f_, f_, f_, f_, f_, f_, f_, f_, f_, f_, f_, f_, f_, f_, f_, f_, f_] rfl rfl (any_of HT_.out (by kernel_rfl)) (fun _ _ _ h => h) (Or.inr ⟨by rfl, rfl⟩) ?_ ?_; rotate_left
          ·
           simp only [Act.put, sA_, sZ_, sS_, i64_w, i32_w]; rfl
          refine pure_ (i := 12) (N := some 103) (v := undef) (a' := ?_) #[t_, t_, t_, t_, t_, t_, t_, t_, t_, t_, t_, t_, t_, f_, f_, f_, f_, f_, f_, f_, f_, f_, f_, f_, f_, f_, f_, f_, f_, f_] rfl rfl (any_of HT_.out (by kernel_rfl)) (fun _ _ _ h => h) (Or.inr ⟨by rfl, rfl⟩) ?_ ?_; rotate_left
          ·
           simp only [Act.put, sA_, sZ_, sS_, i64_w, i32_w]; rfl
          refine pure_ (i := 13) (N := some 104) (v := undef) (a' := ?_) #[t_, t_, t_, t_, t_, t_, t_, t_, t_, t_, t_, t_, t_, t_, f_, f_, f_, f_, f_, f_, f_, f_, f_, f_, f_, f_, f_, f_, f_, f_] rfl rfl (any_of HT_.out (by kernel_rfl)) (fun _ _ _ h => h) (Or.inr ⟨by rfl, rfl⟩) ?_ ?_; rotate_left
          ·
           simp only [Act.put, sA_, sZ_, sS_, i64_w, i32_w]; rfl
          refine pure_ (i := 14) (N := some 105) (v := undef) (a' := ?_) #[t_, t_, t_, t_, t_, t_, t_, t_, t_, t_, t_, t_, t_, t_, t_, f_, f_, f_, f_, f_, f_, f_, f_, f_, f_, f_, f_, f_, f_, f_] rfl rfl (any_of HT_.out (by kernel_rfl)) (fun _ _ _ h => h) (Or.inr ⟨by rfl, rfl⟩) ?_ ?_; rotate_left
          ·
           simp only [Act.put, sA_, sZ_, sS_, i64_w, i32_w]; rfl
          refine pure_ (i := 15) (N := some 106) (v := undef) (a' := ?_) #[t_, t_, t_, t_, t_, t_, t_, t_, t_, t_, t_, t_, t_, t_, t_, t_, f_, f_, f_, f_, f_, f_, f_, f_, f_, f_, f_, f_, f_, f_] rfl rfl (any_of HT_.out (by kernel_rfl)) (fun _ _ _ h => h) (Or.inr ⟨by rfl, rfl⟩) ?_ ?_; rotate_left
          ·
           simp only [Act.put, sA_, sZ_, sS_, i64_w, i32_w]; rfl
          refine pure_ (i := 16) (N := some 107) (v := undef) (a' := ?_) #[t_, t_, t_, t_, t_, t_, t_, t_, t_, t_, t_, t_, t_, t_, t_, t_, t_, f_, f_, f_, f_, f_, f_, f_, f_, f_, f_, f_, f_, f_] rfl rfl (any_of HT_.out (by kernel_rfl)) (fun _ _ _ h => h) (Or.inr ⟨by rfl, rfl⟩) ?_ ?_; rotate_left
          ·
           simp only [Act.put, sA_, sZ_, sS_, i64_w, i32_w]; rfl
          refine pure_ (i := 17) (N := some 108) (v := undef) (a' := ?_) #[t_, t_, t_, t_, t_, t_, t_, t_, t_, t_, t_, t_, t_, t_, t_, t_, t_, t_, f_, f_, f_, f_, f_, f_, f_, f_, f_, f_, f_, f_] rfl rfl (any_of HT_.out (by kernel_rfl)) (fun _ _ _ h => h) (Or.inr ⟨by rfl, rfl⟩) ?_ ?_; rotate_left
          ·
           simp only [Act.put, sA_, sZ_, sS_, i64_w, i32_w]; rfl
          refine pure_ (i := 18) (N := some 109) (v := undef) (a' := ?_) #[t_, t_, t_, t_, t_, t_, t_, t_, t_, t_, t_, t_, t_, t_, t_, t_, t_, t_, t_, f_, f_, f_, f_, f_, f_, f_, f_, f_, f_, f_] rfl rfl (any_of HT_.out (by kernel_rfl)) (fun _ _ _ h => h) (Or.inr ⟨by rfl, rfl⟩) ?_ ?_; rotate_left
          ·
           simp only [Act.put, sA_, sZ_, sS_, i64_w, i32_w]; rfl
          refine pure_ (i := 19) (N := some 110) (v := undef) (a' := ?_) #[t_, t_, t_, t_, t_, t_, t_, t_, t_, t_, t_, t_, t_, t_, t_, t_, t_, t_, t_, t_, f_, f_, f_, f_, f_, f_, f_, f_, f_, f_] rfl rfl (any_of HT_.out (by kernel_rfl)) (fun _ _ _ h => h) (Or.inr ⟨by rfl, rfl⟩) ?_ ?_; rotate_left
          ·
           simp only [Act.put, sA_, sZ_, sS_, i64_w, i32_w]; rfl
          refine pure_ (i := 20) (N := some 111) (v := undef) (a' := ?_) #[t_, t_, t_, t_, t_, t_, t_, t_, t_, t_, t_, t_, t_, t_, t_, t_, t_, t_, t_, t_, t_, f_, f_, f_, f_, f_, f_, f_, f_, f_] rfl rfl (any_of HT_.out (by kernel_rfl)) (fun _ _ _ h => h) (Or.inr ⟨by rfl, rfl⟩) ?_ ?_; rotate_left
          ·
           simp only [Act.put, sA_, sZ_, sS_, i64_w, i32_w]; rfl
          refine pure_ (i := 21) (N := some 112) (v := undef) (a' := ?_) #[t_, t_, t_, t_, t_, t_, t_, t_, t_, t_, t_, t_, t_, t_, t_, t_, t_, t_, t_, t_, t_, t_, f_, f_, f_, f_, f_, f_, f_, f_] rfl rfl (any_of HT_.out (by kernel_rfl)) (fun _ _ _ h => h) (Or.inr ⟨by rfl, rfl⟩) ?_ ?_; rotate_left
          ·
           simp only [Act.put, sA_, sZ_, sS_, i64_w, i32_w]; rfl
          refine pure_ (i := 22) (N := some 113) (v := undef) (a' := ?_) #[t_, t_, t_, t_, t_, t_, t_, t_, t_, t_, t_, t_, t_, t_, t_, t_, t_, t_, t_, t_, t_, t_, t_, f_, f_, f_, f_, f_, f_, f_] rfl rfl (any_of HT_.out (by kernel_rfl)) (fun _ _ _ h => h) (Or.inr ⟨by rfl, rfl⟩) ?_ ?_; rotate_left
          ·
           simp only [Act.put, sA_, sZ_, sS_, i64_w, i32_w]; rfl
          refine pure_ (i := 23) (N := some 114) (v := undef) (a' := ?_) #[t_, t_, t_, t_, t_, t_, t_, t_, t_, t_, t_, t_, t_, t_, t_, t_, t_, t_, t_, t_, t_, t_, t_, t_, f_, f_, f_, f_, f_, f_] rfl rfl (any_of HT_.out (by kernel_rfl)) (fun _ _ _ h => h) (Or.inr ⟨by rfl, rfl⟩) ?_ ?_; rotate_left
          ·
           simp only [Act.put, sA_, sZ_, sS_, i64_w, i32_w]; rfl
          refine pure_ (i := 24) (N := some 115) (v := undef) (a' := ?_) #[t_, t_, t_, t_, t_, t_, t_, t_, t_, t_, t_, t_, t_, t_, t_, t_, t_, t_, t_, t_, t_, t_, t_, t_, t_, f_, f_, f_, f_, f_] rfl rfl (any_of HT_.out (by kernel_rfl)) (fun _ _ _ h => h) (Or.inr ⟨by rfl, rfl⟩) ?_ ?_; rotate_left
          ·
           simp only [Act.put, sA_, sZ_, sS_, i64_w, i32_w]; rfl
          refine pure_ (i := 25) (N := some 116) (v := undef) (a' := ?_) #[t_, t_, t_, t_, t_, t_, t_, t_, t_, t_, t_, t_, t_, t_, t_, t_, t_, t_, t_, t_, t_, t_, t_, t_, t_, t_, f_, f_, f_, f_] rfl rfl (any_of HT_.out (by kernel_rfl)) (fun _ _ _ h => h) (Or.inr ⟨by rfl, rfl⟩) ?_ ?_; rotate_left
          ·
           simp only [Act.put, sA_, sZ_, sS_, i64_w, i32_w]; rfl
          refine pure_ (i := 26) (N := some 117) (v := undef) (a' := ?_) #[t_, t_, t_, t_, t_, t_, t_, t_, t_, t_, t_, t_, t_, t_, t_, t_, t_, t_, t_, t_, t_, t_, t_, t_, t_, t_, t_, f_, f_, f_] rfl rfl (any_of HT_.out (by kernel_rfl)) (fun _ _ _ h => h) (Or.inr ⟨by rfl, rfl⟩) ?_ ?_; rotate_left
          ·
           simp only [Act.put, sA_, sZ_, sS_, i64_w, i32_w]; rfl
          refine pure_ (i := 27) (N := some 118) (v := undef) (a' := ?_) #[t_, t_, t_, t_, t_, t_, t_, t_, t_, t_, t_, t_, t_, t_, t_, t_, t_, t_, t_, t_, t_, t_, t_, t_, t_, t_, t_, t_, f_, f_] rfl rfl (any_of HT_.out (by kernel_rfl)) (fun _ _ _ h => h) (Or.inr ⟨by rfl, rfl⟩) ?_ ?_; rotate_left
          ·
           simp only [Act.put, sA_, sZ_, sS_, i64_w, i32_w]; rfl
          refine pure_ (i := 28) (N := some 119) (v := undef) (a' := ?_) #[t_, t_, t_, t_, t_, t_, t_, t_, t_, t_, t_, t_, t_, t_, t_, t_, t_, t_, t_, t_, t_, t_, t_, t_, t_, t_, t_, t_, t_, f_] rfl rfl (any_of HT_.out (by kernel_rfl)) (fun _ _ _ h => h) (Or.inr ⟨by rfl, rfl⟩) ?_ ?_; rotate_left
          ·
           simp only [Act.put, sA_, sZ_, sS_, i64_w, i32_w]; rfl
          refine pure_ (i := 29) (N := some 120) (v := ?_) (a' := ?_) #[t_, t_, t_, t_, t_, t_, t_, t_, t_, t_, t_, t_, t_, t_, t_, t_, t_, t_, t_, t_, t_, t_, t_, t_, t_, t_, t_, t_, t_, t_] rfl rfl (any_of HT_.out (by kernel_rfl)) (fun _ _ _ h => h) (Or.inl ⟨by rfl, ?_⟩) ?_ ?_; rotate_left
          ·
           intro w'; go_simp
           with_reducible rfl
          rotate_left
          ·
           simp only [Act.put, sA_, sZ_, sS_, i64_w, i32_w]; rfl
          refine done_ (done_of HT_.out (by kernel_rfl)) ?_
          try go_wp2
          (first | go_meet | (refine Met.intro ?_; go_step; (repeat apply Exists.intro); refine ⟨?rel, ?eqf_⟩; case eqf_ => ((simp only [c40b0, c38b0]) <;> rfl)))
          case rel => exact ⟨_, (false), (by first | rfl | (simp; done) | (simp [*]; done)), H', ⟨by have := HJ8.out; have := HK2.out; first | omega | exact Nat.le_refl _⟩, ⟨pL_ HO_236001.out⟩, ⟨pL_ HO_236002.out⟩, ⟨pG_ BK223.out⟩, ⟨pG_ BK235.out⟩, ⟨pH_ HB.out⟩⟩
         ·
          rw [if_neg c40] at H; have c40b0 : (x13_2 == (wrap64 (a1))) = false := beq_eq_false_iff_ne.mpr c40; have c40b1 : (x13_2 != (wrap64 (a1))) = true := bne_iff_ne.mpr c40; (first | rw [c40b0] | (simp only [i64_w, i32_w]; rw [c40b0]) | skip)
          by_cases c42 : 0 ≤ x13_2
          ·
           rw [if_pos c42] at H; have c42b0 : decide (0 ≤ x13_2) = true := decide_eq_true c42; clear c42
           by_cases c43 : x13_2 < (t228.length : Int)
           ·
            rw [if_pos c43] at H; have c43b0 : decide (x13_2 < (t228.length : Int)) = true := decide_eq_true c43; clear c43
            by_cases c44 : x13_2 < (l0_1.length : Int)
            ·
             rw [if_pos c44] at H; have c44b0 : decide (x13_2 < (l0_1.length : Int)) = true := decide_eq_true c44; clear c44
             by_cases c45 : (rd t228 x13_2) = (rd l0_1 x13_2)
             ·
              rw [if_pos c45] at H; have c45b0 : ((rd t228 x13_2) == (rd l0_1 x13_2)) = true := beq_iff_eq.mpr c45; have c45b1 : ((rd t228 x13_2) != (rd l0_1 x13_2)) = false := bne_eq_false_iff_eq.mpr c45; clear c45
              by_cases c46 : x13_2 < (t231.length : Int)
              ·
               rw [if_pos c46] at H; have c46b0 : decide (x13_2 < (t231.length : Int)) = true := decide_eq_true c46; clear c46
               by_cases c47 : x13_2 < (l0_2.length : Int)
               ·
                rw [if_pos c47] at H; have c47b0 : decide (x13_2 < (l0_2.length : Int)) = true := decide_eq_true c47; clear c47; have H' := Aside0.mk H; clear H
                try go_wp2
                have n0_ := Aside0.mk (Kd.R_drew HO_236001.out); have n1_ := Aside0.mk (Kd.R_drew HO_236002.out); have n2_ := Aside0.mk (blk_drew BK223.out); have n3_ := Aside0.mk (blk_drew BK235.out); have n4_ := Aside0.mk (below_drew1 HB.out); clear HO_236001; clear HO_236002; clear BK223; clear BK235; clear HB; have HO_236001 := n0_; have HO_236002 := n1_; have BK223 := n2_; have BK235 := n3_; have HB := n4_; clear n0_ n1_ n2_ n3_ n4_; have p242 : 0 ≤ (x13_2 : Int) := of_decide_eq_true (by first | (with_reducible assumption) | assumption); have q242 : x13_2 < (t228.length : Int) := of_decide_eq_true (by first | (with_reducible assumption) | assumption); obtain ⟨ad242, e242, hx242_0⟩ := Kd.at_int (Kd.R_reads' HO_236001.out).2.2 x13_2 p242 q242
                cases e242
                replace p242 := eq_true p242; replace q242 := eq_true q242; have p243 : 0 ≤ (x13_2 : Int) := of_decide_eq_true (by first | (with_reducible assumption) | assumption); have q243 : x13_2 < (l0_1.length : Int) := of_decide_eq_true (by first | (with_reducible assumption) | assumption); obtain ⟨ad243, e243, hx243_0⟩ := Kd.at_int HR0_1.out x13_2 p243 q243; have hw243_0 := hx243_0
                cases e243
                replace hx243_0 := (HB.out.cell (World.block_lt_of_cell? w _ hx243_0)).trans hx243_0; replace p243 := eq_true p243; replace q243 := eq_true q243; have p244 : 0 ≤ (x13_2 : Int) := of_decide_eq_true (by first | (with_reducible assumption) | assumption); have q244 : x13_2 < (t231.length : Int) := of_decide_eq_true (by first | (with_reducible assumption) | assumption); obtain ⟨ad244, e244, hx244_0⟩ := Kd.at_int (Kd.R_reads' HO_236002.out).2.2 x13_2 p244 q244
                cases e244
                replace p244 := eq_true p244; replace q244 := eq_true q244; have p245 : 0 ≤ (x13_2 : Int) := of_decide_eq_true (by first | (with_reducible assumption) | assumption); have q245 : x13_2 < (l0_2.length : Int) := of_decide_eq_true (by first | (with_reducible assumption) | assumption); obtain ⟨ad245, e245, hx245_0⟩ := Kd.at_int HR0_2.out x13_2 p245 q245; have hw245_0 := hx245_0
                cases e245
                replace hx245_0 := (HB.out.cell (World.block_lt_of_cell? w _ hx245_0)).trans hx245_0; replace p245 := eq_true p245; replace q245 := eq_true q245; refine start_ (n := 30) (S := fun w' => w'.cell? ⟨gb235, 0, none⟩ = some (.int .i32 t227) ∧ w'.cell? ⟨gb235, 1, none⟩ = some (.slice (some ad242) t228.length co20) ∧ w'.cell? ⟨gb235, 2, none⟩ = some (.slice (some ad244) t231.length co21) ∧ w'.cell? ⟨gb223, 0, none⟩ = some (.int .i32 a0_0) ∧ w'.cell? ⟨gb223, 1, none⟩ = some (.slice (some ad243) l0_1.length c0_1) ∧ w'.cell? ⟨gb223, 2, none⟩ = some (.slice (some ad245) l0_2.length c0_2) ∧ w'.cell? (ad242.add (x13_2).toNat) = some (.int .i32 (rd t228 x13_2)) ∧ w'.cell? (ad243.add (x13_2).toNat) = some (.int .i32 (rd l0_1 x13_2)) ∧ w'.cell? (ad244.add (x13_2).toNat) = some (.int .i32 (rd t231 x13_2)) ∧ w'.cell? (ad245.add (x13_2).toNat) = some (.int .i32 (rd l0_2 x13_2))) (ds := []) #[f_, f_, f_, f_, f_, f_, f_, f_, f_, f_, f_, f_, f_, f_, f_, f_, f_, f_, f_, f_, f_, f_, f_, f_, f_, f_, f_, f_, f_, f_] (by kernel_rfl) rfl rfl ⟨(blk_cell BK235.out 0).trans rfl, (blk_cell BK235.out 1).trans rfl, (blk_cell BK235.out 2).trans rfl, (blk_cell BK223.out 0).trans rfl, (blk_cell BK223.out 1).trans rfl, (blk_cell BK223.out 2).trans rfl, hx242_0, ((HB.out.cell (World.block_lt_of_cell? w _ hw243_0)).trans hw243_0), hx244_0, ((HB.out.cell (World.block_lt_of_cell? w _ hw245_0)).trans hw245_0)⟩ (fun hHeld => ?_); refine with_tabW bitloftlaw09_AdaptRange.tab11 bitloftlaw09_AdaptRange.bits11 (fun HT_ HW_ => ?_)
                generalize wr.drew = w48 at HO_236001 HO_236002 BK223 BK235 HB hx242_0 hx243_0 hx244_0 hx245_0 hHeld ⊢
                refine pure_ (i := 0) (N := some 91) (v := ?_) (a' := ?_) #[t_, f_, f_, f_, f_, f_, f_, f_, f_, f_, f_, f_, f_, f_, f_, f_, f_, f_, f_, f_, f_, f_, f_, f_, f_, f_, f_, f_, f_, f_] rfl rfl (any_of HT_.out (by kernel_rfl)) (fun _ _ _ h => h) (Or.inl ⟨by rfl, ?_⟩) ?_ ?_; rotate_left
                ·
                 intro w'; go_simp
                 with_reducible rfl
                rotate_left
                ·
                 simp only [Act.put, sA_, sZ_, sS_, i64_w, i32_w]; rfl
                refine pure_ (i := 1) (N := some 92) (v := ?_) (a' := ?_) #[t_, t_, f_, f_, f_, f_, f_, f_, f_, f_, f_, f_, f_, f_, f_, f_, f_, f_, f_, f_, f_, f_, f_, f_, f_, f_, f_, f_, f_, f_] rfl rfl (any_of HT_.out (by kernel_rfl)) (fun _ _ _ h => h) (Or.inl ⟨by rfl, ?_⟩) ?_ ?_; rotate_left
                ·
                 intro w'; go_simp
                 with_reducible rfl
                rotate_left
                ·
                 simp only [Act.put, sA_, sZ_, sS_, i64_w, i32_w]; rfl
                refine pure_ (i := 2) (N := some 93) (v := ?_) (a' := ?_) #[t_, t_, t_, f_, f_, f_, f_, f_, f_, f_, f_, f_, f_, f_, f_, f_, f_, f_, f_, f_, f_, f_, f_, f_, f_, f_, f_, f_, f_, f_] rfl rfl (any_of HT_.out (by kernel_rfl)) (fun _ _ _ h => h) (Or.inl ⟨by rfl, ?_⟩) ?_ ?_; rotate_left
                ·
                 intro w'; go_simp
                 with_reducible rfl
                rotate_left
                ·
                 simp only [Act.put, sA_, sZ_, sS_, i64_w, i32_w]; rfl
                refine pure_ (i := 3) (N := some 94) (v := ?_) (a' := ?_) #[t_, t_, t_, t_, f_, f_, f_, f_, f_, f_, f_, f_, f_, f_, f_, f_, f_, f_, f_, f_, f_, f_, f_, f_, f_, f_, f_, f_, f_, f_] rfl rfl (any_of HT_.out (by kernel_rfl)) (fun _ _ _ h => h) (Or.inl ⟨by rfl, ?_⟩) ?_ ?_; rotate_left
                ·
                 intro w'; go_simp
                 with_reducible rfl
                rotate_left
                ·
                 simp only [Act.put, sA_, sZ_, sS_, i64_w, i32_w]; rfl
                refine pure_ (i := 4) (N := some 95) (v := ?_) (a' := ?_) #[t_, t_, t_, t_, t_, f_, f_, f_, f_, f_, f_, f_, f_, f_, f_, f_, f_, f_, f_, f_, f_, f_, f_, f_, f_, f_, f_, f_, f_, f_] rfl rfl (any_of HT_.out (by kernel_rfl)) (fun _ _ _ h => h) (Or.inl ⟨by rfl, ?_⟩) ?_ ?_; rotate_left
                ·
                 intro w'; go_simp
                 with_reducible rfl
                rotate_left
                ·
                 simp only [Act.put, sA_, sZ_, sS_, i64_w, i32_w]; rfl
                refine pure_ (i := 5) (N := some 96) (v := ?_) (a' := ?_) #[t_, t_, t_, t_, t_, t_, f_, f_, f_, f_, f_, f_, f_, f_, f_, f_, f_, f_, f_, f_, f_, f_, f_, f_, f_, f_, f_, f_, f_, f_] rfl rfl (any_of HT_.out (by kernel_rfl)) (fun _ _ _ h => h) (Or.inl ⟨by rfl, ?_⟩) ?_ ?_; rotate_left
                ·
                 intro w'; go_simp
                 with_reducible rfl
                rotate_left
                ·
                 simp only [Act.put, sA_, sZ_, sS_, i64_w, i32_w]; rfl
                refine pure_ (i := 7) (N := some 98) (v := ?_) (a' := ?_) #[t_, t_, t_, t_, t_, t_, f_, t_, f_, f_, f_, f_, f_, f_, f_, f_, f_, f_, f_, f_, f_, f_, f_, f_, f_, f_, f_, f_, f_, f_] rfl rfl (any_of HT_.out (by kernel_rfl)) (fun _ _ _ h => h) (Or.inl ⟨by rfl, ?_⟩) ?_ ?_; rotate_left
                ·
                 intro w'; go_simp
                 with_reducible rfl
                rotate_left
                ·
                 simp only [Act.put, sA_, sZ_, sS_, i64_w, i32_w]; rfl
                refine pure_ (i := 10) (N := some 101) (v := ?_) (a' := ?_) #[t_, t_, t_, t_, t_, t_, f_, t_, f_, f_, t_, f_, f_, f_, f_, f_, f_, f_, f_, f_, f_, f_, f_, f_, f_, f_, f_, f_, f_, f_] rfl rfl (any_of HT_.out (by kernel_rfl)) (fun _ _ _ h => h) (Or.inl ⟨by rfl, ?_⟩) ?_ ?_; rotate_left
                ·
                 intro w'; go_simp
                 with_reducible rfl
                rotate_left
                ·
                 simp only [Act.put, sA_, sZ_, sS_, i64_w, i32_w]; rfl
                refine pure_ (i := 12) (N := some 103) (v := ?_) (a' := ?_) #[t_, t_, t_, t_, t_, t_, f_, t_, f_, f_, t_, f_, t_, f_, f_, f_, f_, f_, f_, f_, f_, f_, f_, f_, f_, f_, f_, f_, f_, f_] rfl rfl (any_of HT_.out (by kernel_rfl)) (fun _ _ _ h => h) (Or.inl ⟨by rfl, ?_⟩) ?_ ?_; rotate_left
                ·
                 intro w'; go_simp
                 with_reducible rfl
                rotate_left
                ·
                 simp only [Act.put, sA_, sZ_, sS_, i64_w, i32_w]; rfl
                refine take_ (i := 6) (N := some 97) (v := ?_) (a' := ?_) #[t_, t_, t_, t_, t_, t_, t_, t_, f_, f_, t_, f_, t_, f_, f_, f_, f_, f_, f_, f_, f_, f_, f_, f_, f_, f_, f_, f_, f_, f_] rfl rfl (take_ofW HT_.out HW_.out (by kernel_rfl)) (fun _ _ _ h => h) (Or.inl ⟨by rfl, ?_⟩) hHeld ?_ ?_; rotate_left
                ·
                 rintro w' ⟨s0, s1, s2, s3, s4, s5, s6, s7, s8, s9⟩
                 go_simp
                 with_reducible rfl
                rotate_left
                ·
                 simp only [Act.put, sA_, sZ_, sS_, i64_w, i32_w]; rfl
                refine pure_ (i := 8) (N := some 99) (v := ?_) (a' := ?_) #[t_, t_, t_, t_, t_, t_, t_, t_, t_, f_, t_, f_, t_, f_, f_, f_, f_, f_, f_, f_, f_, f_, f_, f_, f_, f_, f_, f_, f_, f_] rfl rfl (any_of HT_.out (by kernel_rfl)) (fun _ _ _ h => h) (Or.inl ⟨by rfl, ?_⟩) ?_ ?_; rotate_left
                ·
                 intro w'; go_simp
                 with_reducible rfl
                rotate_left
                ·
                 simp only [Act.put, sA_, sZ_, sS_, i64_w, i32_w]; rfl
                refine take_ (i := 9) (N := some 100) (v := ?_) (a' := ?_) #[t_, t_, t_, t_, t_, t_, t_, t_, t_, t_, t_, f_, t_, f_, f_, f_, f_, f_, f_, f_, f_, f_, f_, f_, f_, f_, f_, f_, f_, f_] rfl rfl (take_ofW HT_.out HW_.out (by kernel_rfl)) (fun _ _ _ h => h) (Or.inl ⟨by rfl, ?_⟩) hHeld ?_ ?_; rotate_left
                ·
                 rintro w' ⟨s0, s1, s2, s3, s4, s5, s6, s7, s8, s9⟩
                 go_simp
                 with_reducible rfl
                rotate_left
                ·
                 simp only [Act.put, sA_, sZ_, sS_, i64_w, i32_w]; rfl
                refine take_ (i := 11) (N := some 102) (v := ?_) (a' := ?_) #[t_, t_, t_, t_, t_, t_, t_, t_, t_, t_, t_, t_, t_, f_, f_, f_, f_, f_, f_, f_, f_, f_, f_, f_, f_, f_, f_, f_, f_, f_] rfl rfl (take_ofW HT_.out HW_.out (by kernel_rfl)) (fun _ _ _ h => h) (Or.inl ⟨by rfl, ?_⟩) hHeld ?_ ?_; rotate_left
                ·
                 rintro w' ⟨s0, s1, s2, s3, s4, s5, s6, s7, s8, s9⟩
                 go_simp
                 with_reducible rfl
                rotate_left
                ·
                 simp only [Act.put, sA_, sZ_, sS_, i64_w, i32_w]; rfl
                refine pure_ (i := 13) (N := some 104) (v := ?_) (a' := ?_) #[t_, t_, t_, t_, t_, t_, t_, t_, t_, t_, t_, t_, t_, t_, f_, f_, f_, f_, f_, f_, f_, f_, f_, f_, f_, f_, f_, f_, f_, f_] rfl rfl (any_of HT_.out (by kernel_rfl)) (fun _ _ _ h => h) (Or.inl ⟨by rfl, ?_⟩) ?_ ?_; rotate_left
                ·
                 intro w'; go_simp
                 with_reducible rfl
                rotate_left
                ·
                 simp only [Act.put, sA_, sZ_, sS_, i64_w, i32_w]; rfl
                refine take_ (i := 14) (N := some 105) (v := ?_) (a' := ?_) #[t_, t_, t_, t_, t_, t_, t_, t_, t_, t_, t_, t_, t_, t_, t_, f_, f_, f_, f_, f_, f_, f_, f_, f_, f_, f_, f_, f_, f_, f_] rfl rfl (take_ofW HT_.out HW_.out (by kernel_rfl)) (fun _ _ _ h => h) (Or.inl ⟨by rfl, ?_⟩) hHeld ?_ ?_; rotate_left
                ·
                 rintro w' ⟨s0, s1, s2, s3, s4, s5, s6, s7, s8, s9⟩
                 go_simp
                 with_reducible rfl
                rotate_left
                ·
                 simp only [Act.put, sA_, sZ_, sS_, i64_w, i32_w]; rfl
                refine pure_ (i := 15) (N := some 106) (v := ?_) (a' := ?_) #[t_, t_, t_, t_, t_, t_, t_, t_, t_, t_, t_, t_, t_, t_, t_, t_, f_, f_, f_, f_, f_, f_, f_, f_, f_, f_, f_, f_, f_, f_] rfl rfl (any_of HT_.out (by kernel_rfl)) (fun _ _ _ h => h) (Or.inl ⟨by rfl, ?_⟩) ?_ ?_; rotate_left
                ·
                 intro w'; go_simp
                 with_reducible rfl
                rotate_left
                ·
                 simp only [Act.put, sA_, sZ_, sS_, i64_w, i32_w]; rfl
                refine pure_ (i := 16) (N := some 107) (v := ?_) (a' := ?_) #[t_, t_, t_, t_, t_, t_, t_, t_, t_, t_, t_, t_, t_, t_, t_, t_, t_, f_, f_, f_, f_, f_, f_, f_, f_, f_, f_, f_, f_, f_] rfl rfl (any_of HT_.out (by kernel_rfl)) (fun _ _ _ h => h) (Or.inl ⟨by rfl, ?_⟩) ?_ ?_; rotate_left
                ·
                 intro w'; go_simp
                 with_reducible rfl
                rotate_left
                ·
                 simp only [Act.put, sA_, sZ_, sS_, i64_w, i32_w]; rfl
                refine pure_ (i := 17) (N := some 108) (v := ?_) (a' := ?_) #[t_, t_, t_, t_, t_, t_, t_, t_, t_, t_, t_, t_, t_, t_, t_, t_, t_, t_, f_, f_, f_, f_, f_, f_, f_, f_, f_, f_, f_, f_] rfl rfl (any_of HT_.out (by kernel_rfl)) (fun _ _ _ h => h) (Or.inl ⟨by rfl, ?_⟩) ?_ ?_; rotate_left
                ·
                 intro w'; go_simp
                 with_reducible rfl
                rotate_left
                ·
                 simp only [Act.put, sA_, sZ_, sS_, i64_w, i32_w]; rfl
                refine pure_ (i := 19) (N := some 110) (v := ?_) (a' := ?_) #[t_, t_, t_, t_, t_, t_, t_, t_, t_, t_, t_, t_, t_, t_, t_, t_, t_, t_, f_, t_, f_, f_, f_, f_, f_, f_, f_, f_, f_, f_] rfl rfl (any_of HT_.out (by kernel_rfl)) (fun _ _ _ h => h) (Or.inl ⟨by rfl, ?_⟩) ?_ ?_; rotate_left
                ·
                 intro w'; go_simp
                 with_reducible rfl
                rotate_left
                ·
                 simp only [Act.put, sA_, sZ_, sS_, i64_w, i32_w]; rfl
                refine pure_ (i := 22) (N := some 113) (v := ?_) (a' := ?_) #[t_, t_, t_, t_, t_, t_, t_, t_, t_, t_, t_, t_, t_, t_, t_, t_, t_, t_, f_, t_, f_, f_, t_, f_, f_, f_, f_, f_, f_, f_] rfl rfl (any_of HT_.out (by kernel_rfl)) (fun _ _ _ h => h) (Or.inl ⟨by rfl, ?_⟩) ?_ ?_; rotate_left
                ·
                 intro w'; go_simp
                 with_reducible rfl
                rotate_left
                ·
                 simp only [Act.put, sA_, sZ_, sS_, i64_w, i32_w]; rfl
                refine pure_ (i := 24) (N := some 115) (v := ?_) (a' := ?_) #[t_, t_, t_, t_, t_, t_, t_, t_, t_, t_, t_, t_, t_, t_, t_, t_, t_, t_, f_, t_, f_, f_, t_, f_, t_, f_, f_, f_, f_, f_] rfl rfl (any_of HT_.out (by kernel_rfl)) (fun _ _ _ h => h) (Or.inl ⟨by rfl, ?_⟩) ?_ ?_; rotate_left
                ·
                 intro w'; go_simp
                 with_reducible rfl
                rotate_left
                ·
                 simp only [Act.put, sA_, sZ_, sS_, i64_w, i32_w]; rfl
                refine take_ (i := 18) (N := some 109) (v := ?_) (a' := ?_) #[t_, t_, t_, t_, t_, t_, t_, t_, t_, t_, t_, t_, t_, t_, t_, t_, t_, t_, t_, t_, f_, f_, t_, f_, t_, f_, f_, f_, f_, f_] rfl rfl (take_ofW HT_.out HW_.out (by kernel_rfl)) (fun _ _ _ h => h) (Or.inl ⟨by rfl, ?_⟩) hHeld ?_ ?_; rotate_left
                ·
                 rintro w' ⟨s0, s1, s2, s3, s4, s5, s6, s7, s8, s9⟩
                 go_simp
                 with_reducible rfl
                rotate_left
                ·
                 simp only [Act.put, sA_, sZ_, sS_, i64_w, i32_w]; rfl
                refine pure_ (i := 20) (N := some 111) (v := ?_) (a' := ?_) #[t_, t_, t_, t_, t_, t_, t_, t_, t_, t_, t_, t_, t_, t_, t_, t_, t_, t_, t_, t_, t_, f_, t_, f_, t_, f_, f_, f_, f_, f_] rfl rfl (any_of HT_.out (by kernel_rfl)) (fun _ _ _ h => h) (Or.inl ⟨by rfl, ?_⟩) ?_ ?_; rotate_left
                ·
                 intro w'; go_simp
                 with_reducible rfl
                rotate_left
                ·
                 simp only [Act.put, sA_, sZ_, sS_, i64_w, i32_w]; rfl
                refine take_ (i := 21) (N := some 112) (v := ?_) (a' := ?_) #[t_, t_, t_, t_, t_, t_, t_, t_, t_, t_, t_, t_, t_, t_, t_, t_, t_, t_, t_, t_, t_, t_, t_, f_, t_, f_, f_, f_, f_, f_] rfl rfl (take_ofW HT_.out HW_.out (by kernel_rfl)) (fun _ _ _ h => h) (Or.inl ⟨by rfl, ?_⟩) hHeld ?_ ?_; rotate_left
                ·
                 rintro w' ⟨s0, s1, s2, s3, s4, s5, s6, s7, s8, s9⟩
                 go_simp
                 with_reducible rfl
                rotate_left
                ·
                 simp only [Act.put, sA_, sZ_, sS_, i64_w, i32_w]; rfl
                refine take_ (i := 23) (N := some 114) (v := ?_) (a' := ?_) #[t_, t_, t_, t_, t_, t_, t_, t_, t_, t_, t_, t_, t_, t_, t_, t_, t_, t_, t_, t_, t_, t_, t_, t_, t_, f_, f_, f_, f_, f_] rfl rfl (take_ofW HT_.out HW_.out (by kernel_rfl)) (fun _ _ _ h => h) (Or.inl ⟨by rfl, ?_⟩) hHeld ?_ ?_; rotate_left
                ·
                 rintro w' ⟨s0, s1, s2, s3, s4, s5, s6, s7, s8, s9⟩
                 go_simp
                 with_reducible rfl
                rotate_left
                ·
                 simp only [Act.put, sA_, sZ_, sS_, i64_w, i32_w]; rfl
                refine pure_ (i := 25) (N := some 116) (v := ?_) (a' := ?_) #[t_, t_, t_, t_, t_, t_, t_, t_, t_, t_, t_, t_, t_, t_, t_, t_, t_, t_, t_, t_, t_, t_, t_, t_, t_, t_, f_, f_, f_, f_] rfl rfl (any_of HT_.out (by kernel_rfl)) (fun _ _ _ h => h) (Or.inl ⟨by rfl, ?_⟩) ?_ ?_; rotate_left
                ·
                 intro w'; go_simp
                 with_reducible rfl
                rotate_left
                ·
                 simp only [Act.put, sA_, sZ_, sS_, i64_w, i32_w]; rfl
                refine take_ (i := 26) (N := some 117) (v := ?_) (a' := ?_) #[t_, t_, t_, t_, t_, t_, t_, t_, t_, t_, t_, t_, t_, t_, t_, t_, t_, t_, t_, t_, t_, t_, t_, t_, t_, t_, t_, f_, f_, f_] rfl rfl (take_ofW HT_.out HW_.out (by kernel_rfl)) (fun _ _ _ h => h) (Or.inl ⟨by rfl, ?_⟩) hHeld ?_ ?_; rotate_left
                ·
                 rintro w' ⟨s0, s1, s2, s3, s4, s5, s6, s7, s8, s9⟩
                 go_simp
                 with_reducible rfl
                rotate_left
                ·
                 simp only [Act.put, sA_, sZ_, sS_, i64_w, i32_w]; rfl
                refine pure_ (i := 27) (N := some 118) (v := ?_) (a' := ?_) #[t_, t_, t_, t_, t_, t_, t_, t_, t_, t_, t_, t_, t_, t_, t_, t_, t_, t_, t_, t_, t_, t_, t_, t_, t_, t_, t_, t_, f_, f_] rfl rfl (any_of HT_.out (by kernel_rfl)) (fun _ _ _ h => h) (Or.inl ⟨by rfl, ?_⟩) ?_ ?_; rotate_left
                ·
                 intro w'; go_simp
                 with_reducible rfl
                rotate_left
                ·
                 simp only [Act.put, sA_, sZ_, sS_, i64_w, i32_w]; rfl
                refine pure_ (i := 28) (N := some 119) (v := ?_) (a' := ?_) #[t_, t_, t_, t_, t_, t_, t_, t_, t_, t_, t_, t_, t_, t_, t_, t_, t_, t_, t_, t_, t_, t_, t_, t_, t_, t_, t_, t_, t_, f_] rfl rfl (any_of HT_.out (by kernel_rfl)) (fun _ _ _ h => h) (Or.inl ⟨by rfl, ?_⟩) ?_ ?_; rotate_left
                ·
                 intro w'; go_simp
                 with_reducible rfl
                rotate_left
                ·
                 simp only [Act.put, sA_, sZ_, sS_, i64_w, i32_w]; rfl
                refine pure_ (i := 29) (N := some 120) (v := ?_) (a' := ?_) #[t_, t_, t_, t_, t_, t_, t_, t_, t_, t_, t_, t_, t_, t_, t_, t_, t_, t_, t_, t_, t_, t_, t_, t_, t_, t_, t_, t_, t_, t_] rfl rfl (any_of HT_.out (by kernel_rfl)) (fun _ _ _ h => h) (Or.inl ⟨by rfl, ?_⟩) ?_ ?_; rotate_left
                ·
                 intro w'; go_simp
                 with_reducible rfl
                rotate_left
                ·
                 simp only [Act.put, sA_, sZ_, sS_, i64_w, i32_w]; rfl
                refine done_ (done_of HT_.out (by kernel_rfl)) ?_
                try go_wp2
                (first | go_meet | (refine Met.intro ?_; go_step; (repeat apply Exists.intro); refine ⟨?rel, ?eqf_⟩; case eqf_ => ((simp only [c47b0, c46b0, c45b0, c44b0, c43b0, c42b0, c40b0, c38b0]) <;> rfl)))
                case rel => exact ⟨_, (((rd t231 x13_2) != (rd l0_2 x13_2))), (by first | rfl | (simp; done) | (simp [*]; done)), H', ⟨by have := HJ8.out; have := HK2.out; first | omega | exact Nat.le_refl _⟩, ⟨pL_ HO_236001.out⟩, ⟨pL_ HO_236002.out⟩, ⟨pG_ BK223.out⟩, ⟨pG_ BK235.out⟩, ⟨pH_ HB.out⟩⟩
               ·
                rw [if_neg c47] at H; exact absurd H (by simp)
              ·
               rw [if_neg c46] at H; exact absurd H (by simp)
             ·
              rw [if_neg c45] at H; have c45b0 : ((rd t228 x13_2) == (rd l0_1 x13_2)) = false := beq_eq_false_iff_ne.mpr c45; have c45b1 : ((rd t228 x13_2) != (rd l0_1 x13_2)) = true := bne_iff_ne.mpr c45; exact absurd (H.trans (congrArg some HRT_.out)) (by first | (simp; done) | (generalize k2 = k_; cases k_ <;> simp [bitloftlaw09_AdaptRange.j0, bitloftlaw09_AdaptRange.l0, bitloftlaw09_AdaptRange.j2, bitloftlaw09_AdaptRange.j3, bitloftlaw09_AdaptRange.j4]))
            ·
             rw [if_neg c44] at H; exact absurd H (by simp)
           ·
            rw [if_neg c43] at H; exact absurd H (by simp)
          ·
           rw [if_neg c42] at H; exact absurd H (by simp)
        case rest =>
         (try (refine hKt_ _ _ ?_; clear hKt_; clear Kt_)); clear HC39
         try clear c2
         try clear p2
         try clear q2
         try clear hx2
         try clear c3
         try clear p3
         try clear c4
         try clear p6
         try clear p23
         try clear q23
         try clear hx23
         try clear c24
         try clear c24b1
         try clear p24
         try clear q24
         try clear hx24
         try clear c25
         try clear c25b0
         try clear c25b1
         try clear c27
         try clear c27b0
         try clear c27b1
         try clear c28
         try clear c28b0
         try clear c28b1
         try clear c29
         try clear c29b0
         try clear c30
         try clear c30b0
         try clear c31
         try clear c31b0
         try clear p32
         try clear c33
         try clear c33b0
         try clear c33b1
         try clear c34
         try clear c34b0
         try clear c37
         try clear c38
         try clear c38b0
         try clear c40
         try clear c40b0
         try clear c40b1
         try clear c42
         try clear c42b0
         try clear c43
         try clear c43b0
         try clear c44
         try clear c44b0
         try clear c45
         try clear c45b0
         try clear c45b1
         try clear c46
         try clear c46b0
         try clear c47
         try clear c47b0
         try clear hcz11_0
         try clear hcz11_1
         try clear hcz11_2
         try clear hcz13_0
         try clear hcz13_1
         try clear hcz13_2
         try clear hcz15_0
         try clear hcz15_1
         try clear hcz15_2
         try clear hcz19_0
         try clear hcz19_1
         try clear hcz19_2
         try clear hfz11_0
         try clear hfz11_1
         try clear hfz11_2
         try clear hfz13_0
         try clear hfz13_1
         try clear hfz13_2
         try clear hfz15_0
         try clear hfz15_1
         try clear hfz15_2
         try clear hfz19_0
         try clear hfz19_1
         try clear hfz19_2
         try clear hx239_0
         try clear hx240_0
         try clear hx241_0
         try clear hx242_0
         try clear hx243_0
         try clear hx244_0
         try clear hx245_0
         try clear p2
         try clear p23
         try clear p239
         try clear p24
         try clear p240
         try clear p241
         try clear p242
         try clear p243
         try clear p244
         try clear p245
         try clear p3
         try clear p32
         try clear q2
         try clear q23
         try clear q239
         try clear q24
         try clear q240
         try clear q241
         try clear q242
         try clear q243
         try clear q244
         try clear q245
         obtain ⟨kq, x120_38, rfl, HA, HJ38, HO_236001, HO_236002, BK223, BK235, HB⟩ := hcut
         cases kq with
         | zero => exact absurd HA.out (by simp [bitloftlaw09_AdaptRange.j2])
         | succ kj38 =>
          have H := HA.out; clear HA; simp only [bitloftlaw09_AdaptRange.j2] at H
          by_cases c49 : x120_38 = true
          ·
           subst c49
           have H1 : (some false) = some r := by rw [if_pos rfl] at H; exact H
           clear H; have H := H1; clear H1; exact absurd (H.trans (congrArg some HRT_.out)) (by simp)
          ·
           replace c49 := Bool.eq_false_iff.mpr c49
           subst c49
           have H1 : (bitloftlaw09_AdaptRange.l0 kj38 a1 a2 t225 t236 (wrap64 (x13_2 + 1)) a0_0 l0_1 l0_2 t227 t228 t231) = some r := by rw [if_neg (show ¬ (false = true) by decide)] at H; exact H
           clear H; have H := H1; clear H1; have H' := Aside0.mk H; clear H
           go_wp2
           go_roundg kj38
           case measure => have := HJ8.out; have := HK2.out; have := HJ38.out; omega
           case rel => exact ⟨(wrap64 (x13_2 + 1)), (by first | rfl | (simp; done) | (simp [*]; done)), H', ⟨by have := HJ8.out; have := HK2.out; have := HJ38.out; omega⟩, ⟨pL_ HO_236001.out⟩, ⟨pL_ HO_236002.out⟩, ⟨pG_ BK223.out⟩, ⟨pG_ BK235.out⟩, ⟨pH_ HB.out⟩⟩
       ·
        rw [if_neg c38] at H; have c38b0 : decide (x13_2 < 193) = false := decide_eq_false c38; clear c38
        by_cases c50 : a2 = 1
        ·
         rw [if_pos c50] at H; have c50b0 : (a2 == 1) = true := beq_iff_eq.mpr c50; have c50b1 : (a2 != 1) = false := bne_eq_false_iff_eq.mpr c50; clear c50; have HC51 := Aside0.mk H; clear H
         go_upto_region 14 with (fail)
         (with_reducible first | refine then_id_ ?_ | (refine wp_tail_ ?_; intro Kt_ hKt_))
         go_cut [6] (fun v6 wc => ∃ (kq : Nat) (x6_50 : Bool), v6 = .bool x6_50 ∧ Aside0 (bitloftlaw09_AdaptRange.j3 kq x6_50 = some r) ∧ Aside0 (kq ≤ k2) ∧ Aside0 (Kd.R (Kd.int .i32) 21 wc w.heap.size (fun k_ => some k_ ≠ ((.slice Ao21 t231.length co21) : Value).ownBlock) (.slice Ao20 t228.length co20) t228) ∧ Aside0 (Kd.R (Kd.int .i32) 21 wc w.heap.size (fun k_ => some k_ ≠ ((.slice Ao20 t228.length co20) : Value).ownBlock) (.slice Ao21 t231.length co21) t231) ∧ Aside0 (wc.heap[gb223]? = some (.cells #[.int .i32 a0_0, (.slice A0_1 l0_1.length c0_1), (.slice A0_2 l0_2.length c0_2)] 24 (0, 0))) ∧ Aside0 (wc.heap[gb235]? = some (.cells #[.int .i32 t227, (.slice Ao20 t228.length co20), (.slice Ao21 t231.length co21)] 24 (0, 0))) ∧ Aside0 (Below w.heap.size w wc))
         case first =>
          have H := HC51.out; clear HC51
          by_cases c52 : t236 ≥ t225
          ·
           rw [if_pos c52] at H; have c52b0 : decide (t225 ≤ t236) = true := decide_eq_true c52; clear c52; (first | rw [c52b0] | (simp only [i64_w, i32_w]; rw [c52b0]) | skip)
           by_cases c53 : t236 ≤ 65535
           ·
            rw [if_pos c53] at H; have c53b0 : decide (t236 ≤ 65535) = true := decide_eq_true c53; clear c53; have A54 := Aside0.mk (show bitloftlaw09_alive.f 2000 = some true by first | rfl | decide +kernel); have H' := Aside0.mk H; clear H
            go_wp2_with (first | (go_at_call 21; (with_reducible refine (bitloftlaw09_alive.calls 2000  true _ (tab_bel hT (pH_ HB.out)) A54.out).mono ?_); rintro e w55 ⟨rfl, hb⟩; have n0_ := Aside0.mk (Kd.R_below (pL_ HO_236001.out) hb); have n1_ := Aside0.mk (Kd.R_below (pL_ HO_236002.out) hb); have n2_ := Aside0.mk (blk_below (pG_ BK223.out) hb); have n3_ := Aside0.mk (blk_below (pG_ BK235.out) hb); have n4_ := Aside0.mk (below_step (pH_ HB.out) hb); clear HO_236001; clear HO_236002; clear BK223; clear BK235; clear HB; have HO_236001 := n0_; have HO_236002 := n1_; have BK223 := n2_; have BK235 := n3_; have HB := n4_; clear n0_ n1_ n2_ n3_ n4_; (try clear hb)))
            (first | go_meet | (refine Met.intro ?_; go_step; (repeat apply Exists.intro); refine ⟨?rel, ?eqf_⟩; case eqf_ => ((simp only [c53b0, c52b0, c50b0, c38b0]) <;> rfl)))
            case rel => exact ⟨_, (true), (by first | rfl | (simp; done) | (simp [*]; done)), H', ⟨by have := HJ8.out; have := HK2.out; first | omega | exact Nat.le_refl _⟩, ⟨pL_ HO_236001.out⟩, ⟨pL_ HO_236002.out⟩, ⟨pG_ BK223.out⟩, ⟨pG_ BK235.out⟩, ⟨pH_ HB.out⟩⟩
           ·
            rw [if_neg c53] at H; have c53b0 : decide (t236 ≤ 65535) = false := decide_eq_false c53; clear c53; exact absurd (H.trans (congrArg some HRT_.out)) (by first | (simp; done) | (generalize k2 = k_; cases k_ <;> simp [bitloftlaw09_AdaptRange.j0, bitloftlaw09_AdaptRange.l0, bitloftlaw09_AdaptRange.j2, bitloftlaw09_AdaptRange.j3, bitloftlaw09_AdaptRange.j4]))
          ·
           rw [if_neg c52] at H; have c52b0 : decide (t225 ≤ t236) = false := decide_eq_false c52; clear c52; (first | rw [c52b0] | (simp only [i64_w, i32_w]; rw [c52b0]) | skip); exact absurd (H.trans (congrArg some HRT_.out)) (by first | (simp; done) | (generalize k2 = k_; cases k_ <;> simp [bitloftlaw09_AdaptRange.j0, bitloftlaw09_AdaptRange.l0, bitloftlaw09_AdaptRange.j2, bitloftlaw09_AdaptRange.j3, bitloftlaw09_AdaptRange.j4]))
         case rest =>
          (try (refine hKt_ _ _ ?_; clear hKt_; clear Kt_)); clear HC51
          try clear c2
          try clear p2
          try clear q2
          try clear hx2
          try clear c3
          try clear p3
          try clear c4
          try clear c5
          try clear p6
          try clear p23
          try clear q23
          try clear hx23
          try clear c24
          try clear c24b1
          try clear p24
          try clear q24
          try clear hx24
          try clear c25
          try clear c25b0
          try clear c25b1
          try clear c27
          try clear c27b0
          try clear c27b1
          try clear c28
          try clear c28b0
          try clear c28b1
          try clear c29
          try clear c29b0
          try clear c30
          try clear c30b0
          try clear c31
          try clear c31b0
          try clear p32
          try clear c33
          try clear c33b0
          try clear c33b1
          try clear c34
          try clear c34b0
          try clear c37
          try clear c38
          try clear c38b0
          try clear c40
          try clear c40b0
          try clear c40b1
          try clear c42
          try clear c42b0
          try clear c43
          try clear c43b0
          try clear c44
          try clear c44b0
          try clear c45
          try clear c45b0
          try clear c45b1
          try clear c46
          try clear c46b0
          try clear c47
          try clear c47b0
          try clear c49
          try clear c50
          try clear c50b0
          try clear c50b1
          try clear c52
          try clear c52b0
          try clear c53
          try clear c53b0
          try clear hcz11_0
          try clear hcz11_1
          try clear hcz11_2
          try clear hcz13_0
          try clear hcz13_1
          try clear hcz13_2
          try clear hcz15_0
          try clear hcz15_1
          try clear hcz15_2
          try clear hcz19_0
          try clear hcz19_1
          try clear hcz19_2
          try clear hfz11_0
          try clear hfz11_1
          try clear hfz11_2
          try clear hfz13_0
          try clear hfz13_1
          try clear hfz13_2
          try clear hfz15_0
          try clear hfz15_1
          try clear hfz15_2
          try clear hfz19_0
          try clear hfz19_1
          try clear hfz19_2
          try clear hx239_0
          try clear hx240_0
          try clear hx241_0
          try clear hx242_0
          try clear hx243_0
          try clear hx244_0
          try clear hx245_0
          try clear p2
          try clear p23
          try clear p239
          try clear p24
          try clear p240
          try clear p241
          try clear p242
          try clear p243
          try clear p244
          try clear p245
          try clear p3
          try clear p32
          try clear p6
          try clear q2
          try clear q23
          try clear q239
          try clear q24
          try clear q240
          try clear q241
          try clear q242
          try clear q243
          try clear q244
          try clear q245
          obtain ⟨kq, x6_50, rfl, HA, HJ50, HO_236001, HO_236002, BK223, BK235, HB⟩ := hcut
          cases kq with
          | zero => exact absurd HA.out (by simp [bitloftlaw09_AdaptRange.j3])
          | succ kj50 =>
           have H := HA.out; clear HA; simp only [bitloftlaw09_AdaptRange.j3] at H; obtain rfl := Option.some.inj H
           go_wp2
           go_ret
           exact ⟨by first | rfl | (simp [errW_none, errW_some] <;> rfl) | (simp [*, errW_none, errW_some] <;> rfl), pH_ HB.out⟩
        ·
         rw [if_neg c50] at H; have c50b0 : (a2 == 1) = false := beq_eq_false_iff_ne.mpr c50; have c50b1 : (a2 != 1) = true := bne_iff_ne.mpr c50; have HC56 := Aside0.mk H; clear H
         go_upto_region 15 with (fail)
         (with_reducible first | refine then_id_ ?_ | (refine wp_tail_ ?_; intro Kt_ hKt_))
         go_cut [6] (fun v6 wc => ∃ (kq : Nat) (x6_55 : Bool), v6 = .bool x6_55 ∧ Aside0 (bitloftlaw09_AdaptRange.j4 kq x6_55 = some r) ∧ Aside0 (kq ≤ k2) ∧ Aside0 (Kd.R (Kd.int .i32) 21 wc w.heap.size (fun k_ => some k_ ≠ ((.slice Ao21 t231.length co21) : Value).ownBlock) (.slice Ao20 t228.length co20) t228) ∧ Aside0 (Kd.R (Kd.int .i32) 21 wc w.heap.size (fun k_ => some k_ ≠ ((.slice Ao20 t228.length co20) : Value).ownBlock) (.slice Ao21 t231.length co21) t231) ∧ Aside0 (wc.heap[gb223]? = some (.cells #[.int .i32 a0_0, (.slice A0_1 l0_1.length c0_1), (.slice A0_2 l0_2.length c0_2)] 24 (0, 0))) ∧ Aside0 (wc.heap[gb235]? = some (.cells #[.int .i32 t227, (.slice Ao20 t228.length co20), (.slice Ao21 t231.length co21)] 24 (0, 0))) ∧ Aside0 (Below w.heap.size w wc))
         case first =>
          have H := HC56.out; clear HC56
          by_cases c57 : t236 ≤ t225
          ·
           rw [if_pos c57] at H; have c57b0 : decide (t236 ≤ t225) = true := decide_eq_true c57; clear c57; (first | rw [c57b0] | (simp only [i64_w, i32_w]; rw [c57b0]) | skip)
           by_cases c58 : t236 ≥ 0
           ·
            rw [if_pos c58] at H; have c58b0 : decide (0 ≤ t236) = true := decide_eq_true c58; clear c58
            by_cases c59 : t225 = 0
            ·
             rw [if_pos c59] at H; have c59b0 : (t225 == 0) = true := beq_iff_eq.mpr c59; have c59b1 : (t225 != 0) = false := bne_eq_false_iff_eq.mpr c59; clear c59; have A60 := Aside0.mk (show bitloftlaw09_alive.f 2000 = some true by first | rfl | decide +kernel); have H' := Aside0.mk H; clear H
             go_wp2_with (first | (go_at_call 21; (with_reducible refine (bitloftlaw09_alive.calls 2000  true _ (tab_bel hT (pH_ HB.out)) A60.out).mono ?_); rintro e w61 ⟨rfl, hb⟩; have n0_ := Aside0.mk (Kd.R_below (pL_ HO_236001.out) hb); have n1_ := Aside0.mk (Kd.R_below (pL_ HO_236002.out) hb); have n2_ := Aside0.mk (blk_below (pG_ BK223.out) hb); have n3_ := Aside0.mk (blk_below (pG_ BK235.out) hb); have n4_ := Aside0.mk (below_step (pH_ HB.out) hb); clear HO_236001; clear HO_236002; clear BK223; clear BK235; clear HB; have HO_236001 := n0_; have HO_236002 := n1_; have BK223 := n2_; have BK235 := n3_; have HB := n4_; clear n0_ n1_ n2_ n3_ n4_; (try clear hb)))
             (first | go_meet | (refine Met.intro ?_; go_step; (repeat apply Exists.intro); refine ⟨?rel, ?eqf_⟩; case eqf_ => ((simp only [c59b0, c58b0, c57b0, c50b0, c38b0]) <;> rfl)))
             case rel => exact ⟨_, (true), (by first | rfl | (simp; done) | (simp [*]; done)), H', ⟨by have := HJ8.out; have := HK2.out; first | omega | exact Nat.le_refl _⟩, ⟨pL_ HO_236001.out⟩, ⟨pL_ HO_236002.out⟩, ⟨pG_ BK223.out⟩, ⟨pG_ BK235.out⟩, ⟨pH_ HB.out⟩⟩
            ·
             rw [if_neg c59] at H; have c59b0 : (t225 == 0) = false := beq_eq_false_iff_ne.mpr c59; have c59b1 : (t225 != 0) = true := bne_iff_ne.mpr c59
             by_cases c62 : t236 < t225
             ·
              rw [if_pos c62] at H; have c62b0 : decide (t236 < t225) = true := decide_eq_true c62; clear c62; have A63 := Aside0.mk (show bitloftlaw09_alive.f 2000 = some true by first | rfl | decide +kernel); have H' := Aside0.mk H; clear H
              go_wp2_with (first | (go_at_call 21; (with_reducible refine (bitloftlaw09_alive.calls 2000  true _ (tab_bel hT (pH_ HB.out)) A63.out).mono ?_); rintro e w64 ⟨rfl, hb⟩; have n0_ := Aside0.mk (Kd.R_below (pL_ HO_236001.out) hb); have n1_ := Aside0.mk (Kd.R_below (pL_ HO_236002.out) hb); have n2_ := Aside0.mk (blk_below (pG_ BK223.out) hb); have n3_ := Aside0.mk (blk_below (pG_ BK235.out) hb); have n4_ := Aside0.mk (below_step (pH_ HB.out) hb); clear HO_236001; clear HO_236002; clear BK223; clear BK235; clear HB; have HO_236001 := n0_; have HO_236002 := n1_; have BK223 := n2_; have BK235 := n3_; have HB := n4_; clear n0_ n1_ n2_ n3_ n4_; (try clear hb)))
              (first | go_meet | (refine Met.intro ?_; go_step; (repeat apply Exists.intro); refine ⟨?rel, ?eqf_⟩; case eqf_ => ((simp only [c62b0, c59b0, c58b0, c57b0, c50b0, c38b0]) <;> rfl)))
              case rel => exact ⟨_, (true), (by first | rfl | (simp; done) | (simp [*]; done)), H', ⟨by have := HJ8.out; have := HK2.out; first | omega | exact Nat.le_refl _⟩, ⟨pL_ HO_236001.out⟩, ⟨pL_ HO_236002.out⟩, ⟨pG_ BK223.out⟩, ⟨pG_ BK235.out⟩, ⟨pH_ HB.out⟩⟩
             ·
              rw [if_neg c62] at H; have c62b0 : decide (t236 < t225) = false := decide_eq_false c62; clear c62; exact absurd (H.trans (congrArg some HRT_.out)) (by first | (simp; done) | (generalize k2 = k_; cases k_ <;> simp [bitloftlaw09_AdaptRange.j0, bitloftlaw09_AdaptRange.l0, bitloftlaw09_AdaptRange.j2, bitloftlaw09_AdaptRange.j3, bitloftlaw09_AdaptRange.j4]))
           ·
            rw [if_neg c58] at H; have c58b0 : decide (0 ≤ t236) = false := decide_eq_false c58; clear c58; exact absurd (H.trans (congrArg some HRT_.out)) (by first | (simp; done) | (generalize k2 = k_; cases k_ <;> simp [bitloftlaw09_AdaptRange.j0, bitloftlaw09_AdaptRange.l0, bitloftlaw09_AdaptRange.j2, bitloftlaw09_AdaptRange.j3, bitloftlaw09_AdaptRange.j4]))
          ·
           rw [if_neg c57] at H; have c57b0 : decide (t236 ≤ t225) = false := decide_eq_false c57; clear c57; (first | rw [c57b0] | (simp only [i64_w, i32_w]; rw [c57b0]) | skip); exact absurd (H.trans (congrArg some HRT_.out)) (by first | (simp; done) | (generalize k2 = k_; cases k_ <;> simp [bitloftlaw09_AdaptRange.j0, bitloftlaw09_AdaptRange.l0, bitloftlaw09_AdaptRange.j2, bitloftlaw09_AdaptRange.j3, bitloftlaw09_AdaptRange.j4]))
         case rest =>
          (try (refine hKt_ _ _ ?_; clear hKt_; clear Kt_)); clear HC56
          try clear c2
          try clear p2
          try clear q2
          try clear hx2
          try clear c3
          try clear p3
          try clear c4
          try clear c5
          try clear c6
          try clear p6
          try clear p23
          try clear q23
          try clear hx23
          try clear c24
          try clear c24b1
          try clear p24
          try clear q24
          try clear hx24
          try clear c25
          try clear c25b0
          try clear c25b1
          try clear c27
          try clear c27b0
          try clear c27b1
          try clear c28
          try clear c28b0
          try clear c28b1
          try clear c29
          try clear c29b0
          try clear c30
          try clear c30b0
          try clear c31
          try clear c31b0
          try clear p32
          try clear c33
          try clear c33b0
          try clear c33b1
          try clear c34
          try clear c34b0
          try clear c37
          try clear c38
          try clear c38b0
          try clear c40
          try clear c40b0
          try clear c40b1
          try clear c42
          try clear c42b0
          try clear c43
          try clear c43b0
          try clear c44
          try clear c44b0
          try clear c45
          try clear c45b0
          try clear c45b1
          try clear c46
          try clear c46b0
          try clear c47
          try clear c47b0
          try clear c49
          try clear c50
          try clear c50b0
          try clear c50b1
          try clear c52
          try clear c52b0
          try clear c53
          try clear c53b0
          try clear c57
          try clear c57b0
          try clear c58
          try clear c58b0
          try clear c59
          try clear c59b0
          try clear c59b1
          try clear c62
          try clear c62b0
          try clear p64
          try clear hcz11_0
          try clear hcz11_1
          try clear hcz11_2
          try clear hcz13_0
          try clear hcz13_1
          try clear hcz13_2
          try clear hcz15_0
          try clear hcz15_1
          try clear hcz15_2
          try clear hcz19_0
          try clear hcz19_1
          try clear hcz19_2
          try clear hfz11_0
          try clear hfz11_1
          try clear hfz11_2
          try clear hfz13_0
          try clear hfz13_1
          try clear hfz13_2
          try clear hfz15_0
          try clear hfz15_1
          try clear hfz15_2
          try clear hfz19_0
          try clear hfz19_1
          try clear hfz19_2
          try clear hx239_0
          try clear hx240_0
          try clear hx241_0
          try clear hx242_0
          try clear hx243_0
          try clear hx244_0
          try clear hx245_0
          try clear p2
          try clear p23
          try clear p239
          try clear p24
          try clear p240
          try clear p241
          try clear p242
          try clear p243
          try clear p244
          try clear p245
          try clear p3
          try clear p32
          try clear p6
          try clear q2
          try clear q23
          try clear q239
          try clear q24
          try clear q240
          try clear q241
          try clear q242
          try clear q243
          try clear q244
          try clear q245
          obtain ⟨kq, x6_55, rfl, HA, HJ55, HO_236001, HO_236002, BK223, BK235, HB⟩ := hcut
          cases kq with
          | zero => exact absurd HA.out (by simp [bitloftlaw09_AdaptRange.j4])
          | succ kj55 =>
           have H := HA.out; clear HA; simp only [bitloftlaw09_AdaptRange.j4] at H; obtain rfl := Option.some.inj H
           go_wp2
           go_ret
           exact ⟨by first | rfl | (simp [errW_none, errW_some] <;> rfl) | (simp [*, errW_none, errW_some] <;> rfl), pH_ HB.out⟩
 ·
  replace c5 := Bool.eq_false_iff.mpr c5
  subst c5
  have H1 : (some true) = some r := by rw [if_neg (show ¬ (false = true) by decide)] at H; exact H
  clear H; have H := H1; clear H1; have A65 := Aside0.mk (show bitloftlaw09_alive.f 2000 = some true by first | rfl | decide +kernel); obtain rfl := Option.some.inj H
  go_enter Tryd.func4, Tryd.ntmps4
  go_wp2_with (first | ((with_reducible refine gate_dst (N := 3) rfl ?_); (try (refine gate_guard (by rfl) ?_; dsimp only)); refine box_event ?hg (N := 3) ?hd (cs := #[.int .i32 a0_0, .slice A0_1 l0_1.length c0_1, .slice A0_2 l0_2.length c0_2]) (t := 24) ?hr ?_; (case hd => rfl); (case hg => rfl); (case hr => first | (go_simp; done) | (go_simp; rfl)); intro gb223 hg w66 hbox hb; have n0_ := Aside0.mk (below_step (pH_ HB.out) hb); have n1_ := Aside0.mk (hbox); have n2_ := Aside0.mk ((by rw [hg]; exact (below_size (pH_ HB.out)) : w.heap.size ≤ gb223)); have n3_ := Aside0.mk ((by rw [hg]; exact (below_size (pH_ HB.out)) : w.heap.size ≤ gb223)); clear HB; have HB := n0_; have BK223 := n1_; have GW223 := n2_; have GE223 := n3_; clear n0_ n1_ n2_ n3_; clear hb hbox hg; have hcz67_0 : w66.cell? ⟨gb223, 0, none⟩ = some (.int .i32 a0_0) := (blk_cell BK223.out 0).trans rfl; have hcz67_1 : w66.cell? ⟨gb223, 1, none⟩ = some (.slice A0_1 l0_1.length c0_1) := (blk_cell BK223.out 1).trans rfl; have hcz67_2 : w66.cell? ⟨gb223, 2, none⟩ = some (.slice A0_2 l0_2.length c0_2) := (blk_cell BK223.out 2).trans rfl; have hfz67_0 := blk_frozen BK223.out 0; have hfz67_1 := blk_frozen BK223.out 1; have hfz67_2 := blk_frozen BK223.out 2) | ((with_reducible refine gate_callee (f := 20) rfl ?_); refine gL_ (some 17) Tryd.func20 #[.agg #[.int .i32 a0_0, .slice A0_1 l0_1.length c0_1, .slice A0_2 l0_2.length c0_2], .int .u8 a1, .int .u8 a2] ?_; (with_reducible refine (bitloftlaw09_fit.calls k a0_0 _ _ l0_1 _ _ l0_2 a1 a2 false _ ?side1 ?side2 ?side3 ?side4 A4.out).mono ?_); (case side1 => repeat (first | exact (Kd.C_below HR0_1.out HB.out) | (with_reducible refine Kd.C_alloc ?_ _) | (with_reducible refine Kd.C_drewN ?_ _) | (with_reducible refine Kd.C_drew ?_))); (case side2 => exact HC0_1.out); (case side3 => repeat (first | exact (Kd.C_below HR0_2.out HB.out) | (with_reducible refine Kd.C_alloc ?_ _) | (with_reducible refine Kd.C_drewN ?_ _) | (with_reducible refine Kd.C_drew ?_))); (case side4 => exact HC0_2.out); rintro e w68 ⟨rfl, hb⟩; refine ⟨_, rfl, ?_⟩; have n0_ := Aside0.mk (blk_below (pG_ BK223.out) hb); have n1_ := Aside0.mk (below_step (pH_ HB.out) hb); clear BK223; clear HB; have BK223 := n0_; have HB := n1_; clear n0_ n1_; (try clear hb)) | ((with_reducible refine gate_callee (f := 21) rfl ?_); refine gL_ (some 19) Tryd.func21 #[] ?_; (with_reducible refine (bitloftlaw09_alive.calls 2000  true _ (tab_bel hT (pH_ HB.out)) A65.out).mono ?_); rintro e w69 ⟨rfl, hb⟩; refine ⟨_, rfl, ?_⟩; have n0_ := Aside0.mk (blk_below (pG_ BK223.out) hb); have n1_ := Aside0.mk (below_step (pH_ HB.out) hb); clear BK223; clear HB; have BK223 := n0_; have HB := n1_; clear n0_ n1_; (try clear hb)))
  go_ret
  exact ⟨by first | rfl | (simp [errW_none, errW_some] <;> rfl) | (simp [*, errW_none, errW_some] <;> rfl), pH_ HB.out⟩

/-- The one plain statement of bitloftlaw09_AdaptRange. -/
def bitloftlaw09_AdaptRange.Pure : Prop := ∀ (a0_0 : Int) (l0_1 : List Int) (l0_2 : List Int) (a1 : Int) (a2 : Int), (Lit.int .i32 a0_0).wf = true → l0_1.length ≤ maxLen → (∀ x ∈ l0_1, (Lit.int .i32 x).wf = true) → l0_2.length ≤ maxLen → (∀ x ∈ l0_2, (Lit.int .i32 x).wf = true) → (Lit.int .u8 a1).wf = true → (Lit.int .u8 a2).wf = true → ∃ k, bitloftlaw09_AdaptRange.f k a0_0 l0_1 l0_2 a1 a2 = some true

end Go.Proofs.YtmncppbhnjngkaaDoor.XAdaptRange
