-- Laid by a program of this session (wip/mkxprint.py, over the kit's print): Lean checks it.
import Derived.Test.YtaomhenneenaaaaXSlotsOnlyx0
import Derived.Test.YtaomhenneenaaaaXSlotsOnlyx3
import Derived.Test.YtaomhenneenaaaaXSlotsOnlyx4
import Derived.Test.YtaomhenneenaaaaXSlotsOnlyx5
import Derived.Test.YtaomhenneenaaaaXSlotsOnlyx6
namespace Go.Proofs.Ytaomhenneenaaaa.XSlotsOnly
open List (setIfInBounds_toArray set_cons_zero set_cons_succ)
open Go.RowKit Go.Proofs.YtaomhenneenaaaaW.PrintWords Go.Proofs.YtaomhenneenaaaaW.PrintLast Go.Proofs.YtaomhenneenaaaaW.PrintMore
attribute [local go_sem] max2_int min2_int max_two min_two max_three min_three max_four min_four   -- for this text's walks alone
set_option linter.unusedVariables false
set_option linter.unusedSimpArgs false

/-! ### bitloftlaw11_SlotsOnly: function 8 -/
mutual
def bitloftlaw11_SlotsOnly.j0 : Nat → Int → Int → Int → Int → Bool → Int → List (S42) → Option (Bool)
 | 0, _, _, _, _, _, _, _ => none
 | k + 1, x1, x2, x3, x4, x43, x239000, x239001 => if x43 = true then ((bitloftlaw11_alive.f k).bind fun t242 => (some t242)) else ((slots_Set.f k x239000 x239001 x1 x2 x3).bind fun bt243 => ((slots_Get.f k bt243.1 bt243.2.1 x1 x2).bind fun bt249 => (if 0 ≤ x1 then (if x1 < (x239001.length : Int) then (if 0 ≤ (wrap64 (x2 - 1)) then (if (wrap64 (x2 - 1)) < 15 then ((slots_Set.f k bt243.1 bt243.2.1 x1 x2 (rd (to40 (rd_T42 x239001 x1).f1) (wrap64 (x2 - 1)))).bind fun bt252 => (if bt243.2.2 = 0 then (if bt249.2 = 0 then (if bt252.2.2 = 0 then (if bt249.1 = x3 then ((bitloftref11_Same.f k bt252.1 bt252.2.1 x239000 x239001).bind fun t258 => (if t258 = true then (if (bt243.2.1.length : Int) = (x239001.length : Int) then (bitloftlaw11_SlotsOnly.j1 k x1 x2 x3 x4 (bt243.1 != x239000) x239000 x239001 bt243.1 bt243.2.1) else (bitloftlaw11_SlotsOnly.j1 k x1 x2 x3 x4 true x239000 x239001 bt243.1 bt243.2.1)) else (bitloftlaw11_SlotsOnly.j1 k x1 x2 x3 x4 true x239000 x239001 bt243.1 bt243.2.1))) else (bitloftlaw11_SlotsOnly.j1 k x1 x2 x3 x4 true x239000 x239001 bt243.1 bt243.2.1)) else (bitloftlaw11_SlotsOnly.j1 k x1 x2 x3 x4 true x239000 x239001 bt243.1 bt243.2.1)) else (bitloftlaw11_SlotsOnly.j1 k x1 x2 x3 x4 true x239000 x239001 bt243.1 bt243.2.1)) else (bitloftlaw11_SlotsOnly.j1 k x1 x2 x3 x4 true x239000 x239001 bt243.1 bt243.2.1))) else (none)) else (none)) else (none)) else (none))))
def bitloftlaw11_SlotsOnly.j1 : Nat → Int → Int → Int → Int → Bool → Int → List (S42) → Int → List (S42) → Option (Bool)
 | 0, _, _, _, _, _, _, _, _, _ => none
 | k + 1, x1, x2, x3, x4, x112, x239000, x239001, x249000, x249001 => if x112 = true then (some false) else (bitloftlaw11_SlotsOnly.l0 k x1 x2 x3 x4 0 x239000 x239001 x249000 x249001)
def bitloftlaw11_SlotsOnly.l0 : Nat → Int → Int → Int → Int → Int → Int → List (S42) → Int → List (S42) → Option (Bool)
 | 0, _, _, _, _, _, _, _, _, _ => none
 | k + 1, x1, x2, x3, x4, x17, x239000, x239001, x249000, x249001 => if x17 < (x239001.length : Int) then (bitloftlaw11_SlotsOnly.l1 k x1 x2 x3 x4 x17 0 x239000 x239001 x249000 x249001) else ((states_Next.f k x3 x4).bind fun bt269 => ((slots_Bit.f k x249000 x249001 x1 x2 x4).bind fun bt271 => ((slots_Set.f k x249000 x249001 x1 x2 bt269.1).bind fun bt277 => (if bt269.2 = 0 then (if bt271.2.2 = 0 then (if bt277.2.2 = 0 then ((bitloftref11_Same.f k bt271.1 bt271.2.1 bt277.1 bt277.2.1).bind fun t283 => (if t283 = true then ((bitloftlaw11_alive.f k).bind fun t284 => (bitloftlaw11_SlotsOnly.j5 k t284)) else (bitloftlaw11_SlotsOnly.j5 k false))) else (bitloftlaw11_SlotsOnly.j5 k false)) else (bitloftlaw11_SlotsOnly.j5 k false)) else (bitloftlaw11_SlotsOnly.j5 k false)))))
def bitloftlaw11_SlotsOnly.l1 : Nat → Int → Int → Int → Int → Int → Int → Int → List (S42) → Int → List (S42) → Option (Bool)
 | 0, _, _, _, _, _, _, _, _, _, _ => none
 | k + 1, x1, x2, x3, x4, x17, x18, x239000, x239001, x249000, x249001 => if x18 < 15 then (if x17 = x1 then (if x18 = (wrap64 (x2 - 1)) then (if 0 ≤ x17 then (if x17 < (x249001.length : Int) then (if x17 < (x239001.length : Int) then (bitloftlaw11_SlotsOnly.j4 k x1 x2 x3 x4 x17 x18 (((rd_T42 x249001 x17).f0) != ((rd_T42 x239001 x17).f0)) x239000 x239001 x249000 x249001) else (none)) else (none)) else (none)) else (if 0 ≤ x17 then (if x17 < (x249001.length : Int) then (if 0 ≤ x18 then (if x17 < (x239001.length : Int) then (if (rd (to40 (rd_T42 x249001 x17).f1) x18) = (rd (to40 (rd_T42 x239001 x17).f1) x18) then (bitloftlaw11_SlotsOnly.j4 k x1 x2 x3 x4 x17 x18 (((rd_T42 x249001 x17).f0) != ((rd_T42 x239001 x17).f0)) x239000 x239001 x249000 x249001) else (bitloftlaw11_SlotsOnly.j4 k x1 x2 x3 x4 x17 x18 true x239000 x239001 x249000 x249001)) else (none)) else (none)) else (none)) else (none))) else (if 0 ≤ x17 then (if x17 < (x249001.length : Int) then (if 0 ≤ x18 then (if x17 < (x239001.length : Int) then (if (rd (to40 (rd_T42 x249001 x17).f1) x18) = (rd (to40 (rd_T42 x239001 x17).f1) x18) then (bitloftlaw11_SlotsOnly.j4 k x1 x2 x3 x4 x17 x18 (((rd_T42 x249001 x17).f0) != ((rd_T42 x239001 x17).f0)) x239000 x239001 x249000 x249001) else (bitloftlaw11_SlotsOnly.j4 k x1 x2 x3 x4 x17 x18 true x239000 x239001 x249000 x249001)) else (none)) else (none)) else (none)) else (none))) else (bitloftlaw11_SlotsOnly.l0 k x1 x2 x3 x4 (wrap64 (x17 + 1)) x239000 x239001 x249000 x249001)
def bitloftlaw11_SlotsOnly.j4 : Nat → Int → Int → Int → Int → Int → Int → Bool → Int → List (S42) → Int → List (S42) → Option (Bool)
 | 0, _, _, _, _, _, _, _, _, _, _, _ => none
 | k + 1, x1, x2, x3, x4, x17, x18, x166, x239000, x239001, x249000, x249001 => if x166 = true then (some false) else (bitloftlaw11_SlotsOnly.l1 k x1 x2 x3 x4 x17 (wrap64 (x18 + 1)) x239000 x239001 x249000 x249001)
def bitloftlaw11_SlotsOnly.j5 : Nat → Bool → Option (Bool)
 | 0, _ => none
 | k + 1, x10 => some x10
end
def bitloftlaw11_SlotsOnly.f (k : Nat) (a0_0 : Int) (l0_1 : List (S42)) (a1 : Int) (a2 : Int) (a3 : Int) (a4 : Int) : Option (Bool) := (bitloftlaw11_fit.f k a0_0 l0_1).bind fun t239 => (if t239 = true then ((bitloftref11_At.f k a0_0 l0_1 a1 a2).bind fun t240 => (if t240 = 0 then ((bitloftref08_State.f a3).bind fun t241 => (if t241 = true then (bitloftlaw11_SlotsOnly.j0 k a1 a2 a3 a4 (decide (a4 > 1)) a0_0 l0_1) else (bitloftlaw11_SlotsOnly.j0 k a1 a2 a3 a4 true a0_0 l0_1))) else (bitloftlaw11_SlotsOnly.j0 k a1 a2 a3 a4 true a0_0 l0_1))) else (bitloftlaw11_SlotsOnly.j0 k a1 a2 a3 a4 true a0_0 l0_1))
theorem bitloftlaw11_SlotsOnly.mono_l : ∀ k, (∀ y0 y1 y2 y3 y4 y5 y6, LeO (bitloftlaw11_SlotsOnly.j0 k y0 y1 y2 y3 y4 y5 y6) (bitloftlaw11_SlotsOnly.j0 (k + 1) y0 y1 y2 y3 y4 y5 y6)) ∧ (∀ y0 y1 y2 y3 y4 y5 y6 y7 y8, LeO (bitloftlaw11_SlotsOnly.j1 k y0 y1 y2 y3 y4 y5 y6 y7 y8) (bitloftlaw11_SlotsOnly.j1 (k + 1) y0 y1 y2 y3 y4 y5 y6 y7 y8)) ∧ (∀ y0 y1 y2 y3 y4 y5 y6 y7 y8, LeO (bitloftlaw11_SlotsOnly.l0 k y0 y1 y2 y3 y4 y5 y6 y7 y8) (bitloftlaw11_SlotsOnly.l0 (k + 1) y0 y1 y2 y3 y4 y5 y6 y7 y8)) ∧ (∀ y0 y1 y2 y3 y4 y5 y6 y7 y8 y9, LeO (bitloftlaw11_SlotsOnly.l1 k y0 y1 y2 y3 y4 y5 y6 y7 y8 y9) (bitloftlaw11_SlotsOnly.l1 (k + 1) y0 y1 y2 y3 y4 y5 y6 y7 y8 y9)) ∧ (∀ y0 y1 y2 y3 y4 y5 y6 y7 y8 y9 y10, LeO (bitloftlaw11_SlotsOnly.j4 k y0 y1 y2 y3 y4 y5 y6 y7 y8 y9 y10) (bitloftlaw11_SlotsOnly.j4 (k + 1) y0 y1 y2 y3 y4 y5 y6 y7 y8 y9 y10)) ∧ (∀ y0, LeO (bitloftlaw11_SlotsOnly.j5 k y0) (bitloftlaw11_SlotsOnly.j5 (k + 1) y0))
 | 0 => ⟨fun _ _ _ _ _ _ _ r h => by simp [bitloftlaw11_SlotsOnly.j0] at h, fun _ _ _ _ _ _ _ _ _ r h => by simp [bitloftlaw11_SlotsOnly.j1] at h, fun _ _ _ _ _ _ _ _ _ r h => by simp [bitloftlaw11_SlotsOnly.l0] at h, fun _ _ _ _ _ _ _ _ _ _ r h => by simp [bitloftlaw11_SlotsOnly.l1] at h, fun _ _ _ _ _ _ _ _ _ _ _ r h => by simp [bitloftlaw11_SlotsOnly.j4] at h, fun _ r h => by simp [bitloftlaw11_SlotsOnly.j5] at h⟩
 | k + 1 => by
  obtain ⟨ih0, ih1, ih2, ih3, ih4, ih5⟩ := bitloftlaw11_SlotsOnly.mono_l k; refine ⟨?_, ?_, ?_, ?_, ?_, ?_⟩
  ·
   intro y0 y1 y2 y3 y4 y5 y6
   unfold bitloftlaw11_SlotsOnly.j0
   repeat' first
   | (with_reducible exact ih0 _ _ _ _ _ _ _)
   | (with_reducible exact ih1 _ _ _ _ _ _ _ _ _)
   | (with_reducible exact ih2 _ _ _ _ _ _ _ _ _)
   | (with_reducible exact ih3 _ _ _ _ _ _ _ _ _ _)
   | (with_reducible exact ih4 _ _ _ _ _ _ _ _ _ _ _)
   | (with_reducible exact ih5 _)
   | (with_reducible exact bitloftlaw11_alive.mono _)
   | (with_reducible exact bitloftlaw11_fit.mono _ _ _)
   | (with_reducible exact bitloftref11_At.mono _ _ _ _ _)
   | (with_reducible exact bitloftref11_Same.mono _ _ _ _ _)
   | (with_reducible exact slots_Bit.mono _ _ _ _ _ _)
   | (with_reducible exact slots_Get.mono _ _ _ _ _)
   | (with_reducible exact slots_Set.mono _ _ _ _ _ _)
   | (with_reducible exact states_Next.mono _ _ _)
   | (with_reducible exact LeO.refl _)
   | (with_reducible exact LeO.none _)
   | (with_reducible refine LeO.ite ?_ ?_)
   | (with_reducible refine LeO.bind ?_ (fun _ => ?_))
   | exact ih0 _ _ _ _ _ _ _
   | exact ih1 _ _ _ _ _ _ _ _ _
   | exact ih2 _ _ _ _ _ _ _ _ _
   | exact ih3 _ _ _ _ _ _ _ _ _ _
   | exact ih4 _ _ _ _ _ _ _ _ _ _ _
   | exact ih5 _
   | exact bitloftlaw11_alive.mono _
   | exact bitloftlaw11_fit.mono _ _ _
   | exact bitloftref11_At.mono _ _ _ _ _
   | exact bitloftref11_Same.mono _ _ _ _ _
   | exact slots_Bit.mono _ _ _ _ _ _
   | exact slots_Get.mono _ _ _ _ _
   | exact slots_Set.mono _ _ _ _ _ _
   | exact states_Next.mono _ _ _
   | exact LeO.none _
   | refine LeO.ite ?_ ?_
   | refine LeO.bind ?_ (fun _ => ?_)
  ·
   intro y0 y1 y2 y3 y4 y5 y6 y7 y8
   unfold bitloftlaw11_SlotsOnly.j1
   repeat' first
   | (with_reducible exact ih0 _ _ _ _ _ _ _)
   | (with_reducible exact ih1 _ _ _ _ _ _ _ _ _)
   | (with_reducible exact ih2 _ _ _ _ _ _ _ _ _)
   | (with_reducible exact ih3 _ _ _ _ _ _ _ _ _ _)
   | (with_reducible exact ih4 _ _ _ _ _ _ _ _ _ _ _)
   | (with_reducible exact ih5 _)
   | (with_reducible exact bitloftlaw11_alive.mono _)
   | (with_reducible exact bitloftlaw11_fit.mono _ _ _)
   | (with_reducible exact bitloftref11_At.mono _ _ _ _ _)
   | (with_reducible exact bitloftref11_Same.mono _ _ _ _ _)
   | (with_reducible exact slots_Bit.mono _ _ _ _ _ _)
   | (with_reducible exact slots_Get.mono _ _ _ _ _)
   | (with_reducible exact slots_Set.mono _ _ _ _ _ _)
   | (with_reducible exact states_Next.mono _ _ _)
   | (with_reducible exact LeO.refl _)
   | (with_reducible exact LeO.none _)
   | (with_reducible refine LeO.ite ?_ ?_)
   | (with_reducible refine LeO.bind ?_ (fun _ => ?_))
   | exact ih0 _ _ _ _ _ _ _
   | exact ih1 _ _ _ _ _ _ _ _ _
   | exact ih2 _ _ _ _ _ _ _ _ _
   | exact ih3 _ _ _ _ _ _ _ _ _ _
   | exact ih4 _ _ _ _ _ _ _ _ _ _ _
   | exact ih5 _
   | exact bitloftlaw11_alive.mono _
   | exact bitloftlaw11_fit.mono _ _ _
   | exact bitloftref11_At.mono _ _ _ _ _
   | exact bitloftref11_Same.mono _ _ _ _ _
   | exact slots_Bit.mono _ _ _ _ _ _
   | exact slots_Get.mono _ _ _ _ _
   | exact slots_Set.mono _ _ _ _ _ _
   | exact states_Next.mono _ _ _
   | exact LeO.none _
   | refine LeO.ite ?_ ?_
   | refine LeO.bind ?_ (fun _ => ?_)
  ·
   intro y0 y1 y2 y3 y4 y5 y6 y7 y8
   unfold bitloftlaw11_SlotsOnly.l0
   repeat' first
   | (with_reducible exact ih0 _ _ _ _ _ _ _)
   | (with_reducible exact ih1 _ _ _ _ _ _ _ _ _)
   | (with_reducible exact ih2 _ _ _ _ _ _ _ _ _)
   | (with_reducible exact ih3 _ _ _ _ _ _ _ _ _ _)
   | (with_reducible exact ih4 _ _ _ _ _ _ _ _ _ _ _)
   | (with_reducible exact ih5 _)
   | (with_reducible exact bitloftlaw11_alive.mono _)
   | (with_reducible exact bitloftlaw11_fit.mono _ _ _)
   | (with_reducible exact bitloftref11_At.mono _ _ _ _ _)
   | (with_reducible exact bitloftref11_Same.mono _ _ _ _ _)
   | (with_reducible exact slots_Bit.mono _ _ _ _ _ _)
   | (with_reducible exact slots_Get.mono _ _ _ _ _)
   | (with_reducible exact slots_Set.mono _ _ _ _ _ _)
   | (with_reducible exact states_Next.mono _ _ _)
   | (with_reducible exact LeO.refl _)
   | (with_reducible exact LeO.none _)
   | (with_reducible refine LeO.ite ?_ ?_)
   | (with_reducible refine LeO.bind ?_ (fun _ => ?_))
   | exact ih0 _ _ _ _ _ _ _
   | exact ih1 _ _ _ _ _ _ _ _ _
   | exact ih2 _ _ _ _ _ _ _ _ _
   | exact ih3 _ _ _ _ _ _ _ _ _ _
   | exact ih4 _ _ _ _ _ _ _ _ _ _ _
   | exact ih5 _
   | exact bitloftlaw11_alive.mono _
   | exact bitloftlaw11_fit.mono _ _ _
   | exact bitloftref11_At.mono _ _ _ _ _
   | exact bitloftref11_Same.mono _ _ _ _ _
   | exact slots_Bit.mono _ _ _ _ _ _
   | exact slots_Get.mono _ _ _ _ _
   | exact slots_Set.mono _ _ _ _ _ _
   | exact states_Next.mono _ _ _
   | exact LeO.none _
   | refine LeO.ite ?_ ?_
   | refine LeO.bind ?_ (fun _ => ?_)
  ·
   intro y0 y1 y2 y3 y4 y5 y6 y7 y8 y9
   unfold bitloftlaw11_SlotsOnly.l1
   repeat' first
   | (with_reducible exact ih0 _ _ _ _ _ _ _)
   | (with_reducible exact ih1 _ _ _ _ _ _ _ _ _)
   | (with_reducible exact ih2 _ _ _ _ _ _ _ _ _)
   | (with_reducible exact ih3 _ _ _ _ _ _ _ _ _ _)
   | (with_reducible exact ih4 _ _ _ _ _ _ _ _ _ _ _)
   | (with_reducible exact ih5 _)
   | (with_reducible exact bitloftlaw11_alive.mono _)
   | (with_reducible exact bitloftlaw11_fit.mono _ _ _)
   | (with_reducible exact bitloftref11_At.mono _ _ _ _ _)
   | (with_reducible exact bitloftref11_Same.mono _ _ _ _ _)
   | (with_reducible exact slots_Bit.mono _ _ _ _ _ _)
   | (with_reducible exact slots_Get.mono _ _ _ _ _)
   | (with_reducible exact slots_Set.mono _ _ _ _ _ _)
   | (with_reducible exact states_Next.mono _ _ _)
   | (with_reducible exact LeO.refl _)
   | (with_reducible exact LeO.none _)
   | (with_reducible refine LeO.ite ?_ ?_)
   | (with_reducible refine LeO.bind ?_ (fun _ => ?_))
   | exact ih0 _ _ _ _ _ _ _
   | exact ih1 _ _ _ _ _ _ _ _ _
   | exact ih2 _ _ _ _ _ _ _ _ _
   | exact ih3 _ _ _ _ _ _ _ _ _ _
   | exact ih4 _ _ _ _ _ _ _ _ _ _ _
   | exact ih5 _
   | exact bitloftlaw11_alive.mono _
   | exact bitloftlaw11_fit.mono _ _ _
   | exact bitloftref11_At.mono _ _ _ _ _
   | exact bitloftref11_Same.mono _ _ _ _ _
   | exact slots_Bit.mono _ _ _ _ _ _
   | exact slots_Get.mono _ _ _ _ _
   | exact slots_Set.mono _ _ _ _ _ _
   | exact states_Next.mono _ _ _
   | exact LeO.none _
   | refine LeO.ite ?_ ?_
   | refine LeO.bind ?_ (fun _ => ?_)
  ·
   intro y0 y1 y2 y3 y4 y5 y6 y7 y8 y9 y10
   unfold bitloftlaw11_SlotsOnly.j4
   repeat' first
   | (with_reducible exact ih0 _ _ _ _ _ _ _)
   | (with_reducible exact ih1 _ _ _ _ _ _ _ _ _)
   | (with_reducible exact ih2 _ _ _ _ _ _ _ _ _)
   | (with_reducible exact ih3 _ _ _ _ _ _ _ _ _ _)
   | (with_reducible exact ih4 _ _ _ _ _ _ _ _ _ _ _)
   | (with_reducible exact ih5 _)
   | (with_reducible exact bitloftlaw11_alive.mono _)
   | (with_reducible exact bitloftlaw11_fit.mono _ _ _)
   | (with_reducible exact bitloftref11_At.mono _ _ _ _ _)
   | (with_reducible exact bitloftref11_Same.mono _ _ _ _ _)
   | (with_reducible exact slots_Bit.mono _ _ _ _ _ _)
   | (with_reducible exact slots_Get.mono _ _ _ _ _)
   | (with_reducible exact slots_Set.mono _ _ _ _ _ _)
   | (with_reducible exact states_Next.mono _ _ _)
   | (with_reducible exact LeO.refl _)
   | (with_reducible exact LeO.none _)
   | (with_reducible refine LeO.ite ?_ ?_)
   | (with_reducible refine LeO.bind ?_ (fun _ => ?_))
   | exact ih0 _ _ _ _ _ _ _
   | exact ih1 _ _ _ _ _ _ _ _ _
   | exact ih2 _ _ _ _ _ _ _ _ _
   | exact ih3 _ _ _ _ _ _ _ _ _ _
   | exact ih4 _ _ _ _ _ _ _ _ _ _ _
   | exact ih5 _
   | exact bitloftlaw11_alive.mono _
   | exact bitloftlaw11_fit.mono _ _ _
   | exact bitloftref11_At.mono _ _ _ _ _
   | exact bitloftref11_Same.mono _ _ _ _ _
   | exact slots_Bit.mono _ _ _ _ _ _
   | exact slots_Get.mono _ _ _ _ _
   | exact slots_Set.mono _ _ _ _ _ _
   | exact states_Next.mono _ _ _
   | exact LeO.none _
   | refine LeO.ite ?_ ?_
   | refine LeO.bind ?_ (fun _ => ?_)
  ·
   intro y0
   unfold bitloftlaw11_SlotsOnly.j5
   repeat' first
   | (with_reducible exact ih0 _ _ _ _ _ _ _)
   | (with_reducible exact ih1 _ _ _ _ _ _ _ _ _)
   | (with_reducible exact ih2 _ _ _ _ _ _ _ _ _)
   | (with_reducible exact ih3 _ _ _ _ _ _ _ _ _ _)
   | (with_reducible exact ih4 _ _ _ _ _ _ _ _ _ _ _)
   | (with_reducible exact ih5 _)
   | (with_reducible exact bitloftlaw11_alive.mono _)
   | (with_reducible exact bitloftlaw11_fit.mono _ _ _)
   | (with_reducible exact bitloftref11_At.mono _ _ _ _ _)
   | (with_reducible exact bitloftref11_Same.mono _ _ _ _ _)
   | (with_reducible exact slots_Bit.mono _ _ _ _ _ _)
   | (with_reducible exact slots_Get.mono _ _ _ _ _)
   | (with_reducible exact slots_Set.mono _ _ _ _ _ _)
   | (with_reducible exact states_Next.mono _ _ _)
   | (with_reducible exact LeO.refl _)
   | (with_reducible exact LeO.none _)
   | (with_reducible refine LeO.ite ?_ ?_)
   | (with_reducible refine LeO.bind ?_ (fun _ => ?_))
   | exact ih0 _ _ _ _ _ _ _
   | exact ih1 _ _ _ _ _ _ _ _ _
   | exact ih2 _ _ _ _ _ _ _ _ _
   | exact ih3 _ _ _ _ _ _ _ _ _ _
   | exact ih4 _ _ _ _ _ _ _ _ _ _ _
   | exact ih5 _
   | exact bitloftlaw11_alive.mono _
   | exact bitloftlaw11_fit.mono _ _ _
   | exact bitloftref11_At.mono _ _ _ _ _
   | exact bitloftref11_Same.mono _ _ _ _ _
   | exact slots_Bit.mono _ _ _ _ _ _
   | exact slots_Get.mono _ _ _ _ _
   | exact slots_Set.mono _ _ _ _ _ _
   | exact states_Next.mono _ _ _
   | exact LeO.none _
   | refine LeO.ite ?_ ?_
   | refine LeO.bind ?_ (fun _ => ?_)
theorem bitloftlaw11_SlotsOnly.mono : ∀ a0 a1 a2 a3 a4 a5 k, LeO (bitloftlaw11_SlotsOnly.f k a0 a1 a2 a3 a4 a5) (bitloftlaw11_SlotsOnly.f (k + 1) a0 a1 a2 a3 a4 a5) := by
 intro a0 a1 a2 a3 a4 a5 k; obtain ⟨ih0, ih1, ih2, ih3, ih4, ih5⟩ := bitloftlaw11_SlotsOnly.mono_l k
 unfold bitloftlaw11_SlotsOnly.f
 repeat' first
   | (with_reducible exact ih0 _ _ _ _ _ _ _)
   | (with_reducible exact ih1 _ _ _ _ _ _ _ _ _)
   | (with_reducible exact ih2 _ _ _ _ _ _ _ _ _)
   | (with_reducible exact ih3 _ _ _ _ _ _ _ _ _ _)
   | (with_reducible exact ih4 _ _ _ _ _ _ _ _ _ _ _)
   | (with_reducible exact ih5 _)
   | (with_reducible exact bitloftlaw11_alive.mono _)
   | (with_reducible exact bitloftlaw11_fit.mono _ _ _)
   | (with_reducible exact bitloftref11_At.mono _ _ _ _ _)
   | (with_reducible exact bitloftref11_Same.mono _ _ _ _ _)
   | (with_reducible exact slots_Bit.mono _ _ _ _ _ _)
   | (with_reducible exact slots_Get.mono _ _ _ _ _)
   | (with_reducible exact slots_Set.mono _ _ _ _ _ _)
   | (with_reducible exact states_Next.mono _ _ _)
   | (with_reducible exact LeO.refl _)
   | (with_reducible exact LeO.none _)
   | (with_reducible refine LeO.ite ?_ ?_)
   | (with_reducible refine LeO.bind ?_ (fun _ => ?_))
   | exact ih0 _ _ _ _ _ _ _
   | exact ih1 _ _ _ _ _ _ _ _ _
   | exact ih2 _ _ _ _ _ _ _ _ _
   | exact ih3 _ _ _ _ _ _ _ _ _ _
   | exact ih4 _ _ _ _ _ _ _ _ _ _ _
   | exact ih5 _
   | exact bitloftlaw11_alive.mono _
   | exact bitloftlaw11_fit.mono _ _ _
   | exact bitloftref11_At.mono _ _ _ _ _
   | exact bitloftref11_Same.mono _ _ _ _ _
   | exact slots_Bit.mono _ _ _ _ _ _
   | exact slots_Get.mono _ _ _ _ _
   | exact slots_Set.mono _ _ _ _ _ _
   | exact states_Next.mono _ _ _
   | exact LeO.none _
   | refine LeO.ite ?_ ?_
   | refine LeO.bind ?_ (fun _ => ?_)
def bitloftlaw11_SlotsOnly.T5 : Bool × List (List Nat × List Nat) := (true, [([], []), ([], []), ([], []), ([], []), ([3], [3]), ([], []), ([], []), ([6], [6]), ([4, 5], [4, 5]), ([8], [8]), ([9, 7], [7, 9]), ([10], [10]), ([0, 1, 2, 11], [0, 1, 2, 11]), ([12], [12]), ([13], [13]), ([13], [13]), ([], []), ([16, 14, 12, 0, 1, 2, 3, 4, 5, 6, 7, 8, 9, 10, 11, 12, 13, 14, 16], [14, 16]), ([15, 17, 0, 1, 2, 3, 4, 5, 6, 7, 8, 9, 10, 11, 12, 13, 14, 15, 16, 17], [15])])
def bitloftlaw11_SlotsOnly.B5 : List Nat := [0, 0, 0, 0, 8, 0, 0, 64, 56, 312, 1016, 2040, 4095, 8191, 16383, 16383, 0, 98303, 262143]
theorem bitloftlaw11_SlotsOnly.tab5 : rtab .any (opsOf Try.f8 5) = bitloftlaw11_SlotsOnly.T5 := by kernel_rfl
theorem bitloftlaw11_SlotsOnly.bits5 : waitsOk bitloftlaw11_SlotsOnly.T5.2 bitloftlaw11_SlotsOnly.B5 = true := by kernel_rfl
def bitloftlaw11_SlotsOnly.T14 : Bool × List (List Nat × List Nat) := (true, [([], []), ([], []), ([0, 1], [0, 1]), ([2], [2]), ([3], [3]), ([3], [3]), ([5, 3], [3, 5]), ([4, 6, 3], [3, 4, 6]), ([3, 7], [3, 7]), ([8, 3], [8]), ([9], [9]), ([10, 9], [9, 10]), ([9], [9]), ([9], [9]), ([11, 12, 9], [9, 11, 12]), ([14, 9], [9, 14]), ([15, 13, 9], [9, 13, 15]), ([16, 9], [9, 16]), ([9], [9]), ([18, 9], [9, 18]), ([9], [9]), ([9], [9]), ([19, 20, 9], [9, 19, 20]), ([22, 9], [9, 22]), ([23, 21, 9], [9, 21, 23]), ([24, 9], [9, 24]), ([17, 25, 9], [9, 17, 25]), ([9, 26], [9, 26]), ([27, 9], [27]), ([28], [28]), ([29, 28], [28, 29]), ([28], [28]), ([30, 31, 28], [28, 30, 31]), ([32, 28], [28, 32]), ([33, 28], [28, 33]), ([28], [28]), ([35, 28], [28, 35]), ([28], [28]), ([36, 37, 28], [28, 36, 37]), ([38, 28], [28, 38]), ([39, 28], [28, 39]), ([34, 40, 28], [28, 34, 40]), ([28, 41], [28, 41])])
def bitloftlaw11_SlotsOnly.B14 : List Nat := [0, 0, 3, 7, 15, 15, 47, 127, 255, 511, 1023, 2047, 1023, 1023, 8191, 24575, 65535, 131071, 1023, 263167, 1023, 1023, 1836031, 6030335, 16516095, 33293311, 67108863, 134217727, 268435455, 536870911, 1073741823, 536870911, 4294967295, 8589934591, 17179869183, 536870911, 34896609279, 536870911, 241055039487, 515932946431, 1065688760319, 2199023255551, 4398046511103]
theorem bitloftlaw11_SlotsOnly.tab14 : rtab .any (opsOf Try.f8 14) = bitloftlaw11_SlotsOnly.T14 := by kernel_rfl
theorem bitloftlaw11_SlotsOnly.bits14 : waitsOk bitloftlaw11_SlotsOnly.T14.2 bitloftlaw11_SlotsOnly.B14 = true := by kernel_rfl
set_option maxHeartbeats 8000000 in
set_option maxRecDepth 100000 in
theorem bitloftlaw11_SlotsOnly.calls (k : Nat) (a0_0 : Int) (A0_1 : Option Addr) (c0_1 : Nat) (l0_1 : List (S42)) (a1 : Int) (a2 : Int) (a3 : Int) (a4 : Int) (r : Bool) (w : World) (hr0_1 : Kd.C k42 w A0_1 l0_1.length l0_1) (hc0_1 : l0_1.length ≤ c0_1) (hr_ : r = true) (h : bitloftlaw11_SlotsOnly.f k a0_0 l0_1 a1 a2 a3 a4 = some r) :
  Calls Try.prog 8 #[.agg #[.int .i64 a0_0, .slice A0_1 l0_1.length c0_1], .int .i64 a1, .int .i64 a2, .int .u8 a3, .int .u8 a4] w fun e w' => e = .returned (.bool r) ∧ Below w.heap.size w w' := by
 have hu24 := Try.underlying24; have HRT_ := Aside0.mk hr_; clear hr_; have HR0_1 := Aside0.mk hr0_1; have HC0_1 := Aside0.mk hc0_1; clear hr0_1 hc0_1; have HB := Aside0.mk (Below.refl w.heap.size w); have H : ((bitloftlaw11_fit.f k a0_0 l0_1).bind fun t239 => (if t239 = true then ((bitloftref11_At.f k a0_0 l0_1 a1 a2).bind fun t240 => (if t240 = 0 then ((bitloftref08_State.f a3).bind fun t241 => (if t241 = true then (bitloftlaw11_SlotsOnly.j0 k a1 a2 a3 a4 (decide (a4 > 1)) a0_0 l0_1) else (bitloftlaw11_SlotsOnly.j0 k a1 a2 a3 a4 true a0_0 l0_1))) else (bitloftlaw11_SlotsOnly.j0 k a1 a2 a3 a4 true a0_0 l0_1))) else (bitloftlaw11_SlotsOnly.j0 k a1 a2 a3 a4 true a0_0 l0_1))) = some r := h; clear h; have HC6 := Aside0.mk H; clear H
 go_enter Try.func8, Try.ntmps8
 go_upto_region 1 with (first | ((with_reducible refine gate_dst (N := 5) rfl ?_); (try (refine gate_guard (by rfl) ?_; dsimp only)); refine box_event ?hg (N := 5) ?hd (cs := #[.int .i64 a0_0, .slice A0_1 l0_1.length c0_1]) (t := 24) ?hr ?_; (case hd => rfl); (case hg => rfl); (case hr => first | (go_simp; done) | (go_simp; rfl)); intro gb238 hg w7 hbox hb; have n0_ := Aside0.mk (below_step (pH_ HB.out) hb); have n1_ := Aside0.mk (hbox); have n2_ := Aside0.mk ((by rw [hg]; exact (below_size (pH_ HB.out)) : w.heap.size ≤ gb238)); have n3_ := Aside0.mk ((by rw [hg]; exact (below_size (pH_ HB.out)) : w.heap.size ≤ gb238)); clear HB; have HB := n0_; have BK238 := n1_; have GW238 := n2_; have GE238 := n3_; clear n0_ n1_ n2_ n3_; clear hb hbox hg))
 (try simp only [Act.put, sA_, sZ_, sS_]); (with_reducible first | refine then_id_ ?_ | (refine wp_tail_ ?_; intro Kt_ hKt_))
 go_cut [43] (fun v43 wc => ∃ (kq : Nat) (x43_5 : Bool), v43 = .bool x43_5 ∧ Aside0 (bitloftlaw11_SlotsOnly.j0 kq a1 a2 a3 a4 x43_5 a0_0 l0_1 = some r) ∧ Aside0 (kq ≤ k) ∧ Aside0 (wc.heap[gb238]? = some (.cells #[.int .i64 a0_0, (.slice A0_1 l0_1.length c0_1)] 24 (0, 0))) ∧ Aside0 (Below w.heap.size w wc))
 case first =>
  have H := HC6.out; clear HC6; replace H := Option.bind_eq_some_iff.mp H; obtain ⟨t239, A80, H⟩ := H; replace H : (if t239 = true then ((bitloftref11_At.f k a0_0 l0_1 a1 a2).bind fun t240 => (if t240 = 0 then ((bitloftref08_State.f a3).bind fun t241 => (if t241 = true then (bitloftlaw11_SlotsOnly.j0 k a1 a2 a3 a4 (decide (a4 > 1)) a0_0 l0_1) else (bitloftlaw11_SlotsOnly.j0 k a1 a2 a3 a4 true a0_0 l0_1))) else (bitloftlaw11_SlotsOnly.j0 k a1 a2 a3 a4 true a0_0 l0_1))) else (bitloftlaw11_SlotsOnly.j0 k a1 a2 a3 a4 true a0_0 l0_1)) = some r := H; have A8 := Aside0.mk A80; clear A80
  by_cases c9 : t239 = true
  ·
   subst c9
   have H1 : ((bitloftref11_At.f k a0_0 l0_1 a1 a2).bind fun t240 => (if t240 = 0 then ((bitloftref08_State.f a3).bind fun t241 => (if t241 = true then (bitloftlaw11_SlotsOnly.j0 k a1 a2 a3 a4 (decide (a4 > 1)) a0_0 l0_1) else (bitloftlaw11_SlotsOnly.j0 k a1 a2 a3 a4 true a0_0 l0_1))) else (bitloftlaw11_SlotsOnly.j0 k a1 a2 a3 a4 true a0_0 l0_1))) = some r := by rw [if_pos rfl] at H; exact H
   clear H; have H := H1; clear H1; replace H := Option.bind_eq_some_iff.mp H; obtain ⟨t240, A100, H⟩ := H; replace H : (if t240 = 0 then ((bitloftref08_State.f a3).bind fun t241 => (if t241 = true then (bitloftlaw11_SlotsOnly.j0 k a1 a2 a3 a4 (decide (a4 > 1)) a0_0 l0_1) else (bitloftlaw11_SlotsOnly.j0 k a1 a2 a3 a4 true a0_0 l0_1))) else (bitloftlaw11_SlotsOnly.j0 k a1 a2 a3 a4 true a0_0 l0_1)) = some r := H; have A10 := Aside0.mk A100; clear A100
   by_cases c11 : t240 = 0
   ·
    rw [if_pos c11] at H; have c11b0 : (t240 == 0) = true := beq_iff_eq.mpr c11; have c11b1 : (t240 != 0) = false := bne_eq_false_iff_eq.mpr c11; clear c11; (first | rw [c11b0] | (simp only [i64_w, i32_w]; rw [c11b0]) | skip); replace H := Option.bind_eq_some_iff.mp H; obtain ⟨t241, A120, H⟩ := H; replace H : (if t241 = true then (bitloftlaw11_SlotsOnly.j0 k a1 a2 a3 a4 (decide (a4 > 1)) a0_0 l0_1) else (bitloftlaw11_SlotsOnly.j0 k a1 a2 a3 a4 true a0_0 l0_1)) = some r := H; have A12 := Aside0.mk A120; clear A120
    by_cases c13 : t241 = true
    ·
     subst c13
     have H1 : (bitloftlaw11_SlotsOnly.j0 k a1 a2 a3 a4 (decide (a4 > 1)) a0_0 l0_1) = some r := by rw [if_pos rfl] at H; exact H
     clear H; have H := H1; clear H1; have H' := Aside0.mk H; clear H; have hcz14_0 : w7.cell? ⟨gb238, 0, none⟩ = some (.int .i64 a0_0) := (blk_cell BK238.out 0).trans rfl; have hcz14_1 : w7.cell? ⟨gb238, 1, none⟩ = some (.slice A0_1 l0_1.length c0_1) := (blk_cell BK238.out 1).trans rfl; have hfz14_0 := blk_frozen BK238.out 0; have hfz14_1 := blk_frozen BK238.out 1
     go_wp2_with (first | ((with_reducible refine gate_callee (f := 25) rfl ?_); refine gL_ (some 26) Try.func25 #[.agg #[.int .i64 a0_0, .slice A0_1 l0_1.length c0_1]] ?_; (with_reducible refine (bitloftlaw11_fit.calls k a0_0 _ _ l0_1 true _ ?side1 ?side2 A8.out).mono ?_); (case side1 => repeat (first | exact (Kd.C_below HR0_1.out HB.out) | (with_reducible refine Kd.C_alloc ?_ _) | (with_reducible refine Kd.C_drewN ?_ _) | (with_reducible refine Kd.C_drew ?_))); (case side2 => exact HC0_1.out); rintro e w15 ⟨rfl, hb⟩; refine ⟨_, rfl, ?_⟩; have n0_ := Aside0.mk (blk_below (pG_ BK238.out) hb); have n1_ := Aside0.mk (below_step (pH_ HB.out) hb); clear BK238; clear HB; have BK238 := n0_; have HB := n1_; clear n0_ n1_; (try clear hb); have hcz16_0 : w15.cell? ⟨gb238, 0, none⟩ = some (.int .i64 a0_0) := (blk_cell BK238.out 0).trans rfl; have hcz16_1 : w15.cell? ⟨gb238, 1, none⟩ = some (.slice A0_1 l0_1.length c0_1) := (blk_cell BK238.out 1).trans rfl; have hfz16_0 := blk_frozen BK238.out 0; have hfz16_1 := blk_frozen BK238.out 1) | (go_at_call 30; (with_reducible refine (bitloftref11_At.calls k a0_0 _ _ l0_1 a1 a2 t240 _ ?side1 ?side2 A10.out).mono ?_); (case side1 => repeat (first | exact (Kd.C_below HR0_1.out HB.out) | (with_reducible refine Kd.C_alloc ?_ _) | (with_reducible refine Kd.C_drewN ?_ _) | (with_reducible refine Kd.C_drew ?_))); (case side2 => exact HC0_1.out); rintro e w17 ⟨rfl, hb⟩; have n0_ := Aside0.mk (blk_below (pG_ BK238.out) hb); have n1_ := Aside0.mk (below_step (pH_ HB.out) hb); clear BK238; clear HB; have BK238 := n0_; have HB := n1_; clear n0_ n1_; (try clear hb)) | (go_at_call 31; (with_reducible refine (bitloftref08_State.calls a3 true _ A12.out).mono ?_); rintro e w' ⟨rfl, ⟨nd, rfl⟩⟩))
     (first | go_meet | (refine Met.intro ?_; go_step; (repeat apply Exists.intro); refine ⟨?rel, ?eqf_⟩; case eqf_ => ((simp only [c11b0]) <;> rfl)))
     case rel => exact ⟨_, (decide (a4 > 1)), (by first | rfl | (simp; done) | (simp [*]; done)), H', ⟨by first | omega | exact Nat.le_refl _⟩, ⟨pG_ BK238.out⟩, ⟨pH_ HB.out⟩⟩
    ·
     replace c13 := Bool.eq_false_iff.mpr c13
     subst c13
     have H1 : (bitloftlaw11_SlotsOnly.j0 k a1 a2 a3 a4 true a0_0 l0_1) = some r := by rw [if_neg (show ¬ (false = true) by decide)] at H; exact H
     clear H; have H := H1; clear H1; have H' := Aside0.mk H; clear H; have hcz18_0 : w7.cell? ⟨gb238, 0, none⟩ = some (.int .i64 a0_0) := (blk_cell BK238.out 0).trans rfl; have hcz18_1 : w7.cell? ⟨gb238, 1, none⟩ = some (.slice A0_1 l0_1.length c0_1) := (blk_cell BK238.out 1).trans rfl; have hfz18_0 := blk_frozen BK238.out 0; have hfz18_1 := blk_frozen BK238.out 1
     go_wp2_with (first | ((with_reducible refine gate_callee (f := 25) rfl ?_); refine gL_ (some 26) Try.func25 #[.agg #[.int .i64 a0_0, .slice A0_1 l0_1.length c0_1]] ?_; (with_reducible refine (bitloftlaw11_fit.calls k a0_0 _ _ l0_1 true _ ?side1 ?side2 A8.out).mono ?_); (case side1 => repeat (first | exact (Kd.C_below HR0_1.out HB.out) | (with_reducible refine Kd.C_alloc ?_ _) | (with_reducible refine Kd.C_drewN ?_ _) | (with_reducible refine Kd.C_drew ?_))); (case side2 => exact HC0_1.out); rintro e w19 ⟨rfl, hb⟩; refine ⟨_, rfl, ?_⟩; have n0_ := Aside0.mk (blk_below (pG_ BK238.out) hb); have n1_ := Aside0.mk (below_step (pH_ HB.out) hb); clear BK238; clear HB; have BK238 := n0_; have HB := n1_; clear n0_ n1_; (try clear hb); have hcz20_0 : w19.cell? ⟨gb238, 0, none⟩ = some (.int .i64 a0_0) := (blk_cell BK238.out 0).trans rfl; have hcz20_1 : w19.cell? ⟨gb238, 1, none⟩ = some (.slice A0_1 l0_1.length c0_1) := (blk_cell BK238.out 1).trans rfl; have hfz20_0 := blk_frozen BK238.out 0; have hfz20_1 := blk_frozen BK238.out 1) | (go_at_call 30; (with_reducible refine (bitloftref11_At.calls k a0_0 _ _ l0_1 a1 a2 t240 _ ?side1 ?side2 A10.out).mono ?_); (case side1 => repeat (first | exact (Kd.C_below HR0_1.out HB.out) | (with_reducible refine Kd.C_alloc ?_ _) | (with_reducible refine Kd.C_drewN ?_ _) | (with_reducible refine Kd.C_drew ?_))); (case side2 => exact HC0_1.out); rintro e w21 ⟨rfl, hb⟩; have n0_ := Aside0.mk (blk_below (pG_ BK238.out) hb); have n1_ := Aside0.mk (below_step (pH_ HB.out) hb); clear BK238; clear HB; have BK238 := n0_; have HB := n1_; clear n0_ n1_; (try clear hb)) | (go_at_call 31; (with_reducible refine (bitloftref08_State.calls a3 false _ A12.out).mono ?_); rintro e w' ⟨rfl, ⟨nd, rfl⟩⟩))
     (first | go_meet | (refine Met.intro ?_; go_step; (repeat apply Exists.intro); refine ⟨?rel, ?eqf_⟩; case eqf_ => ((simp only [c11b0]) <;> rfl)))
     case rel => exact ⟨_, (true), (by first | rfl | (simp; done) | (simp [*]; done)), H', ⟨by first | omega | exact Nat.le_refl _⟩, ⟨pG_ BK238.out⟩, ⟨pH_ HB.out⟩⟩
   ·
    rw [if_neg c11] at H; have c11b0 : (t240 == 0) = false := beq_eq_false_iff_ne.mpr c11; have c11b1 : (t240 != 0) = true := bne_iff_ne.mpr c11; (first | rw [c11b0] | (simp only [i64_w, i32_w]; rw [c11b0]) | skip); have H' := Aside0.mk H; clear H; have hcz22_0 : w7.cell? ⟨gb238, 0, none⟩ = some (.int .i64 a0_0) := (blk_cell BK238.out 0).trans rfl; have hcz22_1 : w7.cell? ⟨gb238, 1, none⟩ = some (.slice A0_1 l0_1.length c0_1) := (blk_cell BK238.out 1).trans rfl; have hfz22_0 := blk_frozen BK238.out 0; have hfz22_1 := blk_frozen BK238.out 1
    go_wp2_with (first | ((with_reducible refine gate_callee (f := 25) rfl ?_); refine gL_ (some 26) Try.func25 #[.agg #[.int .i64 a0_0, .slice A0_1 l0_1.length c0_1]] ?_; (with_reducible refine (bitloftlaw11_fit.calls k a0_0 _ _ l0_1 true _ ?side1 ?side2 A8.out).mono ?_); (case side1 => repeat (first | exact (Kd.C_below HR0_1.out HB.out) | (with_reducible refine Kd.C_alloc ?_ _) | (with_reducible refine Kd.C_drewN ?_ _) | (with_reducible refine Kd.C_drew ?_))); (case side2 => exact HC0_1.out); rintro e w23 ⟨rfl, hb⟩; refine ⟨_, rfl, ?_⟩; have n0_ := Aside0.mk (blk_below (pG_ BK238.out) hb); have n1_ := Aside0.mk (below_step (pH_ HB.out) hb); clear BK238; clear HB; have BK238 := n0_; have HB := n1_; clear n0_ n1_; (try clear hb); have hcz24_0 : w23.cell? ⟨gb238, 0, none⟩ = some (.int .i64 a0_0) := (blk_cell BK238.out 0).trans rfl; have hcz24_1 : w23.cell? ⟨gb238, 1, none⟩ = some (.slice A0_1 l0_1.length c0_1) := (blk_cell BK238.out 1).trans rfl; have hfz24_0 := blk_frozen BK238.out 0; have hfz24_1 := blk_frozen BK238.out 1) | (go_at_call 30; (with_reducible refine (bitloftref11_At.calls k a0_0 _ _ l0_1 a1 a2 t240 _ ?side1 ?side2 A10.out).mono ?_); (case side1 => repeat (first | exact (Kd.C_below HR0_1.out HB.out) | (with_reducible refine Kd.C_alloc ?_ _) | (with_reducible refine Kd.C_drewN ?_ _) | (with_reducible refine Kd.C_drew ?_))); (case side2 => exact HC0_1.out); rintro e w25 ⟨rfl, hb⟩; have n0_ := Aside0.mk (blk_below (pG_ BK238.out) hb); have n1_ := Aside0.mk (below_step (pH_ HB.out) hb); clear BK238; clear HB; have BK238 := n0_; have HB := n1_; clear n0_ n1_; (try clear hb)))
    (first | go_meet | (refine Met.intro ?_; go_step; (repeat apply Exists.intro); refine ⟨?rel, ?eqf_⟩; case eqf_ => ((simp only [c11b0]) <;> rfl)))
    case rel => exact ⟨_, (true), (by first | rfl | (simp; done) | (simp [*]; done)), H', ⟨by first | omega | exact Nat.le_refl _⟩, ⟨pG_ BK238.out⟩, ⟨pH_ HB.out⟩⟩
  ·
   replace c9 := Bool.eq_false_iff.mpr c9
   subst c9
   have H1 : (bitloftlaw11_SlotsOnly.j0 k a1 a2 a3 a4 true a0_0 l0_1) = some r := by rw [if_neg (show ¬ (false = true) by decide)] at H; exact H
   clear H; have H := H1; clear H1; have H' := Aside0.mk H; clear H; have hcz26_0 : w7.cell? ⟨gb238, 0, none⟩ = some (.int .i64 a0_0) := (blk_cell BK238.out 0).trans rfl; have hcz26_1 : w7.cell? ⟨gb238, 1, none⟩ = some (.slice A0_1 l0_1.length c0_1) := (blk_cell BK238.out 1).trans rfl; have hfz26_0 := blk_frozen BK238.out 0; have hfz26_1 := blk_frozen BK238.out 1
   go_wp2_with (first | ((with_reducible refine gate_callee (f := 25) rfl ?_); refine gL_ (some 26) Try.func25 #[.agg #[.int .i64 a0_0, .slice A0_1 l0_1.length c0_1]] ?_; (with_reducible refine (bitloftlaw11_fit.calls k a0_0 _ _ l0_1 false _ ?side1 ?side2 A8.out).mono ?_); (case side1 => repeat (first | exact (Kd.C_below HR0_1.out HB.out) | (with_reducible refine Kd.C_alloc ?_ _) | (with_reducible refine Kd.C_drewN ?_ _) | (with_reducible refine Kd.C_drew ?_))); (case side2 => exact HC0_1.out); rintro e w27 ⟨rfl, hb⟩; refine ⟨_, rfl, ?_⟩; have n0_ := Aside0.mk (blk_below (pG_ BK238.out) hb); have n1_ := Aside0.mk (below_step (pH_ HB.out) hb); clear BK238; clear HB; have BK238 := n0_; have HB := n1_; clear n0_ n1_; (try clear hb)))
   go_meet
   case rel => exact ⟨_, (true), (by first | rfl | (simp; done) | (simp [*]; done)), H', ⟨by first | omega | exact Nat.le_refl _⟩, ⟨pG_ BK238.out⟩, ⟨pH_ HB.out⟩⟩
 case rest =>
  as_aux_lemma =>
   (try (refine hKt_ _ _ ?_; clear hKt_; clear Kt_)); clear HC6
   try clear c1
   try clear c2
   try clear p2
   try clear c8
   try clear c9
   try clear c11
   try clear c11b0
   try clear c11b1
   try clear c13
   try clear c25
   try clear hcz14_0
   try clear hcz14_1
   try clear hcz16_0
   try clear hcz16_1
   try clear hcz18_0
   try clear hcz18_1
   try clear hcz20_0
   try clear hcz20_1
   try clear hcz22_0
   try clear hcz22_1
   try clear hcz24_0
   try clear hcz24_1
   try clear hcz26_0
   try clear hcz26_1
   try clear hfz14_0
   try clear hfz14_1
   try clear hfz16_0
   try clear hfz16_1
   try clear hfz18_0
   try clear hfz18_1
   try clear hfz20_0
   try clear hfz20_1
   try clear hfz22_0
   try clear hfz22_1
   try clear hfz24_0
   try clear hfz24_1
   try clear hfz26_0
   try clear hfz26_1
   obtain ⟨kq, x43_5, rfl, HA, HJ5, BK238, HB⟩ := hcut
   cases kq with
   | zero => exact absurd HA.out (by simp [bitloftlaw11_SlotsOnly.j0])
   | succ kj5 =>
    have H := HA.out; clear HA; simp only [bitloftlaw11_SlotsOnly.j0] at H
    by_cases c28 : x43_5 = true
    ·
     subst c28
     have H1 : ((bitloftlaw11_alive.f kj5).bind fun t242 => (some t242)) = some r := by rw [if_pos rfl] at H; exact H
     clear H; have H := H1; clear H1; replace H := Option.bind_eq_some_iff.mp H; obtain ⟨t242, A290, H⟩ := H; replace H : (some t242) = some r := H; have A29 := Aside0.mk A290; clear A290; obtain rfl := Option.some.inj H
     go_wp2_with (first | ((with_reducible refine gate_callee (f := 24) rfl ?_); refine gL_ (some 44) Try.func24 #[] ?_; (with_reducible refine (bitloftlaw11_alive.calls kj5  t242 _ A29.out).mono ?_); rintro e w30 ⟨rfl, hb⟩; refine ⟨_, rfl, ?_⟩; have n0_ := Aside0.mk (blk_below (pG_ BK238.out) hb); have n1_ := Aside0.mk (below_step (pH_ HB.out) hb); clear BK238; clear HB; have BK238 := n0_; have HB := n1_; clear n0_ n1_; (try clear hb)))
     go_ret
     exact ⟨by first | rfl | (simp [errW_none, errW_some] <;> rfl) | (simp [*, errW_none, errW_some] <;> rfl), pH_ HB.out⟩
    ·
     as_aux_lemma =>
      replace c28 := Bool.eq_false_iff.mpr c28
      subst c28
      have H1 : ((slots_Set.f kj5 a0_0 l0_1 a1 a2 a3).bind fun bt243 => ((slots_Get.f kj5 bt243.1 bt243.2.1 a1 a2).bind fun bt249 => (if 0 ≤ a1 then (if a1 < (l0_1.length : Int) then (if 0 ≤ (wrap64 (a2 - 1)) then (if (wrap64 (a2 - 1)) < 15 then ((slots_Set.f kj5 bt243.1 bt243.2.1 a1 a2 (rd (to40 (rd_T42 l0_1 a1).f1) (wrap64 (a2 - 1)))).bind fun bt252 => (if bt243.2.2 = 0 then (if bt249.2 = 0 then (if bt252.2.2 = 0 then (if bt249.1 = a3 then ((bitloftref11_Same.f kj5 bt252.1 bt252.2.1 a0_0 l0_1).bind fun t258 => (if t258 = true then (if (bt243.2.1.length : Int) = (l0_1.length : Int) then (bitloftlaw11_SlotsOnly.j1 kj5 a1 a2 a3 a4 (bt243.1 != a0_0) a0_0 l0_1 bt243.1 bt243.2.1) else (bitloftlaw11_SlotsOnly.j1 kj5 a1 a2 a3 a4 true a0_0 l0_1 bt243.1 bt243.2.1)) else (bitloftlaw11_SlotsOnly.j1 kj5 a1 a2 a3 a4 true a0_0 l0_1 bt243.1 bt243.2.1))) else (bitloftlaw11_SlotsOnly.j1 kj5 a1 a2 a3 a4 true a0_0 l0_1 bt243.1 bt243.2.1)) else (bitloftlaw11_SlotsOnly.j1 kj5 a1 a2 a3 a4 true a0_0 l0_1 bt243.1 bt243.2.1)) else (bitloftlaw11_SlotsOnly.j1 kj5 a1 a2 a3 a4 true a0_0 l0_1 bt243.1 bt243.2.1)) else (bitloftlaw11_SlotsOnly.j1 kj5 a1 a2 a3 a4 true a0_0 l0_1 bt243.1 bt243.2.1))) else (none)) else (none)) else (none)) else (none)))) = some r := by rw [if_neg (show ¬ (false = true) by decide)] at H; exact H
      clear H; have H := H1; clear H1; replace H := Option.bind_eq_some_iff.mp H; obtain ⟨⟨t243, t244, t247⟩, A310, H⟩ := H; replace H : ((slots_Get.f kj5 t243 t244 a1 a2).bind fun bt249 => (if 0 ≤ a1 then (if a1 < (l0_1.length : Int) then (if 0 ≤ (wrap64 (a2 - 1)) then (if (wrap64 (a2 - 1)) < 15 then ((slots_Set.f kj5 t243 t244 a1 a2 (rd (to40 (rd_T42 l0_1 a1).f1) (wrap64 (a2 - 1)))).bind fun bt252 => (if t247 = 0 then (if bt249.2 = 0 then (if bt252.2.2 = 0 then (if bt249.1 = a3 then ((bitloftref11_Same.f kj5 bt252.1 bt252.2.1 a0_0 l0_1).bind fun t258 => (if t258 = true then (if (t244.length : Int) = (l0_1.length : Int) then (bitloftlaw11_SlotsOnly.j1 kj5 a1 a2 a3 a4 (t243 != a0_0) a0_0 l0_1 t243 t244) else (bitloftlaw11_SlotsOnly.j1 kj5 a1 a2 a3 a4 true a0_0 l0_1 t243 t244)) else (bitloftlaw11_SlotsOnly.j1 kj5 a1 a2 a3 a4 true a0_0 l0_1 t243 t244))) else (bitloftlaw11_SlotsOnly.j1 kj5 a1 a2 a3 a4 true a0_0 l0_1 t243 t244)) else (bitloftlaw11_SlotsOnly.j1 kj5 a1 a2 a3 a4 true a0_0 l0_1 t243 t244)) else (bitloftlaw11_SlotsOnly.j1 kj5 a1 a2 a3 a4 true a0_0 l0_1 t243 t244)) else (bitloftlaw11_SlotsOnly.j1 kj5 a1 a2 a3 a4 true a0_0 l0_1 t243 t244))) else (none)) else (none)) else (none)) else (none))) = some r := H; have A31 := Aside0.mk A310; clear A310; replace H := Option.bind_eq_some_iff.mp H; obtain ⟨⟨t249, t250⟩, A320, H⟩ := H; replace H : (if 0 ≤ a1 then (if a1 < (l0_1.length : Int) then (if 0 ≤ (wrap64 (a2 - 1)) then (if (wrap64 (a2 - 1)) < 15 then ((slots_Set.f kj5 t243 t244 a1 a2 (rd (to40 (rd_T42 l0_1 a1).f1) (wrap64 (a2 - 1)))).bind fun bt252 => (if t247 = 0 then (if t250 = 0 then (if bt252.2.2 = 0 then (if t249 = a3 then ((bitloftref11_Same.f kj5 bt252.1 bt252.2.1 a0_0 l0_1).bind fun t258 => (if t258 = true then (if (t244.length : Int) = (l0_1.length : Int) then (bitloftlaw11_SlotsOnly.j1 kj5 a1 a2 a3 a4 (t243 != a0_0) a0_0 l0_1 t243 t244) else (bitloftlaw11_SlotsOnly.j1 kj5 a1 a2 a3 a4 true a0_0 l0_1 t243 t244)) else (bitloftlaw11_SlotsOnly.j1 kj5 a1 a2 a3 a4 true a0_0 l0_1 t243 t244))) else (bitloftlaw11_SlotsOnly.j1 kj5 a1 a2 a3 a4 true a0_0 l0_1 t243 t244)) else (bitloftlaw11_SlotsOnly.j1 kj5 a1 a2 a3 a4 true a0_0 l0_1 t243 t244)) else (bitloftlaw11_SlotsOnly.j1 kj5 a1 a2 a3 a4 true a0_0 l0_1 t243 t244)) else (bitloftlaw11_SlotsOnly.j1 kj5 a1 a2 a3 a4 true a0_0 l0_1 t243 t244))) else (none)) else (none)) else (none)) else (none)) = some r := H; have A32 := Aside0.mk A320; clear A320
      by_cases c33 : 0 ≤ a1
      ·
       as_aux_lemma =>
        rw [if_pos c33] at H; have c33b0 : decide (0 ≤ a1) = true := decide_eq_true c33; clear c33
        by_cases c34 : a1 < (l0_1.length : Int)
        ·
         as_aux_lemma =>
          rw [if_pos c34] at H; have c34b0 : decide (a1 < (l0_1.length : Int)) = true := decide_eq_true c34; clear c34; obtain ⟨ji35, hji35⟩ : ∃ j_ : Int, (wrap64 (a2 - 1)) = j_ := ⟨_, rfl⟩
          replace H : (if 0 ≤ (ji35) then (if (ji35) < 15 then ((slots_Set.f kj5 t243 t244 a1 a2 (rd (to40 (rd_T42 l0_1 a1).f1) (ji35))).bind fun bt252 => (if t247 = 0 then (if t250 = 0 then (if bt252.2.2 = 0 then (if t249 = a3 then ((bitloftref11_Same.f kj5 bt252.1 bt252.2.1 a0_0 l0_1).bind fun t258 => (if t258 = true then (if (t244.length : Int) = (l0_1.length : Int) then (bitloftlaw11_SlotsOnly.j1 kj5 a1 a2 a3 a4 (t243 != a0_0) a0_0 l0_1 t243 t244) else (bitloftlaw11_SlotsOnly.j1 kj5 a1 a2 a3 a4 true a0_0 l0_1 t243 t244)) else (bitloftlaw11_SlotsOnly.j1 kj5 a1 a2 a3 a4 true a0_0 l0_1 t243 t244))) else (bitloftlaw11_SlotsOnly.j1 kj5 a1 a2 a3 a4 true a0_0 l0_1 t243 t244)) else (bitloftlaw11_SlotsOnly.j1 kj5 a1 a2 a3 a4 true a0_0 l0_1 t243 t244)) else (bitloftlaw11_SlotsOnly.j1 kj5 a1 a2 a3 a4 true a0_0 l0_1 t243 t244)) else (bitloftlaw11_SlotsOnly.j1 kj5 a1 a2 a3 a4 true a0_0 l0_1 t243 t244))) else (none)) else (none)) = some r := by first | (rw [hji35] at H; exact H) | (simp only [hji35] at H ⊢; exact H)
          (try rw [hji35] at A31); (try rw [hji35] at A32); have hji35w : (IntKind.i64.wrap (a2 - 1)) = ji35 := (i64_w _).trans hji35
          by_cases c36 : 0 ≤ (ji35)
          ·
           as_aux_lemma =>
            rw [if_pos c36] at H; have c36b0 : decide (0 ≤ (ji35)) = true := decide_eq_true c36; clear c36
            by_cases c37 : (ji35) < 15
            ·
             as_aux_lemma =>
              rw [if_pos c37] at H; have c37b0 : decide ((ji35) < 15) = true := decide_eq_true c37; clear c37; replace H := Option.bind_eq_some_iff.mp H; obtain ⟨⟨t252, t253, t256⟩, A380, H⟩ := H; replace H : (if t247 = 0 then (if t250 = 0 then (if t256 = 0 then (if t249 = a3 then ((bitloftref11_Same.f kj5 t252 t253 a0_0 l0_1).bind fun t258 => (if t258 = true then (if (t244.length : Int) = (l0_1.length : Int) then (bitloftlaw11_SlotsOnly.j1 kj5 a1 a2 a3 a4 (t243 != a0_0) a0_0 l0_1 t243 t244) else (bitloftlaw11_SlotsOnly.j1 kj5 a1 a2 a3 a4 true a0_0 l0_1 t243 t244)) else (bitloftlaw11_SlotsOnly.j1 kj5 a1 a2 a3 a4 true a0_0 l0_1 t243 t244))) else (bitloftlaw11_SlotsOnly.j1 kj5 a1 a2 a3 a4 true a0_0 l0_1 t243 t244)) else (bitloftlaw11_SlotsOnly.j1 kj5 a1 a2 a3 a4 true a0_0 l0_1 t243 t244)) else (bitloftlaw11_SlotsOnly.j1 kj5 a1 a2 a3 a4 true a0_0 l0_1 t243 t244)) else (bitloftlaw11_SlotsOnly.j1 kj5 a1 a2 a3 a4 true a0_0 l0_1 t243 t244)) = some r := H; have A38 := Aside0.mk A380; clear A380; have HC39 := Aside0.mk H; clear H; have hcz40_0 : wc.cell? ⟨gb238, 0, none⟩ = some (.int .i64 a0_0) := (blk_cell BK238.out 0).trans rfl; have hcz40_1 : wc.cell? ⟨gb238, 1, none⟩ = some (.slice A0_1 l0_1.length c0_1) := (blk_cell BK238.out 1).trans rfl; have hfz40_0 := blk_frozen BK238.out 0; have hfz40_1 := blk_frozen BK238.out 1
              try go_wp2_with (first | ((with_reducible refine gate_callee (f := 20) rfl ?_); refine gL_ (some 50) Try.func20 #[.agg #[.int .i64 a0_0, .slice A0_1 l0_1.length c0_1], .int .i64 a1, .int .i64 a2, .int .u8 a3] ?_; (with_reducible refine (slots_Set.calls kj5 a0_0 _ _ l0_1 a1 a2 a3 t243 t244 t247 _ ?side1 ?side2 A31.out).mono ?_); (case side1 => repeat (first | exact (Kd.C_below HR0_1.out HB.out) | (with_reducible refine Kd.C_alloc ?_ _) | (with_reducible refine Kd.C_drewN ?_ _) | (with_reducible refine Kd.C_drew ?_))); (case side2 => exact HC0_1.out); rintro e w41 ⟨v245, rfl, ho0, hb⟩; refine ⟨_, rfl, ?_⟩; have n0_ := Aside0.mk (Kd.R_lower ho0 (below_size (pH_ HB.out))); have n1_ := Aside0.mk (blk_below (pG_ BK238.out) hb); have n2_ := Aside0.mk (below_step (pH_ HB.out) hb); clear BK238; clear HB; have HO246 := n0_; have BK238 := n1_; have HB := n2_; clear n0_ n1_ n2_; (try clear hb); (try clear ho0)) | ((with_reducible refine gate_dst (N := 11) rfl ?_); (try (refine gate_guard (by rfl) ?_; dsimp only)); refine box_event ?hg (N := 11) ?hd (cs := #[.int .i64 0, .slice none 0 0]) (t := 24) ?hr ?_; (case hd => rfl); (case hg => rfl); (case hr => first | (go_simp; done) | (go_simp; rfl)); intro gb248 hg w42 hbox hb; have n0_ := Aside0.mk (Kd.R_below (pL_ HO246.out) hb); have n1_ := Aside0.mk (blk_below (pG_ BK238.out) hb); have n2_ := Aside0.mk (below_step (pH_ HB.out) hb); have n3_ := Aside0.mk (hbox); have n4_ := Aside0.mk ((by rw [hg]; exact (below_size (pH_ HB.out)) : w.heap.size ≤ gb248)); have n5_ := Aside0.mk ((by rw [hg]; exact (below_size (pH_ HB.out)) : w.heap.size ≤ gb248)); have n6_ := Aside0.mk ((by rw [hg]; exact Nat.ne_of_lt (blk_lt (pG_ BK238.out)) : gb238 ≠ gb248)); have n7_ := Aside0.mk ((by rw [hg]; exact Nat.ne_of_gt (blk_lt (pG_ BK238.out)) : gb248 ≠ gb238)); clear HO246; clear BK238; clear HB; have HO246 := n0_; have BK238 := n1_; have HB := n2_; have BK248 := n3_; have GW248 := n4_; have GE248 := n5_; have NB238_248 := n6_; have NB248_238 := n7_; clear n0_ n1_ n2_ n3_ n4_ n5_ n6_ n7_; clear hb hbox hg; have hnb43 := NB248_238.out; have hnc43 := NB238_248.out; have hcz44_0 : w42.cell? ⟨gb248, 0, none⟩ = some (.int .i64 0) := (blk_cell BK248.out 0).trans rfl; have hcz44_1 : w42.cell? ⟨gb248, 1, none⟩ = some (.slice none 0 0) := (blk_cell BK248.out 1).trans rfl; have hfz44_0 := blk_frozen BK248.out 0; have hfz44_1 := blk_frozen BK248.out 1; obtain ⟨Ao45, co45, eo45⟩ := Kd.R_slice HO246.out; subst eo45) | ((with_reducible refine gate_callee (f := 18) rfl ?_); refine gL_ (some 57) Try.func18 #[.agg #[.int .i64 t243, .slice Ao45 t244.length co45], .int .i64 a1, .int .i64 a2] ?_; (with_reducible refine (slots_Get.calls kj5 t243 _ _ t244 a1 a2 t249 t250 _ ?side1 ?side2 A32.out).mono ?_); (case side1 => refine (Kd.R_reads' (e := 42) (base := w.heap.size) (ok := fun k_ => True) (n := t244.length) (c := co45) ?_).2.2; exact (by (with_reducible repeat (first | apply rA_ | apply rN_ | apply rD_)); exact (Kd.R_mono (Kd.R_far (p := ⟨gb248, 1, none⟩) (Kd.R_far (p := ⟨gb248, 0, none⟩) (Kd.R_types HO246.out BK248.out (by decide)) (fun _ hk => hk.2) (.int .i64 t243)) (fun _ hk => hk.2) (.slice Ao45 t244.length co45)) (fun _ h_ => h_.1)))); (case side2 => exact (Kd.R_reads' HO246.out).2.1); rintro e w46 ⟨rfl, hb⟩; refine ⟨_, rfl, ?_⟩; have n0_ := Aside0.mk (Kd.R_below (by (with_reducible repeat (first | apply rA_ | apply rN_ | apply rD_)); exact (Kd.R_mono (Kd.R_far (p := ⟨gb248, 1, none⟩) (Kd.R_far (p := ⟨gb248, 0, none⟩) (Kd.R_types HO246.out BK248.out (by decide)) (fun _ hk => hk.2) (.int .i64 t243)) (fun _ hk => hk.2) (.slice Ao45 t244.length co45)) (fun _ h_ => h_.1))) hb); have n1_ := Aside0.mk (blk_below (g := gb238) (o := .cells #[.int .i64 a0_0, .slice A0_1 l0_1.length c0_1] 24 (0, 0)) (by (with_reducible repeat (first | refine blk_drewN ?_ _ | refine blk_drew ?_ | refine blk_alloc ?_ _)); refine blk_far ?_ NB238_248.out _; (with_reducible repeat (first | refine blk_drewN ?_ _ | refine blk_drew ?_ | refine blk_alloc ?_ _)); refine blk_far ?_ NB238_248.out _; (with_reducible repeat (first | refine blk_drewN ?_ _ | refine blk_drew ?_ | refine blk_alloc ?_ _)); exact BK238.out) hb); have n2_ := Aside0.mk (blk_below (g := gb248) (o := .cells #[.int .i64 t243, .slice Ao45 t244.length co45] 24 (0, 0)) (by (with_reducible repeat (first | refine blk_drewN ?_ _ | refine blk_drew ?_ | refine blk_alloc ?_ _)); refine blk_put (cs := #[.int .i64 t243, .slice none 0 0]) ?_ 1 _ rfl; (with_reducible repeat (first | refine blk_drewN ?_ _ | refine blk_drew ?_ | refine blk_alloc ?_ _)); refine blk_put (cs := #[.int .i64 0, .slice none 0 0]) ?_ 0 _ rfl; (with_reducible repeat (first | refine blk_drewN ?_ _ | refine blk_drew ?_ | refine blk_alloc ?_ _)); exact BK248.out) hb); have n3_ := Aside0.mk (below_step (pH_ HB.out) hb); clear HO246; clear BK238; clear BK248; clear HB; have HO246 := n0_; have BK238 := n1_; have BK248 := n2_; have HB := n3_; clear n0_ n1_ n2_ n3_; (try clear hb)))
              have n0_ := Aside0.mk (Kd.R_drew HO246.out); have n1_ := Aside0.mk (blk_drew BK238.out); have n2_ := Aside0.mk (blk_drew BK248.out); have n3_ := Aside0.mk (below_drew1 HB.out); clear HO246; clear BK238; clear BK248; clear HB; have HO246 := n0_; have BK238 := n1_; have BK248 := n2_; have HB := n3_; clear n0_ n1_ n2_ n3_; have p251 : 0 ≤ (a1 : Int) := of_decide_eq_true (by first | (with_reducible assumption) | assumption); have q251 : a1 < (l0_1.length : Int) := of_decide_eq_true (by first | (with_reducible assumption) | assumption); obtain ⟨ad251, e251, hx251_0, hx251_1, hx251_2, hx251_3, hx251_4, hx251_5, hx251_6, hx251_7, hx251_8, hx251_9, hx251_10, hx251_11, hx251_12, hx251_13, hx251_14, hx251_15⟩ := at_T42 HR0_1.out a1 p251 q251; have hw251_15 := hx251_15; have hw251_14 := hx251_14; have hw251_13 := hx251_13; have hw251_12 := hx251_12; have hw251_11 := hx251_11; have hw251_10 := hx251_10; have hw251_9 := hx251_9; have hw251_8 := hx251_8; have hw251_7 := hx251_7; have hw251_6 := hx251_6; have hw251_5 := hx251_5; have hw251_4 := hx251_4; have hw251_3 := hx251_3; have hw251_2 := hx251_2; have hw251_1 := hx251_1; have hw251_0 := hx251_0
              cases e251
              replace hx251_0 := (HB.out.cell (World.block_lt_of_cell? w _ hx251_0)).trans hx251_0; replace hx251_1 := (HB.out.cell (World.block_lt_of_cell? w _ hx251_1)).trans hx251_1; replace hx251_2 := (HB.out.cell (World.block_lt_of_cell? w _ hx251_2)).trans hx251_2; replace hx251_3 := (HB.out.cell (World.block_lt_of_cell? w _ hx251_3)).trans hx251_3; replace hx251_4 := (HB.out.cell (World.block_lt_of_cell? w _ hx251_4)).trans hx251_4; replace hx251_5 := (HB.out.cell (World.block_lt_of_cell? w _ hx251_5)).trans hx251_5; replace hx251_6 := (HB.out.cell (World.block_lt_of_cell? w _ hx251_6)).trans hx251_6; replace hx251_7 := (HB.out.cell (World.block_lt_of_cell? w _ hx251_7)).trans hx251_7; replace hx251_8 := (HB.out.cell (World.block_lt_of_cell? w _ hx251_8)).trans hx251_8; replace hx251_9 := (HB.out.cell (World.block_lt_of_cell? w _ hx251_9)).trans hx251_9; replace hx251_10 := (HB.out.cell (World.block_lt_of_cell? w _ hx251_10)).trans hx251_10; replace hx251_11 := (HB.out.cell (World.block_lt_of_cell? w _ hx251_11)).trans hx251_11; replace hx251_12 := (HB.out.cell (World.block_lt_of_cell? w _ hx251_12)).trans hx251_12; replace hx251_13 := (HB.out.cell (World.block_lt_of_cell? w _ hx251_13)).trans hx251_13; replace hx251_14 := (HB.out.cell (World.block_lt_of_cell? w _ hx251_14)).trans hx251_14; replace hx251_15 := (HB.out.cell (World.block_lt_of_cell? w _ hx251_15)).trans hx251_15; replace p251 := eq_true p251; replace q251 := eq_true q251; have hsw48 := sel_cells_ (k := .u8) (s := 1) (n := 15) (to40 (rd_T42 l0_1 a1).f1) rfl (by intro i_ h_; match i_, h_ with | 0, _ => exact hw251_1 | 1, _ => exact hw251_2 | 2, _ => exact hw251_3 | 3, _ => exact hw251_4 | 4, _ => exact hw251_5 | 5, _ => exact hw251_6 | 6, _ => exact hw251_7 | 7, _ => exact hw251_8 | 8, _ => exact hw251_9 | 9, _ => exact hw251_10 | 10, _ => exact hw251_11 | 11, _ => exact hw251_12 | 12, _ => exact hw251_13 | 13, _ => exact hw251_14 | 14, _ => exact hw251_15) ((ji35) : Int) (of_decide_eq_true (by first | (with_reducible assumption) | assumption)) (of_decide_eq_true (by first | (with_reducible assumption) | assumption)); have pa48 : 0 ≤ ((ji35) : Int) := of_decide_eq_true (by first | (with_reducible assumption) | assumption); have qa48 : ((ji35) : Int) < 15 := of_decide_eq_true (by first | (with_reducible assumption) | assumption); replace pa48 := eq_true pa48; replace qa48 := eq_true qa48; refine start_ (n := 19) (S := fun w' => w'.cell? ⟨gb248, 0, none⟩ = some (.int .i64 t243) ∧ w'.cell? ⟨gb248, 1, none⟩ = some (.slice Ao45 t244.length co45) ∧ w'.cell? ⟨gb238, 0, none⟩ = some (.int .i64 a0_0) ∧ w'.cell? ⟨gb238, 1, none⟩ = some (.slice (some ad251) l0_1.length c0_1) ∧ w'.cell? ⟨(ad251.add ((a1).toNat * 16)).block, (ad251.add ((a1).toNat * 16)).off + 1 + (ji35).toNat, none⟩ = some (.int .u8 (rd (to40 (rd_T42 l0_1 a1).f1) (ji35)))) (ds := []) #[f_, f_, f_, f_, f_, f_, f_, f_, f_, f_, f_, f_, f_, f_, f_, f_, f_, f_, f_] (by kernel_rfl) rfl rfl ⟨(blk_cell BK248.out 0).trans rfl, (blk_cell BK248.out 1).trans rfl, (blk_cell BK238.out 0).trans rfl, (blk_cell BK238.out 1).trans rfl, ((HB.out.cell (World.block_lt_of_cell? w _ hsw48)).trans hsw48)⟩ (fun hHeld => ?_); refine with_tabW bitloftlaw11_SlotsOnly.tab5 bitloftlaw11_SlotsOnly.bits5 (fun HT_ HW_ => ?_)
              generalize w46.drew = w47 at HO246 BK238 BK248 HB hx251_0 hx251_1 hx251_10 hx251_11 hx251_12 hx251_13 hx251_14 hx251_15 hx251_2 hx251_3 hx251_4 hx251_5 hx251_6 hx251_7 hx251_8 hx251_9 hHeld ⊢
              refine pure_ (i := 1) (N := some 62) (v := ?_) (a' := ?_) #[f_, t_, f_, f_, f_, f_, f_, f_, f_, f_, f_, f_, f_, f_, f_, f_, f_, f_, f_] rfl rfl (any_of HT_.out (by kernel_rfl)) (fun _ _ _ h => h) (Or.inl ⟨by rfl, ?_⟩) ?_ ?_; rotate_left
              ·
               intro w'; go_simp
               with_reducible rfl
              rotate_left
              ·
               simp only [Act.put, sA_, sZ_, sS_, i64_w, i32_w]; rfl
              refine pure_ (i := 2) (N := some 63) (v := ?_) (a' := ?_) #[f_, t_, t_, f_, f_, f_, f_, f_, f_, f_, f_, f_, f_, f_, f_, f_, f_, f_, f_] rfl rfl (any_of HT_.out (by kernel_rfl)) (fun _ _ _ h => h) (Or.inl ⟨by rfl, ?_⟩) ?_ ?_; rotate_left
              ·
               intro w'; go_simp
               with_reducible rfl
              rotate_left
              ·
               simp only [Act.put, sA_, sZ_, sS_, i64_w, i32_w]; rfl
              refine pure_ (i := 3) (N := some 64) (v := ?_) (a' := ?_) #[f_, t_, t_, t_, f_, f_, f_, f_, f_, f_, f_, f_, f_, f_, f_, f_, f_, f_, f_] rfl rfl (any_of HT_.out (by kernel_rfl)) (fun _ _ _ h => h) (Or.inl ⟨by rfl, ?_⟩) ?_ ?_; rotate_left
              ·
               intro w'; go_simp
               with_reducible rfl
              rotate_left
              ·
               simp only [Act.put, sA_, sZ_, sS_, i64_w, i32_w]; rfl
              refine pure_ (i := 5) (N := some 66) (v := ?_) (a' := ?_) #[f_, t_, t_, t_, f_, t_, f_, f_, f_, f_, f_, f_, f_, f_, f_, f_, f_, f_, f_] rfl rfl (any_of HT_.out (by kernel_rfl)) (fun _ _ _ h => h) (Or.inl ⟨by rfl, ?_⟩) ?_ ?_; rotate_left
              ·
               intro w'; go_simp
               with_reducible rfl
              rotate_left
              ·
               simp only [Act.put, sA_, sZ_, sS_, i64_w, i32_w]; rfl
              refine pure_ (i := 6) (N := some 67) (v := ?_) (a' := ?_) #[f_, t_, t_, t_, f_, t_, t_, f_, f_, f_, f_, f_, f_, f_, f_, f_, f_, f_, f_] rfl rfl (any_of HT_.out (by kernel_rfl)) (fun _ _ _ h => h) (Or.inl ⟨by rfl, ?_⟩) ?_ ?_; rotate_left
              ·
               intro w'; go_simp
               with_reducible rfl
              rotate_left
              ·
               simp only [Act.put, sA_, sZ_, sS_, i64_w, i32_w]; rfl
              refine pure_ (i := 7) (N := some 68) (v := ?_) (a' := ?_) #[f_, t_, t_, t_, f_, t_, t_, t_, f_, f_, f_, f_, f_, f_, f_, f_, f_, f_, f_] rfl rfl (any_of HT_.out (by kernel_rfl)) (fun _ _ _ h => h) (Or.inl ⟨by rfl, ?_⟩) ?_ ?_; rotate_left
              ·
               intro w'; go_simp
               with_reducible rfl
              rotate_left
              ·
               simp only [Act.put, sA_, sZ_, sS_, i64_w, i32_w]; rfl
              refine take_ (i := 0) (N := some 61) (v := ?_) (a' := ?_) #[t_, t_, t_, t_, f_, t_, t_, t_, f_, f_, f_, f_, f_, f_, f_, f_, f_, f_, f_] rfl rfl (take_ofW HT_.out HW_.out (by kernel_rfl)) (fun _ _ _ h => h) (Or.inl ⟨by rfl, ?_⟩) hHeld ?_ ?_; rotate_left
              ·
               rintro w' ⟨s0, s1, s2, s3, s4⟩
               go_simp
               with_reducible rfl
              rotate_left
              ·
               simp only [Act.put, sA_, sZ_, sS_, i64_w, i32_w]; rfl
              refine take_ (i := 4) (N := some 65) (v := ?_) (a' := ?_) #[t_, t_, t_, t_, t_, t_, t_, t_, f_, f_, f_, f_, f_, f_, f_, f_, f_, f_, f_] rfl rfl (take_ofW HT_.out HW_.out (by kernel_rfl)) (fun _ _ _ h => h) (Or.inl ⟨by rfl, ?_⟩) hHeld ?_ ?_; rotate_left
              ·
               rintro w' ⟨s0, s1, s2, s3, s4⟩
               go_simp
               with_reducible rfl
              rotate_left
              ·
               simp only [Act.put, sA_, sZ_, sS_, i64_w, i32_w]; rfl
              refine pure_ (i := 8) (N := some 69) (v := ?_) (a' := ?_) #[t_, t_, t_, t_, t_, t_, t_, t_, t_, f_, f_, f_, f_, f_, f_, f_, f_, f_, f_] rfl rfl (any_of HT_.out (by kernel_rfl)) (fun _ _ _ h => h) (Or.inl ⟨by rfl, ?_⟩) ?_ ?_; rotate_left
              ·
               intro w'; go_simp
               with_reducible rfl
              rotate_left
              ·
               simp only [Act.put, sA_, sZ_, sS_, i64_w, i32_w]; rfl
              refine pure_ (i := 9) (N := some 70) (v := ?_) (a' := ?_) #[t_, t_, t_, t_, t_, t_, t_, t_, t_, t_, f_, f_, f_, f_, f_, f_, f_, f_, f_] rfl rfl (any_of HT_.out (by kernel_rfl)) (fun _ _ _ h => h) (Or.inl ⟨by rfl, ?_⟩) ?_ ?_; rotate_left
              ·
               intro w'; go_simp
               with_reducible rfl
              rotate_left
              ·
               simp only [Act.put, sA_, sZ_, sS_, i64_w, i32_w]; rfl
              refine pure_ (i := 10) (N := some 71) (v := ?_) (a' := ?_) #[t_, t_, t_, t_, t_, t_, t_, t_, t_, t_, t_, f_, f_, f_, f_, f_, f_, f_, f_] rfl rfl (any_of HT_.out (by kernel_rfl)) (fun _ _ _ h => h) (Or.inl ⟨by rfl, ?_⟩) ?_ ?_; rotate_left
              ·
               intro w'; go_simp
               with_reducible rfl
              rotate_left
              ·
               simp only [Act.put, sA_, sZ_, sS_, i64_w, i32_w]; rfl
              refine take_ (i := 11) (N := some 72) (v := ?_) (a' := ?_) #[t_, t_, t_, t_, t_, t_, t_, t_, t_, t_, t_, t_, f_, f_, f_, f_, f_, f_, f_] rfl rfl (take_ofW HT_.out HW_.out (by kernel_rfl)) (fun _ _ _ h => h) (Or.inl ⟨by rfl, ?_⟩) hHeld ?_ ?_; rotate_left
              ·
               rintro w' ⟨s0, s1, s2, s3, s4⟩
               go_simp
               with_reducible rfl
              rotate_left
              ·
               simp only [Act.put, sA_, sZ_, sS_, i64_w, i32_w]; rfl
              refine join_ (σ := Value × Nat) 2 #[t_, t_, t_, t_, t_, t_, t_, t_, t_, t_, t_, t_, t_, t_, t_, t_, t_, f_, f_] (fun s_ => [(73, .tuple #[.agg #[.int .i64 t252, s_.1], .int .i64 t256]), (15, .pointer (some ⟨s_.2, 0, none⟩)), (60, .tuple #[.agg #[.int .i64 t252, s_.1], .int .i64 t256]), (74, .agg #[.int .i64 t252, s_.1]), (75, .int .i64 t256)]) (fun s_ w' => (w'.cell? ⟨gb248, 0, none⟩ = some (.int .i64 t243) ∧ w'.cell? ⟨gb248, 1, none⟩ = some (.slice Ao45 t244.length co45) ∧ w'.cell? ⟨gb238, 0, none⟩ = some (.int .i64 a0_0) ∧ w'.cell? ⟨gb238, 1, none⟩ = some (.slice (some ad251) l0_1.length c0_1) ∧ w'.cell? ⟨(ad251.add ((a1).toNat * 16)).block, (ad251.add ((a1).toNat * 16)).off + 1 + (ji35).toNat, none⟩ = some (.int .u8 (rd (to40 (rd_T42 l0_1 a1).f1) (ji35)))) ∧ (Kd.R k42 42 w' w.heap.size (fun k_ => nO_ k_ s_.1) (.slice Ao45 t244.length co45) t244) ∧ (Kd.R k42 42 w' w.heap.size (fun k_ => nO_ k_ (.slice Ao45 t244.length co45)) s_.1 t253) ∧ (w'.heap[gb238]? = some (.cells #[.int .i64 a0_0, .slice (some ad251) l0_1.length c0_1] 24 (0, 0))) ∧ (w'.heap[gb248]? = some (.cells #[.int .i64 t243, .slice Ao45 t244.length co45] 24 (0, 0))) ∧ (w'.heap[s_.2]? = some (.cells #[.int .i64 0, .slice none 0 0] 24 (0, 0))) ∧ (w.heap.size ≤ s_.2) ∧ (w.heap.size ≤ s_.2) ∧ (gb238 ≠ s_.2) ∧ (s_.2 ≠ gb238) ∧ (gb248 ≠ s_.2) ∧ (s_.2 ≠ gb248) ∧ (Below w.heap.size w w')) ?_ ?_; rotate_left
              ·
               intro hCont; refine two_ (i := 12) (j := 16) (Ni := some 73) (Nj := some 15) #[t_, t_, t_, t_, t_, t_, t_, t_, t_, t_, t_, t_, t_, f_, f_, f_, f_, f_, f_] #[t_, t_, t_, t_, t_, t_, t_, t_, t_, t_, t_, t_, f_, f_, f_, f_, t_, f_, f_] rfl rfl rfl rfl (two_of HT_.out (by kernel_rfl)) (by decide) (by decide) (fun K hK => ?_) (fun K hK => ?_)
               ·
                skip
                refine goes_ Try.func20 (by kernel_rfl) rfl #[.agg #[.int .i64 t243, .slice Ao45 t244.length co45], .int .i64 a1, .int .i64 a2, .int .u8 (rd (to40 (rd_T42 l0_1 a1).f1) (ji35))] (by rfl) rfl rfl (by (try simp only [List.map_toArray, List.map_cons, List.map_nil]); first | done | (simp only [hji35]; rfl) | rfl | (simp only [List.length_drop, List.length_take]; rfl)) ?_
                with_reducible refine (slots_Set.calls kj5 t243 _ _ t244 a1 a2 (rd (to40 (rd_T42 l0_1 a1).f1) (ji35)) t252 t253 t256 _ ?side1 ?side2 A38.out).mono ?_
                (case side1 => repeat (first | exact (Kd.R_reads' HO246.out).2.2 | (with_reducible refine Kd.C_alloc ?_ _) | (with_reducible refine Kd.C_drewN ?_ _) | (with_reducible refine Kd.C_drew ?_))); (case side2 => exact (Kd.R_reads' HO246.out).2.1)
                rintro e w49 ⟨v254, rfl, ho0, hb⟩
                refine ⟨_, rfl, ?_⟩; have n0_ := Aside0.mk (Kd.R_elder' (pL_ HO246.out) (Kd.R_base ho0) hb); have n1_ := Aside0.mk (Kd.R_lower (Kd.R_new' ho0 (Kd.R_lt (pL_ HO246.out))) (below_size (pH_ HB.out))); have n2_ := Aside0.mk (blk_below (pG_ BK238.out) hb); have n3_ := Aside0.mk (blk_below (pG_ BK248.out) hb); have n4_ := Aside0.mk (below_step (pH_ HB.out) hb); clear HO246; clear BK238; clear BK248; clear HB; have HO246 := n0_; have HO255 := n1_; have BK238 := n2_; have BK248 := n3_; have HB := n4_; clear n0_ n1_ n2_ n3_ n4_; (try clear hb); (try clear hb2); (try clear hk); (try clear hi); (try clear ho0); refine hK.out _ _ ⟨(blk_cell BK248.out 0).trans rfl, (blk_cell BK248.out 1).trans rfl, (blk_cell BK238.out 0).trans rfl, (blk_cell BK238.out 1).trans rfl, ((HB.out.cell (World.block_lt_of_cell? w _ hsw48)).trans hsw48)⟩ (fun hHeld => ?_); clear hK K; refine norm_ (a' := ?_) ?_ ?_; rotate_left
                ·
                 show Act.put _ (some 73) _ = _
                 simp only [Act.put, sA_, sZ_, sS_, i64_w, i32_w]; rfl
                refine pure_ (i := 13) (N := some 60) (v := ?_) (a' := ?_) #[t_, t_, t_, t_, t_, t_, t_, t_, t_, t_, t_, t_, t_, t_, f_, f_, f_, f_, f_] rfl rfl (any_of HT_.out (by kernel_rfl)) (fun _ _ _ h => h) (Or.inl ⟨by rfl, ?_⟩) ?_ ?_; rotate_left
                ·
                 intro w'; go_simp
                 with_reducible rfl
                rotate_left
                ·
                 simp only [Act.put, sA_, sZ_, sS_, i64_w, i32_w]; rfl
                refine pure_ (i := 14) (N := some 74) (v := ?_) (a' := ?_) #[t_, t_, t_, t_, t_, t_, t_, t_, t_, t_, t_, t_, t_, t_, t_, f_, f_, f_, f_] rfl rfl (any_of HT_.out (by kernel_rfl)) (fun _ _ _ h => h) (Or.inl ⟨by rfl, ?_⟩) ?_ ?_; rotate_left
                ·
                 intro w'; go_simp
                 with_reducible rfl
                rotate_left
                ·
                 simp only [Act.put, sA_, sZ_, sS_, i64_w, i32_w]; rfl
                refine pure_ (i := 15) (N := some 75) (v := ?_) (a' := ?_) #[t_, t_, t_, t_, t_, t_, t_, t_, t_, t_, t_, t_, t_, t_, t_, t_, f_, f_, f_] rfl rfl (any_of HT_.out (by kernel_rfl)) (fun _ _ _ h => h) (Or.inl ⟨by rfl, ?_⟩) ?_ ?_; rotate_left
                ·
                 intro w'; go_simp
                 with_reducible rfl
                rotate_left
                ·
                 simp only [Act.put, sA_, sZ_, sS_, i64_w, i32_w]; rfl
                refine one_ (i := 16) (N := some 15) #[t_, t_, t_, t_, t_, t_, t_, t_, t_, t_, t_, t_, t_, t_, t_, t_, t_, f_, f_] rfl rfl (one_of HT_.out (by kernel_rfl)) (by decide) (fun K hK => ?_); refine box_step ?hg (N := 15) ?hd (cs := #[.int .i64 0, .slice none 0 0]) (t := 24) ?hr ?_; (case hd => rfl); (case hg => rfl); (case hr => first | (go_simp; done) | (go_simp; rfl)); intro gb257 hg w50 hbox hb; have n0_ := Aside0.mk (Kd.R_below (pL_ HO246.out) hb); have n1_ := Aside0.mk (Kd.R_below (pL_ HO255.out) hb); have n2_ := Aside0.mk (blk_below (pG_ BK238.out) hb); have n3_ := Aside0.mk (blk_below (pG_ BK248.out) hb); have n4_ := Aside0.mk (below_step (pH_ HB.out) hb); have n5_ := Aside0.mk (hbox); have n6_ := Aside0.mk ((by rw [hg]; exact (below_size (pH_ HB.out)) : w.heap.size ≤ gb257)); have n7_ := Aside0.mk ((by rw [hg]; exact (below_size (pH_ HB.out)) : w.heap.size ≤ gb257)); have n8_ := Aside0.mk ((by rw [hg]; exact Nat.ne_of_lt (blk_lt (pG_ BK238.out)) : gb238 ≠ gb257)); have n9_ := Aside0.mk ((by rw [hg]; exact Nat.ne_of_gt (blk_lt (pG_ BK238.out)) : gb257 ≠ gb238)); have n10_ := Aside0.mk ((by rw [hg]; exact Nat.ne_of_lt (blk_lt (pG_ BK248.out)) : gb248 ≠ gb257)); have n11_ := Aside0.mk ((by rw [hg]; exact Nat.ne_of_gt (blk_lt (pG_ BK248.out)) : gb257 ≠ gb248)); clear HO246; clear HO255; clear BK238; clear BK248; clear HB; have HO246 := n0_; have HO255 := n1_; have BK238 := n2_; have BK248 := n3_; have HB := n4_; have BK257 := n5_; have GW257 := n6_; have GE257 := n7_; have NB238_257 := n8_; have NB257_238 := n9_; have NB248_257 := n10_; have NB257_248 := n11_; clear n0_ n1_ n2_ n3_ n4_ n5_ n6_ n7_ n8_ n9_ n10_ n11_; clear hb hbox hg; refine hK.out _ _ ⟨(blk_cell BK248.out 0).trans rfl, (blk_cell BK248.out 1).trans rfl, (blk_cell BK238.out 0).trans rfl, (blk_cell BK238.out 1).trans rfl, ((HB.out.cell (World.block_lt_of_cell? w _ hsw48)).trans hsw48)⟩ (fun hHeld => ?_); clear hK K; refine norm_ (a' := ?_) ?_ ?_; rotate_left
                ·
                 show Act.put _ (some 15) _ = _
                 simp only [Act.put, sA_, sZ_, sS_, i64_w, i32_w]; rfl
                exact norm_ (by simp only [putAll, Act.put, sA_, sZ_, sS_]) (hCont (v254, gb257) _ ⟨hHeld, (by (with_reducible repeat (first | apply rA_ | apply rN_ | apply rD_)); exact Kd.R_mono HO246.out (fun _ hk => hk.2)), (by (with_reducible repeat (first | apply rA_ | apply rN_ | apply rD_)); exact Kd.R_mono HO255.out (fun _ hk => hk.2)), (pG_ BK238.out), (pG_ BK248.out), (pG_ BK257.out), GW257.out, GE257.out, NB238_257.out, NB257_238.out, NB248_257.out, NB257_248.out, (pH_ HB.out)⟩)
               ·
                skip
                refine box_step ?hg (N := 15) ?hd (cs := #[.int .i64 0, .slice none 0 0]) (t := 24) ?hr ?_; (case hd => rfl); (case hg => rfl); (case hr => first | (go_simp; done) | (go_simp; rfl)); intro gb257 hg w49 hbox hb; have n0_ := Aside0.mk (Kd.R_below (pL_ HO246.out) hb); have n1_ := Aside0.mk (blk_below (pG_ BK238.out) hb); have n2_ := Aside0.mk (blk_below (pG_ BK248.out) hb); have n3_ := Aside0.mk (below_step (pH_ HB.out) hb); have n4_ := Aside0.mk (hbox); have n5_ := Aside0.mk ((by rw [hg]; exact (below_size (pH_ HB.out)) : w.heap.size ≤ gb257)); have n6_ := Aside0.mk ((by rw [hg]; exact (below_size (pH_ HB.out)) : w.heap.size ≤ gb257)); have n7_ := Aside0.mk ((by rw [hg]; exact Nat.ne_of_lt (blk_lt (pG_ BK238.out)) : gb238 ≠ gb257)); have n8_ := Aside0.mk ((by rw [hg]; exact Nat.ne_of_gt (blk_lt (pG_ BK238.out)) : gb257 ≠ gb238)); have n9_ := Aside0.mk ((by rw [hg]; exact Nat.ne_of_lt (blk_lt (pG_ BK248.out)) : gb248 ≠ gb257)); have n10_ := Aside0.mk ((by rw [hg]; exact Nat.ne_of_gt (blk_lt (pG_ BK248.out)) : gb257 ≠ gb248)); clear HO246; clear BK238; clear BK248; clear HB; have HO246 := n0_; have BK238 := n1_; have BK248 := n2_; have HB := n3_; have BK257 := n4_; have GW257 := n5_; have GE257 := n6_; have NB238_257 := n7_; have NB257_238 := n8_; have NB248_257 := n9_; have NB257_248 := n10_; clear n0_ n1_ n2_ n3_ n4_ n5_ n6_ n7_ n8_ n9_ n10_; clear hb hbox hg; refine hK.out _ _ ⟨(blk_cell BK248.out 0).trans rfl, (blk_cell BK248.out 1).trans rfl, (blk_cell BK238.out 0).trans rfl, (blk_cell BK238.out 1).trans rfl, ((HB.out.cell (World.block_lt_of_cell? w _ hsw48)).trans hsw48)⟩ (fun hHeld => ?_); clear hK K; refine norm_ (a' := ?_) ?_ ?_; rotate_left
                ·
                 show Act.put _ (some 15) _ = _
                 simp only [Act.put, sA_, sZ_, sS_, i64_w, i32_w]; rfl
                refine one_ (i := 12) (N := some 73) #[t_, t_, t_, t_, t_, t_, t_, t_, t_, t_, t_, t_, t_, f_, f_, f_, t_, f_, f_] rfl rfl (one_of HT_.out (by kernel_rfl)) (by decide) (fun K hK => ?_); refine goes_ Try.func20 (by kernel_rfl) rfl #[.agg #[.int .i64 t243, .slice Ao45 t244.length co45], .int .i64 a1, .int .i64 a2, .int .u8 (rd (to40 (rd_T42 l0_1 a1).f1) (ji35))] (by rfl) rfl rfl (by (try simp only [List.map_toArray, List.map_cons, List.map_nil]); first | done | (simp only [hji35]; rfl) | rfl | (simp only [List.length_drop, List.length_take]; rfl)) ?_
                with_reducible refine (slots_Set.calls kj5 t243 _ _ t244 a1 a2 (rd (to40 (rd_T42 l0_1 a1).f1) (ji35)) t252 t253 t256 _ ?side1 ?side2 A38.out).mono ?_
                (case side1 => repeat (first | exact (Kd.R_reads' HO246.out).2.2 | (with_reducible refine Kd.C_alloc ?_ _) | (with_reducible refine Kd.C_drewN ?_ _) | (with_reducible refine Kd.C_drew ?_))); (case side2 => exact (Kd.R_reads' HO246.out).2.1)
                rintro e w50 ⟨v254, rfl, ho0, hb⟩
                refine ⟨_, rfl, ?_⟩; have n0_ := Aside0.mk (Kd.R_elder' (pL_ HO246.out) (Kd.R_base ho0) hb); have n1_ := Aside0.mk (Kd.R_lower (Kd.R_new' ho0 (Kd.R_lt (pL_ HO246.out))) (below_size (pH_ HB.out))); have n2_ := Aside0.mk (blk_below (pG_ BK238.out) hb); have n3_ := Aside0.mk (blk_below (pG_ BK248.out) hb); have n4_ := Aside0.mk (blk_below (pG_ BK257.out) hb); have n5_ := Aside0.mk (below_step (pH_ HB.out) hb); clear HO246; clear BK238; clear BK248; clear BK257; clear HB; have HO246 := n0_; have HO255 := n1_; have BK238 := n2_; have BK248 := n3_; have BK257 := n4_; have HB := n5_; clear n0_ n1_ n2_ n3_ n4_ n5_; (try clear hb); (try clear hb2); (try clear hk); (try clear hi); (try clear ho0); refine hK.out _ _ ⟨(blk_cell BK248.out 0).trans rfl, (blk_cell BK248.out 1).trans rfl, (blk_cell BK238.out 0).trans rfl, (blk_cell BK238.out 1).trans rfl, ((HB.out.cell (World.block_lt_of_cell? w _ hsw48)).trans hsw48)⟩ (fun hHeld => ?_); clear hK K; refine norm_ (a' := ?_) ?_ ?_; rotate_left
                ·
                 show Act.put _ (some 73) _ = _
                 simp only [Act.put, sA_, sZ_, sS_, i64_w, i32_w]; rfl
                refine pure_ (i := 13) (N := some 60) (v := ?_) (a' := ?_) #[t_, t_, t_, t_, t_, t_, t_, t_, t_, t_, t_, t_, t_, t_, f_, f_, t_, f_, f_] rfl rfl (any_of HT_.out (by kernel_rfl)) (fun _ _ _ h => h) (Or.inl ⟨by rfl, ?_⟩) ?_ ?_; rotate_left
                ·
                 intro w'; go_simp
                 with_reducible rfl
                rotate_left
                ·
                 simp only [Act.put, sA_, sZ_, sS_, i64_w, i32_w]; rfl
                refine pure_ (i := 14) (N := some 74) (v := ?_) (a' := ?_) #[t_, t_, t_, t_, t_, t_, t_, t_, t_, t_, t_, t_, t_, t_, t_, f_, t_, f_, f_] rfl rfl (any_of HT_.out (by kernel_rfl)) (fun _ _ _ h => h) (Or.inl ⟨by rfl, ?_⟩) ?_ ?_; rotate_left
                ·
                 intro w'; go_simp
                 with_reducible rfl
                rotate_left
                ·
                 simp only [Act.put, sA_, sZ_, sS_, i64_w, i32_w]; rfl
                refine pure_ (i := 15) (N := some 75) (v := ?_) (a' := ?_) #[t_, t_, t_, t_, t_, t_, t_, t_, t_, t_, t_, t_, t_, t_, t_, t_, t_, f_, f_] rfl rfl (any_of HT_.out (by kernel_rfl)) (fun _ _ _ h => h) (Or.inl ⟨by rfl, ?_⟩) ?_ ?_; rotate_left
                ·
                 intro w'; go_simp
                 with_reducible rfl
                rotate_left
                ·
                 simp only [Act.put, sA_, sZ_, sS_, i64_w, i32_w]; rfl
                exact norm_ (by simp only [putAll, Act.put, sA_, sZ_, sS_]) (hCont (v254, gb257) _ ⟨hHeld, (by (with_reducible repeat (first | apply rA_ | apply rN_ | apply rD_)); exact Kd.R_mono HO246.out (fun _ hk => hk.2)), (by (with_reducible repeat (first | apply rA_ | apply rN_ | apply rD_)); exact Kd.R_mono HO255.out (fun _ hk => hk.2)), (pG_ BK238.out), (pG_ BK248.out), (pG_ BK257.out), GW257.out, GE257.out, NB238_257.out, NB257_238.out, NB248_257.out, NB257_248.out, (pH_ HB.out)⟩)
              rintro ⟨v254, gb257⟩ w51 ⟨hS_, h0_, h1_, h2_, h3_, h4_, h5_, h6_, h7_, h8_, h9_, h10_, h11_⟩
              have n0_ : Aside0 (Kd.R k42 42 w51 w.heap.size (fun k_ => nO_ k_ v254) (.slice Ao45 t244.length co45) t244) := ⟨h0_⟩; have n1_ : Aside0 (Kd.R k42 42 w51 w.heap.size (fun k_ => nO_ k_ (.slice Ao45 t244.length co45)) v254 t253) := ⟨h1_⟩; have n2_ : Aside0 (w51.heap[gb238]? = some (.cells #[.int .i64 a0_0, .slice (some ad251) l0_1.length c0_1] 24 (0, 0))) := ⟨h2_⟩; have n3_ : Aside0 (w51.heap[gb248]? = some (.cells #[.int .i64 t243, .slice Ao45 t244.length co45] 24 (0, 0))) := ⟨h3_⟩; have n4_ : Aside0 (w51.heap[gb257]? = some (.cells #[.int .i64 0, .slice none 0 0] 24 (0, 0))) := ⟨h4_⟩; have n5_ : Aside0 (w.heap.size ≤ gb257) := ⟨h5_⟩; have n6_ : Aside0 (w.heap.size ≤ gb257) := ⟨h6_⟩; have n7_ : Aside0 (gb238 ≠ gb257) := ⟨h7_⟩; have n8_ : Aside0 (gb257 ≠ gb238) := ⟨h8_⟩; have n9_ : Aside0 (gb248 ≠ gb257) := ⟨h9_⟩; have n10_ : Aside0 (gb257 ≠ gb248) := ⟨h10_⟩; have n11_ : Aside0 (Below w.heap.size w w51) := ⟨h11_⟩; clear HO246; clear BK238; clear BK248; clear HB; clear h0_ h1_ h2_ h3_ h4_ h5_ h6_ h7_ h8_ h9_ h10_ h11_; have HO246 := n0_; have HO255 := n1_; have BK238 := n2_; have BK248 := n3_; have BK257 := n4_; have GW257 := n5_; have GE257 := n6_; have NB238_257 := n7_; have NB257_238 := n8_; have NB248_257 := n9_; have NB257_248 := n10_; have HB := n11_; clear n0_ n1_ n2_ n3_ n4_ n5_ n6_ n7_ n8_ n9_ n10_ n11_; have hHeld : w51.cell? ⟨gb248, 0, none⟩ = some (.int .i64 t243) ∧ w51.cell? ⟨gb248, 1, none⟩ = some (.slice Ao45 t244.length co45) ∧ w51.cell? ⟨gb238, 0, none⟩ = some (.int .i64 a0_0) ∧ w51.cell? ⟨gb238, 1, none⟩ = some (.slice (some ad251) l0_1.length c0_1) ∧ w51.cell? ⟨(ad251.add ((a1).toNat * 16)).block, (ad251.add ((a1).toNat * 16)).off + 1 + (ji35).toNat, none⟩ = some (.int .u8 (rd (to40 (rd_T42 l0_1 a1).f1) (ji35))) := hS_; obtain ⟨Ao53, co53, eo53⟩ := Kd.R_slice HO255.out; (first | subst eo53 | (injection eo53 with f1_ f2_ f3_; have f4_ := f1_.symm; have f5_ := f3_.symm; clear f1_ f2_ f3_; subst f4_; subst f5_)); refine norm_ (a' := ?_) ?_ ?_; rotate_left
              ·
               simp only [putAll, Act.put, sA_, sZ_, sS_]; rfl
              refine one_ (i := 17) (N := none) #[t_, t_, t_, t_, t_, t_, t_, t_, t_, t_, t_, t_, t_, t_, t_, t_, t_, t_, f_] rfl rfl (one_of HT_.out (by kernel_rfl)) (by decide) (fun K hK => ?_); have hs52 : w51.cell? ⟨gb257, 0, none⟩ = some (.int .i64 0) := (blk_cell BK257.out 0).trans rfl; have hfs52 := blk_frozen BK257.out 0; have hns52_0 := NB238_257.out; have hns52_1 := NB248_257.out; have hms52_0 := NB257_238.out; have hms52_1 := NB257_248.out; have hs54 : w51.cell? ⟨gb257, 1, none⟩ = some (.slice none 0 0) := (blk_cell BK257.out 1).trans rfl; have hfs54 := blk_frozen BK257.out 1; have hns54_0 := NB238_257.out; have hns54_1 := NB248_257.out; have hms54_0 := NB257_238.out; have hms54_1 := NB257_248.out; refine skip_ (w1 := ?_) (by rfl) rfl ?_ ?_; rotate_left
              ·
               go_simp; rfl
              refine hK.out _ _ ⟨((cell_far (p := ⟨gb257, _, none⟩) NB248_257.out _).trans (((cell_far (p := ⟨gb257, _, none⟩) NB248_257.out _).trans (hHeld.1)))), ((cell_far (p := ⟨gb257, _, none⟩) NB248_257.out _).trans (((cell_far (p := ⟨gb257, _, none⟩) NB248_257.out _).trans (hHeld.2.1)))), ((cell_far (p := ⟨gb257, _, none⟩) NB238_257.out _).trans (((cell_far (p := ⟨gb257, _, none⟩) NB238_257.out _).trans (hHeld.2.2.1)))), ((cell_far (p := ⟨gb257, _, none⟩) NB238_257.out _).trans (((cell_far (p := ⟨gb257, _, none⟩) NB238_257.out _).trans (hHeld.2.2.2.1)))), ((cell_far (p := ⟨gb257, _, none⟩) (by first | exact Nat.ne_of_lt (Nat.lt_of_lt_of_le (by have := World.block_lt_of_cell? _ _ hsw48; first | rwa [add_block] at this | exact this) GW257.out) | (rw [add_block]; exact Nat.ne_of_lt (Nat.lt_of_lt_of_le (by have := World.block_lt_of_cell? _ _ hsw48; first | rwa [add_block] at this | exact this) GW257.out)) | (show (Addr.add _ _).block ≠ _; rw [add_block]; exact Nat.ne_of_lt (Nat.lt_of_lt_of_le (by have := World.block_lt_of_cell? _ _ hsw48; first | rwa [add_block] at this | exact this) GW257.out)) | (dsimp only; exact Nat.ne_of_lt (Nat.lt_of_lt_of_le (by have := World.block_lt_of_cell? _ _ hsw48; first | rwa [add_block] at this | exact this) GW257.out))) _).trans (((cell_far (p := ⟨gb257, _, none⟩) (by first | exact Nat.ne_of_lt (Nat.lt_of_lt_of_le (by have := World.block_lt_of_cell? _ _ hsw48; first | rwa [add_block] at this | exact this) GW257.out) | (rw [add_block]; exact Nat.ne_of_lt (Nat.lt_of_lt_of_le (by have := World.block_lt_of_cell? _ _ hsw48; first | rwa [add_block] at this | exact this) GW257.out)) | (show (Addr.add _ _).block ≠ _; rw [add_block]; exact Nat.ne_of_lt (Nat.lt_of_lt_of_le (by have := World.block_lt_of_cell? _ _ hsw48; first | rwa [add_block] at this | exact this) GW257.out)) | (dsimp only; exact Nat.ne_of_lt (Nat.lt_of_lt_of_le (by have := World.block_lt_of_cell? _ _ hsw48; first | rwa [add_block] at this | exact this) GW257.out))) _).trans (hHeld.2.2.2.2))))⟩ (fun hHeld => ?_); clear hK K; refine pure_ (i := 18) (N := some 16) (v := ?_) (a' := ?_) #[t_, t_, t_, t_, t_, t_, t_, t_, t_, t_, t_, t_, t_, t_, t_, t_, t_, t_, t_] rfl rfl (any_of HT_.out (by kernel_rfl)) (fun _ _ _ h => h) (Or.inl ⟨by rfl, ?_⟩) ?_ ?_; rotate_left
              ·
               intro w'; go_simp
               with_reducible rfl
              rotate_left
              ·
               simp only [Act.put, sA_, sZ_, sS_, i64_w, i32_w]; rfl
              refine done_ (done_of HT_.out (by kernel_rfl)) ?_
              go_upto_region 6 with (fail)
              (with_reducible first | refine then_id_ ?_ | (refine wp_tail_ ?_; intro Kt_ hKt_))
              go_cut [112] (fun v112 wc => ∃ (kq : Nat) (x112_38 : Bool), v112 = .bool x112_38 ∧ Aside0 (bitloftlaw11_SlotsOnly.j1 kq a1 a2 a3 a4 x112_38 a0_0 l0_1 t243 t244 = some r) ∧ Aside0 (kq ≤ kj5) ∧ Aside0 (Kd.R k42 42 wc w.heap.size (fun k_ => some k_ ≠ ((.slice Ao53 t253.length co53) : Value).ownBlock) (.slice Ao45 t244.length co45) t244) ∧ Aside0 (Kd.R k42 42 wc w.heap.size (fun k_ => some k_ ≠ ((.slice Ao45 t244.length co45) : Value).ownBlock) (.slice Ao53 t253.length co53) t253) ∧ Aside0 (wc.heap[gb238]? = some (.cells #[.int .i64 a0_0, (.slice (some ad251) l0_1.length c0_1)] 24 (0, 0))) ∧ Aside0 (wc.heap[gb248]? = some (.cells #[.int .i64 t243, (.slice Ao45 t244.length co45)] 24 (0, 0))) ∧ Aside0 (wc.heap[gb257]? = some (.cells #[.int .i64 t252, (.slice Ao53 t253.length co53)] 24 (0, 0))) ∧ Aside0 (Below w.heap.size w wc))
              case first =>
               have H := HC39.out; clear HC39
               by_cases c55 : t247 = 0
               ·
                rw [if_pos c55] at H; have c55b0 : (t247 == 0) = true := beq_iff_eq.mpr c55; have c55b1 : (t247 != 0) = false := bne_eq_false_iff_eq.mpr c55; clear c55; (first | rw [c55b0] | (simp only [i64_w, i32_w]; rw [c55b0]) | skip)
                by_cases c56 : t250 = 0
                ·
                 rw [if_pos c56] at H; have c56b0 : (t250 == 0) = true := beq_iff_eq.mpr c56; have c56b1 : (t250 != 0) = false := bne_eq_false_iff_eq.mpr c56; clear c56
                 by_cases c57 : t256 = 0
                 ·
                  rw [if_pos c57] at H; have c57b0 : (t256 == 0) = true := beq_iff_eq.mpr c57; have c57b1 : (t256 != 0) = false := bne_eq_false_iff_eq.mpr c57; clear c57
                  by_cases c58 : t249 = a3
                  ·
                   rw [if_pos c58] at H; have c58b0 : (t249 == a3) = true := beq_iff_eq.mpr c58; have c58b1 : (t249 != a3) = false := bne_eq_false_iff_eq.mpr c58; clear c58; replace H := Option.bind_eq_some_iff.mp H; obtain ⟨t258, A590, H⟩ := H; replace H : (if t258 = true then (if (t244.length : Int) = (l0_1.length : Int) then (bitloftlaw11_SlotsOnly.j1 kj5 a1 a2 a3 a4 (t243 != a0_0) a0_0 l0_1 t243 t244) else (bitloftlaw11_SlotsOnly.j1 kj5 a1 a2 a3 a4 true a0_0 l0_1 t243 t244)) else (bitloftlaw11_SlotsOnly.j1 kj5 a1 a2 a3 a4 true a0_0 l0_1 t243 t244)) = some r := H; have A59 := Aside0.mk A590; clear A590
                   by_cases c60 : t258 = true
                   ·
                    subst c60
                    have H1 : (if (t244.length : Int) = (l0_1.length : Int) then (bitloftlaw11_SlotsOnly.j1 kj5 a1 a2 a3 a4 (t243 != a0_0) a0_0 l0_1 t243 t244) else (bitloftlaw11_SlotsOnly.j1 kj5 a1 a2 a3 a4 true a0_0 l0_1 t243 t244)) = some r := by rw [if_pos rfl] at H; exact H
                    clear H; have H := H1; clear H1
                    by_cases c61 : (t244.length : Int) = (l0_1.length : Int)
                    ·
                     rw [if_pos c61] at H; have c61b0 : ((t244.length : Int) == (l0_1.length : Int)) = true := beq_iff_eq.mpr c61; have c61b1 : ((t244.length : Int) != (l0_1.length : Int)) = false := bne_eq_false_iff_eq.mpr c61
                     have c61b2 : (t244.length == l0_1.length) = true := by first | simpa using c61 | (simp at c61 ⊢; omega)
                     clear c61; have H' := Aside0.mk H; clear H; have hnb62 := NB257_238.out; have hnc62 := NB238_257.out; have hnb63 := NB257_248.out; have hnc63 := NB248_257.out; have hcz64_0 : w51.cell? ⟨gb257, 0, none⟩ = some (.int .i64 0) := (blk_cell BK257.out 0).trans rfl; have hcz64_1 : w51.cell? ⟨gb257, 1, none⟩ = some (.slice none 0 0) := (blk_cell BK257.out 1).trans rfl; have hfz64_0 := blk_frozen BK257.out 0; have hfz64_1 := blk_frozen BK257.out 1; have hnb65 := NB238_248.out; have hnc65 := NB248_238.out; have hcz66_0 : w51.cell? ⟨gb238, 0, none⟩ = some (.int .i64 a0_0) := (blk_cell BK238.out 0).trans rfl; have hcz66_1 : w51.cell? ⟨gb238, 1, none⟩ = some (.slice (some ad251) l0_1.length c0_1) := (blk_cell BK238.out 1).trans rfl; have hfz66_0 := blk_frozen BK238.out 0; have hfz66_1 := blk_frozen BK238.out 1
                     go_wp2_with (first | (go_at_call 15; (with_reducible refine (bitloftref11_Same.calls kj5 t252 _ _ t253 a0_0 _ _ l0_1 true _ ?side1 ?side2 ?side3 ?side4 A59.out).mono ?_); (case side1 => refine (Kd.R_reads' (e := 42) (base := w.heap.size) (ok := fun k_ => nO_ k_ (.slice Ao45 t244.length co45)) (n := t253.length) (c := co53) ?_).2.2; exact (by (with_reducible repeat (first | apply rA_ | apply rN_ | apply rD_)); exact (Kd.R_mono (Kd.R_far (p := ⟨gb257, 1, none⟩) (Kd.R_far (p := ⟨gb257, 0, none⟩) (Kd.R_types HO255.out BK257.out (by decide)) (fun _ hk => hk.2) (.int .i64 t252)) (fun _ hk => hk.2) (.slice Ao53 t253.length co53)) (fun _ h_ => h_.1)))); (case side2 => exact (Kd.R_reads' HO255.out).2.1); (case side3 => exact Kd.C_below HR0_1.out (pH_ HB.out)); (case side4 => exact HC0_1.out); rintro e w67 ⟨rfl, hb⟩; have n0_ := Aside0.mk (Kd.R_below (by (with_reducible repeat (first | apply rA_ | apply rN_ | apply rD_)); exact (Kd.R_mono (Kd.R_far (p := ⟨gb257, 1, none⟩) (Kd.R_far (p := ⟨gb257, 0, none⟩) (Kd.R_types HO246.out BK257.out (by decide)) (fun _ hk => hk.2) (.int .i64 t252)) (fun _ hk => hk.2) (.slice Ao53 t253.length co53)) (fun _ h_ => h_.1))) hb); have n1_ := Aside0.mk (Kd.R_below (by (with_reducible repeat (first | apply rA_ | apply rN_ | apply rD_)); exact (Kd.R_mono (Kd.R_far (p := ⟨gb257, 1, none⟩) (Kd.R_far (p := ⟨gb257, 0, none⟩) (Kd.R_types HO255.out BK257.out (by decide)) (fun _ hk => hk.2) (.int .i64 t252)) (fun _ hk => hk.2) (.slice Ao53 t253.length co53)) (fun _ h_ => h_.1))) hb); have n2_ := Aside0.mk (blk_below (g := gb238) (o := .cells #[.int .i64 a0_0, .slice (some ad251) l0_1.length c0_1] 24 (0, 0)) (by (with_reducible repeat (first | refine blk_drewN ?_ _ | refine blk_drew ?_ | refine blk_alloc ?_ _)); refine blk_far ?_ NB238_257.out _; (with_reducible repeat (first | refine blk_drewN ?_ _ | refine blk_drew ?_ | refine blk_alloc ?_ _)); refine blk_far ?_ NB238_257.out _; (with_reducible repeat (first | refine blk_drewN ?_ _ | refine blk_drew ?_ | refine blk_alloc ?_ _)); exact BK238.out) hb); have n3_ := Aside0.mk (blk_below (g := gb248) (o := .cells #[.int .i64 t243, .slice Ao45 t244.length co45] 24 (0, 0)) (by (with_reducible repeat (first | refine blk_drewN ?_ _ | refine blk_drew ?_ | refine blk_alloc ?_ _)); refine blk_far ?_ NB248_257.out _; (with_reducible repeat (first | refine blk_drewN ?_ _ | refine blk_drew ?_ | refine blk_alloc ?_ _)); refine blk_far ?_ NB248_257.out _; (with_reducible repeat (first | refine blk_drewN ?_ _ | refine blk_drew ?_ | refine blk_alloc ?_ _)); exact BK248.out) hb); have n4_ := Aside0.mk (blk_below (g := gb257) (o := .cells #[.int .i64 t252, .slice Ao53 t253.length co53] 24 (0, 0)) (by (with_reducible repeat (first | refine blk_drewN ?_ _ | refine blk_drew ?_ | refine blk_alloc ?_ _)); refine blk_put (cs := #[.int .i64 t252, .slice none 0 0]) ?_ 1 _ rfl; (with_reducible repeat (first | refine blk_drewN ?_ _ | refine blk_drew ?_ | refine blk_alloc ?_ _)); refine blk_put (cs := #[.int .i64 0, .slice none 0 0]) ?_ 0 _ rfl; (with_reducible repeat (first | refine blk_drewN ?_ _ | refine blk_drew ?_ | refine blk_alloc ?_ _)); exact BK257.out) hb); have n5_ := Aside0.mk (below_step (pH_ HB.out) hb); clear HO246; clear HO255; clear BK238; clear BK248; clear BK257; clear HB; have HO246 := n0_; have HO255 := n1_; have BK238 := n2_; have BK248 := n3_; have BK257 := n4_; have HB := n5_; clear n0_ n1_ n2_ n3_ n4_ n5_; (try clear hb); have hcz68_0 : w67.cell? ⟨gb248, 0, none⟩ = some (.int .i64 t243) := (blk_cell BK248.out 0).trans rfl; have hcz68_1 : w67.cell? ⟨gb248, 1, none⟩ = some (.slice Ao45 t244.length co45) := (blk_cell BK248.out 1).trans rfl; have hfz68_0 := blk_frozen BK248.out 0; have hfz68_1 := blk_frozen BK248.out 1; have hcz69_0 : w67.cell? ⟨gb238, 0, none⟩ = some (.int .i64 a0_0) := (blk_cell BK238.out 0).trans rfl; have hcz69_1 : w67.cell? ⟨gb238, 1, none⟩ = some (.slice (some ad251) l0_1.length c0_1) := (blk_cell BK238.out 1).trans rfl; have hfz69_0 := blk_frozen BK238.out 0; have hfz69_1 := blk_frozen BK238.out 1))
                     (first | go_meet | (refine Met.intro ?_; go_step; (repeat apply Exists.intro); refine ⟨?rel, ?eqf_⟩; case eqf_ => ((simp only [c61b0, c58b0, c57b0, c56b0, c55b0, c37b0, c36b0, c34b0, c33b0]) <;> rfl)))
                     case rel => exact ⟨_, ((t243 != a0_0)), (by first | rfl | (simp; done) | (simp [*]; done)), H', ⟨by have := HJ5.out; first | omega | exact Nat.le_refl _⟩, ⟨pL_ HO246.out⟩, ⟨pL_ HO255.out⟩, ⟨pG_ BK238.out⟩, ⟨pG_ BK248.out⟩, ⟨pG_ BK257.out⟩, ⟨pH_ HB.out⟩⟩
                    ·
                     rw [if_neg c61] at H; have c61b0 : ((t244.length : Int) == (l0_1.length : Int)) = false := beq_eq_false_iff_ne.mpr c61; have c61b1 : ((t244.length : Int) != (l0_1.length : Int)) = true := bne_iff_ne.mpr c61
                     have c61b2 : (t244.length == l0_1.length) = false := by first | simpa using c61 | (simp at c61 ⊢; omega)
                     exact absurd (H.trans (congrArg some HRT_.out)) (by first | (simp; done) | (generalize kj5 = k_; cases k_ <;> simp [bitloftlaw11_SlotsOnly.j0, bitloftlaw11_SlotsOnly.j1, bitloftlaw11_SlotsOnly.l0, bitloftlaw11_SlotsOnly.l1, bitloftlaw11_SlotsOnly.j4, bitloftlaw11_SlotsOnly.j5]))
                   ·
                    replace c60 := Bool.eq_false_iff.mpr c60
                    subst c60
                    have H1 : (bitloftlaw11_SlotsOnly.j1 kj5 a1 a2 a3 a4 true a0_0 l0_1 t243 t244) = some r := by rw [if_neg (show ¬ (false = true) by decide)] at H; exact H
                    clear H; have H := H1; clear H1; exact absurd (H.trans (congrArg some HRT_.out)) (by first | (simp; done) | (generalize kj5 = k_; cases k_ <;> simp [bitloftlaw11_SlotsOnly.j0, bitloftlaw11_SlotsOnly.j1, bitloftlaw11_SlotsOnly.l0, bitloftlaw11_SlotsOnly.l1, bitloftlaw11_SlotsOnly.j4, bitloftlaw11_SlotsOnly.j5]))
                  ·
                   rw [if_neg c58] at H; have c58b0 : (t249 == a3) = false := beq_eq_false_iff_ne.mpr c58; have c58b1 : (t249 != a3) = true := bne_iff_ne.mpr c58; exact absurd (H.trans (congrArg some HRT_.out)) (by first | (simp; done) | (generalize kj5 = k_; cases k_ <;> simp [bitloftlaw11_SlotsOnly.j0, bitloftlaw11_SlotsOnly.j1, bitloftlaw11_SlotsOnly.l0, bitloftlaw11_SlotsOnly.l1, bitloftlaw11_SlotsOnly.j4, bitloftlaw11_SlotsOnly.j5]))
                 ·
                  rw [if_neg c57] at H; have c57b0 : (t256 == 0) = false := beq_eq_false_iff_ne.mpr c57; have c57b1 : (t256 != 0) = true := bne_iff_ne.mpr c57; exact absurd (H.trans (congrArg some HRT_.out)) (by first | (simp; done) | (generalize kj5 = k_; cases k_ <;> simp [bitloftlaw11_SlotsOnly.j0, bitloftlaw11_SlotsOnly.j1, bitloftlaw11_SlotsOnly.l0, bitloftlaw11_SlotsOnly.l1, bitloftlaw11_SlotsOnly.j4, bitloftlaw11_SlotsOnly.j5]))
                ·
                 rw [if_neg c56] at H; have c56b0 : (t250 == 0) = false := beq_eq_false_iff_ne.mpr c56; have c56b1 : (t250 != 0) = true := bne_iff_ne.mpr c56; exact absurd (H.trans (congrArg some HRT_.out)) (by first | (simp; done) | (generalize kj5 = k_; cases k_ <;> simp [bitloftlaw11_SlotsOnly.j0, bitloftlaw11_SlotsOnly.j1, bitloftlaw11_SlotsOnly.l0, bitloftlaw11_SlotsOnly.l1, bitloftlaw11_SlotsOnly.j4, bitloftlaw11_SlotsOnly.j5]))
               ·
                rw [if_neg c55] at H; have c55b0 : (t247 == 0) = false := beq_eq_false_iff_ne.mpr c55; have c55b1 : (t247 != 0) = true := bne_iff_ne.mpr c55; (first | rw [c55b0] | (simp only [i64_w, i32_w]; rw [c55b0]) | skip); exact absurd (H.trans (congrArg some HRT_.out)) (by first | (simp; done) | (generalize kj5 = k_; cases k_ <;> simp [bitloftlaw11_SlotsOnly.j0, bitloftlaw11_SlotsOnly.j1, bitloftlaw11_SlotsOnly.l0, bitloftlaw11_SlotsOnly.l1, bitloftlaw11_SlotsOnly.j4, bitloftlaw11_SlotsOnly.j5]))
              case rest =>
               as_aux_lemma =>
                (try (refine hKt_ _ _ ?_; clear hKt_; clear Kt_)); clear HC39
                try clear c1
                try clear c2
                try clear p2
                try clear q2
                try clear hx2
                try clear c3
                try clear c4
                try clear c5
                try clear c6
                try clear p6
                try clear c18
                try clear c20
                try clear c24
                try clear p25
                try clear q25
                try clear hx25
                try clear c28
                try clear c33
                try clear c33b0
                try clear c34
                try clear c34b0
                try clear c36
                try clear c36b0
                try clear c37
                try clear c37b0
                try clear c43
                try clear c55
                try clear c55b0
                try clear c55b1
                try clear c56
                try clear c56b0
                try clear c56b1
                try clear c57
                try clear c57b0
                try clear c57b1
                try clear c58
                try clear c58b0
                try clear c58b1
                try clear c60
                try clear c61
                try clear c61b0
                try clear c61b1
                try clear c61b2
                try clear c62
                try clear c63
                try clear p64
                try clear c65
                try clear hcz40_0
                try clear hcz40_1
                try clear hcz44_0
                try clear hcz44_1
                try clear hcz64_0
                try clear hcz64_1
                try clear hcz66_0
                try clear hcz66_1
                try clear hcz68_0
                try clear hcz68_1
                try clear hcz69_0
                try clear hcz69_1
                try clear hfz18_0
                try clear hfz18_1
                try clear hfz20_0
                try clear hfz20_1
                try clear hfz22_0
                try clear hfz22_1
                try clear hfz24_0
                try clear hfz24_1
                try clear hfz26_0
                try clear hfz26_1
                try clear hfz40_0
                try clear hfz40_1
                try clear hfz44_0
                try clear hfz44_1
                try clear hfz64_0
                try clear hfz64_1
                try clear hfz66_0
                try clear hfz66_1
                try clear hfz68_0
                try clear hfz68_1
                try clear hfz69_0
                try clear hfz69_1
                try clear hx251_0
                try clear hx251_1
                try clear hx251_10
                try clear hx251_11
                try clear hx251_12
                try clear hx251_13
                try clear hx251_14
                try clear hx251_15
                try clear hx251_2
                try clear hx251_3
                try clear hx251_4
                try clear hx251_5
                try clear hx251_6
                try clear hx251_7
                try clear hx251_8
                try clear hx251_9
                try clear p251
                try clear q251
                obtain ⟨kq, x112_38, rfl, HA, HJ38, HO_249001, HO_258001, BK238, BK248, BK257, HB⟩ := hcut
                cases kq with
                | zero => exact absurd HA.out (by simp [bitloftlaw11_SlotsOnly.j1])
                | succ kj38 =>
                 have H := HA.out; clear HA; simp only [bitloftlaw11_SlotsOnly.j1] at H
                 by_cases c70 : x112_38 = true
                 ·
                  subst c70
                  have H1 : (some false) = some r := by rw [if_pos rfl] at H; exact H
                  clear H; have H := H1; clear H1; exact absurd (H.trans (congrArg some HRT_.out)) (by simp)
                 ·
                  as_aux_lemma =>
                   replace c70 := Bool.eq_false_iff.mpr c70
                   subst c70
                   have H1 : (bitloftlaw11_SlotsOnly.l0 kj38 a1 a2 a3 a4 0 a0_0 l0_1 t243 t244) = some r := by rw [if_neg (show ¬ (false = true) by decide)] at H; exact H
                   clear H; have H := H1; clear H1; have H' := Aside0.mk H; clear H
                   go_wp2
                   go_loopg [17] kj38 (fun kq v17 w' => ∃ (x17_3 : Int), v17 = .int .i64 x17_3 ∧ Aside0 (bitloftlaw11_SlotsOnly.l0 kq a1 a2 a3 a4 x17_3 a0_0 l0_1 t243 t244 = some r) ∧ Aside0 (kq ≤ kj38) ∧ Aside0 (Kd.R k42 42 w' w.heap.size (fun k_ => some k_ ≠ ((.slice Ao53 t253.length co53) : Value).ownBlock) (.slice Ao45 t244.length co45) t244) ∧ Aside0 (Kd.R k42 42 w' w.heap.size (fun k_ => some k_ ≠ ((.slice Ao45 t244.length co45) : Value).ownBlock) (.slice Ao53 t253.length co53) t253) ∧ Aside0 (w'.heap[gb238]? = some (.cells #[.int .i64 a0_0, (.slice (some ad251) l0_1.length c0_1)] 24 (0, 0))) ∧ Aside0 (w'.heap[gb248]? = some (.cells #[.int .i64 t243, (.slice Ao45 t244.length co45)] 24 (0, 0))) ∧ Aside0 (w'.heap[gb257]? = some (.cells #[.int .i64 t252, (.slice Ao53 t253.length co53)] 24 (0, 0))) ∧ Aside0 (Below w.heap.size w w'))
                   case atStart => exact ⟨(0), (by first | rfl | (simp; done) | (simp [*]; done)), H', ⟨Nat.le_refl _⟩, ⟨pL_ HO_249001.out⟩, ⟨pL_ HO_258001.out⟩, ⟨pG_ BK238.out⟩, ⟨pG_ BK248.out⟩, ⟨pG_ BK257.out⟩, ⟨pH_ HB.out⟩⟩
                   case round =>
                    as_aux_lemma =>
                     clear H'
                     try clear c1
                     try clear c2
                     try clear p2
                     try clear q2
                     try clear hx2
                     try clear c3
                     try clear c4
                     try clear c5
                     try clear c6
                     try clear p6
                     try clear c7
                     try clear c18
                     try clear c20
                     try clear c24
                     try clear p25
                     try clear q25
                     try clear hx25
                     try clear c28
                     try clear c33
                     try clear c33b0
                     try clear c34
                     try clear c34b0
                     try clear c36
                     try clear c36b0
                     try clear c37
                     try clear c37b0
                     try clear c43
                     try clear c55
                     try clear c55b0
                     try clear c55b1
                     try clear c56
                     try clear c56b0
                     try clear c56b1
                     try clear c57
                     try clear c57b0
                     try clear c57b1
                     try clear c58
                     try clear c58b0
                     try clear c58b1
                     try clear c60
                     try clear c61
                     try clear c61b0
                     try clear c61b1
                     try clear c61b2
                     try clear c62
                     try clear c63
                     try clear p64
                     try clear c65
                     try clear c70
                     try clear hcz40_0
                     try clear hcz40_1
                     try clear hcz44_0
                     try clear hcz44_1
                     try clear hcz64_0
                     try clear hcz64_1
                     try clear hcz66_0
                     try clear hcz66_1
                     try clear hcz68_0
                     try clear hcz68_1
                     try clear hcz69_0
                     try clear hcz69_1
                     try clear hfz18_0
                     try clear hfz18_1
                     try clear hfz20_0
                     try clear hfz20_1
                     try clear hfz22_0
                     try clear hfz22_1
                     try clear hfz24_0
                     try clear hfz24_1
                     try clear hfz26_0
                     try clear hfz26_1
                     try clear hfz40_0
                     try clear hfz40_1
                     try clear hfz44_0
                     try clear hfz44_1
                     try clear hfz64_0
                     try clear hfz64_1
                     try clear hfz66_0
                     try clear hfz66_1
                     try clear hfz68_0
                     try clear hfz68_1
                     try clear hfz69_0
                     try clear hfz69_1
                     try clear hx251_0
                     try clear hx251_1
                     try clear hx251_10
                     try clear hx251_11
                     try clear hx251_12
                     try clear hx251_13
                     try clear hx251_14
                     try clear hx251_15
                     try clear hx251_2
                     try clear hx251_3
                     try clear hx251_4
                     try clear hx251_5
                     try clear hx251_6
                     try clear hx251_7
                     try clear hx251_8
                     try clear hx251_9
                     try clear p2
                     try clear p25
                     try clear p251
                     try clear p6
                     try clear p64
                     try clear q2
                     try clear q25
                     try clear q251
                     obtain ⟨x17_3, rfl, HA, HK3, HO_249001, HO_258001, BK238, BK248, BK257, HB⟩ := hrel
                     cases gk with
                     | zero => exact absurd HA.out (by simp [bitloftlaw11_SlotsOnly.l0])
                     | succ k3 =>
                      have H := HA.out; clear HA; simp only [bitloftlaw11_SlotsOnly.l0] at H
                      by_cases c71 : x17_3 < (l0_1.length : Int)
                      ·
                       as_aux_lemma =>
                        rw [if_pos c71] at H; have c71b0 : decide (x17_3 < (l0_1.length : Int)) = true := decide_eq_true c71; clear c71; have H' := Aside0.mk H; clear H; have hnb72 := NB238_248.out; have hnc72 := NB248_238.out; have hnb73 := NB238_257.out; have hnc73 := NB257_238.out; have hcz74_0 : wr.cell? ⟨gb238, 0, none⟩ = some (.int .i64 a0_0) := (blk_cell BK238.out 0).trans rfl; have hcz74_1 : wr.cell? ⟨gb238, 1, none⟩ = some (.slice (some ad251) l0_1.length c0_1) := (blk_cell BK238.out 1).trans rfl; have hfz74_0 := blk_frozen BK238.out 0; have hfz74_1 := blk_frozen BK238.out 1
                        go_wp2
                        go_loopg [18] k3 (fun kq v18 w' => ∃ (x18_4 : Int), v18 = .int .i64 x18_4 ∧ Aside0 (bitloftlaw11_SlotsOnly.l1 kq a1 a2 a3 a4 x17_3 x18_4 a0_0 l0_1 t243 t244 = some r) ∧ Aside0 (kq ≤ k3) ∧ Aside0 (Kd.R k42 42 w' w.heap.size (fun k_ => some k_ ≠ ((.slice Ao53 t253.length co53) : Value).ownBlock) (.slice Ao45 t244.length co45) t244) ∧ Aside0 (Kd.R k42 42 w' w.heap.size (fun k_ => some k_ ≠ ((.slice Ao45 t244.length co45) : Value).ownBlock) (.slice Ao53 t253.length co53) t253) ∧ Aside0 (w'.heap[gb238]? = some (.cells #[.int .i64 a0_0, (.slice (some ad251) l0_1.length c0_1)] 24 (0, 0))) ∧ Aside0 (w'.heap[gb248]? = some (.cells #[.int .i64 t243, (.slice Ao45 t244.length co45)] 24 (0, 0))) ∧ Aside0 (w'.heap[gb257]? = some (.cells #[.int .i64 t252, (.slice Ao53 t253.length co53)] 24 (0, 0))) ∧ Aside0 (Below w.heap.size w w'))
                        case atStart => exact ⟨(0), (by first | rfl | (simp; done) | (simp [*]; done)), H', ⟨Nat.le_refl _⟩, ⟨pL_ HO_249001.out⟩, ⟨pL_ HO_258001.out⟩, ⟨pG_ BK238.out⟩, ⟨pG_ BK248.out⟩, ⟨pG_ BK257.out⟩, ⟨pH_ HB.out⟩⟩
                        case round =>
                         as_aux_lemma =>
                          clear H'
                          try clear c1
                          try clear c2
                          try clear p2
                          try clear q2
                          try clear hx2
                          try clear c3
                          try clear c4
                          try clear c5
                          try clear c6
                          try clear p6
                          try clear c7
                          try clear c18
                          try clear c20
                          try clear c24
                          try clear p25
                          try clear q25
                          try clear hx25
                          try clear c28
                          try clear c33
                          try clear c33b0
                          try clear c34
                          try clear c34b0
                          try clear c36
                          try clear c36b0
                          try clear c37
                          try clear c37b0
                          try clear c43
                          try clear c55
                          try clear c55b0
                          try clear c55b1
                          try clear c56
                          try clear c56b0
                          try clear c56b1
                          try clear c57
                          try clear c57b0
                          try clear c57b1
                          try clear c58
                          try clear c58b0
                          try clear c58b1
                          try clear c60
                          try clear c61
                          try clear c61b0
                          try clear c61b1
                          try clear c61b2
                          try clear c62
                          try clear c63
                          try clear p64
                          try clear c65
                          try clear c70
                          try clear c71
                          try clear c71b0
                          try clear c72
                          try clear c73
                          try clear hcz40_0
                          try clear hcz40_1
                          try clear hcz44_0
                          try clear hcz44_1
                          try clear hcz64_0
                          try clear hcz64_1
                          try clear hcz66_0
                          try clear hcz66_1
                          try clear hcz68_0
                          try clear hcz68_1
                          try clear hcz69_0
                          try clear hcz69_1
                          try clear hcz74_0
                          try clear hcz74_1
                          try clear hfz18_0
                          try clear hfz18_1
                          try clear hfz20_0
                          try clear hfz20_1
                          try clear hfz22_0
                          try clear hfz22_1
                          try clear hfz24_0
                          try clear hfz24_1
                          try clear hfz26_0
                          try clear hfz26_1
                          try clear hfz40_0
                          try clear hfz40_1
                          try clear hfz44_0
                          try clear hfz44_1
                          try clear hfz64_0
                          try clear hfz64_1
                          try clear hfz66_0
                          try clear hfz66_1
                          try clear hfz68_0
                          try clear hfz68_1
                          try clear hfz69_0
                          try clear hfz69_1
                          try clear hfz74_0
                          try clear hfz74_1
                          try clear hx251_0
                          try clear hx251_1
                          try clear hx251_10
                          try clear hx251_11
                          try clear hx251_12
                          try clear hx251_13
                          try clear hx251_14
                          try clear hx251_15
                          try clear hx251_2
                          try clear hx251_3
                          try clear hx251_4
                          try clear hx251_5
                          try clear hx251_6
                          try clear hx251_7
                          try clear hx251_8
                          try clear hx251_9
                          try clear p2
                          try clear p25
                          try clear p251
                          try clear p6
                          try clear p64
                          try clear q2
                          try clear q25
                          try clear q251
                          obtain ⟨x18_4, rfl, HA, HK4, HO_249001, HO_258001, BK238, BK248, BK257, HB⟩ := hrel
                          cases gk with
                          | zero => exact absurd HA.out (by simp [bitloftlaw11_SlotsOnly.l1])
                          | succ k4 =>
                           have H := HA.out; clear HA; simp only [bitloftlaw11_SlotsOnly.l1] at H
                           by_cases c75 : x18_4 < 15
                           ·
                            as_aux_lemma =>
                             rw [if_pos c75] at H; have c75b0 : decide (x18_4 < 15) = true := decide_eq_true c75; clear c75; have HC76 := Aside0.mk H; clear H
                             go_upto_region 14 with (fail)
                             (with_reducible first | refine then_id_ ?_ | (refine wp_tail_ ?_; intro Kt_ hKt_))
                             go_cut [166] (fun v166 wc => ∃ (kq : Nat) (x166_75 : Bool), v166 = .bool x166_75 ∧ Aside0 (bitloftlaw11_SlotsOnly.j4 kq a1 a2 a3 a4 x17_3 x18_4 x166_75 a0_0 l0_1 t243 t244 = some r) ∧ Aside0 (kq ≤ k4) ∧ Aside0 (Kd.R k42 42 wc w.heap.size (fun k_ => some k_ ≠ ((.slice Ao53 t253.length co53) : Value).ownBlock) (.slice Ao45 t244.length co45) t244) ∧ Aside0 (Kd.R k42 42 wc w.heap.size (fun k_ => some k_ ≠ ((.slice Ao45 t244.length co45) : Value).ownBlock) (.slice Ao53 t253.length co53) t253) ∧ Aside0 (wc.heap[gb238]? = some (.cells #[.int .i64 a0_0, (.slice (some ad251) l0_1.length c0_1)] 24 (0, 0))) ∧ Aside0 (wc.heap[gb248]? = some (.cells #[.int .i64 t243, (.slice Ao45 t244.length co45)] 24 (0, 0))) ∧ Aside0 (wc.heap[gb257]? = some (.cells #[.int .i64 t252, (.slice Ao53 t253.length co53)] 24 (0, 0))) ∧ Aside0 (Below w.heap.size w wc))
                             case first =>
                              as_aux_lemma =>
                               have H := HC76.out; clear HC76
                               by_cases c77 : x17_3 = a1
                               ·
                                as_aux_lemma =>
                                 rw [if_pos c77] at H; have c77b0 : (x17_3 == a1) = true := beq_iff_eq.mpr c77; have c77b1 : (x17_3 != a1) = false := bne_eq_false_iff_eq.mpr c77; clear c77; (first | rw [c77b0] | (simp only [i64_w, i32_w]; rw [c77b0]) | skip)
                                 by_cases c78 : x18_4 = (wrap64 (a2 - 1))
                                 ·
                                  as_aux_lemma =>
                                   rw [if_pos c78] at H; have c78b0 : (x18_4 == (wrap64 (a2 - 1))) = true := beq_iff_eq.mpr c78; have c78b1 : (x18_4 != (wrap64 (a2 - 1))) = false := bne_eq_false_iff_eq.mpr c78; clear c78; (try simp only [hji35] at c78b0); (try simp only [hji35] at c78b1)
                                   by_cases c79 : 0 ≤ x17_3
                                   ·
                                    as_aux_lemma =>
                                     rw [if_pos c79] at H; have c79b0 : decide (0 ≤ x17_3) = true := decide_eq_true c79; clear c79
                                     by_cases c80 : x17_3 < (t244.length : Int)
                                     ·
                                      as_aux_lemma =>
                                       rw [if_pos c80] at H; have c80b0 : decide (x17_3 < (t244.length : Int)) = true := decide_eq_true c80; clear c80
                                       by_cases c81 : x17_3 < (l0_1.length : Int)
                                       ·
                                        as_aux_lemma =>
                                         rw [if_pos c81] at H; have c81b0 : decide (x17_3 < (l0_1.length : Int)) = true := decide_eq_true c81; clear c81; have H' := Aside0.mk H; clear H
                                         try go_wp2
                                         have n0_ := Aside0.mk (Kd.R_drew HO_249001.out); have n1_ := Aside0.mk (Kd.R_drew HO_258001.out); have n2_ := Aside0.mk (blk_drew BK238.out); have n3_ := Aside0.mk (blk_drew BK248.out); have n4_ := Aside0.mk (blk_drew BK257.out); have n5_ := Aside0.mk (below_drew1 HB.out); clear HO_249001; clear HO_258001; clear BK238; clear BK248; clear BK257; clear HB; have HO_249001 := n0_; have HO_258001 := n1_; have BK238 := n2_; have BK248 := n3_; have BK257 := n4_; have HB := n5_; clear n0_ n1_ n2_ n3_ n4_ n5_; have p259 : 0 ≤ (x17_3 : Int) := of_decide_eq_true (by first | (with_reducible assumption) | assumption); have q259 : x17_3 < (t244.length : Int) := of_decide_eq_true (by first | (with_reducible assumption) | assumption); obtain ⟨ad259, e259, hx259_0, hx259_1, hx259_2, hx259_3, hx259_4, hx259_5, hx259_6, hx259_7, hx259_8, hx259_9, hx259_10, hx259_11, hx259_12, hx259_13, hx259_14, hx259_15⟩ := at_T42 (Kd.R_reads' HO_249001.out).2.2 x17_3 p259 q259
                                         cases e259
                                         replace p259 := eq_true p259; replace q259 := eq_true q259; have p260 : 0 ≤ (x17_3 : Int) := of_decide_eq_true (by first | (with_reducible assumption) | assumption); have q260 : x17_3 < (l0_1.length : Int) := of_decide_eq_true (by first | (with_reducible assumption) | assumption); obtain ⟨ad260, e260, hx260_0, hx260_1, hx260_2, hx260_3, hx260_4, hx260_5, hx260_6, hx260_7, hx260_8, hx260_9, hx260_10, hx260_11, hx260_12, hx260_13, hx260_14, hx260_15⟩ := at_T42 HR0_1.out x17_3 p260 q260; have hw260_15 := hx260_15; have hw260_14 := hx260_14; have hw260_13 := hx260_13; have hw260_12 := hx260_12; have hw260_11 := hx260_11; have hw260_10 := hx260_10; have hw260_9 := hx260_9; have hw260_8 := hx260_8; have hw260_7 := hx260_7; have hw260_6 := hx260_6; have hw260_5 := hx260_5; have hw260_4 := hx260_4; have hw260_3 := hx260_3; have hw260_2 := hx260_2; have hw260_1 := hx260_1; have hw260_0 := hx260_0; obtain rfl : ad251 = ad260 := (by injection e260); replace hx260_0 := (HB.out.cell (World.block_lt_of_cell? w _ hx260_0)).trans hx260_0; replace hx260_1 := (HB.out.cell (World.block_lt_of_cell? w _ hx260_1)).trans hx260_1; replace hx260_2 := (HB.out.cell (World.block_lt_of_cell? w _ hx260_2)).trans hx260_2; replace hx260_3 := (HB.out.cell (World.block_lt_of_cell? w _ hx260_3)).trans hx260_3; replace hx260_4 := (HB.out.cell (World.block_lt_of_cell? w _ hx260_4)).trans hx260_4; replace hx260_5 := (HB.out.cell (World.block_lt_of_cell? w _ hx260_5)).trans hx260_5; replace hx260_6 := (HB.out.cell (World.block_lt_of_cell? w _ hx260_6)).trans hx260_6; replace hx260_7 := (HB.out.cell (World.block_lt_of_cell? w _ hx260_7)).trans hx260_7; replace hx260_8 := (HB.out.cell (World.block_lt_of_cell? w _ hx260_8)).trans hx260_8; replace hx260_9 := (HB.out.cell (World.block_lt_of_cell? w _ hx260_9)).trans hx260_9; replace hx260_10 := (HB.out.cell (World.block_lt_of_cell? w _ hx260_10)).trans hx260_10; replace hx260_11 := (HB.out.cell (World.block_lt_of_cell? w _ hx260_11)).trans hx260_11; replace hx260_12 := (HB.out.cell (World.block_lt_of_cell? w _ hx260_12)).trans hx260_12; replace hx260_13 := (HB.out.cell (World.block_lt_of_cell? w _ hx260_13)).trans hx260_13; replace hx260_14 := (HB.out.cell (World.block_lt_of_cell? w _ hx260_14)).trans hx260_14; replace hx260_15 := (HB.out.cell (World.block_lt_of_cell? w _ hx260_15)).trans hx260_15; replace p260 := eq_true p260; replace q260 := eq_true q260; refine start_ (n := 43) (S := fun w' => w'.cell? ⟨gb248, 0, none⟩ = some (.int .i64 t243) ∧ w'.cell? ⟨gb248, 1, none⟩ = some (.slice (some ad259) t244.length co45) ∧ w'.cell? ⟨gb238, 0, none⟩ = some (.int .i64 a0_0) ∧ w'.cell? ⟨gb238, 1, none⟩ = some (.slice (some ad251) l0_1.length c0_1) ∧ w'.cell? (ad259.add ((x17_3).toNat * 16)) = some (.int .u8 ((rd_T42 t244 x17_3).f0)) ∧ w'.cell? (ad251.add ((x17_3).toNat * 16)) = some (.int .u8 ((rd_T42 l0_1 x17_3).f0))) (ds := []) #[f_, f_, f_, f_, f_, f_, f_, f_, f_, f_, f_, f_, f_, f_, f_, f_, f_, f_, f_, f_, f_, f_, f_, f_, f_, f_, f_, f_, f_, f_, f_, f_, f_, f_, f_, f_, f_, f_, f_, f_, f_, f_, f_] (by kernel_rfl) rfl rfl ⟨(blk_cell BK248.out 0).trans rfl, (blk_cell BK248.out 1).trans rfl, (blk_cell BK238.out 0).trans rfl, (blk_cell BK238.out 1).trans rfl, hx259_0, ((HB.out.cell (World.block_lt_of_cell? w _ hw260_0)).trans hw260_0)⟩ (fun hHeld => ?_); refine with_tabW bitloftlaw11_SlotsOnly.tab14 bitloftlaw11_SlotsOnly.bits14 (fun HT_ HW_ => ?_)
                                         generalize wr.drew = w82 at HO_249001 HO_258001 BK238 BK248 BK257 HB hx259_0 hx259_1 hx259_10 hx259_11 hx259_12 hx259_13 hx259_14 hx259_15 hx259_2 hx259_3 hx259_4 hx259_5 hx259_6 hx259_7 hx259_8 hx259_9 hx260_0 hx260_1 hx260_10 hx260_11 hx260_12 hx260_13 hx260_14 hx260_15 hx260_2 hx260_3 hx260_4 hx260_5 hx260_6 hx260_7 hx260_8 hx260_9 hHeld ⊢
                                         refine pure_ (i := 0) (N := some 124) (v := ?_) (a' := ?_) #[t_, f_, f_, f_, f_, f_, f_, f_, f_, f_, f_, f_, f_, f_, f_, f_, f_, f_, f_, f_, f_, f_, f_, f_, f_, f_, f_, f_, f_, f_, f_, f_, f_, f_, f_, f_, f_, f_, f_, f_, f_, f_, f_] rfl rfl (any_of HT_.out (by kernel_rfl)) (fun _ _ _ h => h) (Or.inl ⟨by rfl, ?_⟩) ?_ ?_; rotate_left
                                         ·
                                          intro w'; go_simp
                                          with_reducible rfl
                                         rotate_left
                                         ·
                                          simp only [Act.put, sA_, sZ_, sS_, i64_w, i32_w]; rfl
                                         refine pure_ (i := 1) (N := some 125) (v := ?_) (a' := ?_) #[t_, t_, f_, f_, f_, f_, f_, f_, f_, f_, f_, f_, f_, f_, f_, f_, f_, f_, f_, f_, f_, f_, f_, f_, f_, f_, f_, f_, f_, f_, f_, f_, f_, f_, f_, f_, f_, f_, f_, f_, f_, f_, f_] rfl rfl (any_of HT_.out (by kernel_rfl)) (fun _ _ _ h => h) (Or.inl ⟨by rfl, ?_⟩) ?_ ?_; rotate_left
                                         ·
                                          intro w'; go_simp
                                          with_reducible rfl
                                         rotate_left
                                         ·
                                          simp only [Act.put, sA_, sZ_, sS_, i64_w, i32_w]; rfl
                                         refine pure_ (i := 2) (N := some 126) (v := ?_) (a' := ?_) #[t_, t_, t_, f_, f_, f_, f_, f_, f_, f_, f_, f_, f_, f_, f_, f_, f_, f_, f_, f_, f_, f_, f_, f_, f_, f_, f_, f_, f_, f_, f_, f_, f_, f_, f_, f_, f_, f_, f_, f_, f_, f_, f_] rfl rfl (any_of HT_.out (by kernel_rfl)) (fun _ _ _ h => h) (Or.inl ⟨by rfl, ?_⟩) ?_ ?_; rotate_left
                                         ·
                                          intro w'; go_simp
                                          with_reducible rfl
                                         rotate_left
                                         ·
                                          simp only [Act.put, sA_, sZ_, sS_, i64_w, i32_w]; rfl
                                         refine pure_ (i := 3) (N := some 127) (v := ?_) (a' := ?_) #[t_, t_, t_, t_, f_, f_, f_, f_, f_, f_, f_, f_, f_, f_, f_, f_, f_, f_, f_, f_, f_, f_, f_, f_, f_, f_, f_, f_, f_, f_, f_, f_, f_, f_, f_, f_, f_, f_, f_, f_, f_, f_, f_] rfl rfl (any_of HT_.out (by kernel_rfl)) (fun _ _ _ h => h) (Or.inl ⟨by rfl, ?_⟩) ?_ ?_; rotate_left
                                         ·
                                          intro w'; go_simp
                                          with_reducible rfl
                                         rotate_left
                                         ·
                                          simp only [Act.put, sA_, sZ_, sS_, i64_w, i32_w]; rfl
                                         refine pure_ (i := 4) (N := some 128) (v := ?_) (a' := ?_) #[t_, t_, t_, t_, t_, f_, f_, f_, f_, f_, f_, f_, f_, f_, f_, f_, f_, f_, f_, f_, f_, f_, f_, f_, f_, f_, f_, f_, f_, f_, f_, f_, f_, f_, f_, f_, f_, f_, f_, f_, f_, f_, f_] rfl rfl (any_of HT_.out (by kernel_rfl)) (fun _ _ _ h => h) (Or.inl ⟨by rfl, ?_⟩) ?_ ?_; rotate_left
                                         ·
                                          intro w'; go_simp
                                          with_reducible rfl
                                         rotate_left
                                         ·
                                          simp only [Act.put, sA_, sZ_, sS_, i64_w, i32_w]; rfl
                                         refine pure_ (i := 5) (N := some 129) (v := ?_) (a' := ?_) #[t_, t_, t_, t_, t_, t_, f_, f_, f_, f_, f_, f_, f_, f_, f_, f_, f_, f_, f_, f_, f_, f_, f_, f_, f_, f_, f_, f_, f_, f_, f_, f_, f_, f_, f_, f_, f_, f_, f_, f_, f_, f_, f_] rfl rfl (any_of HT_.out (by kernel_rfl)) (fun _ _ _ h => h) (Or.inl ⟨by rfl, ?_⟩) ?_ ?_; rotate_left
                                         ·
                                          intro w'; go_simp
                                          with_reducible rfl
                                         rotate_left
                                         ·
                                          simp only [Act.put, sA_, sZ_, sS_, i64_w, i32_w]; rfl
                                         refine pure_ (i := 6) (N := some 130) (v := ?_) (a' := ?_) #[t_, t_, t_, t_, t_, t_, t_, f_, f_, f_, f_, f_, f_, f_, f_, f_, f_, f_, f_, f_, f_, f_, f_, f_, f_, f_, f_, f_, f_, f_, f_, f_, f_, f_, f_, f_, f_, f_, f_, f_, f_, f_, f_] rfl rfl (any_of HT_.out (by kernel_rfl)) (fun _ _ _ h => h) (Or.inl ⟨by rfl, ?_⟩) ?_ ?_; rotate_left
                                         ·
                                          intro w'; go_simp
                                          with_reducible rfl
                                         rotate_left
                                         ·
                                          simp only [Act.put, sA_, sZ_, sS_, i64_w, i32_w]; rfl
                                         refine pure_ (i := 7) (N := some 131) (v := ?_) (a' := ?_) #[t_, t_, t_, t_, t_, t_, t_, t_, f_, f_, f_, f_, f_, f_, f_, f_, f_, f_, f_, f_, f_, f_, f_, f_, f_, f_, f_, f_, f_, f_, f_, f_, f_, f_, f_, f_, f_, f_, f_, f_, f_, f_, f_] rfl rfl (any_of HT_.out (by kernel_rfl)) (fun _ _ _ h => h) (Or.inl ⟨by rfl, ?_⟩) ?_ ?_; rotate_left
                                         ·
                                          intro w'; go_simp
                                          with_reducible rfl
                                         rotate_left
                                         ·
                                          simp only [Act.put, sA_, sZ_, sS_, i64_w, i32_w]; rfl
                                         refine pure_ (i := 8) (N := some 132) (v := ?_) (a' := ?_) #[t_, t_, t_, t_, t_, t_, t_, t_, t_, f_, f_, f_, f_, f_, f_, f_, f_, f_, f_, f_, f_, f_, f_, f_, f_, f_, f_, f_, f_, f_, f_, f_, f_, f_, f_, f_, f_, f_, f_, f_, f_, f_, f_] rfl rfl (any_of HT_.out (by kernel_rfl)) (fun _ _ _ h => h) (Or.inl ⟨by rfl, ?_⟩) ?_ ?_; rotate_left
                                         ·
                                          intro w'; go_simp
                                          with_reducible rfl
                                         rotate_left
                                         ·
                                          simp only [Act.put, sA_, sZ_, sS_, i64_w, i32_w]; rfl
                                         refine pure_ (i := 9) (N := some 133) (v := ?_) (a' := ?_) #[t_, t_, t_, t_, t_, t_, t_, t_, t_, t_, f_, f_, f_, f_, f_, f_, f_, f_, f_, f_, f_, f_, f_, f_, f_, f_, f_, f_, f_, f_, f_, f_, f_, f_, f_, f_, f_, f_, f_, f_, f_, f_, f_] rfl rfl (any_of HT_.out (by kernel_rfl)) (fun _ _ _ h => h) (Or.inl ⟨by rfl, ?_⟩) ?_ ?_; rotate_left
                                         ·
                                          intro w'; go_simp
                                          with_reducible rfl
                                         rotate_left
                                         ·
                                          simp only [Act.put, sA_, sZ_, sS_, i64_w, i32_w]; rfl
                                         refine pure_ (i := 10) (N := some 134) (v := undef) (a' := ?_) #[t_, t_, t_, t_, t_, t_, t_, t_, t_, t_, t_, f_, f_, f_, f_, f_, f_, f_, f_, f_, f_, f_, f_, f_, f_, f_, f_, f_, f_, f_, f_, f_, f_, f_, f_, f_, f_, f_, f_, f_, f_, f_, f_] rfl rfl (any_of HT_.out (by kernel_rfl)) (fun _ _ _ h => h) (Or.inr ⟨by rfl, rfl⟩) ?_ ?_; rotate_left
                                         ·
                                          simp only [Act.put, sA_, sZ_, sS_, i64_w, i32_w]; rfl
                                         refine pure_ (i := 11) (N := some 135) (v := undef) (a' := ?_) #[t_, t_, t_, t_, t_, t_, t_, t_, t_, t_, t_, t_, f_, f_, f_, f_, f_, f_, f_, f_, f_, f_, f_, f_, f_, f_, f_, f_, f_, f_, f_, f_, f_, f_, f_, f_, f_, f_, f_, f_, f_, f_, f_] rfl rfl (any_of HT_.out (by kernel_rfl)) (fun _ _ _ h => h) (Or.inr ⟨by rfl, rfl⟩) ?_ ?_; rotate_left
                                         ·
                                          simp only [Act.put, sA_, sZ_, sS_, i64_w, i32_w]; rfl
                                         refine pure_ (i := 12) (N := some 136) (v := undef) (a' := ?_) #[t_, t_, t_, t_, t_, t_, t_, t_, t_, t_, t_, t_, t_, f_, f_, f_, f_, f_, f_, f_, f_, f_, f_, f_, f_, f_, f_, f_, f_, f_, f_, f_, f_, f_, f_, f_, f_, f_, f_, f_, f_, f_, f_] rfl rfl (any_of HT_.out (by kernel_rfl)) (fun _ _ _ h => h) (Or.inr ⟨by rfl, rfl⟩) ?_ ?_; rotate_left
                                         ·
                                          simp only [Act.put, sA_, sZ_, sS_, i64_w, i32_w]; rfl
                                         refine pure_ (i := 13) (N := some 137) (v := undef) (a' := ?_) #[t_, t_, t_, t_, t_, t_, t_, t_, t_, t_, t_, t_, t_, t_, f_, f_, f_, f_, f_, f_, f_, f_, f_, f_, f_, f_, f_, f_, f_, f_, f_, f_, f_, f_, f_, f_, f_, f_, f_, f_, f_, f_, f_] rfl rfl (any_of HT_.out (by kernel_rfl)) (fun _ _ _ h => h) (Or.inr ⟨by rfl, rfl⟩) ?_ ?_; rotate_left
                                         ·
                                          simp only [Act.put, sA_, sZ_, sS_, i64_w, i32_w]; rfl
                                         refine pure_ (i := 14) (N := some 138) (v := undef) (a' := ?_) #[t_, t_, t_, t_, t_, t_, t_, t_, t_, t_, t_, t_, t_, t_, t_, f_, f_, f_, f_, f_, f_, f_, f_, f_, f_, f_, f_, f_, f_, f_, f_, f_, f_, f_, f_, f_, f_, f_, f_, f_, f_, f_, f_] rfl rfl (any_of HT_.out (by kernel_rfl)) (fun _ _ _ h => h) (Or.inr ⟨by rfl, rfl⟩) ?_ ?_; rotate_left
                                         ·
                                          simp only [Act.put, sA_, sZ_, sS_, i64_w, i32_w]; rfl
                                         refine pure_ (i := 15) (N := some 139) (v := undef) (a' := ?_) #[t_, t_, t_, t_, t_, t_, t_, t_, t_, t_, t_, t_, t_, t_, t_, t_, f_, f_, f_, f_, f_, f_, f_, f_, f_, f_, f_, f_, f_, f_, f_, f_, f_, f_, f_, f_, f_, f_, f_, f_, f_, f_, f_] rfl rfl (any_of HT_.out (by kernel_rfl)) (fun _ _ _ h => h) (Or.inr ⟨by rfl, rfl⟩) ?_ ?_; rotate_left
                                         ·
                                          simp only [Act.put, sA_, sZ_, sS_, i64_w, i32_w]; rfl
                                         refine pure_ (i := 16) (N := some 140) (v := undef) (a' := ?_) #[t_, t_, t_, t_, t_, t_, t_, t_, t_, t_, t_, t_, t_, t_, t_, t_, t_, f_, f_, f_, f_, f_, f_, f_, f_, f_, f_, f_, f_, f_, f_, f_, f_, f_, f_, f_, f_, f_, f_, f_, f_, f_, f_] rfl rfl (any_of HT_.out (by kernel_rfl)) (fun _ _ _ h => h) (Or.inr ⟨by rfl, rfl⟩) ?_ ?_; rotate_left
                                         ·
                                          simp only [Act.put, sA_, sZ_, sS_, i64_w, i32_w]; rfl
                                         refine pure_ (i := 17) (N := some 141) (v := undef) (a' := ?_) #[t_, t_, t_, t_, t_, t_, t_, t_, t_, t_, t_, t_, t_, t_, t_, t_, t_, t_, f_, f_, f_, f_, f_, f_, f_, f_, f_, f_, f_, f_, f_, f_, f_, f_, f_, f_, f_, f_, f_, f_, f_, f_, f_] rfl rfl (any_of HT_.out (by kernel_rfl)) (fun _ _ _ h => h) (Or.inr ⟨by rfl, rfl⟩) ?_ ?_; rotate_left
                                         ·
                                          simp only [Act.put, sA_, sZ_, sS_, i64_w, i32_w]; rfl
                                         refine pure_ (i := 18) (N := some 142) (v := undef) (a' := ?_) #[t_, t_, t_, t_, t_, t_, t_, t_, t_, t_, t_, t_, t_, t_, t_, t_, t_, t_, t_, f_, f_, f_, f_, f_, f_, f_, f_, f_, f_, f_, f_, f_, f_, f_, f_, f_, f_, f_, f_, f_, f_, f_, f_] rfl rfl (any_of HT_.out (by kernel_rfl)) (fun _ _ _ h => h) (Or.inr ⟨by rfl, rfl⟩) ?_ ?_; rotate_left
                                         ·
                                          simp only [Act.put, sA_, sZ_, sS_, i64_w, i32_w]; rfl
                                         refine pure_ (i := 19) (N := some 143) (v := undef) (a' := ?_) #[t_, t_, t_, t_, t_, t_, t_, t_, t_, t_, t_, t_, t_, t_, t_, t_, t_, t_, t_, t_, f_, f_, f_, f_, f_, f_, f_, f_, f_, f_, f_, f_, f_, f_, f_, f_, f_, f_, f_, f_, f_, f_, f_] rfl rfl (any_of HT_.out (by kernel_rfl)) (fun _ _ _ h => h) (Or.inr ⟨by rfl, rfl⟩) ?_ ?_; rotate_left
                                         ·
                                          simp only [Act.put, sA_, sZ_, sS_, i64_w, i32_w]; rfl
                                         refine pure_ (i := 20) (N := some 144) (v := undef) (a' := ?_) #[t_, t_, t_, t_, t_, t_, t_, t_, t_, t_, t_, t_, t_, t_, t_, t_, t_, t_, t_, t_, t_, f_, f_, f_, f_, f_, f_, f_, f_, f_, f_, f_, f_, f_, f_, f_, f_, f_, f_, f_, f_, f_, f_] rfl rfl (any_of HT_.out (by kernel_rfl)) (fun _ _ _ h => h) (Or.inr ⟨by rfl, rfl⟩) ?_ ?_; rotate_left
                                         ·
                                          simp only [Act.put, sA_, sZ_, sS_, i64_w, i32_w]; rfl
                                         refine pure_ (i := 21) (N := some 145) (v := undef) (a' := ?_) #[t_, t_, t_, t_, t_, t_, t_, t_, t_, t_, t_, t_, t_, t_, t_, t_, t_, t_, t_, t_, t_, t_, f_, f_, f_, f_, f_, f_, f_, f_, f_, f_, f_, f_, f_, f_, f_, f_, f_, f_, f_, f_, f_] rfl rfl (any_of HT_.out (by kernel_rfl)) (fun _ _ _ h => h) (Or.inr ⟨by rfl, rfl⟩) ?_ ?_; rotate_left
                                         ·
                                          simp only [Act.put, sA_, sZ_, sS_, i64_w, i32_w]; rfl
                                         refine pure_ (i := 22) (N := some 146) (v := undef) (a' := ?_) #[t_, t_, t_, t_, t_, t_, t_, t_, t_, t_, t_, t_, t_, t_, t_, t_, t_, t_, t_, t_, t_, t_, t_, f_, f_, f_, f_, f_, f_, f_, f_, f_, f_, f_, f_, f_, f_, f_, f_, f_, f_, f_, f_] rfl rfl (any_of HT_.out (by kernel_rfl)) (fun _ _ _ h => h) (Or.inr ⟨by rfl, rfl⟩) ?_ ?_; rotate_left
                                         ·
                                          simp only [Act.put, sA_, sZ_, sS_, i64_w, i32_w]; rfl
                                         refine pure_ (i := 23) (N := some 147) (v := undef) (a' := ?_) #[t_, t_, t_, t_, t_, t_, t_, t_, t_, t_, t_, t_, t_, t_, t_, t_, t_, t_, t_, t_, t_, t_, t_, t_, f_, f_, f_, f_, f_, f_, f_, f_, f_, f_, f_, f_, f_, f_, f_, f_, f_, f_, f_] rfl rfl (any_of HT_.out (by kernel_rfl)) (fun _ _ _ h => h) (Or.inr ⟨by rfl, rfl⟩) ?_ ?_; rotate_left
                                         ·
                                          simp only [Act.put, sA_, sZ_, sS_, i64_w, i32_w]; rfl
                                         refine pure_ (i := 24) (N := some 148) (v := undef) (a' := ?_) #[t_, t_, t_, t_, t_, t_, t_, t_, t_, t_, t_, t_, t_, t_, t_, t_, t_, t_, t_, t_, t_, t_, t_, t_, t_, f_, f_, f_, f_, f_, f_, f_, f_, f_, f_, f_, f_, f_, f_, f_, f_, f_, f_] rfl rfl (any_of HT_.out (by kernel_rfl)) (fun _ _ _ h => h) (Or.inr ⟨by rfl, rfl⟩) ?_ ?_; rotate_left
                                         ·
                                          simp only [Act.put, sA_, sZ_, sS_, i64_w, i32_w]; rfl
                                         refine pure_ (i := 25) (N := some 149) (v := undef) (a' := ?_) #[t_, t_, t_, t_, t_, t_, t_, t_, t_, t_, t_, t_, t_, t_, t_, t_, t_, t_, t_, t_, t_, t_, t_, t_, t_, t_, f_, f_, f_, f_, f_, f_, f_, f_, f_, f_, f_, f_, f_, f_, f_, f_, f_] rfl rfl (any_of HT_.out (by kernel_rfl)) (fun _ _ _ h => h) (Or.inr ⟨by rfl, rfl⟩) ?_ ?_; rotate_left
                                         ·
                                          simp only [Act.put, sA_, sZ_, sS_, i64_w, i32_w]; rfl
                                         refine pure_ (i := 26) (N := some 150) (v := undef) (a' := ?_) #[t_, t_, t_, t_, t_, t_, t_, t_, t_, t_, t_, t_, t_, t_, t_, t_, t_, t_, t_, t_, t_, t_, t_, t_, t_, t_, t_, f_, f_, f_, f_, f_, f_, f_, f_, f_, f_, f_, f_, f_, f_, f_, f_] rfl rfl (any_of HT_.out (by kernel_rfl)) (fun _ _ _ h => h) (Or.inr ⟨by rfl, rfl⟩) ?_ ?_; rotate_left
                                         ·
                                          simp only [Act.put, sA_, sZ_, sS_, i64_w, i32_w]; rfl
                                         refine pure_ (i := 27) (N := some 151) (v := ?_) (a' := ?_) #[t_, t_, t_, t_, t_, t_, t_, t_, t_, t_, t_, t_, t_, t_, t_, t_, t_, t_, t_, t_, t_, t_, t_, t_, t_, t_, t_, t_, f_, f_, f_, f_, f_, f_, f_, f_, f_, f_, f_, f_, f_, f_, f_] rfl rfl (any_of HT_.out (by kernel_rfl)) (fun _ _ _ h => h) (Or.inl ⟨by rfl, ?_⟩) ?_ ?_; rotate_left
                                         ·
                                          intro w'; go_simp
                                          with_reducible rfl
                                         rotate_left
                                         ·
                                          simp only [Act.put, sA_, sZ_, sS_, i64_w, i32_w]; rfl
                                         refine pure_ (i := 28) (N := some 152) (v := ?_) (a' := ?_) #[t_, t_, t_, t_, t_, t_, t_, t_, t_, t_, t_, t_, t_, t_, t_, t_, t_, t_, t_, t_, t_, t_, t_, t_, t_, t_, t_, t_, t_, f_, f_, f_, f_, f_, f_, f_, f_, f_, f_, f_, f_, f_, f_] rfl rfl (any_of HT_.out (by kernel_rfl)) (fun _ _ _ h => h) (Or.inl ⟨by rfl, ?_⟩) ?_ ?_; rotate_left
                                         ·
                                          intro w'; go_simp
                                          with_reducible rfl
                                         rotate_left
                                         ·
                                          simp only [Act.put, sA_, sZ_, sS_, i64_w, i32_w]; rfl
                                         refine pure_ (i := 29) (N := some 153) (v := ?_) (a' := ?_) #[t_, t_, t_, t_, t_, t_, t_, t_, t_, t_, t_, t_, t_, t_, t_, t_, t_, t_, t_, t_, t_, t_, t_, t_, t_, t_, t_, t_, t_, t_, f_, f_, f_, f_, f_, f_, f_, f_, f_, f_, f_, f_, f_] rfl rfl (any_of HT_.out (by kernel_rfl)) (fun _ _ _ h => h) (Or.inl ⟨by rfl, ?_⟩) ?_ ?_; rotate_left
                                         ·
                                          intro w'; go_simp
                                          with_reducible rfl
                                         rotate_left
                                         ·
                                          simp only [Act.put, sA_, sZ_, sS_, i64_w, i32_w]; rfl
                                         refine pure_ (i := 31) (N := some 155) (v := ?_) (a' := ?_) #[t_, t_, t_, t_, t_, t_, t_, t_, t_, t_, t_, t_, t_, t_, t_, t_, t_, t_, t_, t_, t_, t_, t_, t_, t_, t_, t_, t_, t_, t_, f_, t_, f_, f_, f_, f_, f_, f_, f_, f_, f_, f_, f_] rfl rfl (any_of HT_.out (by kernel_rfl)) (fun _ _ _ h => h) (Or.inl ⟨by rfl, ?_⟩) ?_ ?_; rotate_left
                                         ·
                                          intro w'; go_simp
                                          with_reducible rfl
                                         rotate_left
                                         ·
                                          simp only [Act.put, sA_, sZ_, sS_, i64_w, i32_w]; rfl
                                         refine pure_ (i := 35) (N := some 159) (v := ?_) (a' := ?_) #[t_, t_, t_, t_, t_, t_, t_, t_, t_, t_, t_, t_, t_, t_, t_, t_, t_, t_, t_, t_, t_, t_, t_, t_, t_, t_, t_, t_, t_, t_, f_, t_, f_, f_, f_, t_, f_, f_, f_, f_, f_, f_, f_] rfl rfl (any_of HT_.out (by kernel_rfl)) (fun _ _ _ h => h) (Or.inl ⟨by rfl, ?_⟩) ?_ ?_; rotate_left
                                         ·
                                          intro w'; go_simp
                                          with_reducible rfl
                                         rotate_left
                                         ·
                                          simp only [Act.put, sA_, sZ_, sS_, i64_w, i32_w]; rfl
                                         refine pure_ (i := 37) (N := some 161) (v := ?_) (a' := ?_) #[t_, t_, t_, t_, t_, t_, t_, t_, t_, t_, t_, t_, t_, t_, t_, t_, t_, t_, t_, t_, t_, t_, t_, t_, t_, t_, t_, t_, t_, t_, f_, t_, f_, f_, f_, t_, f_, t_, f_, f_, f_, f_, f_] rfl rfl (any_of HT_.out (by kernel_rfl)) (fun _ _ _ h => h) (Or.inl ⟨by rfl, ?_⟩) ?_ ?_; rotate_left
                                         ·
                                          intro w'; go_simp
                                          with_reducible rfl
                                         rotate_left
                                         ·
                                          simp only [Act.put, sA_, sZ_, sS_, i64_w, i32_w]; rfl
                                         refine take_ (i := 30) (N := some 154) (v := ?_) (a' := ?_) #[t_, t_, t_, t_, t_, t_, t_, t_, t_, t_, t_, t_, t_, t_, t_, t_, t_, t_, t_, t_, t_, t_, t_, t_, t_, t_, t_, t_, t_, t_, t_, t_, f_, f_, f_, t_, f_, t_, f_, f_, f_, f_, f_] rfl rfl (take_ofW HT_.out HW_.out (by kernel_rfl)) (fun _ _ _ h => h) (Or.inl ⟨by rfl, ?_⟩) hHeld ?_ ?_; rotate_left
                                         ·
                                          rintro w' ⟨s0, s1, s2, s3, s4, s5⟩
                                          go_simp
                                          with_reducible rfl
                                         rotate_left
                                         ·
                                          simp only [Act.put, sA_, sZ_, sS_, i64_w, i32_w]; rfl
                                         refine pure_ (i := 32) (N := some 156) (v := ?_) (a' := ?_) #[t_, t_, t_, t_, t_, t_, t_, t_, t_, t_, t_, t_, t_, t_, t_, t_, t_, t_, t_, t_, t_, t_, t_, t_, t_, t_, t_, t_, t_, t_, t_, t_, t_, f_, f_, t_, f_, t_, f_, f_, f_, f_, f_] rfl rfl (any_of HT_.out (by kernel_rfl)) (fun _ _ _ h => h) (Or.inl ⟨by rfl, ?_⟩) ?_ ?_; rotate_left
                                         ·
                                          intro w'; go_simp
                                          with_reducible rfl
                                         rotate_left
                                         ·
                                          simp only [Act.put, sA_, sZ_, sS_, i64_w, i32_w]; rfl
                                         refine pure_ (i := 33) (N := some 157) (v := ?_) (a' := ?_) #[t_, t_, t_, t_, t_, t_, t_, t_, t_, t_, t_, t_, t_, t_, t_, t_, t_, t_, t_, t_, t_, t_, t_, t_, t_, t_, t_, t_, t_, t_, t_, t_, t_, t_, f_, t_, f_, t_, f_, f_, f_, f_, f_] rfl rfl (any_of HT_.out (by kernel_rfl)) (fun _ _ _ h => h) (Or.inl ⟨by rfl, ?_⟩) ?_ ?_; rotate_left
                                         ·
                                          intro w'; go_simp
                                          with_reducible rfl
                                         rotate_left
                                         ·
                                          simp only [Act.put, sA_, sZ_, sS_, i64_w, i32_w]; rfl
                                         refine take_ (i := 34) (N := some 158) (v := ?_) (a' := ?_) #[t_, t_, t_, t_, t_, t_, t_, t_, t_, t_, t_, t_, t_, t_, t_, t_, t_, t_, t_, t_, t_, t_, t_, t_, t_, t_, t_, t_, t_, t_, t_, t_, t_, t_, t_, t_, f_, t_, f_, f_, f_, f_, f_] rfl rfl (take_ofW HT_.out HW_.out (by kernel_rfl)) (fun _ _ _ h => h) (Or.inl ⟨by rfl, ?_⟩) hHeld ?_ ?_; rotate_left
                                         ·
                                          rintro w' ⟨s0, s1, s2, s3, s4, s5⟩
                                          go_simp
                                          with_reducible rfl
                                         rotate_left
                                         ·
                                          simp only [Act.put, sA_, sZ_, sS_, i64_w, i32_w]; rfl
                                         refine take_ (i := 36) (N := some 160) (v := ?_) (a' := ?_) #[t_, t_, t_, t_, t_, t_, t_, t_, t_, t_, t_, t_, t_, t_, t_, t_, t_, t_, t_, t_, t_, t_, t_, t_, t_, t_, t_, t_, t_, t_, t_, t_, t_, t_, t_, t_, t_, t_, f_, f_, f_, f_, f_] rfl rfl (take_ofW HT_.out HW_.out (by kernel_rfl)) (fun _ _ _ h => h) (Or.inl ⟨by rfl, ?_⟩) hHeld ?_ ?_; rotate_left
                                         ·
                                          rintro w' ⟨s0, s1, s2, s3, s4, s5⟩
                                          go_simp
                                          with_reducible rfl
                                         rotate_left
                                         ·
                                          simp only [Act.put, sA_, sZ_, sS_, i64_w, i32_w]; rfl
                                         refine pure_ (i := 38) (N := some 162) (v := ?_) (a' := ?_) #[t_, t_, t_, t_, t_, t_, t_, t_, t_, t_, t_, t_, t_, t_, t_, t_, t_, t_, t_, t_, t_, t_, t_, t_, t_, t_, t_, t_, t_, t_, t_, t_, t_, t_, t_, t_, t_, t_, t_, f_, f_, f_, f_] rfl rfl (any_of HT_.out (by kernel_rfl)) (fun _ _ _ h => h) (Or.inl ⟨by rfl, ?_⟩) ?_ ?_; rotate_left
                                         ·
                                          intro w'; go_simp
                                          with_reducible rfl
                                         rotate_left
                                         ·
                                          simp only [Act.put, sA_, sZ_, sS_, i64_w, i32_w]; rfl
                                         refine pure_ (i := 39) (N := some 163) (v := ?_) (a' := ?_) #[t_, t_, t_, t_, t_, t_, t_, t_, t_, t_, t_, t_, t_, t_, t_, t_, t_, t_, t_, t_, t_, t_, t_, t_, t_, t_, t_, t_, t_, t_, t_, t_, t_, t_, t_, t_, t_, t_, t_, t_, f_, f_, f_] rfl rfl (any_of HT_.out (by kernel_rfl)) (fun _ _ _ h => h) (Or.inl ⟨by rfl, ?_⟩) ?_ ?_; rotate_left
                                         ·
                                          intro w'; go_simp
                                          with_reducible rfl
                                         rotate_left
                                         ·
                                          simp only [Act.put, sA_, sZ_, sS_, i64_w, i32_w]; rfl
                                         refine take_ (i := 40) (N := some 164) (v := ?_) (a' := ?_) #[t_, t_, t_, t_, t_, t_, t_, t_, t_, t_, t_, t_, t_, t_, t_, t_, t_, t_, t_, t_, t_, t_, t_, t_, t_, t_, t_, t_, t_, t_, t_, t_, t_, t_, t_, t_, t_, t_, t_, t_, t_, f_, f_] rfl rfl (take_ofW HT_.out HW_.out (by kernel_rfl)) (fun _ _ _ h => h) (Or.inl ⟨by rfl, ?_⟩) hHeld ?_ ?_; rotate_left
                                         ·
                                          rintro w' ⟨s0, s1, s2, s3, s4, s5⟩
                                          go_simp
                                          with_reducible rfl
                                         rotate_left
                                         ·
                                          simp only [Act.put, sA_, sZ_, sS_, i64_w, i32_w]; rfl
                                         refine pure_ (i := 41) (N := some 165) (v := ?_) (a' := ?_) #[t_, t_, t_, t_, t_, t_, t_, t_, t_, t_, t_, t_, t_, t_, t_, t_, t_, t_, t_, t_, t_, t_, t_, t_, t_, t_, t_, t_, t_, t_, t_, t_, t_, t_, t_, t_, t_, t_, t_, t_, t_, t_, f_] rfl rfl (any_of HT_.out (by kernel_rfl)) (fun _ _ _ h => h) (Or.inl ⟨by rfl, ?_⟩) ?_ ?_; rotate_left
                                         ·
                                          intro w'; go_simp
                                          with_reducible rfl
                                         rotate_left
                                         ·
                                          simp only [Act.put, sA_, sZ_, sS_, i64_w, i32_w]; rfl
                                         refine pure_ (i := 42) (N := some 166) (v := ?_) (a' := ?_) #[t_, t_, t_, t_, t_, t_, t_, t_, t_, t_, t_, t_, t_, t_, t_, t_, t_, t_, t_, t_, t_, t_, t_, t_, t_, t_, t_, t_, t_, t_, t_, t_, t_, t_, t_, t_, t_, t_, t_, t_, t_, t_, t_] rfl rfl (any_of HT_.out (by kernel_rfl)) (fun _ _ _ h => h) (Or.inl ⟨by rfl, ?_⟩) ?_ ?_; rotate_left
                                         ·
                                          intro w'; go_simp
                                          with_reducible rfl
                                         rotate_left
                                         ·
                                          simp only [Act.put, sA_, sZ_, sS_, i64_w, i32_w]; rfl
                                         refine done_ (done_of HT_.out (by kernel_rfl)) ?_
                                         try go_wp2
                                         (first | go_meet | (refine Met.intro ?_; go_step; (repeat apply Exists.intro); refine ⟨?rel, ?eqf_⟩; case eqf_ => ((simp only [c81b0, c80b0, c79b0, c78b0, c77b0, c75b0]) <;> rfl)))
                                         case rel => exact ⟨_, ((((rd_T42 t244 x17_3).f0) != ((rd_T42 l0_1 x17_3).f0))), (by first | rfl | (simp; done) | (simp [*]; done)), H', ⟨by have := HJ5.out; have := HJ38.out; have := HK3.out; have := HK4.out; first | omega | exact Nat.le_refl _⟩, ⟨pL_ HO_249001.out⟩, ⟨pL_ HO_258001.out⟩, ⟨pG_ BK238.out⟩, ⟨pG_ BK248.out⟩, ⟨pG_ BK257.out⟩, ⟨pH_ HB.out⟩⟩
                                       ·
                                        rw [if_neg c81] at H; exact absurd H (by simp)
                                     ·
                                      rw [if_neg c80] at H; exact absurd H (by simp)
                                   ·
                                    rw [if_neg c79] at H; exact absurd H (by simp)
                                 ·
                                  as_aux_lemma =>
                                   rw [if_neg c78] at H; have c78b0 : (x18_4 == (wrap64 (a2 - 1))) = false := beq_eq_false_iff_ne.mpr c78; have c78b1 : (x18_4 != (wrap64 (a2 - 1))) = true := bne_iff_ne.mpr c78; (try simp only [hji35] at c78b0); (try simp only [hji35] at c78b1)
                                   by_cases c83 : 0 ≤ x17_3
                                   ·
                                    as_aux_lemma =>
                                     rw [if_pos c83] at H; have c83b0 : decide (0 ≤ x17_3) = true := decide_eq_true c83; clear c83
                                     by_cases c84 : x17_3 < (t244.length : Int)
                                     ·
                                      as_aux_lemma =>
                                       rw [if_pos c84] at H; have c84b0 : decide (x17_3 < (t244.length : Int)) = true := decide_eq_true c84; clear c84
                                       by_cases c85 : 0 ≤ x18_4
                                       ·
                                        as_aux_lemma =>
                                         rw [if_pos c85] at H; have c85b0 : decide (0 ≤ x18_4) = true := decide_eq_true c85; clear c85
                                         by_cases c86 : x17_3 < (l0_1.length : Int)
                                         ·
                                          as_aux_lemma =>
                                           rw [if_pos c86] at H; have c86b0 : decide (x17_3 < (l0_1.length : Int)) = true := decide_eq_true c86; clear c86
                                           by_cases c87 : (rd (to40 (rd_T42 t244 x17_3).f1) x18_4) = (rd (to40 (rd_T42 l0_1 x17_3).f1) x18_4)
                                           ·
                                            as_aux_lemma =>
                                             rw [if_pos c87] at H; have c87b0 : ((rd (to40 (rd_T42 t244 x17_3).f1) x18_4) == (rd (to40 (rd_T42 l0_1 x17_3).f1) x18_4)) = true := beq_iff_eq.mpr c87; have c87b1 : ((rd (to40 (rd_T42 t244 x17_3).f1) x18_4) != (rd (to40 (rd_T42 l0_1 x17_3).f1) x18_4)) = false := bne_eq_false_iff_eq.mpr c87; clear c87; have H' := Aside0.mk H; clear H
                                             try go_wp2
                                             have n0_ := Aside0.mk (Kd.R_drew HO_249001.out); have n1_ := Aside0.mk (Kd.R_drew HO_258001.out); have n2_ := Aside0.mk (blk_drew BK238.out); have n3_ := Aside0.mk (blk_drew BK248.out); have n4_ := Aside0.mk (blk_drew BK257.out); have n5_ := Aside0.mk (below_drew1 HB.out); clear HO_249001; clear HO_258001; clear BK238; clear BK248; clear BK257; clear HB; have HO_249001 := n0_; have HO_258001 := n1_; have BK238 := n2_; have BK248 := n3_; have BK257 := n4_; have HB := n5_; clear n0_ n1_ n2_ n3_ n4_ n5_; have p261 : 0 ≤ (x17_3 : Int) := of_decide_eq_true (by first | (with_reducible assumption) | assumption); have q261 : x17_3 < (t244.length : Int) := of_decide_eq_true (by first | (with_reducible assumption) | assumption); obtain ⟨ad261, e261, hx261_0, hx261_1, hx261_2, hx261_3, hx261_4, hx261_5, hx261_6, hx261_7, hx261_8, hx261_9, hx261_10, hx261_11, hx261_12, hx261_13, hx261_14, hx261_15⟩ := at_T42 (Kd.R_reads' HO_249001.out).2.2 x17_3 p261 q261
                                             cases e261
                                             replace p261 := eq_true p261; replace q261 := eq_true q261; have hsw89 := sel_cells_ (k := .u8) (s := 1) (n := 15) (to40 (rd_T42 t244 x17_3).f1) rfl (by intro i_ h_; match i_, h_ with | 0, _ => exact hx261_1 | 1, _ => exact hx261_2 | 2, _ => exact hx261_3 | 3, _ => exact hx261_4 | 4, _ => exact hx261_5 | 5, _ => exact hx261_6 | 6, _ => exact hx261_7 | 7, _ => exact hx261_8 | 8, _ => exact hx261_9 | 9, _ => exact hx261_10 | 10, _ => exact hx261_11 | 11, _ => exact hx261_12 | 12, _ => exact hx261_13 | 13, _ => exact hx261_14 | 14, _ => exact hx261_15) (x18_4 : Int) (of_decide_eq_true (by first | (with_reducible assumption) | assumption)) (of_decide_eq_true (by first | (with_reducible assumption) | assumption)); have pa89 : 0 ≤ (x18_4 : Int) := of_decide_eq_true (by first | (with_reducible assumption) | assumption); have qa89 : (x18_4 : Int) < 15 := of_decide_eq_true (by first | (with_reducible assumption) | assumption); replace pa89 := eq_true pa89; replace qa89 := eq_true qa89; have p262 : 0 ≤ (x17_3 : Int) := of_decide_eq_true (by first | (with_reducible assumption) | assumption); have q262 : x17_3 < (l0_1.length : Int) := of_decide_eq_true (by first | (with_reducible assumption) | assumption); obtain ⟨ad262, e262, hx262_0, hx262_1, hx262_2, hx262_3, hx262_4, hx262_5, hx262_6, hx262_7, hx262_8, hx262_9, hx262_10, hx262_11, hx262_12, hx262_13, hx262_14, hx262_15⟩ := at_T42 HR0_1.out x17_3 p262 q262; have hw262_15 := hx262_15; have hw262_14 := hx262_14; have hw262_13 := hx262_13; have hw262_12 := hx262_12; have hw262_11 := hx262_11; have hw262_10 := hx262_10; have hw262_9 := hx262_9; have hw262_8 := hx262_8; have hw262_7 := hx262_7; have hw262_6 := hx262_6; have hw262_5 := hx262_5; have hw262_4 := hx262_4; have hw262_3 := hx262_3; have hw262_2 := hx262_2; have hw262_1 := hx262_1; have hw262_0 := hx262_0; obtain rfl : ad251 = ad262 := (by injection e262); replace hx262_0 := (HB.out.cell (World.block_lt_of_cell? w _ hx262_0)).trans hx262_0; replace hx262_1 := (HB.out.cell (World.block_lt_of_cell? w _ hx262_1)).trans hx262_1; replace hx262_2 := (HB.out.cell (World.block_lt_of_cell? w _ hx262_2)).trans hx262_2; replace hx262_3 := (HB.out.cell (World.block_lt_of_cell? w _ hx262_3)).trans hx262_3; replace hx262_4 := (HB.out.cell (World.block_lt_of_cell? w _ hx262_4)).trans hx262_4; replace hx262_5 := (HB.out.cell (World.block_lt_of_cell? w _ hx262_5)).trans hx262_5; replace hx262_6 := (HB.out.cell (World.block_lt_of_cell? w _ hx262_6)).trans hx262_6; replace hx262_7 := (HB.out.cell (World.block_lt_of_cell? w _ hx262_7)).trans hx262_7; replace hx262_8 := (HB.out.cell (World.block_lt_of_cell? w _ hx262_8)).trans hx262_8; replace hx262_9 := (HB.out.cell (World.block_lt_of_cell? w _ hx262_9)).trans hx262_9; replace hx262_10 := (HB.out.cell (World.block_lt_of_cell? w _ hx262_10)).trans hx262_10; replace hx262_11 := (HB.out.cell (World.block_lt_of_cell? w _ hx262_11)).trans hx262_11; replace hx262_12 := (HB.out.cell (World.block_lt_of_cell? w _ hx262_12)).trans hx262_12; replace hx262_13 := (HB.out.cell (World.block_lt_of_cell? w _ hx262_13)).trans hx262_13; replace hx262_14 := (HB.out.cell (World.block_lt_of_cell? w _ hx262_14)).trans hx262_14; replace hx262_15 := (HB.out.cell (World.block_lt_of_cell? w _ hx262_15)).trans hx262_15; replace p262 := eq_true p262; replace q262 := eq_true q262; have hsw90 := sel_cells_ (k := .u8) (s := 1) (n := 15) (to40 (rd_T42 l0_1 x17_3).f1) rfl (by intro i_ h_; match i_, h_ with | 0, _ => exact hw262_1 | 1, _ => exact hw262_2 | 2, _ => exact hw262_3 | 3, _ => exact hw262_4 | 4, _ => exact hw262_5 | 5, _ => exact hw262_6 | 6, _ => exact hw262_7 | 7, _ => exact hw262_8 | 8, _ => exact hw262_9 | 9, _ => exact hw262_10 | 10, _ => exact hw262_11 | 11, _ => exact hw262_12 | 12, _ => exact hw262_13 | 13, _ => exact hw262_14 | 14, _ => exact hw262_15) (x18_4 : Int) (of_decide_eq_true (by first | (with_reducible assumption) | assumption)) (of_decide_eq_true (by first | (with_reducible assumption) | assumption)); have pa90 : 0 ≤ (x18_4 : Int) := of_decide_eq_true (by first | (with_reducible assumption) | assumption); have qa90 : (x18_4 : Int) < 15 := of_decide_eq_true (by first | (with_reducible assumption) | assumption); replace pa90 := eq_true pa90; replace qa90 := eq_true qa90; have p263 : 0 ≤ (x17_3 : Int) := of_decide_eq_true (by first | (with_reducible assumption) | assumption); have q263 : x17_3 < (t244.length : Int) := of_decide_eq_true (by first | (with_reducible assumption) | assumption); obtain ⟨ad263, e263, hx263_0, hx263_1, hx263_2, hx263_3, hx263_4, hx263_5, hx263_6, hx263_7, hx263_8, hx263_9, hx263_10, hx263_11, hx263_12, hx263_13, hx263_14, hx263_15⟩ := at_T42 (Kd.R_reads' HO_249001.out).2.2 x17_3 p263 q263; obtain rfl : ad261 = ad263 := (by injection e263); replace p263 := eq_true p263; replace q263 := eq_true q263; have p264 : 0 ≤ (x17_3 : Int) := of_decide_eq_true (by first | (with_reducible assumption) | assumption); have q264 : x17_3 < (l0_1.length : Int) := of_decide_eq_true (by first | (with_reducible assumption) | assumption); obtain ⟨ad264, e264, hx264_0, hx264_1, hx264_2, hx264_3, hx264_4, hx264_5, hx264_6, hx264_7, hx264_8, hx264_9, hx264_10, hx264_11, hx264_12, hx264_13, hx264_14, hx264_15⟩ := at_T42 HR0_1.out x17_3 p264 q264; have hw264_15 := hx264_15; have hw264_14 := hx264_14; have hw264_13 := hx264_13; have hw264_12 := hx264_12; have hw264_11 := hx264_11; have hw264_10 := hx264_10; have hw264_9 := hx264_9; have hw264_8 := hx264_8; have hw264_7 := hx264_7; have hw264_6 := hx264_6; have hw264_5 := hx264_5; have hw264_4 := hx264_4; have hw264_3 := hx264_3; have hw264_2 := hx264_2; have hw264_1 := hx264_1; have hw264_0 := hx264_0; obtain rfl : ad251 = ad264 := (by injection e264); replace hx264_0 := (HB.out.cell (World.block_lt_of_cell? w _ hx264_0)).trans hx264_0; replace hx264_1 := (HB.out.cell (World.block_lt_of_cell? w _ hx264_1)).trans hx264_1; replace hx264_2 := (HB.out.cell (World.block_lt_of_cell? w _ hx264_2)).trans hx264_2; replace hx264_3 := (HB.out.cell (World.block_lt_of_cell? w _ hx264_3)).trans hx264_3; replace hx264_4 := (HB.out.cell (World.block_lt_of_cell? w _ hx264_4)).trans hx264_4; replace hx264_5 := (HB.out.cell (World.block_lt_of_cell? w _ hx264_5)).trans hx264_5; replace hx264_6 := (HB.out.cell (World.block_lt_of_cell? w _ hx264_6)).trans hx264_6; replace hx264_7 := (HB.out.cell (World.block_lt_of_cell? w _ hx264_7)).trans hx264_7; replace hx264_8 := (HB.out.cell (World.block_lt_of_cell? w _ hx264_8)).trans hx264_8; replace hx264_9 := (HB.out.cell (World.block_lt_of_cell? w _ hx264_9)).trans hx264_9; replace hx264_10 := (HB.out.cell (World.block_lt_of_cell? w _ hx264_10)).trans hx264_10; replace hx264_11 := (HB.out.cell (World.block_lt_of_cell? w _ hx264_11)).trans hx264_11; replace hx264_12 := (HB.out.cell (World.block_lt_of_cell? w _ hx264_12)).trans hx264_12; replace hx264_13 := (HB.out.cell (World.block_lt_of_cell? w _ hx264_13)).trans hx264_13; replace hx264_14 := (HB.out.cell (World.block_lt_of_cell? w _ hx264_14)).trans hx264_14; replace hx264_15 := (HB.out.cell (World.block_lt_of_cell? w _ hx264_15)).trans hx264_15; replace p264 := eq_true p264; replace q264 := eq_true q264; refine start_ (n := 43) (S := fun w' => w'.cell? ⟨gb248, 0, none⟩ = some (.int .i64 t243) ∧ w'.cell? ⟨gb248, 1, none⟩ = some (.slice (some ad261) t244.length co45) ∧ w'.cell? ⟨gb238, 0, none⟩ = some (.int .i64 a0_0) ∧ w'.cell? ⟨gb238, 1, none⟩ = some (.slice (some ad251) l0_1.length c0_1) ∧ w'.cell? ⟨(ad261.add ((x17_3).toNat * 16)).block, (ad261.add ((x17_3).toNat * 16)).off + 1 + x18_4.toNat, none⟩ = some (.int .u8 (rd (to40 (rd_T42 t244 x17_3).f1) x18_4)) ∧ w'.cell? ⟨(ad251.add ((x17_3).toNat * 16)).block, (ad251.add ((x17_3).toNat * 16)).off + 1 + x18_4.toNat, none⟩ = some (.int .u8 (rd (to40 (rd_T42 l0_1 x17_3).f1) x18_4)) ∧ w'.cell? (ad261.add ((x17_3).toNat * 16)) = some (.int .u8 ((rd_T42 t244 x17_3).f0)) ∧ w'.cell? (ad251.add ((x17_3).toNat * 16)) = some (.int .u8 ((rd_T42 l0_1 x17_3).f0))) (ds := []) #[f_, f_, f_, f_, f_, f_, f_, f_, f_, f_, f_, f_, f_, f_, f_, f_, f_, f_, f_, f_, f_, f_, f_, f_, f_, f_, f_, f_, f_, f_, f_, f_, f_, f_, f_, f_, f_, f_, f_, f_, f_, f_, f_] (by kernel_rfl) rfl rfl ⟨(blk_cell BK248.out 0).trans rfl, (blk_cell BK248.out 1).trans rfl, (blk_cell BK238.out 0).trans rfl, (blk_cell BK238.out 1).trans rfl, hsw89, ((HB.out.cell (World.block_lt_of_cell? w _ hsw90)).trans hsw90), hx263_0, ((HB.out.cell (World.block_lt_of_cell? w _ hw264_0)).trans hw264_0)⟩ (fun hHeld => ?_); refine with_tabW bitloftlaw11_SlotsOnly.tab14 bitloftlaw11_SlotsOnly.bits14 (fun HT_ HW_ => ?_)
                                             generalize wr.drew = w88 at HO_249001 HO_258001 BK238 BK248 BK257 HB hx261_0 hx261_1 hx261_10 hx261_11 hx261_12 hx261_13 hx261_14 hx261_15 hx261_2 hx261_3 hx261_4 hx261_5 hx261_6 hx261_7 hx261_8 hx261_9 hx262_0 hx262_1 hx262_10 hx262_11 hx262_12 hx262_13 hx262_14 hx262_15 hx262_2 hx262_3 hx262_4 hx262_5 hx262_6 hx262_7 hx262_8 hx262_9 hx263_0 hx263_1 hx263_10 hx263_11 hx263_12 hx263_13 hx263_14 hx263_15 hx263_2 hx263_3 hx263_4 hx263_5 hx263_6 hx263_7 hx263_8 hx263_9 hx264_0 hx264_1 hx264_10 hx264_11 hx264_12 hx264_13 hx264_14 hx264_15 hx264_2 hx264_3 hx264_4 hx264_5 hx264_6 hx264_7 hx264_8 hx264_9 hHeld ⊢
                                             refine pure_ (i := 0) (N := some 124) (v := ?_) (a' := ?_) #[t_, f_, f_, f_, f_, f_, f_, f_, f_, f_, f_, f_, f_, f_, f_, f_, f_, f_, f_, f_, f_, f_, f_, f_, f_, f_, f_, f_, f_, f_, f_, f_, f_, f_, f_, f_, f_, f_, f_, f_, f_, f_, f_] rfl rfl (any_of HT_.out (by kernel_rfl)) (fun _ _ _ h => h) (Or.inl ⟨by rfl, ?_⟩) ?_ ?_; rotate_left
                                             ·
                                              intro w'; go_simp
                                              with_reducible rfl
                                             rotate_left
                                             ·
                                              simp only [Act.put, sA_, sZ_, sS_, i64_w, i32_w]; rfl
                                             refine pure_ (i := 1) (N := some 125) (v := ?_) (a' := ?_) #[t_, t_, f_, f_, f_, f_, f_, f_, f_, f_, f_, f_, f_, f_, f_, f_, f_, f_, f_, f_, f_, f_, f_, f_, f_, f_, f_, f_, f_, f_, f_, f_, f_, f_, f_, f_, f_, f_, f_, f_, f_, f_, f_] rfl rfl (any_of HT_.out (by kernel_rfl)) (fun _ _ _ h => h) (Or.inl ⟨by rfl, ?_⟩) ?_ ?_; rotate_left
                                             ·
                                              intro w'; go_simp
                                              with_reducible rfl
                                             rotate_left
                                             ·
                                              simp only [Act.put, sA_, sZ_, sS_, i64_w, i32_w]; rfl
                                             refine pure_ (i := 2) (N := some 126) (v := ?_) (a' := ?_) #[t_, t_, t_, f_, f_, f_, f_, f_, f_, f_, f_, f_, f_, f_, f_, f_, f_, f_, f_, f_, f_, f_, f_, f_, f_, f_, f_, f_, f_, f_, f_, f_, f_, f_, f_, f_, f_, f_, f_, f_, f_, f_, f_] rfl rfl (any_of HT_.out (by kernel_rfl)) (fun _ _ _ h => h) (Or.inl ⟨by rfl, ?_⟩) ?_ ?_; rotate_left
                                             ·
                                              intro w'; go_simp
                                              with_reducible rfl
                                             rotate_left
                                             ·
                                              simp only [Act.put, sA_, sZ_, sS_, i64_w, i32_w]; rfl
                                             refine pure_ (i := 3) (N := some 127) (v := ?_) (a' := ?_) #[t_, t_, t_, t_, f_, f_, f_, f_, f_, f_, f_, f_, f_, f_, f_, f_, f_, f_, f_, f_, f_, f_, f_, f_, f_, f_, f_, f_, f_, f_, f_, f_, f_, f_, f_, f_, f_, f_, f_, f_, f_, f_, f_] rfl rfl (any_of HT_.out (by kernel_rfl)) (fun _ _ _ h => h) (Or.inl ⟨by rfl, ?_⟩) ?_ ?_; rotate_left
                                             ·
                                              intro w'; go_simp
                                              with_reducible rfl
                                             rotate_left
                                             ·
                                              simp only [Act.put, sA_, sZ_, sS_, i64_w, i32_w]; rfl
                                             refine pure_ (i := 4) (N := some 128) (v := ?_) (a' := ?_) #[t_, t_, t_, t_, t_, f_, f_, f_, f_, f_, f_, f_, f_, f_, f_, f_, f_, f_, f_, f_, f_, f_, f_, f_, f_, f_, f_, f_, f_, f_, f_, f_, f_, f_, f_, f_, f_, f_, f_, f_, f_, f_, f_] rfl rfl (any_of HT_.out (by kernel_rfl)) (fun _ _ _ h => h) (Or.inl ⟨by rfl, ?_⟩) ?_ ?_; rotate_left
                                             ·
                                              intro w'; go_simp
                                              with_reducible rfl
                                             rotate_left
                                             ·
                                              simp only [Act.put, sA_, sZ_, sS_, i64_w, i32_w]; rfl
                                             refine pure_ (i := 5) (N := some 129) (v := ?_) (a' := ?_) #[t_, t_, t_, t_, t_, t_, f_, f_, f_, f_, f_, f_, f_, f_, f_, f_, f_, f_, f_, f_, f_, f_, f_, f_, f_, f_, f_, f_, f_, f_, f_, f_, f_, f_, f_, f_, f_, f_, f_, f_, f_, f_, f_] rfl rfl (any_of HT_.out (by kernel_rfl)) (fun _ _ _ h => h) (Or.inl ⟨by rfl, ?_⟩) ?_ ?_; rotate_left
                                             ·
                                              intro w'; go_simp
                                              with_reducible rfl
                                             rotate_left
                                             ·
                                              simp only [Act.put, sA_, sZ_, sS_, i64_w, i32_w]; rfl
                                             refine pure_ (i := 6) (N := some 130) (v := ?_) (a' := ?_) #[t_, t_, t_, t_, t_, t_, t_, f_, f_, f_, f_, f_, f_, f_, f_, f_, f_, f_, f_, f_, f_, f_, f_, f_, f_, f_, f_, f_, f_, f_, f_, f_, f_, f_, f_, f_, f_, f_, f_, f_, f_, f_, f_] rfl rfl (any_of HT_.out (by kernel_rfl)) (fun _ _ _ h => h) (Or.inl ⟨by rfl, ?_⟩) ?_ ?_; rotate_left
                                             ·
                                              intro w'; go_simp
                                              with_reducible rfl
                                             rotate_left
                                             ·
                                              simp only [Act.put, sA_, sZ_, sS_, i64_w, i32_w]; rfl
                                             refine pure_ (i := 7) (N := some 131) (v := ?_) (a' := ?_) #[t_, t_, t_, t_, t_, t_, t_, t_, f_, f_, f_, f_, f_, f_, f_, f_, f_, f_, f_, f_, f_, f_, f_, f_, f_, f_, f_, f_, f_, f_, f_, f_, f_, f_, f_, f_, f_, f_, f_, f_, f_, f_, f_] rfl rfl (any_of HT_.out (by kernel_rfl)) (fun _ _ _ h => h) (Or.inl ⟨by rfl, ?_⟩) ?_ ?_; rotate_left
                                             ·
                                              intro w'; go_simp
                                              with_reducible rfl
                                             rotate_left
                                             ·
                                              simp only [Act.put, sA_, sZ_, sS_, i64_w, i32_w]; rfl
                                             refine pure_ (i := 8) (N := some 132) (v := ?_) (a' := ?_) #[t_, t_, t_, t_, t_, t_, t_, t_, t_, f_, f_, f_, f_, f_, f_, f_, f_, f_, f_, f_, f_, f_, f_, f_, f_, f_, f_, f_, f_, f_, f_, f_, f_, f_, f_, f_, f_, f_, f_, f_, f_, f_, f_] rfl rfl (any_of HT_.out (by kernel_rfl)) (fun _ _ _ h => h) (Or.inl ⟨by rfl, ?_⟩) ?_ ?_; rotate_left
                                             ·
                                              intro w'; go_simp
                                              with_reducible rfl
                                             rotate_left
                                             ·
                                              simp only [Act.put, sA_, sZ_, sS_, i64_w, i32_w]; rfl
                                             refine pure_ (i := 9) (N := some 133) (v := ?_) (a' := ?_) #[t_, t_, t_, t_, t_, t_, t_, t_, t_, t_, f_, f_, f_, f_, f_, f_, f_, f_, f_, f_, f_, f_, f_, f_, f_, f_, f_, f_, f_, f_, f_, f_, f_, f_, f_, f_, f_, f_, f_, f_, f_, f_, f_] rfl rfl (any_of HT_.out (by kernel_rfl)) (fun _ _ _ h => h) (Or.inl ⟨by rfl, ?_⟩) ?_ ?_; rotate_left
                                             ·
                                              intro w'; go_simp
                                              with_reducible rfl
                                             rotate_left
                                             ·
                                              simp only [Act.put, sA_, sZ_, sS_, i64_w, i32_w]; rfl
                                             refine pure_ (i := 10) (N := some 134) (v := ?_) (a' := ?_) #[t_, t_, t_, t_, t_, t_, t_, t_, t_, t_, t_, f_, f_, f_, f_, f_, f_, f_, f_, f_, f_, f_, f_, f_, f_, f_, f_, f_, f_, f_, f_, f_, f_, f_, f_, f_, f_, f_, f_, f_, f_, f_, f_] rfl rfl (any_of HT_.out (by kernel_rfl)) (fun _ _ _ h => h) (Or.inl ⟨by rfl, ?_⟩) ?_ ?_; rotate_left
                                             ·
                                              intro w'; go_simp
                                              with_reducible rfl
                                             rotate_left
                                             ·
                                              simp only [Act.put, sA_, sZ_, sS_, i64_w, i32_w]; rfl
                                             refine pure_ (i := 12) (N := some 136) (v := ?_) (a' := ?_) #[t_, t_, t_, t_, t_, t_, t_, t_, t_, t_, t_, f_, t_, f_, f_, f_, f_, f_, f_, f_, f_, f_, f_, f_, f_, f_, f_, f_, f_, f_, f_, f_, f_, f_, f_, f_, f_, f_, f_, f_, f_, f_, f_] rfl rfl (any_of HT_.out (by kernel_rfl)) (fun _ _ _ h => h) (Or.inl ⟨by rfl, ?_⟩) ?_ ?_; rotate_left
                                             ·
                                              intro w'; go_simp
                                              with_reducible rfl
                                             rotate_left
                                             ·
                                              simp only [Act.put, sA_, sZ_, sS_, i64_w, i32_w]; rfl
                                             refine pure_ (i := 13) (N := some 137) (v := ?_) (a' := ?_) #[t_, t_, t_, t_, t_, t_, t_, t_, t_, t_, t_, f_, t_, t_, f_, f_, f_, f_, f_, f_, f_, f_, f_, f_, f_, f_, f_, f_, f_, f_, f_, f_, f_, f_, f_, f_, f_, f_, f_, f_, f_, f_, f_] rfl rfl (any_of HT_.out (by kernel_rfl)) (fun _ _ _ h => h) (Or.inl ⟨by rfl, ?_⟩) ?_ ?_; rotate_left
                                             ·
                                              intro w'; go_simp
                                              with_reducible rfl
                                             rotate_left
                                             ·
                                              simp only [Act.put, sA_, sZ_, sS_, i64_w, i32_w]; rfl
                                             refine pure_ (i := 18) (N := some 142) (v := ?_) (a' := ?_) #[t_, t_, t_, t_, t_, t_, t_, t_, t_, t_, t_, f_, t_, t_, f_, f_, f_, f_, t_, f_, f_, f_, f_, f_, f_, f_, f_, f_, f_, f_, f_, f_, f_, f_, f_, f_, f_, f_, f_, f_, f_, f_, f_] rfl rfl (any_of HT_.out (by kernel_rfl)) (fun _ _ _ h => h) (Or.inl ⟨by rfl, ?_⟩) ?_ ?_; rotate_left
                                             ·
                                              intro w'; go_simp
                                              with_reducible rfl
                                             rotate_left
                                             ·
                                              simp only [Act.put, sA_, sZ_, sS_, i64_w, i32_w]; rfl
                                             refine pure_ (i := 20) (N := some 144) (v := ?_) (a' := ?_) #[t_, t_, t_, t_, t_, t_, t_, t_, t_, t_, t_, f_, t_, t_, f_, f_, f_, f_, t_, f_, t_, f_, f_, f_, f_, f_, f_, f_, f_, f_, f_, f_, f_, f_, f_, f_, f_, f_, f_, f_, f_, f_, f_] rfl rfl (any_of HT_.out (by kernel_rfl)) (fun _ _ _ h => h) (Or.inl ⟨by rfl, ?_⟩) ?_ ?_; rotate_left
                                             ·
                                              intro w'; go_simp
                                              with_reducible rfl
                                             rotate_left
                                             ·
                                              simp only [Act.put, sA_, sZ_, sS_, i64_w, i32_w]; rfl
                                             refine pure_ (i := 21) (N := some 145) (v := ?_) (a' := ?_) #[t_, t_, t_, t_, t_, t_, t_, t_, t_, t_, t_, f_, t_, t_, f_, f_, f_, f_, t_, f_, t_, t_, f_, f_, f_, f_, f_, f_, f_, f_, f_, f_, f_, f_, f_, f_, f_, f_, f_, f_, f_, f_, f_] rfl rfl (any_of HT_.out (by kernel_rfl)) (fun _ _ _ h => h) (Or.inl ⟨by rfl, ?_⟩) ?_ ?_; rotate_left
                                             ·
                                              intro w'; go_simp
                                              with_reducible rfl
                                             rotate_left
                                             ·
                                              simp only [Act.put, sA_, sZ_, sS_, i64_w, i32_w]; rfl
                                             refine take_ (i := 11) (N := some 135) (v := ?_) (a' := ?_) #[t_, t_, t_, t_, t_, t_, t_, t_, t_, t_, t_, t_, t_, t_, f_, f_, f_, f_, t_, f_, t_, t_, f_, f_, f_, f_, f_, f_, f_, f_, f_, f_, f_, f_, f_, f_, f_, f_, f_, f_, f_, f_, f_] rfl rfl (take_ofW HT_.out HW_.out (by kernel_rfl)) (fun _ _ _ h => h) (Or.inl ⟨by rfl, ?_⟩) hHeld ?_ ?_; rotate_left
                                             ·
                                              rintro w' ⟨s0, s1, s2, s3, s4, s5, s6, s7⟩
                                              go_simp
                                              with_reducible rfl
                                             rotate_left
                                             ·
                                              simp only [Act.put, sA_, sZ_, sS_, i64_w, i32_w]; rfl
                                             refine pure_ (i := 14) (N := some 138) (v := ?_) (a' := ?_) #[t_, t_, t_, t_, t_, t_, t_, t_, t_, t_, t_, t_, t_, t_, t_, f_, f_, f_, t_, f_, t_, t_, f_, f_, f_, f_, f_, f_, f_, f_, f_, f_, f_, f_, f_, f_, f_, f_, f_, f_, f_, f_, f_] rfl rfl (any_of HT_.out (by kernel_rfl)) (fun _ _ _ h => h) (Or.inl ⟨by rfl, ?_⟩) ?_ ?_; rotate_left
                                             ·
                                              intro w'; go_simp
                                              with_reducible rfl
                                             rotate_left
                                             ·
                                              simp only [Act.put, sA_, sZ_, sS_, i64_w, i32_w]; rfl
                                             refine pure_ (i := 15) (N := some 139) (v := ?_) (a' := ?_) #[t_, t_, t_, t_, t_, t_, t_, t_, t_, t_, t_, t_, t_, t_, t_, t_, f_, f_, t_, f_, t_, t_, f_, f_, f_, f_, f_, f_, f_, f_, f_, f_, f_, f_, f_, f_, f_, f_, f_, f_, f_, f_, f_] rfl rfl (any_of HT_.out (by kernel_rfl)) (fun _ _ _ h => h) (Or.inl ⟨by rfl, ?_⟩) ?_ ?_; rotate_left
                                             ·
                                              intro w'; go_simp
                                              with_reducible rfl
                                             rotate_left
                                             ·
                                              simp only [Act.put, sA_, sZ_, sS_, i64_w, i32_w]; rfl
                                             refine pure_ (i := 16) (N := some 140) (v := ?_) (a' := ?_) #[t_, t_, t_, t_, t_, t_, t_, t_, t_, t_, t_, t_, t_, t_, t_, t_, t_, f_, t_, f_, t_, t_, f_, f_, f_, f_, f_, f_, f_, f_, f_, f_, f_, f_, f_, f_, f_, f_, f_, f_, f_, f_, f_] rfl rfl (any_of HT_.out (by kernel_rfl)) (fun _ _ _ h => h) (Or.inl ⟨by rfl, ?_⟩) ?_ ?_; rotate_left
                                             ·
                                              intro w'; go_simp
                                              with_reducible rfl
                                             rotate_left
                                             ·
                                              simp only [Act.put, sA_, sZ_, sS_, i64_w, i32_w]; rfl
                                             refine take_ (i := 17) (N := some 141) (v := ?_) (a' := ?_) #[t_, t_, t_, t_, t_, t_, t_, t_, t_, t_, t_, t_, t_, t_, t_, t_, t_, t_, t_, f_, t_, t_, f_, f_, f_, f_, f_, f_, f_, f_, f_, f_, f_, f_, f_, f_, f_, f_, f_, f_, f_, f_, f_] rfl rfl (take_ofW HT_.out HW_.out (by kernel_rfl)) (fun _ _ _ h => h) (Or.inl ⟨by rfl, ?_⟩) hHeld ?_ ?_; rotate_left
                                             ·
                                              rintro w' ⟨s0, s1, s2, s3, s4, s5, s6, s7⟩
                                              go_simp
                                              with_reducible rfl
                                             rotate_left
                                             ·
                                              simp only [Act.put, sA_, sZ_, sS_, i64_w, i32_w]; rfl
                                             refine take_ (i := 19) (N := some 143) (v := ?_) (a' := ?_) #[t_, t_, t_, t_, t_, t_, t_, t_, t_, t_, t_, t_, t_, t_, t_, t_, t_, t_, t_, t_, t_, t_, f_, f_, f_, f_, f_, f_, f_, f_, f_, f_, f_, f_, f_, f_, f_, f_, f_, f_, f_, f_, f_] rfl rfl (take_ofW HT_.out HW_.out (by kernel_rfl)) (fun _ _ _ h => h) (Or.inl ⟨by rfl, ?_⟩) hHeld ?_ ?_; rotate_left
                                             ·
                                              rintro w' ⟨s0, s1, s2, s3, s4, s5, s6, s7⟩
                                              go_simp
                                              with_reducible rfl
                                             rotate_left
                                             ·
                                              simp only [Act.put, sA_, sZ_, sS_, i64_w, i32_w]; rfl
                                             refine pure_ (i := 22) (N := some 146) (v := ?_) (a' := ?_) #[t_, t_, t_, t_, t_, t_, t_, t_, t_, t_, t_, t_, t_, t_, t_, t_, t_, t_, t_, t_, t_, t_, t_, f_, f_, f_, f_, f_, f_, f_, f_, f_, f_, f_, f_, f_, f_, f_, f_, f_, f_, f_, f_] rfl rfl (any_of HT_.out (by kernel_rfl)) (fun _ _ _ h => h) (Or.inl ⟨by rfl, ?_⟩) ?_ ?_; rotate_left
                                             ·
                                              intro w'; go_simp
                                              with_reducible rfl
                                             rotate_left
                                             ·
                                              simp only [Act.put, sA_, sZ_, sS_, i64_w, i32_w]; rfl
                                             refine pure_ (i := 23) (N := some 147) (v := ?_) (a' := ?_) #[t_, t_, t_, t_, t_, t_, t_, t_, t_, t_, t_, t_, t_, t_, t_, t_, t_, t_, t_, t_, t_, t_, t_, t_, f_, f_, f_, f_, f_, f_, f_, f_, f_, f_, f_, f_, f_, f_, f_, f_, f_, f_, f_] rfl rfl (any_of HT_.out (by kernel_rfl)) (fun _ _ _ h => h) (Or.inl ⟨by rfl, ?_⟩) ?_ ?_; rotate_left
                                             ·
                                              intro w'; go_simp
                                              with_reducible rfl
                                             rotate_left
                                             ·
                                              simp only [Act.put, sA_, sZ_, sS_, i64_w, i32_w]; rfl
                                             refine pure_ (i := 24) (N := some 148) (v := ?_) (a' := ?_) #[t_, t_, t_, t_, t_, t_, t_, t_, t_, t_, t_, t_, t_, t_, t_, t_, t_, t_, t_, t_, t_, t_, t_, t_, t_, f_, f_, f_, f_, f_, f_, f_, f_, f_, f_, f_, f_, f_, f_, f_, f_, f_, f_] rfl rfl (any_of HT_.out (by kernel_rfl)) (fun _ _ _ h => h) (Or.inl ⟨by rfl, ?_⟩) ?_ ?_; rotate_left
                                             ·
                                              intro w'; go_simp
                                              with_reducible rfl
                                             rotate_left
                                             ·
                                              simp only [Act.put, sA_, sZ_, sS_, i64_w, i32_w]; rfl
                                             refine take_ (i := 25) (N := some 149) (v := ?_) (a' := ?_) #[t_, t_, t_, t_, t_, t_, t_, t_, t_, t_, t_, t_, t_, t_, t_, t_, t_, t_, t_, t_, t_, t_, t_, t_, t_, t_, f_, f_, f_, f_, f_, f_, f_, f_, f_, f_, f_, f_, f_, f_, f_, f_, f_] rfl rfl (take_ofW HT_.out HW_.out (by kernel_rfl)) (fun _ _ _ h => h) (Or.inl ⟨by rfl, ?_⟩) hHeld ?_ ?_; rotate_left
                                             ·
                                              rintro w' ⟨s0, s1, s2, s3, s4, s5, s6, s7⟩
                                              go_simp
                                              with_reducible rfl
                                             rotate_left
                                             ·
                                              simp only [Act.put, sA_, sZ_, sS_, i64_w, i32_w]; rfl
                                             refine pure_ (i := 26) (N := some 150) (v := ?_) (a' := ?_) #[t_, t_, t_, t_, t_, t_, t_, t_, t_, t_, t_, t_, t_, t_, t_, t_, t_, t_, t_, t_, t_, t_, t_, t_, t_, t_, t_, f_, f_, f_, f_, f_, f_, f_, f_, f_, f_, f_, f_, f_, f_, f_, f_] rfl rfl (any_of HT_.out (by kernel_rfl)) (fun _ _ _ h => h) (Or.inl ⟨by rfl, ?_⟩) ?_ ?_; rotate_left
                                             ·
                                              intro w'; go_simp
                                              with_reducible rfl
                                             rotate_left
                                             ·
                                              simp only [Act.put, sA_, sZ_, sS_, i64_w, i32_w]; rfl
                                             refine pure_ (i := 27) (N := some 151) (v := ?_) (a' := ?_) #[t_, t_, t_, t_, t_, t_, t_, t_, t_, t_, t_, t_, t_, t_, t_, t_, t_, t_, t_, t_, t_, t_, t_, t_, t_, t_, t_, t_, f_, f_, f_, f_, f_, f_, f_, f_, f_, f_, f_, f_, f_, f_, f_] rfl rfl (any_of HT_.out (by kernel_rfl)) (fun _ _ _ h => h) (Or.inl ⟨by rfl, ?_⟩) ?_ ?_; rotate_left
                                             ·
                                              intro w'; go_simp
                                              with_reducible rfl
                                             rotate_left
                                             ·
                                              simp only [Act.put, sA_, sZ_, sS_, i64_w, i32_w]; rfl
                                             refine pure_ (i := 28) (N := some 152) (v := ?_) (a' := ?_) #[t_, t_, t_, t_, t_, t_, t_, t_, t_, t_, t_, t_, t_, t_, t_, t_, t_, t_, t_, t_, t_, t_, t_, t_, t_, t_, t_, t_, t_, f_, f_, f_, f_, f_, f_, f_, f_, f_, f_, f_, f_, f_, f_] rfl rfl (any_of HT_.out (by kernel_rfl)) (fun _ _ _ h => h) (Or.inl ⟨by rfl, ?_⟩) ?_ ?_; rotate_left
                                             ·
                                              intro w'; go_simp
                                              with_reducible rfl
                                             rotate_left
                                             ·
                                              simp only [Act.put, sA_, sZ_, sS_, i64_w, i32_w]; rfl
                                             refine pure_ (i := 29) (N := some 153) (v := ?_) (a' := ?_) #[t_, t_, t_, t_, t_, t_, t_, t_, t_, t_, t_, t_, t_, t_, t_, t_, t_, t_, t_, t_, t_, t_, t_, t_, t_, t_, t_, t_, t_, t_, f_, f_, f_, f_, f_, f_, f_, f_, f_, f_, f_, f_, f_] rfl rfl (any_of HT_.out (by kernel_rfl)) (fun _ _ _ h => h) (Or.inl ⟨by rfl, ?_⟩) ?_ ?_; rotate_left
                                             ·
                                              intro w'; go_simp
                                              with_reducible rfl
                                             rotate_left
                                             ·
                                              simp only [Act.put, sA_, sZ_, sS_, i64_w, i32_w]; rfl
                                             refine pure_ (i := 31) (N := some 155) (v := ?_) (a' := ?_) #[t_, t_, t_, t_, t_, t_, t_, t_, t_, t_, t_, t_, t_, t_, t_, t_, t_, t_, t_, t_, t_, t_, t_, t_, t_, t_, t_, t_, t_, t_, f_, t_, f_, f_, f_, f_, f_, f_, f_, f_, f_, f_, f_] rfl rfl (any_of HT_.out (by kernel_rfl)) (fun _ _ _ h => h) (Or.inl ⟨by rfl, ?_⟩) ?_ ?_; rotate_left
                                             ·
                                              intro w'; go_simp
                                              with_reducible rfl
                                             rotate_left
                                             ·
                                              simp only [Act.put, sA_, sZ_, sS_, i64_w, i32_w]; rfl
                                             refine pure_ (i := 35) (N := some 159) (v := ?_) (a' := ?_) #[t_, t_, t_, t_, t_, t_, t_, t_, t_, t_, t_, t_, t_, t_, t_, t_, t_, t_, t_, t_, t_, t_, t_, t_, t_, t_, t_, t_, t_, t_, f_, t_, f_, f_, f_, t_, f_, f_, f_, f_, f_, f_, f_] rfl rfl (any_of HT_.out (by kernel_rfl)) (fun _ _ _ h => h) (Or.inl ⟨by rfl, ?_⟩) ?_ ?_; rotate_left
                                             ·
                                              intro w'; go_simp
                                              with_reducible rfl
                                             rotate_left
                                             ·
                                              simp only [Act.put, sA_, sZ_, sS_, i64_w, i32_w]; rfl
                                             refine pure_ (i := 37) (N := some 161) (v := ?_) (a' := ?_) #[t_, t_, t_, t_, t_, t_, t_, t_, t_, t_, t_, t_, t_, t_, t_, t_, t_, t_, t_, t_, t_, t_, t_, t_, t_, t_, t_, t_, t_, t_, f_, t_, f_, f_, f_, t_, f_, t_, f_, f_, f_, f_, f_] rfl rfl (any_of HT_.out (by kernel_rfl)) (fun _ _ _ h => h) (Or.inl ⟨by rfl, ?_⟩) ?_ ?_; rotate_left
                                             ·
                                              intro w'; go_simp
                                              with_reducible rfl
                                             rotate_left
                                             ·
                                              simp only [Act.put, sA_, sZ_, sS_, i64_w, i32_w]; rfl
                                             refine take_ (i := 30) (N := some 154) (v := ?_) (a' := ?_) #[t_, t_, t_, t_, t_, t_, t_, t_, t_, t_, t_, t_, t_, t_, t_, t_, t_, t_, t_, t_, t_, t_, t_, t_, t_, t_, t_, t_, t_, t_, t_, t_, f_, f_, f_, t_, f_, t_, f_, f_, f_, f_, f_] rfl rfl (take_ofW HT_.out HW_.out (by kernel_rfl)) (fun _ _ _ h => h) (Or.inl ⟨by rfl, ?_⟩) hHeld ?_ ?_; rotate_left
                                             ·
                                              rintro w' ⟨s0, s1, s2, s3, s4, s5, s6, s7⟩
                                              go_simp
                                              with_reducible rfl
                                             rotate_left
                                             ·
                                              simp only [Act.put, sA_, sZ_, sS_, i64_w, i32_w]; rfl
                                             refine pure_ (i := 32) (N := some 156) (v := ?_) (a' := ?_) #[t_, t_, t_, t_, t_, t_, t_, t_, t_, t_, t_, t_, t_, t_, t_, t_, t_, t_, t_, t_, t_, t_, t_, t_, t_, t_, t_, t_, t_, t_, t_, t_, t_, f_, f_, t_, f_, t_, f_, f_, f_, f_, f_] rfl rfl (any_of HT_.out (by kernel_rfl)) (fun _ _ _ h => h) (Or.inl ⟨by rfl, ?_⟩) ?_ ?_; rotate_left
                                             ·
                                              intro w'; go_simp
                                              with_reducible rfl
                                             rotate_left
                                             ·
                                              simp only [Act.put, sA_, sZ_, sS_, i64_w, i32_w]; rfl
                                             refine pure_ (i := 33) (N := some 157) (v := ?_) (a' := ?_) #[t_, t_, t_, t_, t_, t_, t_, t_, t_, t_, t_, t_, t_, t_, t_, t_, t_, t_, t_, t_, t_, t_, t_, t_, t_, t_, t_, t_, t_, t_, t_, t_, t_, t_, f_, t_, f_, t_, f_, f_, f_, f_, f_] rfl rfl (any_of HT_.out (by kernel_rfl)) (fun _ _ _ h => h) (Or.inl ⟨by rfl, ?_⟩) ?_ ?_; rotate_left
                                             ·
                                              intro w'; go_simp
                                              with_reducible rfl
                                             rotate_left
                                             ·
                                              simp only [Act.put, sA_, sZ_, sS_, i64_w, i32_w]; rfl
                                             refine take_ (i := 34) (N := some 158) (v := ?_) (a' := ?_) #[t_, t_, t_, t_, t_, t_, t_, t_, t_, t_, t_, t_, t_, t_, t_, t_, t_, t_, t_, t_, t_, t_, t_, t_, t_, t_, t_, t_, t_, t_, t_, t_, t_, t_, t_, t_, f_, t_, f_, f_, f_, f_, f_] rfl rfl (take_ofW HT_.out HW_.out (by kernel_rfl)) (fun _ _ _ h => h) (Or.inl ⟨by rfl, ?_⟩) hHeld ?_ ?_; rotate_left
                                             ·
                                              rintro w' ⟨s0, s1, s2, s3, s4, s5, s6, s7⟩
                                              go_simp
                                              with_reducible rfl
                                             rotate_left
                                             ·
                                              simp only [Act.put, sA_, sZ_, sS_, i64_w, i32_w]; rfl
                                             refine take_ (i := 36) (N := some 160) (v := ?_) (a' := ?_) #[t_, t_, t_, t_, t_, t_, t_, t_, t_, t_, t_, t_, t_, t_, t_, t_, t_, t_, t_, t_, t_, t_, t_, t_, t_, t_, t_, t_, t_, t_, t_, t_, t_, t_, t_, t_, t_, t_, f_, f_, f_, f_, f_] rfl rfl (take_ofW HT_.out HW_.out (by kernel_rfl)) (fun _ _ _ h => h) (Or.inl ⟨by rfl, ?_⟩) hHeld ?_ ?_; rotate_left
                                             ·
                                              rintro w' ⟨s0, s1, s2, s3, s4, s5, s6, s7⟩
                                              go_simp
                                              with_reducible rfl
                                             rotate_left
                                             ·
                                              simp only [Act.put, sA_, sZ_, sS_, i64_w, i32_w]; rfl
                                             refine pure_ (i := 38) (N := some 162) (v := ?_) (a' := ?_) #[t_, t_, t_, t_, t_, t_, t_, t_, t_, t_, t_, t_, t_, t_, t_, t_, t_, t_, t_, t_, t_, t_, t_, t_, t_, t_, t_, t_, t_, t_, t_, t_, t_, t_, t_, t_, t_, t_, t_, f_, f_, f_, f_] rfl rfl (any_of HT_.out (by kernel_rfl)) (fun _ _ _ h => h) (Or.inl ⟨by rfl, ?_⟩) ?_ ?_; rotate_left
                                             ·
                                              intro w'; go_simp
                                              with_reducible rfl
                                             rotate_left
                                             ·
                                              simp only [Act.put, sA_, sZ_, sS_, i64_w, i32_w]; rfl
                                             refine pure_ (i := 39) (N := some 163) (v := ?_) (a' := ?_) #[t_, t_, t_, t_, t_, t_, t_, t_, t_, t_, t_, t_, t_, t_, t_, t_, t_, t_, t_, t_, t_, t_, t_, t_, t_, t_, t_, t_, t_, t_, t_, t_, t_, t_, t_, t_, t_, t_, t_, t_, f_, f_, f_] rfl rfl (any_of HT_.out (by kernel_rfl)) (fun _ _ _ h => h) (Or.inl ⟨by rfl, ?_⟩) ?_ ?_; rotate_left
                                             ·
                                              intro w'; go_simp
                                              with_reducible rfl
                                             rotate_left
                                             ·
                                              simp only [Act.put, sA_, sZ_, sS_, i64_w, i32_w]; rfl
                                             refine take_ (i := 40) (N := some 164) (v := ?_) (a' := ?_) #[t_, t_, t_, t_, t_, t_, t_, t_, t_, t_, t_, t_, t_, t_, t_, t_, t_, t_, t_, t_, t_, t_, t_, t_, t_, t_, t_, t_, t_, t_, t_, t_, t_, t_, t_, t_, t_, t_, t_, t_, t_, f_, f_] rfl rfl (take_ofW HT_.out HW_.out (by kernel_rfl)) (fun _ _ _ h => h) (Or.inl ⟨by rfl, ?_⟩) hHeld ?_ ?_; rotate_left
                                             ·
                                              rintro w' ⟨s0, s1, s2, s3, s4, s5, s6, s7⟩
                                              go_simp
                                              with_reducible rfl
                                             rotate_left
                                             ·
                                              simp only [Act.put, sA_, sZ_, sS_, i64_w, i32_w]; rfl
                                             refine pure_ (i := 41) (N := some 165) (v := ?_) (a' := ?_) #[t_, t_, t_, t_, t_, t_, t_, t_, t_, t_, t_, t_, t_, t_, t_, t_, t_, t_, t_, t_, t_, t_, t_, t_, t_, t_, t_, t_, t_, t_, t_, t_, t_, t_, t_, t_, t_, t_, t_, t_, t_, t_, f_] rfl rfl (any_of HT_.out (by kernel_rfl)) (fun _ _ _ h => h) (Or.inl ⟨by rfl, ?_⟩) ?_ ?_; rotate_left
                                             ·
                                              intro w'; go_simp
                                              with_reducible rfl
                                             rotate_left
                                             ·
                                              simp only [Act.put, sA_, sZ_, sS_, i64_w, i32_w]; rfl
                                             refine pure_ (i := 42) (N := some 166) (v := ?_) (a' := ?_) #[t_, t_, t_, t_, t_, t_, t_, t_, t_, t_, t_, t_, t_, t_, t_, t_, t_, t_, t_, t_, t_, t_, t_, t_, t_, t_, t_, t_, t_, t_, t_, t_, t_, t_, t_, t_, t_, t_, t_, t_, t_, t_, t_] rfl rfl (any_of HT_.out (by kernel_rfl)) (fun _ _ _ h => h) (Or.inl ⟨by rfl, ?_⟩) ?_ ?_; rotate_left
                                             ·
                                              intro w'; go_simp
                                              with_reducible rfl
                                             rotate_left
                                             ·
                                              simp only [Act.put, sA_, sZ_, sS_, i64_w, i32_w]; rfl
                                             refine done_ (done_of HT_.out (by kernel_rfl)) ?_
                                             try go_wp2
                                             (first | go_meet | (refine Met.intro ?_; go_step; (repeat apply Exists.intro); refine ⟨?rel, ?eqf_⟩; case eqf_ => ((simp only [c87b0, c86b0, c85b0, c84b0, c83b0, c78b0, c77b0, c75b0]) <;> rfl)))
                                             case rel => exact ⟨_, ((((rd_T42 t244 x17_3).f0) != ((rd_T42 l0_1 x17_3).f0))), (by first | rfl | (simp; done) | (simp [*]; done)), H', ⟨by have := HJ5.out; have := HJ38.out; have := HK3.out; have := HK4.out; first | omega | exact Nat.le_refl _⟩, ⟨pL_ HO_249001.out⟩, ⟨pL_ HO_258001.out⟩, ⟨pG_ BK238.out⟩, ⟨pG_ BK248.out⟩, ⟨pG_ BK257.out⟩, ⟨pH_ HB.out⟩⟩
                                           ·
                                            rw [if_neg c87] at H; have c87b0 : ((rd (to40 (rd_T42 t244 x17_3).f1) x18_4) == (rd (to40 (rd_T42 l0_1 x17_3).f1) x18_4)) = false := beq_eq_false_iff_ne.mpr c87; have c87b1 : ((rd (to40 (rd_T42 t244 x17_3).f1) x18_4) != (rd (to40 (rd_T42 l0_1 x17_3).f1) x18_4)) = true := bne_iff_ne.mpr c87; exact absurd (H.trans (congrArg some HRT_.out)) (by first | (simp; done) | (generalize k4 = k_; cases k_ <;> simp [bitloftlaw11_SlotsOnly.j0, bitloftlaw11_SlotsOnly.j1, bitloftlaw11_SlotsOnly.l0, bitloftlaw11_SlotsOnly.l1, bitloftlaw11_SlotsOnly.j4, bitloftlaw11_SlotsOnly.j5]))
                                         ·
                                          rw [if_neg c86] at H; exact absurd H (by simp)
                                       ·
                                        rw [if_neg c85] at H; exact absurd H (by simp)
                                     ·
                                      rw [if_neg c84] at H; exact absurd H (by simp)
                                   ·
                                    rw [if_neg c83] at H; exact absurd H (by simp)
                               ·
                                as_aux_lemma =>
                                 rw [if_neg c77] at H; have c77b0 : (x17_3 == a1) = false := beq_eq_false_iff_ne.mpr c77; have c77b1 : (x17_3 != a1) = true := bne_iff_ne.mpr c77; (first | rw [c77b0] | (simp only [i64_w, i32_w]; rw [c77b0]) | skip)
                                 by_cases c91 : 0 ≤ x17_3
                                 ·
                                  as_aux_lemma =>
                                   rw [if_pos c91] at H; have c91b0 : decide (0 ≤ x17_3) = true := decide_eq_true c91; clear c91
                                   by_cases c92 : x17_3 < (t244.length : Int)
                                   ·
                                    as_aux_lemma =>
                                     rw [if_pos c92] at H; have c92b0 : decide (x17_3 < (t244.length : Int)) = true := decide_eq_true c92; clear c92
                                     by_cases c93 : 0 ≤ x18_4
                                     ·
                                      as_aux_lemma =>
                                       rw [if_pos c93] at H; have c93b0 : decide (0 ≤ x18_4) = true := decide_eq_true c93; clear c93
                                       by_cases c94 : x17_3 < (l0_1.length : Int)
                                       ·
                                        as_aux_lemma =>
                                         rw [if_pos c94] at H; have c94b0 : decide (x17_3 < (l0_1.length : Int)) = true := decide_eq_true c94; clear c94
                                         by_cases c95 : (rd (to40 (rd_T42 t244 x17_3).f1) x18_4) = (rd (to40 (rd_T42 l0_1 x17_3).f1) x18_4)
                                         ·
                                          as_aux_lemma =>
                                           rw [if_pos c95] at H; have c95b0 : ((rd (to40 (rd_T42 t244 x17_3).f1) x18_4) == (rd (to40 (rd_T42 l0_1 x17_3).f1) x18_4)) = true := beq_iff_eq.mpr c95; have c95b1 : ((rd (to40 (rd_T42 t244 x17_3).f1) x18_4) != (rd (to40 (rd_T42 l0_1 x17_3).f1) x18_4)) = false := bne_eq_false_iff_eq.mpr c95; clear c95; have H' := Aside0.mk H; clear H
                                           try go_wp2
                                           have n0_ := Aside0.mk (Kd.R_drew HO_249001.out); have n1_ := Aside0.mk (Kd.R_drew HO_258001.out); have n2_ := Aside0.mk (blk_drew BK238.out); have n3_ := Aside0.mk (blk_drew BK248.out); have n4_ := Aside0.mk (blk_drew BK257.out); have n5_ := Aside0.mk (below_drew1 HB.out); clear HO_249001; clear HO_258001; clear BK238; clear BK248; clear BK257; clear HB; have HO_249001 := n0_; have HO_258001 := n1_; have BK238 := n2_; have BK248 := n3_; have BK257 := n4_; have HB := n5_; clear n0_ n1_ n2_ n3_ n4_ n5_; have p265 : 0 ≤ (x17_3 : Int) := of_decide_eq_true (by first | (with_reducible assumption) | assumption); have q265 : x17_3 < (t244.length : Int) := of_decide_eq_true (by first | (with_reducible assumption) | assumption); obtain ⟨ad265, e265, hx265_0, hx265_1, hx265_2, hx265_3, hx265_4, hx265_5, hx265_6, hx265_7, hx265_8, hx265_9, hx265_10, hx265_11, hx265_12, hx265_13, hx265_14, hx265_15⟩ := at_T42 (Kd.R_reads' HO_249001.out).2.2 x17_3 p265 q265
                                           cases e265
                                           replace p265 := eq_true p265; replace q265 := eq_true q265; have hsw97 := sel_cells_ (k := .u8) (s := 1) (n := 15) (to40 (rd_T42 t244 x17_3).f1) rfl (by intro i_ h_; match i_, h_ with | 0, _ => exact hx265_1 | 1, _ => exact hx265_2 | 2, _ => exact hx265_3 | 3, _ => exact hx265_4 | 4, _ => exact hx265_5 | 5, _ => exact hx265_6 | 6, _ => exact hx265_7 | 7, _ => exact hx265_8 | 8, _ => exact hx265_9 | 9, _ => exact hx265_10 | 10, _ => exact hx265_11 | 11, _ => exact hx265_12 | 12, _ => exact hx265_13 | 13, _ => exact hx265_14 | 14, _ => exact hx265_15) (x18_4 : Int) (of_decide_eq_true (by first | (with_reducible assumption) | assumption)) (of_decide_eq_true (by first | (with_reducible assumption) | assumption)); have pa97 : 0 ≤ (x18_4 : Int) := of_decide_eq_true (by first | (with_reducible assumption) | assumption); have qa97 : (x18_4 : Int) < 15 := of_decide_eq_true (by first | (with_reducible assumption) | assumption); replace pa97 := eq_true pa97; replace qa97 := eq_true qa97; have p266 : 0 ≤ (x17_3 : Int) := of_decide_eq_true (by first | (with_reducible assumption) | assumption); have q266 : x17_3 < (l0_1.length : Int) := of_decide_eq_true (by first | (with_reducible assumption) | assumption); obtain ⟨ad266, e266, hx266_0, hx266_1, hx266_2, hx266_3, hx266_4, hx266_5, hx266_6, hx266_7, hx266_8, hx266_9, hx266_10, hx266_11, hx266_12, hx266_13, hx266_14, hx266_15⟩ := at_T42 HR0_1.out x17_3 p266 q266; have hw266_15 := hx266_15; have hw266_14 := hx266_14; have hw266_13 := hx266_13; have hw266_12 := hx266_12; have hw266_11 := hx266_11; have hw266_10 := hx266_10; have hw266_9 := hx266_9; have hw266_8 := hx266_8; have hw266_7 := hx266_7; have hw266_6 := hx266_6; have hw266_5 := hx266_5; have hw266_4 := hx266_4; have hw266_3 := hx266_3; have hw266_2 := hx266_2; have hw266_1 := hx266_1; have hw266_0 := hx266_0; obtain rfl : ad251 = ad266 := (by injection e266); replace hx266_0 := (HB.out.cell (World.block_lt_of_cell? w _ hx266_0)).trans hx266_0; replace hx266_1 := (HB.out.cell (World.block_lt_of_cell? w _ hx266_1)).trans hx266_1; replace hx266_2 := (HB.out.cell (World.block_lt_of_cell? w _ hx266_2)).trans hx266_2; replace hx266_3 := (HB.out.cell (World.block_lt_of_cell? w _ hx266_3)).trans hx266_3; replace hx266_4 := (HB.out.cell (World.block_lt_of_cell? w _ hx266_4)).trans hx266_4; replace hx266_5 := (HB.out.cell (World.block_lt_of_cell? w _ hx266_5)).trans hx266_5; replace hx266_6 := (HB.out.cell (World.block_lt_of_cell? w _ hx266_6)).trans hx266_6; replace hx266_7 := (HB.out.cell (World.block_lt_of_cell? w _ hx266_7)).trans hx266_7; replace hx266_8 := (HB.out.cell (World.block_lt_of_cell? w _ hx266_8)).trans hx266_8; replace hx266_9 := (HB.out.cell (World.block_lt_of_cell? w _ hx266_9)).trans hx266_9; replace hx266_10 := (HB.out.cell (World.block_lt_of_cell? w _ hx266_10)).trans hx266_10; replace hx266_11 := (HB.out.cell (World.block_lt_of_cell? w _ hx266_11)).trans hx266_11; replace hx266_12 := (HB.out.cell (World.block_lt_of_cell? w _ hx266_12)).trans hx266_12; replace hx266_13 := (HB.out.cell (World.block_lt_of_cell? w _ hx266_13)).trans hx266_13; replace hx266_14 := (HB.out.cell (World.block_lt_of_cell? w _ hx266_14)).trans hx266_14; replace hx266_15 := (HB.out.cell (World.block_lt_of_cell? w _ hx266_15)).trans hx266_15; replace p266 := eq_true p266; replace q266 := eq_true q266; have hsw98 := sel_cells_ (k := .u8) (s := 1) (n := 15) (to40 (rd_T42 l0_1 x17_3).f1) rfl (by intro i_ h_; match i_, h_ with | 0, _ => exact hw266_1 | 1, _ => exact hw266_2 | 2, _ => exact hw266_3 | 3, _ => exact hw266_4 | 4, _ => exact hw266_5 | 5, _ => exact hw266_6 | 6, _ => exact hw266_7 | 7, _ => exact hw266_8 | 8, _ => exact hw266_9 | 9, _ => exact hw266_10 | 10, _ => exact hw266_11 | 11, _ => exact hw266_12 | 12, _ => exact hw266_13 | 13, _ => exact hw266_14 | 14, _ => exact hw266_15) (x18_4 : Int) (of_decide_eq_true (by first | (with_reducible assumption) | assumption)) (of_decide_eq_true (by first | (with_reducible assumption) | assumption)); have pa98 : 0 ≤ (x18_4 : Int) := of_decide_eq_true (by first | (with_reducible assumption) | assumption); have qa98 : (x18_4 : Int) < 15 := of_decide_eq_true (by first | (with_reducible assumption) | assumption); replace pa98 := eq_true pa98; replace qa98 := eq_true qa98; have p267 : 0 ≤ (x17_3 : Int) := of_decide_eq_true (by first | (with_reducible assumption) | assumption); have q267 : x17_3 < (t244.length : Int) := of_decide_eq_true (by first | (with_reducible assumption) | assumption); obtain ⟨ad267, e267, hx267_0, hx267_1, hx267_2, hx267_3, hx267_4, hx267_5, hx267_6, hx267_7, hx267_8, hx267_9, hx267_10, hx267_11, hx267_12, hx267_13, hx267_14, hx267_15⟩ := at_T42 (Kd.R_reads' HO_249001.out).2.2 x17_3 p267 q267; obtain rfl : ad265 = ad267 := (by injection e267); replace p267 := eq_true p267; replace q267 := eq_true q267; have p268 : 0 ≤ (x17_3 : Int) := of_decide_eq_true (by first | (with_reducible assumption) | assumption); have q268 : x17_3 < (l0_1.length : Int) := of_decide_eq_true (by first | (with_reducible assumption) | assumption); obtain ⟨ad268, e268, hx268_0, hx268_1, hx268_2, hx268_3, hx268_4, hx268_5, hx268_6, hx268_7, hx268_8, hx268_9, hx268_10, hx268_11, hx268_12, hx268_13, hx268_14, hx268_15⟩ := at_T42 HR0_1.out x17_3 p268 q268; have hw268_15 := hx268_15; have hw268_14 := hx268_14; have hw268_13 := hx268_13; have hw268_12 := hx268_12; have hw268_11 := hx268_11; have hw268_10 := hx268_10; have hw268_9 := hx268_9; have hw268_8 := hx268_8; have hw268_7 := hx268_7; have hw268_6 := hx268_6; have hw268_5 := hx268_5; have hw268_4 := hx268_4; have hw268_3 := hx268_3; have hw268_2 := hx268_2; have hw268_1 := hx268_1; have hw268_0 := hx268_0; obtain rfl : ad251 = ad268 := (by injection e268); replace hx268_0 := (HB.out.cell (World.block_lt_of_cell? w _ hx268_0)).trans hx268_0; replace hx268_1 := (HB.out.cell (World.block_lt_of_cell? w _ hx268_1)).trans hx268_1; replace hx268_2 := (HB.out.cell (World.block_lt_of_cell? w _ hx268_2)).trans hx268_2; replace hx268_3 := (HB.out.cell (World.block_lt_of_cell? w _ hx268_3)).trans hx268_3; replace hx268_4 := (HB.out.cell (World.block_lt_of_cell? w _ hx268_4)).trans hx268_4; replace hx268_5 := (HB.out.cell (World.block_lt_of_cell? w _ hx268_5)).trans hx268_5; replace hx268_6 := (HB.out.cell (World.block_lt_of_cell? w _ hx268_6)).trans hx268_6; replace hx268_7 := (HB.out.cell (World.block_lt_of_cell? w _ hx268_7)).trans hx268_7; replace hx268_8 := (HB.out.cell (World.block_lt_of_cell? w _ hx268_8)).trans hx268_8; replace hx268_9 := (HB.out.cell (World.block_lt_of_cell? w _ hx268_9)).trans hx268_9; replace hx268_10 := (HB.out.cell (World.block_lt_of_cell? w _ hx268_10)).trans hx268_10; replace hx268_11 := (HB.out.cell (World.block_lt_of_cell? w _ hx268_11)).trans hx268_11; replace hx268_12 := (HB.out.cell (World.block_lt_of_cell? w _ hx268_12)).trans hx268_12; replace hx268_13 := (HB.out.cell (World.block_lt_of_cell? w _ hx268_13)).trans hx268_13; replace hx268_14 := (HB.out.cell (World.block_lt_of_cell? w _ hx268_14)).trans hx268_14; replace hx268_15 := (HB.out.cell (World.block_lt_of_cell? w _ hx268_15)).trans hx268_15; replace p268 := eq_true p268; replace q268 := eq_true q268; refine start_ (n := 43) (S := fun w' => w'.cell? ⟨gb248, 0, none⟩ = some (.int .i64 t243) ∧ w'.cell? ⟨gb248, 1, none⟩ = some (.slice (some ad265) t244.length co45) ∧ w'.cell? ⟨gb238, 0, none⟩ = some (.int .i64 a0_0) ∧ w'.cell? ⟨gb238, 1, none⟩ = some (.slice (some ad251) l0_1.length c0_1) ∧ w'.cell? ⟨(ad265.add ((x17_3).toNat * 16)).block, (ad265.add ((x17_3).toNat * 16)).off + 1 + x18_4.toNat, none⟩ = some (.int .u8 (rd (to40 (rd_T42 t244 x17_3).f1) x18_4)) ∧ w'.cell? ⟨(ad251.add ((x17_3).toNat * 16)).block, (ad251.add ((x17_3).toNat * 16)).off + 1 + x18_4.toNat, none⟩ = some (.int .u8 (rd (to40 (rd_T42 l0_1 x17_3).f1) x18_4)) ∧ w'.cell? (ad265.add ((x17_3).toNat * 16)) = some (.int .u8 ((rd_T42 t244 x17_3).f0)) ∧ w'.cell? (ad251.add ((x17_3).toNat * 16)) = some (.int .u8 ((rd_T42 l0_1 x17_3).f0))) (ds := []) #[f_, f_, f_, f_, f_, f_, f_, f_, f_, f_, f_, f_, f_, f_, f_, f_, f_, f_, f_, f_, f_, f_, f_, f_, f_, f_, f_, f_, f_, f_, f_, f_, f_, f_, f_, f_, f_, f_, f_, f_, f_, f_, f_] (by kernel_rfl) rfl rfl ⟨(blk_cell BK248.out 0).trans rfl, (blk_cell BK248.out 1).trans rfl, (blk_cell BK238.out 0).trans rfl, (blk_cell BK238.out 1).trans rfl, hsw97, ((HB.out.cell (World.block_lt_of_cell? w _ hsw98)).trans hsw98), hx267_0, ((HB.out.cell (World.block_lt_of_cell? w _ hw268_0)).trans hw268_0)⟩ (fun hHeld => ?_); refine with_tabW bitloftlaw11_SlotsOnly.tab14 bitloftlaw11_SlotsOnly.bits14 (fun HT_ HW_ => ?_)
                                           generalize wr.drew = w96 at HO_249001 HO_258001 BK238 BK248 BK257 HB hx265_0 hx265_1 hx265_10 hx265_11 hx265_12 hx265_13 hx265_14 hx265_15 hx265_2 hx265_3 hx265_4 hx265_5 hx265_6 hx265_7 hx265_8 hx265_9 hx266_0 hx266_1 hx266_10 hx266_11 hx266_12 hx266_13 hx266_14 hx266_15 hx266_2 hx266_3 hx266_4 hx266_5 hx266_6 hx266_7 hx266_8 hx266_9 hx267_0 hx267_1 hx267_10 hx267_11 hx267_12 hx267_13 hx267_14 hx267_15 hx267_2 hx267_3 hx267_4 hx267_5 hx267_6 hx267_7 hx267_8 hx267_9 hx268_0 hx268_1 hx268_10 hx268_11 hx268_12 hx268_13 hx268_14 hx268_15 hx268_2 hx268_3 hx268_4 hx268_5 hx268_6 hx268_7 hx268_8 hx268_9 hHeld ⊢
                                           refine pure_ (i := 0) (N := some 124) (v := ?_) (a' := ?_) #[t_, f_, f_, f_, f_, f_, f_, f_, f_, f_, f_, f_, f_, f_, f_, f_, f_, f_, f_, f_, f_, f_, f_, f_, f_, f_, f_, f_, f_, f_, f_, f_, f_, f_, f_, f_, f_, f_, f_, f_, f_, f_, f_] rfl rfl (any_of HT_.out (by kernel_rfl)) (fun _ _ _ h => h) (Or.inl ⟨by rfl, ?_⟩) ?_ ?_; rotate_left
                                           ·
                                            intro w'; go_simp
                                            with_reducible rfl
                                           rotate_left
                                           ·
                                            simp only [Act.put, sA_, sZ_, sS_, i64_w, i32_w]; rfl
                                           refine pure_ (i := 1) (N := some 125) (v := ?_) (a' := ?_) #[t_, t_, f_, f_, f_, f_, f_, f_, f_, f_, f_, f_, f_, f_, f_, f_, f_, f_, f_, f_, f_, f_, f_, f_, f_, f_, f_, f_, f_, f_, f_, f_, f_, f_, f_, f_, f_, f_, f_, f_, f_, f_, f_] rfl rfl (any_of HT_.out (by kernel_rfl)) (fun _ _ _ h => h) (Or.inl ⟨by rfl, ?_⟩) ?_ ?_; rotate_left
                                           ·
                                            intro w'; go_simp
                                            with_reducible rfl
                                           rotate_left
                                           ·
                                            simp only [Act.put, sA_, sZ_, sS_, i64_w, i32_w]; rfl
                                           refine pure_ (i := 2) (N := some 126) (v := ?_) (a' := ?_) #[t_, t_, t_, f_, f_, f_, f_, f_, f_, f_, f_, f_, f_, f_, f_, f_, f_, f_, f_, f_, f_, f_, f_, f_, f_, f_, f_, f_, f_, f_, f_, f_, f_, f_, f_, f_, f_, f_, f_, f_, f_, f_, f_] rfl rfl (any_of HT_.out (by kernel_rfl)) (fun _ _ _ h => h) (Or.inl ⟨by rfl, ?_⟩) ?_ ?_; rotate_left
                                           ·
                                            intro w'; go_simp
                                            with_reducible rfl
                                           rotate_left
                                           ·
                                            simp only [Act.put, sA_, sZ_, sS_, i64_w, i32_w]; rfl
                                           refine pure_ (i := 3) (N := some 127) (v := ?_) (a' := ?_) #[t_, t_, t_, t_, f_, f_, f_, f_, f_, f_, f_, f_, f_, f_, f_, f_, f_, f_, f_, f_, f_, f_, f_, f_, f_, f_, f_, f_, f_, f_, f_, f_, f_, f_, f_, f_, f_, f_, f_, f_, f_, f_, f_] rfl rfl (any_of HT_.out (by kernel_rfl)) (fun _ _ _ h => h) (Or.inl ⟨by rfl, ?_⟩) ?_ ?_; rotate_left
                                           ·
                                            intro w'; go_simp
                                            with_reducible rfl
                                           rotate_left
                                           ·
                                            simp only [Act.put, sA_, sZ_, sS_, i64_w, i32_w]; rfl
                                           refine pure_ (i := 4) (N := some 128) (v := undef) (a' := ?_) #[t_, t_, t_, t_, t_, f_, f_, f_, f_, f_, f_, f_, f_, f_, f_, f_, f_, f_, f_, f_, f_, f_, f_, f_, f_, f_, f_, f_, f_, f_, f_, f_, f_, f_, f_, f_, f_, f_, f_, f_, f_, f_, f_] rfl rfl (any_of HT_.out (by kernel_rfl)) (fun _ _ _ h => h) (Or.inr ⟨by rfl, rfl⟩) ?_ ?_; rotate_left
                                           ·
                                            simp only [Act.put, sA_, sZ_, sS_, i64_w, i32_w]; rfl
                                           refine pure_ (i := 5) (N := some 129) (v := undef) (a' := ?_) #[t_, t_, t_, t_, t_, t_, f_, f_, f_, f_, f_, f_, f_, f_, f_, f_, f_, f_, f_, f_, f_, f_, f_, f_, f_, f_, f_, f_, f_, f_, f_, f_, f_, f_, f_, f_, f_, f_, f_, f_, f_, f_, f_] rfl rfl (any_of HT_.out (by kernel_rfl)) (fun _ _ _ h => h) (Or.inr ⟨by rfl, rfl⟩) ?_ ?_; rotate_left
                                           ·
                                            simp only [Act.put, sA_, sZ_, sS_, i64_w, i32_w]; rfl
                                           refine pure_ (i := 6) (N := some 130) (v := undef) (a' := ?_) #[t_, t_, t_, t_, t_, t_, t_, f_, f_, f_, f_, f_, f_, f_, f_, f_, f_, f_, f_, f_, f_, f_, f_, f_, f_, f_, f_, f_, f_, f_, f_, f_, f_, f_, f_, f_, f_, f_, f_, f_, f_, f_, f_] rfl rfl (any_of HT_.out (by kernel_rfl)) (fun _ _ _ h => h) (Or.inr ⟨by rfl, rfl⟩) ?_ ?_; rotate_left
                                           ·
                                            simp only [Act.put, sA_, sZ_, sS_, i64_w, i32_w]; rfl
                                           refine pure_ (i := 7) (N := some 131) (v := undef) (a' := ?_) #[t_, t_, t_, t_, t_, t_, t_, t_, f_, f_, f_, f_, f_, f_, f_, f_, f_, f_, f_, f_, f_, f_, f_, f_, f_, f_, f_, f_, f_, f_, f_, f_, f_, f_, f_, f_, f_, f_, f_, f_, f_, f_, f_] rfl rfl (any_of HT_.out (by kernel_rfl)) (fun _ _ _ h => h) (Or.inr ⟨by rfl, rfl⟩) ?_ ?_; rotate_left
                                           ·
                                            simp only [Act.put, sA_, sZ_, sS_, i64_w, i32_w]; rfl
                                           refine pure_ (i := 8) (N := some 132) (v := ?_) (a' := ?_) #[t_, t_, t_, t_, t_, t_, t_, t_, t_, f_, f_, f_, f_, f_, f_, f_, f_, f_, f_, f_, f_, f_, f_, f_, f_, f_, f_, f_, f_, f_, f_, f_, f_, f_, f_, f_, f_, f_, f_, f_, f_, f_, f_] rfl rfl (any_of HT_.out (by kernel_rfl)) (fun _ _ _ h => h) (Or.inl ⟨by rfl, ?_⟩) ?_ ?_; rotate_left
                                           ·
                                            intro w'; go_simp
                                            with_reducible rfl
                                           rotate_left
                                           ·
                                            simp only [Act.put, sA_, sZ_, sS_, i64_w, i32_w]; rfl
                                           refine pure_ (i := 9) (N := some 133) (v := ?_) (a' := ?_) #[t_, t_, t_, t_, t_, t_, t_, t_, t_, t_, f_, f_, f_, f_, f_, f_, f_, f_, f_, f_, f_, f_, f_, f_, f_, f_, f_, f_, f_, f_, f_, f_, f_, f_, f_, f_, f_, f_, f_, f_, f_, f_, f_] rfl rfl (any_of HT_.out (by kernel_rfl)) (fun _ _ _ h => h) (Or.inl ⟨by rfl, ?_⟩) ?_ ?_; rotate_left
                                           ·
                                            intro w'; go_simp
                                            with_reducible rfl
                                           rotate_left
                                           ·
                                            simp only [Act.put, sA_, sZ_, sS_, i64_w, i32_w]; rfl
                                           refine pure_ (i := 10) (N := some 134) (v := ?_) (a' := ?_) #[t_, t_, t_, t_, t_, t_, t_, t_, t_, t_, t_, f_, f_, f_, f_, f_, f_, f_, f_, f_, f_, f_, f_, f_, f_, f_, f_, f_, f_, f_, f_, f_, f_, f_, f_, f_, f_, f_, f_, f_, f_, f_, f_] rfl rfl (any_of HT_.out (by kernel_rfl)) (fun _ _ _ h => h) (Or.inl ⟨by rfl, ?_⟩) ?_ ?_; rotate_left
                                           ·
                                            intro w'; go_simp
                                            with_reducible rfl
                                           rotate_left
                                           ·
                                            simp only [Act.put, sA_, sZ_, sS_, i64_w, i32_w]; rfl
                                           refine pure_ (i := 12) (N := some 136) (v := ?_) (a' := ?_) #[t_, t_, t_, t_, t_, t_, t_, t_, t_, t_, t_, f_, t_, f_, f_, f_, f_, f_, f_, f_, f_, f_, f_, f_, f_, f_, f_, f_, f_, f_, f_, f_, f_, f_, f_, f_, f_, f_, f_, f_, f_, f_, f_] rfl rfl (any_of HT_.out (by kernel_rfl)) (fun _ _ _ h => h) (Or.inl ⟨by rfl, ?_⟩) ?_ ?_; rotate_left
                                           ·
                                            intro w'; go_simp
                                            with_reducible rfl
                                           rotate_left
                                           ·
                                            simp only [Act.put, sA_, sZ_, sS_, i64_w, i32_w]; rfl
                                           refine pure_ (i := 13) (N := some 137) (v := ?_) (a' := ?_) #[t_, t_, t_, t_, t_, t_, t_, t_, t_, t_, t_, f_, t_, t_, f_, f_, f_, f_, f_, f_, f_, f_, f_, f_, f_, f_, f_, f_, f_, f_, f_, f_, f_, f_, f_, f_, f_, f_, f_, f_, f_, f_, f_] rfl rfl (any_of HT_.out (by kernel_rfl)) (fun _ _ _ h => h) (Or.inl ⟨by rfl, ?_⟩) ?_ ?_; rotate_left
                                           ·
                                            intro w'; go_simp
                                            with_reducible rfl
                                           rotate_left
                                           ·
                                            simp only [Act.put, sA_, sZ_, sS_, i64_w, i32_w]; rfl
                                           refine pure_ (i := 18) (N := some 142) (v := ?_) (a' := ?_) #[t_, t_, t_, t_, t_, t_, t_, t_, t_, t_, t_, f_, t_, t_, f_, f_, f_, f_, t_, f_, f_, f_, f_, f_, f_, f_, f_, f_, f_, f_, f_, f_, f_, f_, f_, f_, f_, f_, f_, f_, f_, f_, f_] rfl rfl (any_of HT_.out (by kernel_rfl)) (fun _ _ _ h => h) (Or.inl ⟨by rfl, ?_⟩) ?_ ?_; rotate_left
                                           ·
                                            intro w'; go_simp
                                            with_reducible rfl
                                           rotate_left
                                           ·
                                            simp only [Act.put, sA_, sZ_, sS_, i64_w, i32_w]; rfl
                                           refine pure_ (i := 20) (N := some 144) (v := ?_) (a' := ?_) #[t_, t_, t_, t_, t_, t_, t_, t_, t_, t_, t_, f_, t_, t_, f_, f_, f_, f_, t_, f_, t_, f_, f_, f_, f_, f_, f_, f_, f_, f_, f_, f_, f_, f_, f_, f_, f_, f_, f_, f_, f_, f_, f_] rfl rfl (any_of HT_.out (by kernel_rfl)) (fun _ _ _ h => h) (Or.inl ⟨by rfl, ?_⟩) ?_ ?_; rotate_left
                                           ·
                                            intro w'; go_simp
                                            with_reducible rfl
                                           rotate_left
                                           ·
                                            simp only [Act.put, sA_, sZ_, sS_, i64_w, i32_w]; rfl
                                           refine pure_ (i := 21) (N := some 145) (v := ?_) (a' := ?_) #[t_, t_, t_, t_, t_, t_, t_, t_, t_, t_, t_, f_, t_, t_, f_, f_, f_, f_, t_, f_, t_, t_, f_, f_, f_, f_, f_, f_, f_, f_, f_, f_, f_, f_, f_, f_, f_, f_, f_, f_, f_, f_, f_] rfl rfl (any_of HT_.out (by kernel_rfl)) (fun _ _ _ h => h) (Or.inl ⟨by rfl, ?_⟩) ?_ ?_; rotate_left
                                           ·
                                            intro w'; go_simp
                                            with_reducible rfl
                                           rotate_left
                                           ·
                                            simp only [Act.put, sA_, sZ_, sS_, i64_w, i32_w]; rfl
                                           refine take_ (i := 11) (N := some 135) (v := ?_) (a' := ?_) #[t_, t_, t_, t_, t_, t_, t_, t_, t_, t_, t_, t_, t_, t_, f_, f_, f_, f_, t_, f_, t_, t_, f_, f_, f_, f_, f_, f_, f_, f_, f_, f_, f_, f_, f_, f_, f_, f_, f_, f_, f_, f_, f_] rfl rfl (take_ofW HT_.out HW_.out (by kernel_rfl)) (fun _ _ _ h => h) (Or.inl ⟨by rfl, ?_⟩) hHeld ?_ ?_; rotate_left
                                           ·
                                            rintro w' ⟨s0, s1, s2, s3, s4, s5, s6, s7⟩
                                            go_simp
                                            with_reducible rfl
                                           rotate_left
                                           ·
                                            simp only [Act.put, sA_, sZ_, sS_, i64_w, i32_w]; rfl
                                           refine pure_ (i := 14) (N := some 138) (v := ?_) (a' := ?_) #[t_, t_, t_, t_, t_, t_, t_, t_, t_, t_, t_, t_, t_, t_, t_, f_, f_, f_, t_, f_, t_, t_, f_, f_, f_, f_, f_, f_, f_, f_, f_, f_, f_, f_, f_, f_, f_, f_, f_, f_, f_, f_, f_] rfl rfl (any_of HT_.out (by kernel_rfl)) (fun _ _ _ h => h) (Or.inl ⟨by rfl, ?_⟩) ?_ ?_; rotate_left
                                           ·
                                            intro w'; go_simp
                                            with_reducible rfl
                                           rotate_left
                                           ·
                                            simp only [Act.put, sA_, sZ_, sS_, i64_w, i32_w]; rfl
                                           refine pure_ (i := 15) (N := some 139) (v := ?_) (a' := ?_) #[t_, t_, t_, t_, t_, t_, t_, t_, t_, t_, t_, t_, t_, t_, t_, t_, f_, f_, t_, f_, t_, t_, f_, f_, f_, f_, f_, f_, f_, f_, f_, f_, f_, f_, f_, f_, f_, f_, f_, f_, f_, f_, f_] rfl rfl (any_of HT_.out (by kernel_rfl)) (fun _ _ _ h => h) (Or.inl ⟨by rfl, ?_⟩) ?_ ?_; rotate_left
                                           ·
                                            intro w'; go_simp
                                            with_reducible rfl
                                           rotate_left
                                           ·
                                            simp only [Act.put, sA_, sZ_, sS_, i64_w, i32_w]; rfl
                                           refine pure_ (i := 16) (N := some 140) (v := ?_) (a' := ?_) #[t_, t_, t_, t_, t_, t_, t_, t_, t_, t_, t_, t_, t_, t_, t_, t_, t_, f_, t_, f_, t_, t_, f_, f_, f_, f_, f_, f_, f_, f_, f_, f_, f_, f_, f_, f_, f_, f_, f_, f_, f_, f_, f_] rfl rfl (any_of HT_.out (by kernel_rfl)) (fun _ _ _ h => h) (Or.inl ⟨by rfl, ?_⟩) ?_ ?_; rotate_left
                                           ·
                                            intro w'; go_simp
                                            with_reducible rfl
                                           rotate_left
                                           ·
                                            simp only [Act.put, sA_, sZ_, sS_, i64_w, i32_w]; rfl
                                           refine take_ (i := 17) (N := some 141) (v := ?_) (a' := ?_) #[t_, t_, t_, t_, t_, t_, t_, t_, t_, t_, t_, t_, t_, t_, t_, t_, t_, t_, t_, f_, t_, t_, f_, f_, f_, f_, f_, f_, f_, f_, f_, f_, f_, f_, f_, f_, f_, f_, f_, f_, f_, f_, f_] rfl rfl (take_ofW HT_.out HW_.out (by kernel_rfl)) (fun _ _ _ h => h) (Or.inl ⟨by rfl, ?_⟩) hHeld ?_ ?_; rotate_left
                                           ·
                                            rintro w' ⟨s0, s1, s2, s3, s4, s5, s6, s7⟩
                                            go_simp
                                            with_reducible rfl
                                           rotate_left
                                           ·
                                            simp only [Act.put, sA_, sZ_, sS_, i64_w, i32_w]; rfl
                                           refine take_ (i := 19) (N := some 143) (v := ?_) (a' := ?_) #[t_, t_, t_, t_, t_, t_, t_, t_, t_, t_, t_, t_, t_, t_, t_, t_, t_, t_, t_, t_, t_, t_, f_, f_, f_, f_, f_, f_, f_, f_, f_, f_, f_, f_, f_, f_, f_, f_, f_, f_, f_, f_, f_] rfl rfl (take_ofW HT_.out HW_.out (by kernel_rfl)) (fun _ _ _ h => h) (Or.inl ⟨by rfl, ?_⟩) hHeld ?_ ?_; rotate_left
                                           ·
                                            rintro w' ⟨s0, s1, s2, s3, s4, s5, s6, s7⟩
                                            go_simp
                                            with_reducible rfl
                                           rotate_left
                                           ·
                                            simp only [Act.put, sA_, sZ_, sS_, i64_w, i32_w]; rfl
                                           refine pure_ (i := 22) (N := some 146) (v := ?_) (a' := ?_) #[t_, t_, t_, t_, t_, t_, t_, t_, t_, t_, t_, t_, t_, t_, t_, t_, t_, t_, t_, t_, t_, t_, t_, f_, f_, f_, f_, f_, f_, f_, f_, f_, f_, f_, f_, f_, f_, f_, f_, f_, f_, f_, f_] rfl rfl (any_of HT_.out (by kernel_rfl)) (fun _ _ _ h => h) (Or.inl ⟨by rfl, ?_⟩) ?_ ?_; rotate_left
                                           ·
                                            intro w'; go_simp
                                            with_reducible rfl
                                           rotate_left
                                           ·
                                            simp only [Act.put, sA_, sZ_, sS_, i64_w, i32_w]; rfl
                                           refine pure_ (i := 23) (N := some 147) (v := ?_) (a' := ?_) #[t_, t_, t_, t_, t_, t_, t_, t_, t_, t_, t_, t_, t_, t_, t_, t_, t_, t_, t_, t_, t_, t_, t_, t_, f_, f_, f_, f_, f_, f_, f_, f_, f_, f_, f_, f_, f_, f_, f_, f_, f_, f_, f_] rfl rfl (any_of HT_.out (by kernel_rfl)) (fun _ _ _ h => h) (Or.inl ⟨by rfl, ?_⟩) ?_ ?_; rotate_left
                                           ·
                                            intro w'; go_simp
                                            with_reducible rfl
                                           rotate_left
                                           ·
                                            simp only [Act.put, sA_, sZ_, sS_, i64_w, i32_w]; rfl
                                           refine pure_ (i := 24) (N := some 148) (v := ?_) (a' := ?_) #[t_, t_, t_, t_, t_, t_, t_, t_, t_, t_, t_, t_, t_, t_, t_, t_, t_, t_, t_, t_, t_, t_, t_, t_, t_, f_, f_, f_, f_, f_, f_, f_, f_, f_, f_, f_, f_, f_, f_, f_, f_, f_, f_] rfl rfl (any_of HT_.out (by kernel_rfl)) (fun _ _ _ h => h) (Or.inl ⟨by rfl, ?_⟩) ?_ ?_; rotate_left
                                           ·
                                            intro w'; go_simp
                                            with_reducible rfl
                                           rotate_left
                                           ·
                                            simp only [Act.put, sA_, sZ_, sS_, i64_w, i32_w]; rfl
                                           refine take_ (i := 25) (N := some 149) (v := ?_) (a' := ?_) #[t_, t_, t_, t_, t_, t_, t_, t_, t_, t_, t_, t_, t_, t_, t_, t_, t_, t_, t_, t_, t_, t_, t_, t_, t_, t_, f_, f_, f_, f_, f_, f_, f_, f_, f_, f_, f_, f_, f_, f_, f_, f_, f_] rfl rfl (take_ofW HT_.out HW_.out (by kernel_rfl)) (fun _ _ _ h => h) (Or.inl ⟨by rfl, ?_⟩) hHeld ?_ ?_; rotate_left
                                           ·
                                            rintro w' ⟨s0, s1, s2, s3, s4, s5, s6, s7⟩
                                            go_simp
                                            with_reducible rfl
                                           rotate_left
                                           ·
                                            simp only [Act.put, sA_, sZ_, sS_, i64_w, i32_w]; rfl
                                           refine pure_ (i := 26) (N := some 150) (v := ?_) (a' := ?_) #[t_, t_, t_, t_, t_, t_, t_, t_, t_, t_, t_, t_, t_, t_, t_, t_, t_, t_, t_, t_, t_, t_, t_, t_, t_, t_, t_, f_, f_, f_, f_, f_, f_, f_, f_, f_, f_, f_, f_, f_, f_, f_, f_] rfl rfl (any_of HT_.out (by kernel_rfl)) (fun _ _ _ h => h) (Or.inl ⟨by rfl, ?_⟩) ?_ ?_; rotate_left
                                           ·
                                            intro w'; go_simp
                                            with_reducible rfl
                                           rotate_left
                                           ·
                                            simp only [Act.put, sA_, sZ_, sS_, i64_w, i32_w]; rfl
                                           refine pure_ (i := 27) (N := some 151) (v := ?_) (a' := ?_) #[t_, t_, t_, t_, t_, t_, t_, t_, t_, t_, t_, t_, t_, t_, t_, t_, t_, t_, t_, t_, t_, t_, t_, t_, t_, t_, t_, t_, f_, f_, f_, f_, f_, f_, f_, f_, f_, f_, f_, f_, f_, f_, f_] rfl rfl (any_of HT_.out (by kernel_rfl)) (fun _ _ _ h => h) (Or.inl ⟨by rfl, ?_⟩) ?_ ?_; rotate_left
                                           ·
                                            intro w'; go_simp
                                            with_reducible rfl
                                           rotate_left
                                           ·
                                            simp only [Act.put, sA_, sZ_, sS_, i64_w, i32_w]; rfl
                                           refine pure_ (i := 28) (N := some 152) (v := ?_) (a' := ?_) #[t_, t_, t_, t_, t_, t_, t_, t_, t_, t_, t_, t_, t_, t_, t_, t_, t_, t_, t_, t_, t_, t_, t_, t_, t_, t_, t_, t_, t_, f_, f_, f_, f_, f_, f_, f_, f_, f_, f_, f_, f_, f_, f_] rfl rfl (any_of HT_.out (by kernel_rfl)) (fun _ _ _ h => h) (Or.inl ⟨by rfl, ?_⟩) ?_ ?_; rotate_left
                                           ·
                                            intro w'; go_simp
                                            with_reducible rfl
                                           rotate_left
                                           ·
                                            simp only [Act.put, sA_, sZ_, sS_, i64_w, i32_w]; rfl
                                           refine pure_ (i := 29) (N := some 153) (v := ?_) (a' := ?_) #[t_, t_, t_, t_, t_, t_, t_, t_, t_, t_, t_, t_, t_, t_, t_, t_, t_, t_, t_, t_, t_, t_, t_, t_, t_, t_, t_, t_, t_, t_, f_, f_, f_, f_, f_, f_, f_, f_, f_, f_, f_, f_, f_] rfl rfl (any_of HT_.out (by kernel_rfl)) (fun _ _ _ h => h) (Or.inl ⟨by rfl, ?_⟩) ?_ ?_; rotate_left
                                           ·
                                            intro w'; go_simp
                                            with_reducible rfl
                                           rotate_left
                                           ·
                                            simp only [Act.put, sA_, sZ_, sS_, i64_w, i32_w]; rfl
                                           refine pure_ (i := 31) (N := some 155) (v := ?_) (a' := ?_) #[t_, t_, t_, t_, t_, t_, t_, t_, t_, t_, t_, t_, t_, t_, t_, t_, t_, t_, t_, t_, t_, t_, t_, t_, t_, t_, t_, t_, t_, t_, f_, t_, f_, f_, f_, f_, f_, f_, f_, f_, f_, f_, f_] rfl rfl (any_of HT_.out (by kernel_rfl)) (fun _ _ _ h => h) (Or.inl ⟨by rfl, ?_⟩) ?_ ?_; rotate_left
                                           ·
                                            intro w'; go_simp
                                            with_reducible rfl
                                           rotate_left
                                           ·
                                            simp only [Act.put, sA_, sZ_, sS_, i64_w, i32_w]; rfl
                                           refine pure_ (i := 35) (N := some 159) (v := ?_) (a' := ?_) #[t_, t_, t_, t_, t_, t_, t_, t_, t_, t_, t_, t_, t_, t_, t_, t_, t_, t_, t_, t_, t_, t_, t_, t_, t_, t_, t_, t_, t_, t_, f_, t_, f_, f_, f_, t_, f_, f_, f_, f_, f_, f_, f_] rfl rfl (any_of HT_.out (by kernel_rfl)) (fun _ _ _ h => h) (Or.inl ⟨by rfl, ?_⟩) ?_ ?_; rotate_left
                                           ·
                                            intro w'; go_simp
                                            with_reducible rfl
                                           rotate_left
                                           ·
                                            simp only [Act.put, sA_, sZ_, sS_, i64_w, i32_w]; rfl
                                           refine pure_ (i := 37) (N := some 161) (v := ?_) (a' := ?_) #[t_, t_, t_, t_, t_, t_, t_, t_, t_, t_, t_, t_, t_, t_, t_, t_, t_, t_, t_, t_, t_, t_, t_, t_, t_, t_, t_, t_, t_, t_, f_, t_, f_, f_, f_, t_, f_, t_, f_, f_, f_, f_, f_] rfl rfl (any_of HT_.out (by kernel_rfl)) (fun _ _ _ h => h) (Or.inl ⟨by rfl, ?_⟩) ?_ ?_; rotate_left
                                           ·
                                            intro w'; go_simp
                                            with_reducible rfl
                                           rotate_left
                                           ·
                                            simp only [Act.put, sA_, sZ_, sS_, i64_w, i32_w]; rfl
                                           refine take_ (i := 30) (N := some 154) (v := ?_) (a' := ?_) #[t_, t_, t_, t_, t_, t_, t_, t_, t_, t_, t_, t_, t_, t_, t_, t_, t_, t_, t_, t_, t_, t_, t_, t_, t_, t_, t_, t_, t_, t_, t_, t_, f_, f_, f_, t_, f_, t_, f_, f_, f_, f_, f_] rfl rfl (take_ofW HT_.out HW_.out (by kernel_rfl)) (fun _ _ _ h => h) (Or.inl ⟨by rfl, ?_⟩) hHeld ?_ ?_; rotate_left
                                           ·
                                            rintro w' ⟨s0, s1, s2, s3, s4, s5, s6, s7⟩
                                            go_simp
                                            with_reducible rfl
                                           rotate_left
                                           ·
                                            simp only [Act.put, sA_, sZ_, sS_, i64_w, i32_w]; rfl
                                           refine pure_ (i := 32) (N := some 156) (v := ?_) (a' := ?_) #[t_, t_, t_, t_, t_, t_, t_, t_, t_, t_, t_, t_, t_, t_, t_, t_, t_, t_, t_, t_, t_, t_, t_, t_, t_, t_, t_, t_, t_, t_, t_, t_, t_, f_, f_, t_, f_, t_, f_, f_, f_, f_, f_] rfl rfl (any_of HT_.out (by kernel_rfl)) (fun _ _ _ h => h) (Or.inl ⟨by rfl, ?_⟩) ?_ ?_; rotate_left
                                           ·
                                            intro w'; go_simp
                                            with_reducible rfl
                                           rotate_left
                                           ·
                                            simp only [Act.put, sA_, sZ_, sS_, i64_w, i32_w]; rfl
                                           refine pure_ (i := 33) (N := some 157) (v := ?_) (a' := ?_) #[t_, t_, t_, t_, t_, t_, t_, t_, t_, t_, t_, t_, t_, t_, t_, t_, t_, t_, t_, t_, t_, t_, t_, t_, t_, t_, t_, t_, t_, t_, t_, t_, t_, t_, f_, t_, f_, t_, f_, f_, f_, f_, f_] rfl rfl (any_of HT_.out (by kernel_rfl)) (fun _ _ _ h => h) (Or.inl ⟨by rfl, ?_⟩) ?_ ?_; rotate_left
                                           ·
                                            intro w'; go_simp
                                            with_reducible rfl
                                           rotate_left
                                           ·
                                            simp only [Act.put, sA_, sZ_, sS_, i64_w, i32_w]; rfl
                                           refine take_ (i := 34) (N := some 158) (v := ?_) (a' := ?_) #[t_, t_, t_, t_, t_, t_, t_, t_, t_, t_, t_, t_, t_, t_, t_, t_, t_, t_, t_, t_, t_, t_, t_, t_, t_, t_, t_, t_, t_, t_, t_, t_, t_, t_, t_, t_, f_, t_, f_, f_, f_, f_, f_] rfl rfl (take_ofW HT_.out HW_.out (by kernel_rfl)) (fun _ _ _ h => h) (Or.inl ⟨by rfl, ?_⟩) hHeld ?_ ?_; rotate_left
                                           ·
                                            rintro w' ⟨s0, s1, s2, s3, s4, s5, s6, s7⟩
                                            go_simp
                                            with_reducible rfl
                                           rotate_left
                                           ·
                                            simp only [Act.put, sA_, sZ_, sS_, i64_w, i32_w]; rfl
                                           refine take_ (i := 36) (N := some 160) (v := ?_) (a' := ?_) #[t_, t_, t_, t_, t_, t_, t_, t_, t_, t_, t_, t_, t_, t_, t_, t_, t_, t_, t_, t_, t_, t_, t_, t_, t_, t_, t_, t_, t_, t_, t_, t_, t_, t_, t_, t_, t_, t_, f_, f_, f_, f_, f_] rfl rfl (take_ofW HT_.out HW_.out (by kernel_rfl)) (fun _ _ _ h => h) (Or.inl ⟨by rfl, ?_⟩) hHeld ?_ ?_; rotate_left
                                           ·
                                            rintro w' ⟨s0, s1, s2, s3, s4, s5, s6, s7⟩
                                            go_simp
                                            with_reducible rfl
                                           rotate_left
                                           ·
                                            simp only [Act.put, sA_, sZ_, sS_, i64_w, i32_w]; rfl
                                           refine pure_ (i := 38) (N := some 162) (v := ?_) (a' := ?_) #[t_, t_, t_, t_, t_, t_, t_, t_, t_, t_, t_, t_, t_, t_, t_, t_, t_, t_, t_, t_, t_, t_, t_, t_, t_, t_, t_, t_, t_, t_, t_, t_, t_, t_, t_, t_, t_, t_, t_, f_, f_, f_, f_] rfl rfl (any_of HT_.out (by kernel_rfl)) (fun _ _ _ h => h) (Or.inl ⟨by rfl, ?_⟩) ?_ ?_; rotate_left
                                           ·
                                            intro w'; go_simp
                                            with_reducible rfl
                                           rotate_left
                                           ·
                                            simp only [Act.put, sA_, sZ_, sS_, i64_w, i32_w]; rfl
                                           refine pure_ (i := 39) (N := some 163) (v := ?_) (a' := ?_) #[t_, t_, t_, t_, t_, t_, t_, t_, t_, t_, t_, t_, t_, t_, t_, t_, t_, t_, t_, t_, t_, t_, t_, t_, t_, t_, t_, t_, t_, t_, t_, t_, t_, t_, t_, t_, t_, t_, t_, t_, f_, f_, f_] rfl rfl (any_of HT_.out (by kernel_rfl)) (fun _ _ _ h => h) (Or.inl ⟨by rfl, ?_⟩) ?_ ?_; rotate_left
                                           ·
                                            intro w'; go_simp
                                            with_reducible rfl
                                           rotate_left
                                           ·
                                            simp only [Act.put, sA_, sZ_, sS_, i64_w, i32_w]; rfl
                                           refine take_ (i := 40) (N := some 164) (v := ?_) (a' := ?_) #[t_, t_, t_, t_, t_, t_, t_, t_, t_, t_, t_, t_, t_, t_, t_, t_, t_, t_, t_, t_, t_, t_, t_, t_, t_, t_, t_, t_, t_, t_, t_, t_, t_, t_, t_, t_, t_, t_, t_, t_, t_, f_, f_] rfl rfl (take_ofW HT_.out HW_.out (by kernel_rfl)) (fun _ _ _ h => h) (Or.inl ⟨by rfl, ?_⟩) hHeld ?_ ?_; rotate_left
                                           ·
                                            rintro w' ⟨s0, s1, s2, s3, s4, s5, s6, s7⟩
                                            go_simp
                                            with_reducible rfl
                                           rotate_left
                                           ·
                                            simp only [Act.put, sA_, sZ_, sS_, i64_w, i32_w]; rfl
                                           refine pure_ (i := 41) (N := some 165) (v := ?_) (a' := ?_) #[t_, t_, t_, t_, t_, t_, t_, t_, t_, t_, t_, t_, t_, t_, t_, t_, t_, t_, t_, t_, t_, t_, t_, t_, t_, t_, t_, t_, t_, t_, t_, t_, t_, t_, t_, t_, t_, t_, t_, t_, t_, t_, f_] rfl rfl (any_of HT_.out (by kernel_rfl)) (fun _ _ _ h => h) (Or.inl ⟨by rfl, ?_⟩) ?_ ?_; rotate_left
                                           ·
                                            intro w'; go_simp
                                            with_reducible rfl
                                           rotate_left
                                           ·
                                            simp only [Act.put, sA_, sZ_, sS_, i64_w, i32_w]; rfl
                                           refine pure_ (i := 42) (N := some 166) (v := ?_) (a' := ?_) #[t_, t_, t_, t_, t_, t_, t_, t_, t_, t_, t_, t_, t_, t_, t_, t_, t_, t_, t_, t_, t_, t_, t_, t_, t_, t_, t_, t_, t_, t_, t_, t_, t_, t_, t_, t_, t_, t_, t_, t_, t_, t_, t_] rfl rfl (any_of HT_.out (by kernel_rfl)) (fun _ _ _ h => h) (Or.inl ⟨by rfl, ?_⟩) ?_ ?_; rotate_left
                                           ·
                                            intro w'; go_simp
                                            with_reducible rfl
                                           rotate_left
                                           ·
                                            simp only [Act.put, sA_, sZ_, sS_, i64_w, i32_w]; rfl
                                           refine done_ (done_of HT_.out (by kernel_rfl)) ?_
                                           try go_wp2
                                           (first | go_meet | (refine Met.intro ?_; go_step; (repeat apply Exists.intro); refine ⟨?rel, ?eqf_⟩; case eqf_ => ((simp only [c95b0, c94b0, c93b0, c92b0, c91b0, c77b0, c75b0]) <;> rfl)))
                                           case rel => exact ⟨_, ((((rd_T42 t244 x17_3).f0) != ((rd_T42 l0_1 x17_3).f0))), (by first | rfl | (simp; done) | (simp [*]; done)), H', ⟨by have := HJ5.out; have := HJ38.out; have := HK3.out; have := HK4.out; first | omega | exact Nat.le_refl _⟩, ⟨pL_ HO_249001.out⟩, ⟨pL_ HO_258001.out⟩, ⟨pG_ BK238.out⟩, ⟨pG_ BK248.out⟩, ⟨pG_ BK257.out⟩, ⟨pH_ HB.out⟩⟩
                                         ·
                                          rw [if_neg c95] at H; have c95b0 : ((rd (to40 (rd_T42 t244 x17_3).f1) x18_4) == (rd (to40 (rd_T42 l0_1 x17_3).f1) x18_4)) = false := beq_eq_false_iff_ne.mpr c95; have c95b1 : ((rd (to40 (rd_T42 t244 x17_3).f1) x18_4) != (rd (to40 (rd_T42 l0_1 x17_3).f1) x18_4)) = true := bne_iff_ne.mpr c95; exact absurd (H.trans (congrArg some HRT_.out)) (by first | (simp; done) | (generalize k4 = k_; cases k_ <;> simp [bitloftlaw11_SlotsOnly.j0, bitloftlaw11_SlotsOnly.j1, bitloftlaw11_SlotsOnly.l0, bitloftlaw11_SlotsOnly.l1, bitloftlaw11_SlotsOnly.j4, bitloftlaw11_SlotsOnly.j5]))
                                       ·
                                        rw [if_neg c94] at H; exact absurd H (by simp)
                                     ·
                                      rw [if_neg c93] at H; exact absurd H (by simp)
                                   ·
                                    rw [if_neg c92] at H; exact absurd H (by simp)
                                 ·
                                  rw [if_neg c91] at H; exact absurd H (by simp)
                             case rest =>
                              (try (refine hKt_ _ _ ?_; clear hKt_; clear Kt_)); clear HC76
                              try clear p2
                              try clear q2
                              try clear hx2
                              try clear c7
                              try clear c8
                              try clear c9
                              try clear p26
                              try clear q26
                              try clear hx26
                              try clear c75
                              try clear c75b0
                              try clear c77
                              try clear c77b0
                              try clear c77b1
                              try clear c78
                              try clear c78b0
                              try clear c83
                              try clear c83b0
                              try clear c84
                              try clear c84b0
                              try clear c85
                              try clear c85b0
                              try clear c86
                              try clear c86b0
                              try clear c87
                              try clear c87b0
                              try clear c87b1
                              try clear c91
                              try clear c91b0
                              try clear c92
                              try clear c92b0
                              try clear c93
                              try clear c93b0
                              try clear c94
                              try clear c94b0
                              try clear c95
                              try clear c95b0
                              try clear c95b1
                              try clear hx265_0
                              try clear hx265_1
                              try clear hx265_10
                              try clear hx265_11
                              try clear hx265_12
                              try clear hx265_13
                              try clear hx265_14
                              try clear hx265_15
                              try clear hx265_2
                              try clear hx265_3
                              try clear hx265_4
                              try clear hx265_5
                              try clear hx265_6
                              try clear hx265_7
                              try clear hx265_8
                              try clear hx265_9
                              try clear hx266_0
                              try clear hx266_1
                              try clear hx266_10
                              try clear hx266_11
                              try clear hx266_12
                              try clear hx266_13
                              try clear hx266_14
                              try clear hx266_15
                              try clear hx266_2
                              try clear hx266_3
                              try clear hx266_4
                              try clear hx266_5
                              try clear hx266_6
                              try clear hx266_7
                              try clear hx266_8
                              try clear hx266_9
                              try clear hx267_0
                              try clear hx267_1
                              try clear hx267_10
                              try clear hx267_11
                              try clear hx267_12
                              try clear hx267_13
                              try clear hx267_14
                              try clear hx267_15
                              try clear hx267_2
                              try clear hx267_3
                              try clear hx267_4
                              try clear hx267_5
                              try clear hx267_6
                              try clear hx267_7
                              try clear hx267_8
                              try clear hx267_9
                              try clear hx268_0
                              try clear hx268_1
                              try clear hx268_10
                              try clear hx268_11
                              try clear hx268_12
                              try clear hx268_13
                              try clear hx268_14
                              try clear hx268_15
                              try clear hx268_2
                              try clear hx268_3
                              try clear hx268_4
                              try clear hx268_5
                              try clear hx268_6
                              try clear hx268_7
                              try clear hx268_8
                              try clear hx268_9
                              try clear p265
                              try clear p266
                              try clear p267
                              try clear p268
                              try clear q265
                              try clear q266
                              try clear q267
                              try clear q268
                              obtain ⟨kq, x166_75, rfl, HA, HJ75, HO_249001, HO_258001, BK238, BK248, BK257, HB⟩ := hcut
                              cases kq with
                              | zero => exact absurd HA.out (by simp [bitloftlaw11_SlotsOnly.j4])
                              | succ kj75 =>
                               have H := HA.out; clear HA; simp only [bitloftlaw11_SlotsOnly.j4] at H
                               by_cases c99 : x166_75 = true
                               ·
                                subst c99
                                have H1 : (some false) = some r := by rw [if_pos rfl] at H; exact H
                                clear H; have H := H1; clear H1; exact absurd (H.trans (congrArg some HRT_.out)) (by simp)
                               ·
                                replace c99 := Bool.eq_false_iff.mpr c99
                                subst c99
                                have H1 : (bitloftlaw11_SlotsOnly.l1 kj75 a1 a2 a3 a4 x17_3 (wrap64 (x18_4 + 1)) a0_0 l0_1 t243 t244) = some r := by rw [if_neg (show ¬ (false = true) by decide)] at H; exact H
                                clear H; have H := H1; clear H1; have H' := Aside0.mk H; clear H
                                go_wp2
                                go_roundg kj75
                                case measure => have := HJ5.out; have := HJ38.out; have := HK3.out; have := HK4.out; have := HJ75.out; omega
                                case rel => exact ⟨(wrap64 (x18_4 + 1)), (by first | rfl | (simp; done) | (simp [*]; done)), H', ⟨by have := HJ5.out; have := HJ38.out; have := HK3.out; have := HK4.out; have := HJ75.out; omega⟩, ⟨pL_ HO_249001.out⟩, ⟨pL_ HO_258001.out⟩, ⟨pG_ BK238.out⟩, ⟨pG_ BK248.out⟩, ⟨pG_ BK257.out⟩, ⟨pH_ HB.out⟩⟩
                           ·
                            rw [if_neg c75] at H; have c75b0 : decide (x18_4 < 15) = false := decide_eq_false c75; clear c75; have H' := Aside0.mk H; clear H
                            go_wp2
                            go_roundg k4
                            case measure => have := HJ5.out; have := HJ38.out; have := HK3.out; have := HK4.out; omega
                            case rel => exact ⟨(wrap64 (x17_3 + 1)), (by first | rfl | (simp; done) | (simp [*]; done)), H', ⟨by have := HJ5.out; have := HJ38.out; have := HK3.out; have := HK4.out; omega⟩, ⟨pL_ HO_249001.out⟩, ⟨pL_ HO_258001.out⟩, ⟨pG_ BK238.out⟩, ⟨pG_ BK248.out⟩, ⟨pG_ BK257.out⟩, ⟨pH_ HB.out⟩⟩
                      ·
                       as_aux_lemma =>
                        rw [if_neg c71] at H; have c71b0 : decide (x17_3 < (l0_1.length : Int)) = false := decide_eq_false c71; clear c71; replace H := Option.bind_eq_some_iff.mp H; obtain ⟨⟨t269, t270⟩, A1000, H⟩ := H; replace H : ((slots_Bit.f k3 t243 t244 a1 a2 a4).bind fun bt271 => ((slots_Set.f k3 t243 t244 a1 a2 t269).bind fun bt277 => (if t270 = 0 then (if bt271.2.2 = 0 then (if bt277.2.2 = 0 then ((bitloftref11_Same.f k3 bt271.1 bt271.2.1 bt277.1 bt277.2.1).bind fun t283 => (if t283 = true then ((bitloftlaw11_alive.f k3).bind fun t284 => (bitloftlaw11_SlotsOnly.j5 k3 t284)) else (bitloftlaw11_SlotsOnly.j5 k3 false))) else (bitloftlaw11_SlotsOnly.j5 k3 false)) else (bitloftlaw11_SlotsOnly.j5 k3 false)) else (bitloftlaw11_SlotsOnly.j5 k3 false)))) = some r := H; have A100 := Aside0.mk A1000; clear A1000; replace H := Option.bind_eq_some_iff.mp H; obtain ⟨⟨t271, t272, t275⟩, A1010, H⟩ := H; replace H : ((slots_Set.f k3 t243 t244 a1 a2 t269).bind fun bt277 => (if t270 = 0 then (if t275 = 0 then (if bt277.2.2 = 0 then ((bitloftref11_Same.f k3 t271 t272 bt277.1 bt277.2.1).bind fun t283 => (if t283 = true then ((bitloftlaw11_alive.f k3).bind fun t284 => (bitloftlaw11_SlotsOnly.j5 k3 t284)) else (bitloftlaw11_SlotsOnly.j5 k3 false))) else (bitloftlaw11_SlotsOnly.j5 k3 false)) else (bitloftlaw11_SlotsOnly.j5 k3 false)) else (bitloftlaw11_SlotsOnly.j5 k3 false))) = some r := H; have A101 := Aside0.mk A1010; clear A1010; replace H := Option.bind_eq_some_iff.mp H; obtain ⟨⟨t277, t278, t281⟩, A1020, H⟩ := H; replace H : (if t270 = 0 then (if t275 = 0 then (if t281 = 0 then ((bitloftref11_Same.f k3 t271 t272 t277 t278).bind fun t283 => (if t283 = true then ((bitloftlaw11_alive.f k3).bind fun t284 => (bitloftlaw11_SlotsOnly.j5 k3 t284)) else (bitloftlaw11_SlotsOnly.j5 k3 false))) else (bitloftlaw11_SlotsOnly.j5 k3 false)) else (bitloftlaw11_SlotsOnly.j5 k3 false)) else (bitloftlaw11_SlotsOnly.j5 k3 false)) = some r := H; have A102 := Aside0.mk A1020; clear A1020; have HC103 := Aside0.mk H; clear H; have hnb104 := NB238_248.out; have hnc104 := NB248_238.out; have hnb105 := NB238_257.out; have hnc105 := NB257_238.out; have hcz106_0 : wr.cell? ⟨gb238, 0, none⟩ = some (.int .i64 a0_0) := (blk_cell BK238.out 0).trans rfl; have hcz106_1 : wr.cell? ⟨gb238, 1, none⟩ = some (.slice (some ad251) l0_1.length c0_1) := (blk_cell BK238.out 1).trans rfl; have hfz106_0 := blk_frozen BK238.out 0; have hfz106_1 := blk_frozen BK238.out 1
                        go_upto_region 19 with (first | ((with_reducible refine gate_callee (f := 32) rfl ?_); refine gL_ (some 170) Try.func32 #[.int .u8 a3, .int .u8 a4] ?_; (with_reducible refine (states_Next.calls k3 a3 a4 t269 t270 _ A100.out).mono ?_); rintro e w107 ⟨rfl, hb⟩; refine ⟨_, rfl, ?_⟩; have n0_ := Aside0.mk (Kd.R_below (pL_ HO_249001.out) hb); have n1_ := Aside0.mk (Kd.R_below (pL_ HO_258001.out) hb); have n2_ := Aside0.mk (blk_below (pG_ BK238.out) hb); have n3_ := Aside0.mk (blk_below (pG_ BK248.out) hb); have n4_ := Aside0.mk (blk_below (pG_ BK257.out) hb); have n5_ := Aside0.mk (below_step (pH_ HB.out) hb); clear HO_249001; clear HO_258001; clear BK238; clear BK248; clear BK257; clear HB; have HO_249001 := n0_; have HO_258001 := n1_; have BK238 := n2_; have BK248 := n3_; have BK257 := n4_; have HB := n5_; clear n0_ n1_ n2_ n3_ n4_ n5_; (try clear hb); have hnb108 := NB248_257.out; have hnc108 := NB257_248.out; have hcz109_0 : w107.cell? ⟨gb248, 0, none⟩ = some (.int .i64 t243) := (blk_cell BK248.out 0).trans rfl; have hcz109_1 : w107.cell? ⟨gb248, 1, none⟩ = some (.slice Ao45 t244.length co45) := (blk_cell BK248.out 1).trans rfl; have hfz109_0 := blk_frozen BK248.out 0; have hfz109_1 := blk_frozen BK248.out 1) | ((with_reducible refine gate_callee (f := 22) rfl ?_); refine gL_ (some 178) Try.func22 #[.agg #[.int .i64 t243, .slice Ao45 t244.length co45], .int .i64 a1, .int .i64 a2, .int .u8 a4] ?_; (with_reducible refine (slots_Bit.calls k3 t243 _ _ t244 a1 a2 a4 t271 t272 t275 _ ?side1 ?side2 A101.out).mono ?_); (case side1 => repeat (first | exact (Kd.R_reads' HO_249001.out).2.2 | (with_reducible refine Kd.C_alloc ?_ _) | (with_reducible refine Kd.C_drewN ?_ _) | (with_reducible refine Kd.C_drew ?_))); (case side2 => exact (Kd.R_reads' HO_249001.out).2.1); rintro e w110 ⟨v273, rfl, ho0, hb⟩; refine ⟨_, rfl, ?_⟩; have n0_ := Aside0.mk (Kd.R_elder' (pL_ HO_249001.out) (Kd.R_base ho0) hb); have n1_ := Aside0.mk (Kd.R_elder' (pL_ HO_258001.out) (Kd.R_base ho0) hb); have n2_ := Aside0.mk (Kd.R_lower (Kd.R_new' (Kd.R_new' ho0 (Kd.R_lt (pL_ HO_249001.out))) (Kd.R_lt (pL_ HO_258001.out))) (below_size (pH_ HB.out))); have n3_ := Aside0.mk (blk_below (pG_ BK238.out) hb); have n4_ := Aside0.mk (blk_below (pG_ BK248.out) hb); have n5_ := Aside0.mk (blk_below (pG_ BK257.out) hb); have n6_ := Aside0.mk (below_step (pH_ HB.out) hb); clear HO_249001; clear HO_258001; clear BK238; clear BK248; clear BK257; clear HB; have HO_249001 := n0_; have HO_258001 := n1_; have HO274 := n2_; have BK238 := n3_; have BK248 := n4_; have BK257 := n5_; have HB := n6_; clear n0_ n1_ n2_ n3_ n4_ n5_ n6_; (try clear hb); (try clear ho0)) | ((with_reducible refine gate_dst (N := 21) rfl ?_); (try (refine gate_guard (by rfl) ?_; dsimp only)); refine box_event ?hg (N := 21) ?hd (cs := #[.int .i64 0, .slice none 0 0]) (t := 24) ?hr ?_; (case hd => rfl); (case hg => rfl); (case hr => first | (go_simp; done) | (go_simp; rfl)); intro gb276 hg w111 hbox hb; have n0_ := Aside0.mk (Kd.R_below (pL_ HO_249001.out) hb); have n1_ := Aside0.mk (Kd.R_below (pL_ HO_258001.out) hb); have n2_ := Aside0.mk (Kd.R_below (pL_ HO274.out) hb); have n3_ := Aside0.mk (blk_below (pG_ BK238.out) hb); have n4_ := Aside0.mk (blk_below (pG_ BK248.out) hb); have n5_ := Aside0.mk (blk_below (pG_ BK257.out) hb); have n6_ := Aside0.mk (below_step (pH_ HB.out) hb); have n7_ := Aside0.mk (hbox); have n8_ := Aside0.mk ((by rw [hg]; exact (below_size (pH_ HB.out)) : w.heap.size ≤ gb276)); have n9_ := Aside0.mk ((by rw [hg]; exact (below_size (pH_ HB.out)) : w.heap.size ≤ gb276)); have n10_ := Aside0.mk ((by rw [hg]; exact Nat.ne_of_lt (blk_lt (pG_ BK238.out)) : gb238 ≠ gb276)); have n11_ := Aside0.mk ((by rw [hg]; exact Nat.ne_of_gt (blk_lt (pG_ BK238.out)) : gb276 ≠ gb238)); have n12_ := Aside0.mk ((by rw [hg]; exact Nat.ne_of_lt (blk_lt (pG_ BK248.out)) : gb248 ≠ gb276)); have n13_ := Aside0.mk ((by rw [hg]; exact Nat.ne_of_gt (blk_lt (pG_ BK248.out)) : gb276 ≠ gb248)); have n14_ := Aside0.mk ((by rw [hg]; exact Nat.ne_of_lt (blk_lt (pG_ BK257.out)) : gb257 ≠ gb276)); have n15_ := Aside0.mk ((by rw [hg]; exact Nat.ne_of_gt (blk_lt (pG_ BK257.out)) : gb276 ≠ gb257)); clear HO_249001; clear HO_258001; clear HO274; clear BK238; clear BK248; clear BK257; clear HB; have HO_249001 := n0_; have HO_258001 := n1_; have HO274 := n2_; have BK238 := n3_; have BK248 := n4_; have BK257 := n5_; have HB := n6_; have BK276 := n7_; have GW276 := n8_; have GE276 := n9_; have NB238_276 := n10_; have NB276_238 := n11_; have NB248_276 := n12_; have NB276_248 := n13_; have NB257_276 := n14_; have NB276_257 := n15_; clear n0_ n1_ n2_ n3_ n4_ n5_ n6_ n7_ n8_ n9_ n10_ n11_ n12_ n13_ n14_ n15_; clear hb hbox hg; have hnb112 := NB276_238.out; have hnc112 := NB238_276.out; have hnb113 := NB276_248.out; have hnc113 := NB248_276.out; have hnb114 := NB276_257.out; have hnc114 := NB257_276.out; have hcz115_0 : w111.cell? ⟨gb276, 0, none⟩ = some (.int .i64 0) := (blk_cell BK276.out 0).trans rfl; have hcz115_1 : w111.cell? ⟨gb276, 1, none⟩ = some (.slice none 0 0) := (blk_cell BK276.out 1).trans rfl; have hfz115_0 := blk_frozen BK276.out 0; have hfz115_1 := blk_frozen BK276.out 1; obtain ⟨Ao116, co116, eo116⟩ := Kd.R_slice HO274.out; subst eo116; have hcz117_0 : w111.cell? ⟨gb248, 0, none⟩ = some (.int .i64 t243) := (blk_cell BK248.out 0).trans rfl; have hcz117_1 : w111.cell? ⟨gb248, 1, none⟩ = some (.slice Ao45 t244.length co45) := (blk_cell BK248.out 1).trans rfl; have hfz117_0 := blk_frozen BK248.out 0; have hfz117_1 := blk_frozen BK248.out 1) | ((with_reducible refine gate_callee (f := 20) rfl ?_); refine gL_ (some 186) Try.func20 #[.agg #[.int .i64 t243, .slice Ao45 t244.length co45], .int .i64 a1, .int .i64 a2, .int .u8 t269] ?_; (with_reducible refine (slots_Set.calls k3 t243 _ _ t244 a1 a2 t269 t277 t278 t281 _ ?side1 ?side2 A102.out).mono ?_); (case side1 => refine (Kd.R_reads' (e := 42) (base := w.heap.size) (ok := fun k_ => (nO_ k_ (.slice Ao53 t253.length co53) ∧ nO_ k_ (.slice Ao116 t272.length co116))) (n := t244.length) (c := co45) ?_).2.2; exact (by (with_reducible repeat (first | apply rA_ | apply rN_ | apply rD_)); exact (Kd.R_mono (Kd.R_far (p := ⟨gb276, 1, none⟩) (Kd.R_far (p := ⟨gb276, 0, none⟩) (Kd.R_types HO_249001.out BK276.out (by decide)) (fun _ hk => hk.2) (.int .i64 t271)) (fun _ hk => hk.2) (.slice Ao116 t272.length co116)) (fun _ h_ => h_.1)))); (case side2 => exact (Kd.R_reads' HO_249001.out).2.1); rintro e w118 ⟨v279, rfl, ho0, hb⟩; refine ⟨_, rfl, ?_⟩; have n0_ := Aside0.mk (Kd.R_elder' (by (with_reducible repeat (first | apply rA_ | apply rN_ | apply rD_)); exact (Kd.R_mono (Kd.R_far (p := ⟨gb276, 1, none⟩) (Kd.R_far (p := ⟨gb276, 0, none⟩) (Kd.R_types HO_249001.out BK276.out (by decide)) (fun _ hk => hk.2) (.int .i64 t271)) (fun _ hk => hk.2) (.slice Ao116 t272.length co116)) (fun _ h_ => h_.1))) (Kd.R_base ho0) hb); have n1_ := Aside0.mk (Kd.R_elder' (by (with_reducible repeat (first | apply rA_ | apply rN_ | apply rD_)); exact (Kd.R_mono (Kd.R_far (p := ⟨gb276, 1, none⟩) (Kd.R_far (p := ⟨gb276, 0, none⟩) (Kd.R_types HO_258001.out BK276.out (by decide)) (fun _ hk => hk.2) (.int .i64 t271)) (fun _ hk => hk.2) (.slice Ao116 t272.length co116)) (fun _ h_ => h_.1))) (Kd.R_base ho0) hb); have n2_ := Aside0.mk (Kd.R_elder' (by (with_reducible repeat (first | apply rA_ | apply rN_ | apply rD_)); exact (Kd.R_mono (Kd.R_far (p := ⟨gb276, 1, none⟩) (Kd.R_far (p := ⟨gb276, 0, none⟩) (Kd.R_types HO274.out BK276.out (by decide)) (fun _ hk => hk.2) (.int .i64 t271)) (fun _ hk => hk.2) (.slice Ao116 t272.length co116)) (fun _ h_ => h_.1))) (Kd.R_base ho0) hb); have n3_ := Aside0.mk (Kd.R_lower (Kd.R_new' (Kd.R_new' (Kd.R_new' ho0 (Kd.R_lt (by (with_reducible repeat (first | apply rA_ | apply rN_ | apply rD_)); exact (Kd.R_mono (Kd.R_far (p := ⟨gb276, 1, none⟩) (Kd.R_far (p := ⟨gb276, 0, none⟩) (Kd.R_types HO_249001.out BK276.out (by decide)) (fun _ hk => hk.2) (.int .i64 t271)) (fun _ hk => hk.2) (.slice Ao116 t272.length co116)) (fun _ h_ => h_.1))))) (Kd.R_lt (by (with_reducible repeat (first | apply rA_ | apply rN_ | apply rD_)); exact (Kd.R_mono (Kd.R_far (p := ⟨gb276, 1, none⟩) (Kd.R_far (p := ⟨gb276, 0, none⟩) (Kd.R_types HO_258001.out BK276.out (by decide)) (fun _ hk => hk.2) (.int .i64 t271)) (fun _ hk => hk.2) (.slice Ao116 t272.length co116)) (fun _ h_ => h_.1))))) (Kd.R_lt (by (with_reducible repeat (first | apply rA_ | apply rN_ | apply rD_)); exact (Kd.R_mono (Kd.R_far (p := ⟨gb276, 1, none⟩) (Kd.R_far (p := ⟨gb276, 0, none⟩) (Kd.R_types HO274.out BK276.out (by decide)) (fun _ hk => hk.2) (.int .i64 t271)) (fun _ hk => hk.2) (.slice Ao116 t272.length co116)) (fun _ h_ => h_.1))))) (below_size (pH_ HB.out))); have n4_ := Aside0.mk (blk_below (g := gb238) (o := .cells #[.int .i64 a0_0, .slice (some ad251) l0_1.length c0_1] 24 (0, 0)) (by (with_reducible repeat (first | refine blk_drewN ?_ _ | refine blk_drew ?_ | refine blk_alloc ?_ _)); refine blk_far ?_ NB238_276.out _; (with_reducible repeat (first | refine blk_drewN ?_ _ | refine blk_drew ?_ | refine blk_alloc ?_ _)); refine blk_far ?_ NB238_276.out _; (with_reducible repeat (first | refine blk_drewN ?_ _ | refine blk_drew ?_ | refine blk_alloc ?_ _)); exact BK238.out) hb); have n5_ := Aside0.mk (blk_below (g := gb248) (o := .cells #[.int .i64 t243, .slice Ao45 t244.length co45] 24 (0, 0)) (by (with_reducible repeat (first | refine blk_drewN ?_ _ | refine blk_drew ?_ | refine blk_alloc ?_ _)); refine blk_far ?_ NB248_276.out _; (with_reducible repeat (first | refine blk_drewN ?_ _ | refine blk_drew ?_ | refine blk_alloc ?_ _)); refine blk_far ?_ NB248_276.out _; (with_reducible repeat (first | refine blk_drewN ?_ _ | refine blk_drew ?_ | refine blk_alloc ?_ _)); exact BK248.out) hb); have n6_ := Aside0.mk (blk_below (g := gb257) (o := .cells #[.int .i64 t252, .slice Ao53 t253.length co53] 24 (0, 0)) (by (with_reducible repeat (first | refine blk_drewN ?_ _ | refine blk_drew ?_ | refine blk_alloc ?_ _)); refine blk_far ?_ NB257_276.out _; (with_reducible repeat (first | refine blk_drewN ?_ _ | refine blk_drew ?_ | refine blk_alloc ?_ _)); refine blk_far ?_ NB257_276.out _; (with_reducible repeat (first | refine blk_drewN ?_ _ | refine blk_drew ?_ | refine blk_alloc ?_ _)); exact BK257.out) hb); have n7_ := Aside0.mk (blk_below (g := gb276) (o := .cells #[.int .i64 t271, .slice Ao116 t272.length co116] 24 (0, 0)) (by (with_reducible repeat (first | refine blk_drewN ?_ _ | refine blk_drew ?_ | refine blk_alloc ?_ _)); refine blk_put (cs := #[.int .i64 t271, .slice none 0 0]) ?_ 1 _ rfl; (with_reducible repeat (first | refine blk_drewN ?_ _ | refine blk_drew ?_ | refine blk_alloc ?_ _)); refine blk_put (cs := #[.int .i64 0, .slice none 0 0]) ?_ 0 _ rfl; (with_reducible repeat (first | refine blk_drewN ?_ _ | refine blk_drew ?_ | refine blk_alloc ?_ _)); exact BK276.out) hb); have n8_ := Aside0.mk (below_step (pH_ HB.out) hb); clear HO_249001; clear HO_258001; clear HO274; clear BK238; clear BK248; clear BK257; clear BK276; clear HB; have HO_249001 := n0_; have HO_258001 := n1_; have HO274 := n2_; have HO280 := n3_; have BK238 := n4_; have BK248 := n5_; have BK257 := n6_; have BK276 := n7_; have HB := n8_; clear n0_ n1_ n2_ n3_ n4_ n5_ n6_ n7_ n8_; (try clear hb); (try clear ho0)) | ((with_reducible refine gate_dst (N := 23) rfl ?_); (try (refine gate_guard (by rfl) ?_; dsimp only)); refine box_event ?hg (N := 23) ?hd (cs := #[.int .i64 0, .slice none 0 0]) (t := 24) ?hr ?_; (case hd => rfl); (case hg => rfl); (case hr => first | (go_simp; done) | (go_simp; rfl)); intro gb282 hg w119 hbox hb; have n0_ := Aside0.mk (Kd.R_below (pL_ HO_249001.out) hb); have n1_ := Aside0.mk (Kd.R_below (pL_ HO_258001.out) hb); have n2_ := Aside0.mk (Kd.R_below (pL_ HO274.out) hb); have n3_ := Aside0.mk (Kd.R_below (pL_ HO280.out) hb); have n4_ := Aside0.mk (blk_below (pG_ BK238.out) hb); have n5_ := Aside0.mk (blk_below (pG_ BK248.out) hb); have n6_ := Aside0.mk (blk_below (pG_ BK257.out) hb); have n7_ := Aside0.mk (blk_below (pG_ BK276.out) hb); have n8_ := Aside0.mk (below_step (pH_ HB.out) hb); have n9_ := Aside0.mk (hbox); have n10_ := Aside0.mk ((by rw [hg]; exact (below_size (pH_ HB.out)) : w.heap.size ≤ gb282)); have n11_ := Aside0.mk ((by rw [hg]; exact (below_size (pH_ HB.out)) : w.heap.size ≤ gb282)); have n12_ := Aside0.mk ((by rw [hg]; exact Nat.ne_of_lt (blk_lt (pG_ BK238.out)) : gb238 ≠ gb282)); have n13_ := Aside0.mk ((by rw [hg]; exact Nat.ne_of_gt (blk_lt (pG_ BK238.out)) : gb282 ≠ gb238)); have n14_ := Aside0.mk ((by rw [hg]; exact Nat.ne_of_lt (blk_lt (pG_ BK248.out)) : gb248 ≠ gb282)); have n15_ := Aside0.mk ((by rw [hg]; exact Nat.ne_of_gt (blk_lt (pG_ BK248.out)) : gb282 ≠ gb248)); have n16_ := Aside0.mk ((by rw [hg]; exact Nat.ne_of_lt (blk_lt (pG_ BK257.out)) : gb257 ≠ gb282)); have n17_ := Aside0.mk ((by rw [hg]; exact Nat.ne_of_gt (blk_lt (pG_ BK257.out)) : gb282 ≠ gb257)); have n18_ := Aside0.mk ((by rw [hg]; exact Nat.ne_of_lt (blk_lt (pG_ BK276.out)) : gb276 ≠ gb282)); have n19_ := Aside0.mk ((by rw [hg]; exact Nat.ne_of_gt (blk_lt (pG_ BK276.out)) : gb282 ≠ gb276)); clear HO_249001; clear HO_258001; clear HO274; clear HO280; clear BK238; clear BK248; clear BK257; clear BK276; clear HB; have HO_249001 := n0_; have HO_258001 := n1_; have HO274 := n2_; have HO280 := n3_; have BK238 := n4_; have BK248 := n5_; have BK257 := n6_; have BK276 := n7_; have HB := n8_; have BK282 := n9_; have GW282 := n10_; have GE282 := n11_; have NB238_282 := n12_; have NB282_238 := n13_; have NB248_282 := n14_; have NB282_248 := n15_; have NB257_282 := n16_; have NB282_257 := n17_; have NB276_282 := n18_; have NB282_276 := n19_; clear n0_ n1_ n2_ n3_ n4_ n5_ n6_ n7_ n8_ n9_ n10_ n11_ n12_ n13_ n14_ n15_ n16_ n17_ n18_ n19_; clear hb hbox hg; have hnb120 := NB282_238.out; have hnc120 := NB238_282.out; have hnb121 := NB282_248.out; have hnc121 := NB248_282.out; have hnb122 := NB282_257.out; have hnc122 := NB257_282.out; have hnb123 := NB282_276.out; have hnc123 := NB276_282.out; have hcz124_0 : w119.cell? ⟨gb282, 0, none⟩ = some (.int .i64 0) := (blk_cell BK282.out 0).trans rfl; have hcz124_1 : w119.cell? ⟨gb282, 1, none⟩ = some (.slice none 0 0) := (blk_cell BK282.out 1).trans rfl; have hfz124_0 := blk_frozen BK282.out 0; have hfz124_1 := blk_frozen BK282.out 1; obtain ⟨Ao125, co125, eo125⟩ := Kd.R_slice HO280.out; subst eo125))
                        (try simp only [Act.put, sA_, sZ_, sS_]); (with_reducible first | refine then_id_ ?_ | (refine wp_tail_ ?_; intro Kt_ hKt_))
                        go_cut [10] (fun v10 wc => ∃ (kq : Nat) (x10_102 : Bool), v10 = .bool x10_102 ∧ Aside0 (bitloftlaw11_SlotsOnly.j5 kq x10_102 = some r) ∧ Aside0 (kq ≤ k3) ∧ Aside0 (Kd.R k42 42 wc w.heap.size (fun k_ => some k_ ≠ ((.slice Ao53 t253.length co53) : Value).ownBlock ∧ some k_ ≠ ((.slice Ao116 t272.length co116) : Value).ownBlock ∧ some k_ ≠ ((.slice Ao125 t278.length co125) : Value).ownBlock) (.slice Ao45 t244.length co45) t244) ∧ Aside0 (Kd.R k42 42 wc w.heap.size (fun k_ => some k_ ≠ ((.slice Ao45 t244.length co45) : Value).ownBlock ∧ some k_ ≠ ((.slice Ao116 t272.length co116) : Value).ownBlock ∧ some k_ ≠ ((.slice Ao125 t278.length co125) : Value).ownBlock) (.slice Ao53 t253.length co53) t253) ∧ Aside0 (Kd.R k42 42 wc w.heap.size (fun k_ => some k_ ≠ ((.slice Ao45 t244.length co45) : Value).ownBlock ∧ some k_ ≠ ((.slice Ao53 t253.length co53) : Value).ownBlock ∧ some k_ ≠ ((.slice Ao125 t278.length co125) : Value).ownBlock) (.slice Ao116 t272.length co116) t272) ∧ Aside0 (Kd.R k42 42 wc w.heap.size (fun k_ => some k_ ≠ ((.slice Ao45 t244.length co45) : Value).ownBlock ∧ some k_ ≠ ((.slice Ao53 t253.length co53) : Value).ownBlock ∧ some k_ ≠ ((.slice Ao116 t272.length co116) : Value).ownBlock) (.slice Ao125 t278.length co125) t278) ∧ Aside0 (wc.heap[gb238]? = some (.cells #[.int .i64 a0_0, (.slice (some ad251) l0_1.length c0_1)] 24 (0, 0))) ∧ Aside0 (wc.heap[gb248]? = some (.cells #[.int .i64 t243, (.slice Ao45 t244.length co45)] 24 (0, 0))) ∧ Aside0 (wc.heap[gb257]? = some (.cells #[.int .i64 t252, (.slice Ao53 t253.length co53)] 24 (0, 0))) ∧ Aside0 (wc.heap[gb276]? = some (.cells #[.int .i64 t271, (.slice Ao116 t272.length co116)] 24 (0, 0))) ∧ Aside0 (wc.heap[gb282]? = some (.cells #[.int .i64 t277, (.slice Ao125 t278.length co125)] 24 (0, 0))) ∧ Aside0 (Below w.heap.size w wc))
                        case first =>
                         as_aux_lemma =>
                          have H := HC103.out; clear HC103
                          by_cases c126 : t270 = 0
                          ·
                           as_aux_lemma =>
                            rw [if_pos c126] at H; have c126b0 : (t270 == 0) = true := beq_iff_eq.mpr c126; have c126b1 : (t270 != 0) = false := bne_eq_false_iff_eq.mpr c126; clear c126; (first | rw [c126b0] | (simp only [i64_w, i32_w]; rw [c126b0]) | skip)
                            by_cases c127 : t275 = 0
                            ·
                             rw [if_pos c127] at H; have c127b0 : (t275 == 0) = true := beq_iff_eq.mpr c127; have c127b1 : (t275 != 0) = false := bne_eq_false_iff_eq.mpr c127; clear c127
                             by_cases c128 : t281 = 0
                             ·
                              rw [if_pos c128] at H; have c128b0 : (t281 == 0) = true := beq_iff_eq.mpr c128; have c128b1 : (t281 != 0) = false := bne_eq_false_iff_eq.mpr c128; clear c128; replace H := Option.bind_eq_some_iff.mp H; obtain ⟨t283, A1290, H⟩ := H; replace H : (if t283 = true then ((bitloftlaw11_alive.f k3).bind fun t284 => (bitloftlaw11_SlotsOnly.j5 k3 t284)) else (bitloftlaw11_SlotsOnly.j5 k3 false)) = some r := H; have A129 := Aside0.mk A1290; clear A1290
                              by_cases c130 : t283 = true
                              ·
                               subst c130
                               have H1 : ((bitloftlaw11_alive.f k3).bind fun t284 => (bitloftlaw11_SlotsOnly.j5 k3 t284)) = some r := by rw [if_pos rfl] at H; exact H
                               clear H; have H := H1; clear H1; replace H := Option.bind_eq_some_iff.mp H; obtain ⟨t284, A1310, H⟩ := H; replace H : (bitloftlaw11_SlotsOnly.j5 k3 t284) = some r := H; have A131 := Aside0.mk A1310; clear A1310; have H' := Aside0.mk H; clear H; have hnb132 := NB276_238.out; have hnc132 := NB238_276.out; have hnb133 := NB276_248.out; have hnc133 := NB248_276.out; have hnb134 := NB276_257.out; have hnc134 := NB257_276.out; have hnb135 := NB276_282.out; have hnc135 := NB282_276.out; have hcz136_0 : w119.cell? ⟨gb276, 0, none⟩ = some (.int .i64 t271) := (blk_cell BK276.out 0).trans rfl; have hcz136_1 : w119.cell? ⟨gb276, 1, none⟩ = some (.slice Ao116 t272.length co116) := (blk_cell BK276.out 1).trans rfl; have hfz136_0 := blk_frozen BK276.out 0; have hfz136_1 := blk_frozen BK276.out 1; have hnb137 := NB282_238.out; have hnc137 := NB238_282.out; have hnb138 := NB282_248.out; have hnc138 := NB248_282.out; have hnb139 := NB282_257.out; have hnc139 := NB257_282.out; have hcz140_0 : w119.cell? ⟨gb282, 0, none⟩ = some (.int .i64 0) := (blk_cell BK282.out 0).trans rfl; have hcz140_1 : w119.cell? ⟨gb282, 1, none⟩ = some (.slice none 0 0) := (blk_cell BK282.out 1).trans rfl; have hfz140_0 := blk_frozen BK282.out 0; have hfz140_1 := blk_frozen BK282.out 1
                               go_wp2_with (first | (go_at_call 15; (with_reducible refine (bitloftref11_Same.calls k3 t271 _ _ t272 t277 _ _ t278 true _ ?side1 ?side2 ?side3 ?side4 A129.out).mono ?_); (case side1 => refine (Kd.R_reads' (e := 42) (base := w.heap.size) (ok := fun k_ => (((True ∧ nO_ k_ (.slice Ao45 t244.length co45)) ∧ nO_ k_ (.slice Ao53 t253.length co53)) ∧ nO_ k_ (.slice Ao125 t278.length co125))) (n := t272.length) (c := co116) ?_).2.2; exact (by (with_reducible repeat (first | apply rA_ | apply rN_ | apply rD_)); exact (Kd.R_mono (Kd.R_far (p := ⟨gb282, 1, none⟩) (Kd.R_far (p := ⟨gb282, 0, none⟩) (Kd.R_types HO274.out BK282.out (by decide)) (fun _ hk => hk.2) (.int .i64 t277)) (fun _ hk => hk.2) (.slice Ao125 t278.length co125)) (fun _ h_ => h_.1)))); (case side2 => exact (Kd.R_reads' HO274.out).2.1); (case side3 => refine (Kd.R_reads' (e := 42) (base := w.heap.size) (ok := fun k_ => (((True ∧ nO_ k_ (.slice Ao45 t244.length co45)) ∧ nO_ k_ (.slice Ao53 t253.length co53)) ∧ nO_ k_ (.slice Ao116 t272.length co116))) (n := t278.length) (c := co125) ?_).2.2; exact (by (with_reducible repeat (first | apply rA_ | apply rN_ | apply rD_)); exact (Kd.R_mono (Kd.R_far (p := ⟨gb282, 1, none⟩) (Kd.R_far (p := ⟨gb282, 0, none⟩) (Kd.R_types HO280.out BK282.out (by decide)) (fun _ hk => hk.2) (.int .i64 t277)) (fun _ hk => hk.2) (.slice Ao125 t278.length co125)) (fun _ h_ => h_.1)))); (case side4 => exact (Kd.R_reads' HO280.out).2.1); rintro e w141 ⟨rfl, hb⟩; have n0_ := Aside0.mk (Kd.R_below (by (with_reducible repeat (first | apply rA_ | apply rN_ | apply rD_)); exact (Kd.R_mono (Kd.R_far (p := ⟨gb282, 1, none⟩) (Kd.R_far (p := ⟨gb282, 0, none⟩) (Kd.R_types HO_249001.out BK282.out (by decide)) (fun _ hk => hk.2) (.int .i64 t277)) (fun _ hk => hk.2) (.slice Ao125 t278.length co125)) (fun _ h_ => h_.1))) hb); have n1_ := Aside0.mk (Kd.R_below (by (with_reducible repeat (first | apply rA_ | apply rN_ | apply rD_)); exact (Kd.R_mono (Kd.R_far (p := ⟨gb282, 1, none⟩) (Kd.R_far (p := ⟨gb282, 0, none⟩) (Kd.R_types HO_258001.out BK282.out (by decide)) (fun _ hk => hk.2) (.int .i64 t277)) (fun _ hk => hk.2) (.slice Ao125 t278.length co125)) (fun _ h_ => h_.1))) hb); have n2_ := Aside0.mk (Kd.R_below (by (with_reducible repeat (first | apply rA_ | apply rN_ | apply rD_)); exact (Kd.R_mono (Kd.R_far (p := ⟨gb282, 1, none⟩) (Kd.R_far (p := ⟨gb282, 0, none⟩) (Kd.R_types HO274.out BK282.out (by decide)) (fun _ hk => hk.2) (.int .i64 t277)) (fun _ hk => hk.2) (.slice Ao125 t278.length co125)) (fun _ h_ => h_.1))) hb); have n3_ := Aside0.mk (Kd.R_below (by (with_reducible repeat (first | apply rA_ | apply rN_ | apply rD_)); exact (Kd.R_mono (Kd.R_far (p := ⟨gb282, 1, none⟩) (Kd.R_far (p := ⟨gb282, 0, none⟩) (Kd.R_types HO280.out BK282.out (by decide)) (fun _ hk => hk.2) (.int .i64 t277)) (fun _ hk => hk.2) (.slice Ao125 t278.length co125)) (fun _ h_ => h_.1))) hb); have n4_ := Aside0.mk (blk_below (g := gb238) (o := .cells #[.int .i64 a0_0, .slice (some ad251) l0_1.length c0_1] 24 (0, 0)) (by (with_reducible repeat (first | refine blk_drewN ?_ _ | refine blk_drew ?_ | refine blk_alloc ?_ _)); refine blk_far ?_ NB238_282.out _; (with_reducible repeat (first | refine blk_drewN ?_ _ | refine blk_drew ?_ | refine blk_alloc ?_ _)); refine blk_far ?_ NB238_282.out _; (with_reducible repeat (first | refine blk_drewN ?_ _ | refine blk_drew ?_ | refine blk_alloc ?_ _)); exact BK238.out) hb); have n5_ := Aside0.mk (blk_below (g := gb248) (o := .cells #[.int .i64 t243, .slice Ao45 t244.length co45] 24 (0, 0)) (by (with_reducible repeat (first | refine blk_drewN ?_ _ | refine blk_drew ?_ | refine blk_alloc ?_ _)); refine blk_far ?_ NB248_282.out _; (with_reducible repeat (first | refine blk_drewN ?_ _ | refine blk_drew ?_ | refine blk_alloc ?_ _)); refine blk_far ?_ NB248_282.out _; (with_reducible repeat (first | refine blk_drewN ?_ _ | refine blk_drew ?_ | refine blk_alloc ?_ _)); exact BK248.out) hb); have n6_ := Aside0.mk (blk_below (g := gb257) (o := .cells #[.int .i64 t252, .slice Ao53 t253.length co53] 24 (0, 0)) (by (with_reducible repeat (first | refine blk_drewN ?_ _ | refine blk_drew ?_ | refine blk_alloc ?_ _)); refine blk_far ?_ NB257_282.out _; (with_reducible repeat (first | refine blk_drewN ?_ _ | refine blk_drew ?_ | refine blk_alloc ?_ _)); refine blk_far ?_ NB257_282.out _; (with_reducible repeat (first | refine blk_drewN ?_ _ | refine blk_drew ?_ | refine blk_alloc ?_ _)); exact BK257.out) hb); have n7_ := Aside0.mk (blk_below (g := gb276) (o := .cells #[.int .i64 t271, .slice Ao116 t272.length co116] 24 (0, 0)) (by (with_reducible repeat (first | refine blk_drewN ?_ _ | refine blk_drew ?_ | refine blk_alloc ?_ _)); refine blk_far ?_ NB276_282.out _; (with_reducible repeat (first | refine blk_drewN ?_ _ | refine blk_drew ?_ | refine blk_alloc ?_ _)); refine blk_far ?_ NB276_282.out _; (with_reducible repeat (first | refine blk_drewN ?_ _ | refine blk_drew ?_ | refine blk_alloc ?_ _)); exact BK276.out) hb); have n8_ := Aside0.mk (blk_below (g := gb282) (o := .cells #[.int .i64 t277, .slice Ao125 t278.length co125] 24 (0, 0)) (by (with_reducible repeat (first | refine blk_drewN ?_ _ | refine blk_drew ?_ | refine blk_alloc ?_ _)); refine blk_put (cs := #[.int .i64 t277, .slice none 0 0]) ?_ 1 _ rfl; (with_reducible repeat (first | refine blk_drewN ?_ _ | refine blk_drew ?_ | refine blk_alloc ?_ _)); refine blk_put (cs := #[.int .i64 0, .slice none 0 0]) ?_ 0 _ rfl; (with_reducible repeat (first | refine blk_drewN ?_ _ | refine blk_drew ?_ | refine blk_alloc ?_ _)); exact BK282.out) hb); have n9_ := Aside0.mk (below_step (pH_ HB.out) hb); clear HO_249001; clear HO_258001; clear HO274; clear HO280; clear BK238; clear BK248; clear BK257; clear BK276; clear BK282; clear HB; have HO_249001 := n0_; have HO_258001 := n1_; have HO274 := n2_; have HO280 := n3_; have BK238 := n4_; have BK248 := n5_; have BK257 := n6_; have BK276 := n7_; have BK282 := n8_; have HB := n9_; clear n0_ n1_ n2_ n3_ n4_ n5_ n6_ n7_ n8_ n9_; (try clear hb)) | (go_at_call 24; (with_reducible refine (bitloftlaw11_alive.calls k3  t284 _ A131.out).mono ?_); rintro e w142 ⟨rfl, hb⟩; have n0_ := Aside0.mk (Kd.R_below (pL_ HO_249001.out) hb); have n1_ := Aside0.mk (Kd.R_below (pL_ HO_258001.out) hb); have n2_ := Aside0.mk (Kd.R_below (pL_ HO274.out) hb); have n3_ := Aside0.mk (Kd.R_below (pL_ HO280.out) hb); have n4_ := Aside0.mk (blk_below (pG_ BK238.out) hb); have n5_ := Aside0.mk (blk_below (pG_ BK248.out) hb); have n6_ := Aside0.mk (blk_below (pG_ BK257.out) hb); have n7_ := Aside0.mk (blk_below (pG_ BK276.out) hb); have n8_ := Aside0.mk (blk_below (pG_ BK282.out) hb); have n9_ := Aside0.mk (below_step (pH_ HB.out) hb); clear HO_249001; clear HO_258001; clear HO274; clear HO280; clear BK238; clear BK248; clear BK257; clear BK276; clear BK282; clear HB; have HO_249001 := n0_; have HO_258001 := n1_; have HO274 := n2_; have HO280 := n3_; have BK238 := n4_; have BK248 := n5_; have BK257 := n6_; have BK276 := n7_; have BK282 := n8_; have HB := n9_; clear n0_ n1_ n2_ n3_ n4_ n5_ n6_ n7_ n8_ n9_; (try clear hb)))
                               (first | go_meet | (refine Met.intro ?_; go_step; (repeat apply Exists.intro); refine ⟨?rel, ?eqf_⟩; case eqf_ => ((simp only [c128b0, c127b0, c126b0, c71b0]) <;> rfl)))
                               case rel => exact ⟨_, (t284), (by first | rfl | (simp; done) | (simp [*]; done)), H', ⟨by have := HJ5.out; have := HJ38.out; have := HK3.out; first | omega | exact Nat.le_refl _⟩, ⟨by (with_reducible repeat (first | apply rA_ | apply rN_ | apply rD_)); exact Kd.R_mono HO_249001.out (fun _ hk => ⟨hk.1.1, ⟨hk.1.2, hk.2⟩⟩)⟩, ⟨by (with_reducible repeat (first | apply rA_ | apply rN_ | apply rD_)); exact Kd.R_mono HO_258001.out (fun _ hk => ⟨hk.1.1, ⟨hk.1.2, hk.2⟩⟩)⟩, ⟨by (with_reducible repeat (first | apply rA_ | apply rN_ | apply rD_)); exact Kd.R_mono HO274.out (fun _ hk => ⟨hk.1.1.2, ⟨hk.1.2, hk.2⟩⟩)⟩, ⟨by (with_reducible repeat (first | apply rA_ | apply rN_ | apply rD_)); exact Kd.R_mono HO280.out (fun _ hk => ⟨hk.1.1.2, ⟨hk.1.2, hk.2⟩⟩)⟩, ⟨pG_ BK238.out⟩, ⟨pG_ BK248.out⟩, ⟨pG_ BK257.out⟩, ⟨pG_ BK276.out⟩, ⟨pG_ BK282.out⟩, ⟨pH_ HB.out⟩⟩
                              ·
                               replace c130 := Bool.eq_false_iff.mpr c130
                               subst c130
                               have H1 : (bitloftlaw11_SlotsOnly.j5 k3 false) = some r := by rw [if_neg (show ¬ (false = true) by decide)] at H; exact H
                               clear H; have H := H1; clear H1; exact absurd (H.trans (congrArg some HRT_.out)) (by first | (simp; done) | (generalize k3 = k_; cases k_ <;> simp [bitloftlaw11_SlotsOnly.j0, bitloftlaw11_SlotsOnly.j1, bitloftlaw11_SlotsOnly.l0, bitloftlaw11_SlotsOnly.l1, bitloftlaw11_SlotsOnly.j4, bitloftlaw11_SlotsOnly.j5]))
                             ·
                              rw [if_neg c128] at H; have c128b0 : (t281 == 0) = false := beq_eq_false_iff_ne.mpr c128; have c128b1 : (t281 != 0) = true := bne_iff_ne.mpr c128; exact absurd (H.trans (congrArg some HRT_.out)) (by first | (simp; done) | (generalize k3 = k_; cases k_ <;> simp [bitloftlaw11_SlotsOnly.j0, bitloftlaw11_SlotsOnly.j1, bitloftlaw11_SlotsOnly.l0, bitloftlaw11_SlotsOnly.l1, bitloftlaw11_SlotsOnly.j4, bitloftlaw11_SlotsOnly.j5]))
                            ·
                             rw [if_neg c127] at H; have c127b0 : (t275 == 0) = false := beq_eq_false_iff_ne.mpr c127; have c127b1 : (t275 != 0) = true := bne_iff_ne.mpr c127; exact absurd (H.trans (congrArg some HRT_.out)) (by first | (simp; done) | (generalize k3 = k_; cases k_ <;> simp [bitloftlaw11_SlotsOnly.j0, bitloftlaw11_SlotsOnly.j1, bitloftlaw11_SlotsOnly.l0, bitloftlaw11_SlotsOnly.l1, bitloftlaw11_SlotsOnly.j4, bitloftlaw11_SlotsOnly.j5]))
                          ·
                           rw [if_neg c126] at H; have c126b0 : (t270 == 0) = false := beq_eq_false_iff_ne.mpr c126; have c126b1 : (t270 != 0) = true := bne_iff_ne.mpr c126; (first | rw [c126b0] | (simp only [i64_w, i32_w]; rw [c126b0]) | skip); exact absurd (H.trans (congrArg some HRT_.out)) (by first | (simp; done) | (generalize k3 = k_; cases k_ <;> simp [bitloftlaw11_SlotsOnly.j0, bitloftlaw11_SlotsOnly.j1, bitloftlaw11_SlotsOnly.l0, bitloftlaw11_SlotsOnly.l1, bitloftlaw11_SlotsOnly.j4, bitloftlaw11_SlotsOnly.j5]))
                        case rest =>
                         (try (refine hKt_ _ _ ?_; clear hKt_; clear Kt_)); clear HC103
                         try clear c1
                         try clear c2
                         try clear p2
                         try clear q2
                         try clear hx2
                         try clear c3
                         try clear p6
                         try clear c7
                         try clear c8
                         try clear c9
                         try clear c10
                         try clear c11
                         try clear c12
                         try clear c13
                         try clear c20
                         try clear c22
                         try clear p26
                         try clear q26
                         try clear hx26
                         try clear c32
                         try clear p64
                         try clear c71
                         try clear c71b0
                         try clear c75
                         try clear c75b0
                         try clear c77
                         try clear c77b0
                         try clear c77b1
                         try clear c78
                         try clear c78b0
                         try clear c83
                         try clear c83b0
                         try clear c84
                         try clear c84b0
                         try clear c85
                         try clear c85b0
                         try clear c86
                         try clear c86b0
                         try clear c87
                         try clear c87b0
                         try clear c87b1
                         try clear c91
                         try clear c91b0
                         try clear c92
                         try clear c92b0
                         try clear c93
                         try clear c93b0
                         try clear c94
                         try clear c94b0
                         try clear c95
                         try clear c95b0
                         try clear c95b1
                         try clear c99
                         try clear c104
                         try clear c105
                         try clear c108
                         try clear c112
                         try clear c113
                         try clear c114
                         try clear c120
                         try clear c121
                         try clear c122
                         try clear c123
                         try clear c126
                         try clear c126b0
                         try clear c126b1
                         try clear c127
                         try clear c127b0
                         try clear c127b1
                         try clear c128
                         try clear c128b0
                         try clear c128b1
                         try clear c130
                         try clear c132
                         try clear c133
                         try clear c134
                         try clear c135
                         try clear c137
                         try clear c138
                         try clear c139
                         try clear hcz106_0
                         try clear hcz106_1
                         try clear hcz109_0
                         try clear hcz109_1
                         try clear hcz115_0
                         try clear hcz115_1
                         try clear hcz117_0
                         try clear hcz117_1
                         try clear hcz124_0
                         try clear hcz124_1
                         try clear hcz136_0
                         try clear hcz136_1
                         try clear hcz140_0
                         try clear hcz140_1
                         try clear hfz106_0
                         try clear hfz106_1
                         try clear hfz109_0
                         try clear hfz109_1
                         try clear hfz115_0
                         try clear hfz115_1
                         try clear hfz117_0
                         try clear hfz117_1
                         try clear hfz124_0
                         try clear hfz124_1
                         try clear hfz136_0
                         try clear hfz136_1
                         try clear hfz140_0
                         try clear hfz140_1
                         try clear hx265_0
                         try clear hx265_1
                         try clear hx265_10
                         try clear hx265_11
                         try clear hx265_12
                         try clear hx265_13
                         try clear hx265_14
                         try clear hx265_15
                         try clear hx265_2
                         try clear hx265_3
                         try clear hx265_4
                         try clear hx265_5
                         try clear hx265_6
                         try clear hx265_7
                         try clear hx265_8
                         try clear hx265_9
                         try clear hx266_0
                         try clear hx266_1
                         try clear hx266_10
                         try clear hx266_11
                         try clear hx266_12
                         try clear hx266_13
                         try clear hx266_14
                         try clear hx266_15
                         try clear hx266_2
                         try clear hx266_3
                         try clear hx266_4
                         try clear hx266_5
                         try clear hx266_6
                         try clear hx266_7
                         try clear hx266_8
                         try clear hx266_9
                         try clear hx267_0
                         try clear hx267_1
                         try clear hx267_10
                         try clear hx267_11
                         try clear hx267_12
                         try clear hx267_13
                         try clear hx267_14
                         try clear hx267_15
                         try clear hx267_2
                         try clear hx267_3
                         try clear hx267_4
                         try clear hx267_5
                         try clear hx267_6
                         try clear hx267_7
                         try clear hx267_8
                         try clear hx267_9
                         try clear hx268_0
                         try clear hx268_1
                         try clear hx268_10
                         try clear hx268_11
                         try clear hx268_12
                         try clear hx268_13
                         try clear hx268_14
                         try clear hx268_15
                         try clear hx268_2
                         try clear hx268_3
                         try clear hx268_4
                         try clear hx268_5
                         try clear hx268_6
                         try clear hx268_7
                         try clear hx268_8
                         try clear hx268_9
                         try clear p2
                         try clear p26
                         try clear p265
                         try clear p266
                         try clear p267
                         try clear p268
                         try clear q2
                         try clear q26
                         try clear q265
                         try clear q266
                         try clear q267
                         try clear q268
                         obtain ⟨kq, x10_102, rfl, HA, HJ102, HO_249001, HO_258001, HO_277001, HO_283001, BK238, BK248, BK257, BK276, BK282, HB⟩ := hcut
                         cases kq with
                         | zero => exact absurd HA.out (by simp [bitloftlaw11_SlotsOnly.j5])
                         | succ kj102 =>
                          have H := HA.out; clear HA; simp only [bitloftlaw11_SlotsOnly.j5] at H; obtain rfl := Option.some.inj H
                          go_wp2
                          go_ret
                          exact ⟨by first | rfl | (simp [errW_none, errW_some] <;> rfl) | (simp only [← hji35]; first | rfl | (simp [errW_none, errW_some] <;> rfl)) | (simp [*, errW_none, errW_some] <;> rfl), pH_ HB.out⟩
            ·
             rw [if_neg c37] at H; exact absurd H (by simp)
          ·
           rw [if_neg c36] at H; exact absurd H (by simp)
        ·
         rw [if_neg c34] at H; exact absurd H (by simp)
      ·
       rw [if_neg c33] at H; exact absurd H (by simp)

/-- The one plain statement of bitloftlaw11_SlotsOnly. -/
def bitloftlaw11_SlotsOnly.Pure : Prop := ∀ (a0_0 : Int) (l0_1 : List (S42)) (a1 : Int) (a2 : Int) (a3 : Int) (a4 : Int), (Lit.int .i64 a0_0).wf = true → l0_1.length ≤ maxLen → (∀ x_ ∈ l0_1, wf42 x_) → (Lit.int .i64 a1).wf = true → (Lit.int .i64 a2).wf = true → (Lit.int .u8 a3).wf = true → (Lit.int .u8 a4).wf = true → ∃ k, bitloftlaw11_SlotsOnly.f k a0_0 l0_1 a1 a2 a3 a4 = some true

end Go.Proofs.Ytaomhenneenaaaa.XSlotsOnly
