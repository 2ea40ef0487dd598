-- Laid by a program of this session (wip/mkxprint.py, over the kit's print): Lean checks it.
import Derived.Test.YthhfigkbjacmeaaDoorXTopKernelx0
import Derived.Test.YthhfigkbjacmeaaDoorXTopKernelx1
import Derived.Test.YthhfigkbjacmeaaDoorXTopKernelx3
import Derived.Test.YthhfigkbjacmeaaDoorXTopKernelx4
import Derived.Test.YthhfigkbjacmeaaDoorXTopKernelx5
import Derived.Test.YthhfigkbjacmeaaDoorXTopKernelx6
import Derived.Test.YthhfigkbjacmeaaDoorXTopKernelx8
namespace Go.Proofs.YthhfigkbjacmeaaDoor.XTopKernel
open List (setIfInBounds_toArray set_cons_zero set_cons_succ)
open Go.RowKit Go.Proofs.YthhfigkbjacmeaaDoorW.PrintWords Go.Proofs.YthhfigkbjacmeaaDoorW.PrintLast Go.Proofs.YthhfigkbjacmeaaDoorW.PrintMore
attribute [local go_sem] max2_int min2_int max_two min_two max_three min_three max_four min_four   -- for this text's walks alone
set_option linter.unusedVariables false
set_option linter.unusedSimpArgs false

attribute [local go_sem high] eqA39
/-! ### bitlofttop_TopKernel: function 3 -/
mutual
def bitlofttop_TopKernel.j0 : Nat → List Int → Int → Int → Bool → Option (Bool)
 | 0, _, _, _, _ => none
 | k + 1, x0, x1, x2, x42 => if x42 = true then (some true) else ((bitlofttop_alive08.f k).bind fun t335 => (if t335 = true then ((octet_String.f k x0 2).bind fun bt336 => ((octet_New.f bt336.1).bind fun bt340 => ((octet_Read.f k bt340.1 bt340.2.1 2 60).bind fun bt346 => ((hashes_Start.f x1).bind fun bt352 => (if bt336.2 = 0 then (if bt340.2.2 = 0 then (if bt346.2.2.2 = 0 then (if bt352.2 = 0 then (bitlofttop_TopKernel.j1 k x0 x1 x2 bt352.1 (bt346.2.2.1 != (IntKind.u64.wrap ((x0.length : Int)))) bt346.1 bt346.2.1) else (bitlofttop_TopKernel.j1 k x0 x1 x2 bt352.1 true bt346.1 bt346.2.1)) else (bitlofttop_TopKernel.j1 k x0 x1 x2 bt352.1 true bt346.1 bt346.2.1)) else (bitlofttop_TopKernel.j1 k x0 x1 x2 bt352.1 true bt346.1 bt346.2.1)) else (bitlofttop_TopKernel.j1 k x0 x1 x2 bt352.1 true bt346.1 bt346.2.1)))))) else (some false)))
def bitlofttop_TopKernel.j1 : Nat → List Int → Int → Int → Int → Bool → List Int → Int → Option (Bool)
 | 0, _, _, _, _, _, _, _ => none
 | k + 1, x0, x1, x2, x13, x86, x346000, x346001 => if x86 = true then (some false) else (bitlofttop_TopKernel.l0 k x0 x1 x2 x13 ([] : List (List Int)) 0 0 x346000 x346001 0 0 0)
def bitlofttop_TopKernel.l0 : Nat → List Int → Int → Int → Int → List (List Int) → Int → Int → List Int → Int → Int → Int → Int → Option (Bool)
 | 0, _, _, _, _, _, _, _, _, _, _, _, _ => none
 | k + 1, x0, x1, x2, x13, x15, x16, x18, x346000, x346001, x355000, x355001, x355002 => if x18 < (x0.length : Int) then ((octet_Read.f k x346000 x346001 1 255).bind fun bt355 => (if bt355.2.2.2 = 0 then (if 0 ≤ x18 then (bitlofttop_TopKernel.j3 k x0 x1 x2 x13 x15 x16 x18 bt355.2.2.1 (bt355.2.2.1 != (IntKind.u64.wrap (rd x0 x18))) x355000 x355001 x355002 bt355.1 bt355.2.1) else (none)) else (bitlofttop_TopKernel.j3 k x0 x1 x2 x13 x15 x16 x18 bt355.2.2.1 true x355000 x355001 x355002 bt355.1 bt355.2.1))) else ((octet_Left.f x346000 x346001).bind fun bt381 => ((states_Count.f x16).bind fun bt383 => (if bt381.2 = 0 then (if bt381.1 = 0 then (if bt383.2.2.2 = 0 then (if (bt383.1 == x355000 && (bt383.2.1 == x355001 && (bt383.2.2.1 == x355002))) = true then ((bitlofttop_ends08.f k x0 x15 x1 x13).bind fun t388 => (bitlofttop_TopKernel.j6 k t388)) else (bitlofttop_TopKernel.j6 k false)) else (bitlofttop_TopKernel.j6 k false)) else (bitlofttop_TopKernel.j6 k false)) else (bitlofttop_TopKernel.j6 k false))))
def bitlofttop_TopKernel.j3 : Nat → List Int → Int → Int → Int → List (List Int) → Int → Int → Int → Bool → Int → Int → Int → List Int → Int → Option (Bool)
 | 0, _, _, _, _, _, _, _, _, _, _, _, _, _, _ => none
 | k + 1, x0, x1, x2, x13, x15, x16, x18, x20, x110, x355000, x355001, x355002, x362000, x362001 => if x110 = true then (some false) else ((hashes_Step.f k x13 ((x20) % 256)).bind fun t363 => ((some (([(([(x20) % 256] : List Int))] : List (List Int)) : List (List Int))).bind fun y367 => (if x15.length + y367.length < 5864062014805 then (bitlofttop_TopKernel.l1 k x0 x1 x2 t363 (x15 ++ y367) x16 x18 x20 7 x362000 x362001 x355000 x355001 x355002) else (none))))
def bitlofttop_TopKernel.l1 : Nat → List Int → Int → Int → Int → List (List Int) → Int → Int → Int → Int → List Int → Int → Int → Int → Int → Option (Bool)
 | 0, _, _, _, _, _, _, _, _, _, _, _, _, _, _ => none
 | k + 1, x0, x1, x2, x13, x15, x16, x18, x20, x22, x346000, x346001, x355000, x355001, x355002 => if x22 ≥ 0 then (if 0 ≤ x22 then ((states_Next.f k x16 ((Go.bits .and .u64 (shr .u64 x20 x22) 1) % 256)).bind fun bt373 => ((counts_Next.f x355000 x355001 x355002 ((Go.bits .and .u64 (shr .u64 x20 x22) 1) % 256)).bind fun bt375 => (if bt373.2 = 0 then (if bt375.2.2.2 = 0 then ((bitlofttop_led08.f k x355000 x355001 x355002 ((Go.bits .and .u64 (shr .u64 x20 x22) 1) % 256) x2).bind fun t380 => (bitlofttop_TopKernel.j5 k x0 x1 x2 x13 x15 x18 x20 x22 bt373.1 (!t380) x346000 x346001 bt375.1 bt375.2.1 bt375.2.2.1)) else (bitlofttop_TopKernel.j5 k x0 x1 x2 x13 x15 x18 x20 x22 bt373.1 true x346000 x346001 bt375.1 bt375.2.1 bt375.2.2.1)) else (bitlofttop_TopKernel.j5 k x0 x1 x2 x13 x15 x18 x20 x22 bt373.1 true x346000 x346001 bt375.1 bt375.2.1 bt375.2.2.1)))) else (none)) else (bitlofttop_TopKernel.l0 k x0 x1 x2 x13 x15 x16 (wrap64 (x18 + 1)) x346000 x346001 x355000 x355001 x355002)
def bitlofttop_TopKernel.j5 : Nat → List Int → Int → Int → Int → List (List Int) → Int → Int → Int → Int → Bool → List Int → Int → Int → Int → Int → Option (Bool)
 | 0, _, _, _, _, _, _, _, _, _, _, _, _, _, _, _ => none
 | k + 1, x0, x1, x2, x13, x15, x18, x20, x22, x24, x155, x346000, x346001, x380000, x380001, x380002 => if x155 = true then (some false) else (bitlofttop_TopKernel.l1 k x0 x1 x2 x13 x15 x24 x18 x20 (wrap64 (x22 - 1)) x346000 x346001 x380000 x380001 x380002)
def bitlofttop_TopKernel.j6 : Nat → Bool → Option (Bool)
 | 0, _ => none
 | k + 1, x6 => some x6
end
def bitlofttop_TopKernel.f (k : Nat) (l0 : List Int) (a1 : Int) (a2 : Int) : Option (Bool) := if (l0.length : Int) > 60 then (bitlofttop_TopKernel.j0 k l0 a1 a2 true) else (if a1 < 0 then (bitlofttop_TopKernel.j0 k l0 a1 a2 true) else (bitlofttop_TopKernel.j0 k l0 a1 a2 (decide (a1 > 7))))
theorem bitlofttop_TopKernel.mono_l : ∀ k, (∀ y0 y1 y2 y3, LeO (bitlofttop_TopKernel.j0 k y0 y1 y2 y3) (bitlofttop_TopKernel.j0 (k + 1) y0 y1 y2 y3)) ∧ (∀ y0 y1 y2 y3 y4 y5 y6, LeO (bitlofttop_TopKernel.j1 k y0 y1 y2 y3 y4 y5 y6) (bitlofttop_TopKernel.j1 (k + 1) y0 y1 y2 y3 y4 y5 y6)) ∧ (∀ y0 y1 y2 y3 y4 y5 y6 y7 y8 y9 y10 y11, LeO (bitlofttop_TopKernel.l0 k y0 y1 y2 y3 y4 y5 y6 y7 y8 y9 y10 y11) (bitlofttop_TopKernel.l0 (k + 1) y0 y1 y2 y3 y4 y5 y6 y7 y8 y9 y10 y11)) ∧ (∀ y0 y1 y2 y3 y4 y5 y6 y7 y8 y9 y10 y11 y12 y13, LeO (bitlofttop_TopKernel.j3 k y0 y1 y2 y3 y4 y5 y6 y7 y8 y9 y10 y11 y12 y13) (bitlofttop_TopKernel.j3 (k + 1) y0 y1 y2 y3 y4 y5 y6 y7 y8 y9 y10 y11 y12 y13)) ∧ (∀ y0 y1 y2 y3 y4 y5 y6 y7 y8 y9 y10 y11 y12 y13, LeO (bitlofttop_TopKernel.l1 k y0 y1 y2 y3 y4 y5 y6 y7 y8 y9 y10 y11 y12 y13) (bitlofttop_TopKernel.l1 (k + 1) y0 y1 y2 y3 y4 y5 y6 y7 y8 y9 y10 y11 y12 y13)) ∧ (∀ y0 y1 y2 y3 y4 y5 y6 y7 y8 y9 y10 y11 y12 y13 y14, LeO (bitlofttop_TopKernel.j5 k y0 y1 y2 y3 y4 y5 y6 y7 y8 y9 y10 y11 y12 y13 y14) (bitlofttop_TopKernel.j5 (k + 1) y0 y1 y2 y3 y4 y5 y6 y7 y8 y9 y10 y11 y12 y13 y14)) ∧ (∀ y0, LeO (bitlofttop_TopKernel.j6 k y0) (bitlofttop_TopKernel.j6 (k + 1) y0))
 | 0 => ⟨fun _ _ _ _ r h => by simp [bitlofttop_TopKernel.j0] at h, fun _ _ _ _ _ _ _ r h => by simp [bitlofttop_TopKernel.j1] at h, fun _ _ _ _ _ _ _ _ _ _ _ _ r h => by simp [bitlofttop_TopKernel.l0] at h, fun _ _ _ _ _ _ _ _ _ _ _ _ _ _ r h => by simp [bitlofttop_TopKernel.j3] at h, fun _ _ _ _ _ _ _ _ _ _ _ _ _ _ r h => by simp [bitlofttop_TopKernel.l1] at h, fun _ _ _ _ _ _ _ _ _ _ _ _ _ _ _ r h => by simp [bitlofttop_TopKernel.j5] at h, fun _ r h => by simp [bitlofttop_TopKernel.j6] at h⟩
 | k + 1 => by
  obtain ⟨ih0, ih1, ih2, ih3, ih4, ih5, ih6⟩ := bitlofttop_TopKernel.mono_l k; refine ⟨?_, ?_, ?_, ?_, ?_, ?_, ?_⟩
  ·
   intro y0 y1 y2 y3
   unfold bitlofttop_TopKernel.j0
   repeat' first
   | (with_reducible exact ih0 _ _ _ _)
   | (with_reducible exact ih1 _ _ _ _ _ _ _)
   | (with_reducible exact ih2 _ _ _ _ _ _ _ _ _ _ _ _)
   | (with_reducible exact ih3 _ _ _ _ _ _ _ _ _ _ _ _ _ _)
   | (with_reducible exact ih4 _ _ _ _ _ _ _ _ _ _ _ _ _ _)
   | (with_reducible exact ih5 _ _ _ _ _ _ _ _ _ _ _ _ _ _ _)
   | (with_reducible exact ih6 _)
   | (with_reducible exact bitlofttop_alive08.mono _)
   | (with_reducible exact bitlofttop_ends08.mono _ _ _ _ _)
   | (with_reducible exact bitlofttop_led08.mono _ _ _ _ _ _)
   | (with_reducible exact hashes_Step.mono _ _ _)
   | (with_reducible exact octet_Read.mono _ _ _ _ _)
   | (with_reducible exact octet_String.mono _ _ _)
   | (with_reducible exact states_Next.mono _ _ _)
   | (with_reducible exact LeO.refl _)
   | (with_reducible exact LeO.none _)
   | (with_reducible refine LeO.ite ?_ ?_)
   | (with_reducible refine LeO.bind ?_ (fun _ => ?_))
   | exact ih0 _ _ _ _
   | exact ih1 _ _ _ _ _ _ _
   | exact ih2 _ _ _ _ _ _ _ _ _ _ _ _
   | exact ih3 _ _ _ _ _ _ _ _ _ _ _ _ _ _
   | exact ih4 _ _ _ _ _ _ _ _ _ _ _ _ _ _
   | exact ih5 _ _ _ _ _ _ _ _ _ _ _ _ _ _ _
   | exact ih6 _
   | exact bitlofttop_alive08.mono _
   | exact bitlofttop_ends08.mono _ _ _ _ _
   | exact bitlofttop_led08.mono _ _ _ _ _ _
   | exact hashes_Step.mono _ _ _
   | exact octet_Read.mono _ _ _ _ _
   | exact octet_String.mono _ _ _
   | exact states_Next.mono _ _ _
   | exact LeO.none _
   | refine LeO.ite ?_ ?_
   | refine LeO.bind ?_ (fun _ => ?_)
  ·
   intro y0 y1 y2 y3 y4 y5 y6
   unfold bitlofttop_TopKernel.j1
   repeat' first
   | (with_reducible exact ih0 _ _ _ _)
   | (with_reducible exact ih1 _ _ _ _ _ _ _)
   | (with_reducible exact ih2 _ _ _ _ _ _ _ _ _ _ _ _)
   | (with_reducible exact ih3 _ _ _ _ _ _ _ _ _ _ _ _ _ _)
   | (with_reducible exact ih4 _ _ _ _ _ _ _ _ _ _ _ _ _ _)
   | (with_reducible exact ih5 _ _ _ _ _ _ _ _ _ _ _ _ _ _ _)
   | (with_reducible exact ih6 _)
   | (with_reducible exact bitlofttop_alive08.mono _)
   | (with_reducible exact bitlofttop_ends08.mono _ _ _ _ _)
   | (with_reducible exact bitlofttop_led08.mono _ _ _ _ _ _)
   | (with_reducible exact hashes_Step.mono _ _ _)
   | (with_reducible exact octet_Read.mono _ _ _ _ _)
   | (with_reducible exact octet_String.mono _ _ _)
   | (with_reducible exact states_Next.mono _ _ _)
   | (with_reducible exact LeO.refl _)
   | (with_reducible exact LeO.none _)
   | (with_reducible refine LeO.ite ?_ ?_)
   | (with_reducible refine LeO.bind ?_ (fun _ => ?_))
   | exact ih0 _ _ _ _
   | exact ih1 _ _ _ _ _ _ _
   | exact ih2 _ _ _ _ _ _ _ _ _ _ _ _
   | exact ih3 _ _ _ _ _ _ _ _ _ _ _ _ _ _
   | exact ih4 _ _ _ _ _ _ _ _ _ _ _ _ _ _
   | exact ih5 _ _ _ _ _ _ _ _ _ _ _ _ _ _ _
   | exact ih6 _
   | exact bitlofttop_alive08.mono _
   | exact bitlofttop_ends08.mono _ _ _ _ _
   | exact bitlofttop_led08.mono _ _ _ _ _ _
   | exact hashes_Step.mono _ _ _
   | exact octet_Read.mono _ _ _ _ _
   | exact octet_String.mono _ _ _
   | exact states_Next.mono _ _ _
   | exact LeO.none _
   | refine LeO.ite ?_ ?_
   | refine LeO.bind ?_ (fun _ => ?_)
  ·
   intro y0 y1 y2 y3 y4 y5 y6 y7 y8 y9 y10 y11
   unfold bitlofttop_TopKernel.l0
   repeat' first
   | (with_reducible exact ih0 _ _ _ _)
   | (with_reducible exact ih1 _ _ _ _ _ _ _)
   | (with_reducible exact ih2 _ _ _ _ _ _ _ _ _ _ _ _)
   | (with_reducible exact ih3 _ _ _ _ _ _ _ _ _ _ _ _ _ _)
   | (with_reducible exact ih4 _ _ _ _ _ _ _ _ _ _ _ _ _ _)
   | (with_reducible exact ih5 _ _ _ _ _ _ _ _ _ _ _ _ _ _ _)
   | (with_reducible exact ih6 _)
   | (with_reducible exact bitlofttop_alive08.mono _)
   | (with_reducible exact bitlofttop_ends08.mono _ _ _ _ _)
   | (with_reducible exact bitlofttop_led08.mono _ _ _ _ _ _)
   | (with_reducible exact hashes_Step.mono _ _ _)
   | (with_reducible exact octet_Read.mono _ _ _ _ _)
   | (with_reducible exact octet_String.mono _ _ _)
   | (with_reducible exact states_Next.mono _ _ _)
   | (with_reducible exact LeO.refl _)
   | (with_reducible exact LeO.none _)
   | (with_reducible refine LeO.ite ?_ ?_)
   | (with_reducible refine LeO.bind ?_ (fun _ => ?_))
   | exact ih0 _ _ _ _
   | exact ih1 _ _ _ _ _ _ _
   | exact ih2 _ _ _ _ _ _ _ _ _ _ _ _
   | exact ih3 _ _ _ _ _ _ _ _ _ _ _ _ _ _
   | exact ih4 _ _ _ _ _ _ _ _ _ _ _ _ _ _
   | exact ih5 _ _ _ _ _ _ _ _ _ _ _ _ _ _ _
   | exact ih6 _
   | exact bitlofttop_alive08.mono _
   | exact bitlofttop_ends08.mono _ _ _ _ _
   | exact bitlofttop_led08.mono _ _ _ _ _ _
   | exact hashes_Step.mono _ _ _
   | exact octet_Read.mono _ _ _ _ _
   | exact octet_String.mono _ _ _
   | exact states_Next.mono _ _ _
   | exact LeO.none _
   | refine LeO.ite ?_ ?_
   | refine LeO.bind ?_ (fun _ => ?_)
  ·
   intro y0 y1 y2 y3 y4 y5 y6 y7 y8 y9 y10 y11 y12 y13
   unfold bitlofttop_TopKernel.j3
   repeat' first
   | (with_reducible exact ih0 _ _ _ _)
   | (with_reducible exact ih1 _ _ _ _ _ _ _)
   | (with_reducible exact ih2 _ _ _ _ _ _ _ _ _ _ _ _)
   | (with_reducible exact ih3 _ _ _ _ _ _ _ _ _ _ _ _ _ _)
   | (with_reducible exact ih4 _ _ _ _ _ _ _ _ _ _ _ _ _ _)
   | (with_reducible exact ih5 _ _ _ _ _ _ _ _ _ _ _ _ _ _ _)
   | (with_reducible exact ih6 _)
   | (with_reducible exact bitlofttop_alive08.mono _)
   | (with_reducible exact bitlofttop_ends08.mono _ _ _ _ _)
   | (with_reducible exact bitlofttop_led08.mono _ _ _ _ _ _)
   | (with_reducible exact hashes_Step.mono _ _ _)
   | (with_reducible exact octet_Read.mono _ _ _ _ _)
   | (with_reducible exact octet_String.mono _ _ _)
   | (with_reducible exact states_Next.mono _ _ _)
   | (with_reducible exact LeO.refl _)
   | (with_reducible exact LeO.none _)
   | (with_reducible refine LeO.ite ?_ ?_)
   | (with_reducible refine LeO.bind ?_ (fun _ => ?_))
   | exact ih0 _ _ _ _
   | exact ih1 _ _ _ _ _ _ _
   | exact ih2 _ _ _ _ _ _ _ _ _ _ _ _
   | exact ih3 _ _ _ _ _ _ _ _ _ _ _ _ _ _
   | exact ih4 _ _ _ _ _ _ _ _ _ _ _ _ _ _
   | exact ih5 _ _ _ _ _ _ _ _ _ _ _ _ _ _ _
   | exact ih6 _
   | exact bitlofttop_alive08.mono _
   | exact bitlofttop_ends08.mono _ _ _ _ _
   | exact bitlofttop_led08.mono _ _ _ _ _ _
   | exact hashes_Step.mono _ _ _
   | exact octet_Read.mono _ _ _ _ _
   | exact octet_String.mono _ _ _
   | exact states_Next.mono _ _ _
   | exact LeO.none _
   | refine LeO.ite ?_ ?_
   | refine LeO.bind ?_ (fun _ => ?_)
  ·
   intro y0 y1 y2 y3 y4 y5 y6 y7 y8 y9 y10 y11 y12 y13
   unfold bitlofttop_TopKernel.l1
   repeat' first
   | (with_reducible exact ih0 _ _ _ _)
   | (with_reducible exact ih1 _ _ _ _ _ _ _)
   | (with_reducible exact ih2 _ _ _ _ _ _ _ _ _ _ _ _)
   | (with_reducible exact ih3 _ _ _ _ _ _ _ _ _ _ _ _ _ _)
   | (with_reducible exact ih4 _ _ _ _ _ _ _ _ _ _ _ _ _ _)
   | (with_reducible exact ih5 _ _ _ _ _ _ _ _ _ _ _ _ _ _ _)
   | (with_reducible exact ih6 _)
   | (with_reducible exact bitlofttop_alive08.mono _)
   | (with_reducible exact bitlofttop_ends08.mono _ _ _ _ _)
   | (with_reducible exact bitlofttop_led08.mono _ _ _ _ _ _)
   | (with_reducible exact hashes_Step.mono _ _ _)
   | (with_reducible exact octet_Read.mono _ _ _ _ _)
   | (with_reducible exact octet_String.mono _ _ _)
   | (with_reducible exact states_Next.mono _ _ _)
   | (with_reducible exact LeO.refl _)
   | (with_reducible exact LeO.none _)
   | (with_reducible refine LeO.ite ?_ ?_)
   | (with_reducible refine LeO.bind ?_ (fun _ => ?_))
   | exact ih0 _ _ _ _
   | exact ih1 _ _ _ _ _ _ _
   | exact ih2 _ _ _ _ _ _ _ _ _ _ _ _
   | exact ih3 _ _ _ _ _ _ _ _ _ _ _ _ _ _
   | exact ih4 _ _ _ _ _ _ _ _ _ _ _ _ _ _
   | exact ih5 _ _ _ _ _ _ _ _ _ _ _ _ _ _ _
   | exact ih6 _
   | exact bitlofttop_alive08.mono _
   | exact bitlofttop_ends08.mono _ _ _ _ _
   | exact bitlofttop_led08.mono _ _ _ _ _ _
   | exact hashes_Step.mono _ _ _
   | exact octet_Read.mono _ _ _ _ _
   | exact octet_String.mono _ _ _
   | exact states_Next.mono _ _ _
   | exact LeO.none _
   | refine LeO.ite ?_ ?_
   | refine LeO.bind ?_ (fun _ => ?_)
  ·
   intro y0 y1 y2 y3 y4 y5 y6 y7 y8 y9 y10 y11 y12 y13 y14
   unfold bitlofttop_TopKernel.j5
   repeat' first
   | (with_reducible exact ih0 _ _ _ _)
   | (with_reducible exact ih1 _ _ _ _ _ _ _)
   | (with_reducible exact ih2 _ _ _ _ _ _ _ _ _ _ _ _)
   | (with_reducible exact ih3 _ _ _ _ _ _ _ _ _ _ _ _ _ _)
   | (with_reducible exact ih4 _ _ _ _ _ _ _ _ _ _ _ _ _ _)
   | (with_reducible exact ih5 _ _ _ _ _ _ _ _ _ _ _ _ _ _ _)
   | (with_reducible exact ih6 _)
   | (with_reducible exact bitlofttop_alive08.mono _)
   | (with_reducible exact bitlofttop_ends08.mono _ _ _ _ _)
   | (with_reducible exact bitlofttop_led08.mono _ _ _ _ _ _)
   | (with_reducible exact hashes_Step.mono _ _ _)
   | (with_reducible exact octet_Read.mono _ _ _ _ _)
   | (with_reducible exact octet_String.mono _ _ _)
   | (with_reducible exact states_Next.mono _ _ _)
   | (with_reducible exact LeO.refl _)
   | (with_reducible exact LeO.none _)
   | (with_reducible refine LeO.ite ?_ ?_)
   | (with_reducible refine LeO.bind ?_ (fun _ => ?_))
   | exact ih0 _ _ _ _
   | exact ih1 _ _ _ _ _ _ _
   | exact ih2 _ _ _ _ _ _ _ _ _ _ _ _
   | exact ih3 _ _ _ _ _ _ _ _ _ _ _ _ _ _
   | exact ih4 _ _ _ _ _ _ _ _ _ _ _ _ _ _
   | exact ih5 _ _ _ _ _ _ _ _ _ _ _ _ _ _ _
   | exact ih6 _
   | exact bitlofttop_alive08.mono _
   | exact bitlofttop_ends08.mono _ _ _ _ _
   | exact bitlofttop_led08.mono _ _ _ _ _ _
   | exact hashes_Step.mono _ _ _
   | exact octet_Read.mono _ _ _ _ _
   | exact octet_String.mono _ _ _
   | exact states_Next.mono _ _ _
   | exact LeO.none _
   | refine LeO.ite ?_ ?_
   | refine LeO.bind ?_ (fun _ => ?_)
  ·
   intro y0
   unfold bitlofttop_TopKernel.j6
   repeat' first
   | (with_reducible exact ih0 _ _ _ _)
   | (with_reducible exact ih1 _ _ _ _ _ _ _)
   | (with_reducible exact ih2 _ _ _ _ _ _ _ _ _ _ _ _)
   | (with_reducible exact ih3 _ _ _ _ _ _ _ _ _ _ _ _ _ _)
   | (with_reducible exact ih4 _ _ _ _ _ _ _ _ _ _ _ _ _ _)
   | (with_reducible exact ih5 _ _ _ _ _ _ _ _ _ _ _ _ _ _ _)
   | (with_reducible exact ih6 _)
   | (with_reducible exact bitlofttop_alive08.mono _)
   | (with_reducible exact bitlofttop_ends08.mono _ _ _ _ _)
   | (with_reducible exact bitlofttop_led08.mono _ _ _ _ _ _)
   | (with_reducible exact hashes_Step.mono _ _ _)
   | (with_reducible exact octet_Read.mono _ _ _ _ _)
   | (with_reducible exact octet_String.mono _ _ _)
   | (with_reducible exact states_Next.mono _ _ _)
   | (with_reducible exact LeO.refl _)
   | (with_reducible exact LeO.none _)
   | (with_reducible refine LeO.ite ?_ ?_)
   | (with_reducible refine LeO.bind ?_ (fun _ => ?_))
   | exact ih0 _ _ _ _
   | exact ih1 _ _ _ _ _ _ _
   | exact ih2 _ _ _ _ _ _ _ _ _ _ _ _
   | exact ih3 _ _ _ _ _ _ _ _ _ _ _ _ _ _
   | exact ih4 _ _ _ _ _ _ _ _ _ _ _ _ _ _
   | exact ih5 _ _ _ _ _ _ _ _ _ _ _ _ _ _ _
   | exact ih6 _
   | exact bitlofttop_alive08.mono _
   | exact bitlofttop_ends08.mono _ _ _ _ _
   | exact bitlofttop_led08.mono _ _ _ _ _ _
   | exact hashes_Step.mono _ _ _
   | exact octet_Read.mono _ _ _ _ _
   | exact octet_String.mono _ _ _
   | exact states_Next.mono _ _ _
   | exact LeO.none _
   | refine LeO.ite ?_ ?_
   | refine LeO.bind ?_ (fun _ => ?_)
theorem bitlofttop_TopKernel.mono : ∀ a0 a1 a2 k, LeO (bitlofttop_TopKernel.f k a0 a1 a2) (bitlofttop_TopKernel.f (k + 1) a0 a1 a2) := by
 intro a0 a1 a2 k; obtain ⟨ih0, ih1, ih2, ih3, ih4, ih5, ih6⟩ := bitlofttop_TopKernel.mono_l k
 unfold bitlofttop_TopKernel.f
 repeat' first
   | (with_reducible exact ih0 _ _ _ _)
   | (with_reducible exact ih1 _ _ _ _ _ _ _)
   | (with_reducible exact ih2 _ _ _ _ _ _ _ _ _ _ _ _)
   | (with_reducible exact ih3 _ _ _ _ _ _ _ _ _ _ _ _ _ _)
   | (with_reducible exact ih4 _ _ _ _ _ _ _ _ _ _ _ _ _ _)
   | (with_reducible exact ih5 _ _ _ _ _ _ _ _ _ _ _ _ _ _ _)
   | (with_reducible exact ih6 _)
   | (with_reducible exact bitlofttop_alive08.mono _)
   | (with_reducible exact bitlofttop_ends08.mono _ _ _ _ _)
   | (with_reducible exact bitlofttop_led08.mono _ _ _ _ _ _)
   | (with_reducible exact hashes_Step.mono _ _ _)
   | (with_reducible exact octet_Read.mono _ _ _ _ _)
   | (with_reducible exact octet_String.mono _ _ _)
   | (with_reducible exact states_Next.mono _ _ _)
   | (with_reducible exact LeO.refl _)
   | (with_reducible exact LeO.none _)
   | (with_reducible refine LeO.ite ?_ ?_)
   | (with_reducible refine LeO.bind ?_ (fun _ => ?_))
   | exact ih0 _ _ _ _
   | exact ih1 _ _ _ _ _ _ _
   | exact ih2 _ _ _ _ _ _ _ _ _ _ _ _
   | exact ih3 _ _ _ _ _ _ _ _ _ _ _ _ _ _
   | exact ih4 _ _ _ _ _ _ _ _ _ _ _ _ _ _
   | exact ih5 _ _ _ _ _ _ _ _ _ _ _ _ _ _ _
   | exact ih6 _
   | exact bitlofttop_alive08.mono _
   | exact bitlofttop_ends08.mono _ _ _ _ _
   | exact bitlofttop_led08.mono _ _ _ _ _ _
   | exact hashes_Step.mono _ _ _
   | exact octet_Read.mono _ _ _ _ _
   | exact octet_String.mono _ _ _
   | exact states_Next.mono _ _ _
   | exact LeO.none _
   | refine LeO.ite ?_ ?_
   | refine LeO.bind ?_ (fun _ => ?_)
def bitlofttop_TopKernel.T19 : Bool × List (List Nat × List Nat) := (true, [([], []), ([], []), ([], []), ([2], [2]), ([1, 3], [1, 3]), ([], []), ([], []), ([6], [6]), ([7], [7]), ([8], [8]), ([5, 9, 4], [5, 9]), ([0, 10, 0], [0]), ([4, 11, 0, 1, 2, 3, 4, 11], [1, 4]), ([10, 12, 0, 1, 2, 3, 4, 5, 6, 7, 8, 9, 10, 11, 12], [5, 10])])
def bitlofttop_TopKernel.B19 : List Nat := [0, 0, 0, 4, 14, 0, 0, 64, 192, 448, 1022, 2047, 4095, 8191]
theorem bitlofttop_TopKernel.tab19 : rtab .any (opsOf Tryd.f3 19) = bitlofttop_TopKernel.T19 := by kernel_rfl
theorem bitlofttop_TopKernel.bits19 : waitsOk bitlofttop_TopKernel.T19.2 bitlofttop_TopKernel.B19 = true := by kernel_rfl
set_option maxHeartbeats 8000000 in
set_option maxRecDepth 100000 in
theorem bitlofttop_TopKernel.calls (k : Nat) (A0 : Option Addr) (c0 : Nat) (l0 : List Int) (a1 : Int) (a2 : Int) (r : Bool) (w : World) (hr0 : Kd.C (Kd.int .u8) w A0 l0.length l0) (hc0 : l0.length ≤ c0) (hT : Tab_ w) (hr_ : r = true) (h : bitlofttop_TopKernel.f k l0 a1 a2 = some r) :
  Calls Tryd.prog 3 #[.slice A0 l0.length c0, .int .i64 a1, .int .i32 a2] w fun e w' => e = .returned (.bool r) ∧ Below w.heap.size w w' := by
 have hu28 := Tryd.underlying28; have hu39 := Tryd.underlying39; have HRT_ := Aside0.mk hr_; clear hr_; have HR0 := Aside0.mk hr0; have HC0 := Aside0.mk hc0; clear hr0 hc0; have HB := Aside0.mk (Below.refl w.heap.size w); have H : (if (l0.length : Int) > 60 then (bitlofttop_TopKernel.j0 k l0 a1 a2 true) else (if a1 < 0 then (bitlofttop_TopKernel.j0 k l0 a1 a2 true) else (bitlofttop_TopKernel.j0 k l0 a1 a2 (decide (a1 > 7))))) = some r := h; clear h; have HC4 := Aside0.mk H; clear H
 go_enter Tryd.func3, Tryd.ntmps3
 go_upto_region 1 with (fail)
 (with_reducible first | refine then_id_ ?_ | (refine wp_tail_ ?_; intro Kt_ hKt_))
 go_cut [42] (fun v42 wc => ∃ (kq : Nat) (x42_3 : Bool), v42 = .bool x42_3 ∧ Aside0 (bitlofttop_TopKernel.j0 kq l0 a1 a2 x42_3 = some r) ∧ Aside0 (kq ≤ k) ∧ Aside0 (Below w.heap.size w wc))
 case first =>
  have H := HC4.out; clear HC4
  by_cases c5 : (l0.length : Int) > 60
  ·
   rw [if_pos c5] at H; have c5b0 : decide (60 < (l0.length : Int)) = true := decide_eq_true c5; have c5b1 : decide (60 < l0.length) = true := decide_eq_true (by omega); clear c5; (first | rw [c5b0] | (simp only [i64_w, i32_w]; rw [c5b0]) | skip); have H' := Aside0.mk H; clear H
   go_wp2
   (first | go_meet | (refine Met.intro ?_; go_step; (repeat apply Exists.intro); refine ⟨?rel, ?eqf_⟩; case eqf_ => ((simp only [c5b0]) <;> rfl)))
   case rel => exact ⟨_, (true), (by first | rfl | (simp; done) | (simp [*]; done)), H', ⟨by first | omega | exact Nat.le_refl _⟩, ⟨pH_ HB.out⟩⟩
  ·
   rw [if_neg c5] at H; have c5b0 : decide (60 < (l0.length : Int)) = false := decide_eq_false c5; have c5b1 : decide (60 < l0.length) = false := decide_eq_false (by omega); clear c5; (first | rw [c5b0] | (simp only [i64_w, i32_w]; rw [c5b0]) | skip)
   by_cases c6 : a1 < 0
   ·
    rw [if_pos c6] at H; have c6b0 : decide (a1 < 0) = true := decide_eq_true c6; clear c6; have H' := Aside0.mk H; clear H
    go_wp2
    (first | go_meet | (refine Met.intro ?_; go_step; (repeat apply Exists.intro); refine ⟨?rel, ?eqf_⟩; case eqf_ => ((simp only [c6b0, c5b0]) <;> rfl)))
    case rel => exact ⟨_, (true), (by first | rfl | (simp; done) | (simp [*]; done)), H', ⟨by first | omega | exact Nat.le_refl _⟩, ⟨pH_ HB.out⟩⟩
   ·
    rw [if_neg c6] at H; have c6b0 : decide (a1 < 0) = false := decide_eq_false c6; clear c6; have H' := Aside0.mk H; clear H
    go_wp2
    (first | go_meet | (refine Met.intro ?_; go_step; (repeat apply Exists.intro); refine ⟨?rel, ?eqf_⟩; case eqf_ => ((simp only [c6b0, c5b0]) <;> rfl)))
    case rel => exact ⟨_, (decide (a1 > 7)), (by first | rfl | (simp; done) | (simp [*]; done)), H', ⟨by first | omega | exact Nat.le_refl _⟩, ⟨pH_ HB.out⟩⟩
 case rest =>
  (try (refine hKt_ _ _ ?_; clear hKt_; clear Kt_)); clear HC4
  try clear p2
  try clear c3
  try clear c5
  try clear c5b0
  try clear c5b1
  try clear c6
  try clear c6b0
  obtain ⟨kq, x42_3, rfl, HA, HJ3, HB⟩ := hcut
  cases kq with
  | zero => exact absurd HA.out (by simp [bitlofttop_TopKernel.j0])
  | succ kj3 =>
   have H := HA.out; clear HA; simp only [bitlofttop_TopKernel.j0] at H
   by_cases c7 : x42_3 = true
   ·
    subst c7
    have H1 : (some true) = some r := by rw [if_pos rfl] at H; exact H
    clear H; have H := H1; clear H1; obtain rfl := Option.some.inj H
    go_wp2
    go_ret
    exact ⟨by first | rfl | (simp [errW_none, errW_some] <;> rfl) | (simp [*, errW_none, errW_some] <;> rfl), pH_ HB.out⟩
   ·
    replace c7 := Bool.eq_false_iff.mpr c7
    subst c7
    have H1 : ((bitlofttop_alive08.f kj3).bind fun t335 => (if t335 = true then ((octet_String.f kj3 l0 2).bind fun bt336 => ((octet_New.f bt336.1).bind fun bt340 => ((octet_Read.f kj3 bt340.1 bt340.2.1 2 60).bind fun bt346 => ((hashes_Start.f a1).bind fun bt352 => (if bt336.2 = 0 then (if bt340.2.2 = 0 then (if bt346.2.2.2 = 0 then (if bt352.2 = 0 then (bitlofttop_TopKernel.j1 kj3 l0 a1 a2 bt352.1 (bt346.2.2.1 != (IntKind.u64.wrap ((l0.length : Int)))) bt346.1 bt346.2.1) else (bitlofttop_TopKernel.j1 kj3 l0 a1 a2 bt352.1 true bt346.1 bt346.2.1)) else (bitlofttop_TopKernel.j1 kj3 l0 a1 a2 bt352.1 true bt346.1 bt346.2.1)) else (bitlofttop_TopKernel.j1 kj3 l0 a1 a2 bt352.1 true bt346.1 bt346.2.1)) else (bitlofttop_TopKernel.j1 kj3 l0 a1 a2 bt352.1 true bt346.1 bt346.2.1)))))) else (some false))) = some r := by rw [if_neg (show ¬ (false = true) by decide)] at H; exact H
    clear H; have H := H1; clear H1; replace H := Option.bind_eq_some_iff.mp H; obtain ⟨t335, A80, H⟩ := H; replace H : (if t335 = true then ((octet_String.f kj3 l0 2).bind fun bt336 => ((octet_New.f bt336.1).bind fun bt340 => ((octet_Read.f kj3 bt340.1 bt340.2.1 2 60).bind fun bt346 => ((hashes_Start.f a1).bind fun bt352 => (if bt336.2 = 0 then (if bt340.2.2 = 0 then (if bt346.2.2.2 = 0 then (if bt352.2 = 0 then (bitlofttop_TopKernel.j1 kj3 l0 a1 a2 bt352.1 (bt346.2.2.1 != (IntKind.u64.wrap ((l0.length : Int)))) bt346.1 bt346.2.1) else (bitlofttop_TopKernel.j1 kj3 l0 a1 a2 bt352.1 true bt346.1 bt346.2.1)) else (bitlofttop_TopKernel.j1 kj3 l0 a1 a2 bt352.1 true bt346.1 bt346.2.1)) else (bitlofttop_TopKernel.j1 kj3 l0 a1 a2 bt352.1 true bt346.1 bt346.2.1)) else (bitlofttop_TopKernel.j1 kj3 l0 a1 a2 bt352.1 true bt346.1 bt346.2.1)))))) else (some false)) = some r := H; have A8 := Aside0.mk A80; clear A80
    by_cases c9 : t335 = true
    ·
     subst c9
     have H1 : ((octet_String.f kj3 l0 2).bind fun bt336 => ((octet_New.f bt336.1).bind fun bt340 => ((octet_Read.f kj3 bt340.1 bt340.2.1 2 60).bind fun bt346 => ((hashes_Start.f a1).bind fun bt352 => (if bt336.2 = 0 then (if bt340.2.2 = 0 then (if bt346.2.2.2 = 0 then (if bt352.2 = 0 then (bitlofttop_TopKernel.j1 kj3 l0 a1 a2 bt352.1 (bt346.2.2.1 != (IntKind.u64.wrap ((l0.length : Int)))) bt346.1 bt346.2.1) else (bitlofttop_TopKernel.j1 kj3 l0 a1 a2 bt352.1 true bt346.1 bt346.2.1)) else (bitlofttop_TopKernel.j1 kj3 l0 a1 a2 bt352.1 true bt346.1 bt346.2.1)) else (bitlofttop_TopKernel.j1 kj3 l0 a1 a2 bt352.1 true bt346.1 bt346.2.1)) else (bitlofttop_TopKernel.j1 kj3 l0 a1 a2 bt352.1 true bt346.1 bt346.2.1)))))) = some r := by rw [if_pos rfl] at H; exact H
     clear H; have H := H1; clear H1; replace H := Option.bind_eq_some_iff.mp H; obtain ⟨⟨t336, t337⟩, A100, H⟩ := H; replace H : ((octet_New.f t336).bind fun bt340 => ((octet_Read.f kj3 bt340.1 bt340.2.1 2 60).bind fun bt346 => ((hashes_Start.f a1).bind fun bt352 => (if t337 = 0 then (if bt340.2.2 = 0 then (if bt346.2.2.2 = 0 then (if bt352.2 = 0 then (bitlofttop_TopKernel.j1 kj3 l0 a1 a2 bt352.1 (bt346.2.2.1 != (IntKind.u64.wrap ((l0.length : Int)))) bt346.1 bt346.2.1) else (bitlofttop_TopKernel.j1 kj3 l0 a1 a2 bt352.1 true bt346.1 bt346.2.1)) else (bitlofttop_TopKernel.j1 kj3 l0 a1 a2 bt352.1 true bt346.1 bt346.2.1)) else (bitlofttop_TopKernel.j1 kj3 l0 a1 a2 bt352.1 true bt346.1 bt346.2.1)) else (bitlofttop_TopKernel.j1 kj3 l0 a1 a2 bt352.1 true bt346.1 bt346.2.1))))) = some r := H; have A10 := Aside0.mk A100; clear A100; replace H := Option.bind_eq_some_iff.mp H; obtain ⟨⟨t340, t343, t344⟩, A110, H⟩ := H; replace H : ((octet_Read.f kj3 t340 t343 2 60).bind fun bt346 => ((hashes_Start.f a1).bind fun bt352 => (if t337 = 0 then (if t344 = 0 then (if bt346.2.2.2 = 0 then (if bt352.2 = 0 then (bitlofttop_TopKernel.j1 kj3 l0 a1 a2 bt352.1 (bt346.2.2.1 != (IntKind.u64.wrap ((l0.length : Int)))) bt346.1 bt346.2.1) else (bitlofttop_TopKernel.j1 kj3 l0 a1 a2 bt352.1 true bt346.1 bt346.2.1)) else (bitlofttop_TopKernel.j1 kj3 l0 a1 a2 bt352.1 true bt346.1 bt346.2.1)) else (bitlofttop_TopKernel.j1 kj3 l0 a1 a2 bt352.1 true bt346.1 bt346.2.1)) else (bitlofttop_TopKernel.j1 kj3 l0 a1 a2 bt352.1 true bt346.1 bt346.2.1)))) = some r := H; have A11 := Aside0.mk A110; clear A110; replace H := Option.bind_eq_some_iff.mp H; obtain ⟨⟨t346, t349, t350, t351⟩, A120, H⟩ := H; replace H : ((hashes_Start.f a1).bind fun bt352 => (if t337 = 0 then (if t344 = 0 then (if t351 = 0 then (if bt352.2 = 0 then (bitlofttop_TopKernel.j1 kj3 l0 a1 a2 bt352.1 (t350 != (IntKind.u64.wrap ((l0.length : Int)))) t346 t349) else (bitlofttop_TopKernel.j1 kj3 l0 a1 a2 bt352.1 true t346 t349)) else (bitlofttop_TopKernel.j1 kj3 l0 a1 a2 bt352.1 true t346 t349)) else (bitlofttop_TopKernel.j1 kj3 l0 a1 a2 bt352.1 true t346 t349)) else (bitlofttop_TopKernel.j1 kj3 l0 a1 a2 bt352.1 true t346 t349))) = some r := H; have A12 := Aside0.mk A120; clear A120; replace H := Option.bind_eq_some_iff.mp H; obtain ⟨⟨t352, t353⟩, A130, H⟩ := H; replace H : (if t337 = 0 then (if t344 = 0 then (if t351 = 0 then (if t353 = 0 then (bitlofttop_TopKernel.j1 kj3 l0 a1 a2 t352 (t350 != (IntKind.u64.wrap ((l0.length : Int)))) t346 t349) else (bitlofttop_TopKernel.j1 kj3 l0 a1 a2 t352 true t346 t349)) else (bitlofttop_TopKernel.j1 kj3 l0 a1 a2 t352 true t346 t349)) else (bitlofttop_TopKernel.j1 kj3 l0 a1 a2 t352 true t346 t349)) else (bitlofttop_TopKernel.j1 kj3 l0 a1 a2 t352 true t346 t349)) = some r := H; have A13 := Aside0.mk A130; clear A130; have HC14 := Aside0.mk H; clear H
     go_upto_region 9 with (first | ((with_reducible refine gate_callee (f := 5) rfl ?_); refine gL_ (some 43) Tryd.func5 #[] ?_; (with_reducible refine (bitlofttop_alive08.calls kj3  true _ (tab_bel hT (pH_ HB.out)) A8.out).mono ?_); rintro e w15 ⟨rfl, hb⟩; refine ⟨_, rfl, ?_⟩; have n0_ := Aside0.mk (below_step (pH_ HB.out) hb); clear HB; have HB := n0_; clear n0_; (try clear hb)) | ((with_reducible refine gate_callee (f := 6) rfl ?_); refine gL_ (some 47) Tryd.func6 #[.slice A0 l0.length c0, .int .i64 2] ?_; (with_reducible refine (octet_String.calls kj3 _ _ l0 2 t336 t337 _ ?side1 ?side2 (tab_bel hT (pH_ HB.out)) A10.out).mono ?_); (case side1 => repeat (first | exact (Kd.C_below HR0.out HB.out) | (with_reducible refine Kd.C_alloc ?_ _) | (with_reducible refine Kd.C_drewN ?_ _) | (with_reducible refine Kd.C_drew ?_))); (case side2 => exact HC0.out); rintro e w16 ⟨v338, rfl, ho0, hb⟩; refine ⟨_, rfl, ?_⟩; have n0_ := Aside0.mk (Kd.R_lower ho0 (below_size (pH_ HB.out))); have n1_ := Aside0.mk (below_step (pH_ HB.out) hb); clear HB; have HO339 := n0_; have HB := n1_; clear n0_ n1_; (try clear hb); (try clear ho0); obtain ⟨Ao17, co17, eo17⟩ := Kd.R_slice HO339.out; subst eo17) | ((with_reducible refine gate_callee (f := 7) rfl ?_); refine gL_ (some 52) Tryd.func7 #[.slice Ao17 t336.length co17] ?_; (with_reducible refine (octet_New.calls _ _ t336 t340 t343 t344 _ ?side1 ?side2 A11.out).mono ?_); (case side1 => repeat (first | exact (Kd.R_reads' HO339.out).2.2 | (with_reducible refine Kd.C_alloc ?_ _) | (with_reducible refine Kd.C_drewN ?_ _) | (with_reducible refine Kd.C_drew ?_))); (case side2 => exact (Kd.R_reads' HO339.out).2.1); rintro e w18 ⟨v341, rfl, ho0, hb⟩; refine ⟨_, rfl, ?_⟩; have n0_ := Aside0.mk (Kd.R_elder' (pL_ HO339.out) (Kd.R_base ho0) hb); have n1_ := Aside0.mk (Kd.R_lower (Kd.R_new' ho0 (Kd.R_lt (pL_ HO339.out))) (below_size (pH_ HB.out))); have n2_ := Aside0.mk (below_step (pH_ HB.out) hb); clear HO339; clear HB; have HO339 := n0_; have HO342 := n1_; have HB := n2_; clear n0_ n1_ n2_; (try clear hb); (try clear ho0); have n_ := Aside0.mk (Kd.R_mono (ok' := (fun _ => True)) HO342.out (fun k_ hk => trivial)); clear HO342; have HO342 := n_; clear n_) | ((with_reducible refine gate_dst (N := 9) rfl ?_); (try (refine gate_guard (by rfl) ?_; dsimp only)); refine box_event ?hg (N := 9) ?hd (cs := #[.slice none 0 0, .int .i64 0]) (t := 28) ?hr ?_; (case hd => rfl); (case hg => rfl); (case hr => first | (go_simp; done) | (go_simp; rfl)); intro gb345 hg w19 hbox hb; have n0_ := Aside0.mk (Kd.R_below (pL_ HO342.out) hb); have n1_ := Aside0.mk (below_step (pH_ HB.out) hb); have n2_ := Aside0.mk (hbox); have n3_ := Aside0.mk ((by rw [hg]; exact (below_size (pH_ HB.out)) : w.heap.size ≤ gb345)); have n4_ := Aside0.mk ((by rw [hg]; exact (below_size (pH_ HB.out)) : w.heap.size ≤ gb345)); clear HO342; clear HB; have HO342 := n0_; have HB := n1_; have BK345 := n2_; have GW345 := n3_; have GE345 := n4_; clear n0_ n1_ n2_ n3_ n4_; clear hb hbox hg; obtain ⟨Ao20, co20, eo20⟩ := Kd.R_slice HO342.out; subst eo20; have hcz21_0 : w19.cell? ⟨gb345, 0, none⟩ = some (.slice none 0 0) := (blk_cell BK345.out 0).trans rfl; have hcz21_1 : w19.cell? ⟨gb345, 1, none⟩ = some (.int .i64 0) := (blk_cell BK345.out 1).trans rfl; have hfz21_0 := blk_frozen BK345.out 0; have hfz21_1 := blk_frozen BK345.out 1) | ((with_reducible refine gate_callee (f := 8) rfl ?_); refine gL_ (some 57) Tryd.func8 #[.agg #[.slice Ao20 t340.length co20, .int .i64 t343], .int .i64 2, .int .u64 60] ?_; (with_reducible refine (octet_Read.calls kj3 _ _ t340 t343 2 60 t346 t349 t350 t351 _ ?side1 ?side2 A12.out).mono ?_); (case side1 => refine (Kd.R_reads' (e := 5) (base := w.heap.size) (ok := fun k_ => True) (n := t340.length) (c := co20) ?_).2.2; exact (by (with_reducible repeat (first | apply rA_ | apply rN_ | apply rD_)); exact (Kd.R_mono (Kd.R_far (p := ⟨gb345, 1, none⟩) (Kd.R_far (p := ⟨gb345, 0, none⟩) (Kd.R_types HO342.out BK345.out (by decide)) (fun _ hk => hk.2) (.slice Ao20 t340.length co20)) (fun _ hk => hk.2) (.int .i64 t343)) (fun _ h_ => h_.1)))); (case side2 => exact (Kd.R_reads' HO342.out).2.1); rintro e w22 ⟨v347, rfl, ho0, hb⟩; refine ⟨_, rfl, ?_⟩; have n0_ := Aside0.mk (Kd.R_elder' (by (with_reducible repeat (first | apply rA_ | apply rN_ | apply rD_)); exact (Kd.R_mono (Kd.R_far (p := ⟨gb345, 1, none⟩) (Kd.R_far (p := ⟨gb345, 0, none⟩) (Kd.R_types HO342.out BK345.out (by decide)) (fun _ hk => hk.2) (.slice Ao20 t340.length co20)) (fun _ hk => hk.2) (.int .i64 t343)) (fun _ h_ => h_.1))) (Kd.R_base ho0) hb); have n1_ := Aside0.mk (Kd.R_lower (Kd.R_new' ho0 (Kd.R_lt (by (with_reducible repeat (first | apply rA_ | apply rN_ | apply rD_)); exact (Kd.R_mono (Kd.R_far (p := ⟨gb345, 1, none⟩) (Kd.R_far (p := ⟨gb345, 0, none⟩) (Kd.R_types HO342.out BK345.out (by decide)) (fun _ hk => hk.2) (.slice Ao20 t340.length co20)) (fun _ hk => hk.2) (.int .i64 t343)) (fun _ h_ => h_.1))))) (below_size (pH_ HB.out))); have n2_ := Aside0.mk (blk_below (g := gb345) (o := .cells #[.slice Ao20 t340.length co20, .int .i64 t343] 28 (0, 0)) (by (with_reducible repeat (first | refine blk_drewN ?_ _ | refine blk_drew ?_ | refine blk_alloc ?_ _)); refine blk_put (cs := #[.slice Ao20 t340.length co20, .int .i64 0]) ?_ 1 _ rfl; (with_reducible repeat (first | refine blk_drewN ?_ _ | refine blk_drew ?_ | refine blk_alloc ?_ _)); refine blk_put (cs := #[.slice none 0 0, .int .i64 0]) ?_ 0 _ rfl; (with_reducible repeat (first | refine blk_drewN ?_ _ | refine blk_drew ?_ | refine blk_alloc ?_ _)); exact BK345.out) hb); have n3_ := Aside0.mk (below_step (pH_ HB.out) hb); clear HO342; clear BK345; clear HB; have HO342 := n0_; have HO348 := n1_; have BK345 := n2_; have HB := n3_; clear n0_ n1_ n2_ n3_; (try clear hb); (try clear ho0); obtain ⟨Ao23, co23, eo23⟩ := Kd.R_slice HO348.out; subst eo23; have hcz24_0 : w22.cell? ⟨gb345, 0, none⟩ = some (.slice Ao20 t340.length co20) := (blk_cell BK345.out 0).trans rfl; have hcz24_1 : w22.cell? ⟨gb345, 1, none⟩ = some (.int .i64 t343) := (blk_cell BK345.out 1).trans rfl; have hfz24_0 := blk_frozen BK345.out 0; have hfz24_1 := blk_frozen BK345.out 1) | ((with_reducible refine gate_store (t := 28) (p := 9) rfl ?_); refine store_event (t := 28) (p := 9) (v := ?vo_w25) (w1 := ((w22.setCell ⟨gb345, 0, none⟩ (.slice Ao23 t346.length co23)).setCell ⟨gb345, 1, none⟩ (.int .i64 t349))) ?hg ?ho ?hn ?hr ?_; (case ho => rfl); (case hg => rfl); (case hn => rfl); (case hr => first | (go_simp; done) | (go_simp; rfl)); intro w25 hw; have n0_ : Aside0 (Kd.R (Kd.int .u8) 5 w25 w.heap.size (fun k_ => nO_ k_ (.slice Ao23 t346.length co23)) (.slice Ao20 t340.length co20) t340) := ⟨(by rw [hw]; exact (by (with_reducible repeat (first | apply rA_ | apply rN_ | apply rD_)); exact Kd.R_mono (Kd.R_far (p := ⟨gb345, 1, none⟩) (Kd.R_far (p := ⟨gb345, 0, none⟩) (Kd.R_types HO342.out BK345.out (by decide)) (fun _ hk => hk.2) (.slice Ao23 t346.length co23)) (fun _ hk => hk.2) (.int .i64 t349)) (fun _ hk => hk.1.2)))⟩; have n1_ : Aside0 (Kd.R (Kd.int .u8) 5 w25 w.heap.size (fun k_ => nO_ k_ (.slice Ao20 t340.length co20)) (.slice Ao23 t346.length co23) t346) := ⟨(by rw [hw]; exact (by (with_reducible repeat (first | apply rA_ | apply rN_ | apply rD_)); exact Kd.R_mono (Kd.R_far (p := ⟨gb345, 1, none⟩) (Kd.R_far (p := ⟨gb345, 0, none⟩) (Kd.R_types HO348.out BK345.out (by decide)) (fun _ hk => hk.2) (.slice Ao23 t346.length co23)) (fun _ hk => hk.2) (.int .i64 t349)) (fun _ hk => hk.1.2)))⟩; have n2_ : Aside0 (w25.heap[gb345]? = some (.cells #[.slice Ao23 t346.length co23, .int .i64 t349] 28 (0, 0))) := ⟨(by rw [hw]; exact (by (with_reducible repeat (first | refine blk_drewN ?_ _ | refine blk_drew ?_ | refine blk_alloc ?_ _)); refine blk_put (cs := #[.slice Ao23 t346.length co23, .int .i64 t343]) ?_ 1 _ rfl; (with_reducible repeat (first | refine blk_drewN ?_ _ | refine blk_drew ?_ | refine blk_alloc ?_ _)); refine blk_put (cs := #[.slice Ao20 t340.length co20, .int .i64 t343]) ?_ 0 _ rfl; (with_reducible repeat (first | refine blk_drewN ?_ _ | refine blk_drew ?_ | refine blk_alloc ?_ _)); exact BK345.out))⟩; have n3_ : Aside0 (Below w.heap.size w w25) := ⟨(by rw [hw]; exact (pH_ HB.out))⟩; clear hw; clear HO342; clear HO348; clear BK345; clear HB; have HO342 := n0_; have HO348 := n1_; have BK345 := n2_; have HB := n3_; clear n0_ n1_ n2_ n3_; have n_ := Aside0.mk (Kd.R_mono (ok' := (fun _ => True)) HO348.out (fun k_ hk => trivial)); clear HO348; have HO348 := n_; clear n_) | ((with_reducible refine gate_callee (f := 9) rfl ?_); refine gL_ (some 63) Tryd.func9 #[.int .i64 a1] ?_; (with_reducible refine (hashes_Start.calls a1 t352 t353 _ A13.out).mono ?_); rintro e w' ⟨rfl, ⟨nd, rfl⟩⟩; refine ⟨_, rfl, ?_⟩))
     (try simp only [Act.put, sA_, sZ_, sS_]); (with_reducible first | refine then_id_ ?_ | (refine wp_tail_ ?_; intro Kt_ hKt_))
     go_cut [86] (fun v86 wc => ∃ (kq : Nat) (x86_13 : Bool), v86 = .bool x86_13 ∧ Aside0 (bitlofttop_TopKernel.j1 kq l0 a1 a2 t352 x86_13 t346 t349 = some r) ∧ Aside0 (kq ≤ kj3) ∧ Aside0 (Kd.R (Kd.int .u8) 5 wc w.heap.size (fun _ => True) (.slice Ao23 t346.length co23) t346) ∧ Aside0 (wc.heap[gb345]? = some (.cells #[(.slice Ao23 t346.length co23), .int .i64 t349] 28 (0, 0))) ∧ Aside0 (Below w.heap.size w wc))
     case first =>
      have H := HC14.out; clear HC14
      by_cases c26 : t337 = 0
      ·
       rw [if_pos c26] at H; have c26b0 : (t337 == 0) = true := beq_iff_eq.mpr c26; have c26b1 : (t337 != 0) = false := bne_eq_false_iff_eq.mpr c26; clear c26; (first | rw [c26b0] | (simp only [i64_w, i32_w]; rw [c26b0]) | skip)
       by_cases c27 : t344 = 0
       ·
        rw [if_pos c27] at H; have c27b0 : (t344 == 0) = true := beq_iff_eq.mpr c27; have c27b1 : (t344 != 0) = false := bne_eq_false_iff_eq.mpr c27; clear c27
        by_cases c28 : t351 = 0
        ·
         rw [if_pos c28] at H; have c28b0 : (t351 == 0) = true := beq_iff_eq.mpr c28; have c28b1 : (t351 != 0) = false := bne_eq_false_iff_eq.mpr c28; clear c28
         by_cases c29 : t353 = 0
         ·
          rw [if_pos c29] at H; have c29b0 : (t353 == 0) = true := beq_iff_eq.mpr c29; have c29b1 : (t353 != 0) = false := bne_eq_false_iff_eq.mpr c29; clear c29; have H' := Aside0.mk H; clear H
          go_wp2
          (first | go_meet | (refine Met.intro ?_; go_step; (repeat apply Exists.intro); refine ⟨?rel, ?eqf_⟩; case eqf_ => ((simp only [c29b0, c28b0, c27b0, c26b0]) <;> rfl)))
          case rel => exact ⟨_, ((t350 != (IntKind.u64.wrap ((l0.length : Int))))), (by first | rfl | (simp; done) | (simp [*]; done)), H', ⟨by have := HJ3.out; first | omega | exact Nat.le_refl _⟩, ⟨pL_ HO348.out⟩, ⟨pG_ BK345.out⟩, ⟨pH_ HB.out⟩⟩
         ·
          rw [if_neg c29] at H; have c29b0 : (t353 == 0) = false := beq_eq_false_iff_ne.mpr c29; have c29b1 : (t353 != 0) = true := bne_iff_ne.mpr c29; exact absurd (H.trans (congrArg some HRT_.out)) (by first | (simp; done) | (generalize kj3 = k_; cases k_ <;> simp [bitlofttop_TopKernel.j0, bitlofttop_TopKernel.j1, bitlofttop_TopKernel.l0, bitlofttop_TopKernel.j3, bitlofttop_TopKernel.l1, bitlofttop_TopKernel.j5, bitlofttop_TopKernel.j6]))
        ·
         rw [if_neg c28] at H; have c28b0 : (t351 == 0) = false := beq_eq_false_iff_ne.mpr c28; have c28b1 : (t351 != 0) = true := bne_iff_ne.mpr c28; exact absurd (H.trans (congrArg some HRT_.out)) (by first | (simp; done) | (generalize kj3 = k_; cases k_ <;> simp [bitlofttop_TopKernel.j0, bitlofttop_TopKernel.j1, bitlofttop_TopKernel.l0, bitlofttop_TopKernel.j3, bitlofttop_TopKernel.l1, bitlofttop_TopKernel.j5, bitlofttop_TopKernel.j6]))
       ·
        rw [if_neg c27] at H; have c27b0 : (t344 == 0) = false := beq_eq_false_iff_ne.mpr c27; have c27b1 : (t344 != 0) = true := bne_iff_ne.mpr c27; exact absurd (H.trans (congrArg some HRT_.out)) (by first | (simp; done) | (generalize kj3 = k_; cases k_ <;> simp [bitlofttop_TopKernel.j0, bitlofttop_TopKernel.j1, bitlofttop_TopKernel.l0, bitlofttop_TopKernel.j3, bitlofttop_TopKernel.l1, bitlofttop_TopKernel.j5, bitlofttop_TopKernel.j6]))
      ·
       rw [if_neg c26] at H; have c26b0 : (t337 == 0) = false := beq_eq_false_iff_ne.mpr c26; have c26b1 : (t337 != 0) = true := bne_iff_ne.mpr c26; (first | rw [c26b0] | (simp only [i64_w, i32_w]; rw [c26b0]) | skip); exact absurd (H.trans (congrArg some HRT_.out)) (by first | (simp; done) | (generalize kj3 = k_; cases k_ <;> simp [bitlofttop_TopKernel.j0, bitlofttop_TopKernel.j1, bitlofttop_TopKernel.l0, bitlofttop_TopKernel.j3, bitlofttop_TopKernel.l1, bitlofttop_TopKernel.j5, bitlofttop_TopKernel.j6]))
     case rest =>
      (try (refine hKt_ _ _ ?_; clear hKt_; clear Kt_)); clear HC14
      try clear c2
      try clear p2
      try clear c3
      try clear c5
      try clear c5b0
      try clear c5b1
      try clear c6
      try clear c6b0
      try clear c7
      try clear c8
      try clear c9
      try clear c26
      try clear c26b0
      try clear c26b1
      try clear c27
      try clear c27b0
      try clear c27b1
      try clear c28
      try clear c28b0
      try clear c28b1
      try clear c29
      try clear c29b0
      try clear c29b1
      try clear hcz21_0
      try clear hcz21_1
      try clear hcz24_0
      try clear hcz24_1
      try clear hfz21_0
      try clear hfz21_1
      try clear hfz24_0
      try clear hfz24_1
      try clear p2
      obtain ⟨kq, x86_13, rfl, HA, HJ13, HO_346000, BK345, HB⟩ := hcut
      cases kq with
      | zero => exact absurd HA.out (by simp [bitlofttop_TopKernel.j1])
      | succ kj13 =>
       have H := HA.out; clear HA; simp only [bitlofttop_TopKernel.j1] at H
       by_cases c30 : x86_13 = true
       ·
        subst c30
        have H1 : (some false) = some r := by rw [if_pos rfl] at H; exact H
        clear H; have H := H1; clear H1; exact absurd (H.trans (congrArg some HRT_.out)) (by simp)
       ·
        replace c30 := Bool.eq_false_iff.mpr c30
        subst c30
        have H1 : (bitlofttop_TopKernel.l0 kj13 l0 a1 a2 t352 ([] : List (List Int)) 0 0 t346 t349 0 0 0) = some r := by rw [if_neg (show ¬ (false = true) by decide)] at H; exact H
        clear H; have H := H1; clear H1; have H' := Aside0.mk H; clear H
        go_wp2_with (first | ((with_reducible refine gate_dst (N := 17) rfl ?_); (try (refine gate_guard (by rfl) ?_; dsimp only)); refine box_event ?hg (N := 17) ?hd (cs := #[.int .i32 0, .int .i32 0, .int .u8 0]) (t := 39) ?hr ?_; (case hd => rfl); (case hg => rfl); (case hr => first | (go_simp; done) | (go_simp; rfl)); intro gb354 hg w31 hbox hb; have n0_ := Aside0.mk (Kd.R_below (pL_ HO_346000.out) hb); have n1_ := Aside0.mk (blk_below (pG_ BK345.out) hb); have n2_ := Aside0.mk (below_step (pH_ HB.out) hb); have n3_ := Aside0.mk (hbox); have n4_ := Aside0.mk ((by rw [hg]; exact (below_size (pH_ HB.out)) : w.heap.size ≤ gb354)); have n5_ := Aside0.mk ((by rw [hg]; exact (below_size (pH_ HB.out)) : w.heap.size ≤ gb354)); have n6_ := Aside0.mk ((by rw [hg]; exact Nat.ne_of_lt (blk_lt (pG_ BK345.out)) : gb345 ≠ gb354)); have n7_ := Aside0.mk ((by rw [hg]; exact Nat.ne_of_gt (blk_lt (pG_ BK345.out)) : gb354 ≠ gb345)); clear HO_346000; clear BK345; clear HB; have HO_346000 := n0_; have BK345 := n1_; have HB := n2_; have BK354 := n3_; have GW354 := n4_; have GE354 := n5_; have NB345_354 := n6_; have NB354_345 := n7_; clear n0_ n1_ n2_ n3_ n4_ n5_ n6_ n7_; clear hb hbox hg; have hnb32 := NB354_345.out; have hnc32 := NB345_354.out; have hcz33_0 : w31.cell? ⟨gb354, 0, none⟩ = some (.int .i32 0) := (blk_cell BK354.out 0).trans rfl; have hcz33_1 : w31.cell? ⟨gb354, 1, none⟩ = some (.int .i32 0) := (blk_cell BK354.out 1).trans rfl; have hcz33_2 : w31.cell? ⟨gb354, 2, none⟩ = some (.int .u8 0) := (blk_cell BK354.out 2).trans rfl; have hfz33_0 := blk_frozen BK354.out 0; have hfz33_1 := blk_frozen BK354.out 1; have hfz33_2 := blk_frozen BK354.out 2) | ((with_reducible refine gate_store (t := 39) (p := 17) rfl ?_); refine store_event (t := 39) (p := 17) (v := ?vo_w34) (w1 := (((w31.setCell ⟨gb354, 0, none⟩ (.int .i32 0)).setCell ⟨gb354, 1, none⟩ (.int .i32 0)).setCell ⟨gb354, 2, none⟩ (.int .u8 0))) ?hg ?ho ?hn ?hr ?_; (case ho => rfl); (case hg => rfl); (case hn => rfl); (case hr => first | (go_simp; done) | (go_simp; rfl)); intro w34 hw; have n0_ : Aside0 (Kd.R (Kd.int .u8) 5 w34 w.heap.size (fun _ => True) (.slice Ao23 t346.length co23) t346) := ⟨(by rw [hw]; exact (by (with_reducible repeat (first | apply rA_ | apply rN_ | apply rD_)); exact Kd.R_mono (Kd.R_far (p := ⟨gb354, 2, none⟩) (Kd.R_far (p := ⟨gb354, 1, none⟩) (Kd.R_far (p := ⟨gb354, 0, none⟩) (Kd.R_types HO_346000.out BK354.out (by decide)) (fun _ hk => hk.2) (.int .i32 0)) (fun _ hk => hk.2) (.int .i32 0)) (fun _ hk => hk.2) (.int .u8 0)) (fun _ hk => trivial)))⟩; have n1_ : Aside0 (w34.heap[gb345]? = some (.cells #[.slice Ao23 t346.length co23, .int .i64 t349] 28 (0, 0))) := ⟨(by rw [hw]; exact (by (with_reducible repeat (first | refine blk_drewN ?_ _ | refine blk_drew ?_ | refine blk_alloc ?_ _)); refine blk_far ?_ NB345_354.out _; (with_reducible repeat (first | refine blk_drewN ?_ _ | refine blk_drew ?_ | refine blk_alloc ?_ _)); refine blk_far ?_ NB345_354.out _; (with_reducible repeat (first | refine blk_drewN ?_ _ | refine blk_drew ?_ | refine blk_alloc ?_ _)); refine blk_far ?_ NB345_354.out _; (with_reducible repeat (first | refine blk_drewN ?_ _ | refine blk_drew ?_ | refine blk_alloc ?_ _)); exact BK345.out))⟩; have n2_ : Aside0 (w34.heap[gb354]? = some (.cells #[.int .i32 0, .int .i32 0, .int .u8 0] 39 (0, 0))) := ⟨(by rw [hw]; exact (by (with_reducible repeat (first | refine blk_drewN ?_ _ | refine blk_drew ?_ | refine blk_alloc ?_ _)); refine blk_put (cs := #[.int .i32 0, .int .i32 0, .int .u8 0]) ?_ 2 _ rfl; (with_reducible repeat (first | refine blk_drewN ?_ _ | refine blk_drew ?_ | refine blk_alloc ?_ _)); refine blk_put (cs := #[.int .i32 0, .int .i32 0, .int .u8 0]) ?_ 1 _ rfl; (with_reducible repeat (first | refine blk_drewN ?_ _ | refine blk_drew ?_ | refine blk_alloc ?_ _)); refine blk_put (cs := #[.int .i32 0, .int .i32 0, .int .u8 0]) ?_ 0 _ rfl; (with_reducible repeat (first | refine blk_drewN ?_ _ | refine blk_drew ?_ | refine blk_alloc ?_ _)); exact BK354.out))⟩; have n3_ : Aside0 (Below w.heap.size w w34) := ⟨(by rw [hw]; exact (pH_ HB.out))⟩; clear hw; clear HO_346000; clear BK345; clear BK354; clear HB; have HO_346000 := n0_; have BK345 := n1_; have BK354 := n2_; have HB := n3_; clear n0_ n1_ n2_ n3_))
        go_loopg [13, 15, 16, 18] kj13 (fun kq v13 v15 v16 v18 w' => ∃ (x13_3 : Int) (x15_3 : List (List Int)) (x16_3 : Int) (x18_3 : Int) (x346000_3 : List Int) (x346001_3 : Int) (x355000_3 : Int) (x355001_3 : Int) (x355002_3 : Int) (u346000 : Value), v13 = .int .u32 x13_3 ∧ v16 = .int .u8 x16_3 ∧ v18 = .int .i64 x18_3 ∧ Aside0 (bitlofttop_TopKernel.l0 kq l0 a1 a2 x13_3 x15_3 x16_3 x18_3 x346000_3 x346001_3 x355000_3 x355001_3 x355002_3 = some r) ∧ Aside0 (kq ≤ kj13) ∧ Aside0 (Kd.N (Kd.slice 5 (Kd.int .u8)) 22 w' w.heap.size (fun k_ => nO_ k_ u346000 ∧ k_ ≠ gb345 ∧ k_ ≠ gb354) v15 x15_3) ∧ Aside0 (Kd.R (Kd.int .u8) 5 w' w.heap.size (fun _ => True) u346000 x346000_3) ∧ Aside0 (w'.heap[gb345]? = some (.cells #[u346000, .int .i64 x346001_3] 28 (0, 0))) ∧ Aside0 (w'.heap[gb354]? = some (.cells #[.int .i32 x355000_3, .int .i32 x355001_3, .int .u8 x355002_3] 39 (0, 0))) ∧ Aside0 (Below w.heap.size w w'))
        case atStart => exact ⟨(t352), (([] : List (List Int))), (0), (0), (t346), (t349), (0), (0), (0), (.slice Ao23 t346.length co23), (by first | rfl | (simp; done) | (simp [*]; done)), (by first | rfl | (simp; done) | (simp [*]; done)), (by first | rfl | (simp; done) | (simp [*]; done)), H', ⟨Nat.le_refl _⟩, ⟨by first | exact Kd.S_nil _ _ _ _ _ | exact Kd.N_nil _ _ _ _ _ | exact Kd.V_nil _ _ _ _ _ | exact Kd.Q_nil _ _ _ _ _ | exact Kd.R_nil _ _ _ _ _⟩, ⟨pL_ HO_346000.out⟩, ⟨pG_ BK345.out⟩, ⟨pG_ BK354.out⟩, ⟨pH_ HB.out⟩⟩
        case round =>
         clear H'
         try clear c2
         try clear p2
         try clear c3
         try clear c5
         try clear c5b0
         try clear c5b1
         try clear c6
         try clear c6b0
         try clear c7
         try clear c8
         try clear c9
         try clear c26
         try clear c26b0
         try clear c26b1
         try clear c27
         try clear c27b0
         try clear c27b1
         try clear c28
         try clear c28b0
         try clear c28b1
         try clear c29
         try clear c29b0
         try clear c29b1
         try clear c30
         try clear c32
         try clear hcz21_0
         try clear hcz21_1
         try clear hcz24_0
         try clear hcz24_1
         try clear hcz33_0
         try clear hcz33_1
         try clear hcz33_2
         try clear hfz21_0
         try clear hfz21_1
         try clear hfz24_0
         try clear hfz24_1
         try clear hfz33_0
         try clear hfz33_1
         try clear hfz33_2
         try clear p2
         obtain ⟨x13_3, x15_3, x16_3, x18_3, x346000_3, x346001_3, x355000_3, x355001_3, x355002_3, u346000, rfl, rfl, rfl, HA, HK3, HO_15, HO_346000, BK345, BK354, HB⟩ := hrel
         cases gk with
         | zero => exact absurd HA.out (by simp [bitlofttop_TopKernel.l0])
         | succ k3 =>
          have H := HA.out; clear HA; simp only [bitlofttop_TopKernel.l0] at H
          by_cases c35 : x18_3 < (l0.length : Int)
          ·
           rw [if_pos c35] at H; have c35b0 : decide (x18_3 < (l0.length : Int)) = true := decide_eq_true c35; clear c35; replace H := Option.bind_eq_some_iff.mp H; obtain ⟨⟨t355, t358, t359, t360⟩, A360, H⟩ := H; replace H : (if t360 = 0 then (if 0 ≤ x18_3 then (bitlofttop_TopKernel.j3 k3 l0 a1 a2 x13_3 x15_3 x16_3 x18_3 t359 (t359 != (IntKind.u64.wrap (rd l0 x18_3))) x355000_3 x355001_3 x355002_3 t355 t358) else (none)) else (bitlofttop_TopKernel.j3 k3 l0 a1 a2 x13_3 x15_3 x16_3 x18_3 t359 true x355000_3 x355001_3 x355002_3 t355 t358)) = some r := H; have A36 := Aside0.mk A360; clear A360; have HC37 := Aside0.mk H; clear H; have hnb38 := NB345_354.out; have hnc38 := NB354_345.out; have hcz39_0 : wr.cell? ⟨gb345, 0, none⟩ = some (u346000) := (blk_cell BK345.out 0).trans rfl; have hcz39_1 : wr.cell? ⟨gb345, 1, none⟩ = some (.int .i64 x346001_3) := (blk_cell BK345.out 1).trans rfl; have hfz39_0 := blk_frozen BK345.out 0; have hfz39_1 := blk_frozen BK345.out 1; obtain ⟨Ao40, co40, eo40⟩ := Kd.R_slice HO_346000.out
           subst eo40
           go_upto_region 17 with (first | ((with_reducible refine gate_callee (f := 8) rfl ?_); refine gL_ (some 96) Tryd.func8 #[.agg #[.slice Ao40 x346000_3.length co40, .int .i64 x346001_3], .int .i64 1, .int .u64 255] ?_; (with_reducible refine (octet_Read.calls k3 _ _ x346000_3 x346001_3 1 255 t355 t358 t359 t360 _ ?side1 ?side2 A36.out).mono ?_); (case side1 => repeat (first | exact (Kd.R_reads' HO_346000.out).2.2 | (with_reducible refine Kd.C_alloc ?_ _) | (with_reducible refine Kd.C_drewN ?_ _) | (with_reducible refine Kd.C_drew ?_))); (case side2 => exact (Kd.R_reads' HO_346000.out).2.1); rintro e w41 ⟨v356, rfl, ho0, hb⟩; refine ⟨_, rfl, ?_⟩; have n0_ := Aside0.mk (Kd.N_elder' (by (with_reducible repeat (first | apply Kd.N_alloc | apply Kd.N_drewN | apply Kd.N_drew)); exact HO_15.out) (Kd.R_base ho0) hb); have n1_ := Aside0.mk (Kd.R_elder' (pL_ HO_346000.out) (Kd.R_base ho0) hb); have n2_ := Aside0.mk (Kd.R_lower (Kd.R_new' ho0 (Kd.R_lt (pL_ HO_346000.out))) (below_size (pH_ HB.out))); have n3_ := Aside0.mk (blk_below (pG_ BK345.out) hb); have n4_ := Aside0.mk (blk_below (pG_ BK354.out) hb); have n5_ := Aside0.mk (below_step (pH_ HB.out) hb); clear HO_15; clear HO_346000; clear BK345; clear BK354; clear HB; have HO_15 := n0_; have HO_346000 := n1_; have HO357 := n2_; have BK345 := n3_; have BK354 := n4_; have HB := n5_; clear n0_ n1_ n2_ n3_ n4_ n5_; (try clear hb); (try clear ho0)) | ((with_reducible refine gate_dst (N := 19) rfl ?_); (try (refine gate_guard (by rfl) ?_; dsimp only)); refine box_event ?hg (N := 19) ?hd (cs := #[.slice none 0 0, .int .i64 0]) (t := 28) ?hr ?_; (case hd => rfl); (case hg => rfl); (case hr => first | (go_simp; done) | (go_simp; rfl)); intro gb361 hg w42 hbox hb; have n0_ := Aside0.mk (Kd.N_below (Kd.N_elderB (by (with_reducible repeat (first | apply Kd.N_alloc | apply Kd.N_drewN | apply Kd.N_drew)); exact HO_15.out) gb361 (Nat.le_of_eq hg.symm)) hb); have n1_ := Aside0.mk (Kd.R_below (pL_ HO_346000.out) hb); have n2_ := Aside0.mk (Kd.R_below (pL_ HO357.out) hb); have n3_ := Aside0.mk (blk_below (pG_ BK345.out) hb); have n4_ := Aside0.mk (blk_below (pG_ BK354.out) hb); have n5_ := Aside0.mk (below_step (pH_ HB.out) hb); have n6_ := Aside0.mk (hbox); have n7_ := Aside0.mk ((by rw [hg]; exact (below_size (pH_ HB.out)) : w.heap.size ≤ gb361)); have n8_ := Aside0.mk ((by rw [hg]; exact (below_size (pH_ HB.out)) : w.heap.size ≤ gb361)); have n9_ := Aside0.mk ((by rw [hg]; exact Nat.ne_of_lt (blk_lt (pG_ BK345.out)) : gb345 ≠ gb361)); have n10_ := Aside0.mk ((by rw [hg]; exact Nat.ne_of_gt (blk_lt (pG_ BK345.out)) : gb361 ≠ gb345)); have n11_ := Aside0.mk ((by rw [hg]; exact Nat.ne_of_lt (blk_lt (pG_ BK354.out)) : gb354 ≠ gb361)); have n12_ := Aside0.mk ((by rw [hg]; exact Nat.ne_of_gt (blk_lt (pG_ BK354.out)) : gb361 ≠ gb354)); clear HO_15; clear HO_346000; clear HO357; clear BK345; clear BK354; clear HB; have HO_15 := n0_; have HO_346000 := n1_; have HO357 := n2_; have BK345 := n3_; have BK354 := n4_; have HB := n5_; have BK361 := n6_; have GW361 := n7_; have GE361 := n8_; have NB345_361 := n9_; have NB361_345 := n10_; have NB354_361 := n11_; have NB361_354 := n12_; clear n0_ n1_ n2_ n3_ n4_ n5_ n6_ n7_ n8_ n9_ n10_ n11_ n12_; clear hb hbox hg; obtain ⟨Ao43, co43, eo43⟩ := Kd.R_slice HO357.out; subst eo43; have hnb44 := NB361_345.out; have hnc44 := NB345_361.out; have hnb45 := NB361_354.out; have hnc45 := NB354_361.out; have hcz46_0 : w42.cell? ⟨gb361, 0, none⟩ = some (.slice none 0 0) := (blk_cell BK361.out 0).trans rfl; have hcz46_1 : w42.cell? ⟨gb361, 1, none⟩ = some (.int .i64 0) := (blk_cell BK361.out 1).trans rfl; have hfz46_0 := blk_frozen BK361.out 0; have hfz46_1 := blk_frozen BK361.out 1) | ((with_reducible refine gate_store (t := 28) (p := 19) rfl ?_); refine store_event (t := 28) (p := 19) (v := ?vo_w47) (w1 := ((w42.setCell ⟨gb361, 0, none⟩ (.slice Ao43 t355.length co43)).setCell ⟨gb361, 1, none⟩ (.int .i64 t358))) ?hg ?ho ?hn ?hr ?_; (case ho => rfl); (case hg => rfl); (case hn => rfl); (case hr => first | (go_simp; done) | (go_simp; rfl)); intro w47 hw; have n0_ : Aside0 (Kd.N (Kd.slice 5 (Kd.int .u8)) 22 w47 w.heap.size (fun k_ => nO_ k_ (.slice Ao40 x346000_3.length co40) ∧ nO_ k_ (.slice Ao43 t355.length co43) ∧ k_ ≠ gb345 ∧ k_ ≠ gb354 ∧ k_ ≠ gb361) u15 x15_3) := ⟨(by rw [hw]; exact (by (with_reducible repeat (first | apply Kd.N_alloc | apply Kd.N_drewN | apply Kd.N_drew)); exact Kd.N_mono (Kd.N_far (p := ⟨gb361, 1, none⟩) (Kd.N_far (p := ⟨gb361, 0, none⟩) (Kd.N_mono HO_15.out (fun k_ hk => (⟨hk, hk.2⟩ : _ ∧ k_ ≠ gb361))) (fun _ hk => hk.2) (.slice Ao43 t355.length co43)) (fun _ hk => hk.2) (.int .i64 t358)) (fun _ hk => ⟨hk.1.1.1.1, ⟨hk.1.1.2, ⟨hk.1.1.1.2.1, ⟨hk.1.1.1.2.2, hk.1.2⟩⟩⟩⟩)))⟩; have n1_ : Aside0 (Kd.R (Kd.int .u8) 5 w47 w.heap.size (fun k_ => nO_ k_ (.slice Ao43 t355.length co43)) (.slice Ao40 x346000_3.length co40) x346000_3) := ⟨(by rw [hw]; exact (by (with_reducible repeat (first | apply rA_ | apply rN_ | apply rD_)); exact Kd.R_mono (Kd.R_far (p := ⟨gb361, 1, none⟩) (Kd.R_far (p := ⟨gb361, 0, none⟩) (Kd.R_types HO_346000.out BK361.out (by decide)) (fun _ hk => hk.2) (.slice Ao43 t355.length co43)) (fun _ hk => hk.2) (.int .i64 t358)) (fun _ hk => hk.1.2)))⟩; have n2_ : Aside0 (Kd.R (Kd.int .u8) 5 w47 w.heap.size (fun k_ => nO_ k_ (.slice Ao40 x346000_3.length co40)) (.slice Ao43 t355.length co43) t355) := ⟨(by rw [hw]; exact (by (with_reducible repeat (first | apply rA_ | apply rN_ | apply rD_)); exact Kd.R_mono (Kd.R_far (p := ⟨gb361, 1, none⟩) (Kd.R_far (p := ⟨gb361, 0, none⟩) (Kd.R_types HO357.out BK361.out (by decide)) (fun _ hk => hk.2) (.slice Ao43 t355.length co43)) (fun _ hk => hk.2) (.int .i64 t358)) (fun _ hk => hk.1.2)))⟩; have n3_ : Aside0 (w47.heap[gb345]? = some (.cells #[.slice Ao40 x346000_3.length co40, .int .i64 x346001_3] 28 (0, 0))) := ⟨(by rw [hw]; exact (by (with_reducible repeat (first | refine blk_drewN ?_ _ | refine blk_drew ?_ | refine blk_alloc ?_ _)); refine blk_far ?_ NB345_361.out _; (with_reducible repeat (first | refine blk_drewN ?_ _ | refine blk_drew ?_ | refine blk_alloc ?_ _)); refine blk_far ?_ NB345_361.out _; (with_reducible repeat (first | refine blk_drewN ?_ _ | refine blk_drew ?_ | refine blk_alloc ?_ _)); exact BK345.out))⟩; have n4_ : Aside0 (w47.heap[gb354]? = some (.cells #[.int .i32 x355000_3, .int .i32 x355001_3, .int .u8 x355002_3] 39 (0, 0))) := ⟨(by rw [hw]; exact (by (with_reducible repeat (first | refine blk_drewN ?_ _ | refine blk_drew ?_ | refine blk_alloc ?_ _)); refine blk_far ?_ NB354_361.out _; (with_reducible repeat (first | refine blk_drewN ?_ _ | refine blk_drew ?_ | refine blk_alloc ?_ _)); refine blk_far ?_ NB354_361.out _; (with_reducible repeat (first | refine blk_drewN ?_ _ | refine blk_drew ?_ | refine blk_alloc ?_ _)); exact BK354.out))⟩; have n5_ : Aside0 (w47.heap[gb361]? = some (.cells #[.slice Ao43 t355.length co43, .int .i64 t358] 28 (0, 0))) := ⟨(by rw [hw]; exact (by (with_reducible repeat (first | refine blk_drewN ?_ _ | refine blk_drew ?_ | refine blk_alloc ?_ _)); refine blk_put (cs := #[.slice Ao43 t355.length co43, .int .i64 0]) ?_ 1 _ rfl; (with_reducible repeat (first | refine blk_drewN ?_ _ | refine blk_drew ?_ | refine blk_alloc ?_ _)); refine blk_put (cs := #[.slice none 0 0, .int .i64 0]) ?_ 0 _ rfl; (with_reducible repeat (first | refine blk_drewN ?_ _ | refine blk_drew ?_ | refine blk_alloc ?_ _)); exact BK361.out))⟩; have n6_ : Aside0 (Below w.heap.size w w47) := ⟨(by rw [hw]; exact (pH_ HB.out))⟩; clear hw; clear HO_15; clear HO_346000; clear HO357; clear BK345; clear BK354; clear BK361; clear HB; have HO_15 := n0_; have HO_346000 := n1_; have HO357 := n2_; have BK345 := n3_; have BK354 := n4_; have BK361 := n5_; have HB := n6_; clear n0_ n1_ n2_ n3_ n4_ n5_ n6_))
           (try simp only [Act.put, sA_, sZ_, sS_]); (with_reducible first | refine then_id_ ?_ | (refine wp_tail_ ?_; intro Kt_ hKt_))
           go_cut [110] (fun v110 wc => ∃ (kq : Nat) (x110_36 : Bool), v110 = .bool x110_36 ∧ Aside0 (bitlofttop_TopKernel.j3 kq l0 a1 a2 x13_3 x15_3 x16_3 x18_3 t359 x110_36 x355000_3 x355001_3 x355002_3 t355 t358 = some r) ∧ Aside0 (kq ≤ k3) ∧ Aside0 (Kd.N (Kd.slice 5 (Kd.int .u8)) 22 wc w.heap.size (fun k_ => some k_ ≠ ((.slice Ao40 x346000_3.length co40) : Value).ownBlock ∧ some k_ ≠ ((.slice Ao43 t355.length co43) : Value).ownBlock ∧ k_ ≠ gb345 ∧ k_ ≠ gb354 ∧ k_ ≠ gb361) u15 x15_3) ∧ Aside0 (Kd.R (Kd.int .u8) 5 wc w.heap.size (fun k_ => some k_ ≠ ((.slice Ao43 t355.length co43) : Value).ownBlock) (.slice Ao40 x346000_3.length co40) x346000_3) ∧ Aside0 (Kd.R (Kd.int .u8) 5 wc w.heap.size (fun k_ => some k_ ≠ ((.slice Ao40 x346000_3.length co40) : Value).ownBlock) (.slice Ao43 t355.length co43) t355) ∧ Aside0 (wc.heap[gb345]? = some (.cells #[(.slice Ao40 x346000_3.length co40), .int .i64 x346001_3] 28 (0, 0))) ∧ Aside0 (wc.heap[gb354]? = some (.cells #[.int .i32 x355000_3, .int .i32 x355001_3, .int .u8 x355002_3] 39 (0, 0))) ∧ Aside0 (wc.heap[gb361]? = some (.cells #[(.slice Ao43 t355.length co43), .int .i64 t358] 28 (0, 0))) ∧ Aside0 (Below w.heap.size w wc))
           case first =>
            have H := HC37.out; clear HC37
            by_cases c48 : t360 = 0
            ·
             rw [if_pos c48] at H; have c48b0 : (t360 == 0) = true := beq_iff_eq.mpr c48; have c48b1 : (t360 != 0) = false := bne_eq_false_iff_eq.mpr c48; clear c48; (first | rw [c48b0] | (simp only [i64_w, i32_w]; rw [c48b0]) | skip)
             by_cases c49 : 0 ≤ x18_3
             ·
              rw [if_pos c49] at H; have c49b0 : decide (0 ≤ x18_3) = true := decide_eq_true c49; clear c49; have H' := Aside0.mk H; clear H; have p362 : 0 ≤ (x18_3 : Int) := of_decide_eq_true (by first | (with_reducible assumption) | assumption); have q362 : x18_3 < (l0.length : Int) := of_decide_eq_true (by first | (with_reducible assumption) | assumption); obtain ⟨ad362, e362, hx362_0⟩ := Kd.at_int HR0.out x18_3 p362 q362
              cases e362
              replace hx362_0 := (HB.out.cell (World.block_lt_of_cell? w _ hx362_0)).trans hx362_0; replace p362 := eq_true p362; replace q362 := eq_true q362
              go_wp2
              (first | go_meet | (refine Met.intro ?_; go_step; (repeat apply Exists.intro); refine ⟨?rel, ?eqf_⟩; case eqf_ => ((simp only [c49b0, c48b0, c35b0]) <;> rfl)))
              case rel => exact ⟨_, ((t359 != (IntKind.u64.wrap (rd l0 x18_3)))), (by first | rfl | (simp; done) | (simp [*]; done)), H', ⟨by have := HJ3.out; have := HJ13.out; have := HK3.out; first | omega | exact Nat.le_refl _⟩, ⟨by (with_reducible repeat (first | apply Kd.N_alloc | apply Kd.N_drewN | apply Kd.N_drew)); exact HO_15.out⟩, ⟨pL_ HO_346000.out⟩, ⟨pL_ HO357.out⟩, ⟨pG_ BK345.out⟩, ⟨pG_ BK354.out⟩, ⟨pG_ BK361.out⟩, ⟨pH_ HB.out⟩⟩
             ·
              rw [if_neg c49] at H; exact absurd H (by simp)
            ·
             rw [if_neg c48] at H; have c48b0 : (t360 == 0) = false := beq_eq_false_iff_ne.mpr c48; have c48b1 : (t360 != 0) = true := bne_iff_ne.mpr c48; (first | rw [c48b0] | (simp only [i64_w, i32_w]; rw [c48b0]) | skip); exact absurd (H.trans (congrArg some HRT_.out)) (by first | (simp; done) | (generalize k3 = k_; cases k_ <;> simp [bitlofttop_TopKernel.j0, bitlofttop_TopKernel.j1, bitlofttop_TopKernel.l0, bitlofttop_TopKernel.j3, bitlofttop_TopKernel.l1, bitlofttop_TopKernel.j5, bitlofttop_TopKernel.j6]))
           case rest =>
            (try (refine hKt_ _ _ ?_; clear hKt_; clear Kt_)); clear HC37
            try clear c2
            try clear p2
            try clear c3
            try clear p3
            try clear q3
            try clear hx3
            try clear c4
            try clear c5
            try clear c5b0
            try clear c5b1
            try clear c6
            try clear c6b0
            try clear c7
            try clear c8
            try clear c9
            try clear c26
            try clear c26b0
            try clear c26b1
            try clear c27
            try clear c27b0
            try clear c27b1
            try clear c28
            try clear c28b0
            try clear c28b1
            try clear c29
            try clear c29b0
            try clear c29b1
            try clear c30
            try clear c32
            try clear c35
            try clear c35b0
            try clear p36
            try clear q36
            try clear hx36
            try clear c38
            try clear c44
            try clear c45
            try clear c48
            try clear c48b0
            try clear c48b1
            try clear c49
            try clear c49b0
            try clear hcz21_0
            try clear hcz21_1
            try clear hcz24_0
            try clear hcz24_1
            try clear hcz33_0
            try clear hcz33_1
            try clear hcz33_2
            try clear hcz39_0
            try clear hcz39_1
            try clear hcz46_0
            try clear hcz46_1
            try clear hfz21_0
            try clear hfz21_1
            try clear hfz24_0
            try clear hfz24_1
            try clear hfz33_0
            try clear hfz33_1
            try clear hfz33_2
            try clear hfz39_0
            try clear hfz39_1
            try clear hfz46_0
            try clear hfz46_1
            try clear hx362_0
            try clear p2
            try clear p362
            try clear q362
            obtain ⟨kq, x110_36, rfl, HA, HJ36, HO_15, HO_346000, HO_362000, BK345, BK354, BK361, HB⟩ := hcut
            cases kq with
            | zero => exact absurd HA.out (by simp [bitlofttop_TopKernel.j3])
            | succ kj36 =>
             have H := HA.out; clear HA; simp only [bitlofttop_TopKernel.j3] at H
             by_cases c50 : x110_36 = true
             ·
              subst c50
              have H1 : (some false) = some r := by rw [if_pos rfl] at H; exact H
              clear H; have H := H1; clear H1; exact absurd (H.trans (congrArg some HRT_.out)) (by simp)
             ·
              replace c50 := Bool.eq_false_iff.mpr c50
              subst c50
              have H1 : ((hashes_Step.f kj36 x13_3 ((t359) % 256)).bind fun t363 => ((some (([(([(t359) % 256] : List Int))] : List (List Int)) : List (List Int))).bind fun y367 => (if x15_3.length + y367.length < 5864062014805 then (bitlofttop_TopKernel.l1 kj36 l0 a1 a2 t363 (x15_3 ++ y367) x16_3 x18_3 t359 7 t355 t358 x355000_3 x355001_3 x355002_3) else (none)))) = some r := by rw [if_neg (show ¬ (false = true) by decide)] at H; exact H
              clear H; have H := H1; clear H1; replace H := Option.bind_eq_some_iff.mp H; obtain ⟨t363, A510, H⟩ := H; replace H : ((some (([(([(t359) % 256] : List Int))] : List (List Int)) : List (List Int))).bind fun y367 => (if x15_3.length + y367.length < 5864062014805 then (bitlofttop_TopKernel.l1 kj36 l0 a1 a2 t363 (x15_3 ++ y367) x16_3 x18_3 t359 7 t355 t358 x355000_3 x355001_3 x355002_3) else (none))) = some r := H; have A51 := Aside0.mk A510; clear A510; obtain ⟨y364, hy364⟩ : ∃ y_ : List Int, y_ = (([(t359) % 256] : List Int)) := ⟨_, rfl⟩
              replace H : ((some (([y364] : List (List Int)) : List (List Int))).bind fun y367 => (if x15_3.length + y367.length < 5864062014805 then (bitlofttop_TopKernel.l1 kj36 l0 a1 a2 t363 (x15_3 ++ y367) x16_3 x18_3 t359 7 t355 t358 x355000_3 x355001_3 x355002_3) else (none))) = some r := by first | (rw [hy364]; with_reducible exact H) | (have H2_ := (Option.bind_some _ _).symm.trans H; rw [hy364]; with_reducible exact H2_) | (have H2_ := (Option.bind_some _ _).symm.trans H; with_reducible exact H2_) | with_reducible exact H | (rw [hy364]; exact H) | exact H
              have Ny364 := Aside0.mk hy364; clear hy364; obtain ⟨y367, hy367⟩ : ∃ y_ : List (List Int), y_ = (([y364] : List (List Int))) := ⟨_, rfl⟩
              replace H : (if x15_3.length + y367.length < 5864062014805 then (bitlofttop_TopKernel.l1 kj36 l0 a1 a2 t363 (x15_3 ++ y367) x16_3 x18_3 t359 7 t355 t358 x355000_3 x355001_3 x355002_3) else (none)) = some r := by first | (rw [hy367]; with_reducible exact H) | (have H2_ := (Option.bind_some _ _).symm.trans H; rw [hy367]; with_reducible exact H2_) | (have H2_ := (Option.bind_some _ _).symm.trans H; with_reducible exact H2_) | with_reducible exact H | (rw [hy367]; exact H) | exact H
              have Ny367 := Aside0.mk hy367; clear hy367
              by_cases c52 : x15_3.length + y367.length < 5864062014805
              ·
               rw [if_pos c52] at H; have LMc52 := Aside0.mk c52; clear c52; obtain ⟨y370, hy370⟩ : ∃ y_ : List (List Int), y_ = (x15_3 ++ y367) := ⟨_, rfl⟩
               replace H : (bitlofttop_TopKernel.l1 kj36 l0 a1 a2 t363 y370 x16_3 x18_3 t359 7 t355 t358 x355000_3 x355001_3 x355002_3) = some r := by first | (rw [hy370]; with_reducible exact H) | (have H2_ := (Option.bind_some _ _).symm.trans H; rw [hy370]; with_reducible exact H2_) | (have H2_ := (Option.bind_some _ _).symm.trans H; with_reducible exact H2_) | with_reducible exact H | (rw [hy370]; exact H) | exact H
               have Ny370 := Aside0.mk hy370; clear hy370; have H' := Aside0.mk H; clear H; obtain ⟨Ao53, co53, eo53⟩ := Kd.N_slice HO_15.out
               subst eo53
               try go_wp2
               have n0_ := Aside0.mk (Kd.N_drew HO_15.out); have n1_ := Aside0.mk (Kd.R_drew HO_346000.out); have n2_ := Aside0.mk (Kd.R_drew HO_362000.out); have n3_ := Aside0.mk (blk_drew BK345.out); have n4_ := Aside0.mk (blk_drew BK354.out); have n5_ := Aside0.mk (blk_drew BK361.out); have n6_ := Aside0.mk (below_drew1 HB.out); clear HO_15; clear HO_346000; clear HO_362000; clear BK345; clear BK354; clear BK361; clear HB; have HO_15 := n0_; have HO_346000 := n1_; have HO_362000 := n2_; have BK345 := n3_; have BK354 := n4_; have BK361 := n5_; have HB := n6_; clear n0_ n1_ n2_ n3_ n4_ n5_ n6_; refine start_ (n := 14) (S := fun w' => w'.cell? ⟨gb361, 0, none⟩ = some (.slice Ao43 t355.length co43) ∧ w'.cell? ⟨gb361, 1, none⟩ = some (.int .i64 t358)) (ds := []) #[f_, f_, f_, f_, f_, f_, f_, f_, f_, f_, f_, f_, f_, f_] (by kernel_rfl) rfl rfl ⟨(blk_cell BK361.out 0).trans rfl, (blk_cell BK361.out 1).trans rfl⟩ (fun hHeld => ?_); refine with_tabW bitlofttop_TopKernel.tab19 bitlofttop_TopKernel.bits19 (fun HT_ HW_ => ?_)
               generalize wc.drew = w54 at HO_15 HO_346000 HO_362000 BK345 BK354 BK361 HB hHeld ⊢
               refine pure_ (i := 1) (N := some 112) (v := ?_) (a' := ?_) #[f_, t_, f_, f_, f_, f_, f_, f_, f_, f_, f_, f_, f_, f_] rfl rfl (any_of HT_.out (by kernel_rfl)) (fun _ _ _ h => h) (Or.inl ⟨by rfl, ?_⟩) ?_ ?_; rotate_left
               ·
                intro w'; go_simp
                with_reducible rfl
               rotate_left
               ·
                simp only [Act.put, sA_, sZ_, sS_, i64_w, i32_w]; rfl
               refine pure_ (i := 2) (N := some 113) (v := ?_) (a' := ?_) #[f_, t_, t_, f_, f_, f_, f_, f_, f_, f_, f_, f_, f_, f_] rfl rfl (any_of HT_.out (by kernel_rfl)) (fun _ _ _ h => h) (Or.inl ⟨by rfl, ?_⟩) ?_ ?_; rotate_left
               ·
                intro w'; go_simp
                with_reducible rfl
               rotate_left
               ·
                simp only [Act.put, sA_, sZ_, sS_, i64_w, i32_w]; rfl
               refine pure_ (i := 3) (N := some 114) (v := ?_) (a' := ?_) #[f_, t_, t_, t_, f_, f_, f_, f_, f_, f_, f_, f_, f_, f_] rfl rfl (any_of HT_.out (by kernel_rfl)) (fun _ _ _ h => h) (Or.inl ⟨by rfl, ?_⟩) ?_ ?_; rotate_left
               ·
                intro w'; go_simp
                with_reducible rfl
               rotate_left
               ·
                simp only [Act.put, sA_, sZ_, sS_, i64_w, i32_w]; rfl
               refine pure_ (i := 5) (N := some 116) (v := ?_) (a' := ?_) #[f_, t_, t_, t_, f_, t_, f_, f_, f_, f_, f_, f_, f_, f_] rfl rfl (any_of HT_.out (by kernel_rfl)) (fun _ _ _ h => h) (Or.inl ⟨by rfl, ?_⟩) ?_ ?_; rotate_left
               ·
                intro w'; go_simp
                with_reducible rfl
               rotate_left
               ·
                simp only [Act.put, sA_, sZ_, sS_, i64_w, i32_w]; rfl
               refine pure_ (i := 6) (N := some 117) (v := ?_) (a' := ?_) #[f_, t_, t_, t_, f_, t_, t_, f_, f_, f_, f_, f_, f_, f_] rfl rfl (any_of HT_.out (by kernel_rfl)) (fun _ _ _ h => h) (Or.inl ⟨by rfl, ?_⟩) ?_ ?_; rotate_left
               ·
                intro w'; go_simp
                with_reducible rfl
               rotate_left
               ·
                simp only [Act.put, sA_, sZ_, sS_, i64_w, i32_w]; rfl
               refine pure_ (i := 7) (N := some 118) (v := ?_) (a' := ?_) #[f_, t_, t_, t_, f_, t_, t_, t_, f_, f_, f_, f_, f_, f_] rfl rfl (any_of HT_.out (by kernel_rfl)) (fun _ _ _ h => h) (Or.inl ⟨by rfl, ?_⟩) ?_ ?_; rotate_left
               ·
                intro w'; go_simp
                with_reducible rfl
               rotate_left
               ·
                simp only [Act.put, sA_, sZ_, sS_, i64_w, i32_w]; rfl
               refine take_ (i := 0) (N := some 111) (v := ?_) (a' := ?_) #[t_, t_, t_, t_, f_, t_, t_, t_, f_, f_, f_, f_, f_, f_] rfl rfl (take_ofW HT_.out HW_.out (by kernel_rfl)) (fun _ _ _ h => h) (Or.inl ⟨by rfl, ?_⟩) hHeld ?_ ?_; rotate_left
               ·
                rintro w' ⟨s0, s1⟩
                go_simp
                with_reducible rfl
               rotate_left
               ·
                simp only [Act.put, sA_, sZ_, sS_, i64_w, i32_w]; rfl
               refine join_ (σ := Value × Value) 4 #[t_, t_, t_, t_, t_, t_, t_, t_, t_, t_, f_, f_, f_, f_] (fun s_ => [(115, .int .u32 t363), (119, s_.1), (120, s_.2)]) (fun s_ w' => (w'.cell? ⟨gb361, 0, none⟩ = some (.slice Ao43 t355.length co43) ∧ w'.cell? ⟨gb361, 1, none⟩ = some (.int .i64 t358)) ∧ (Kd.N (Kd.slice 5 (Kd.int .u8)) 22 w' w.heap.size (fun k_ => nO_ k_ (.slice Ao53 x15_3.length co53) ∧ nO_ k_ (.slice Ao40 x346000_3.length co40) ∧ nO_ k_ (.slice Ao43 t355.length co43) ∧ k_ ≠ gb345 ∧ k_ ≠ gb354 ∧ k_ ≠ gb361) s_.2 y367) ∧ (Kd.N (Kd.slice 5 (Kd.int .u8)) 22 w' w.heap.size (fun k_ => nO_ k_ s_.2 ∧ nO_ k_ (.slice Ao40 x346000_3.length co40) ∧ nO_ k_ (.slice Ao43 t355.length co43) ∧ k_ ≠ gb345 ∧ k_ ≠ gb354 ∧ k_ ≠ gb361) (.slice Ao53 x15_3.length co53) x15_3) ∧ (Kd.R (Kd.int .u8) 5 w' w.heap.size (fun k_ => nO_ k_ (.slice Ao43 t355.length co43)) (.slice Ao40 x346000_3.length co40) x346000_3) ∧ (Kd.R (Kd.int .u8) 5 w' w.heap.size (fun k_ => nO_ k_ (.slice Ao40 x346000_3.length co40)) (.slice Ao43 t355.length co43) t355) ∧ (w'.heap[gb345]? = some (.cells #[.slice Ao40 x346000_3.length co40, .int .i64 x346001_3] 28 (0, 0))) ∧ (w'.heap[gb354]? = some (.cells #[.int .i32 x355000_3, .int .i32 x355001_3, .int .u8 x355002_3] 39 (0, 0))) ∧ (w'.heap[gb361]? = some (.cells #[.slice Ao43 t355.length co43, .int .i64 t358] 28 (0, 0))) ∧ (Below w.heap.size w w')) ?_ ?_; rotate_left
               ·
                intro hCont; refine two_ (i := 4) (j := 8) (Ni := some 115) (Nj := some 119) #[t_, t_, t_, t_, t_, t_, t_, t_, f_, f_, f_, f_, f_, f_] #[t_, t_, t_, t_, f_, t_, t_, t_, t_, f_, f_, f_, f_, f_] rfl rfl rfl rfl (two_of HT_.out (by kernel_rfl)) (by decide) (by decide) (fun K hK => ?_) (fun K hK => ?_)
                ·
                 skip
                 refine goes_ Tryd.func10 (by kernel_rfl) rfl #[.int .u32 x13_3, .int .u8 ((t359) % 256)] (by rfl) rfl rfl (by (try simp only [List.map_toArray, List.map_cons, List.map_nil]); first | done | rfl | (simp only [List.length_drop, List.length_take]; rfl)) ?_
                 with_reducible refine (hashes_Step.calls kj36 x13_3 ((t359) % 256) t363 _ A51.out).mono ?_
                 rintro e w55 ⟨rfl, hb⟩
                 refine ⟨_, rfl, ?_⟩; have n0_ := Aside0.mk (Kd.N_below (by (with_reducible repeat (first | apply Kd.N_alloc | apply Kd.N_drewN | apply Kd.N_drew)); exact HO_15.out) hb); have n1_ := Aside0.mk (Kd.R_below (pL_ HO_346000.out) hb); have n2_ := Aside0.mk (Kd.R_below (pL_ HO_362000.out) hb); have n3_ := Aside0.mk (blk_below (pG_ BK345.out) hb); have n4_ := Aside0.mk (blk_below (pG_ BK354.out) hb); have n5_ := Aside0.mk (blk_below (pG_ BK361.out) hb); have n6_ := Aside0.mk (below_step (pH_ HB.out) hb); clear HO_15; clear HO_346000; clear HO_362000; clear BK345; clear BK354; clear BK361; clear HB; have HO_15 := n0_; have HO_346000 := n1_; have HO_362000 := n2_; have BK345 := n3_; have BK354 := n4_; have BK361 := n5_; have HB := n6_; clear n0_ n1_ n2_ n3_ n4_ n5_ n6_; (try clear hb); (try clear hb2); (try clear hk); (try clear hi); refine hK.out _ _ ⟨(blk_cell BK361.out 0).trans rfl, (blk_cell BK361.out 1).trans rfl⟩ (fun hHeld => ?_); clear hK K; refine norm_ (a' := ?_) ?_ ?_; rotate_left
                 ·
                  show Act.put _ (some 115) _ = _
                  simp only [Act.put, sA_, sZ_, sS_, i64_w, i32_w]; rfl
                 refine one_ (i := 8) (N := some 119) #[t_, t_, t_, t_, t_, t_, t_, t_, t_, f_, f_, f_, f_, f_] rfl rfl (one_of HT_.out (by kernel_rfl)) (by decide) (fun K hK => ?_); refine Kd.R_lit_step (Kd.int .u8) _ 5 ?hg (N := 119) ?hd (xs := ([(t359) % 256] : List Int)) (inner := [.int .u8 ((t359) % 256)]) (ok := fun _ => True) (okp := fun _ => True) ?hr ?hp (fun _ hk => hk) trivial (Below.refl _ _) (Nat.le_refl _) (by simp) ?_; (case hd => rfl); (case hg => rfl); (case hr => first | (go_simp; done) | (go_simp; rfl)); (case hp => exact (Reps.one (show Kd.M (Kd.int .u8) _ _ _ ((t359) % 256) [.int .u8 ((t359) % 256)] from rfl) (Reps.none _ _))); intro v365 w56 ho57 hb hg_ hnew_; clear hg_ hnew_; (first | rw [← Ny364.out] at ho57 | (simp only [Int.reduceToNat] at ho57; rw [← Ny364.out] at ho57)); have n0_ := Aside0.mk (Kd.N_elder' (by (with_reducible repeat (first | apply Kd.N_alloc | apply Kd.N_drewN | apply Kd.N_drew)); exact HO_15.out) (Kd.R_base ho57) hb); have n1_ := Aside0.mk (Kd.R_elder' (pL_ HO_346000.out) (Kd.R_base ho57) hb); have n2_ := Aside0.mk (Kd.R_elder' (pL_ HO_362000.out) (Kd.R_base ho57) hb); have n3_ := Aside0.mk (Kd.R_lower (Kd.R_new' (Kd.R_new' ho57 (Kd.R_lt (pL_ HO_346000.out))) (Kd.R_lt (pL_ HO_362000.out))) (below_size (pH_ HB.out))); have n4_ := Aside0.mk (blk_below (pG_ BK345.out) hb); have n5_ := Aside0.mk (blk_below (pG_ BK354.out) hb); have n6_ := Aside0.mk (blk_below (pG_ BK361.out) hb); have n7_ := Aside0.mk (below_step (pH_ HB.out) hb); clear HO_15; clear HO_346000; clear HO_362000; clear BK345; clear BK354; clear BK361; clear HB; have HO_15 := n0_; have HO_346000 := n1_; have HO_362000 := n2_; have HO366 := n3_; have BK345 := n4_; have BK354 := n5_; have BK361 := n6_; have HB := n7_; clear n0_ n1_ n2_ n3_ n4_ n5_ n6_ n7_; clear hb ho57; obtain ⟨Ao58, co58, eo58⟩ := Kd.R_slice HO366.out; (first | subst eo58 | (injection eo58 with f1_ f2_ f3_; have f4_ := f1_.symm; have f5_ := f3_.symm; clear f1_ f2_ f3_; subst f4_; subst f5_)); refine hK.out _ _ ⟨(blk_cell BK361.out 0).trans rfl, (blk_cell BK361.out 1).trans rfl⟩ (fun hHeld => ?_); clear hK K; refine norm_ (a' := ?_) ?_ ?_; rotate_left
                 ·
                  show Act.put _ (some 119) _ = _
                  simp only [Act.put, sA_, sZ_, sS_, i64_w, i32_w]; rfl
                 refine one_ (i := 9) (N := some 120) #[t_, t_, t_, t_, t_, t_, t_, t_, t_, t_, f_, f_, f_, f_] rfl rfl (one_of HT_.out (by kernel_rfl)) (by decide) (fun K hK => ?_); refine Kd.N_lit_step (Kd.slice 5 (Kd.int .u8)) _ 22 ?hg (N' := 120) ?hd (xs := ([y364] : List (List Int))) (inner := [.slice Ao58 y364.length co58]) (ok := (fun k_ => nO_ k_ (.slice Ao53 x15_3.length co53) ∧ nO_ k_ (.slice Ao40 x346000_3.length co40) ∧ nO_ k_ (.slice Ao43 t355.length co43) ∧ k_ ≠ gb345 ∧ k_ ≠ gb354 ∧ k_ ≠ gb361)) (okp := (fun k_ => nO_ k_ (.slice Ao53 x15_3.length co53) ∧ nO_ k_ (.slice Ao40 x346000_3.length co40) ∧ nO_ k_ (.slice Ao43 t355.length co43) ∧ k_ ≠ gb345 ∧ k_ ≠ gb354 ∧ k_ ≠ gb361)) ?hr ?hp (fun _ hk => hk) ((show ∀ k_, w56.heap.size ≤ k_ → (fun k_ => nO_ k_ (.slice Ao53 x15_3.length co53) ∧ nO_ k_ (.slice Ao40 x346000_3.length co40) ∧ nO_ k_ (.slice Ao43 t355.length co43) ∧ k_ ≠ gb345 ∧ k_ ≠ gb354 ∧ k_ ≠ gb361) k_ from fun k_ hk => ⟨Kd.fresh' (Kd.N_lt (by (with_reducible repeat (first | apply Kd.N_alloc | apply Kd.N_drewN | apply Kd.N_drew)); exact HO_15.out)) k_ hk, Kd.fresh' (Kd.R_lt (pL_ HO_346000.out)) k_ hk, Kd.fresh' (Kd.R_lt (pL_ HO_362000.out)) k_ hk, Kd.freshB (g := gb345) (o := .cells #[.slice Ao40 x346000_3.length co40, .int .i64 x346001_3] 28 (0, 0)) (pG_ BK345.out) k_ hk, Kd.freshB (g := gb354) (o := .cells #[.int .i32 x355000_3, .int .i32 x355001_3, .int .u8 x355002_3] 39 (0, 0)) (pG_ BK354.out) k_ hk, Kd.freshB (g := gb361) (o := .cells #[.slice Ao43 t355.length co43, .int .i64 t358] 28 (0, 0)) (pG_ BK361.out) k_ hk⟩) _ (Nat.le_refl _)) (Below.refl _ _) (Nat.le_refl _) (by simp) ?_; (case hd => rfl); (case hg => rfl); (case hr => first | (go_simp; done) | (go_simp; rfl)); have zf0_ := (Kd.R_mono (ok' := (fun k_ => nO_ k_ (.slice Ao53 x15_3.length co53) ∧ nO_ k_ (.slice Ao40 x346000_3.length co40) ∧ nO_ k_ (.slice Ao43 t355.length co43) ∧ k_ ≠ gb345 ∧ k_ ≠ gb354 ∧ k_ ≠ gb361)) (Kd.R_types (Kd.R_types (Kd.R_types (Kd.R_apart' (HO366.out) (Kd.N_typed HO_15.out) (by decide)) BK345.out (by decide)) BK354.out (by decide)) BK361.out (by decide)) (fun k_ hk => ⟨hk.1.1.1.2, ⟨hk.1.1.1.1.1.2, ⟨hk.1.1.1.1.2, ⟨hk.1.1.2, ⟨hk.1.2, hk.2⟩⟩⟩⟩⟩)); (case hp => exact (Reps.one (show Kd.FK (Kd.slice 5 (Kd.int .u8)) _ _ y364 [.slice Ao58 y364.length co58] from (by first | exact Kd.FK_slice_mk (Kd.R_reads' zf0_).2.1 (Kd.R_F zf0_) | (obtain ⟨Az_, cz_, ez_⟩ := Kd.R_slice zf0_; have zg_ := zf0_; rw [ez_] at zg_ ⊢; exact Kd.FK_slice_mk (Kd.R_reads' zg_).2.1 (Kd.R_F zg_)))) (Reps.none _ _))); intro v368 w59 ho60 hb hg_ hnew_; clear hg_ hnew_; (first | rw [← Ny367.out] at ho60 | (simp only [Int.reduceToNat] at ho60; rw [← Ny367.out] at ho60)); have n0_ := Aside0.mk (Kd.N_elder' (by (with_reducible repeat (first | apply Kd.N_alloc | apply Kd.N_drewN | apply Kd.N_drew)); exact HO_15.out) (by first | exact Kd.N_base ho60 | exact Kd.N_base (Kd.S_N ho60)) hb); have n1_ := Aside0.mk (Kd.R_below (pL_ HO_346000.out) hb); have n2_ := Aside0.mk (Kd.R_below (pL_ HO_362000.out) hb); have n3_ := Aside0.mk (Kd.N_lower ho60 (below_size (pH_ HB.out))); have n4_ := Aside0.mk (blk_below (pG_ BK345.out) hb); have n5_ := Aside0.mk (blk_below (pG_ BK354.out) hb); have n6_ := Aside0.mk (blk_below (pG_ BK361.out) hb); have n7_ := Aside0.mk (below_step (pH_ HB.out) hb); clear HO_15; clear HO_346000; clear HO_362000; clear BK345; clear BK354; clear BK361; clear HB; clear HO366; have HO_15 := n0_; have HO_346000 := n1_; have HO_362000 := n2_; have HO369 := n3_; have BK345 := n4_; have BK354 := n5_; have BK361 := n6_; have HB := n7_; clear n0_ n1_ n2_ n3_ n4_ n5_ n6_ n7_; clear hb ho60; refine hK.out _ _ ⟨(blk_cell BK361.out 0).trans rfl, (blk_cell BK361.out 1).trans rfl⟩ (fun hHeld => ?_); clear hK K; refine norm_ (a' := ?_) ?_ ?_; rotate_left
                 ·
                  show Act.put _ (some 120) _ = _
                  simp only [Act.put, sA_, sZ_, sS_, i64_w, i32_w]; rfl
                 exact norm_ (by simp only [putAll, Act.put, sA_, sZ_, sS_]) (hCont (.slice Ao58 y364.length co58, v368) _ ⟨hHeld, (by (with_reducible repeat (first | apply Kd.N_alloc | apply Kd.N_drewN | apply Kd.N_drew)); exact HO369.out), (by (with_reducible repeat (first | apply Kd.N_alloc | apply Kd.N_drewN | apply Kd.N_drew)); exact Kd.N_mono HO_15.out (fun _ hk => ⟨hk.2, ⟨hk.1.1.1, ⟨hk.1.1.2.1, ⟨hk.1.1.2.2.1, ⟨hk.1.1.2.2.2.1, hk.1.1.2.2.2.2⟩⟩⟩⟩⟩)), (by (with_reducible repeat (first | apply rA_ | apply rN_ | apply rD_)); exact Kd.R_mono HO_346000.out (fun _ hk => hk.1)), (by (with_reducible repeat (first | apply rA_ | apply rN_ | apply rD_)); exact Kd.R_mono HO_362000.out (fun _ hk => hk.1)), (pG_ BK345.out), (pG_ BK354.out), (pG_ BK361.out), (pH_ HB.out)⟩)
                ·
                 skip
                 refine Kd.R_lit_step (Kd.int .u8) _ 5 ?hg (N := 119) ?hd (xs := ([(t359) % 256] : List Int)) (inner := [.int .u8 ((t359) % 256)]) (ok := fun _ => True) (okp := fun _ => True) ?hr ?hp (fun _ hk => hk) trivial (Below.refl _ _) (Nat.le_refl _) (by simp) ?_; (case hd => rfl); (case hg => rfl); (case hr => first | (go_simp; done) | (go_simp; rfl)); (case hp => exact (Reps.one (show Kd.M (Kd.int .u8) _ _ _ ((t359) % 256) [.int .u8 ((t359) % 256)] from rfl) (Reps.none _ _))); intro v365 w55 ho56 hb hg_ hnew_; clear hg_ hnew_; (first | rw [← Ny364.out] at ho56 | (simp only [Int.reduceToNat] at ho56; rw [← Ny364.out] at ho56)); have n0_ := Aside0.mk (Kd.N_elder' (by (with_reducible repeat (first | apply Kd.N_alloc | apply Kd.N_drewN | apply Kd.N_drew)); exact HO_15.out) (Kd.R_base ho56) hb); have n1_ := Aside0.mk (Kd.R_elder' (pL_ HO_346000.out) (Kd.R_base ho56) hb); have n2_ := Aside0.mk (Kd.R_elder' (pL_ HO_362000.out) (Kd.R_base ho56) hb); have n3_ := Aside0.mk (Kd.R_lower (Kd.R_new' (Kd.R_new' ho56 (Kd.R_lt (pL_ HO_346000.out))) (Kd.R_lt (pL_ HO_362000.out))) (below_size (pH_ HB.out))); have n4_ := Aside0.mk (blk_below (pG_ BK345.out) hb); have n5_ := Aside0.mk (blk_below (pG_ BK354.out) hb); have n6_ := Aside0.mk (blk_below (pG_ BK361.out) hb); have n7_ := Aside0.mk (below_step (pH_ HB.out) hb); clear HO_15; clear HO_346000; clear HO_362000; clear BK345; clear BK354; clear BK361; clear HB; have HO_15 := n0_; have HO_346000 := n1_; have HO_362000 := n2_; have HO366 := n3_; have BK345 := n4_; have BK354 := n5_; have BK361 := n6_; have HB := n7_; clear n0_ n1_ n2_ n3_ n4_ n5_ n6_ n7_; clear hb ho56; refine hK.out _ _ ⟨(blk_cell BK361.out 0).trans rfl, (blk_cell BK361.out 1).trans rfl⟩ (fun hHeld => ?_); clear hK K; refine norm_ (a' := ?_) ?_ ?_; rotate_left
                 ·
                  show Act.put _ (some 119) _ = _
                  simp only [Act.put, sA_, sZ_, sS_, i64_w, i32_w]; rfl
                 refine two_ (i := 4) (j := 9) (Ni := some 115) (Nj := some 120) #[t_, t_, t_, t_, t_, t_, t_, t_, t_, f_, f_, f_, f_, f_] #[t_, t_, t_, t_, f_, t_, t_, t_, t_, t_, f_, f_, f_, f_] rfl rfl rfl rfl (two_of HT_.out (by kernel_rfl)) (by decide) (by decide) (fun K hK => ?_) (fun K hK => ?_)
                 ·
                  skip
                  refine goes_ Tryd.func10 (by kernel_rfl) rfl #[.int .u32 x13_3, .int .u8 ((t359) % 256)] (by rfl) rfl rfl (by (try simp only [List.map_toArray, List.map_cons, List.map_nil]); first | done | rfl | (simp only [List.length_drop, List.length_take]; rfl)) ?_
                  with_reducible refine (hashes_Step.calls kj36 x13_3 ((t359) % 256) t363 _ A51.out).mono ?_
                  rintro e w57 ⟨rfl, hb⟩
                  refine ⟨_, rfl, ?_⟩; have n0_ := Aside0.mk (Kd.N_below (by (with_reducible repeat (first | apply Kd.N_alloc | apply Kd.N_drewN | apply Kd.N_drew)); exact HO_15.out) hb); have n1_ := Aside0.mk (Kd.R_below (pL_ HO_346000.out) hb); have n2_ := Aside0.mk (Kd.R_below (pL_ HO_362000.out) hb); have n3_ := Aside0.mk (Kd.R_below (pL_ HO366.out) hb); have n4_ := Aside0.mk (blk_below (pG_ BK345.out) hb); have n5_ := Aside0.mk (blk_below (pG_ BK354.out) hb); have n6_ := Aside0.mk (blk_below (pG_ BK361.out) hb); have n7_ := Aside0.mk (below_step (pH_ HB.out) hb); clear HO_15; clear HO_346000; clear HO_362000; clear HO366; clear BK345; clear BK354; clear BK361; clear HB; have HO_15 := n0_; have HO_346000 := n1_; have HO_362000 := n2_; have HO366 := n3_; have BK345 := n4_; have BK354 := n5_; have BK361 := n6_; have HB := n7_; clear n0_ n1_ n2_ n3_ n4_ n5_ n6_ n7_; (try clear hb); (try clear hb2); (try clear hk); (try clear hi); obtain ⟨Ao58, co58, eo58⟩ := Kd.R_slice HO366.out; (first | subst eo58 | (injection eo58 with f1_ f2_ f3_; have f4_ := f1_.symm; have f5_ := f3_.symm; clear f1_ f2_ f3_; subst f4_; subst f5_)); refine hK.out _ _ ⟨(blk_cell BK361.out 0).trans rfl, (blk_cell BK361.out 1).trans rfl⟩ (fun hHeld => ?_); clear hK K; refine norm_ (a' := ?_) ?_ ?_; rotate_left
                  ·
                   show Act.put _ (some 115) _ = _
                   simp only [Act.put, sA_, sZ_, sS_, i64_w, i32_w]; rfl
                  refine one_ (i := 9) (N := some 120) #[t_, t_, t_, t_, t_, t_, t_, t_, t_, t_, f_, f_, f_, f_] rfl rfl (one_of HT_.out (by kernel_rfl)) (by decide) (fun K hK => ?_); refine Kd.N_lit_step (Kd.slice 5 (Kd.int .u8)) _ 22 ?hg (N' := 120) ?hd (xs := ([y364] : List (List Int))) (inner := [.slice Ao58 y364.length co58]) (ok := (fun k_ => nO_ k_ (.slice Ao53 x15_3.length co53) ∧ nO_ k_ (.slice Ao40 x346000_3.length co40) ∧ nO_ k_ (.slice Ao43 t355.length co43) ∧ k_ ≠ gb345 ∧ k_ ≠ gb354 ∧ k_ ≠ gb361)) (okp := (fun k_ => nO_ k_ (.slice Ao53 x15_3.length co53) ∧ nO_ k_ (.slice Ao40 x346000_3.length co40) ∧ nO_ k_ (.slice Ao43 t355.length co43) ∧ k_ ≠ gb345 ∧ k_ ≠ gb354 ∧ k_ ≠ gb361)) ?hr ?hp (fun _ hk => hk) ((show ∀ k_, w57.heap.size ≤ k_ → (fun k_ => nO_ k_ (.slice Ao53 x15_3.length co53) ∧ nO_ k_ (.slice Ao40 x346000_3.length co40) ∧ nO_ k_ (.slice Ao43 t355.length co43) ∧ k_ ≠ gb345 ∧ k_ ≠ gb354 ∧ k_ ≠ gb361) k_ from fun k_ hk => ⟨Kd.fresh' (Kd.N_lt (by (with_reducible repeat (first | apply Kd.N_alloc | apply Kd.N_drewN | apply Kd.N_drew)); exact HO_15.out)) k_ hk, Kd.fresh' (Kd.R_lt (pL_ HO_346000.out)) k_ hk, Kd.fresh' (Kd.R_lt (pL_ HO_362000.out)) k_ hk, Kd.freshB (g := gb345) (o := .cells #[.slice Ao40 x346000_3.length co40, .int .i64 x346001_3] 28 (0, 0)) (pG_ BK345.out) k_ hk, Kd.freshB (g := gb354) (o := .cells #[.int .i32 x355000_3, .int .i32 x355001_3, .int .u8 x355002_3] 39 (0, 0)) (pG_ BK354.out) k_ hk, Kd.freshB (g := gb361) (o := .cells #[.slice Ao43 t355.length co43, .int .i64 t358] 28 (0, 0)) (pG_ BK361.out) k_ hk⟩) _ (Nat.le_refl _)) (Below.refl _ _) (Nat.le_refl _) (by simp) ?_; (case hd => rfl); (case hg => rfl); (case hr => first | (go_simp; done) | (go_simp; rfl)); have zf0_ := (Kd.R_mono (ok' := (fun k_ => nO_ k_ (.slice Ao53 x15_3.length co53) ∧ nO_ k_ (.slice Ao40 x346000_3.length co40) ∧ nO_ k_ (.slice Ao43 t355.length co43) ∧ k_ ≠ gb345 ∧ k_ ≠ gb354 ∧ k_ ≠ gb361)) (Kd.R_types (Kd.R_types (Kd.R_types (Kd.R_apart' (HO366.out) (Kd.N_typed HO_15.out) (by decide)) BK345.out (by decide)) BK354.out (by decide)) BK361.out (by decide)) (fun k_ hk => ⟨hk.1.1.1.2, ⟨hk.1.1.1.1.1.2, ⟨hk.1.1.1.1.2, ⟨hk.1.1.2, ⟨hk.1.2, hk.2⟩⟩⟩⟩⟩)); (case hp => exact (Reps.one (show Kd.FK (Kd.slice 5 (Kd.int .u8)) _ _ y364 [.slice Ao58 y364.length co58] from (by first | exact Kd.FK_slice_mk (Kd.R_reads' zf0_).2.1 (Kd.R_F zf0_) | (obtain ⟨Az_, cz_, ez_⟩ := Kd.R_slice zf0_; have zg_ := zf0_; rw [ez_] at zg_ ⊢; exact Kd.FK_slice_mk (Kd.R_reads' zg_).2.1 (Kd.R_F zg_)))) (Reps.none _ _))); intro v368 w59 ho60 hb hg_ hnew_; clear hg_ hnew_; (first | rw [← Ny367.out] at ho60 | (simp only [Int.reduceToNat] at ho60; rw [← Ny367.out] at ho60)); have n0_ := Aside0.mk (Kd.N_elder' (by (with_reducible repeat (first | apply Kd.N_alloc | apply Kd.N_drewN | apply Kd.N_drew)); exact HO_15.out) (by first | exact Kd.N_base ho60 | exact Kd.N_base (Kd.S_N ho60)) hb); have n1_ := Aside0.mk (Kd.R_below (pL_ HO_346000.out) hb); have n2_ := Aside0.mk (Kd.R_below (pL_ HO_362000.out) hb); have n3_ := Aside0.mk (Kd.N_lower ho60 (below_size (pH_ HB.out))); have n4_ := Aside0.mk (blk_below (pG_ BK345.out) hb); have n5_ := Aside0.mk (blk_below (pG_ BK354.out) hb); have n6_ := Aside0.mk (blk_below (pG_ BK361.out) hb); have n7_ := Aside0.mk (below_step (pH_ HB.out) hb); clear HO_15; clear HO_346000; clear HO_362000; clear BK345; clear BK354; clear BK361; clear HB; clear HO366; have HO_15 := n0_; have HO_346000 := n1_; have HO_362000 := n2_; have HO369 := n3_; have BK345 := n4_; have BK354 := n5_; have BK361 := n6_; have HB := n7_; clear n0_ n1_ n2_ n3_ n4_ n5_ n6_ n7_; clear hb ho60; refine hK.out _ _ ⟨(blk_cell BK361.out 0).trans rfl, (blk_cell BK361.out 1).trans rfl⟩ (fun hHeld => ?_); clear hK K; refine norm_ (a' := ?_) ?_ ?_; rotate_left
                  ·
                   show Act.put _ (some 120) _ = _
                   simp only [Act.put, sA_, sZ_, sS_, i64_w, i32_w]; rfl
                  exact norm_ (by simp only [putAll, Act.put, sA_, sZ_, sS_]) (hCont (.slice Ao58 y364.length co58, v368) _ ⟨hHeld, (by (with_reducible repeat (first | apply Kd.N_alloc | apply Kd.N_drewN | apply Kd.N_drew)); exact HO369.out), (by (with_reducible repeat (first | apply Kd.N_alloc | apply Kd.N_drewN | apply Kd.N_drew)); exact Kd.N_mono HO_15.out (fun _ hk => ⟨hk.2, ⟨hk.1.1.1, ⟨hk.1.1.2.1, ⟨hk.1.1.2.2.1, ⟨hk.1.1.2.2.2.1, hk.1.1.2.2.2.2⟩⟩⟩⟩⟩)), (by (with_reducible repeat (first | apply rA_ | apply rN_ | apply rD_)); exact Kd.R_mono HO_346000.out (fun _ hk => hk.1)), (by (with_reducible repeat (first | apply rA_ | apply rN_ | apply rD_)); exact Kd.R_mono HO_362000.out (fun _ hk => hk.1)), (pG_ BK345.out), (pG_ BK354.out), (pG_ BK361.out), (pH_ HB.out)⟩)
                 ·
                  obtain ⟨Ao57, co57, eo57⟩ := Kd.R_slice HO366.out; subst eo57
                  refine Kd.N_lit_step (Kd.slice 5 (Kd.int .u8)) _ 22 ?hg (N' := 120) ?hd (xs := ([y364] : List (List Int))) (inner := [.slice Ao57 y364.length co57]) (ok := (fun k_ => nO_ k_ (.slice Ao53 x15_3.length co53) ∧ nO_ k_ (.slice Ao40 x346000_3.length co40) ∧ nO_ k_ (.slice Ao43 t355.length co43) ∧ k_ ≠ gb345 ∧ k_ ≠ gb354 ∧ k_ ≠ gb361)) (okp := (fun k_ => nO_ k_ (.slice Ao53 x15_3.length co53) ∧ nO_ k_ (.slice Ao40 x346000_3.length co40) ∧ nO_ k_ (.slice Ao43 t355.length co43) ∧ k_ ≠ gb345 ∧ k_ ≠ gb354 ∧ k_ ≠ gb361)) ?hr ?hp (fun _ hk => hk) ((show ∀ k_, w55.heap.size ≤ k_ → (fun k_ => nO_ k_ (.slice Ao53 x15_3.length co53) ∧ nO_ k_ (.slice Ao40 x346000_3.length co40) ∧ nO_ k_ (.slice Ao43 t355.length co43) ∧ k_ ≠ gb345 ∧ k_ ≠ gb354 ∧ k_ ≠ gb361) k_ from fun k_ hk => ⟨Kd.fresh' (Kd.N_lt (by (with_reducible repeat (first | apply Kd.N_alloc | apply Kd.N_drewN | apply Kd.N_drew)); exact HO_15.out)) k_ hk, Kd.fresh' (Kd.R_lt (pL_ HO_346000.out)) k_ hk, Kd.fresh' (Kd.R_lt (pL_ HO_362000.out)) k_ hk, Kd.freshB (g := gb345) (o := .cells #[.slice Ao40 x346000_3.length co40, .int .i64 x346001_3] 28 (0, 0)) (pG_ BK345.out) k_ hk, Kd.freshB (g := gb354) (o := .cells #[.int .i32 x355000_3, .int .i32 x355001_3, .int .u8 x355002_3] 39 (0, 0)) (pG_ BK354.out) k_ hk, Kd.freshB (g := gb361) (o := .cells #[.slice Ao43 t355.length co43, .int .i64 t358] 28 (0, 0)) (pG_ BK361.out) k_ hk⟩) _ (Nat.le_refl _)) (Below.refl _ _) (Nat.le_refl _) (by simp) ?_; (case hd => rfl); (case hg => rfl); (case hr => first | (go_simp; done) | (go_simp; rfl)); have zf0_ := (Kd.R_mono (ok' := (fun k_ => nO_ k_ (.slice Ao53 x15_3.length co53) ∧ nO_ k_ (.slice Ao40 x346000_3.length co40) ∧ nO_ k_ (.slice Ao43 t355.length co43) ∧ k_ ≠ gb345 ∧ k_ ≠ gb354 ∧ k_ ≠ gb361)) (Kd.R_types (Kd.R_types (Kd.R_types (Kd.R_apart' (HO366.out) (Kd.N_typed HO_15.out) (by decide)) BK345.out (by decide)) BK354.out (by decide)) BK361.out (by decide)) (fun k_ hk => ⟨hk.1.1.1.2, ⟨hk.1.1.1.1.1.2, ⟨hk.1.1.1.1.2, ⟨hk.1.1.2, ⟨hk.1.2, hk.2⟩⟩⟩⟩⟩)); (case hp => exact (Reps.one (show Kd.FK (Kd.slice 5 (Kd.int .u8)) _ _ y364 [.slice Ao57 y364.length co57] from (by first | exact Kd.FK_slice_mk (Kd.R_reads' zf0_).2.1 (Kd.R_F zf0_) | (obtain ⟨Az_, cz_, ez_⟩ := Kd.R_slice zf0_; have zg_ := zf0_; rw [ez_] at zg_ ⊢; exact Kd.FK_slice_mk (Kd.R_reads' zg_).2.1 (Kd.R_F zg_)))) (Reps.none _ _))); intro v368 w58 ho59 hb hg_ hnew_; clear hg_ hnew_; (first | rw [← Ny367.out] at ho59 | (simp only [Int.reduceToNat] at ho59; rw [← Ny367.out] at ho59)); have n0_ := Aside0.mk (Kd.N_elder' (by (with_reducible repeat (first | apply Kd.N_alloc | apply Kd.N_drewN | apply Kd.N_drew)); exact HO_15.out) (by first | exact Kd.N_base ho59 | exact Kd.N_base (Kd.S_N ho59)) hb); have n1_ := Aside0.mk (Kd.R_below (pL_ HO_346000.out) hb); have n2_ := Aside0.mk (Kd.R_below (pL_ HO_362000.out) hb); have n3_ := Aside0.mk (Kd.N_lower ho59 (below_size (pH_ HB.out))); have n4_ := Aside0.mk (blk_below (pG_ BK345.out) hb); have n5_ := Aside0.mk (blk_below (pG_ BK354.out) hb); have n6_ := Aside0.mk (blk_below (pG_ BK361.out) hb); have n7_ := Aside0.mk (below_step (pH_ HB.out) hb); clear HO_15; clear HO_346000; clear HO_362000; clear BK345; clear BK354; clear BK361; clear HB; clear HO366; have HO_15 := n0_; have HO_346000 := n1_; have HO_362000 := n2_; have HO369 := n3_; have BK345 := n4_; have BK354 := n5_; have BK361 := n6_; have HB := n7_; clear n0_ n1_ n2_ n3_ n4_ n5_ n6_ n7_; clear hb ho59; refine hK.out _ _ ⟨(blk_cell BK361.out 0).trans rfl, (blk_cell BK361.out 1).trans rfl⟩ (fun hHeld => ?_); clear hK K; refine norm_ (a' := ?_) ?_ ?_; rotate_left
                  ·
                   show Act.put _ (some 120) _ = _
                   simp only [Act.put, sA_, sZ_, sS_, i64_w, i32_w]; rfl
                  refine one_ (i := 4) (N := some 115) #[t_, t_, t_, t_, t_, t_, t_, t_, t_, t_, f_, f_, f_, f_] rfl rfl (one_of HT_.out (by kernel_rfl)) (by decide) (fun K hK => ?_); refine goes_ Tryd.func10 (by kernel_rfl) rfl #[.int .u32 x13_3, .int .u8 ((t359) % 256)] (by rfl) rfl rfl (by (try simp only [List.map_toArray, List.map_cons, List.map_nil]); first | done | rfl | (simp only [List.length_drop, List.length_take]; rfl)) ?_
                  with_reducible refine (hashes_Step.calls kj36 x13_3 ((t359) % 256) t363 _ A51.out).mono ?_
                  rintro e w60 ⟨rfl, hb⟩
                  refine ⟨_, rfl, ?_⟩; have n0_ := Aside0.mk (Kd.N_below (by (with_reducible repeat (first | apply Kd.N_alloc | apply Kd.N_drewN | apply Kd.N_drew)); exact HO_15.out) hb); have n1_ := Aside0.mk (Kd.R_below (pL_ HO_346000.out) hb); have n2_ := Aside0.mk (Kd.R_below (pL_ HO_362000.out) hb); have n3_ := Aside0.mk (Kd.N_below (by (with_reducible repeat (first | apply Kd.N_alloc | apply Kd.N_drewN | apply Kd.N_drew)); exact HO369.out) hb); have n4_ := Aside0.mk (blk_below (pG_ BK345.out) hb); have n5_ := Aside0.mk (blk_below (pG_ BK354.out) hb); have n6_ := Aside0.mk (blk_below (pG_ BK361.out) hb); have n7_ := Aside0.mk (below_step (pH_ HB.out) hb); clear HO_15; clear HO_346000; clear HO_362000; clear HO369; clear BK345; clear BK354; clear BK361; clear HB; have HO_15 := n0_; have HO_346000 := n1_; have HO_362000 := n2_; have HO369 := n3_; have BK345 := n4_; have BK354 := n5_; have BK361 := n6_; have HB := n7_; clear n0_ n1_ n2_ n3_ n4_ n5_ n6_ n7_; (try clear hb); (try clear hb2); (try clear hk); (try clear hi); refine hK.out _ _ ⟨(blk_cell BK361.out 0).trans rfl, (blk_cell BK361.out 1).trans rfl⟩ (fun hHeld => ?_); clear hK K; refine norm_ (a' := ?_) ?_ ?_; rotate_left
                  ·
                   show Act.put _ (some 115) _ = _
                   simp only [Act.put, sA_, sZ_, sS_, i64_w, i32_w]; rfl
                  exact norm_ (by simp only [putAll, Act.put, sA_, sZ_, sS_]) (hCont (.slice Ao57 y364.length co57, v368) _ ⟨hHeld, (by (with_reducible repeat (first | apply Kd.N_alloc | apply Kd.N_drewN | apply Kd.N_drew)); exact HO369.out), (by (with_reducible repeat (first | apply Kd.N_alloc | apply Kd.N_drewN | apply Kd.N_drew)); exact Kd.N_mono HO_15.out (fun _ hk => ⟨hk.2, ⟨hk.1.1.1, ⟨hk.1.1.2.1, ⟨hk.1.1.2.2.1, ⟨hk.1.1.2.2.2.1, hk.1.1.2.2.2.2⟩⟩⟩⟩⟩)), (by (with_reducible repeat (first | apply rA_ | apply rN_ | apply rD_)); exact Kd.R_mono HO_346000.out (fun _ hk => hk.1)), (by (with_reducible repeat (first | apply rA_ | apply rN_ | apply rD_)); exact Kd.R_mono HO_362000.out (fun _ hk => hk.1)), (pG_ BK345.out), (pG_ BK354.out), (pG_ BK361.out), (pH_ HB.out)⟩)
               rintro ⟨v365, v368⟩ w61 ⟨hS_, h0_, h1_, h2_, h3_, h4_, h5_, h6_, h7_⟩
               have n0_ : Aside0 (Kd.N (Kd.slice 5 (Kd.int .u8)) 22 w61 w.heap.size (fun k_ => nO_ k_ (.slice Ao53 x15_3.length co53) ∧ nO_ k_ (.slice Ao40 x346000_3.length co40) ∧ nO_ k_ (.slice Ao43 t355.length co43) ∧ k_ ≠ gb345 ∧ k_ ≠ gb354 ∧ k_ ≠ gb361) v368 y367) := ⟨h0_⟩; have n1_ : Aside0 (Kd.N (Kd.slice 5 (Kd.int .u8)) 22 w61 w.heap.size (fun k_ => nO_ k_ v368 ∧ nO_ k_ (.slice Ao40 x346000_3.length co40) ∧ nO_ k_ (.slice Ao43 t355.length co43) ∧ k_ ≠ gb345 ∧ k_ ≠ gb354 ∧ k_ ≠ gb361) (.slice Ao53 x15_3.length co53) x15_3) := ⟨h1_⟩; have n2_ : Aside0 (Kd.R (Kd.int .u8) 5 w61 w.heap.size (fun k_ => nO_ k_ (.slice Ao43 t355.length co43)) (.slice Ao40 x346000_3.length co40) x346000_3) := ⟨h2_⟩; have n3_ : Aside0 (Kd.R (Kd.int .u8) 5 w61 w.heap.size (fun k_ => nO_ k_ (.slice Ao40 x346000_3.length co40)) (.slice Ao43 t355.length co43) t355) := ⟨h3_⟩; have n4_ : Aside0 (w61.heap[gb345]? = some (.cells #[.slice Ao40 x346000_3.length co40, .int .i64 x346001_3] 28 (0, 0))) := ⟨h4_⟩; have n5_ : Aside0 (w61.heap[gb354]? = some (.cells #[.int .i32 x355000_3, .int .i32 x355001_3, .int .u8 x355002_3] 39 (0, 0))) := ⟨h5_⟩; have n6_ : Aside0 (w61.heap[gb361]? = some (.cells #[.slice Ao43 t355.length co43, .int .i64 t358] 28 (0, 0))) := ⟨h6_⟩; have n7_ : Aside0 (Below w.heap.size w w61) := ⟨h7_⟩; clear HO_15; clear HO_346000; clear HO_362000; clear BK345; clear BK354; clear BK361; clear HB; clear h0_ h1_ h2_ h3_ h4_ h5_ h6_ h7_; have HO369 := n0_; have HO_15 := n1_; have HO_346000 := n2_; have HO_362000 := n3_; have BK345 := n4_; have BK354 := n5_; have BK361 := n6_; have HB := n7_; clear n0_ n1_ n2_ n3_ n4_ n5_ n6_ n7_; have hHeld : w61.cell? ⟨gb361, 0, none⟩ = some (.slice Ao43 t355.length co43) ∧ w61.cell? ⟨gb361, 1, none⟩ = some (.int .i64 t358) := hS_; obtain ⟨Ao63, co63, eo63⟩ := Kd.N_slice HO369.out; (first | subst eo63 | (injection eo63 with f1_ f2_ f3_; have f4_ := f1_.symm; have f5_ := f3_.symm; clear f1_ f2_ f3_; subst f4_; subst f5_)); refine norm_ (a' := ?_) ?_ ?_; rotate_left
               ·
                simp only [putAll, Act.put, sA_, sZ_, sS_]; rfl
               refine one_ (i := 10) (N := some 121) #[t_, t_, t_, t_, t_, t_, t_, t_, t_, t_, t_, f_, f_, f_] rfl rfl (one_of HT_.out (by kernel_rfl)) (by decide) (fun K hK => ?_); refine Kd.N_append_rows_step (Kd.slice 5 (Kd.int .u8)) (w0 := w) w.heap.size (by rfl) (.tmp 116) (.tmp 120) 37 22 (.slice none 0 0) 24 rfl Tryd.underlying37 info22 rfl (by decide) (by omega) (.slice Ao53 x15_3.length co53) x15_3 y367 _ _ _ (fun k_ => nO_ k_ (.slice Ao40 x346000_3.length co40) ∧ nO_ k_ (.slice Ao43 t355.length co43) ∧ k_ ≠ gb345 ∧ k_ ≠ gb354 ∧ k_ ≠ gb361) (fun k_ => ((fun k_ => nO_ k_ (.slice Ao40 x346000_3.length co40) ∧ nO_ k_ (.slice Ao43 t355.length co43) ∧ k_ ≠ gb345 ∧ k_ ≠ gb354 ∧ k_ ≠ gb361)) k_ ∧ nO_ k_ (.slice Ao53 x15_3.length co53)) rfl rfl ?aO ?aR (fun _ hk => hk) ?aF ?aB ?aS ?aL ?_; (case aR => exact (by skip; exact Kd.N_F (Kd.N_mono (ok' := (fun k_ => ((fun k_ => nO_ k_ (.slice Ao40 x346000_3.length co40) ∧ nO_ k_ (.slice Ao43 t355.length co43) ∧ k_ ≠ gb345 ∧ k_ ≠ gb354 ∧ k_ ≠ gb361)) k_ ∧ nO_ k_ (.slice Ao53 x15_3.length co53))) (HO369.out) (fun k_ hk => ⟨⟨hk.2.1, ⟨hk.2.2.1, ⟨hk.2.2.2.1, ⟨hk.2.2.2.2.1, hk.2.2.2.2.2⟩⟩⟩⟩, hk.1⟩)))); (case aB => exact (pH_ HB.out)); (case aF => exact (fun k_ hk => ⟨Kd.fresh' (Kd.R_lt (pL_ HO_346000.out)) k_ hk, Kd.fresh' (Kd.R_lt (pL_ HO_362000.out)) k_ hk, Kd.freshB (g := gb345) (o := .cells #[.slice Ao40 x346000_3.length co40, .int .i64 x346001_3] 28 (0, 0)) (pG_ BK345.out) k_ hk, Kd.freshB (g := gb354) (o := .cells #[.int .i32 x355000_3, .int .i32 x355001_3, .int .u8 x355002_3] 39 (0, 0)) (pG_ BK354.out) k_ hk, Kd.freshB (g := gb361) (o := .cells #[.slice Ao43 t355.length co43, .int .i64 t358] 28 (0, 0)) (pG_ BK361.out) k_ hk⟩)); (case aO => exact (by (with_reducible repeat (first | apply Kd.N_alloc | apply Kd.N_drewN | apply Kd.N_drew)); exact Kd.N_mono HO_15.out (fun _ hk => ⟨hk.2.1, ⟨hk.2.2.1, ⟨hk.2.2.2.1, ⟨hk.2.2.2.2.1, hk.2.2.2.2.2⟩⟩⟩⟩))); (case aS => exact (below_size (pH_ HB.out))); (case aL => have := LMc52.out; omega); intro v371 w62 ho hb hg hat; rw [← Ny370.out] at ho; have n0_ := Aside0.mk (Kd.R_over' (pL_ HO_346000.out) (Kd.N_typed (by (with_reducible repeat (first | apply Kd.N_alloc | apply Kd.N_drewN | apply Kd.N_drew)); exact HO_15.out)) (by decide) hg); have n1_ := Aside0.mk (Kd.R_over' (pL_ HO_362000.out) (Kd.N_typed (by (with_reducible repeat (first | apply Kd.N_alloc | apply Kd.N_drewN | apply Kd.N_drew)); exact HO_15.out)) (by decide) hg); have n2_ := Aside0.mk (blk_grown (g := gb345) (o := .cells #[.slice Ao40 x346000_3.length co40, .int .i64 x346001_3] 28 (0, 0)) (pG_ BK345.out) hg (Kd.N_ne HO_15.out BK345.out (by decide))); have n3_ := Aside0.mk (blk_grown (g := gb354) (o := .cells #[.int .i32 x355000_3, .int .i32 x355001_3, .int .u8 x355002_3] 39 (0, 0)) (pG_ BK354.out) hg (Kd.N_ne HO_15.out BK354.out (by decide))); have n4_ := Aside0.mk (blk_grown (g := gb361) (o := .cells #[.slice Ao43 t355.length co43, .int .i64 t358] 28 (0, 0)) (pG_ BK361.out) hg (Kd.N_ne HO_15.out BK361.out (by decide))); have n5_ := Aside0.mk (Kd.N_afterv (ok := (fun k_ => nO_ k_ (.slice Ao40 x346000_3.length co40) ∧ nO_ k_ (.slice Ao43 t355.length co43) ∧ k_ ≠ gb345 ∧ k_ ≠ gb354 ∧ k_ ≠ gb361)) (by (with_reducible repeat (first | apply Kd.N_alloc | apply Kd.N_drewN | apply Kd.N_drew)); exact Kd.N_mono HO369.out (fun _ hk => ⟨⟨hk.2.1, ⟨hk.2.2.1, ⟨hk.2.2.2.1, ⟨hk.2.2.2.2.1, hk.2.2.2.2.2⟩⟩⟩⟩, hk.1⟩)) hg hat); have n6_ := Aside0.mk (hb); have n7_ := Aside0.mk (ho); clear HO_346000; clear HO_362000; clear BK345; clear BK354; clear BK361; clear HO369; clear HB; clear HO_15; have HO_346000 := n0_; have HO_362000 := n1_; have BK345 := n2_; have BK354 := n3_; have BK361 := n4_; have HO369 := n5_; have HB := n6_; have HO372 := n7_; clear n0_ n1_ n2_ n3_ n4_ n5_ n6_ n7_; clear ho hb hg hat; refine hK.out _ _ ⟨(blk_cell BK361.out 0).trans rfl, (blk_cell BK361.out 1).trans rfl⟩ (fun hHeld => ?_); clear hK K; refine norm_ (a' := ?_) ?_ ?_; rotate_left
               ·
                show Act.put _ (some 121) _ = _
                simp only [Act.put, sA_, sZ_, sS_, i64_w, i32_w]; rfl
               refine one_ (i := 11) (N := none) #[t_, t_, t_, t_, t_, t_, t_, t_, t_, t_, t_, t_, f_, f_] rfl rfl (one_of HT_.out (by kernel_rfl)) (by decide) (fun K hK => ?_); have hs64 : w62.cell? ⟨gb345, 0, none⟩ = some (.slice Ao40 x346000_3.length co40) := (blk_cell BK345.out 0).trans rfl; have hfs64 := blk_frozen BK345.out 0; have hns64_1 := NB354_345.out; have hns64_2 := NB361_345.out; have hms64_1 := NB345_354.out; have hms64_2 := NB345_361.out; have hs65 : w62.cell? ⟨gb345, 1, none⟩ = some (.int .i64 x346001_3) := (blk_cell BK345.out 1).trans rfl; have hfs65 := blk_frozen BK345.out 1; have hns65_1 := NB354_345.out; have hns65_2 := NB361_345.out; have hms65_1 := NB345_354.out; have hms65_2 := NB345_361.out; refine skip_ (w1 := ?_) (by rfl) rfl ?_ ?_; rotate_left
               ·
                go_simp; rfl
               refine hK.out _ _ ⟨((cell_far (p := ⟨gb345, _, none⟩) NB361_345.out _).trans (((cell_far (p := ⟨gb345, _, none⟩) NB361_345.out _).trans (hHeld.1)))), ((cell_far (p := ⟨gb345, _, none⟩) NB361_345.out _).trans (((cell_far (p := ⟨gb345, _, none⟩) NB361_345.out _).trans (hHeld.2))))⟩ (fun hHeld => ?_); clear hK K; refine pure_ (i := 12) (N := some 13) (v := ?_) (a' := ?_) #[t_, t_, t_, t_, t_, t_, t_, t_, t_, t_, t_, t_, t_, f_] rfl rfl (any_of HT_.out (by kernel_rfl)) (fun _ _ _ h => h) (Or.inl ⟨by rfl, ?_⟩) ?_ ?_; rotate_left
               ·
                intro w'; go_simp
                with_reducible rfl
               rotate_left
               ·
                simp only [Act.put, sA_, sZ_, sS_, i64_w, i32_w]; rfl
               refine pure_ (i := 13) (N := some 15) (v := ?_) (a' := ?_) #[t_, t_, t_, t_, t_, t_, t_, t_, t_, t_, t_, t_, t_, t_] rfl rfl (any_of HT_.out (by kernel_rfl)) (fun _ _ _ h => h) (Or.inl ⟨by rfl, ?_⟩) ?_ ?_; rotate_left
               ·
                intro w'; go_simp
                with_reducible rfl
               rotate_left
               ·
                simp only [Act.put, sA_, sZ_, sS_, i64_w, i32_w]; rfl
               refine done_ (done_of HT_.out (by kernel_rfl)) ?_
               try go_wp2
               go_loopg [16, 22] kj36 (fun kq v16 v22 w' => ∃ (x16_5 : Int) (x22_5 : Int) (x355000_5 : Int) (x355001_5 : Int) (x355002_5 : Int), v16 = .int .u8 x16_5 ∧ v22 = .int .i64 x22_5 ∧ Aside0 (bitlofttop_TopKernel.l1 kq l0 a1 a2 t363 y370 x16_5 x18_3 t359 x22_5 t355 t358 x355000_5 x355001_5 x355002_5 = some r) ∧ Aside0 (kq ≤ kj36) ∧ Aside0 (Kd.N (Kd.slice 5 (Kd.int .u8)) 22 w' w.heap.size (fun k_ => some k_ ≠ ((.slice Ao43 t355.length co43) : Value).ownBlock ∧ some k_ ≠ ((.slice Ao43 t355.length co43) : Value).ownBlock ∧ k_ ≠ gb345 ∧ k_ ≠ gb354 ∧ k_ ≠ gb361) v371 y370) ∧ Aside0 (Kd.R (Kd.int .u8) 5 w' w.heap.size (fun _ => True) (.slice Ao43 t355.length co43) t355) ∧ Aside0 (Kd.R (Kd.int .u8) 5 w' w.heap.size (fun _ => True) (.slice Ao43 t355.length co43) t355) ∧ Aside0 (w'.heap[gb345]? = some (.cells #[(.slice Ao43 t355.length co43), .int .i64 t358] 28 (0, 0))) ∧ Aside0 (w'.heap[gb354]? = some (.cells #[.int .i32 x355000_5, .int .i32 x355001_5, .int .u8 x355002_5] 39 (0, 0))) ∧ Aside0 (w'.heap[gb361]? = some (.cells #[(.slice Ao43 t355.length co43), .int .i64 t358] 28 (0, 0))) ∧ Aside0 (Below w.heap.size w w'))
               case atStart => exact ⟨(x16_3), (7), (x355000_3), (x355001_3), (x355002_3), (by first | rfl | (simp; done) | (simp [*]; done)), (by first | rfl | (simp; done) | (simp [*]; done)), H', ⟨Nat.le_refl _⟩, ⟨by (with_reducible repeat (first | apply Kd.N_alloc | apply Kd.N_drewN | apply Kd.N_drew)); exact Kd.N_mono (Kd.N_far (p := ⟨gb345, 1, none⟩) (Kd.N_far (p := ⟨gb345, 0, none⟩) (Kd.N_mono HO372.out (fun k_ hk => (⟨hk, hk.2.2.1⟩ : _ ∧ k_ ≠ gb345))) (fun _ hk => hk.2) (.slice Ao43 t355.length co43)) (fun _ hk => hk.2) (.int .i64 t358)) (fun _ hk => ⟨hk.1.2.1, ⟨hk.1.2.1, ⟨hk.1.2.2.1, ⟨hk.1.2.2.2.1, hk.1.2.2.2.2⟩⟩⟩⟩)⟩, ⟨by (with_reducible repeat (first | apply rA_ | apply rN_ | apply rD_)); exact Kd.R_mono (Kd.R_far (p := ⟨gb345, 1, none⟩) (Kd.R_far (p := ⟨gb345, 0, none⟩) (Kd.R_types HO_362000.out BK345.out (by decide)) (fun _ hk => hk.2) (.slice Ao43 t355.length co43)) (fun _ hk => hk.2) (.int .i64 t358)) (fun _ hk => trivial)⟩, ⟨by (with_reducible repeat (first | apply rA_ | apply rN_ | apply rD_)); exact Kd.R_mono (Kd.R_far (p := ⟨gb345, 1, none⟩) (Kd.R_far (p := ⟨gb345, 0, none⟩) (Kd.R_types HO_362000.out BK345.out (by decide)) (fun _ hk => hk.2) (.slice Ao43 t355.length co43)) (fun _ hk => hk.2) (.int .i64 t358)) (fun _ hk => trivial)⟩, ⟨by (with_reducible repeat (first | refine blk_drewN ?_ _ | refine blk_drew ?_ | refine blk_alloc ?_ _)); refine blk_put (cs := #[.slice Ao43 t355.length co43, .int .i64 x346001_3]) ?_ 1 _ rfl; (with_reducible repeat (first | refine blk_drewN ?_ _ | refine blk_drew ?_ | refine blk_alloc ?_ _)); refine blk_put (cs := #[.slice Ao40 x346000_3.length co40, .int .i64 x346001_3]) ?_ 0 _ rfl; (with_reducible repeat (first | refine blk_drewN ?_ _ | refine blk_drew ?_ | refine blk_alloc ?_ _)); exact BK345.out⟩, ⟨by (with_reducible repeat (first | refine blk_drewN ?_ _ | refine blk_drew ?_ | refine blk_alloc ?_ _)); refine blk_far ?_ NB354_345.out _; (with_reducible repeat (first | refine blk_drewN ?_ _ | refine blk_drew ?_ | refine blk_alloc ?_ _)); refine blk_far ?_ NB354_345.out _; (with_reducible repeat (first | refine blk_drewN ?_ _ | refine blk_drew ?_ | refine blk_alloc ?_ _)); exact BK354.out⟩, ⟨by (with_reducible repeat (first | refine blk_drewN ?_ _ | refine blk_drew ?_ | refine blk_alloc ?_ _)); refine blk_far ?_ NB361_345.out _; (with_reducible repeat (first | refine blk_drewN ?_ _ | refine blk_drew ?_ | refine blk_alloc ?_ _)); refine blk_far ?_ NB361_345.out _; (with_reducible repeat (first | refine blk_drewN ?_ _ | refine blk_drew ?_ | refine blk_alloc ?_ _)); exact BK361.out⟩, ⟨pH_ HB.out⟩⟩
               case round =>
                clear H'
                try clear c1
                try clear p2
                try clear c3
                try clear p3
                try clear q3
                try clear hx3
                try clear c4
                try clear c5
                try clear c10
                try clear p36
                try clear q36
                try clear hx36
                try clear c38
                try clear c44
                try clear c45
                try clear c48
                try clear c48b0
                try clear c48b1
                try clear c49
                try clear c49b0
                try clear c50
                try clear c52
                try clear hcz21_0
                try clear hcz21_1
                try clear hcz24_0
                try clear hcz24_1
                try clear hcz33_0
                try clear hcz33_1
                try clear hcz33_2
                try clear hcz39_0
                try clear hcz39_1
                try clear hcz46_0
                try clear hcz46_1
                try clear hfz21_0
                try clear hfz21_1
                try clear hfz24_0
                try clear hfz24_1
                try clear hfz33_0
                try clear hfz33_1
                try clear hfz33_2
                try clear hfz39_0
                try clear hfz39_1
                try clear hfz46_0
                try clear hfz46_1
                try clear hx362_0
                try clear p2
                try clear p36
                try clear p362
                try clear q36
                try clear q362
                obtain ⟨x16_5, x22_5, x355000_5, x355001_5, x355002_5, rfl, rfl, HA, HK5, HO_15, HO_346000, HO_362000, BK345, BK354, BK361, HB⟩ := hrel
                cases gk with
                | zero => exact absurd HA.out (by simp [bitlofttop_TopKernel.l1])
                | succ k5 =>
                 have H := HA.out; clear HA; simp only [bitlofttop_TopKernel.l1] at H
                 by_cases c66 : x22_5 ≥ 0
                 ·
                  rw [if_pos c66] at H; have c66b0 : decide (0 ≤ x22_5) = true := decide_eq_true c66; clear c66
                  by_cases c67 : 0 ≤ x22_5
                  ·
                   rw [if_pos c67] at H; have c67b0 := eq_true c67; have c67b1 : decide (0 ≤ x22_5) = true := decide_eq_true c67; clear c67; obtain ⟨ji68, hji68⟩ : ∃ j_ : Int, (shr .u64 t359 x22_5) = j_ := ⟨_, rfl⟩
                   replace H : ((states_Next.f k5 x16_5 ((Go.bits .and .u64 (ji68) 1) % 256)).bind fun bt373 => ((counts_Next.f x355000_5 x355001_5 x355002_5 ((Go.bits .and .u64 (ji68) 1) % 256)).bind fun bt375 => (if bt373.2 = 0 then (if bt375.2.2.2 = 0 then ((bitlofttop_led08.f k5 x355000_5 x355001_5 x355002_5 ((Go.bits .and .u64 (ji68) 1) % 256) a2).bind fun t380 => (bitlofttop_TopKernel.j5 k5 l0 a1 a2 t363 y370 x18_3 t359 x22_5 bt373.1 (!t380) t355 t358 bt375.1 bt375.2.1 bt375.2.2.1)) else (bitlofttop_TopKernel.j5 k5 l0 a1 a2 t363 y370 x18_3 t359 x22_5 bt373.1 true t355 t358 bt375.1 bt375.2.1 bt375.2.2.1)) else (bitlofttop_TopKernel.j5 k5 l0 a1 a2 t363 y370 x18_3 t359 x22_5 bt373.1 true t355 t358 bt375.1 bt375.2.1 bt375.2.2.1)))) = some r := by first | (rw [hji68] at H; exact H) | (simp only [hji68] at H ⊢; exact H)
                   have hji68_ : (t359 / 2 ^ min x22_5.toNat 64) = ji68 := hji68; have hji68z : x22_5 ≤ 64 → (t359 / 2 ^ x22_5.toNat) = ji68 := shr_small hji68; replace H := Option.bind_eq_some_iff.mp H; obtain ⟨⟨t373, t374⟩, A690, H⟩ := H; replace H : ((counts_Next.f x355000_5 x355001_5 x355002_5 ((Go.bits .and .u64 (ji68) 1) % 256)).bind fun bt375 => (if t374 = 0 then (if bt375.2.2.2 = 0 then ((bitlofttop_led08.f k5 x355000_5 x355001_5 x355002_5 ((Go.bits .and .u64 (ji68) 1) % 256) a2).bind fun t380 => (bitlofttop_TopKernel.j5 k5 l0 a1 a2 t363 y370 x18_3 t359 x22_5 t373 (!t380) t355 t358 bt375.1 bt375.2.1 bt375.2.2.1)) else (bitlofttop_TopKernel.j5 k5 l0 a1 a2 t363 y370 x18_3 t359 x22_5 t373 true t355 t358 bt375.1 bt375.2.1 bt375.2.2.1)) else (bitlofttop_TopKernel.j5 k5 l0 a1 a2 t363 y370 x18_3 t359 x22_5 t373 true t355 t358 bt375.1 bt375.2.1 bt375.2.2.1))) = some r := H; have A69 := Aside0.mk A690; clear A690; replace H := Option.bind_eq_some_iff.mp H; obtain ⟨⟨t375, t376, t377, t378⟩, A700, H⟩ := H; replace H : (if t374 = 0 then (if t378 = 0 then ((bitlofttop_led08.f k5 x355000_5 x355001_5 x355002_5 ((Go.bits .and .u64 (ji68) 1) % 256) a2).bind fun t380 => (bitlofttop_TopKernel.j5 k5 l0 a1 a2 t363 y370 x18_3 t359 x22_5 t373 (!t380) t355 t358 t375 t376 t377)) else (bitlofttop_TopKernel.j5 k5 l0 a1 a2 t363 y370 x18_3 t359 x22_5 t373 true t355 t358 t375 t376 t377)) else (bitlofttop_TopKernel.j5 k5 l0 a1 a2 t363 y370 x18_3 t359 x22_5 t373 true t355 t358 t375 t376 t377)) = some r := H; have A70 := Aside0.mk A700; clear A700; have HC71 := Aside0.mk H; clear H
                   go_upto_region 26 with (first | ((with_reducible refine gate_callee (f := 11) rfl ?_); refine goesL_ (some 134) rfl rfl Tryd.func11 (by kernel_rfl) rfl #[.int .u8 x16_5, .int .u8 ((Go.bits .and .u64 (ji68) 1) % 256)] rfl (by (try simp only [List.map_toArray, List.map_cons, List.map_nil]); first | done | (simp only [hji68]; rfl) | rfl | (simp only [List.length_drop, List.length_take]; rfl)) ?_; (with_reducible refine (states_Next.calls k5 x16_5 ((Go.bits .and .u64 (ji68) 1) % 256) t373 t374 _ A69.out).mono ?_); rintro e w72 ⟨rfl, hb⟩; refine ⟨_, rfl, ?_⟩; have n0_ := Aside0.mk (Kd.N_below (by (with_reducible repeat (first | apply Kd.N_alloc | apply Kd.N_drewN | apply Kd.N_drew)); exact HO_15.out) hb); have n1_ := Aside0.mk (Kd.R_below (pL_ HO_346000.out) hb); have n2_ := Aside0.mk (Kd.R_below (pL_ HO_362000.out) hb); have n3_ := Aside0.mk (blk_below (pG_ BK345.out) hb); have n4_ := Aside0.mk (blk_below (pG_ BK354.out) hb); have n5_ := Aside0.mk (blk_below (pG_ BK361.out) hb); have n6_ := Aside0.mk (below_step (pH_ HB.out) hb); clear HO_15; clear HO_346000; clear HO_362000; clear BK345; clear BK354; clear BK361; clear HB; have HO_15 := n0_; have HO_346000 := n1_; have HO_362000 := n2_; have BK345 := n3_; have BK354 := n4_; have BK361 := n5_; have HB := n6_; clear n0_ n1_ n2_ n3_ n4_ n5_ n6_; (try clear hb); have hnb73 := NB354_345.out; have hnc73 := NB345_354.out; have hnb74 := NB354_361.out; have hnc74 := NB361_354.out; have hcz75_0 : w72.cell? ⟨gb354, 0, none⟩ = some (.int .i32 x355000_5) := (blk_cell BK354.out 0).trans rfl; have hcz75_1 : w72.cell? ⟨gb354, 1, none⟩ = some (.int .i32 x355001_5) := (blk_cell BK354.out 1).trans rfl; have hcz75_2 : w72.cell? ⟨gb354, 2, none⟩ = some (.int .u8 x355002_5) := (blk_cell BK354.out 2).trans rfl; have hfz75_0 := blk_frozen BK354.out 0; have hfz75_1 := blk_frozen BK354.out 1; have hfz75_2 := blk_frozen BK354.out 2) | ((with_reducible refine gate_callee (f := 12) rfl ?_); refine goesL_ (some 140) rfl rfl Tryd.func12 (by kernel_rfl) rfl #[.agg #[.int .i32 x355000_5, .int .i32 x355001_5, .int .u8 x355002_5], .int .u8 ((Go.bits .and .u64 (ji68) 1) % 256)] rfl (by (try simp only [List.map_toArray, List.map_cons, List.map_nil]); first | done | (simp only [hji68]; rfl) | rfl | (simp only [List.length_drop, List.length_take]; rfl)) ?_; (with_reducible refine (counts_Next.calls x355000_5 x355001_5 x355002_5 ((Go.bits .and .u64 (ji68) 1) % 256) t375 t376 t377 t378 _ A70.out).mono ?_); rintro e w76 ⟨rfl, hb⟩; refine ⟨_, rfl, ?_⟩; have n0_ := Aside0.mk (Kd.N_below (by (with_reducible repeat (first | apply Kd.N_alloc | apply Kd.N_drewN | apply Kd.N_drew)); exact HO_15.out) hb); have n1_ := Aside0.mk (Kd.R_below (pL_ HO_346000.out) hb); have n2_ := Aside0.mk (Kd.R_below (pL_ HO_362000.out) hb); have n3_ := Aside0.mk (blk_below (pG_ BK345.out) hb); have n4_ := Aside0.mk (blk_below (pG_ BK354.out) hb); have n5_ := Aside0.mk (blk_below (pG_ BK361.out) hb); have n6_ := Aside0.mk (below_step (pH_ HB.out) hb); clear HO_15; clear HO_346000; clear HO_362000; clear BK345; clear BK354; clear BK361; clear HB; have HO_15 := n0_; have HO_346000 := n1_; have HO_362000 := n2_; have BK345 := n3_; have BK354 := n4_; have BK361 := n5_; have HB := n6_; clear n0_ n1_ n2_ n3_ n4_ n5_ n6_; (try clear hb)) | ((with_reducible refine gate_dst (N := 26) rfl ?_); (try (refine gate_guard (by rfl) ?_; dsimp only)); refine box_event ?hg (N := 26) ?hd (cs := #[.int .i32 0, .int .i32 0, .int .u8 0]) (t := 39) ?hr ?_; (case hd => rfl); (case hg => rfl); (case hr => first | (go_simp; done) | (go_simp; rfl)); intro gb379 hg w77 hbox hb; have n0_ := Aside0.mk (Kd.N_below (Kd.N_elderB (by (with_reducible repeat (first | apply Kd.N_alloc | apply Kd.N_drewN | apply Kd.N_drew)); exact HO_15.out) gb379 (Nat.le_of_eq hg.symm)) hb); have n1_ := Aside0.mk (Kd.R_below (pL_ HO_346000.out) hb); have n2_ := Aside0.mk (Kd.R_below (pL_ HO_362000.out) hb); have n3_ := Aside0.mk (blk_below (pG_ BK345.out) hb); have n4_ := Aside0.mk (blk_below (pG_ BK354.out) hb); have n5_ := Aside0.mk (blk_below (pG_ BK361.out) hb); have n6_ := Aside0.mk (below_step (pH_ HB.out) hb); have n7_ := Aside0.mk (hbox); have n8_ := Aside0.mk ((by rw [hg]; exact (below_size (pH_ HB.out)) : w.heap.size ≤ gb379)); have n9_ := Aside0.mk ((by rw [hg]; exact (below_size (pH_ HB.out)) : w.heap.size ≤ gb379)); have n10_ := Aside0.mk ((by rw [hg]; exact Nat.ne_of_lt (blk_lt (pG_ BK345.out)) : gb345 ≠ gb379)); have n11_ := Aside0.mk ((by rw [hg]; exact Nat.ne_of_gt (blk_lt (pG_ BK345.out)) : gb379 ≠ gb345)); have n12_ := Aside0.mk ((by rw [hg]; exact Nat.ne_of_lt (blk_lt (pG_ BK354.out)) : gb354 ≠ gb379)); have n13_ := Aside0.mk ((by rw [hg]; exact Nat.ne_of_gt (blk_lt (pG_ BK354.out)) : gb379 ≠ gb354)); have n14_ := Aside0.mk ((by rw [hg]; exact Nat.ne_of_lt (blk_lt (pG_ BK361.out)) : gb361 ≠ gb379)); have n15_ := Aside0.mk ((by rw [hg]; exact Nat.ne_of_gt (blk_lt (pG_ BK361.out)) : gb379 ≠ gb361)); clear HO_15; clear HO_346000; clear HO_362000; clear BK345; clear BK354; clear BK361; clear HB; have HO_15 := n0_; have HO_346000 := n1_; have HO_362000 := n2_; have BK345 := n3_; have BK354 := n4_; have BK361 := n5_; have HB := n6_; have BK379 := n7_; have GW379 := n8_; have GE379 := n9_; have NB345_379 := n10_; have NB379_345 := n11_; have NB354_379 := n12_; have NB379_354 := n13_; have NB361_379 := n14_; have NB379_361 := n15_; clear n0_ n1_ n2_ n3_ n4_ n5_ n6_ n7_ n8_ n9_ n10_ n11_ n12_ n13_ n14_ n15_; clear hb hbox hg; have hnb78 := NB379_345.out; have hnc78 := NB345_379.out; have hnb79 := NB379_354.out; have hnc79 := NB354_379.out; have hnb80 := NB379_361.out; have hnc80 := NB361_379.out; have hcz81_0 : w77.cell? ⟨gb379, 0, none⟩ = some (.int .i32 0) := (blk_cell BK379.out 0).trans rfl; have hcz81_1 : w77.cell? ⟨gb379, 1, none⟩ = some (.int .i32 0) := (blk_cell BK379.out 1).trans rfl; have hcz81_2 : w77.cell? ⟨gb379, 2, none⟩ = some (.int .u8 0) := (blk_cell BK379.out 2).trans rfl; have hfz81_0 := blk_frozen BK379.out 0; have hfz81_1 := blk_frozen BK379.out 1; have hfz81_2 := blk_frozen BK379.out 2) | ((with_reducible refine gate_store (t := 39) (p := 26) rfl ?_); refine store_event (t := 39) (p := 26) (v := ?vo_w82) (w1 := (((w77.setCell ⟨gb379, 0, none⟩ (.int .i32 t375)).setCell ⟨gb379, 1, none⟩ (.int .i32 t376)).setCell ⟨gb379, 2, none⟩ (.int .u8 t377))) ?hg ?ho ?hn ?hr ?_; (case ho => rfl); (case hg => rfl); (case hn => rfl); (case hr => first | (go_simp; done) | (go_simp; rfl)); intro w82 hw; have n0_ : Aside0 (Kd.N (Kd.slice 5 (Kd.int .u8)) 22 w82 w.heap.size (fun k_ => nO_ k_ (.slice Ao43 t355.length co43) ∧ nO_ k_ (.slice Ao43 t355.length co43) ∧ k_ ≠ gb345 ∧ k_ ≠ gb354 ∧ k_ ≠ gb361 ∧ k_ ≠ gb379) v371 y370) := ⟨(by rw [hw]; exact (by (with_reducible repeat (first | apply Kd.N_alloc | apply Kd.N_drewN | apply Kd.N_drew)); exact Kd.N_mono (Kd.N_far (p := ⟨gb379, 2, none⟩) (Kd.N_far (p := ⟨gb379, 1, none⟩) (Kd.N_far (p := ⟨gb379, 0, none⟩) (Kd.N_mono HO_15.out (fun k_ hk => (⟨hk, hk.2⟩ : _ ∧ k_ ≠ gb379))) (fun _ hk => hk.2) (.int .i32 t375)) (fun _ hk => hk.2) (.int .i32 t376)) (fun _ hk => hk.2) (.int .u8 t377)) (fun _ hk => ⟨hk.1.1.1, ⟨hk.1.1.2.1, ⟨hk.1.1.2.2.1, ⟨hk.1.1.2.2.2.1, ⟨hk.1.1.2.2.2.2, hk.1.2⟩⟩⟩⟩⟩)))⟩; have n1_ : Aside0 (Kd.R (Kd.int .u8) 5 w82 w.heap.size (fun _ => True) (.slice Ao43 t355.length co43) t355) := ⟨(by rw [hw]; exact (by (with_reducible repeat (first | apply rA_ | apply rN_ | apply rD_)); exact Kd.R_mono (Kd.R_far (p := ⟨gb379, 2, none⟩) (Kd.R_far (p := ⟨gb379, 1, none⟩) (Kd.R_far (p := ⟨gb379, 0, none⟩) (Kd.R_types HO_346000.out BK379.out (by decide)) (fun _ hk => hk.2) (.int .i32 t375)) (fun _ hk => hk.2) (.int .i32 t376)) (fun _ hk => hk.2) (.int .u8 t377)) (fun _ hk => trivial)))⟩; have n2_ : Aside0 (Kd.R (Kd.int .u8) 5 w82 w.heap.size (fun _ => True) (.slice Ao43 t355.length co43) t355) := ⟨(by rw [hw]; exact (by (with_reducible repeat (first | apply rA_ | apply rN_ | apply rD_)); exact Kd.R_mono (Kd.R_far (p := ⟨gb379, 2, none⟩) (Kd.R_far (p := ⟨gb379, 1, none⟩) (Kd.R_far (p := ⟨gb379, 0, none⟩) (Kd.R_types HO_362000.out BK379.out (by decide)) (fun _ hk => hk.2) (.int .i32 t375)) (fun _ hk => hk.2) (.int .i32 t376)) (fun _ hk => hk.2) (.int .u8 t377)) (fun _ hk => trivial)))⟩; have n3_ : Aside0 (w82.heap[gb345]? = some (.cells #[.slice Ao43 t355.length co43, .int .i64 t358] 28 (0, 0))) := ⟨(by rw [hw]; exact (by (with_reducible repeat (first | refine blk_drewN ?_ _ | refine blk_drew ?_ | refine blk_alloc ?_ _)); refine blk_far ?_ NB345_379.out _; (with_reducible repeat (first | refine blk_drewN ?_ _ | refine blk_drew ?_ | refine blk_alloc ?_ _)); refine blk_far ?_ NB345_379.out _; (with_reducible repeat (first | refine blk_drewN ?_ _ | refine blk_drew ?_ | refine blk_alloc ?_ _)); refine blk_far ?_ NB345_379.out _; (with_reducible repeat (first | refine blk_drewN ?_ _ | refine blk_drew ?_ | refine blk_alloc ?_ _)); exact BK345.out))⟩; have n4_ : Aside0 (w82.heap[gb354]? = some (.cells #[.int .i32 x355000_5, .int .i32 x355001_5, .int .u8 x355002_5] 39 (0, 0))) := ⟨(by rw [hw]; exact (by (with_reducible repeat (first | refine blk_drewN ?_ _ | refine blk_drew ?_ | refine blk_alloc ?_ _)); refine blk_far ?_ NB354_379.out _; (with_reducible repeat (first | refine blk_drewN ?_ _ | refine blk_drew ?_ | refine blk_alloc ?_ _)); refine blk_far ?_ NB354_379.out _; (with_reducible repeat (first | refine blk_drewN ?_ _ | refine blk_drew ?_ | refine blk_alloc ?_ _)); refine blk_far ?_ NB354_379.out _; (with_reducible repeat (first | refine blk_drewN ?_ _ | refine blk_drew ?_ | refine blk_alloc ?_ _)); exact BK354.out))⟩; have n5_ : Aside0 (w82.heap[gb361]? = some (.cells #[.slice Ao43 t355.length co43, .int .i64 t358] 28 (0, 0))) := ⟨(by rw [hw]; exact (by (with_reducible repeat (first | refine blk_drewN ?_ _ | refine blk_drew ?_ | refine blk_alloc ?_ _)); refine blk_far ?_ NB361_379.out _; (with_reducible repeat (first | refine blk_drewN ?_ _ | refine blk_drew ?_ | refine blk_alloc ?_ _)); refine blk_far ?_ NB361_379.out _; (with_reducible repeat (first | refine blk_drewN ?_ _ | refine blk_drew ?_ | refine blk_alloc ?_ _)); refine blk_far ?_ NB361_379.out _; (with_reducible repeat (first | refine blk_drewN ?_ _ | refine blk_drew ?_ | refine blk_alloc ?_ _)); exact BK361.out))⟩; have n6_ : Aside0 (w82.heap[gb379]? = some (.cells #[.int .i32 t375, .int .i32 t376, .int .u8 t377] 39 (0, 0))) := ⟨(by rw [hw]; exact (by (with_reducible repeat (first | refine blk_drewN ?_ _ | refine blk_drew ?_ | refine blk_alloc ?_ _)); refine blk_put (cs := #[.int .i32 t375, .int .i32 t376, .int .u8 0]) ?_ 2 _ rfl; (with_reducible repeat (first | refine blk_drewN ?_ _ | refine blk_drew ?_ | refine blk_alloc ?_ _)); refine blk_put (cs := #[.int .i32 t375, .int .i32 0, .int .u8 0]) ?_ 1 _ rfl; (with_reducible repeat (first | refine blk_drewN ?_ _ | refine blk_drew ?_ | refine blk_alloc ?_ _)); refine blk_put (cs := #[.int .i32 0, .int .i32 0, .int .u8 0]) ?_ 0 _ rfl; (with_reducible repeat (first | refine blk_drewN ?_ _ | refine blk_drew ?_ | refine blk_alloc ?_ _)); exact BK379.out))⟩; have n7_ : Aside0 (Below w.heap.size w w82) := ⟨(by rw [hw]; exact (pH_ HB.out))⟩; clear hw; clear HO_15; clear HO_346000; clear HO_362000; clear BK345; clear BK354; clear BK361; clear BK379; clear HB; have HO_15 := n0_; have HO_346000 := n1_; have HO_362000 := n2_; have BK345 := n3_; have BK354 := n4_; have BK361 := n5_; have BK379 := n6_; have HB := n7_; clear n0_ n1_ n2_ n3_ n4_ n5_ n6_ n7_))
                   (try simp only [Act.put, sA_, sZ_, sS_]); (with_reducible first | refine then_id_ ?_ | (refine wp_tail_ ?_; intro Kt_ hKt_))
                   go_cut [155] (fun v155 wc => ∃ (kq : Nat) (x155_70 : Bool), v155 = .bool x155_70 ∧ Aside0 (bitlofttop_TopKernel.j5 kq l0 a1 a2 t363 y370 x18_3 t359 x22_5 t373 x155_70 t355 t358 t375 t376 t377 = some r) ∧ Aside0 (kq ≤ k5) ∧ Aside0 (Kd.N (Kd.slice 5 (Kd.int .u8)) 22 wc w.heap.size (fun k_ => some k_ ≠ ((.slice Ao43 t355.length co43) : Value).ownBlock ∧ some k_ ≠ ((.slice Ao43 t355.length co43) : Value).ownBlock ∧ k_ ≠ gb345 ∧ k_ ≠ gb354 ∧ k_ ≠ gb361 ∧ k_ ≠ gb379) v371 y370) ∧ Aside0 (Kd.R (Kd.int .u8) 5 wc w.heap.size (fun _ => True) (.slice Ao43 t355.length co43) t355) ∧ Aside0 (Kd.R (Kd.int .u8) 5 wc w.heap.size (fun _ => True) (.slice Ao43 t355.length co43) t355) ∧ Aside0 (wc.heap[gb345]? = some (.cells #[(.slice Ao43 t355.length co43), .int .i64 t358] 28 (0, 0))) ∧ Aside0 (wc.heap[gb354]? = some (.cells #[.int .i32 x355000_5, .int .i32 x355001_5, .int .u8 x355002_5] 39 (0, 0))) ∧ Aside0 (wc.heap[gb361]? = some (.cells #[(.slice Ao43 t355.length co43), .int .i64 t358] 28 (0, 0))) ∧ Aside0 (wc.heap[gb379]? = some (.cells #[.int .i32 t375, .int .i32 t376, .int .u8 t377] 39 (0, 0))) ∧ Aside0 (Below w.heap.size w wc))
                   case first =>
                    have H := HC71.out; clear HC71
                    by_cases c83 : t374 = 0
                    ·
                     rw [if_pos c83] at H; have c83b0 : (t374 == 0) = true := beq_iff_eq.mpr c83; have c83b1 : (t374 != 0) = false := bne_eq_false_iff_eq.mpr c83; clear c83; (first | rw [c83b0] | (simp only [i64_w, i32_w]; rw [c83b0]) | skip)
                     by_cases c84 : t378 = 0
                     ·
                      rw [if_pos c84] at H; have c84b0 : (t378 == 0) = true := beq_iff_eq.mpr c84; have c84b1 : (t378 != 0) = false := bne_eq_false_iff_eq.mpr c84; clear c84; replace H := Option.bind_eq_some_iff.mp H; obtain ⟨t380, A850, H⟩ := H; replace H : (bitlofttop_TopKernel.j5 k5 l0 a1 a2 t363 y370 x18_3 t359 x22_5 t373 (!t380) t355 t358 t375 t376 t377) = some r := H; have A85 := Aside0.mk A850; clear A850; have H' := Aside0.mk H; clear H; have hnb86 := NB354_345.out; have hnc86 := NB345_354.out; have hnb87 := NB354_361.out; have hnc87 := NB361_354.out; have hnb88 := NB354_379.out; have hnc88 := NB379_354.out; have hcz89_0 : w82.cell? ⟨gb354, 0, none⟩ = some (.int .i32 x355000_5) := (blk_cell BK354.out 0).trans rfl; have hcz89_1 : w82.cell? ⟨gb354, 1, none⟩ = some (.int .i32 x355001_5) := (blk_cell BK354.out 1).trans rfl; have hcz89_2 : w82.cell? ⟨gb354, 2, none⟩ = some (.int .u8 x355002_5) := (blk_cell BK354.out 2).trans rfl; have hfz89_0 := blk_frozen BK354.out 0; have hfz89_1 := blk_frozen BK354.out 1; have hfz89_2 := blk_frozen BK354.out 2
                      go_wp2_with (first | (go_at_call 13; (with_reducible refine (bitlofttop_led08.calls k5 x355000_5 x355001_5 x355002_5 ((Go.bits .and .u64 (ji68) 1) % 256) a2 t380 _ (tab_bel hT (pH_ HB.out)) A85.out).mono ?_); rintro e w90 ⟨rfl, hb⟩; have n0_ := Aside0.mk (Kd.N_below (by (with_reducible repeat (first | apply Kd.N_alloc | apply Kd.N_drewN | apply Kd.N_drew)); exact HO_15.out) hb); have n1_ := Aside0.mk (Kd.R_below (pL_ HO_346000.out) hb); have n2_ := Aside0.mk (Kd.R_below (pL_ HO_362000.out) hb); have n3_ := Aside0.mk (blk_below (pG_ BK345.out) hb); have n4_ := Aside0.mk (blk_below (pG_ BK354.out) hb); have n5_ := Aside0.mk (blk_below (pG_ BK361.out) hb); have n6_ := Aside0.mk (blk_below (pG_ BK379.out) hb); have n7_ := Aside0.mk (below_step (pH_ HB.out) hb); clear HO_15; clear HO_346000; clear HO_362000; clear BK345; clear BK354; clear BK361; clear BK379; clear HB; have HO_15 := n0_; have HO_346000 := n1_; have HO_362000 := n2_; have BK345 := n3_; have BK354 := n4_; have BK361 := n5_; have BK379 := n6_; have HB := n7_; clear n0_ n1_ n2_ n3_ n4_ n5_ n6_ n7_; (try clear hb)))
                      (first | go_meet | (refine Met.intro ?_; go_step; (repeat apply Exists.intro); refine ⟨?rel, ?eqf_⟩; case eqf_ => ((simp only [c84b0, c83b0, c66b0]) <;> rfl)))
                      case rel => exact ⟨_, (!t380), (by first | rfl | (simp; done) | (simp [*]; done)), H', ⟨by have := HJ3.out; have := HJ13.out; have := HK3.out; have := HJ36.out; have := HK5.out; first | omega | exact Nat.le_refl _⟩, ⟨by (with_reducible repeat (first | apply Kd.N_alloc | apply Kd.N_drewN | apply Kd.N_drew)); exact HO_15.out⟩, ⟨pL_ HO_346000.out⟩, ⟨pL_ HO_362000.out⟩, ⟨pG_ BK345.out⟩, ⟨pG_ BK354.out⟩, ⟨pG_ BK361.out⟩, ⟨pG_ BK379.out⟩, ⟨pH_ HB.out⟩⟩
                     ·
                      rw [if_neg c84] at H; have c84b0 : (t378 == 0) = false := beq_eq_false_iff_ne.mpr c84; have c84b1 : (t378 != 0) = true := bne_iff_ne.mpr c84; exact absurd (H.trans (congrArg some HRT_.out)) (by first | (simp; done) | (generalize k5 = k_; cases k_ <;> simp [bitlofttop_TopKernel.j0, bitlofttop_TopKernel.j1, bitlofttop_TopKernel.l0, bitlofttop_TopKernel.j3, bitlofttop_TopKernel.l1, bitlofttop_TopKernel.j5, bitlofttop_TopKernel.j6]))
                    ·
                     rw [if_neg c83] at H; have c83b0 : (t374 == 0) = false := beq_eq_false_iff_ne.mpr c83; have c83b1 : (t374 != 0) = true := bne_iff_ne.mpr c83; (first | rw [c83b0] | (simp only [i64_w, i32_w]; rw [c83b0]) | skip); exact absurd (H.trans (congrArg some HRT_.out)) (by first | (simp; done) | (generalize k5 = k_; cases k_ <;> simp [bitlofttop_TopKernel.j0, bitlofttop_TopKernel.j1, bitlofttop_TopKernel.l0, bitlofttop_TopKernel.j3, bitlofttop_TopKernel.l1, bitlofttop_TopKernel.j5, bitlofttop_TopKernel.j6]))
                   case rest =>
                    (try (refine hKt_ _ _ ?_; clear hKt_; clear Kt_)); clear HC71
                    try clear c1
                    try clear p2
                    try clear c3
                    try clear p3
                    try clear q3
                    try clear hx3
                    try clear c4
                    try clear c5
                    try clear c6
                    try clear c7
                    try clear c8
                    try clear c10
                    try clear c11
                    try clear c12
                    try clear p36
                    try clear q36
                    try clear hx36
                    try clear c38
                    try clear c44
                    try clear c45
                    try clear c48
                    try clear c48b0
                    try clear c48b1
                    try clear c49
                    try clear c49b0
                    try clear c50
                    try clear c52
                    try clear c66
                    try clear c66b0
                    try clear c67
                    try clear c67b0
                    try clear c67b1
                    try clear c73
                    try clear c74
                    try clear c78
                    try clear c79
                    try clear c80
                    try clear c83
                    try clear c83b0
                    try clear c83b1
                    try clear c84
                    try clear c84b0
                    try clear c84b1
                    try clear c86
                    try clear c87
                    try clear c88
                    try clear hcz21_0
                    try clear hcz21_1
                    try clear hcz24_0
                    try clear hcz24_1
                    try clear hcz33_0
                    try clear hcz33_1
                    try clear hcz33_2
                    try clear hcz39_0
                    try clear hcz39_1
                    try clear hcz46_0
                    try clear hcz46_1
                    try clear hcz75_0
                    try clear hcz75_1
                    try clear hcz75_2
                    try clear hcz81_0
                    try clear hcz81_1
                    try clear hcz81_2
                    try clear hcz89_0
                    try clear hcz89_1
                    try clear hcz89_2
                    try clear hfz21_0
                    try clear hfz21_1
                    try clear hfz24_0
                    try clear hfz24_1
                    try clear hfz33_0
                    try clear hfz33_1
                    try clear hfz33_2
                    try clear hfz39_0
                    try clear hfz39_1
                    try clear hfz46_0
                    try clear hfz46_1
                    try clear hfz75_0
                    try clear hfz75_1
                    try clear hfz75_2
                    try clear hfz81_0
                    try clear hfz81_1
                    try clear hfz81_2
                    try clear hfz89_0
                    try clear hfz89_1
                    try clear hfz89_2
                    try clear hx362_0
                    try clear p2
                    try clear p3
                    try clear p36
                    try clear p362
                    try clear q3
                    try clear q36
                    try clear q362
                    obtain ⟨kq, x155_70, rfl, HA, HJ70, HO_15, HO_346000, HO_362000, BK345, BK354, BK361, BK379, HB⟩ := hcut
                    cases kq with
                    | zero => exact absurd HA.out (by simp [bitlofttop_TopKernel.j5])
                    | succ kj70 =>
                     have H := HA.out; clear HA; simp only [bitlofttop_TopKernel.j5] at H
                     by_cases c91 : x155_70 = true
                     ·
                      subst c91
                      have H1 : (some false) = some r := by rw [if_pos rfl] at H; exact H
                      clear H; have H := H1; clear H1; exact absurd (H.trans (congrArg some HRT_.out)) (by simp)
                     ·
                      replace c91 := Bool.eq_false_iff.mpr c91
                      subst c91
                      have H1 : (bitlofttop_TopKernel.l1 kj70 l0 a1 a2 t363 y370 t373 x18_3 t359 (wrap64 (x22_5 - 1)) t355 t358 t375 t376 t377) = some r := by rw [if_neg (show ¬ (false = true) by decide)] at H; exact H
                      clear H; have H := H1; clear H1; have H' := Aside0.mk H; clear H
                      try go_wp2
                      have n0_ := Aside0.mk (Kd.N_drew HO_15.out); have n1_ := Aside0.mk (Kd.R_drew HO_346000.out); have n2_ := Aside0.mk (Kd.R_drew HO_362000.out); have n3_ := Aside0.mk (blk_drew BK345.out); have n4_ := Aside0.mk (blk_drew BK354.out); have n5_ := Aside0.mk (blk_drew BK361.out); have n6_ := Aside0.mk (blk_drew BK379.out); have n7_ := Aside0.mk (below_drew1 HB.out); clear HO_15; clear HO_346000; clear HO_362000; clear BK345; clear BK354; clear BK361; clear BK379; clear HB; have HO_15 := n0_; have HO_346000 := n1_; have HO_362000 := n2_; have BK345 := n3_; have BK354 := n4_; have BK361 := n5_; have BK379 := n6_; have HB := n7_; clear n0_ n1_ n2_ n3_ n4_ n5_ n6_ n7_; refine start_ (n := 4) (S := fun w' => w'.cell? ⟨gb379, 0, none⟩ = some (.int .i32 t375) ∧ w'.cell? ⟨gb379, 1, none⟩ = some (.int .i32 t376) ∧ w'.cell? ⟨gb379, 2, none⟩ = some (.int .u8 t377)) (ds := []) #[f_, f_, f_, f_] (by kernel_rfl) rfl rfl ⟨(blk_cell BK379.out 0).trans rfl, (blk_cell BK379.out 1).trans rfl, (blk_cell BK379.out 2).trans rfl⟩ (fun hHeld => ?_)
                      generalize wc.drew = w92 at HO_15 HO_346000 HO_362000 BK345 BK354 BK361 BK379 HB hHeld ⊢
                      refine pure_ (i := 0) (N := some 156) (v := ?_) (a' := ?_) #[t_, f_, f_, f_] rfl rfl (by kernel_rfl) (fun _ _ _ h => h) (Or.inl ⟨by rfl, ?_⟩) ?_ ?_; rotate_left
                      ·
                       intro w'; go_simp
                       with_reducible rfl
                      rotate_left
                      ·
                       simp only [Act.put, sA_, sZ_, sS_, i64_w, i32_w]; rfl
                      refine pure_ (i := 2) (N := some 16) (v := ?_) (a' := ?_) #[t_, f_, t_, f_] rfl rfl (by kernel_rfl) (fun _ _ _ h => h) (Or.inl ⟨by rfl, ?_⟩) ?_ ?_; rotate_left
                      ·
                       intro w'; go_simp
                       with_reducible rfl
                      rotate_left
                      ·
                       simp only [Act.put, sA_, sZ_, sS_, i64_w, i32_w]; rfl
                      refine take_ (i := 1) (N := some 157) (v := ?_) (a' := ?_) #[t_, t_, t_, f_] rfl rfl (by kernel_rfl) (fun _ _ _ h => h) (Or.inl ⟨by rfl, ?_⟩) hHeld ?_ ?_; rotate_left
                      ·
                       rintro w' ⟨s0, s1, s2⟩
                       go_simp
                       with_reducible rfl
                      rotate_left
                      ·
                       simp only [Act.put, sA_, sZ_, sS_, i64_w, i32_w]; rfl
                      refine one_ (i := 3) (N := none) #[t_, t_, t_, t_] rfl rfl (by kernel_rfl) (by decide) (fun K hK => ?_); have hs93 : w92.cell? ⟨gb354, 0, none⟩ = some (.int .i32 x355000_5) := (blk_cell BK354.out 0).trans rfl; have hfs93 := blk_frozen BK354.out 0; have hns93_0 := NB345_354.out; have hns93_2 := NB361_354.out; have hns93_3 := NB379_354.out; have hms93_0 := NB354_345.out; have hms93_2 := NB354_361.out; have hms93_3 := NB354_379.out; have hs94 : w92.cell? ⟨gb354, 1, none⟩ = some (.int .i32 x355001_5) := (blk_cell BK354.out 1).trans rfl; have hfs94 := blk_frozen BK354.out 1; have hns94_0 := NB345_354.out; have hns94_2 := NB361_354.out; have hns94_3 := NB379_354.out; have hms94_0 := NB354_345.out; have hms94_2 := NB354_361.out; have hms94_3 := NB354_379.out; have hs95 : w92.cell? ⟨gb354, 2, none⟩ = some (.int .u8 x355002_5) := (blk_cell BK354.out 2).trans rfl; have hfs95 := blk_frozen BK354.out 2; have hns95_0 := NB345_354.out; have hns95_2 := NB361_354.out; have hns95_3 := NB379_354.out; have hms95_0 := NB354_345.out; have hms95_2 := NB354_361.out; have hms95_3 := NB354_379.out; refine skip_ (w1 := ?_) (by rfl) rfl ?_ ?_; rotate_left
                      ·
                       go_simp; rfl
                      refine hK.out _ _ ⟨((cell_far (p := ⟨gb354, _, none⟩) NB379_354.out _).trans (((cell_far (p := ⟨gb354, _, none⟩) NB379_354.out _).trans (((cell_far (p := ⟨gb354, _, none⟩) NB379_354.out _).trans (hHeld.1)))))), ((cell_far (p := ⟨gb354, _, none⟩) NB379_354.out _).trans (((cell_far (p := ⟨gb354, _, none⟩) NB379_354.out _).trans (((cell_far (p := ⟨gb354, _, none⟩) NB379_354.out _).trans (hHeld.2.1)))))), ((cell_far (p := ⟨gb354, _, none⟩) NB379_354.out _).trans (((cell_far (p := ⟨gb354, _, none⟩) NB379_354.out _).trans (((cell_far (p := ⟨gb354, _, none⟩) NB379_354.out _).trans (hHeld.2.2))))))⟩ (fun hHeld => ?_); clear hK K; refine done_ (by kernel_rfl) ?_
                      try go_wp2
                      go_roundg kj70
                      case measure => have := HJ3.out; have := HJ13.out; have := HK3.out; have := HJ36.out; have := HK5.out; have := HJ70.out; omega
                      case rel => exact ⟨(t373), (wrap64 (x22_5 - 1)), (t375), (t376), (t377), (by first | rfl | (simp; done) | (simp [*]; done)), (by first | rfl | (simp; done) | (simp [*]; done)), H', ⟨by have := HJ3.out; have := HJ13.out; have := HK3.out; have := HJ36.out; have := HK5.out; have := HJ70.out; omega⟩, ⟨by (with_reducible repeat (first | apply Kd.N_alloc | apply Kd.N_drewN | apply Kd.N_drew)); exact Kd.N_mono (Kd.N_far (p := ⟨gb354, 2, none⟩) (Kd.N_far (p := ⟨gb354, 1, none⟩) (Kd.N_far (p := ⟨gb354, 0, none⟩) (Kd.N_mono HO_15.out (fun k_ hk => (⟨hk, hk.2.2.2.1⟩ : _ ∧ k_ ≠ gb354))) (fun _ hk => hk.2) (.int .i32 t375)) (fun _ hk => hk.2) (.int .i32 t376)) (fun _ hk => hk.2) (.int .u8 t377)) (fun _ hk => ⟨hk.1.1, ⟨hk.1.2.1, ⟨hk.1.2.2.1, ⟨hk.1.2.2.2.1, hk.1.2.2.2.2.1⟩⟩⟩⟩)⟩, ⟨by (with_reducible repeat (first | apply rA_ | apply rN_ | apply rD_)); exact Kd.R_mono (Kd.R_far (p := ⟨gb354, 2, none⟩) (Kd.R_far (p := ⟨gb354, 1, none⟩) (Kd.R_far (p := ⟨gb354, 0, none⟩) (Kd.R_types HO_346000.out BK354.out (by decide)) (fun _ hk => hk.2) (.int .i32 t375)) (fun _ hk => hk.2) (.int .i32 t376)) (fun _ hk => hk.2) (.int .u8 t377)) (fun _ hk => trivial)⟩, ⟨by (with_reducible repeat (first | apply rA_ | apply rN_ | apply rD_)); exact Kd.R_mono (Kd.R_far (p := ⟨gb354, 2, none⟩) (Kd.R_far (p := ⟨gb354, 1, none⟩) (Kd.R_far (p := ⟨gb354, 0, none⟩) (Kd.R_types HO_362000.out BK354.out (by decide)) (fun _ hk => hk.2) (.int .i32 t375)) (fun _ hk => hk.2) (.int .i32 t376)) (fun _ hk => hk.2) (.int .u8 t377)) (fun _ hk => trivial)⟩, ⟨by (with_reducible repeat (first | refine blk_drewN ?_ _ | refine blk_drew ?_ | refine blk_alloc ?_ _)); refine blk_far ?_ NB345_354.out _; (with_reducible repeat (first | refine blk_drewN ?_ _ | refine blk_drew ?_ | refine blk_alloc ?_ _)); refine blk_far ?_ NB345_354.out _; (with_reducible repeat (first | refine blk_drewN ?_ _ | refine blk_drew ?_ | refine blk_alloc ?_ _)); refine blk_far ?_ NB345_354.out _; (with_reducible repeat (first | refine blk_drewN ?_ _ | refine blk_drew ?_ | refine blk_alloc ?_ _)); exact BK345.out⟩, ⟨by (with_reducible repeat (first | refine blk_drewN ?_ _ | refine blk_drew ?_ | refine blk_alloc ?_ _)); refine blk_put (cs := #[.int .i32 t375, .int .i32 t376, .int .u8 x355002_5]) ?_ 2 _ rfl; (with_reducible repeat (first | refine blk_drewN ?_ _ | refine blk_drew ?_ | refine blk_alloc ?_ _)); refine blk_put (cs := #[.int .i32 t375, .int .i32 x355001_5, .int .u8 x355002_5]) ?_ 1 _ rfl; (with_reducible repeat (first | refine blk_drewN ?_ _ | refine blk_drew ?_ | refine blk_alloc ?_ _)); refine blk_put (cs := #[.int .i32 x355000_5, .int .i32 x355001_5, .int .u8 x355002_5]) ?_ 0 _ rfl; (with_reducible repeat (first | refine blk_drewN ?_ _ | refine blk_drew ?_ | refine blk_alloc ?_ _)); exact BK354.out⟩, ⟨by (with_reducible repeat (first | refine blk_drewN ?_ _ | refine blk_drew ?_ | refine blk_alloc ?_ _)); refine blk_far ?_ NB361_354.out _; (with_reducible repeat (first | refine blk_drewN ?_ _ | refine blk_drew ?_ | refine blk_alloc ?_ _)); refine blk_far ?_ NB361_354.out _; (with_reducible repeat (first | refine blk_drewN ?_ _ | refine blk_drew ?_ | refine blk_alloc ?_ _)); refine blk_far ?_ NB361_354.out _; (with_reducible repeat (first | refine blk_drewN ?_ _ | refine blk_drew ?_ | refine blk_alloc ?_ _)); exact BK361.out⟩, ⟨pH_ HB.out⟩⟩
                  ·
                   rw [if_neg c67] at H; exact absurd H (by simp)
                 ·
                  rw [if_neg c66] at H; have c66b0 : decide (0 ≤ x22_5) = false := decide_eq_false c66; clear c66; have H' := Aside0.mk H; clear H
                  go_wp2
                  go_roundg k5
                  case measure => have := HJ3.out; have := HJ13.out; have := HK3.out; have := HJ36.out; have := HK5.out; omega
                  case rel => exact ⟨(t363), (y370), (x16_5), (wrap64 (x18_3 + 1)), (t355), (t358), (x355000_5), (x355001_5), (x355002_5), (.slice Ao43 t355.length co43), (by first | rfl | (simp; done) | (simp [*]; done)), (by first | rfl | (simp; done) | (simp [*]; done)), (by first | rfl | (simp; done) | (simp [*]; done)), H', ⟨by have := HJ3.out; have := HJ13.out; have := HK3.out; have := HJ36.out; have := HK5.out; omega⟩, ⟨by (with_reducible repeat (first | apply Kd.N_alloc | apply Kd.N_drewN | apply Kd.N_drew)); exact Kd.N_mono HO_15.out (fun _ hk => ⟨hk.1, ⟨hk.2.2.1, hk.2.2.2.1⟩⟩)⟩, ⟨pL_ HO_346000.out⟩, ⟨pG_ BK345.out⟩, ⟨pG_ BK354.out⟩, ⟨pH_ HB.out⟩⟩
              ·
               rw [if_neg c52] at H; exact absurd H (by simp)
          ·
           rw [if_neg c35] at H; have c35b0 : decide (x18_3 < (l0.length : Int)) = false := decide_eq_false c35; clear c35; replace H := Option.bind_eq_some_iff.mp H; obtain ⟨⟨t381, t382⟩, A960, H⟩ := H; replace H : ((states_Count.f x16_3).bind fun bt383 => (if t382 = 0 then (if t381 = 0 then (if bt383.2.2.2 = 0 then (if (bt383.1 == x355000_3 && (bt383.2.1 == x355001_3 && (bt383.2.2.1 == x355002_3))) = true then ((bitlofttop_ends08.f k3 l0 x15_3 a1 x13_3).bind fun t388 => (bitlofttop_TopKernel.j6 k3 t388)) else (bitlofttop_TopKernel.j6 k3 false)) else (bitlofttop_TopKernel.j6 k3 false)) else (bitlofttop_TopKernel.j6 k3 false)) else (bitlofttop_TopKernel.j6 k3 false))) = some r := H; have A96 := Aside0.mk A960; clear A960; replace H := Option.bind_eq_some_iff.mp H; obtain ⟨⟨t383, t384, t385, t386⟩, A970, H⟩ := H; replace H : (if t382 = 0 then (if t381 = 0 then (if t386 = 0 then (if (t383 == x355000_3 && (t384 == x355001_3 && (t385 == x355002_3))) = true then ((bitlofttop_ends08.f k3 l0 x15_3 a1 x13_3).bind fun t388 => (bitlofttop_TopKernel.j6 k3 t388)) else (bitlofttop_TopKernel.j6 k3 false)) else (bitlofttop_TopKernel.j6 k3 false)) else (bitlofttop_TopKernel.j6 k3 false)) else (bitlofttop_TopKernel.j6 k3 false)) = some r := H; have A97 := Aside0.mk A970; clear A970; have HC98 := Aside0.mk H; clear H; have hnb99 := NB345_354.out; have hnc99 := NB354_345.out; have hcz100_0 : wr.cell? ⟨gb345, 0, none⟩ = some (u346000) := (blk_cell BK345.out 0).trans rfl; have hcz100_1 : wr.cell? ⟨gb345, 1, none⟩ = some (.int .i64 x346001_3) := (blk_cell BK345.out 1).trans rfl; have hfz100_0 := blk_frozen BK345.out 0; have hfz100_1 := blk_frozen BK345.out 1; obtain ⟨Ao101, co101, eo101⟩ := Kd.R_slice HO_346000.out
           subst eo101
           go_upto_region 31 with (first | ((with_reducible refine gate_callee (f := 14) rfl ?_); refine gL_ (some 160) Tryd.func14 #[.agg #[.slice Ao101 x346000_3.length co101, .int .i64 x346001_3]] ?_; (with_reducible refine (octet_Left.calls _ _ x346000_3 x346001_3 t381 t382 _ ?side1 ?side2 A96.out).mono ?_); (case side1 => repeat (first | exact (Kd.R_reads' HO_346000.out).2.2 | (with_reducible refine Kd.C_alloc ?_ _) | (with_reducible refine Kd.C_drewN ?_ _) | (with_reducible refine Kd.C_drew ?_))); (case side2 => exact (Kd.R_reads' HO_346000.out).2.1); rintro e w102 ⟨rfl, hb⟩; refine ⟨_, rfl, ?_⟩; have n0_ := Aside0.mk (Kd.N_below (by (with_reducible repeat (first | apply Kd.N_alloc | apply Kd.N_drewN | apply Kd.N_drew)); exact HO_15.out) hb); have n1_ := Aside0.mk (Kd.R_below (pL_ HO_346000.out) hb); have n2_ := Aside0.mk (blk_below (pG_ BK345.out) hb); have n3_ := Aside0.mk (blk_below (pG_ BK354.out) hb); have n4_ := Aside0.mk (below_step (pH_ HB.out) hb); clear HO_15; clear HO_346000; clear BK345; clear BK354; clear HB; have HO_15 := n0_; have HO_346000 := n1_; have BK345 := n2_; have BK354 := n3_; have HB := n4_; clear n0_ n1_ n2_ n3_ n4_; (try clear hb)) | ((with_reducible refine gate_callee (f := 15) rfl ?_); refine gL_ (some 165) Tryd.func15 #[.int .u8 x16_3] ?_; (with_reducible refine (states_Count.calls x16_3 t383 t384 t385 t386 _ A97.out).mono ?_); rintro e w103 ⟨rfl, hb⟩; refine ⟨_, rfl, ?_⟩; have n0_ := Aside0.mk (Kd.N_below (by (with_reducible repeat (first | apply Kd.N_alloc | apply Kd.N_drewN | apply Kd.N_drew)); exact HO_15.out) hb); have n1_ := Aside0.mk (Kd.R_below (pL_ HO_346000.out) hb); have n2_ := Aside0.mk (blk_below (pG_ BK345.out) hb); have n3_ := Aside0.mk (blk_below (pG_ BK354.out) hb); have n4_ := Aside0.mk (below_step (pH_ HB.out) hb); clear HO_15; clear HO_346000; clear BK345; clear BK354; clear HB; have HO_15 := n0_; have HO_346000 := n1_; have BK345 := n2_; have BK354 := n3_; have HB := n4_; clear n0_ n1_ n2_ n3_ n4_; (try clear hb)) | ((with_reducible refine gate_dst (N := 30) rfl ?_); (try (refine gate_guard (by rfl) ?_; dsimp only)); refine box_event ?hg (N := 30) ?hd (cs := #[.int .i32 0, .int .i32 0, .int .u8 0]) (t := 39) ?hr ?_; (case hd => rfl); (case hg => rfl); (case hr => first | (go_simp; done) | (go_simp; rfl)); intro gb387 hg w104 hbox hb; have n0_ := Aside0.mk (Kd.N_below (Kd.N_elderB (by (with_reducible repeat (first | apply Kd.N_alloc | apply Kd.N_drewN | apply Kd.N_drew)); exact HO_15.out) gb387 (Nat.le_of_eq hg.symm)) hb); have n1_ := Aside0.mk (Kd.R_below (pL_ HO_346000.out) hb); have n2_ := Aside0.mk (blk_below (pG_ BK345.out) hb); have n3_ := Aside0.mk (blk_below (pG_ BK354.out) hb); have n4_ := Aside0.mk (below_step (pH_ HB.out) hb); have n5_ := Aside0.mk (hbox); have n6_ := Aside0.mk ((by rw [hg]; exact (below_size (pH_ HB.out)) : w.heap.size ≤ gb387)); have n7_ := Aside0.mk ((by rw [hg]; exact (below_size (pH_ HB.out)) : w.heap.size ≤ gb387)); have n8_ := Aside0.mk ((by rw [hg]; exact Nat.ne_of_lt (blk_lt (pG_ BK345.out)) : gb345 ≠ gb387)); have n9_ := Aside0.mk ((by rw [hg]; exact Nat.ne_of_gt (blk_lt (pG_ BK345.out)) : gb387 ≠ gb345)); have n10_ := Aside0.mk ((by rw [hg]; exact Nat.ne_of_lt (blk_lt (pG_ BK354.out)) : gb354 ≠ gb387)); have n11_ := Aside0.mk ((by rw [hg]; exact Nat.ne_of_gt (blk_lt (pG_ BK354.out)) : gb387 ≠ gb354)); clear HO_15; clear HO_346000; clear BK345; clear BK354; clear HB; have HO_15 := n0_; have HO_346000 := n1_; have BK345 := n2_; have BK354 := n3_; have HB := n4_; have BK387 := n5_; have GW387 := n6_; have GE387 := n7_; have NB345_387 := n8_; have NB387_345 := n9_; have NB354_387 := n10_; have NB387_354 := n11_; clear n0_ n1_ n2_ n3_ n4_ n5_ n6_ n7_ n8_ n9_ n10_ n11_; clear hb hbox hg; have hnb105 := NB387_345.out; have hnc105 := NB345_387.out; have hnb106 := NB387_354.out; have hnc106 := NB354_387.out; have hcz107_0 : w104.cell? ⟨gb387, 0, none⟩ = some (.int .i32 0) := (blk_cell BK387.out 0).trans rfl; have hcz107_1 : w104.cell? ⟨gb387, 1, none⟩ = some (.int .i32 0) := (blk_cell BK387.out 1).trans rfl; have hcz107_2 : w104.cell? ⟨gb387, 2, none⟩ = some (.int .u8 0) := (blk_cell BK387.out 2).trans rfl; have hfz107_0 := blk_frozen BK387.out 0; have hfz107_1 := blk_frozen BK387.out 1; have hfz107_2 := blk_frozen BK387.out 2) | ((with_reducible refine gate_store (t := 39) (p := 30) rfl ?_); refine store_event (t := 39) (p := 30) (v := ?vo_w108) (w1 := (((w104.setCell ⟨gb387, 0, none⟩ (.int .i32 t383)).setCell ⟨gb387, 1, none⟩ (.int .i32 t384)).setCell ⟨gb387, 2, none⟩ (.int .u8 t385))) ?hg ?ho ?hn ?hr ?_; (case ho => rfl); (case hg => rfl); (case hn => rfl); (case hr => first | (go_simp; done) | (go_simp; rfl)); intro w108 hw; have n0_ : Aside0 (Kd.N (Kd.slice 5 (Kd.int .u8)) 22 w108 w.heap.size (fun k_ => nO_ k_ (.slice Ao101 x346000_3.length co101) ∧ k_ ≠ gb345 ∧ k_ ≠ gb354 ∧ k_ ≠ gb387) u15 x15_3) := ⟨(by rw [hw]; exact (by (with_reducible repeat (first | apply Kd.N_alloc | apply Kd.N_drewN | apply Kd.N_drew)); exact Kd.N_mono (Kd.N_far (p := ⟨gb387, 2, none⟩) (Kd.N_far (p := ⟨gb387, 1, none⟩) (Kd.N_far (p := ⟨gb387, 0, none⟩) (Kd.N_mono HO_15.out (fun k_ hk => (⟨hk, hk.2⟩ : _ ∧ k_ ≠ gb387))) (fun _ hk => hk.2) (.int .i32 t383)) (fun _ hk => hk.2) (.int .i32 t384)) (fun _ hk => hk.2) (.int .u8 t385)) (fun _ hk => ⟨hk.1.1.1, ⟨hk.1.1.2.1, ⟨hk.1.1.2.2, hk.1.2⟩⟩⟩)))⟩; have n1_ : Aside0 (Kd.R (Kd.int .u8) 5 w108 w.heap.size (fun _ => True) (.slice Ao101 x346000_3.length co101) x346000_3) := ⟨(by rw [hw]; exact (by (with_reducible repeat (first | apply rA_ | apply rN_ | apply rD_)); exact Kd.R_mono (Kd.R_far (p := ⟨gb387, 2, none⟩) (Kd.R_far (p := ⟨gb387, 1, none⟩) (Kd.R_far (p := ⟨gb387, 0, none⟩) (Kd.R_types HO_346000.out BK387.out (by decide)) (fun _ hk => hk.2) (.int .i32 t383)) (fun _ hk => hk.2) (.int .i32 t384)) (fun _ hk => hk.2) (.int .u8 t385)) (fun _ hk => trivial)))⟩; have n2_ : Aside0 (w108.heap[gb345]? = some (.cells #[.slice Ao101 x346000_3.length co101, .int .i64 x346001_3] 28 (0, 0))) := ⟨(by rw [hw]; exact (by (with_reducible repeat (first | refine blk_drewN ?_ _ | refine blk_drew ?_ | refine blk_alloc ?_ _)); refine blk_far ?_ NB345_387.out _; (with_reducible repeat (first | refine blk_drewN ?_ _ | refine blk_drew ?_ | refine blk_alloc ?_ _)); refine blk_far ?_ NB345_387.out _; (with_reducible repeat (first | refine blk_drewN ?_ _ | refine blk_drew ?_ | refine blk_alloc ?_ _)); refine blk_far ?_ NB345_387.out _; (with_reducible repeat (first | refine blk_drewN ?_ _ | refine blk_drew ?_ | refine blk_alloc ?_ _)); exact BK345.out))⟩; have n3_ : Aside0 (w108.heap[gb354]? = some (.cells #[.int .i32 x355000_3, .int .i32 x355001_3, .int .u8 x355002_3] 39 (0, 0))) := ⟨(by rw [hw]; exact (by (with_reducible repeat (first | refine blk_drewN ?_ _ | refine blk_drew ?_ | refine blk_alloc ?_ _)); refine blk_far ?_ NB354_387.out _; (with_reducible repeat (first | refine blk_drewN ?_ _ | refine blk_drew ?_ | refine blk_alloc ?_ _)); refine blk_far ?_ NB354_387.out _; (with_reducible repeat (first | refine blk_drewN ?_ _ | refine blk_drew ?_ | refine blk_alloc ?_ _)); refine blk_far ?_ NB354_387.out _; (with_reducible repeat (first | refine blk_drewN ?_ _ | refine blk_drew ?_ | refine blk_alloc ?_ _)); exact BK354.out))⟩; have n4_ : Aside0 (w108.heap[gb387]? = some (.cells #[.int .i32 t383, .int .i32 t384, .int .u8 t385] 39 (0, 0))) := ⟨(by rw [hw]; exact (by (with_reducible repeat (first | refine blk_drewN ?_ _ | refine blk_drew ?_ | refine blk_alloc ?_ _)); refine blk_put (cs := #[.int .i32 t383, .int .i32 t384, .int .u8 0]) ?_ 2 _ rfl; (with_reducible repeat (first | refine blk_drewN ?_ _ | refine blk_drew ?_ | refine blk_alloc ?_ _)); refine blk_put (cs := #[.int .i32 t383, .int .i32 0, .int .u8 0]) ?_ 1 _ rfl; (with_reducible repeat (first | refine blk_drewN ?_ _ | refine blk_drew ?_ | refine blk_alloc ?_ _)); refine blk_put (cs := #[.int .i32 0, .int .i32 0, .int .u8 0]) ?_ 0 _ rfl; (with_reducible repeat (first | refine blk_drewN ?_ _ | refine blk_drew ?_ | refine blk_alloc ?_ _)); exact BK387.out))⟩; have n5_ : Aside0 (Below w.heap.size w w108) := ⟨(by rw [hw]; exact (pH_ HB.out))⟩; clear hw; clear HO_15; clear HO_346000; clear BK345; clear BK354; clear BK387; clear HB; have HO_15 := n0_; have HO_346000 := n1_; have BK345 := n2_; have BK354 := n3_; have BK387 := n4_; have HB := n5_; clear n0_ n1_ n2_ n3_ n4_ n5_))
           (try simp only [Act.put, sA_, sZ_, sS_]); (with_reducible first | refine then_id_ ?_ | (refine wp_tail_ ?_; intro Kt_ hKt_))
           go_cut [6] (fun v6 wc => ∃ (kq : Nat) (x6_97 : Bool), v6 = .bool x6_97 ∧ Aside0 (bitlofttop_TopKernel.j6 kq x6_97 = some r) ∧ Aside0 (kq ≤ k3) ∧ Aside0 (Kd.R (Kd.int .u8) 5 wc w.heap.size (fun _ => True) (.slice Ao101 x346000_3.length co101) x346000_3) ∧ Aside0 (wc.heap[gb345]? = some (.cells #[(.slice Ao101 x346000_3.length co101), .int .i64 x346001_3] 28 (0, 0))) ∧ Aside0 (wc.heap[gb354]? = some (.cells #[.int .i32 x355000_3, .int .i32 x355001_3, .int .u8 x355002_3] 39 (0, 0))) ∧ Aside0 (wc.heap[gb387]? = some (.cells #[.int .i32 t383, .int .i32 t384, .int .u8 t385] 39 (0, 0))) ∧ Aside0 (Below w.heap.size w wc))
           case first =>
            have H := HC98.out; clear HC98
            by_cases c109 : t382 = 0
            ·
             rw [if_pos c109] at H; have c109b0 : (t382 == 0) = true := beq_iff_eq.mpr c109; have c109b1 : (t382 != 0) = false := bne_eq_false_iff_eq.mpr c109; clear c109; (first | rw [c109b0] | (simp only [i64_w, i32_w]; rw [c109b0]) | skip)
             by_cases c110 : t381 = 0
             ·
              rw [if_pos c110] at H; have c110b0 : (t381 == 0) = true := beq_iff_eq.mpr c110; have c110b1 : (t381 != 0) = false := bne_eq_false_iff_eq.mpr c110; clear c110
              by_cases c111 : t386 = 0
              ·
               rw [if_pos c111] at H; have c111b0 : (t386 == 0) = true := beq_iff_eq.mpr c111; have c111b1 : (t386 != 0) = false := bne_eq_false_iff_eq.mpr c111; clear c111
               by_cases c112 : (t383 == x355000_3 && (t384 == x355001_3 && (t385 == x355002_3))) = true
               ·
                rw [if_pos c112] at H; have c112b0 : (t383 == x355000_3 && (t384 == x355001_3 && (t385 == x355002_3))) = true := c112; (try (have c112b1 : decide (t383 = x355000_3 && (t384 == x355001_3 && (t385 == x355002_3))) = true := by simpa using c112)); (try (have c112b2 : (t383 == x355000_3 && (t384 == x355001_3 && (t385 == x355002_3))) = true := by simpa using c112)); clear c112; replace H := Option.bind_eq_some_iff.mp H; obtain ⟨t388, A1130, H⟩ := H; replace H : (bitlofttop_TopKernel.j6 k3 t388) = some r := H; have A113 := Aside0.mk A1130; clear A1130; have H' := Aside0.mk H; clear H; have hnb114 := NB387_345.out; have hnc114 := NB345_387.out; have hnb115 := NB387_354.out; have hnc115 := NB354_387.out; have hcz116_0 : w108.cell? ⟨gb387, 0, none⟩ = some (.int .i32 t383) := (blk_cell BK387.out 0).trans rfl; have hcz116_1 : w108.cell? ⟨gb387, 1, none⟩ = some (.int .i32 t384) := (blk_cell BK387.out 1).trans rfl; have hcz116_2 : w108.cell? ⟨gb387, 2, none⟩ = some (.int .u8 t385) := (blk_cell BK387.out 2).trans rfl; have hfz116_0 := blk_frozen BK387.out 0; have hfz116_1 := blk_frozen BK387.out 1; have hfz116_2 := blk_frozen BK387.out 2; have hnb117 := NB354_345.out; have hnc117 := NB345_354.out; have hcz118_0 : w108.cell? ⟨gb354, 0, none⟩ = some (.int .i32 x355000_3) := (blk_cell BK354.out 0).trans rfl; have hcz118_1 : w108.cell? ⟨gb354, 1, none⟩ = some (.int .i32 x355001_3) := (blk_cell BK354.out 1).trans rfl; have hcz118_2 : w108.cell? ⟨gb354, 2, none⟩ = some (.int .u8 x355002_3) := (blk_cell BK354.out 2).trans rfl; have hfz118_0 := blk_frozen BK354.out 0; have hfz118_1 := blk_frozen BK354.out 1; have hfz118_2 := blk_frozen BK354.out 2; obtain ⟨Ao119, co119, eo119⟩ := Kd.N_slice HO_15.out
                subst eo119
                go_wp2_with (first | (go_at_call 16; (with_reducible refine (bitlofttop_ends08.calls k3 _ _ l0 (fun k_ => (nO_ k_ (.slice Ao101 x346000_3.length co101) ∧ (k_ ≠ gb345 ∧ (k_ ≠ gb354 ∧ k_ ≠ gb387)))) _ _ x15_3 a1 x13_3 t388 _ ?side1 ?side2 ?side3 (tab_bel hT (pH_ HB.out)) A113.out).mono ?_); (case side1 => repeat (first | exact (Kd.C_below HR0.out HB.out) | (with_reducible refine Kd.C_alloc ?_ _) | (with_reducible refine Kd.C_drewN ?_ _) | (with_reducible refine Kd.C_drew ?_))); (case side2 => exact HC0.out); (case side3 => exact Kd.N_V (HO_15.out)); rintro e w120 ⟨rfl, hb⟩; have n0_ := Aside0.mk (Kd.N_below (by (with_reducible repeat (first | apply Kd.N_alloc | apply Kd.N_drewN | apply Kd.N_drew)); exact HO_15.out) hb); have n1_ := Aside0.mk (Kd.R_below (pL_ HO_346000.out) hb); have n2_ := Aside0.mk (blk_below (pG_ BK345.out) hb); have n3_ := Aside0.mk (blk_below (pG_ BK354.out) hb); have n4_ := Aside0.mk (blk_below (pG_ BK387.out) hb); have n5_ := Aside0.mk (below_step (pH_ HB.out) hb); clear HO_15; clear HO_346000; clear BK345; clear BK354; clear BK387; clear HB; have HO_15 := n0_; have HO_346000 := n1_; have BK345 := n2_; have BK354 := n3_; have BK387 := n4_; have HB := n5_; clear n0_ n1_ n2_ n3_ n4_ n5_; (try clear hb)))
                (first | go_meet | (refine Met.intro ?_; go_step; (repeat apply Exists.intro); refine ⟨?rel, ?eqf_⟩; case eqf_ => ((simp only [c112b0, c111b0, c110b0, c109b0, c35b0]) <;> rfl)))
                case rel => exact ⟨_, (t388), (by first | rfl | (simp; done) | (simp [*]; done)), H', ⟨by have := HJ3.out; have := HJ13.out; have := HK3.out; first | omega | exact Nat.le_refl _⟩, ⟨pL_ HO_346000.out⟩, ⟨pG_ BK345.out⟩, ⟨pG_ BK354.out⟩, ⟨pG_ BK387.out⟩, ⟨pH_ HB.out⟩⟩
               ·
                rw [if_neg c112] at H
                have c112b0 : (t383 == x355000_3 && (t384 == x355001_3 && (t385 == x355002_3))) = false := by simpa using c112
                (try (have c112b1 : decide (t383 = x355000_3 && (t384 == x355001_3 && (t385 == x355002_3))) = false := by simpa using c112)); (try (have c112b2 : (t383 == x355000_3 && (t384 == x355001_3 && (t385 == x355002_3))) = false := by simpa using c112)); (try (have c112b3 : ¬ (t383 = x355000_3 && (t384 == x355001_3 && (t385 == x355002_3))) := by simpa using c112)); clear c112; exact absurd (H.trans (congrArg some HRT_.out)) (by first | (simp; done) | (generalize k3 = k_; cases k_ <;> simp [bitlofttop_TopKernel.j0, bitlofttop_TopKernel.j1, bitlofttop_TopKernel.l0, bitlofttop_TopKernel.j3, bitlofttop_TopKernel.l1, bitlofttop_TopKernel.j5, bitlofttop_TopKernel.j6]))
              ·
               rw [if_neg c111] at H; have c111b0 : (t386 == 0) = false := beq_eq_false_iff_ne.mpr c111; have c111b1 : (t386 != 0) = true := bne_iff_ne.mpr c111; exact absurd (H.trans (congrArg some HRT_.out)) (by first | (simp; done) | (generalize k3 = k_; cases k_ <;> simp [bitlofttop_TopKernel.j0, bitlofttop_TopKernel.j1, bitlofttop_TopKernel.l0, bitlofttop_TopKernel.j3, bitlofttop_TopKernel.l1, bitlofttop_TopKernel.j5, bitlofttop_TopKernel.j6]))
             ·
              rw [if_neg c110] at H; have c110b0 : (t381 == 0) = false := beq_eq_false_iff_ne.mpr c110; have c110b1 : (t381 != 0) = true := bne_iff_ne.mpr c110; exact absurd (H.trans (congrArg some HRT_.out)) (by first | (simp; done) | (generalize k3 = k_; cases k_ <;> simp [bitlofttop_TopKernel.j0, bitlofttop_TopKernel.j1, bitlofttop_TopKernel.l0, bitlofttop_TopKernel.j3, bitlofttop_TopKernel.l1, bitlofttop_TopKernel.j5, bitlofttop_TopKernel.j6]))
            ·
             rw [if_neg c109] at H; have c109b0 : (t382 == 0) = false := beq_eq_false_iff_ne.mpr c109; have c109b1 : (t382 != 0) = true := bne_iff_ne.mpr c109; (first | rw [c109b0] | (simp only [i64_w, i32_w]; rw [c109b0]) | skip); exact absurd (H.trans (congrArg some HRT_.out)) (by first | (simp; done) | (generalize k3 = k_; cases k_ <;> simp [bitlofttop_TopKernel.j0, bitlofttop_TopKernel.j1, bitlofttop_TopKernel.l0, bitlofttop_TopKernel.j3, bitlofttop_TopKernel.l1, bitlofttop_TopKernel.j5, bitlofttop_TopKernel.j6]))
           case rest =>
            (try (refine hKt_ _ _ ?_; clear hKt_; clear Kt_)); clear HC98
            try clear c1
            try clear p2
            try clear c3
            try clear p3
            try clear q3
            try clear hx3
            try clear c4
            try clear c5
            try clear c6
            try clear p6
            try clear c7
            try clear c8
            try clear c9
            try clear c10
            try clear c11
            try clear c12
            try clear c14
            try clear c15
            try clear c35
            try clear c35b0
            try clear p36
            try clear q36
            try clear hx36
            try clear c38
            try clear c44
            try clear c45
            try clear c48
            try clear c48b0
            try clear c48b1
            try clear c49
            try clear c49b0
            try clear c50
            try clear c52
            try clear p64
            try clear c66
            try clear c66b0
            try clear c67
            try clear c67b0
            try clear c67b1
            try clear c73
            try clear c74
            try clear c78
            try clear c79
            try clear c80
            try clear c83
            try clear c83b0
            try clear c83b1
            try clear c84
            try clear c84b0
            try clear c84b1
            try clear c86
            try clear c87
            try clear c88
            try clear c91
            try clear c99
            try clear c105
            try clear c106
            try clear c109
            try clear c109b0
            try clear c109b1
            try clear c110
            try clear c110b0
            try clear c110b1
            try clear c111
            try clear c111b0
            try clear c111b1
            try clear c112
            try clear c112b0
            try clear c112b1
            try clear c112b2
            try clear c114
            try clear c115
            try clear c117
            try clear hcz100_0
            try clear hcz100_1
            try clear hcz107_0
            try clear hcz107_1
            try clear hcz107_2
            try clear hcz116_0
            try clear hcz116_1
            try clear hcz116_2
            try clear hcz118_0
            try clear hcz118_1
            try clear hcz118_2
            try clear hcz21_0
            try clear hcz21_1
            try clear hcz24_0
            try clear hcz24_1
            try clear hcz33_0
            try clear hcz33_1
            try clear hcz33_2
            try clear hcz39_0
            try clear hcz39_1
            try clear hcz46_0
            try clear hcz46_1
            try clear hcz75_0
            try clear hcz75_1
            try clear hcz75_2
            try clear hcz81_0
            try clear hcz81_1
            try clear hcz81_2
            try clear hcz89_0
            try clear hcz89_1
            try clear hcz89_2
            try clear hfz100_0
            try clear hfz100_1
            try clear hfz107_0
            try clear hfz107_1
            try clear hfz107_2
            try clear hfz116_0
            try clear hfz116_1
            try clear hfz116_2
            try clear hfz118_0
            try clear hfz118_1
            try clear hfz118_2
            try clear hfz21_0
            try clear hfz21_1
            try clear hfz24_0
            try clear hfz24_1
            try clear hfz33_0
            try clear hfz33_1
            try clear hfz33_2
            try clear hfz39_0
            try clear hfz39_1
            try clear hfz46_0
            try clear hfz46_1
            try clear hfz75_0
            try clear hfz75_1
            try clear hfz75_2
            try clear hfz81_0
            try clear hfz81_1
            try clear hfz81_2
            try clear hfz89_0
            try clear hfz89_1
            try clear hfz89_2
            try clear hx362_0
            try clear p2
            try clear p3
            try clear p36
            try clear p362
            try clear q3
            try clear q36
            try clear q362
            obtain ⟨kq, x6_97, rfl, HA, HJ97, HO_346000, BK345, BK354, BK387, HB⟩ := hcut
            cases kq with
            | zero => exact absurd HA.out (by simp [bitlofttop_TopKernel.j6])
            | succ kj97 =>
             have H := HA.out; clear HA; simp only [bitlofttop_TopKernel.j6] at H; obtain rfl := Option.some.inj H
             go_wp2
             go_ret
             exact ⟨by first | rfl | (simp [errW_none, errW_some] <;> rfl) | (simp [*, errW_none, errW_some] <;> rfl), pH_ HB.out⟩
    ·
     replace c9 := Bool.eq_false_iff.mpr c9
     subst c9
     have H1 : (some false) = some r := by rw [if_neg (show ¬ (false = true) by decide)] at H; exact H
     clear H; have H := H1; clear H1; exact absurd (H.trans (congrArg some HRT_.out)) (by simp)

/-- THE ONE PURE STATEMENT of bitlofttop_TopKernel: yours. -/
def bitlofttop_TopKernel.Pure : Prop := ∀ (l0 : List Int) (a1 : Int) (a2 : Int), l0.length ≤ maxLen → l0.length * 1 ≤ 140737488351232 → (∀ x ∈ l0, (Lit.int .u8 x).wf = true) → (Lit.int .i64 a1).wf = true → (Lit.int .i32 a2).wf = true → ∃ k, bitlofttop_TopKernel.f k l0 a1 a2 = some true
theorem bitlofttop_TopKernel.walk (P : bitlofttop_TopKernel.Pure) (a0 : Option Addr) (len0 cap0 : Nat) (z0 : List Int) (a1 : Int) (a2 : Int) (w : World) (w0 : (a0 = none ∧ len0 = 0 ∧ cap0 = 0 ∧ z0 = []) ∨ ∃ x, a0 = some x ∧ len0 ≤ cap0 ∧ cap0 ≤ maxLen ∧ z0.length = cap0 ∧ (∀ i, i < z0.length → w.cell? (x.add i) = some (.int .u8 (z0.getD i 0))) ∧ ∀ n ∈ z0, (Lit.int .u8 n).wf = true) (y0 : len0 * 1 ≤ 140737488351232) (w1 : (Lit.int .i64 a1).wf = true) (w2 : (Lit.int .i32 a2).wf = true) (hT : Tab_ w) :
  Calls Tryd.prog 3 #[.slice a0 len0 cap0, .int .i64 a1, .int .i32 a2] w fun e w' => e = .returned (.bool true) ∧ Below w.heap.size w w' := by
 obtain ⟨l0, rfl, hr0, hm0, hw0, hc0⟩ := ReadsInt.ofRowC w0; obtain ⟨k, h⟩ := P l0 a1 a2 hm0 y0 hw0 w1 w2; refine (bitlofttop_TopKernel.calls k _ _ l0 a1 a2 true w (Kd.C_of_reads (d := (0 : Int)) (h1 := fun _ => rfl) hr0) hc0 hT rfl h).mono ?_
 rintro e w' ⟨rfl, hd⟩
 exact ⟨rfl, hd⟩

end Go.Proofs.YthhfigkbjacmeaaDoor.XTopKernel
