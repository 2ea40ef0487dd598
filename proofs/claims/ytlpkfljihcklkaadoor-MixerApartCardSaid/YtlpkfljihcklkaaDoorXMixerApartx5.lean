-- Laid by a program of this session (wip/mkxprint.py, over the kit's print): Lean checks it.
import Derived.Test.YtlpkfljihcklkaaDoorXMixerApartx0
import Derived.Test.YtlpkfljihcklkaaDoorXMixerApartx1
import Derived.Test.YtlpkfljihcklkaaDoorXMixerApartx2
import Derived.Test.YtlpkfljihcklkaaDoorXMixerApartx3
import Derived.Test.YtlpkfljihcklkaaDoorXMixerApartx4
namespace Go.Proofs.YtlpkfljihcklkaaDoor.XMixerApart
open List (setIfInBounds_toArray set_cons_zero set_cons_succ)
open Go.RowKit Go.Proofs.YtlpkfljihcklkaaDoorW.PrintWords Go.Proofs.YtlpkfljihcklkaaDoorW.PrintLast Go.Proofs.YtlpkfljihcklkaaDoorW.PrintMore
attribute [local go_sem] max2_int min2_int max_two min_two max_three min_three max_four min_four   -- for this text's walks alone
set_option linter.unusedVariables false
set_option linter.unusedSimpArgs false

/-! ### bitloftlaw16_MixerApart: function 6 -/
mutual
def bitloftlaw16_MixerApart.j0 : Nat → Int → List Int → Int → Bool → Bool → List (List Int) → Option (Bool)
 | 0, _, _, _, _, _, _ => none
 | k + 1, x1, x2, x3, x4, x39, x193000 => if x39 = true then (some true) else ((mixer_Learn.f k x193000 x1 x2 x3 x4).bind fun bt194 => ((some (List.replicate 8 0 : List Int)).bind fun y199 => ((mixer_Mix.f k x193000 x1 y199).bind fun bt202 => ((mixer_Learn.f k x193000 x1 y199 x3 x4).bind fun bt205 => (if bt194.2 = 0 then (if bt202.2.2 = 0 then (if bt205.2 = 0 then (if bt202.1 = 0 then ((squash_Squash.f 0).bind fun t210 => (if bt202.2.1 = t210 then ((bitloftref16_Same.f k bt205.1 x193000).bind fun t211 => (if t211 = true then (bitloftlaw16_MixerApart.j1 k x1 x2 ((bt194.1.length : Int) != (x193000.length : Int)) x193000 bt194.1) else (bitloftlaw16_MixerApart.j1 k x1 x2 true x193000 bt194.1))) else (bitloftlaw16_MixerApart.j1 k x1 x2 true x193000 bt194.1))) else (bitloftlaw16_MixerApart.j1 k x1 x2 true x193000 bt194.1)) else (bitloftlaw16_MixerApart.j1 k x1 x2 true x193000 bt194.1)) else (bitloftlaw16_MixerApart.j1 k x1 x2 true x193000 bt194.1)) else (bitloftlaw16_MixerApart.j1 k x1 x2 true x193000 bt194.1))))))
def bitloftlaw16_MixerApart.j1 : Nat → Int → List Int → Bool → List (List Int) → List (List Int) → Option (Bool)
 | 0, _, _, _, _, _ => none
 | k + 1, x1, x2, x101, x193000, x199000 => if x101 = true then (some false) else (bitloftlaw16_MixerApart.l0 k x1 x2 0 x193000 x199000)
def bitloftlaw16_MixerApart.l0 : Nat → Int → List Int → Int → List (List Int) → List (List Int) → Option (Bool)
 | 0, _, _, _, _, _ => none
 | k + 1, x1, x2, x20, x193000, x199000 => if x20 < (x193000.length : Int) then (if x20 = x1 then (if 0 ≤ x20 then (if x20 < (x199000.length : Int) then (bitloftlaw16_MixerApart.j3 k x1 x2 x20 (((rd_L1 x199000 x20).length : Int) != 8) x193000 x199000) else (none)) else (none)) else (if 0 ≤ x20 then (if x20 < (x199000.length : Int) then ((bitloftref16_SameRow.f k (rd_L1 x199000 x20) (rd_L1 x193000 x20)).bind fun t215 => (if t215 = true then (bitloftlaw16_MixerApart.j3 k x1 x2 x20 (((rd_L1 x199000 x20).length : Int) != 8) x193000 x199000) else (bitloftlaw16_MixerApart.j3 k x1 x2 x20 true x193000 x199000))) else (none)) else (none))) else (bitloftlaw16_MixerApart.l1 k x1 x2 0 x193000 x199000)
def bitloftlaw16_MixerApart.j3 : Nat → Int → List Int → Int → Bool → List (List Int) → List (List Int) → Option (Bool)
 | 0, _, _, _, _, _, _ => none
 | k + 1, x1, x2, x20, x134, x193000, x199000 => if x134 = true then (some false) else (bitloftlaw16_MixerApart.l0 k x1 x2 (wrap64 (x20 + 1)) x193000 x199000)
def bitloftlaw16_MixerApart.l1 : Nat → Int → List Int → Int → List (List Int) → List (List Int) → Option (Bool)
 | 0, _, _, _, _, _ => none
 | k + 1, x1, x2, x21, x193000, x199000 => if x21 < 8 then (if 0 ≤ x21 then (if x21 < (x2.length : Int) then (if (rd x2 x21) = 0 then (if 0 ≤ x1 then (if x1 < (x199000.length : Int) then (if x21 < ((rd_L1 x199000 x1).length : Int) then (if x1 < (x193000.length : Int) then (if x21 < ((rd_L1 x193000 x1).length : Int) then (if (rd (rd_L1 x199000 x1) x21) = (rd (rd_L1 x193000 x1) x21) then (bitloftlaw16_MixerApart.j5 k x1 x2 x21 x193000 x199000) else (some false)) else (none)) else (none)) else (none)) else (none)) else (none)) else (bitloftlaw16_MixerApart.j5 k x1 x2 x21 x193000 x199000)) else (none)) else (none)) else (some true)
def bitloftlaw16_MixerApart.j5 : Nat → Int → List Int → Int → List (List Int) → List (List Int) → Option (Bool)
 | 0, _, _, _, _, _ => none
 | k + 1, x1, x2, x21, x193000, x199000 => bitloftlaw16_MixerApart.l1 k x1 x2 (wrap64 (x21 + 1)) x193000 x199000
end
def bitloftlaw16_MixerApart.f (k : Nat) (l0_0 : List (List Int)) (a1 : Int) (l2 : List Int) (a3 : Int) (a4 : Bool) : Option (Bool) := (bitloftlaw16_fit.f k l0_0 a1 l2).bind fun t193 => (if t193 = true then (if a3 < 0 then (bitloftlaw16_MixerApart.j0 k a1 l2 a3 a4 true l0_0) else (if a3 > 4095 then (bitloftlaw16_MixerApart.j0 k a1 l2 a3 a4 true l0_0) else (bitloftlaw16_MixerApart.j0 k a1 l2 a3 a4 (!true) l0_0))) else (bitloftlaw16_MixerApart.j0 k a1 l2 a3 a4 true l0_0))
theorem bitloftlaw16_MixerApart.mono_l : ∀ k, (∀ y0 y1 y2 y3 y4 y5, LeO (bitloftlaw16_MixerApart.j0 k y0 y1 y2 y3 y4 y5) (bitloftlaw16_MixerApart.j0 (k + 1) y0 y1 y2 y3 y4 y5)) ∧ (∀ y0 y1 y2 y3 y4, LeO (bitloftlaw16_MixerApart.j1 k y0 y1 y2 y3 y4) (bitloftlaw16_MixerApart.j1 (k + 1) y0 y1 y2 y3 y4)) ∧ (∀ y0 y1 y2 y3 y4, LeO (bitloftlaw16_MixerApart.l0 k y0 y1 y2 y3 y4) (bitloftlaw16_MixerApart.l0 (k + 1) y0 y1 y2 y3 y4)) ∧ (∀ y0 y1 y2 y3 y4 y5, LeO (bitloftlaw16_MixerApart.j3 k y0 y1 y2 y3 y4 y5) (bitloftlaw16_MixerApart.j3 (k + 1) y0 y1 y2 y3 y4 y5)) ∧ (∀ y0 y1 y2 y3 y4, LeO (bitloftlaw16_MixerApart.l1 k y0 y1 y2 y3 y4) (bitloftlaw16_MixerApart.l1 (k + 1) y0 y1 y2 y3 y4)) ∧ (∀ y0 y1 y2 y3 y4, LeO (bitloftlaw16_MixerApart.j5 k y0 y1 y2 y3 y4) (bitloftlaw16_MixerApart.j5 (k + 1) y0 y1 y2 y3 y4))
 | 0 => ⟨fun _ _ _ _ _ _ r h => by simp [bitloftlaw16_MixerApart.j0] at h, fun _ _ _ _ _ r h => by simp [bitloftlaw16_MixerApart.j1] at h, fun _ _ _ _ _ r h => by simp [bitloftlaw16_MixerApart.l0] at h, fun _ _ _ _ _ _ r h => by simp [bitloftlaw16_MixerApart.j3] at h, fun _ _ _ _ _ r h => by simp [bitloftlaw16_MixerApart.l1] at h, fun _ _ _ _ _ r h => by simp [bitloftlaw16_MixerApart.j5] at h⟩
 | k + 1 => by
  obtain ⟨ih0, ih1, ih2, ih3, ih4, ih5⟩ := bitloftlaw16_MixerApart.mono_l k; refine ⟨?_, ?_, ?_, ?_, ?_, ?_⟩
  ·
   intro y0 y1 y2 y3 y4 y5
   unfold bitloftlaw16_MixerApart.j0
   repeat' first
   | (with_reducible exact ih0 _ _ _ _ _ _)
   | (with_reducible exact ih1 _ _ _ _ _)
   | (with_reducible exact ih2 _ _ _ _ _)
   | (with_reducible exact ih3 _ _ _ _ _ _)
   | (with_reducible exact ih4 _ _ _ _ _)
   | (with_reducible exact ih5 _ _ _ _ _)
   | (with_reducible exact bitloftlaw16_alive.mono _)
   | (with_reducible exact bitloftlaw16_fit.mono _ _ _ _)
   | (with_reducible exact bitloftref16_Same.mono _ _ _)
   | (with_reducible exact bitloftref16_SameRow.mono _ _ _)
   | (with_reducible exact mixer_Learn.mono _ _ _ _ _ _)
   | (with_reducible exact mixer_Mix.mono _ _ _ _)
   | (with_reducible exact LeO.refl _)
   | (with_reducible exact LeO.none _)
   | (with_reducible refine LeO.ite ?_ ?_)
   | (with_reducible refine LeO.bind ?_ (fun _ => ?_))
   | exact ih0 _ _ _ _ _ _
   | exact ih1 _ _ _ _ _
   | exact ih2 _ _ _ _ _
   | exact ih3 _ _ _ _ _ _
   | exact ih4 _ _ _ _ _
   | exact ih5 _ _ _ _ _
   | exact bitloftlaw16_alive.mono _
   | exact bitloftlaw16_fit.mono _ _ _ _
   | exact bitloftref16_Same.mono _ _ _
   | exact bitloftref16_SameRow.mono _ _ _
   | exact mixer_Learn.mono _ _ _ _ _ _
   | exact mixer_Mix.mono _ _ _ _
   | exact LeO.none _
   | refine LeO.ite ?_ ?_
   | refine LeO.bind ?_ (fun _ => ?_)
  ·
   intro y0 y1 y2 y3 y4
   unfold bitloftlaw16_MixerApart.j1
   repeat' first
   | (with_reducible exact ih0 _ _ _ _ _ _)
   | (with_reducible exact ih1 _ _ _ _ _)
   | (with_reducible exact ih2 _ _ _ _ _)
   | (with_reducible exact ih3 _ _ _ _ _ _)
   | (with_reducible exact ih4 _ _ _ _ _)
   | (with_reducible exact ih5 _ _ _ _ _)
   | (with_reducible exact bitloftlaw16_alive.mono _)
   | (with_reducible exact bitloftlaw16_fit.mono _ _ _ _)
   | (with_reducible exact bitloftref16_Same.mono _ _ _)
   | (with_reducible exact bitloftref16_SameRow.mono _ _ _)
   | (with_reducible exact mixer_Learn.mono _ _ _ _ _ _)
   | (with_reducible exact mixer_Mix.mono _ _ _ _)
   | (with_reducible exact LeO.refl _)
   | (with_reducible exact LeO.none _)
   | (with_reducible refine LeO.ite ?_ ?_)
   | (with_reducible refine LeO.bind ?_ (fun _ => ?_))
   | exact ih0 _ _ _ _ _ _
   | exact ih1 _ _ _ _ _
   | exact ih2 _ _ _ _ _
   | exact ih3 _ _ _ _ _ _
   | exact ih4 _ _ _ _ _
   | exact ih5 _ _ _ _ _
   | exact bitloftlaw16_alive.mono _
   | exact bitloftlaw16_fit.mono _ _ _ _
   | exact bitloftref16_Same.mono _ _ _
   | exact bitloftref16_SameRow.mono _ _ _
   | exact mixer_Learn.mono _ _ _ _ _ _
   | exact mixer_Mix.mono _ _ _ _
   | exact LeO.none _
   | refine LeO.ite ?_ ?_
   | refine LeO.bind ?_ (fun _ => ?_)
  ·
   intro y0 y1 y2 y3 y4
   unfold bitloftlaw16_MixerApart.l0
   repeat' first
   | (with_reducible exact ih0 _ _ _ _ _ _)
   | (with_reducible exact ih1 _ _ _ _ _)
   | (with_reducible exact ih2 _ _ _ _ _)
   | (with_reducible exact ih3 _ _ _ _ _ _)
   | (with_reducible exact ih4 _ _ _ _ _)
   | (with_reducible exact ih5 _ _ _ _ _)
   | (with_reducible exact bitloftlaw16_alive.mono _)
   | (with_reducible exact bitloftlaw16_fit.mono _ _ _ _)
   | (with_reducible exact bitloftref16_Same.mono _ _ _)
   | (with_reducible exact bitloftref16_SameRow.mono _ _ _)
   | (with_reducible exact mixer_Learn.mono _ _ _ _ _ _)
   | (with_reducible exact mixer_Mix.mono _ _ _ _)
   | (with_reducible exact LeO.refl _)
   | (with_reducible exact LeO.none _)
   | (with_reducible refine LeO.ite ?_ ?_)
   | (with_reducible refine LeO.bind ?_ (fun _ => ?_))
   | exact ih0 _ _ _ _ _ _
   | exact ih1 _ _ _ _ _
   | exact ih2 _ _ _ _ _
   | exact ih3 _ _ _ _ _ _
   | exact ih4 _ _ _ _ _
   | exact ih5 _ _ _ _ _
   | exact bitloftlaw16_alive.mono _
   | exact bitloftlaw16_fit.mono _ _ _ _
   | exact bitloftref16_Same.mono _ _ _
   | exact bitloftref16_SameRow.mono _ _ _
   | exact mixer_Learn.mono _ _ _ _ _ _
   | exact mixer_Mix.mono _ _ _ _
   | exact LeO.none _
   | refine LeO.ite ?_ ?_
   | refine LeO.bind ?_ (fun _ => ?_)
  ·
   intro y0 y1 y2 y3 y4 y5
   unfold bitloftlaw16_MixerApart.j3
   repeat' first
   | (with_reducible exact ih0 _ _ _ _ _ _)
   | (with_reducible exact ih1 _ _ _ _ _)
   | (with_reducible exact ih2 _ _ _ _ _)
   | (with_reducible exact ih3 _ _ _ _ _ _)
   | (with_reducible exact ih4 _ _ _ _ _)
   | (with_reducible exact ih5 _ _ _ _ _)
   | (with_reducible exact bitloftlaw16_alive.mono _)
   | (with_reducible exact bitloftlaw16_fit.mono _ _ _ _)
   | (with_reducible exact bitloftref16_Same.mono _ _ _)
   | (with_reducible exact bitloftref16_SameRow.mono _ _ _)
   | (with_reducible exact mixer_Learn.mono _ _ _ _ _ _)
   | (with_reducible exact mixer_Mix.mono _ _ _ _)
   | (with_reducible exact LeO.refl _)
   | (with_reducible exact LeO.none _)
   | (with_reducible refine LeO.ite ?_ ?_)
   | (with_reducible refine LeO.bind ?_ (fun _ => ?_))
   | exact ih0 _ _ _ _ _ _
   | exact ih1 _ _ _ _ _
   | exact ih2 _ _ _ _ _
   | exact ih3 _ _ _ _ _ _
   | exact ih4 _ _ _ _ _
   | exact ih5 _ _ _ _ _
   | exact bitloftlaw16_alive.mono _
   | exact bitloftlaw16_fit.mono _ _ _ _
   | exact bitloftref16_Same.mono _ _ _
   | exact bitloftref16_SameRow.mono _ _ _
   | exact mixer_Learn.mono _ _ _ _ _ _
   | exact mixer_Mix.mono _ _ _ _
   | exact LeO.none _
   | refine LeO.ite ?_ ?_
   | refine LeO.bind ?_ (fun _ => ?_)
  ·
   intro y0 y1 y2 y3 y4
   unfold bitloftlaw16_MixerApart.l1
   repeat' first
   | (with_reducible exact ih0 _ _ _ _ _ _)
   | (with_reducible exact ih1 _ _ _ _ _)
   | (with_reducible exact ih2 _ _ _ _ _)
   | (with_reducible exact ih3 _ _ _ _ _ _)
   | (with_reducible exact ih4 _ _ _ _ _)
   | (with_reducible exact ih5 _ _ _ _ _)
   | (with_reducible exact bitloftlaw16_alive.mono _)
   | (with_reducible exact bitloftlaw16_fit.mono _ _ _ _)
   | (with_reducible exact bitloftref16_Same.mono _ _ _)
   | (with_reducible exact bitloftref16_SameRow.mono _ _ _)
   | (with_reducible exact mixer_Learn.mono _ _ _ _ _ _)
   | (with_reducible exact mixer_Mix.mono _ _ _ _)
   | (with_reducible exact LeO.refl _)
   | (with_reducible exact LeO.none _)
   | (with_reducible refine LeO.ite ?_ ?_)
   | (with_reducible refine LeO.bind ?_ (fun _ => ?_))
   | exact ih0 _ _ _ _ _ _
   | exact ih1 _ _ _ _ _
   | exact ih2 _ _ _ _ _
   | exact ih3 _ _ _ _ _ _
   | exact ih4 _ _ _ _ _
   | exact ih5 _ _ _ _ _
   | exact bitloftlaw16_alive.mono _
   | exact bitloftlaw16_fit.mono _ _ _ _
   | exact bitloftref16_Same.mono _ _ _
   | exact bitloftref16_SameRow.mono _ _ _
   | exact mixer_Learn.mono _ _ _ _ _ _
   | exact mixer_Mix.mono _ _ _ _
   | exact LeO.none _
   | refine LeO.ite ?_ ?_
   | refine LeO.bind ?_ (fun _ => ?_)
  ·
   intro y0 y1 y2 y3 y4
   unfold bitloftlaw16_MixerApart.j5
   repeat' first
   | (with_reducible exact ih0 _ _ _ _ _ _)
   | (with_reducible exact ih1 _ _ _ _ _)
   | (with_reducible exact ih2 _ _ _ _ _)
   | (with_reducible exact ih3 _ _ _ _ _ _)
   | (with_reducible exact ih4 _ _ _ _ _)
   | (with_reducible exact ih5 _ _ _ _ _)
   | (with_reducible exact bitloftlaw16_alive.mono _)
   | (with_reducible exact bitloftlaw16_fit.mono _ _ _ _)
   | (with_reducible exact bitloftref16_Same.mono _ _ _)
   | (with_reducible exact bitloftref16_SameRow.mono _ _ _)
   | (with_reducible exact mixer_Learn.mono _ _ _ _ _ _)
   | (with_reducible exact mixer_Mix.mono _ _ _ _)
   | (with_reducible exact LeO.refl _)
   | (with_reducible exact LeO.none _)
   | (with_reducible refine LeO.ite ?_ ?_)
   | (with_reducible refine LeO.bind ?_ (fun _ => ?_))
   | exact ih0 _ _ _ _ _ _
   | exact ih1 _ _ _ _ _
   | exact ih2 _ _ _ _ _
   | exact ih3 _ _ _ _ _ _
   | exact ih4 _ _ _ _ _
   | exact ih5 _ _ _ _ _
   | exact bitloftlaw16_alive.mono _
   | exact bitloftlaw16_fit.mono _ _ _ _
   | exact bitloftref16_Same.mono _ _ _
   | exact bitloftref16_SameRow.mono _ _ _
   | exact mixer_Learn.mono _ _ _ _ _ _
   | exact mixer_Mix.mono _ _ _ _
   | exact LeO.none _
   | refine LeO.ite ?_ ?_
   | refine LeO.bind ?_ (fun _ => ?_)
theorem bitloftlaw16_MixerApart.mono : ∀ a0 a1 a2 a3 a4 k, LeO (bitloftlaw16_MixerApart.f k a0 a1 a2 a3 a4) (bitloftlaw16_MixerApart.f (k + 1) a0 a1 a2 a3 a4) := by
 intro a0 a1 a2 a3 a4 k; obtain ⟨ih0, ih1, ih2, ih3, ih4, ih5⟩ := bitloftlaw16_MixerApart.mono_l k
 unfold bitloftlaw16_MixerApart.f
 repeat' first
   | (with_reducible exact ih0 _ _ _ _ _ _)
   | (with_reducible exact ih1 _ _ _ _ _)
   | (with_reducible exact ih2 _ _ _ _ _)
   | (with_reducible exact ih3 _ _ _ _ _ _)
   | (with_reducible exact ih4 _ _ _ _ _)
   | (with_reducible exact ih5 _ _ _ _ _)
   | (with_reducible exact bitloftlaw16_alive.mono _)
   | (with_reducible exact bitloftlaw16_fit.mono _ _ _ _)
   | (with_reducible exact bitloftref16_Same.mono _ _ _)
   | (with_reducible exact bitloftref16_SameRow.mono _ _ _)
   | (with_reducible exact mixer_Learn.mono _ _ _ _ _ _)
   | (with_reducible exact mixer_Mix.mono _ _ _ _)
   | (with_reducible exact LeO.refl _)
   | (with_reducible exact LeO.none _)
   | (with_reducible refine LeO.ite ?_ ?_)
   | (with_reducible refine LeO.bind ?_ (fun _ => ?_))
   | exact ih0 _ _ _ _ _ _
   | exact ih1 _ _ _ _ _
   | exact ih2 _ _ _ _ _
   | exact ih3 _ _ _ _ _ _
   | exact ih4 _ _ _ _ _
   | exact ih5 _ _ _ _ _
   | exact bitloftlaw16_alive.mono _
   | exact bitloftlaw16_fit.mono _ _ _ _
   | exact bitloftref16_Same.mono _ _ _
   | exact bitloftref16_SameRow.mono _ _ _
   | exact mixer_Learn.mono _ _ _ _ _ _
   | exact mixer_Mix.mono _ _ _ _
   | exact LeO.none _
   | refine LeO.ite ?_ ?_
   | refine LeO.bind ?_ (fun _ => ?_)
set_option maxHeartbeats 8000000 in
set_option maxRecDepth 100000 in
theorem bitloftlaw16_MixerApart.calls (k : Nat) (A0_0 : Option Addr) (c0_0 : Nat) (l0_0 : List (List Int)) (a1 : Int) (A2 : Option Addr) (c2 : Nat) (l2 : List Int) (a3 : Int) (a4 : Bool) (r : Bool) (w : World) (hr0_0 : Kd.C (Kd.slice 21 (Kd.int .i32)) w A0_0 l0_0.length l0_0) (hc0_0 : l0_0.length ≤ c0_0) (hr2 : Kd.C (Kd.int .i32) w A2 l2.length l2) (hc2 : l2.length ≤ c2) (hT : Tab_ w) (hr_ : r = true) (h : bitloftlaw16_MixerApart.f k l0_0 a1 l2 a3 a4 = some r) :
  Calls Tryd.prog 6 #[.agg #[.slice A0_0 l0_0.length c0_0], .int .i64 a1, .slice A2 l2.length c2, .int .i32 a3, .bool a4] w fun e w' => e = .returned (.bool r) ∧ Below w.heap.size w w' := by
 have hu24 := Tryd.underlying24; have HRT_ := Aside0.mk hr_; clear hr_; have HR0_0 := Aside0.mk hr0_0; have HC0_0 := Aside0.mk hc0_0; clear hr0_0 hc0_0; have HR2 := Aside0.mk hr2; have HC2 := Aside0.mk hc2; clear hr2 hc2; have HB := Aside0.mk (Below.refl w.heap.size w); have H : ((bitloftlaw16_fit.f k l0_0 a1 l2).bind fun t193 => (if t193 = true then (if a3 < 0 then (bitloftlaw16_MixerApart.j0 k a1 l2 a3 a4 true l0_0) else (if a3 > 4095 then (bitloftlaw16_MixerApart.j0 k a1 l2 a3 a4 true l0_0) else (bitloftlaw16_MixerApart.j0 k a1 l2 a3 a4 (!true) l0_0))) else (bitloftlaw16_MixerApart.j0 k a1 l2 a3 a4 true l0_0))) = some r := h; clear h; have A6 := Aside0.mk (show bitloftlaw16_alive.f 2000 = some true by first | rfl | decide +kernel); have HC7 := Aside0.mk H; clear H
 go_enter Tryd.func6, Tryd.ntmps6
 go_upto_region 2 with (first | ((with_reducible refine gate_dst (N := 5) rfl ?_); (try (refine gate_guard (by rfl) ?_; dsimp only)); refine box_event ?hg (N := 5) ?hd (cs := #[.slice A0_0 l0_0.length c0_0]) (t := 24) ?hr ?_; (case hd => rfl); (case hg => rfl); (case hr => first | (go_simp; done) | (go_simp; rfl)); intro gb192 hg w8 hbox hb; have n0_ := Aside0.mk (below_step (pH_ HB.out) hb); have n1_ := Aside0.mk (hbox); have n2_ := Aside0.mk ((by rw [hg]; exact (below_size (pH_ HB.out)) : w.heap.size ≤ gb192)); have n3_ := Aside0.mk ((by rw [hg]; exact (below_size (pH_ HB.out)) : w.heap.size ≤ gb192)); clear HB; have HB := n0_; have BK192 := n1_; have GW192 := n2_; have GE192 := n3_; clear n0_ n1_ n2_ n3_; clear hb hbox hg) | (go_at_call 19; (with_reducible refine (bitloftlaw16_alive.calls 2000  true _ (tab_bel hT (pH_ HB.out)) A6.out).mono ?_); rintro e w9 ⟨rfl, hb⟩; have n0_ := Aside0.mk (blk_below (pG_ BK192.out) hb); have n1_ := Aside0.mk (below_step (pH_ HB.out) hb); clear BK192; clear HB; have BK192 := n0_; have HB := n1_; clear n0_ n1_; (try clear hb)))
 repeat (go_quiet (first | ((with_reducible refine gate_dst (N := 5) rfl ?_); (try (refine gate_guard (by rfl) ?_; dsimp only)); refine box_event ?hg (N := 5) ?hd (cs := #[.slice A0_0 l0_0.length c0_0]) (t := 24) ?hr ?_; (case hd => rfl); (case hg => rfl); (case hr => first | (go_simp; done) | (go_simp; rfl)); intro gb192 hg w8 hbox hb; have n0_ := Aside0.mk (below_step (pH_ HB.out) hb); have n1_ := Aside0.mk (hbox); have n2_ := Aside0.mk ((by rw [hg]; exact (below_size (pH_ HB.out)) : w.heap.size ≤ gb192)); have n3_ := Aside0.mk ((by rw [hg]; exact (below_size (pH_ HB.out)) : w.heap.size ≤ gb192)); clear HB; have HB := n0_; have BK192 := n1_; have GW192 := n2_; have GE192 := n3_; clear n0_ n1_ n2_ n3_; clear hb hbox hg) | (go_at_call 19; (with_reducible refine (bitloftlaw16_alive.calls 2000  true _ (tab_bel hT (pH_ HB.out)) A6.out).mono ?_); rintro e w9 ⟨rfl, hb⟩; have n0_ := Aside0.mk (blk_below (pG_ BK192.out) hb); have n1_ := Aside0.mk (below_step (pH_ HB.out) hb); clear BK192; clear HB; have BK192 := n0_; have HB := n1_; clear n0_ n1_; (try clear hb))); go_upto_region 2 with (first | ((with_reducible refine gate_dst (N := 5) rfl ?_); (try (refine gate_guard (by rfl) ?_; dsimp only)); refine box_event ?hg (N := 5) ?hd (cs := #[.slice A0_0 l0_0.length c0_0]) (t := 24) ?hr ?_; (case hd => rfl); (case hg => rfl); (case hr => first | (go_simp; done) | (go_simp; rfl)); intro gb192 hg w8 hbox hb; have n0_ := Aside0.mk (below_step (pH_ HB.out) hb); have n1_ := Aside0.mk (hbox); have n2_ := Aside0.mk ((by rw [hg]; exact (below_size (pH_ HB.out)) : w.heap.size ≤ gb192)); have n3_ := Aside0.mk ((by rw [hg]; exact (below_size (pH_ HB.out)) : w.heap.size ≤ gb192)); clear HB; have HB := n0_; have BK192 := n1_; have GW192 := n2_; have GE192 := n3_; clear n0_ n1_ n2_ n3_; clear hb hbox hg) | (go_at_call 19; (with_reducible refine (bitloftlaw16_alive.calls 2000  true _ (tab_bel hT (pH_ HB.out)) A6.out).mono ?_); rintro e w9 ⟨rfl, hb⟩; have n0_ := Aside0.mk (blk_below (pG_ BK192.out) hb); have n1_ := Aside0.mk (below_step (pH_ HB.out) hb); clear BK192; clear HB; have BK192 := n0_; have HB := n1_; clear n0_ n1_; (try clear hb))))
 (try simp only [Act.put, sA_, sZ_, sS_]); (with_reducible first | refine then_id_ ?_ | (refine wp_tail_ ?_; intro Kt_ hKt_))
 go_cut [39] (fun v39 wc => ∃ (kq : Nat) (x39_6 : Bool), v39 = .bool x39_6 ∧ Aside0 (bitloftlaw16_MixerApart.j0 kq a1 l2 a3 a4 x39_6 l0_0 = some r) ∧ Aside0 (kq ≤ k) ∧ Aside0 (wc.heap[gb192]? = some (.cells #[(.slice A0_0 l0_0.length c0_0)] 24 (0, 0))) ∧ Aside0 (Below w.heap.size w wc))
 case first =>
  have H := HC7.out; clear HC7; replace H := Option.bind_eq_some_iff.mp H; obtain ⟨t193, A100, H⟩ := H; replace H : (if t193 = true then (if a3 < 0 then (bitloftlaw16_MixerApart.j0 k a1 l2 a3 a4 true l0_0) else (if a3 > 4095 then (bitloftlaw16_MixerApart.j0 k a1 l2 a3 a4 true l0_0) else (bitloftlaw16_MixerApart.j0 k a1 l2 a3 a4 (!true) l0_0))) else (bitloftlaw16_MixerApart.j0 k a1 l2 a3 a4 true l0_0)) = some r := H; have A10 := Aside0.mk A100; clear A100
  by_cases c11 : t193 = true
  ·
   subst c11
   have H1 : (if a3 < 0 then (bitloftlaw16_MixerApart.j0 k a1 l2 a3 a4 true l0_0) else (if a3 > 4095 then (bitloftlaw16_MixerApart.j0 k a1 l2 a3 a4 true l0_0) else (bitloftlaw16_MixerApart.j0 k a1 l2 a3 a4 (!true) l0_0))) = some r := by rw [if_pos rfl] at H; exact H
   clear H; have H := H1; clear H1
   by_cases c12 : a3 < 0
   ·
    rw [if_pos c12] at H; have c12b0 : decide (a3 < 0) = true := decide_eq_true c12; clear c12; (first | rw [c12b0] | (simp only [i64_w, i32_w]; rw [c12b0]) | skip); have H' := Aside0.mk H; clear H; have hcz13_0 : w9.cell? ⟨gb192, 0, none⟩ = some (.slice A0_0 l0_0.length c0_0) := (blk_cell BK192.out 0).trans rfl; have hfz13_0 := blk_frozen BK192.out 0
    go_wp2_with (first | (go_at_call 21; (with_reducible refine (bitloftlaw16_fit.calls k _ _ l0_0 a1 _ _ l2 true _ ?side1 ?side2 ?side3 ?side4 A10.out).mono ?_); (case side1 => repeat (first | exact (Kd.C_below HR0_0.out HB.out) | (with_reducible refine Kd.C_alloc ?_ _) | (with_reducible refine Kd.C_drewN ?_ _) | (with_reducible refine Kd.C_drew ?_))); (case side2 => exact HC0_0.out); (case side3 => repeat (first | exact (Kd.C_below HR2.out HB.out) | (with_reducible refine Kd.C_alloc ?_ _) | (with_reducible refine Kd.C_drewN ?_ _) | (with_reducible refine Kd.C_drew ?_))); (case side4 => exact HC2.out); rintro e w14 ⟨rfl, hb⟩; have n0_ := Aside0.mk (blk_below (pG_ BK192.out) hb); have n1_ := Aside0.mk (below_step (pH_ HB.out) hb); clear BK192; clear HB; have BK192 := n0_; have HB := n1_; clear n0_ n1_; (try clear hb)))
    repeat (go_quiet (first | (go_at_call 21; (with_reducible refine (bitloftlaw16_fit.calls k _ _ l0_0 a1 _ _ l2 true _ ?side1 ?side2 ?side3 ?side4 A10.out).mono ?_); (case side1 => repeat (first | exact (Kd.C_below HR0_0.out HB.out) | (with_reducible refine Kd.C_alloc ?_ _) | (with_reducible refine Kd.C_drewN ?_ _) | (with_reducible refine Kd.C_drew ?_))); (case side2 => exact HC0_0.out); (case side3 => repeat (first | exact (Kd.C_below HR2.out HB.out) | (with_reducible refine Kd.C_alloc ?_ _) | (with_reducible refine Kd.C_drewN ?_ _) | (with_reducible refine Kd.C_drew ?_))); (case side4 => exact HC2.out); rintro e w14 ⟨rfl, hb⟩; have n0_ := Aside0.mk (blk_below (pG_ BK192.out) hb); have n1_ := Aside0.mk (below_step (pH_ HB.out) hb); clear BK192; clear HB; have BK192 := n0_; have HB := n1_; clear n0_ n1_; (try clear hb))); try go_wp2_with (first | (go_at_call 21; (with_reducible refine (bitloftlaw16_fit.calls k _ _ l0_0 a1 _ _ l2 true _ ?side1 ?side2 ?side3 ?side4 A10.out).mono ?_); (case side1 => repeat (first | exact (Kd.C_below HR0_0.out HB.out) | (with_reducible refine Kd.C_alloc ?_ _) | (with_reducible refine Kd.C_drewN ?_ _) | (with_reducible refine Kd.C_drew ?_))); (case side2 => exact HC0_0.out); (case side3 => repeat (first | exact (Kd.C_below HR2.out HB.out) | (with_reducible refine Kd.C_alloc ?_ _) | (with_reducible refine Kd.C_drewN ?_ _) | (with_reducible refine Kd.C_drew ?_))); (case side4 => exact HC2.out); rintro e w14 ⟨rfl, hb⟩; have n0_ := Aside0.mk (blk_below (pG_ BK192.out) hb); have n1_ := Aside0.mk (below_step (pH_ HB.out) hb); clear BK192; clear HB; have BK192 := n0_; have HB := n1_; clear n0_ n1_; (try clear hb))))
    (first | go_meet | (refine Met.intro ?_; go_step; (repeat apply Exists.intro); refine ⟨?rel, ?eqf_⟩; case eqf_ => ((simp only [c12b0]) <;> rfl)))
    case rel => exact ⟨_, (true), (by first | rfl | (simp; done) | (simp [*]; done)), H', ⟨by first | omega | exact Nat.le_refl _⟩, ⟨pG_ BK192.out⟩, ⟨pH_ HB.out⟩⟩
   ·
    rw [if_neg c12] at H; have c12b0 : decide (a3 < 0) = false := decide_eq_false c12; clear c12; (first | rw [c12b0] | (simp only [i64_w, i32_w]; rw [c12b0]) | skip)
    by_cases c15 : a3 > 4095
    ·
     rw [if_pos c15] at H; have c15b0 : decide (4095 < a3) = true := decide_eq_true c15; clear c15; have H' := Aside0.mk H; clear H; have hcz16_0 : w9.cell? ⟨gb192, 0, none⟩ = some (.slice A0_0 l0_0.length c0_0) := (blk_cell BK192.out 0).trans rfl; have hfz16_0 := blk_frozen BK192.out 0
     go_wp2_with (first | (go_at_call 21; (with_reducible refine (bitloftlaw16_fit.calls k _ _ l0_0 a1 _ _ l2 true _ ?side1 ?side2 ?side3 ?side4 A10.out).mono ?_); (case side1 => repeat (first | exact (Kd.C_below HR0_0.out HB.out) | (with_reducible refine Kd.C_alloc ?_ _) | (with_reducible refine Kd.C_drewN ?_ _) | (with_reducible refine Kd.C_drew ?_))); (case side2 => exact HC0_0.out); (case side3 => repeat (first | exact (Kd.C_below HR2.out HB.out) | (with_reducible refine Kd.C_alloc ?_ _) | (with_reducible refine Kd.C_drewN ?_ _) | (with_reducible refine Kd.C_drew ?_))); (case side4 => exact HC2.out); rintro e w17 ⟨rfl, hb⟩; have n0_ := Aside0.mk (blk_below (pG_ BK192.out) hb); have n1_ := Aside0.mk (below_step (pH_ HB.out) hb); clear BK192; clear HB; have BK192 := n0_; have HB := n1_; clear n0_ n1_; (try clear hb)))
     repeat (go_quiet (first | (go_at_call 21; (with_reducible refine (bitloftlaw16_fit.calls k _ _ l0_0 a1 _ _ l2 true _ ?side1 ?side2 ?side3 ?side4 A10.out).mono ?_); (case side1 => repeat (first | exact (Kd.C_below HR0_0.out HB.out) | (with_reducible refine Kd.C_alloc ?_ _) | (with_reducible refine Kd.C_drewN ?_ _) | (with_reducible refine Kd.C_drew ?_))); (case side2 => exact HC0_0.out); (case side3 => repeat (first | exact (Kd.C_below HR2.out HB.out) | (with_reducible refine Kd.C_alloc ?_ _) | (with_reducible refine Kd.C_drewN ?_ _) | (with_reducible refine Kd.C_drew ?_))); (case side4 => exact HC2.out); rintro e w17 ⟨rfl, hb⟩; have n0_ := Aside0.mk (blk_below (pG_ BK192.out) hb); have n1_ := Aside0.mk (below_step (pH_ HB.out) hb); clear BK192; clear HB; have BK192 := n0_; have HB := n1_; clear n0_ n1_; (try clear hb))); try go_wp2_with (first | (go_at_call 21; (with_reducible refine (bitloftlaw16_fit.calls k _ _ l0_0 a1 _ _ l2 true _ ?side1 ?side2 ?side3 ?side4 A10.out).mono ?_); (case side1 => repeat (first | exact (Kd.C_below HR0_0.out HB.out) | (with_reducible refine Kd.C_alloc ?_ _) | (with_reducible refine Kd.C_drewN ?_ _) | (with_reducible refine Kd.C_drew ?_))); (case side2 => exact HC0_0.out); (case side3 => repeat (first | exact (Kd.C_below HR2.out HB.out) | (with_reducible refine Kd.C_alloc ?_ _) | (with_reducible refine Kd.C_drewN ?_ _) | (with_reducible refine Kd.C_drew ?_))); (case side4 => exact HC2.out); rintro e w17 ⟨rfl, hb⟩; have n0_ := Aside0.mk (blk_below (pG_ BK192.out) hb); have n1_ := Aside0.mk (below_step (pH_ HB.out) hb); clear BK192; clear HB; have BK192 := n0_; have HB := n1_; clear n0_ n1_; (try clear hb))))
     (first | go_meet | (refine Met.intro ?_; go_step; (repeat apply Exists.intro); refine ⟨?rel, ?eqf_⟩; case eqf_ => ((simp only [c15b0, c12b0]) <;> rfl)))
     case rel => exact ⟨_, (true), (by first | rfl | (simp; done) | (simp [*]; done)), H', ⟨by first | omega | exact Nat.le_refl _⟩, ⟨pG_ BK192.out⟩, ⟨pH_ HB.out⟩⟩
    ·
     rw [if_neg c15] at H; have c15b0 : decide (4095 < a3) = false := decide_eq_false c15; clear c15; have H' := Aside0.mk H; clear H; have hcz18_0 : w9.cell? ⟨gb192, 0, none⟩ = some (.slice A0_0 l0_0.length c0_0) := (blk_cell BK192.out 0).trans rfl; have hfz18_0 := blk_frozen BK192.out 0
     go_wp2_with (first | (go_at_call 21; (with_reducible refine (bitloftlaw16_fit.calls k _ _ l0_0 a1 _ _ l2 true _ ?side1 ?side2 ?side3 ?side4 A10.out).mono ?_); (case side1 => repeat (first | exact (Kd.C_below HR0_0.out HB.out) | (with_reducible refine Kd.C_alloc ?_ _) | (with_reducible refine Kd.C_drewN ?_ _) | (with_reducible refine Kd.C_drew ?_))); (case side2 => exact HC0_0.out); (case side3 => repeat (first | exact (Kd.C_below HR2.out HB.out) | (with_reducible refine Kd.C_alloc ?_ _) | (with_reducible refine Kd.C_drewN ?_ _) | (with_reducible refine Kd.C_drew ?_))); (case side4 => exact HC2.out); rintro e w19 ⟨rfl, hb⟩; have n0_ := Aside0.mk (blk_below (pG_ BK192.out) hb); have n1_ := Aside0.mk (below_step (pH_ HB.out) hb); clear BK192; clear HB; have BK192 := n0_; have HB := n1_; clear n0_ n1_; (try clear hb)))
     repeat (go_quiet (first | (go_at_call 21; (with_reducible refine (bitloftlaw16_fit.calls k _ _ l0_0 a1 _ _ l2 true _ ?side1 ?side2 ?side3 ?side4 A10.out).mono ?_); (case side1 => repeat (first | exact (Kd.C_below HR0_0.out HB.out) | (with_reducible refine Kd.C_alloc ?_ _) | (with_reducible refine Kd.C_drewN ?_ _) | (with_reducible refine Kd.C_drew ?_))); (case side2 => exact HC0_0.out); (case side3 => repeat (first | exact (Kd.C_below HR2.out HB.out) | (with_reducible refine Kd.C_alloc ?_ _) | (with_reducible refine Kd.C_drewN ?_ _) | (with_reducible refine Kd.C_drew ?_))); (case side4 => exact HC2.out); rintro e w19 ⟨rfl, hb⟩; have n0_ := Aside0.mk (blk_below (pG_ BK192.out) hb); have n1_ := Aside0.mk (below_step (pH_ HB.out) hb); clear BK192; clear HB; have BK192 := n0_; have HB := n1_; clear n0_ n1_; (try clear hb))); try go_wp2_with (first | (go_at_call 21; (with_reducible refine (bitloftlaw16_fit.calls k _ _ l0_0 a1 _ _ l2 true _ ?side1 ?side2 ?side3 ?side4 A10.out).mono ?_); (case side1 => repeat (first | exact (Kd.C_below HR0_0.out HB.out) | (with_reducible refine Kd.C_alloc ?_ _) | (with_reducible refine Kd.C_drewN ?_ _) | (with_reducible refine Kd.C_drew ?_))); (case side2 => exact HC0_0.out); (case side3 => repeat (first | exact (Kd.C_below HR2.out HB.out) | (with_reducible refine Kd.C_alloc ?_ _) | (with_reducible refine Kd.C_drewN ?_ _) | (with_reducible refine Kd.C_drew ?_))); (case side4 => exact HC2.out); rintro e w19 ⟨rfl, hb⟩; have n0_ := Aside0.mk (blk_below (pG_ BK192.out) hb); have n1_ := Aside0.mk (below_step (pH_ HB.out) hb); clear BK192; clear HB; have BK192 := n0_; have HB := n1_; clear n0_ n1_; (try clear hb))))
     (first | go_meet | (refine Met.intro ?_; go_step; (repeat apply Exists.intro); refine ⟨?rel, ?eqf_⟩; case eqf_ => ((simp only [c15b0, c12b0]) <;> rfl)))
     case rel => exact ⟨_, (!true), (by first | rfl | (simp; done) | (simp [*]; done)), H', ⟨by first | omega | exact Nat.le_refl _⟩, ⟨pG_ BK192.out⟩, ⟨pH_ HB.out⟩⟩
  ·
   replace c11 := Bool.eq_false_iff.mpr c11
   subst c11
   have H1 : (bitloftlaw16_MixerApart.j0 k a1 l2 a3 a4 true l0_0) = some r := by rw [if_neg (show ¬ (false = true) by decide)] at H; exact H
   clear H; have H := H1; clear H1; have H' := Aside0.mk H; clear H; have hcz20_0 : w9.cell? ⟨gb192, 0, none⟩ = some (.slice A0_0 l0_0.length c0_0) := (blk_cell BK192.out 0).trans rfl; have hfz20_0 := blk_frozen BK192.out 0
   go_wp2_with (first | (go_at_call 21; (with_reducible refine (bitloftlaw16_fit.calls k _ _ l0_0 a1 _ _ l2 false _ ?side1 ?side2 ?side3 ?side4 A10.out).mono ?_); (case side1 => repeat (first | exact (Kd.C_below HR0_0.out HB.out) | (with_reducible refine Kd.C_alloc ?_ _) | (with_reducible refine Kd.C_drewN ?_ _) | (with_reducible refine Kd.C_drew ?_))); (case side2 => exact HC0_0.out); (case side3 => repeat (first | exact (Kd.C_below HR2.out HB.out) | (with_reducible refine Kd.C_alloc ?_ _) | (with_reducible refine Kd.C_drewN ?_ _) | (with_reducible refine Kd.C_drew ?_))); (case side4 => exact HC2.out); rintro e w21 ⟨rfl, hb⟩; have n0_ := Aside0.mk (blk_below (pG_ BK192.out) hb); have n1_ := Aside0.mk (below_step (pH_ HB.out) hb); clear BK192; clear HB; have BK192 := n0_; have HB := n1_; clear n0_ n1_; (try clear hb)))
   repeat (go_quiet (first | (go_at_call 21; (with_reducible refine (bitloftlaw16_fit.calls k _ _ l0_0 a1 _ _ l2 false _ ?side1 ?side2 ?side3 ?side4 A10.out).mono ?_); (case side1 => repeat (first | exact (Kd.C_below HR0_0.out HB.out) | (with_reducible refine Kd.C_alloc ?_ _) | (with_reducible refine Kd.C_drewN ?_ _) | (with_reducible refine Kd.C_drew ?_))); (case side2 => exact HC0_0.out); (case side3 => repeat (first | exact (Kd.C_below HR2.out HB.out) | (with_reducible refine Kd.C_alloc ?_ _) | (with_reducible refine Kd.C_drewN ?_ _) | (with_reducible refine Kd.C_drew ?_))); (case side4 => exact HC2.out); rintro e w21 ⟨rfl, hb⟩; have n0_ := Aside0.mk (blk_below (pG_ BK192.out) hb); have n1_ := Aside0.mk (below_step (pH_ HB.out) hb); clear BK192; clear HB; have BK192 := n0_; have HB := n1_; clear n0_ n1_; (try clear hb))); try go_wp2_with (first | (go_at_call 21; (with_reducible refine (bitloftlaw16_fit.calls k _ _ l0_0 a1 _ _ l2 false _ ?side1 ?side2 ?side3 ?side4 A10.out).mono ?_); (case side1 => repeat (first | exact (Kd.C_below HR0_0.out HB.out) | (with_reducible refine Kd.C_alloc ?_ _) | (with_reducible refine Kd.C_drewN ?_ _) | (with_reducible refine Kd.C_drew ?_))); (case side2 => exact HC0_0.out); (case side3 => repeat (first | exact (Kd.C_below HR2.out HB.out) | (with_reducible refine Kd.C_alloc ?_ _) | (with_reducible refine Kd.C_drewN ?_ _) | (with_reducible refine Kd.C_drew ?_))); (case side4 => exact HC2.out); rintro e w21 ⟨rfl, hb⟩; have n0_ := Aside0.mk (blk_below (pG_ BK192.out) hb); have n1_ := Aside0.mk (below_step (pH_ HB.out) hb); clear BK192; clear HB; have BK192 := n0_; have HB := n1_; clear n0_ n1_; (try clear hb))))
   go_meet
   case rel => exact ⟨_, (true), (by first | rfl | (simp; done) | (simp [*]; done)), H', ⟨by first | omega | exact Nat.le_refl _⟩, ⟨pG_ BK192.out⟩, ⟨pH_ HB.out⟩⟩
 case rest =>
  (try (refine hKt_ _ _ ?_; clear hKt_; clear Kt_)); clear HC7
  try clear c1
  try clear c2
  try clear p2
  try clear c6
  try clear c11
  try clear c12
  try clear c12b0
  try clear c15
  try clear c15b0
  try clear hcz13_0
  try clear hcz16_0
  try clear hcz18_0
  try clear hcz20_0
  try clear hfz13_0
  try clear hfz16_0
  try clear hfz18_0
  try clear hfz20_0
  obtain ⟨kq, x39_6, rfl, HA, HJ6, BK192, HB⟩ := hcut
  cases kq with
  | zero => exact absurd HA.out (by simp [bitloftlaw16_MixerApart.j0])
  | succ kj6 =>
   have H := HA.out; clear HA; simp only [bitloftlaw16_MixerApart.j0] at H
   by_cases c22 : x39_6 = true
   ·
    subst c22
    have H1 : (some true) = some r := by rw [if_pos rfl] at H; exact H
    clear H; have H := H1; clear H1; obtain rfl := Option.some.inj H
    go_wp2
    repeat (go_quiet (fail); try go_wp2)
    go_ret
    exact ⟨by first | rfl | (simp [errW_none, errW_some] <;> rfl) | (simp [*, errW_none, errW_some] <;> rfl), pH_ HB.out⟩
   ·
    replace c22 := Bool.eq_false_iff.mpr c22
    subst c22
    have H1 : ((mixer_Learn.f kj6 l0_0 a1 l2 a3 a4).bind fun bt194 => ((some (List.replicate 8 0 : List Int)).bind fun y199 => ((mixer_Mix.f kj6 l0_0 a1 y199).bind fun bt202 => ((mixer_Learn.f kj6 l0_0 a1 y199 a3 a4).bind fun bt205 => (if bt194.2 = 0 then (if bt202.2.2 = 0 then (if bt205.2 = 0 then (if bt202.1 = 0 then ((squash_Squash.f 0).bind fun t210 => (if bt202.2.1 = t210 then ((bitloftref16_Same.f kj6 bt205.1 l0_0).bind fun t211 => (if t211 = true then (bitloftlaw16_MixerApart.j1 kj6 a1 l2 ((bt194.1.length : Int) != (l0_0.length : Int)) l0_0 bt194.1) else (bitloftlaw16_MixerApart.j1 kj6 a1 l2 true l0_0 bt194.1))) else (bitloftlaw16_MixerApart.j1 kj6 a1 l2 true l0_0 bt194.1))) else (bitloftlaw16_MixerApart.j1 kj6 a1 l2 true l0_0 bt194.1)) else (bitloftlaw16_MixerApart.j1 kj6 a1 l2 true l0_0 bt194.1)) else (bitloftlaw16_MixerApart.j1 kj6 a1 l2 true l0_0 bt194.1)) else (bitloftlaw16_MixerApart.j1 kj6 a1 l2 true l0_0 bt194.1)))))) = some r := by rw [if_neg (show ¬ (false = true) by decide)] at H; exact H
    clear H; have H := H1; clear H1; replace H := Option.bind_eq_some_iff.mp H; obtain ⟨⟨t194, t197⟩, A230, H⟩ := H; replace H : ((some (List.replicate 8 0 : List Int)).bind fun y199 => ((mixer_Mix.f kj6 l0_0 a1 y199).bind fun bt202 => ((mixer_Learn.f kj6 l0_0 a1 y199 a3 a4).bind fun bt205 => (if t197 = 0 then (if bt202.2.2 = 0 then (if bt205.2 = 0 then (if bt202.1 = 0 then ((squash_Squash.f 0).bind fun t210 => (if bt202.2.1 = t210 then ((bitloftref16_Same.f kj6 bt205.1 l0_0).bind fun t211 => (if t211 = true then (bitloftlaw16_MixerApart.j1 kj6 a1 l2 ((t194.length : Int) != (l0_0.length : Int)) l0_0 t194) else (bitloftlaw16_MixerApart.j1 kj6 a1 l2 true l0_0 t194))) else (bitloftlaw16_MixerApart.j1 kj6 a1 l2 true l0_0 t194))) else (bitloftlaw16_MixerApart.j1 kj6 a1 l2 true l0_0 t194)) else (bitloftlaw16_MixerApart.j1 kj6 a1 l2 true l0_0 t194)) else (bitloftlaw16_MixerApart.j1 kj6 a1 l2 true l0_0 t194)) else (bitloftlaw16_MixerApart.j1 kj6 a1 l2 true l0_0 t194))))) = some r := H; have A23 := Aside0.mk A230; clear A230; obtain ⟨y199, hy199⟩ : ∃ y_ : List Int, y_ = (List.replicate 8 0) := ⟨_, rfl⟩
    replace H : ((mixer_Mix.f kj6 l0_0 a1 y199).bind fun bt202 => ((mixer_Learn.f kj6 l0_0 a1 y199 a3 a4).bind fun bt205 => (if t197 = 0 then (if bt202.2.2 = 0 then (if bt205.2 = 0 then (if bt202.1 = 0 then ((squash_Squash.f 0).bind fun t210 => (if bt202.2.1 = t210 then ((bitloftref16_Same.f kj6 bt205.1 l0_0).bind fun t211 => (if t211 = true then (bitloftlaw16_MixerApart.j1 kj6 a1 l2 ((t194.length : Int) != (l0_0.length : Int)) l0_0 t194) else (bitloftlaw16_MixerApart.j1 kj6 a1 l2 true l0_0 t194))) else (bitloftlaw16_MixerApart.j1 kj6 a1 l2 true l0_0 t194))) else (bitloftlaw16_MixerApart.j1 kj6 a1 l2 true l0_0 t194)) else (bitloftlaw16_MixerApart.j1 kj6 a1 l2 true l0_0 t194)) else (bitloftlaw16_MixerApart.j1 kj6 a1 l2 true l0_0 t194)) else (bitloftlaw16_MixerApart.j1 kj6 a1 l2 true l0_0 t194)))) = some r := by first | (rw [hy199]; with_reducible exact H) | (have H2_ := (Option.bind_some _ _).symm.trans H; rw [hy199]; with_reducible exact H2_) | (have H2_ := (Option.bind_some _ _).symm.trans H; with_reducible exact H2_) | with_reducible exact H | (rw [hy199]; exact H) | exact H
    have Ny199 := Aside0.mk hy199; clear hy199; replace H := Option.bind_eq_some_iff.mp H; obtain ⟨⟨t202, t203, t204⟩, A240, H⟩ := H; replace H : ((mixer_Learn.f kj6 l0_0 a1 y199 a3 a4).bind fun bt205 => (if t197 = 0 then (if t204 = 0 then (if bt205.2 = 0 then (if t202 = 0 then ((squash_Squash.f 0).bind fun t210 => (if t203 = t210 then ((bitloftref16_Same.f kj6 bt205.1 l0_0).bind fun t211 => (if t211 = true then (bitloftlaw16_MixerApart.j1 kj6 a1 l2 ((t194.length : Int) != (l0_0.length : Int)) l0_0 t194) else (bitloftlaw16_MixerApart.j1 kj6 a1 l2 true l0_0 t194))) else (bitloftlaw16_MixerApart.j1 kj6 a1 l2 true l0_0 t194))) else (bitloftlaw16_MixerApart.j1 kj6 a1 l2 true l0_0 t194)) else (bitloftlaw16_MixerApart.j1 kj6 a1 l2 true l0_0 t194)) else (bitloftlaw16_MixerApart.j1 kj6 a1 l2 true l0_0 t194)) else (bitloftlaw16_MixerApart.j1 kj6 a1 l2 true l0_0 t194))) = some r := H; have A24 := Aside0.mk A240; clear A240; replace H := Option.bind_eq_some_iff.mp H; obtain ⟨⟨t205, t208⟩, A250, H⟩ := H; replace H : (if t197 = 0 then (if t204 = 0 then (if t208 = 0 then (if t202 = 0 then ((squash_Squash.f 0).bind fun t210 => (if t203 = t210 then ((bitloftref16_Same.f kj6 t205 l0_0).bind fun t211 => (if t211 = true then (bitloftlaw16_MixerApart.j1 kj6 a1 l2 ((t194.length : Int) != (l0_0.length : Int)) l0_0 t194) else (bitloftlaw16_MixerApart.j1 kj6 a1 l2 true l0_0 t194))) else (bitloftlaw16_MixerApart.j1 kj6 a1 l2 true l0_0 t194))) else (bitloftlaw16_MixerApart.j1 kj6 a1 l2 true l0_0 t194)) else (bitloftlaw16_MixerApart.j1 kj6 a1 l2 true l0_0 t194)) else (bitloftlaw16_MixerApart.j1 kj6 a1 l2 true l0_0 t194)) else (bitloftlaw16_MixerApart.j1 kj6 a1 l2 true l0_0 t194)) = some r := H; have A25 := Aside0.mk A250; clear A250; have HC26 := Aside0.mk H; clear H; have hcz27_0 : wc.cell? ⟨gb192, 0, none⟩ = some (.slice A0_0 l0_0.length c0_0) := (blk_cell BK192.out 0).trans rfl; have hfz27_0 := blk_frozen BK192.out 0
    go_upto_region 8 with (first | (go_at_call 18; (with_reducible refine (mixer_Learn.calls kj6 _ _ l0_0 a1 _ _ l2 a3 a4 t194 t197 _ ?side1 ?side2 ?side3 ?side4 A23.out).mono ?_); (case side1 => repeat (first | exact (Kd.C_below HR0_0.out HB.out) | (with_reducible refine Kd.C_alloc ?_ _) | (with_reducible refine Kd.C_drewN ?_ _) | (with_reducible refine Kd.C_drew ?_))); (case side2 => exact HC0_0.out); (case side3 => repeat (first | exact (Kd.C_below HR2.out HB.out) | (with_reducible refine Kd.C_alloc ?_ _) | (with_reducible refine Kd.C_drewN ?_ _) | (with_reducible refine Kd.C_drew ?_))); (case side4 => exact HC2.out); rintro e w28 ⟨v195, rfl, ho0, hb⟩; have n0_ := Aside0.mk (Kd.S_lower ho0 (below_size (pH_ HB.out))); have n1_ := Aside0.mk (blk_below (pG_ BK192.out) hb); have n2_ := Aside0.mk (below_step (pH_ HB.out) hb); clear BK192; clear HB; have HO196 := n0_; have BK192 := n1_; have HB := n2_; clear n0_ n1_ n2_; (try clear hb); (try clear ho0)) | ((with_reducible refine gate_dst (N := 12) rfl ?_); (try (refine gate_guard (by rfl) ?_; dsimp only)); refine box_event ?hg (N := 12) ?hd (cs := #[.slice none 0 0]) (t := 24) ?hr ?_; (case hd => rfl); (case hg => rfl); (case hr => first | (go_simp; done) | (go_simp; rfl)); intro gb198 hg w29 hbox hb; have n0_ := Aside0.mk (Kd.S_below (by (with_reducible repeat (first | apply Kd.S_alloc | apply Kd.S_drewN | apply Kd.S_drew)); exact HO196.out) hb); have n1_ := Aside0.mk (blk_below (pG_ BK192.out) hb); have n2_ := Aside0.mk (below_step (pH_ HB.out) hb); have n3_ := Aside0.mk (hbox); have n4_ := Aside0.mk ((by rw [hg]; exact (below_size (pH_ HB.out)) : w.heap.size ≤ gb198)); have n5_ := Aside0.mk ((by rw [hg]; exact (below_size (pH_ HB.out)) : w.heap.size ≤ gb198)); have n6_ := Aside0.mk ((by rw [hg]; exact Nat.ne_of_lt (blk_lt (pG_ BK192.out)) : gb192 ≠ gb198)); have n7_ := Aside0.mk ((by rw [hg]; exact Nat.ne_of_gt (blk_lt (pG_ BK192.out)) : gb198 ≠ gb192)); clear HO196; clear BK192; clear HB; have HO196 := n0_; have BK192 := n1_; have HB := n2_; have BK198 := n3_; have GW198 := n4_; have GE198 := n5_; have NB192_198 := n6_; have NB198_192 := n7_; clear n0_ n1_ n2_ n3_ n4_ n5_ n6_ n7_; clear hb hbox hg; obtain ⟨Ao30, co30, eo30⟩ := Kd.S_slice HO196.out; subst eo30; have hnb31 := NB198_192.out; have hnc31 := NB192_198.out; have hcz32_0 : w29.cell? ⟨gb198, 0, none⟩ = some (.slice none 0 0) := (blk_cell BK198.out 0).trans rfl; have hfz32_0 := blk_frozen BK198.out 0) | ((with_reducible refine gate_dst (N := 50) rfl ?_); (try (refine gate_guard (by rfl) ?_; dsimp only)); refine Kd.R_make (Kd.int .i32) _ 21 rfl (N := 50) rfl 25 _ _ rfl 8 rfl rfl Tryd.underlying25 (.int .i32 0) 4 info21 rfl (by decide) (by omega) 0 (ok := fun _ => True) (okp := fun _ => True) rfl (fun _ hk => hk) trivial (by omega) (by omega) (Below.refl _ _) (Nat.le_refl _) ?_; intro v200 w33 ho34 hb hg_ hnew_; clear hg_ hnew_; (first | rw [← Ny199.out] at ho34 | (simp only [Int.reduceToNat] at ho34; rw [← Ny199.out] at ho34)); have n0_ := Aside0.mk (Kd.S_elder' (by (with_reducible repeat (first | apply Kd.S_alloc | apply Kd.S_drewN | apply Kd.S_drew)); exact (Kd.S_mono (Kd.S_far (p := ⟨gb198, 0, none⟩) (Kd.S_types HO196.out BK198.out (by decide)) (fun _ hk => hk.2) (.slice Ao30 t194.length co30)) (fun _ h_ => h_.1))) (Kd.R_base ho34) hb); have n1_ := Aside0.mk (Kd.R_lower ho34 (below_size (pH_ HB.out))); have n2_ := Aside0.mk (blk_below (g := gb192) (o := .cells #[.slice A0_0 l0_0.length c0_0] 24 (0, 0)) (by (with_reducible repeat (first | refine blk_drewN ?_ _ | refine blk_drew ?_ | refine blk_alloc ?_ _)); refine blk_far ?_ NB192_198.out _; (with_reducible repeat (first | refine blk_drewN ?_ _ | refine blk_drew ?_ | refine blk_alloc ?_ _)); exact BK192.out) hb); have n3_ := Aside0.mk (blk_below (g := gb198) (o := .cells #[.slice Ao30 t194.length co30] 24 (0, 0)) (by (with_reducible repeat (first | refine blk_drewN ?_ _ | refine blk_drew ?_ | refine blk_alloc ?_ _)); refine blk_put (cs := #[.slice none 0 0]) ?_ 0 _ rfl; (with_reducible repeat (first | refine blk_drewN ?_ _ | refine blk_drew ?_ | refine blk_alloc ?_ _)); exact BK198.out) hb); have n4_ := Aside0.mk (below_step (pH_ HB.out) hb); clear HO196; clear BK192; clear BK198; clear HB; have HO196 := n0_; have HO201 := n1_; have BK192 := n2_; have BK198 := n3_; have HB := n4_; clear n0_ n1_ n2_ n3_ n4_; clear hb ho34; have hcz35_0 : w33.cell? ⟨gb192, 0, none⟩ = some (.slice A0_0 l0_0.length c0_0) := (blk_cell BK192.out 0).trans rfl; have hfz35_0 := blk_frozen BK192.out 0; obtain ⟨Ao36, co36, eo36⟩ := Kd.R_slice HO201.out; subst eo36) | (go_at_call 11; (with_reducible refine (mixer_Mix.calls kj6 _ _ l0_0 a1 _ _ y199 t202 t203 t204 _ ?side1 ?side2 ?side3 ?side4 (tab_bel hT (pH_ HB.out)) A24.out).mono ?_); (case side1 => repeat (first | exact (Kd.C_below HR0_0.out HB.out) | (with_reducible refine Kd.C_alloc ?_ _) | (with_reducible refine Kd.C_drewN ?_ _) | (with_reducible refine Kd.C_drew ?_))); (case side2 => exact HC0_0.out); (case side3 => repeat (first | exact (Kd.R_reads' HO201.out).2.2 | (with_reducible refine Kd.C_alloc ?_ _) | (with_reducible refine Kd.C_drewN ?_ _) | (with_reducible refine Kd.C_drew ?_))); (case side4 => exact (Kd.R_reads' HO201.out).2.1); rintro e w37 ⟨rfl, hb⟩; have n0_ := Aside0.mk (Kd.S_below (by (with_reducible repeat (first | apply Kd.S_alloc | apply Kd.S_drewN | apply Kd.S_drew)); exact HO196.out) hb); have n1_ := Aside0.mk (Kd.R_below (pL_ HO201.out) hb); have n2_ := Aside0.mk (blk_below (pG_ BK192.out) hb); have n3_ := Aside0.mk (blk_below (pG_ BK198.out) hb); have n4_ := Aside0.mk (below_step (pH_ HB.out) hb); clear HO196; clear HO201; clear BK192; clear BK198; clear HB; have HO196 := n0_; have HO201 := n1_; have BK192 := n2_; have BK198 := n3_; have HB := n4_; clear n0_ n1_ n2_ n3_ n4_; (try clear hb); have hcz38_0 : w37.cell? ⟨gb192, 0, none⟩ = some (.slice A0_0 l0_0.length c0_0) := (blk_cell BK192.out 0).trans rfl; have hfz38_0 := blk_frozen BK192.out 0) | (go_at_call 18; (with_reducible refine (mixer_Learn.calls kj6 _ _ l0_0 a1 _ _ y199 a3 a4 t205 t208 _ ?side1 ?side2 ?side3 ?side4 A25.out).mono ?_); (case side1 => repeat (first | exact (Kd.C_below HR0_0.out HB.out) | (with_reducible refine Kd.C_alloc ?_ _) | (with_reducible refine Kd.C_drewN ?_ _) | (with_reducible refine Kd.C_drew ?_))); (case side2 => exact HC0_0.out); (case side3 => repeat (first | exact (Kd.R_reads' HO201.out).2.2 | (with_reducible refine Kd.C_alloc ?_ _) | (with_reducible refine Kd.C_drewN ?_ _) | (with_reducible refine Kd.C_drew ?_))); (case side4 => exact (Kd.R_reads' HO201.out).2.1); rintro e w39 ⟨v206, rfl, ho0, hb⟩; have n0_ := Aside0.mk (Kd.S_elder' (by (with_reducible repeat (first | apply Kd.S_alloc | apply Kd.S_drewN | apply Kd.S_drew)); exact HO196.out) (Kd.S_base ho0) hb); have n1_ := Aside0.mk (Kd.R_below (pL_ HO201.out) hb); have n2_ := Aside0.mk (Kd.S_lower (Kd.S_new' (Kd.S_new' ho0 (Kd.S_lt (by (with_reducible repeat (first | apply Kd.S_alloc | apply Kd.S_drewN | apply Kd.S_drew)); exact HO196.out))) (Kd.R_lt (pL_ HO201.out))) (below_size (pH_ HB.out))); have n3_ := Aside0.mk (blk_below (pG_ BK192.out) hb); have n4_ := Aside0.mk (blk_below (pG_ BK198.out) hb); have n5_ := Aside0.mk (below_step (pH_ HB.out) hb); clear HO196; clear HO201; clear BK192; clear BK198; clear HB; have HO196 := n0_; have HO201 := n1_; have HO207 := n2_; have BK192 := n3_; have BK198 := n4_; have HB := n5_; clear n0_ n1_ n2_ n3_ n4_ n5_; (try clear hb); (try clear ho0)) | ((with_reducible refine gate_dst (N := 18) rfl ?_); (try (refine gate_guard (by rfl) ?_; dsimp only)); refine box_event ?hg (N := 18) ?hd (cs := #[.slice none 0 0]) (t := 24) ?hr ?_; (case hd => rfl); (case hg => rfl); (case hr => first | (go_simp; done) | (go_simp; rfl)); intro gb209 hg w40 hbox hb; have n0_ := Aside0.mk (Kd.S_below (by (with_reducible repeat (first | apply Kd.S_alloc | apply Kd.S_drewN | apply Kd.S_drew)); exact HO196.out) hb); have n1_ := Aside0.mk (Kd.R_below (pL_ HO201.out) hb); have n2_ := Aside0.mk (Kd.S_below (by (with_reducible repeat (first | apply Kd.S_alloc | apply Kd.S_drewN | apply Kd.S_drew)); exact HO207.out) hb); have n3_ := Aside0.mk (blk_below (pG_ BK192.out) hb); have n4_ := Aside0.mk (blk_below (pG_ BK198.out) hb); have n5_ := Aside0.mk (below_step (pH_ HB.out) hb); have n6_ := Aside0.mk (hbox); have n7_ := Aside0.mk ((by rw [hg]; exact (below_size (pH_ HB.out)) : w.heap.size ≤ gb209)); have n8_ := Aside0.mk ((by rw [hg]; exact (below_size (pH_ HB.out)) : w.heap.size ≤ gb209)); have n9_ := Aside0.mk ((by rw [hg]; exact Nat.ne_of_lt (blk_lt (pG_ BK192.out)) : gb192 ≠ gb209)); have n10_ := Aside0.mk ((by rw [hg]; exact Nat.ne_of_gt (blk_lt (pG_ BK192.out)) : gb209 ≠ gb192)); have n11_ := Aside0.mk ((by rw [hg]; exact Nat.ne_of_lt (blk_lt (pG_ BK198.out)) : gb198 ≠ gb209)); have n12_ := Aside0.mk ((by rw [hg]; exact Nat.ne_of_gt (blk_lt (pG_ BK198.out)) : gb209 ≠ gb198)); clear HO196; clear HO201; clear HO207; clear BK192; clear BK198; clear HB; have HO196 := n0_; have HO201 := n1_; have HO207 := n2_; have BK192 := n3_; have BK198 := n4_; have HB := n5_; have BK209 := n6_; have GW209 := n7_; have GE209 := n8_; have NB192_209 := n9_; have NB209_192 := n10_; have NB198_209 := n11_; have NB209_198 := n12_; clear n0_ n1_ n2_ n3_ n4_ n5_ n6_ n7_ n8_ n9_ n10_ n11_ n12_; clear hb hbox hg; obtain ⟨Ao41, co41, eo41⟩ := Kd.S_slice HO207.out; subst eo41; have hnb42 := NB209_192.out; have hnc42 := NB192_209.out; have hnb43 := NB209_198.out; have hnc43 := NB198_209.out; have hcz44_0 : w40.cell? ⟨gb209, 0, none⟩ = some (.slice none 0 0) := (blk_cell BK209.out 0).trans rfl; have hfz44_0 := blk_frozen BK209.out 0))
    repeat (go_quiet (first | (go_at_call 18; (with_reducible refine (mixer_Learn.calls kj6 _ _ l0_0 a1 _ _ l2 a3 a4 t194 t197 _ ?side1 ?side2 ?side3 ?side4 A23.out).mono ?_); (case side1 => repeat (first | exact (Kd.C_below HR0_0.out HB.out) | (with_reducible refine Kd.C_alloc ?_ _) | (with_reducible refine Kd.C_drewN ?_ _) | (with_reducible refine Kd.C_drew ?_))); (case side2 => exact HC0_0.out); (case side3 => repeat (first | exact (Kd.C_below HR2.out HB.out) | (with_reducible refine Kd.C_alloc ?_ _) | (with_reducible refine Kd.C_drewN ?_ _) | (with_reducible refine Kd.C_drew ?_))); (case side4 => exact HC2.out); rintro e w28 ⟨v195, rfl, ho0, hb⟩; have n0_ := Aside0.mk (Kd.S_lower ho0 (below_size (pH_ HB.out))); have n1_ := Aside0.mk (blk_below (pG_ BK192.out) hb); have n2_ := Aside0.mk (below_step (pH_ HB.out) hb); clear BK192; clear HB; have HO196 := n0_; have BK192 := n1_; have HB := n2_; clear n0_ n1_ n2_; (try clear hb); (try clear ho0)) | ((with_reducible refine gate_dst (N := 12) rfl ?_); (try (refine gate_guard (by rfl) ?_; dsimp only)); refine box_event ?hg (N := 12) ?hd (cs := #[.slice none 0 0]) (t := 24) ?hr ?_; (case hd => rfl); (case hg => rfl); (case hr => first | (go_simp; done) | (go_simp; rfl)); intro gb198 hg w29 hbox hb; have n0_ := Aside0.mk (Kd.S_below (by (with_reducible repeat (first | apply Kd.S_alloc | apply Kd.S_drewN | apply Kd.S_drew)); exact HO196.out) hb); have n1_ := Aside0.mk (blk_below (pG_ BK192.out) hb); have n2_ := Aside0.mk (below_step (pH_ HB.out) hb); have n3_ := Aside0.mk (hbox); have n4_ := Aside0.mk ((by rw [hg]; exact (below_size (pH_ HB.out)) : w.heap.size ≤ gb198)); have n5_ := Aside0.mk ((by rw [hg]; exact (below_size (pH_ HB.out)) : w.heap.size ≤ gb198)); have n6_ := Aside0.mk ((by rw [hg]; exact Nat.ne_of_lt (blk_lt (pG_ BK192.out)) : gb192 ≠ gb198)); have n7_ := Aside0.mk ((by rw [hg]; exact Nat.ne_of_gt (blk_lt (pG_ BK192.out)) : gb198 ≠ gb192)); clear HO196; clear BK192; clear HB; have HO196 := n0_; have BK192 := n1_; have HB := n2_; have BK198 := n3_; have GW198 := n4_; have GE198 := n5_; have NB192_198 := n6_; have NB198_192 := n7_; clear n0_ n1_ n2_ n3_ n4_ n5_ n6_ n7_; clear hb hbox hg; obtain ⟨Ao30, co30, eo30⟩ := Kd.S_slice HO196.out; subst eo30; have hnb31 := NB198_192.out; have hnc31 := NB192_198.out; have hcz32_0 : w29.cell? ⟨gb198, 0, none⟩ = some (.slice none 0 0) := (blk_cell BK198.out 0).trans rfl; have hfz32_0 := blk_frozen BK198.out 0) | ((with_reducible refine gate_dst (N := 50) rfl ?_); (try (refine gate_guard (by rfl) ?_; dsimp only)); refine Kd.R_make (Kd.int .i32) _ 21 rfl (N := 50) rfl 25 _ _ rfl 8 rfl rfl Tryd.underlying25 (.int .i32 0) 4 info21 rfl (by decide) (by omega) 0 (ok := fun _ => True) (okp := fun _ => True) rfl (fun _ hk => hk) trivial (by omega) (by omega) (Below.refl _ _) (Nat.le_refl _) ?_; intro v200 w33 ho34 hb hg_ hnew_; clear hg_ hnew_; (first | rw [← Ny199.out] at ho34 | (simp only [Int.reduceToNat] at ho34; rw [← Ny199.out] at ho34)); have n0_ := Aside0.mk (Kd.S_elder' (by (with_reducible repeat (first | apply Kd.S_alloc | apply Kd.S_drewN | apply Kd.S_drew)); exact (Kd.S_mono (Kd.S_far (p := ⟨gb198, 0, none⟩) (Kd.S_types HO196.out BK198.out (by decide)) (fun _ hk => hk.2) (.slice Ao30 t194.length co30)) (fun _ h_ => h_.1))) (Kd.R_base ho34) hb); have n1_ := Aside0.mk (Kd.R_lower ho34 (below_size (pH_ HB.out))); have n2_ := Aside0.mk (blk_below (g := gb192) (o := .cells #[.slice A0_0 l0_0.length c0_0] 24 (0, 0)) (by (with_reducible repeat (first | refine blk_drewN ?_ _ | refine blk_drew ?_ | refine blk_alloc ?_ _)); refine blk_far ?_ NB192_198.out _; (with_reducible repeat (first | refine blk_drewN ?_ _ | refine blk_drew ?_ | refine blk_alloc ?_ _)); exact BK192.out) hb); have n3_ := Aside0.mk (blk_below (g := gb198) (o := .cells #[.slice Ao30 t194.length co30] 24 (0, 0)) (by (with_reducible repeat (first | refine blk_drewN ?_ _ | refine blk_drew ?_ | refine blk_alloc ?_ _)); refine blk_put (cs := #[.slice none 0 0]) ?_ 0 _ rfl; (with_reducible repeat (first | refine blk_drewN ?_ _ | refine blk_drew ?_ | refine blk_alloc ?_ _)); exact BK198.out) hb); have n4_ := Aside0.mk (below_step (pH_ HB.out) hb); clear HO196; clear BK192; clear BK198; clear HB; have HO196 := n0_; have HO201 := n1_; have BK192 := n2_; have BK198 := n3_; have HB := n4_; clear n0_ n1_ n2_ n3_ n4_; clear hb ho34; have hcz35_0 : w33.cell? ⟨gb192, 0, none⟩ = some (.slice A0_0 l0_0.length c0_0) := (blk_cell BK192.out 0).trans rfl; have hfz35_0 := blk_frozen BK192.out 0; obtain ⟨Ao36, co36, eo36⟩ := Kd.R_slice HO201.out; subst eo36) | (go_at_call 11; (with_reducible refine (mixer_Mix.calls kj6 _ _ l0_0 a1 _ _ y199 t202 t203 t204 _ ?side1 ?side2 ?side3 ?side4 (tab_bel hT (pH_ HB.out)) A24.out).mono ?_); (case side1 => repeat (first | exact (Kd.C_below HR0_0.out HB.out) | (with_reducible refine Kd.C_alloc ?_ _) | (with_reducible refine Kd.C_drewN ?_ _) | (with_reducible refine Kd.C_drew ?_))); (case side2 => exact HC0_0.out); (case side3 => repeat (first | exact (Kd.R_reads' HO201.out).2.2 | (with_reducible refine Kd.C_alloc ?_ _) | (with_reducible refine Kd.C_drewN ?_ _) | (with_reducible refine Kd.C_drew ?_))); (case side4 => exact (Kd.R_reads' HO201.out).2.1); rintro e w37 ⟨rfl, hb⟩; have n0_ := Aside0.mk (Kd.S_below (by (with_reducible repeat (first | apply Kd.S_alloc | apply Kd.S_drewN | apply Kd.S_drew)); exact HO196.out) hb); have n1_ := Aside0.mk (Kd.R_below (pL_ HO201.out) hb); have n2_ := Aside0.mk (blk_below (pG_ BK192.out) hb); have n3_ := Aside0.mk (blk_below (pG_ BK198.out) hb); have n4_ := Aside0.mk (below_step (pH_ HB.out) hb); clear HO196; clear HO201; clear BK192; clear BK198; clear HB; have HO196 := n0_; have HO201 := n1_; have BK192 := n2_; have BK198 := n3_; have HB := n4_; clear n0_ n1_ n2_ n3_ n4_; (try clear hb); have hcz38_0 : w37.cell? ⟨gb192, 0, none⟩ = some (.slice A0_0 l0_0.length c0_0) := (blk_cell BK192.out 0).trans rfl; have hfz38_0 := blk_frozen BK192.out 0) | (go_at_call 18; (with_reducible refine (mixer_Learn.calls kj6 _ _ l0_0 a1 _ _ y199 a3 a4 t205 t208 _ ?side1 ?side2 ?side3 ?side4 A25.out).mono ?_); (case side1 => repeat (first | exact (Kd.C_below HR0_0.out HB.out) | (with_reducible refine Kd.C_alloc ?_ _) | (with_reducible refine Kd.C_drewN ?_ _) | (with_reducible refine Kd.C_drew ?_))); (case side2 => exact HC0_0.out); (case side3 => repeat (first | exact (Kd.R_reads' HO201.out).2.2 | (with_reducible refine Kd.C_alloc ?_ _) | (with_reducible refine Kd.C_drewN ?_ _) | (with_reducible refine Kd.C_drew ?_))); (case side4 => exact (Kd.R_reads' HO201.out).2.1); rintro e w39 ⟨v206, rfl, ho0, hb⟩; have n0_ := Aside0.mk (Kd.S_elder' (by (with_reducible repeat (first | apply Kd.S_alloc | apply Kd.S_drewN | apply Kd.S_drew)); exact HO196.out) (Kd.S_base ho0) hb); have n1_ := Aside0.mk (Kd.R_below (pL_ HO201.out) hb); have n2_ := Aside0.mk (Kd.S_lower (Kd.S_new' (Kd.S_new' ho0 (Kd.S_lt (by (with_reducible repeat (first | apply Kd.S_alloc | apply Kd.S_drewN | apply Kd.S_drew)); exact HO196.out))) (Kd.R_lt (pL_ HO201.out))) (below_size (pH_ HB.out))); have n3_ := Aside0.mk (blk_below (pG_ BK192.out) hb); have n4_ := Aside0.mk (blk_below (pG_ BK198.out) hb); have n5_ := Aside0.mk (below_step (pH_ HB.out) hb); clear HO196; clear HO201; clear BK192; clear BK198; clear HB; have HO196 := n0_; have HO201 := n1_; have HO207 := n2_; have BK192 := n3_; have BK198 := n4_; have HB := n5_; clear n0_ n1_ n2_ n3_ n4_ n5_; (try clear hb); (try clear ho0)) | ((with_reducible refine gate_dst (N := 18) rfl ?_); (try (refine gate_guard (by rfl) ?_; dsimp only)); refine box_event ?hg (N := 18) ?hd (cs := #[.slice none 0 0]) (t := 24) ?hr ?_; (case hd => rfl); (case hg => rfl); (case hr => first | (go_simp; done) | (go_simp; rfl)); intro gb209 hg w40 hbox hb; have n0_ := Aside0.mk (Kd.S_below (by (with_reducible repeat (first | apply Kd.S_alloc | apply Kd.S_drewN | apply Kd.S_drew)); exact HO196.out) hb); have n1_ := Aside0.mk (Kd.R_below (pL_ HO201.out) hb); have n2_ := Aside0.mk (Kd.S_below (by (with_reducible repeat (first | apply Kd.S_alloc | apply Kd.S_drewN | apply Kd.S_drew)); exact HO207.out) hb); have n3_ := Aside0.mk (blk_below (pG_ BK192.out) hb); have n4_ := Aside0.mk (blk_below (pG_ BK198.out) hb); have n5_ := Aside0.mk (below_step (pH_ HB.out) hb); have n6_ := Aside0.mk (hbox); have n7_ := Aside0.mk ((by rw [hg]; exact (below_size (pH_ HB.out)) : w.heap.size ≤ gb209)); have n8_ := Aside0.mk ((by rw [hg]; exact (below_size (pH_ HB.out)) : w.heap.size ≤ gb209)); have n9_ := Aside0.mk ((by rw [hg]; exact Nat.ne_of_lt (blk_lt (pG_ BK192.out)) : gb192 ≠ gb209)); have n10_ := Aside0.mk ((by rw [hg]; exact Nat.ne_of_gt (blk_lt (pG_ BK192.out)) : gb209 ≠ gb192)); have n11_ := Aside0.mk ((by rw [hg]; exact Nat.ne_of_lt (blk_lt (pG_ BK198.out)) : gb198 ≠ gb209)); have n12_ := Aside0.mk ((by rw [hg]; exact Nat.ne_of_gt (blk_lt (pG_ BK198.out)) : gb209 ≠ gb198)); clear HO196; clear HO201; clear HO207; clear BK192; clear BK198; clear HB; have HO196 := n0_; have HO201 := n1_; have HO207 := n2_; have BK192 := n3_; have BK198 := n4_; have HB := n5_; have BK209 := n6_; have GW209 := n7_; have GE209 := n8_; have NB192_209 := n9_; have NB209_192 := n10_; have NB198_209 := n11_; have NB209_198 := n12_; clear n0_ n1_ n2_ n3_ n4_ n5_ n6_ n7_ n8_ n9_ n10_ n11_ n12_; clear hb hbox hg; obtain ⟨Ao41, co41, eo41⟩ := Kd.S_slice HO207.out; subst eo41; have hnb42 := NB209_192.out; have hnc42 := NB192_209.out; have hnb43 := NB209_198.out; have hnc43 := NB198_209.out; have hcz44_0 : w40.cell? ⟨gb209, 0, none⟩ = some (.slice none 0 0) := (blk_cell BK209.out 0).trans rfl; have hfz44_0 := blk_frozen BK209.out 0)); go_upto_region 8 with (first | (go_at_call 18; (with_reducible refine (mixer_Learn.calls kj6 _ _ l0_0 a1 _ _ l2 a3 a4 t194 t197 _ ?side1 ?side2 ?side3 ?side4 A23.out).mono ?_); (case side1 => repeat (first | exact (Kd.C_below HR0_0.out HB.out) | (with_reducible refine Kd.C_alloc ?_ _) | (with_reducible refine Kd.C_drewN ?_ _) | (with_reducible refine Kd.C_drew ?_))); (case side2 => exact HC0_0.out); (case side3 => repeat (first | exact (Kd.C_below HR2.out HB.out) | (with_reducible refine Kd.C_alloc ?_ _) | (with_reducible refine Kd.C_drewN ?_ _) | (with_reducible refine Kd.C_drew ?_))); (case side4 => exact HC2.out); rintro e w28 ⟨v195, rfl, ho0, hb⟩; have n0_ := Aside0.mk (Kd.S_lower ho0 (below_size (pH_ HB.out))); have n1_ := Aside0.mk (blk_below (pG_ BK192.out) hb); have n2_ := Aside0.mk (below_step (pH_ HB.out) hb); clear BK192; clear HB; have HO196 := n0_; have BK192 := n1_; have HB := n2_; clear n0_ n1_ n2_; (try clear hb); (try clear ho0)) | ((with_reducible refine gate_dst (N := 12) rfl ?_); (try (refine gate_guard (by rfl) ?_; dsimp only)); refine box_event ?hg (N := 12) ?hd (cs := #[.slice none 0 0]) (t := 24) ?hr ?_; (case hd => rfl); (case hg => rfl); (case hr => first | (go_simp; done) | (go_simp; rfl)); intro gb198 hg w29 hbox hb; have n0_ := Aside0.mk (Kd.S_below (by (with_reducible repeat (first | apply Kd.S_alloc | apply Kd.S_drewN | apply Kd.S_drew)); exact HO196.out) hb); have n1_ := Aside0.mk (blk_below (pG_ BK192.out) hb); have n2_ := Aside0.mk (below_step (pH_ HB.out) hb); have n3_ := Aside0.mk (hbox); have n4_ := Aside0.mk ((by rw [hg]; exact (below_size (pH_ HB.out)) : w.heap.size ≤ gb198)); have n5_ := Aside0.mk ((by rw [hg]; exact (below_size (pH_ HB.out)) : w.heap.size ≤ gb198)); have n6_ := Aside0.mk ((by rw [hg]; exact Nat.ne_of_lt (blk_lt (pG_ BK192.out)) : gb192 ≠ gb198)); have n7_ := Aside0.mk ((by rw [hg]; exact Nat.ne_of_gt (blk_lt (pG_ BK192.out)) : gb198 ≠ gb192)); clear HO196; clear BK192; clear HB; have HO196 := n0_; have BK192 := n1_; have HB := n2_; have BK198 := n3_; have GW198 := n4_; have GE198 := n5_; have NB192_198 := n6_; have NB198_192 := n7_; clear n0_ n1_ n2_ n3_ n4_ n5_ n6_ n7_; clear hb hbox hg; obtain ⟨Ao30, co30, eo30⟩ := Kd.S_slice HO196.out; subst eo30; have hnb31 := NB198_192.out; have hnc31 := NB192_198.out; have hcz32_0 : w29.cell? ⟨gb198, 0, none⟩ = some (.slice none 0 0) := (blk_cell BK198.out 0).trans rfl; have hfz32_0 := blk_frozen BK198.out 0) | ((with_reducible refine gate_dst (N := 50) rfl ?_); (try (refine gate_guard (by rfl) ?_; dsimp only)); refine Kd.R_make (Kd.int .i32) _ 21 rfl (N := 50) rfl 25 _ _ rfl 8 rfl rfl Tryd.underlying25 (.int .i32 0) 4 info21 rfl (by decide) (by omega) 0 (ok := fun _ => True) (okp := fun _ => True) rfl (fun _ hk => hk) trivial (by omega) (by omega) (Below.refl _ _) (Nat.le_refl _) ?_; intro v200 w33 ho34 hb hg_ hnew_; clear hg_ hnew_; (first | rw [← Ny199.out] at ho34 | (simp only [Int.reduceToNat] at ho34; rw [← Ny199.out] at ho34)); have n0_ := Aside0.mk (Kd.S_elder' (by (with_reducible repeat (first | apply Kd.S_alloc | apply Kd.S_drewN | apply Kd.S_drew)); exact (Kd.S_mono (Kd.S_far (p := ⟨gb198, 0, none⟩) (Kd.S_types HO196.out BK198.out (by decide)) (fun _ hk => hk.2) (.slice Ao30 t194.length co30)) (fun _ h_ => h_.1))) (Kd.R_base ho34) hb); have n1_ := Aside0.mk (Kd.R_lower ho34 (below_size (pH_ HB.out))); have n2_ := Aside0.mk (blk_below (g := gb192) (o := .cells #[.slice A0_0 l0_0.length c0_0] 24 (0, 0)) (by (with_reducible repeat (first | refine blk_drewN ?_ _ | refine blk_drew ?_ | refine blk_alloc ?_ _)); refine blk_far ?_ NB192_198.out _; (with_reducible repeat (first | refine blk_drewN ?_ _ | refine blk_drew ?_ | refine blk_alloc ?_ _)); exact BK192.out) hb); have n3_ := Aside0.mk (blk_below (g := gb198) (o := .cells #[.slice Ao30 t194.length co30] 24 (0, 0)) (by (with_reducible repeat (first | refine blk_drewN ?_ _ | refine blk_drew ?_ | refine blk_alloc ?_ _)); refine blk_put (cs := #[.slice none 0 0]) ?_ 0 _ rfl; (with_reducible repeat (first | refine blk_drewN ?_ _ | refine blk_drew ?_ | refine blk_alloc ?_ _)); exact BK198.out) hb); have n4_ := Aside0.mk (below_step (pH_ HB.out) hb); clear HO196; clear BK192; clear BK198; clear HB; have HO196 := n0_; have HO201 := n1_; have BK192 := n2_; have BK198 := n3_; have HB := n4_; clear n0_ n1_ n2_ n3_ n4_; clear hb ho34; have hcz35_0 : w33.cell? ⟨gb192, 0, none⟩ = some (.slice A0_0 l0_0.length c0_0) := (blk_cell BK192.out 0).trans rfl; have hfz35_0 := blk_frozen BK192.out 0; obtain ⟨Ao36, co36, eo36⟩ := Kd.R_slice HO201.out; subst eo36) | (go_at_call 11; (with_reducible refine (mixer_Mix.calls kj6 _ _ l0_0 a1 _ _ y199 t202 t203 t204 _ ?side1 ?side2 ?side3 ?side4 (tab_bel hT (pH_ HB.out)) A24.out).mono ?_); (case side1 => repeat (first | exact (Kd.C_below HR0_0.out HB.out) | (with_reducible refine Kd.C_alloc ?_ _) | (with_reducible refine Kd.C_drewN ?_ _) | (with_reducible refine Kd.C_drew ?_))); (case side2 => exact HC0_0.out); (case side3 => repeat (first | exact (Kd.R_reads' HO201.out).2.2 | (with_reducible refine Kd.C_alloc ?_ _) | (with_reducible refine Kd.C_drewN ?_ _) | (with_reducible refine Kd.C_drew ?_))); (case side4 => exact (Kd.R_reads' HO201.out).2.1); rintro e w37 ⟨rfl, hb⟩; have n0_ := Aside0.mk (Kd.S_below (by (with_reducible repeat (first | apply Kd.S_alloc | apply Kd.S_drewN | apply Kd.S_drew)); exact HO196.out) hb); have n1_ := Aside0.mk (Kd.R_below (pL_ HO201.out) hb); have n2_ := Aside0.mk (blk_below (pG_ BK192.out) hb); have n3_ := Aside0.mk (blk_below (pG_ BK198.out) hb); have n4_ := Aside0.mk (below_step (pH_ HB.out) hb); clear HO196; clear HO201; clear BK192; clear BK198; clear HB; have HO196 := n0_; have HO201 := n1_; have BK192 := n2_; have BK198 := n3_; have HB := n4_; clear n0_ n1_ n2_ n3_ n4_; (try clear hb); have hcz38_0 : w37.cell? ⟨gb192, 0, none⟩ = some (.slice A0_0 l0_0.length c0_0) := (blk_cell BK192.out 0).trans rfl; have hfz38_0 := blk_frozen BK192.out 0) | (go_at_call 18; (with_reducible refine (mixer_Learn.calls kj6 _ _ l0_0 a1 _ _ y199 a3 a4 t205 t208 _ ?side1 ?side2 ?side3 ?side4 A25.out).mono ?_); (case side1 => repeat (first | exact (Kd.C_below HR0_0.out HB.out) | (with_reducible refine Kd.C_alloc ?_ _) | (with_reducible refine Kd.C_drewN ?_ _) | (with_reducible refine Kd.C_drew ?_))); (case side2 => exact HC0_0.out); (case side3 => repeat (first | exact (Kd.R_reads' HO201.out).2.2 | (with_reducible refine Kd.C_alloc ?_ _) | (with_reducible refine Kd.C_drewN ?_ _) | (with_reducible refine Kd.C_drew ?_))); (case side4 => exact (Kd.R_reads' HO201.out).2.1); rintro e w39 ⟨v206, rfl, ho0, hb⟩; have n0_ := Aside0.mk (Kd.S_elder' (by (with_reducible repeat (first | apply Kd.S_alloc | apply Kd.S_drewN | apply Kd.S_drew)); exact HO196.out) (Kd.S_base ho0) hb); have n1_ := Aside0.mk (Kd.R_below (pL_ HO201.out) hb); have n2_ := Aside0.mk (Kd.S_lower (Kd.S_new' (Kd.S_new' ho0 (Kd.S_lt (by (with_reducible repeat (first | apply Kd.S_alloc | apply Kd.S_drewN | apply Kd.S_drew)); exact HO196.out))) (Kd.R_lt (pL_ HO201.out))) (below_size (pH_ HB.out))); have n3_ := Aside0.mk (blk_below (pG_ BK192.out) hb); have n4_ := Aside0.mk (blk_below (pG_ BK198.out) hb); have n5_ := Aside0.mk (below_step (pH_ HB.out) hb); clear HO196; clear HO201; clear BK192; clear BK198; clear HB; have HO196 := n0_; have HO201 := n1_; have HO207 := n2_; have BK192 := n3_; have BK198 := n4_; have HB := n5_; clear n0_ n1_ n2_ n3_ n4_ n5_; (try clear hb); (try clear ho0)) | ((with_reducible refine gate_dst (N := 18) rfl ?_); (try (refine gate_guard (by rfl) ?_; dsimp only)); refine box_event ?hg (N := 18) ?hd (cs := #[.slice none 0 0]) (t := 24) ?hr ?_; (case hd => rfl); (case hg => rfl); (case hr => first | (go_simp; done) | (go_simp; rfl)); intro gb209 hg w40 hbox hb; have n0_ := Aside0.mk (Kd.S_below (by (with_reducible repeat (first | apply Kd.S_alloc | apply Kd.S_drewN | apply Kd.S_drew)); exact HO196.out) hb); have n1_ := Aside0.mk (Kd.R_below (pL_ HO201.out) hb); have n2_ := Aside0.mk (Kd.S_below (by (with_reducible repeat (first | apply Kd.S_alloc | apply Kd.S_drewN | apply Kd.S_drew)); exact HO207.out) hb); have n3_ := Aside0.mk (blk_below (pG_ BK192.out) hb); have n4_ := Aside0.mk (blk_below (pG_ BK198.out) hb); have n5_ := Aside0.mk (below_step (pH_ HB.out) hb); have n6_ := Aside0.mk (hbox); have n7_ := Aside0.mk ((by rw [hg]; exact (below_size (pH_ HB.out)) : w.heap.size ≤ gb209)); have n8_ := Aside0.mk ((by rw [hg]; exact (below_size (pH_ HB.out)) : w.heap.size ≤ gb209)); have n9_ := Aside0.mk ((by rw [hg]; exact Nat.ne_of_lt (blk_lt (pG_ BK192.out)) : gb192 ≠ gb209)); have n10_ := Aside0.mk ((by rw [hg]; exact Nat.ne_of_gt (blk_lt (pG_ BK192.out)) : gb209 ≠ gb192)); have n11_ := Aside0.mk ((by rw [hg]; exact Nat.ne_of_lt (blk_lt (pG_ BK198.out)) : gb198 ≠ gb209)); have n12_ := Aside0.mk ((by rw [hg]; exact Nat.ne_of_gt (blk_lt (pG_ BK198.out)) : gb209 ≠ gb198)); clear HO196; clear HO201; clear HO207; clear BK192; clear BK198; clear HB; have HO196 := n0_; have HO201 := n1_; have HO207 := n2_; have BK192 := n3_; have BK198 := n4_; have HB := n5_; have BK209 := n6_; have GW209 := n7_; have GE209 := n8_; have NB192_209 := n9_; have NB209_192 := n10_; have NB198_209 := n11_; have NB209_198 := n12_; clear n0_ n1_ n2_ n3_ n4_ n5_ n6_ n7_ n8_ n9_ n10_ n11_ n12_; clear hb hbox hg; obtain ⟨Ao41, co41, eo41⟩ := Kd.S_slice HO207.out; subst eo41; have hnb42 := NB209_192.out; have hnc42 := NB192_209.out; have hnb43 := NB209_198.out; have hnc43 := NB198_209.out; have hcz44_0 : w40.cell? ⟨gb209, 0, none⟩ = some (.slice none 0 0) := (blk_cell BK209.out 0).trans rfl; have hfz44_0 := blk_frozen BK209.out 0)))
    (try simp only [Act.put, sA_, sZ_, sS_]); (with_reducible first | refine then_id_ ?_ | (refine wp_tail_ ?_; intro Kt_ hKt_))
    go_cut [101] (fun v101 wc => ∃ (kq : Nat) (x101_25 : Bool), v101 = .bool x101_25 ∧ Aside0 (bitloftlaw16_MixerApart.j1 kq a1 l2 x101_25 l0_0 t194 = some r) ∧ Aside0 (kq ≤ kj6) ∧ Aside0 (Kd.S (Kd.slice 21 (Kd.int .i32)) 25 wc w.heap.size (fun k_ => some k_ ≠ ((.slice Ao41 t205.length co41) : Value).ownBlock) (.slice Ao30 t194.length co30) t194) ∧ Aside0 (Kd.S (Kd.slice 21 (Kd.int .i32)) 25 wc w.heap.size (fun k_ => some k_ ≠ ((.slice Ao30 t194.length co30) : Value).ownBlock) (.slice Ao41 t205.length co41) t205) ∧ Aside0 (wc.heap[gb192]? = some (.cells #[(.slice A0_0 l0_0.length c0_0)] 24 (0, 0))) ∧ Aside0 (wc.heap[gb198]? = some (.cells #[(.slice Ao30 t194.length co30)] 24 (0, 0))) ∧ Aside0 (wc.heap[gb209]? = some (.cells #[(.slice Ao41 t205.length co41)] 24 (0, 0))) ∧ Aside0 (Below w.heap.size w wc))
    case first =>
     have H := HC26.out; clear HC26
     by_cases c45 : t197 = 0
     ·
      rw [if_pos c45] at H; have c45b0 : (t197 == 0) = true := beq_iff_eq.mpr c45; have c45b1 : (t197 != 0) = false := bne_eq_false_iff_eq.mpr c45; clear c45; (first | rw [c45b0] | (simp only [i64_w, i32_w]; rw [c45b0]) | skip)
      by_cases c46 : t204 = 0
      ·
       rw [if_pos c46] at H; have c46b0 : (t204 == 0) = true := beq_iff_eq.mpr c46; have c46b1 : (t204 != 0) = false := bne_eq_false_iff_eq.mpr c46; clear c46
       by_cases c47 : t208 = 0
       ·
        rw [if_pos c47] at H; have c47b0 : (t208 == 0) = true := beq_iff_eq.mpr c47; have c47b1 : (t208 != 0) = false := bne_eq_false_iff_eq.mpr c47; clear c47
        by_cases c48 : t202 = 0
        ·
         rw [if_pos c48] at H; have c48b0 : (t202 == 0) = true := beq_iff_eq.mpr c48; have c48b1 : (t202 != 0) = false := bne_eq_false_iff_eq.mpr c48; clear c48; replace H := Option.bind_eq_some_iff.mp H; obtain ⟨t210, A490, H⟩ := H; replace H : (if t203 = t210 then ((bitloftref16_Same.f kj6 t205 l0_0).bind fun t211 => (if t211 = true then (bitloftlaw16_MixerApart.j1 kj6 a1 l2 ((t194.length : Int) != (l0_0.length : Int)) l0_0 t194) else (bitloftlaw16_MixerApart.j1 kj6 a1 l2 true l0_0 t194))) else (bitloftlaw16_MixerApart.j1 kj6 a1 l2 true l0_0 t194)) = some r := H; have A49 := Aside0.mk A490; clear A490
         by_cases c50 : t203 = t210
         ·
          rw [if_pos c50] at H; have c50b0 : (t203 == t210) = true := beq_iff_eq.mpr c50; have c50b1 : (t203 != t210) = false := bne_eq_false_iff_eq.mpr c50; clear c50; replace H := Option.bind_eq_some_iff.mp H; obtain ⟨t211, A510, H⟩ := H; replace H : (if t211 = true then (bitloftlaw16_MixerApart.j1 kj6 a1 l2 ((t194.length : Int) != (l0_0.length : Int)) l0_0 t194) else (bitloftlaw16_MixerApart.j1 kj6 a1 l2 true l0_0 t194)) = some r := H; have A51 := Aside0.mk A510; clear A510
          by_cases c52 : t211 = true
          ·
           subst c52
           have H1 : (bitloftlaw16_MixerApart.j1 kj6 a1 l2 ((t194.length : Int) != (l0_0.length : Int)) l0_0 t194) = some r := by rw [if_pos rfl] at H; exact H
           clear H; have H := H1; clear H1; have H' := Aside0.mk H; clear H
           go_wp2_with (first | (go_at_call 20; (with_reducible refine (squash_Squash.calls 0 t210 _ (tab_bel hT (pH_ HB.out)) A49.out).mono ?_); rintro e w' ⟨rfl, ⟨nd, rfl⟩⟩; (try first | exact ⟨rfl, _, World.drewN_drewN _ _ _⟩ | exact ⟨rfl, _, Eq.trans (World.drewN_drewN _ _ _) (congrArg (World.drewN _) (Nat.add_assoc _ _ _))⟩); have hnb53 := NB209_192.out; have hnc53 := NB192_209.out; have hnb54 := NB209_198.out; have hnc54 := NB198_209.out; have hcz55_0 : w40.cell? ⟨gb209, 0, none⟩ = some (.slice none 0 0) := (blk_cell BK209.out 0).trans rfl; have hfz55_0 := blk_frozen BK209.out 0; have hnb56 := NB192_198.out; have hnc56 := NB198_192.out; have hcz57_0 : w40.cell? ⟨gb192, 0, none⟩ = some (.slice A0_0 l0_0.length c0_0) := (blk_cell BK192.out 0).trans rfl; have hfz57_0 := blk_frozen BK192.out 0) | (go_at_call 15; (with_reducible refine (bitloftref16_Same.calls kj6 _ _ t205 _ _ l0_0 true _ ?side1 ?side2 ?side3 ?side4 A51.out).mono ?_); (case side1 => refine (Kd.S_reads' (e := 25) (base := w.heap.size) (ok := fun k_ => ((True ∧ nO_ k_ (.slice Ao30 t194.length co30)) ∧ nO_ k_ (.slice Ao36 y199.length co36))) (n := t205.length) (c := co41) ?_).2.2; exact (by (with_reducible repeat (first | apply Kd.S_alloc | apply Kd.S_drewN | apply Kd.S_drew)); exact (Kd.S_mono (Kd.S_far (p := ⟨gb209, 0, none⟩) (Kd.S_types HO207.out BK209.out (by decide)) (fun _ hk => hk.2) (.slice Ao41 t205.length co41)) (fun _ h_ => h_.1)))); (case side2 => exact (Kd.S_reads' HO207.out).2.1); (case side3 => exact Kd.C_below HR0_0.out (pH_ HB.out)); (case side4 => exact HC0_0.out); rintro e w58 ⟨rfl, hb⟩; have n0_ := Aside0.mk (Kd.S_below (by (with_reducible repeat (first | apply Kd.S_alloc | apply Kd.S_drewN | apply Kd.S_drew)); exact (Kd.S_mono (Kd.S_far (p := ⟨gb209, 0, none⟩) (Kd.S_types HO196.out BK209.out (by decide)) (fun _ hk => hk.2) (.slice Ao41 t205.length co41)) (fun _ h_ => h_.1))) hb); have n1_ := Aside0.mk (Kd.R_below (by (with_reducible repeat (first | apply rA_ | apply rN_ | apply rD_)); exact (Kd.R_mono (Kd.R_far (p := ⟨gb209, 0, none⟩) (Kd.R_types HO201.out BK209.out (by decide)) (fun _ hk => hk.2) (.slice Ao41 t205.length co41)) (fun _ h_ => h_.1))) hb); have n2_ := Aside0.mk (Kd.S_below (by (with_reducible repeat (first | apply Kd.S_alloc | apply Kd.S_drewN | apply Kd.S_drew)); exact (Kd.S_mono (Kd.S_far (p := ⟨gb209, 0, none⟩) (Kd.S_types HO207.out BK209.out (by decide)) (fun _ hk => hk.2) (.slice Ao41 t205.length co41)) (fun _ h_ => h_.1))) hb); have n3_ := Aside0.mk (blk_below (g := gb192) (o := .cells #[.slice A0_0 l0_0.length c0_0] 24 (0, 0)) (by (with_reducible repeat (first | refine blk_drewN ?_ _ | refine blk_drew ?_ | refine blk_alloc ?_ _)); refine blk_far ?_ NB192_209.out _; (with_reducible repeat (first | refine blk_drewN ?_ _ | refine blk_drew ?_ | refine blk_alloc ?_ _)); exact BK192.out) hb); have n4_ := Aside0.mk (blk_below (g := gb198) (o := .cells #[.slice Ao30 t194.length co30] 24 (0, 0)) (by (with_reducible repeat (first | refine blk_drewN ?_ _ | refine blk_drew ?_ | refine blk_alloc ?_ _)); refine blk_far ?_ NB198_209.out _; (with_reducible repeat (first | refine blk_drewN ?_ _ | refine blk_drew ?_ | refine blk_alloc ?_ _)); exact BK198.out) hb); have n5_ := Aside0.mk (blk_below (g := gb209) (o := .cells #[.slice Ao41 t205.length co41] 24 (0, 0)) (by (with_reducible repeat (first | refine blk_drewN ?_ _ | refine blk_drew ?_ | refine blk_alloc ?_ _)); refine blk_put (cs := #[.slice none 0 0]) ?_ 0 _ rfl; (with_reducible repeat (first | refine blk_drewN ?_ _ | refine blk_drew ?_ | refine blk_alloc ?_ _)); exact BK209.out) hb); have n6_ := Aside0.mk (below_step (pH_ HB.out) hb); clear HO196; clear HO201; clear HO207; clear BK192; clear BK198; clear BK209; clear HB; have HO196 := n0_; have HO201 := n1_; have HO207 := n2_; have BK192 := n3_; have BK198 := n4_; have BK209 := n5_; have HB := n6_; clear n0_ n1_ n2_ n3_ n4_ n5_ n6_; (try clear hb); have hcz59_0 : w58.cell? ⟨gb198, 0, none⟩ = some (.slice Ao30 t194.length co30) := (blk_cell BK198.out 0).trans rfl; have hfz59_0 := blk_frozen BK198.out 0; have hcz60_0 : w58.cell? ⟨gb192, 0, none⟩ = some (.slice A0_0 l0_0.length c0_0) := (blk_cell BK192.out 0).trans rfl; have hfz60_0 := blk_frozen BK192.out 0))
           repeat (go_quiet (first | (go_at_call 20; (with_reducible refine (squash_Squash.calls 0 t210 _ (tab_bel hT (pH_ HB.out)) A49.out).mono ?_); rintro e w' ⟨rfl, ⟨nd, rfl⟩⟩; (try first | exact ⟨rfl, _, World.drewN_drewN _ _ _⟩ | exact ⟨rfl, _, Eq.trans (World.drewN_drewN _ _ _) (congrArg (World.drewN _) (Nat.add_assoc _ _ _))⟩); have hnb53 := NB209_192.out; have hnc53 := NB192_209.out; have hnb54 := NB209_198.out; have hnc54 := NB198_209.out; have hcz55_0 : w40.cell? ⟨gb209, 0, none⟩ = some (.slice none 0 0) := (blk_cell BK209.out 0).trans rfl; have hfz55_0 := blk_frozen BK209.out 0; have hnb56 := NB192_198.out; have hnc56 := NB198_192.out; have hcz57_0 : w40.cell? ⟨gb192, 0, none⟩ = some (.slice A0_0 l0_0.length c0_0) := (blk_cell BK192.out 0).trans rfl; have hfz57_0 := blk_frozen BK192.out 0) | (go_at_call 15; (with_reducible refine (bitloftref16_Same.calls kj6 _ _ t205 _ _ l0_0 true _ ?side1 ?side2 ?side3 ?side4 A51.out).mono ?_); (case side1 => refine (Kd.S_reads' (e := 25) (base := w.heap.size) (ok := fun k_ => ((True ∧ nO_ k_ (.slice Ao30 t194.length co30)) ∧ nO_ k_ (.slice Ao36 y199.length co36))) (n := t205.length) (c := co41) ?_).2.2; exact (by (with_reducible repeat (first | apply Kd.S_alloc | apply Kd.S_drewN | apply Kd.S_drew)); exact (Kd.S_mono (Kd.S_far (p := ⟨gb209, 0, none⟩) (Kd.S_types HO207.out BK209.out (by decide)) (fun _ hk => hk.2) (.slice Ao41 t205.length co41)) (fun _ h_ => h_.1)))); (case side2 => exact (Kd.S_reads' HO207.out).2.1); (case side3 => exact Kd.C_below HR0_0.out (pH_ HB.out)); (case side4 => exact HC0_0.out); rintro e w58 ⟨rfl, hb⟩; have n0_ := Aside0.mk (Kd.S_below (by (with_reducible repeat (first | apply Kd.S_alloc | apply Kd.S_drewN | apply Kd.S_drew)); exact (Kd.S_mono (Kd.S_far (p := ⟨gb209, 0, none⟩) (Kd.S_types HO196.out BK209.out (by decide)) (fun _ hk => hk.2) (.slice Ao41 t205.length co41)) (fun _ h_ => h_.1))) hb); have n1_ := Aside0.mk (Kd.R_below (by (with_reducible repeat (first | apply rA_ | apply rN_ | apply rD_)); exact (Kd.R_mono (Kd.R_far (p := ⟨gb209, 0, none⟩) (Kd.R_types HO201.out BK209.out (by decide)) (fun _ hk => hk.2) (.slice Ao41 t205.length co41)) (fun _ h_ => h_.1))) hb); have n2_ := Aside0.mk (Kd.S_below (by (with_reducible repeat (first | apply Kd.S_alloc | apply Kd.S_drewN | apply Kd.S_drew)); exact (Kd.S_mono (Kd.S_far (p := ⟨gb209, 0, none⟩) (Kd.S_types HO207.out BK209.out (by decide)) (fun _ hk => hk.2) (.slice Ao41 t205.length co41)) (fun _ h_ => h_.1))) hb); have n3_ := Aside0.mk (blk_below (g := gb192) (o := .cells #[.slice A0_0 l0_0.length c0_0] 24 (0, 0)) (by (with_reducible repeat (first | refine blk_drewN ?_ _ | refine blk_drew ?_ | refine blk_alloc ?_ _)); refine blk_far ?_ NB192_209.out _; (with_reducible repeat (first | refine blk_drewN ?_ _ | refine blk_drew ?_ | refine blk_alloc ?_ _)); exact BK192.out) hb); have n4_ := Aside0.mk (blk_below (g := gb198) (o := .cells #[.slice Ao30 t194.length co30] 24 (0, 0)) (by (with_reducible repeat (first | refine blk_drewN ?_ _ | refine blk_drew ?_ | refine blk_alloc ?_ _)); refine blk_far ?_ NB198_209.out _; (with_reducible repeat (first | refine blk_drewN ?_ _ | refine blk_drew ?_ | refine blk_alloc ?_ _)); exact BK198.out) hb); have n5_ := Aside0.mk (blk_below (g := gb209) (o := .cells #[.slice Ao41 t205.length co41] 24 (0, 0)) (by (with_reducible repeat (first | refine blk_drewN ?_ _ | refine blk_drew ?_ | refine blk_alloc ?_ _)); refine blk_put (cs := #[.slice none 0 0]) ?_ 0 _ rfl; (with_reducible repeat (first | refine blk_drewN ?_ _ | refine blk_drew ?_ | refine blk_alloc ?_ _)); exact BK209.out) hb); have n6_ := Aside0.mk (below_step (pH_ HB.out) hb); clear HO196; clear HO201; clear HO207; clear BK192; clear BK198; clear BK209; clear HB; have HO196 := n0_; have HO201 := n1_; have HO207 := n2_; have BK192 := n3_; have BK198 := n4_; have BK209 := n5_; have HB := n6_; clear n0_ n1_ n2_ n3_ n4_ n5_ n6_; (try clear hb); have hcz59_0 : w58.cell? ⟨gb198, 0, none⟩ = some (.slice Ao30 t194.length co30) := (blk_cell BK198.out 0).trans rfl; have hfz59_0 := blk_frozen BK198.out 0; have hcz60_0 : w58.cell? ⟨gb192, 0, none⟩ = some (.slice A0_0 l0_0.length c0_0) := (blk_cell BK192.out 0).trans rfl; have hfz60_0 := blk_frozen BK192.out 0)); try go_wp2_with (first | (go_at_call 20; (with_reducible refine (squash_Squash.calls 0 t210 _ (tab_bel hT (pH_ HB.out)) A49.out).mono ?_); rintro e w' ⟨rfl, ⟨nd, rfl⟩⟩; (try first | exact ⟨rfl, _, World.drewN_drewN _ _ _⟩ | exact ⟨rfl, _, Eq.trans (World.drewN_drewN _ _ _) (congrArg (World.drewN _) (Nat.add_assoc _ _ _))⟩); have hnb53 := NB209_192.out; have hnc53 := NB192_209.out; have hnb54 := NB209_198.out; have hnc54 := NB198_209.out; have hcz55_0 : w40.cell? ⟨gb209, 0, none⟩ = some (.slice none 0 0) := (blk_cell BK209.out 0).trans rfl; have hfz55_0 := blk_frozen BK209.out 0; have hnb56 := NB192_198.out; have hnc56 := NB198_192.out; have hcz57_0 : w40.cell? ⟨gb192, 0, none⟩ = some (.slice A0_0 l0_0.length c0_0) := (blk_cell BK192.out 0).trans rfl; have hfz57_0 := blk_frozen BK192.out 0) | (go_at_call 15; (with_reducible refine (bitloftref16_Same.calls kj6 _ _ t205 _ _ l0_0 true _ ?side1 ?side2 ?side3 ?side4 A51.out).mono ?_); (case side1 => refine (Kd.S_reads' (e := 25) (base := w.heap.size) (ok := fun k_ => ((True ∧ nO_ k_ (.slice Ao30 t194.length co30)) ∧ nO_ k_ (.slice Ao36 y199.length co36))) (n := t205.length) (c := co41) ?_).2.2; exact (by (with_reducible repeat (first | apply Kd.S_alloc | apply Kd.S_drewN | apply Kd.S_drew)); exact (Kd.S_mono (Kd.S_far (p := ⟨gb209, 0, none⟩) (Kd.S_types HO207.out BK209.out (by decide)) (fun _ hk => hk.2) (.slice Ao41 t205.length co41)) (fun _ h_ => h_.1)))); (case side2 => exact (Kd.S_reads' HO207.out).2.1); (case side3 => exact Kd.C_below HR0_0.out (pH_ HB.out)); (case side4 => exact HC0_0.out); rintro e w58 ⟨rfl, hb⟩; have n0_ := Aside0.mk (Kd.S_below (by (with_reducible repeat (first | apply Kd.S_alloc | apply Kd.S_drewN | apply Kd.S_drew)); exact (Kd.S_mono (Kd.S_far (p := ⟨gb209, 0, none⟩) (Kd.S_types HO196.out BK209.out (by decide)) (fun _ hk => hk.2) (.slice Ao41 t205.length co41)) (fun _ h_ => h_.1))) hb); have n1_ := Aside0.mk (Kd.R_below (by (with_reducible repeat (first | apply rA_ | apply rN_ | apply rD_)); exact (Kd.R_mono (Kd.R_far (p := ⟨gb209, 0, none⟩) (Kd.R_types HO201.out BK209.out (by decide)) (fun _ hk => hk.2) (.slice Ao41 t205.length co41)) (fun _ h_ => h_.1))) hb); have n2_ := Aside0.mk (Kd.S_below (by (with_reducible repeat (first | apply Kd.S_alloc | apply Kd.S_drewN | apply Kd.S_drew)); exact (Kd.S_mono (Kd.S_far (p := ⟨gb209, 0, none⟩) (Kd.S_types HO207.out BK209.out (by decide)) (fun _ hk => hk.2) (.slice Ao41 t205.length co41)) (fun _ h_ => h_.1))) hb); have n3_ := Aside0.mk (blk_below (g := gb192) (o := .cells #[.slice A0_0 l0_0.length c0_0] 24 (0, 0)) (by (with_reducible repeat (first | refine blk_drewN ?_ _ | refine blk_drew ?_ | refine blk_alloc ?_ _)); refine blk_far ?_ NB192_209.out _; (with_reducible repeat (first | refine blk_drewN ?_ _ | refine blk_drew ?_ | refine blk_alloc ?_ _)); exact BK192.out) hb); have n4_ := Aside0.mk (blk_below (g := gb198) (o := .cells #[.slice Ao30 t194.length co30] 24 (0, 0)) (by (with_reducible repeat (first | refine blk_drewN ?_ _ | refine blk_drew ?_ | refine blk_alloc ?_ _)); refine blk_far ?_ NB198_209.out _; (with_reducible repeat (first | refine blk_drewN ?_ _ | refine blk_drew ?_ | refine blk_alloc ?_ _)); exact BK198.out) hb); have n5_ := Aside0.mk (blk_below (g := gb209) (o := .cells #[.slice Ao41 t205.length co41] 24 (0, 0)) (by (with_reducible repeat (first | refine blk_drewN ?_ _ | refine blk_drew ?_ | refine blk_alloc ?_ _)); refine blk_put (cs := #[.slice none 0 0]) ?_ 0 _ rfl; (with_reducible repeat (first | refine blk_drewN ?_ _ | refine blk_drew ?_ | refine blk_alloc ?_ _)); exact BK209.out) hb); have n6_ := Aside0.mk (below_step (pH_ HB.out) hb); clear HO196; clear HO201; clear HO207; clear BK192; clear BK198; clear BK209; clear HB; have HO196 := n0_; have HO201 := n1_; have HO207 := n2_; have BK192 := n3_; have BK198 := n4_; have BK209 := n5_; have HB := n6_; clear n0_ n1_ n2_ n3_ n4_ n5_ n6_; (try clear hb); have hcz59_0 : w58.cell? ⟨gb198, 0, none⟩ = some (.slice Ao30 t194.length co30) := (blk_cell BK198.out 0).trans rfl; have hfz59_0 := blk_frozen BK198.out 0; have hcz60_0 : w58.cell? ⟨gb192, 0, none⟩ = some (.slice A0_0 l0_0.length c0_0) := (blk_cell BK192.out 0).trans rfl; have hfz60_0 := blk_frozen BK192.out 0)))
           (first | go_meet | (refine Met.intro ?_; go_step; (repeat apply Exists.intro); refine ⟨?rel, ?eqf_⟩; case eqf_ => ((simp only [c50b0, c48b0, c47b0, c46b0, c45b0]) <;> rfl)))
           case rel => exact ⟨_, (((t194.length : Int) != (l0_0.length : Int))), (by first | rfl | (simp; done) | (simp [*]; done)), H', ⟨by have := HJ6.out; first | omega | exact Nat.le_refl _⟩, ⟨by (with_reducible repeat (first | apply Kd.S_alloc | apply Kd.S_drewN | apply Kd.S_drew)); exact Kd.S_mono HO196.out (fun _ hk => hk.2)⟩, ⟨by (with_reducible repeat (first | apply Kd.S_alloc | apply Kd.S_drewN | apply Kd.S_drew)); exact Kd.S_mono HO207.out (fun _ hk => hk.1.2)⟩, ⟨pG_ BK192.out⟩, ⟨pG_ BK198.out⟩, ⟨pG_ BK209.out⟩, ⟨pH_ HB.out⟩⟩
          ·
           replace c52 := Bool.eq_false_iff.mpr c52
           subst c52
           have H1 : (bitloftlaw16_MixerApart.j1 kj6 a1 l2 true l0_0 t194) = some r := by rw [if_neg (show ¬ (false = true) by decide)] at H; exact H
           clear H; have H := H1; clear H1; exact absurd (H.trans (congrArg some HRT_.out)) (by first | (simp; done) | (generalize kj6 = k_; cases k_ <;> simp [bitloftlaw16_MixerApart.j0, bitloftlaw16_MixerApart.j1, bitloftlaw16_MixerApart.l0, bitloftlaw16_MixerApart.j3, bitloftlaw16_MixerApart.l1, bitloftlaw16_MixerApart.j5]))
         ·
          rw [if_neg c50] at H; have c50b0 : (t203 == t210) = false := beq_eq_false_iff_ne.mpr c50; have c50b1 : (t203 != t210) = true := bne_iff_ne.mpr c50; exact absurd (H.trans (congrArg some HRT_.out)) (by first | (simp; done) | (generalize kj6 = k_; cases k_ <;> simp [bitloftlaw16_MixerApart.j0, bitloftlaw16_MixerApart.j1, bitloftlaw16_MixerApart.l0, bitloftlaw16_MixerApart.j3, bitloftlaw16_MixerApart.l1, bitloftlaw16_MixerApart.j5]))
        ·
         rw [if_neg c48] at H; have c48b0 : (t202 == 0) = false := beq_eq_false_iff_ne.mpr c48; have c48b1 : (t202 != 0) = true := bne_iff_ne.mpr c48; exact absurd (H.trans (congrArg some HRT_.out)) (by first | (simp; done) | (generalize kj6 = k_; cases k_ <;> simp [bitloftlaw16_MixerApart.j0, bitloftlaw16_MixerApart.j1, bitloftlaw16_MixerApart.l0, bitloftlaw16_MixerApart.j3, bitloftlaw16_MixerApart.l1, bitloftlaw16_MixerApart.j5]))
       ·
        rw [if_neg c47] at H; have c47b0 : (t208 == 0) = false := beq_eq_false_iff_ne.mpr c47; have c47b1 : (t208 != 0) = true := bne_iff_ne.mpr c47; exact absurd (H.trans (congrArg some HRT_.out)) (by first | (simp; done) | (generalize kj6 = k_; cases k_ <;> simp [bitloftlaw16_MixerApart.j0, bitloftlaw16_MixerApart.j1, bitloftlaw16_MixerApart.l0, bitloftlaw16_MixerApart.j3, bitloftlaw16_MixerApart.l1, bitloftlaw16_MixerApart.j5]))
      ·
       rw [if_neg c46] at H; have c46b0 : (t204 == 0) = false := beq_eq_false_iff_ne.mpr c46; have c46b1 : (t204 != 0) = true := bne_iff_ne.mpr c46; exact absurd (H.trans (congrArg some HRT_.out)) (by first | (simp; done) | (generalize kj6 = k_; cases k_ <;> simp [bitloftlaw16_MixerApart.j0, bitloftlaw16_MixerApart.j1, bitloftlaw16_MixerApart.l0, bitloftlaw16_MixerApart.j3, bitloftlaw16_MixerApart.l1, bitloftlaw16_MixerApart.j5]))
     ·
      rw [if_neg c45] at H; have c45b0 : (t197 == 0) = false := beq_eq_false_iff_ne.mpr c45; have c45b1 : (t197 != 0) = true := bne_iff_ne.mpr c45; (first | rw [c45b0] | (simp only [i64_w, i32_w]; rw [c45b0]) | skip); exact absurd (H.trans (congrArg some HRT_.out)) (by first | (simp; done) | (generalize kj6 = k_; cases k_ <;> simp [bitloftlaw16_MixerApart.j0, bitloftlaw16_MixerApart.j1, bitloftlaw16_MixerApart.l0, bitloftlaw16_MixerApart.j3, bitloftlaw16_MixerApart.l1, bitloftlaw16_MixerApart.j5]))
    case rest =>
     (try (refine hKt_ _ _ ?_; clear hKt_; clear Kt_)); clear HC26
     try clear c1
     try clear c2
     try clear p2
     try clear c3
     try clear c4
     try clear c5
     try clear c6
     try clear c11
     try clear c12
     try clear c12b0
     try clear c15
     try clear c15b0
     try clear c22
     try clear c31
     try clear c42
     try clear c43
     try clear c45
     try clear c45b0
     try clear c45b1
     try clear c46
     try clear c46b0
     try clear c46b1
     try clear c47
     try clear c47b0
     try clear c47b1
     try clear c48
     try clear c48b0
     try clear c48b1
     try clear c50
     try clear c50b0
     try clear c50b1
     try clear c52
     try clear c53
     try clear c54
     try clear c56
     try clear hcz13_0
     try clear hcz16_0
     try clear hcz18_0
     try clear hcz20_0
     try clear hcz27_0
     try clear hcz32_0
     try clear hcz35_0
     try clear hcz38_0
     try clear hcz44_0
     try clear hcz55_0
     try clear hcz57_0
     try clear hcz59_0
     try clear hcz60_0
     try clear hfz13_0
     try clear hfz16_0
     try clear hfz18_0
     try clear hfz20_0
     try clear hfz27_0
     try clear hfz32_0
     try clear hfz35_0
     try clear hfz38_0
     try clear hfz44_0
     try clear hfz55_0
     try clear hfz57_0
     try clear hfz59_0
     try clear hfz60_0
     try clear p2
     obtain ⟨kq, x101_25, rfl, HA, HJ25, HO_199000, HO_210000, BK192, BK198, BK209, HB⟩ := hcut
     cases kq with
     | zero => exact absurd HA.out (by simp [bitloftlaw16_MixerApart.j1])
     | succ kj25 =>
      have H := HA.out; clear HA; simp only [bitloftlaw16_MixerApart.j1] at H
      by_cases c61 : x101_25 = true
      ·
       subst c61
       have H1 : (some false) = some r := by rw [if_pos rfl] at H; exact H
       clear H; have H := H1; clear H1; exact absurd (H.trans (congrArg some HRT_.out)) (by simp)
      ·
       replace c61 := Bool.eq_false_iff.mpr c61
       subst c61
       have H1 : (bitloftlaw16_MixerApart.l0 kj25 a1 l2 0 l0_0 t194) = some r := by rw [if_neg (show ¬ (false = true) by decide)] at H; exact H
       clear H; have H := H1; clear H1; have H' := Aside0.mk H; clear H
       go_wp2
       repeat (go_quiet (fail); try go_wp2)
       go_loopg [20] kj25 (fun kq v20 w' => ∃ (x20_3 : Int), v20 = .int .i64 x20_3 ∧ Aside0 (bitloftlaw16_MixerApart.l0 kq a1 l2 x20_3 l0_0 t194 = some r) ∧ Aside0 (kq ≤ kj25) ∧ Aside0 (Kd.S (Kd.slice 21 (Kd.int .i32)) 25 w' w.heap.size (fun k_ => some k_ ≠ ((.slice Ao41 t205.length co41) : Value).ownBlock) (.slice Ao30 t194.length co30) t194) ∧ Aside0 (Kd.S (Kd.slice 21 (Kd.int .i32)) 25 w' w.heap.size (fun k_ => some k_ ≠ ((.slice Ao30 t194.length co30) : Value).ownBlock) (.slice Ao41 t205.length co41) t205) ∧ Aside0 (w'.heap[gb192]? = some (.cells #[(.slice A0_0 l0_0.length c0_0)] 24 (0, 0))) ∧ Aside0 (w'.heap[gb198]? = some (.cells #[(.slice Ao30 t194.length co30)] 24 (0, 0))) ∧ Aside0 (w'.heap[gb209]? = some (.cells #[(.slice Ao41 t205.length co41)] 24 (0, 0))) ∧ Aside0 (Below w.heap.size w w'))
       case atStart => exact ⟨(0), (by first | rfl | (simp; done) | (simp [*]; done)), H', ⟨Nat.le_refl _⟩, ⟨by (with_reducible repeat (first | apply Kd.S_alloc | apply Kd.S_drewN | apply Kd.S_drew)); exact HO_199000.out⟩, ⟨by (with_reducible repeat (first | apply Kd.S_alloc | apply Kd.S_drewN | apply Kd.S_drew)); exact HO_210000.out⟩, ⟨pG_ BK192.out⟩, ⟨pG_ BK198.out⟩, ⟨pG_ BK209.out⟩, ⟨pH_ HB.out⟩⟩
       case round =>
        clear H'
        try clear c1
        try clear c2
        try clear p2
        try clear c3
        try clear c4
        try clear c5
        try clear c6
        try clear c11
        try clear c12
        try clear c12b0
        try clear c15
        try clear c15b0
        try clear c22
        try clear c31
        try clear c42
        try clear c43
        try clear c45
        try clear c45b0
        try clear c45b1
        try clear c46
        try clear c46b0
        try clear c46b1
        try clear c47
        try clear c47b0
        try clear c47b1
        try clear c48
        try clear c48b0
        try clear c48b1
        try clear c50
        try clear c50b0
        try clear c50b1
        try clear c52
        try clear c53
        try clear c54
        try clear c56
        try clear c61
        try clear hcz13_0
        try clear hcz16_0
        try clear hcz18_0
        try clear hcz20_0
        try clear hcz27_0
        try clear hcz32_0
        try clear hcz35_0
        try clear hcz38_0
        try clear hcz44_0
        try clear hcz55_0
        try clear hcz57_0
        try clear hcz59_0
        try clear hcz60_0
        try clear hfz13_0
        try clear hfz16_0
        try clear hfz18_0
        try clear hfz20_0
        try clear hfz27_0
        try clear hfz32_0
        try clear hfz35_0
        try clear hfz38_0
        try clear hfz44_0
        try clear hfz55_0
        try clear hfz57_0
        try clear hfz59_0
        try clear hfz60_0
        try clear p2
        obtain ⟨x20_3, rfl, HA, HK3, HO_199000, HO_210000, BK192, BK198, BK209, HB⟩ := hrel
        cases gk with
        | zero => exact absurd HA.out (by simp [bitloftlaw16_MixerApart.l0])
        | succ k3 =>
         have H := HA.out; clear HA; simp only [bitloftlaw16_MixerApart.l0] at H
         by_cases c62 : x20_3 < (l0_0.length : Int)
         ·
          rw [if_pos c62] at H; have c62b0 : decide (x20_3 < (l0_0.length : Int)) = true := decide_eq_true c62; clear c62; have HC63 := Aside0.mk H; clear H; have hnb64 := NB192_198.out; have hnc64 := NB198_192.out; have hnb65 := NB192_209.out; have hnc65 := NB209_192.out; have hcz66_0 : wr.cell? ⟨gb192, 0, none⟩ = some (.slice A0_0 l0_0.length c0_0) := (blk_cell BK192.out 0).trans rfl; have hfz66_0 := blk_frozen BK192.out 0
          go_upto_region 13 with (fail)
          repeat (go_quiet (fail); go_upto_region 13 with (fail))
          (with_reducible first | refine then_id_ ?_ | (refine wp_tail_ ?_; intro Kt_ hKt_))
          go_cut [134] (fun v134 wc => ∃ (kq : Nat) (x134_62 : Bool), v134 = .bool x134_62 ∧ Aside0 (bitloftlaw16_MixerApart.j3 kq a1 l2 x20_3 x134_62 l0_0 t194 = some r) ∧ Aside0 (kq ≤ k3) ∧ Aside0 (Kd.S (Kd.slice 21 (Kd.int .i32)) 25 wc w.heap.size (fun k_ => some k_ ≠ ((.slice Ao41 t205.length co41) : Value).ownBlock) (.slice Ao30 t194.length co30) t194) ∧ Aside0 (Kd.S (Kd.slice 21 (Kd.int .i32)) 25 wc w.heap.size (fun k_ => some k_ ≠ ((.slice Ao30 t194.length co30) : Value).ownBlock) (.slice Ao41 t205.length co41) t205) ∧ Aside0 (wc.heap[gb192]? = some (.cells #[(.slice A0_0 l0_0.length c0_0)] 24 (0, 0))) ∧ Aside0 (wc.heap[gb198]? = some (.cells #[(.slice Ao30 t194.length co30)] 24 (0, 0))) ∧ Aside0 (wc.heap[gb209]? = some (.cells #[(.slice Ao41 t205.length co41)] 24 (0, 0))) ∧ Aside0 (Below w.heap.size w wc))
          case first =>
           have H := HC63.out; clear HC63
           by_cases c67 : x20_3 = a1
           ·
            rw [if_pos c67] at H; have c67b0 : (x20_3 == a1) = true := beq_iff_eq.mpr c67; have c67b1 : (x20_3 != a1) = false := bne_eq_false_iff_eq.mpr c67; clear c67; (first | rw [c67b0] | (simp only [i64_w, i32_w]; rw [c67b0]) | skip)
            by_cases c68 : 0 ≤ x20_3
            ·
             rw [if_pos c68] at H; have c68b0 : decide (0 ≤ x20_3) = true := decide_eq_true c68; clear c68
             by_cases c69 : x20_3 < (t194.length : Int)
             ·
              rw [if_pos c69] at H; have c69b0 : decide (x20_3 < (t194.length : Int)) = true := decide_eq_true c69; clear c69; have H' := Aside0.mk H; clear H; have hnb70 := NB198_192.out; have hnc70 := NB192_198.out; have hnb71 := NB198_209.out; have hnc71 := NB209_198.out; have hcz72_0 : wr.cell? ⟨gb198, 0, none⟩ = some (.slice Ao30 t194.length co30) := (blk_cell BK198.out 0).trans rfl; have hfz72_0 := blk_frozen BK198.out 0; have p212 : 0 ≤ (x20_3 : Int) := of_decide_eq_true (by first | (with_reducible assumption) | assumption); have q212 : x20_3 < (t194.length : Int) := of_decide_eq_true (by first | (with_reducible assumption) | assumption); obtain ⟨ad212, A212_0, c212_0, e212, hx212_0, hl212_0, hi212_0⟩ := at_L1 (Kd.S_reads' HO_199000.out).2.2 x20_3 p212 q212
              cases e212
              obtain ⟨ce212, hce212, hMe212, hcc212⟩ := Kd.S_get HO_199000.out [] x20_3 p212 (by first | exact q212 | exact of_decide_eq_true (by first | (with_reducible assumption) | assumption) | (have e_ := (Kd.S_reads' HO_199000.out).1; omega)); obtain ⟨ve212_0, rfl, ge212_0⟩ := hMe212; have hv212_0 := hcc212 0 _ rfl; rw [Nat.add_zero, show ((Kd.slice 21 (Kd.int .i32))).sz = 1 from rfl, Nat.mul_one] at hv212_0; replace hv212_0 := Option.some.inj (hv212_0.symm.trans hx212_0); rw [hv212_0] at ge212_0; have HL212_0 := Aside0.mk (show Kd.R (Kd.int .i32) 21 _ _ _ _ (rd_L1 t194 x20_3) from ge212_0); clear hv212_0 ge212_0; clear hcc212 hce212; have HR212_0 := Aside0.mk hi212_0; have HC212_0 := Aside0.mk hl212_0; clear hi212_0 hl212_0; replace p212 := eq_true p212; replace q212 := eq_true q212
              go_wp2
              repeat (go_quiet (fail); try go_wp2)
              (first | go_meet | (refine Met.intro ?_; go_step; (repeat apply Exists.intro); refine ⟨?rel, ?eqf_⟩; case eqf_ => ((simp only [c69b0, c68b0, c67b0, c62b0]) <;> rfl)))
              case rel => exact ⟨_, ((((rd_L1 t194 x20_3).length : Int) != 8)), (by first | rfl | (simp; done) | (simp [*]; done)), H', ⟨by have := HJ6.out; have := HJ25.out; have := HK3.out; first | omega | exact Nat.le_refl _⟩, ⟨by (with_reducible repeat (first | apply Kd.S_alloc | apply Kd.S_drewN | apply Kd.S_drew)); exact HO_199000.out⟩, ⟨by (with_reducible repeat (first | apply Kd.S_alloc | apply Kd.S_drewN | apply Kd.S_drew)); exact HO_210000.out⟩, ⟨pG_ BK192.out⟩, ⟨pG_ BK198.out⟩, ⟨pG_ BK209.out⟩, ⟨pH_ HB.out⟩⟩
             ·
              rw [if_neg c69] at H; exact absurd H (by simp)
            ·
             rw [if_neg c68] at H; exact absurd H (by simp)
           ·
            rw [if_neg c67] at H; have c67b0 : (x20_3 == a1) = false := beq_eq_false_iff_ne.mpr c67; have c67b1 : (x20_3 != a1) = true := bne_iff_ne.mpr c67; (first | rw [c67b0] | (simp only [i64_w, i32_w]; rw [c67b0]) | skip)
            by_cases c73 : 0 ≤ x20_3
            ·
             rw [if_pos c73] at H; have c73b0 : decide (0 ≤ x20_3) = true := decide_eq_true c73; clear c73
             by_cases c74 : x20_3 < (t194.length : Int)
             ·
              rw [if_pos c74] at H; have c74b0 : decide (x20_3 < (t194.length : Int)) = true := decide_eq_true c74; clear c74; replace H := Option.bind_eq_some_iff.mp H; obtain ⟨t215, A750, H⟩ := H; replace H : (if t215 = true then (bitloftlaw16_MixerApart.j3 k3 a1 l2 x20_3 (((rd_L1 t194 x20_3).length : Int) != 8) l0_0 t194) else (bitloftlaw16_MixerApart.j3 k3 a1 l2 x20_3 true l0_0 t194)) = some r := H; have A75 := Aside0.mk A750; clear A750
              by_cases c76 : t215 = true
              ·
               subst c76
               have H1 : (bitloftlaw16_MixerApart.j3 k3 a1 l2 x20_3 (((rd_L1 t194 x20_3).length : Int) != 8) l0_0 t194) = some r := by rw [if_pos rfl] at H; exact H
               clear H; have H := H1; clear H1; have H' := Aside0.mk H; clear H; have hnb77 := NB198_192.out; have hnc77 := NB192_198.out; have hnb78 := NB198_209.out; have hnc78 := NB209_198.out; have hcz79_0 : wr.cell? ⟨gb198, 0, none⟩ = some (.slice Ao30 t194.length co30) := (blk_cell BK198.out 0).trans rfl; have hfz79_0 := blk_frozen BK198.out 0; have p213 : 0 ≤ (x20_3 : Int) := of_decide_eq_true (by first | (with_reducible assumption) | assumption); have q213 : x20_3 < (t194.length : Int) := of_decide_eq_true (by first | (with_reducible assumption) | assumption); obtain ⟨ad213, A213_0, c213_0, e213, hx213_0, hl213_0, hi213_0⟩ := at_L1 (Kd.S_reads' HO_199000.out).2.2 x20_3 p213 q213
               cases e213
               obtain ⟨ce213, hce213, hMe213, hcc213⟩ := Kd.S_get HO_199000.out [] x20_3 p213 (by first | exact q213 | exact of_decide_eq_true (by first | (with_reducible assumption) | assumption) | (have e_ := (Kd.S_reads' HO_199000.out).1; omega)); obtain ⟨ve213_0, rfl, ge213_0⟩ := hMe213; have hv213_0 := hcc213 0 _ rfl; rw [Nat.add_zero, show ((Kd.slice 21 (Kd.int .i32))).sz = 1 from rfl, Nat.mul_one] at hv213_0; replace hv213_0 := Option.some.inj (hv213_0.symm.trans hx213_0); rw [hv213_0] at ge213_0; have HL213_0 := Aside0.mk (show Kd.R (Kd.int .i32) 21 _ _ _ _ (rd_L1 t194 x20_3) from ge213_0); clear hv213_0 ge213_0; clear hcc213 hce213; have HR213_0 := Aside0.mk hi213_0; have HC213_0 := Aside0.mk hl213_0; clear hi213_0 hl213_0; replace p213 := eq_true p213; replace q213 := eq_true q213; have hnb80 := NB192_209.out; have hnc80 := NB209_192.out; have hcz81_0 : wr.cell? ⟨gb192, 0, none⟩ = some (.slice A0_0 l0_0.length c0_0) := (blk_cell BK192.out 0).trans rfl; have hfz81_0 := blk_frozen BK192.out 0; have p214 : 0 ≤ (x20_3 : Int) := of_decide_eq_true (by first | (with_reducible assumption) | assumption); have q214 : x20_3 < (l0_0.length : Int) := of_decide_eq_true (by first | (with_reducible assumption) | assumption); obtain ⟨ad214, A214_0, c214_0, e214, hx214_0, hl214_0, hi214_0⟩ := at_L1 HR0_0.out x20_3 p214 q214
               cases e214
               replace hx214_0 := (HB.out.cell (World.block_lt_of_cell? w _ hx214_0)).trans hx214_0; have HR214_0 := Aside0.mk hi214_0; have HC214_0 := Aside0.mk hl214_0; clear hi214_0 hl214_0; replace p214 := eq_true p214; replace q214 := eq_true q214
               go_wp2_with (first | (go_at_call 22; (with_reducible refine (bitloftref16_SameRow.calls k3 _ _ (rd_L1 t194 x20_3) _ _ (rd_L1 l0_0 x20_3) true _ ?side1 ?side2 ?side3 ?side4 A75.out).mono ?_); (case side1 => repeat (first | exact (by repeat (first | (with_reducible exact HR213_0.out) | (with_reducible refine Kd.C_alloc ?_ _) | (with_reducible refine Kd.C_drewN ?_ _) | (with_reducible refine Kd.C_drew ?_) | exact HR213_0.out)) | (with_reducible refine Kd.C_alloc ?_ _) | (with_reducible refine Kd.C_drewN ?_ _) | (with_reducible refine Kd.C_drew ?_))); (case side2 => exact HC213_0.out); (case side3 => repeat (first | exact (Kd.C_below HR214_0.out HB.out) | (with_reducible refine Kd.C_alloc ?_ _) | (with_reducible refine Kd.C_drewN ?_ _) | (with_reducible refine Kd.C_drew ?_))); (case side4 => exact HC214_0.out); rintro e w' ⟨rfl, ⟨nd, rfl⟩⟩; (try first | exact ⟨rfl, _, World.drewN_drewN _ _ _⟩ | exact ⟨rfl, _, Eq.trans (World.drewN_drewN _ _ _) (congrArg (World.drewN _) (Nat.add_assoc _ _ _))⟩); have p216 : 0 ≤ (x20_3 : Int) := of_decide_eq_true (by first | (with_reducible assumption) | assumption); have q216 : x20_3 < (t194.length : Int) := of_decide_eq_true (by first | (with_reducible assumption) | assumption); obtain ⟨ad216, A216_0, c216_0, e216, hx216_0, hl216_0, hi216_0⟩ := at_L1 (Kd.S_reads' HO_199000.out).2.2 x20_3 p216 q216; obtain rfl : ad213 = ad216 := (by injection e216); obtain ⟨ce216, hce216, hMe216, hcc216⟩ := Kd.S_get HO_199000.out [] x20_3 p216 (by first | exact q216 | exact of_decide_eq_true (by first | (with_reducible assumption) | assumption) | (have e_ := (Kd.S_reads' HO_199000.out).1; omega)); obtain ⟨ve216_0, rfl, ge216_0⟩ := hMe216; have hv216_0 := hcc216 0 _ rfl; rw [Nat.add_zero, show ((Kd.slice 21 (Kd.int .i32))).sz = 1 from rfl, Nat.mul_one] at hv216_0; replace hv216_0 := Option.some.inj (hv216_0.symm.trans hx216_0); rw [hv216_0] at ge216_0; have HL216_0 := Aside0.mk (show Kd.R (Kd.int .i32) 21 _ _ _ _ (rd_L1 t194 x20_3) from ge216_0); clear hv216_0 ge216_0; clear hcc216 hce216; have HR216_0 := Aside0.mk hi216_0; have HC216_0 := Aside0.mk hl216_0; clear hi216_0 hl216_0; replace p216 := eq_true p216; replace q216 := eq_true q216; have ea_ := Option.some.inj (hx213_0.symm.trans hx216_0); injection ea_ with ea_ en_ ec_; subst ea_; subst ec_; clear en_))
               repeat (go_quiet (first | (go_at_call 22; (with_reducible refine (bitloftref16_SameRow.calls k3 _ _ (rd_L1 t194 x20_3) _ _ (rd_L1 l0_0 x20_3) true _ ?side1 ?side2 ?side3 ?side4 A75.out).mono ?_); (case side1 => repeat (first | exact (by repeat (first | (with_reducible exact HR213_0.out) | (with_reducible refine Kd.C_alloc ?_ _) | (with_reducible refine Kd.C_drewN ?_ _) | (with_reducible refine Kd.C_drew ?_) | exact HR213_0.out)) | (with_reducible refine Kd.C_alloc ?_ _) | (with_reducible refine Kd.C_drewN ?_ _) | (with_reducible refine Kd.C_drew ?_))); (case side2 => exact HC213_0.out); (case side3 => repeat (first | exact (Kd.C_below HR214_0.out HB.out) | (with_reducible refine Kd.C_alloc ?_ _) | (with_reducible refine Kd.C_drewN ?_ _) | (with_reducible refine Kd.C_drew ?_))); (case side4 => exact HC214_0.out); rintro e w' ⟨rfl, ⟨nd, rfl⟩⟩; (try first | exact ⟨rfl, _, World.drewN_drewN _ _ _⟩ | exact ⟨rfl, _, Eq.trans (World.drewN_drewN _ _ _) (congrArg (World.drewN _) (Nat.add_assoc _ _ _))⟩); have p216 : 0 ≤ (x20_3 : Int) := of_decide_eq_true (by first | (with_reducible assumption) | assumption); have q216 : x20_3 < (t194.length : Int) := of_decide_eq_true (by first | (with_reducible assumption) | assumption); obtain ⟨ad216, A216_0, c216_0, e216, hx216_0, hl216_0, hi216_0⟩ := at_L1 (Kd.S_reads' HO_199000.out).2.2 x20_3 p216 q216; obtain rfl : ad213 = ad216 := (by injection e216); obtain ⟨ce216, hce216, hMe216, hcc216⟩ := Kd.S_get HO_199000.out [] x20_3 p216 (by first | exact q216 | exact of_decide_eq_true (by first | (with_reducible assumption) | assumption) | (have e_ := (Kd.S_reads' HO_199000.out).1; omega)); obtain ⟨ve216_0, rfl, ge216_0⟩ := hMe216; have hv216_0 := hcc216 0 _ rfl; rw [Nat.add_zero, show ((Kd.slice 21 (Kd.int .i32))).sz = 1 from rfl, Nat.mul_one] at hv216_0; replace hv216_0 := Option.some.inj (hv216_0.symm.trans hx216_0); rw [hv216_0] at ge216_0; have HL216_0 := Aside0.mk (show Kd.R (Kd.int .i32) 21 _ _ _ _ (rd_L1 t194 x20_3) from ge216_0); clear hv216_0 ge216_0; clear hcc216 hce216; have HR216_0 := Aside0.mk hi216_0; have HC216_0 := Aside0.mk hl216_0; clear hi216_0 hl216_0; replace p216 := eq_true p216; replace q216 := eq_true q216; have ea_ := Option.some.inj (hx213_0.symm.trans hx216_0); injection ea_ with ea_ en_ ec_; subst ea_; subst ec_; clear en_)); try go_wp2_with (first | (go_at_call 22; (with_reducible refine (bitloftref16_SameRow.calls k3 _ _ (rd_L1 t194 x20_3) _ _ (rd_L1 l0_0 x20_3) true _ ?side1 ?side2 ?side3 ?side4 A75.out).mono ?_); (case side1 => repeat (first | exact (by repeat (first | (with_reducible exact HR213_0.out) | (with_reducible refine Kd.C_alloc ?_ _) | (with_reducible refine Kd.C_drewN ?_ _) | (with_reducible refine Kd.C_drew ?_) | exact HR213_0.out)) | (with_reducible refine Kd.C_alloc ?_ _) | (with_reducible refine Kd.C_drewN ?_ _) | (with_reducible refine Kd.C_drew ?_))); (case side2 => exact HC213_0.out); (case side3 => repeat (first | exact (Kd.C_below HR214_0.out HB.out) | (with_reducible refine Kd.C_alloc ?_ _) | (with_reducible refine Kd.C_drewN ?_ _) | (with_reducible refine Kd.C_drew ?_))); (case side4 => exact HC214_0.out); rintro e w' ⟨rfl, ⟨nd, rfl⟩⟩; (try first | exact ⟨rfl, _, World.drewN_drewN _ _ _⟩ | exact ⟨rfl, _, Eq.trans (World.drewN_drewN _ _ _) (congrArg (World.drewN _) (Nat.add_assoc _ _ _))⟩); have p216 : 0 ≤ (x20_3 : Int) := of_decide_eq_true (by first | (with_reducible assumption) | assumption); have q216 : x20_3 < (t194.length : Int) := of_decide_eq_true (by first | (with_reducible assumption) | assumption); obtain ⟨ad216, A216_0, c216_0, e216, hx216_0, hl216_0, hi216_0⟩ := at_L1 (Kd.S_reads' HO_199000.out).2.2 x20_3 p216 q216; obtain rfl : ad213 = ad216 := (by injection e216); obtain ⟨ce216, hce216, hMe216, hcc216⟩ := Kd.S_get HO_199000.out [] x20_3 p216 (by first | exact q216 | exact of_decide_eq_true (by first | (with_reducible assumption) | assumption) | (have e_ := (Kd.S_reads' HO_199000.out).1; omega)); obtain ⟨ve216_0, rfl, ge216_0⟩ := hMe216; have hv216_0 := hcc216 0 _ rfl; rw [Nat.add_zero, show ((Kd.slice 21 (Kd.int .i32))).sz = 1 from rfl, Nat.mul_one] at hv216_0; replace hv216_0 := Option.some.inj (hv216_0.symm.trans hx216_0); rw [hv216_0] at ge216_0; have HL216_0 := Aside0.mk (show Kd.R (Kd.int .i32) 21 _ _ _ _ (rd_L1 t194 x20_3) from ge216_0); clear hv216_0 ge216_0; clear hcc216 hce216; have HR216_0 := Aside0.mk hi216_0; have HC216_0 := Aside0.mk hl216_0; clear hi216_0 hl216_0; replace p216 := eq_true p216; replace q216 := eq_true q216; have ea_ := Option.some.inj (hx213_0.symm.trans hx216_0); injection ea_ with ea_ en_ ec_; subst ea_; subst ec_; clear en_)))
               (first | go_meet | (refine Met.intro ?_; go_step; (repeat apply Exists.intro); refine ⟨?rel, ?eqf_⟩; case eqf_ => ((simp only [c74b0, c73b0, c67b0, c62b0]) <;> rfl)))
               case rel => exact ⟨_, ((((rd_L1 t194 x20_3).length : Int) != 8)), (by first | rfl | (simp; done) | (simp [*]; done)), H', ⟨by have := HJ6.out; have := HJ25.out; have := HK3.out; first | omega | exact Nat.le_refl _⟩, ⟨by (with_reducible repeat (first | apply Kd.S_alloc | apply Kd.S_drewN | apply Kd.S_drew)); exact HO_199000.out⟩, ⟨by (with_reducible repeat (first | apply Kd.S_alloc | apply Kd.S_drewN | apply Kd.S_drew)); exact HO_210000.out⟩, ⟨pG_ BK192.out⟩, ⟨pG_ BK198.out⟩, ⟨pG_ BK209.out⟩, ⟨pH_ HB.out⟩⟩
              ·
               replace c76 := Bool.eq_false_iff.mpr c76
               subst c76
               have H1 : (bitloftlaw16_MixerApart.j3 k3 a1 l2 x20_3 true l0_0 t194) = some r := by rw [if_neg (show ¬ (false = true) by decide)] at H; exact H
               clear H; have H := H1; clear H1; exact absurd (H.trans (congrArg some HRT_.out)) (by first | (simp; done) | (generalize k3 = k_; cases k_ <;> simp [bitloftlaw16_MixerApart.j0, bitloftlaw16_MixerApart.j1, bitloftlaw16_MixerApart.l0, bitloftlaw16_MixerApart.j3, bitloftlaw16_MixerApart.l1, bitloftlaw16_MixerApart.j5]))
             ·
              rw [if_neg c74] at H; exact absurd H (by simp)
            ·
             rw [if_neg c73] at H; exact absurd H (by simp)
          case rest =>
           (try (refine hKt_ _ _ ?_; clear hKt_; clear Kt_)); clear HC63
           try clear c1
           try clear c2
           try clear p2
           try clear q2
           try clear hx2
           try clear c3
           try clear c4
           try clear c5
           try clear c6
           try clear c7
           try clear c8
           try clear c11
           try clear c12
           try clear c12b0
           try clear c15
           try clear c15b0
           try clear c21
           try clear p21
           try clear q21
           try clear hx21
           try clear c22
           try clear c31
           try clear c42
           try clear c43
           try clear c45
           try clear c45b0
           try clear c45b1
           try clear c46
           try clear c46b0
           try clear c46b1
           try clear c47
           try clear c47b0
           try clear c47b1
           try clear c48
           try clear c48b0
           try clear c48b1
           try clear c50
           try clear c50b0
           try clear c50b1
           try clear c52
           try clear c53
           try clear c54
           try clear c56
           try clear c61
           try clear c62
           try clear c62b0
           try clear c64
           try clear c65
           try clear c67
           try clear c67b0
           try clear c67b1
           try clear c68
           try clear c68b0
           try clear c69
           try clear c69b0
           try clear c70
           try clear c71
           try clear c73
           try clear c73b0
           try clear c74
           try clear c74b0
           try clear c76
           try clear c77
           try clear c78
           try clear c80
           try clear hcz13_0
           try clear hcz16_0
           try clear hcz18_0
           try clear hcz20_0
           try clear hcz27_0
           try clear hcz32_0
           try clear hcz35_0
           try clear hcz38_0
           try clear hcz44_0
           try clear hcz55_0
           try clear hcz57_0
           try clear hcz59_0
           try clear hcz60_0
           try clear hcz66_0
           try clear hcz72_0
           try clear hcz79_0
           try clear hcz81_0
           try clear hfz13_0
           try clear hfz16_0
           try clear hfz18_0
           try clear hfz20_0
           try clear hfz27_0
           try clear hfz32_0
           try clear hfz35_0
           try clear hfz38_0
           try clear hfz44_0
           try clear hfz55_0
           try clear hfz57_0
           try clear hfz59_0
           try clear hfz60_0
           try clear hfz66_0
           try clear hfz72_0
           try clear hfz79_0
           try clear hfz81_0
           try clear hx212_0
           try clear hx213_0
           try clear hx214_0
           try clear hx216_0
           try clear p2
           try clear p212
           try clear p213
           try clear p214
           try clear p216
           try clear q212
           try clear q213
           try clear q214
           try clear q216
           obtain ⟨kq, x134_62, rfl, HA, HJ62, HO_199000, HO_210000, BK192, BK198, BK209, HB⟩ := hcut
           cases kq with
           | zero => exact absurd HA.out (by simp [bitloftlaw16_MixerApart.j3])
           | succ kj62 =>
            have H := HA.out; clear HA; simp only [bitloftlaw16_MixerApart.j3] at H
            by_cases c82 : x134_62 = true
            ·
             subst c82
             have H1 : (some false) = some r := by rw [if_pos rfl] at H; exact H
             clear H; have H := H1; clear H1; exact absurd (H.trans (congrArg some HRT_.out)) (by simp)
            ·
             replace c82 := Bool.eq_false_iff.mpr c82
             subst c82
             have H1 : (bitloftlaw16_MixerApart.l0 kj62 a1 l2 (wrap64 (x20_3 + 1)) l0_0 t194) = some r := by rw [if_neg (show ¬ (false = true) by decide)] at H; exact H
             clear H; have H := H1; clear H1; have H' := Aside0.mk H; clear H
             go_wp2
             repeat (go_quiet (fail); try go_wp2)
             go_roundg kj62
             case measure => have := HJ6.out; have := HJ25.out; have := HK3.out; have := HJ62.out; omega
             case rel => exact ⟨(wrap64 (x20_3 + 1)), (by first | rfl | (simp; done) | (simp [*]; done)), H', ⟨by have := HJ6.out; have := HJ25.out; have := HK3.out; have := HJ62.out; omega⟩, ⟨by (with_reducible repeat (first | apply Kd.S_alloc | apply Kd.S_drewN | apply Kd.S_drew)); exact HO_199000.out⟩, ⟨by (with_reducible repeat (first | apply Kd.S_alloc | apply Kd.S_drewN | apply Kd.S_drew)); exact HO_210000.out⟩, ⟨pG_ BK192.out⟩, ⟨pG_ BK198.out⟩, ⟨pG_ BK209.out⟩, ⟨pH_ HB.out⟩⟩
         ·
          rw [if_neg c62] at H; have c62b0 : decide (x20_3 < (l0_0.length : Int)) = false := decide_eq_false c62; clear c62; have H' := Aside0.mk H; clear H; have hnb83 := NB192_198.out; have hnc83 := NB198_192.out; have hnb84 := NB192_209.out; have hnc84 := NB209_192.out; have hcz85_0 : wr.cell? ⟨gb192, 0, none⟩ = some (.slice A0_0 l0_0.length c0_0) := (blk_cell BK192.out 0).trans rfl; have hfz85_0 := blk_frozen BK192.out 0
          go_wp2
          repeat (go_quiet (fail); try go_wp2)
          go_loopg [21] k3 (fun kq v21 w' => ∃ (x21_4 : Int), v21 = .int .i64 x21_4 ∧ Aside0 (bitloftlaw16_MixerApart.l1 kq a1 l2 x21_4 l0_0 t194 = some r) ∧ Aside0 (kq ≤ k3) ∧ Aside0 (Kd.S (Kd.slice 21 (Kd.int .i32)) 25 w' w.heap.size (fun k_ => some k_ ≠ ((.slice Ao41 t205.length co41) : Value).ownBlock) (.slice Ao30 t194.length co30) t194) ∧ Aside0 (Kd.S (Kd.slice 21 (Kd.int .i32)) 25 w' w.heap.size (fun k_ => some k_ ≠ ((.slice Ao30 t194.length co30) : Value).ownBlock) (.slice Ao41 t205.length co41) t205) ∧ Aside0 (w'.heap[gb192]? = some (.cells #[(.slice A0_0 l0_0.length c0_0)] 24 (0, 0))) ∧ Aside0 (w'.heap[gb198]? = some (.cells #[(.slice Ao30 t194.length co30)] 24 (0, 0))) ∧ Aside0 (w'.heap[gb209]? = some (.cells #[(.slice Ao41 t205.length co41)] 24 (0, 0))) ∧ Aside0 (Below w.heap.size w w'))
          case atStart => exact ⟨(0), (by first | rfl | (simp; done) | (simp [*]; done)), H', ⟨Nat.le_refl _⟩, ⟨by (with_reducible repeat (first | apply Kd.S_alloc | apply Kd.S_drewN | apply Kd.S_drew)); exact HO_199000.out⟩, ⟨by (with_reducible repeat (first | apply Kd.S_alloc | apply Kd.S_drewN | apply Kd.S_drew)); exact HO_210000.out⟩, ⟨pG_ BK192.out⟩, ⟨pG_ BK198.out⟩, ⟨pG_ BK209.out⟩, ⟨pH_ HB.out⟩⟩
          case round =>
           clear H'
           try clear c1
           try clear c2
           try clear p2
           try clear q2
           try clear hx2
           try clear c3
           try clear c4
           try clear c5
           try clear c6
           try clear p6
           try clear c7
           try clear c8
           try clear c11
           try clear c12
           try clear c12b0
           try clear c15
           try clear c15b0
           try clear c21
           try clear p21
           try clear q21
           try clear hx21
           try clear c22
           try clear c31
           try clear c42
           try clear c43
           try clear c45
           try clear c45b0
           try clear c45b1
           try clear c46
           try clear c46b0
           try clear c46b1
           try clear c47
           try clear c47b0
           try clear c47b1
           try clear c48
           try clear c48b0
           try clear c48b1
           try clear c50
           try clear c50b0
           try clear c50b1
           try clear c52
           try clear c53
           try clear c54
           try clear c56
           try clear c61
           try clear c62
           try clear c62b0
           try clear c64
           try clear p64
           try clear c65
           try clear c67
           try clear c67b0
           try clear c67b1
           try clear c68
           try clear c68b0
           try clear c69
           try clear c69b0
           try clear c70
           try clear c71
           try clear c73
           try clear c73b0
           try clear c74
           try clear c74b0
           try clear c76
           try clear c77
           try clear c78
           try clear c80
           try clear c82
           try clear c83
           try clear c84
           try clear hcz13_0
           try clear hcz16_0
           try clear hcz18_0
           try clear hcz20_0
           try clear hcz27_0
           try clear hcz32_0
           try clear hcz35_0
           try clear hcz38_0
           try clear hcz44_0
           try clear hcz55_0
           try clear hcz57_0
           try clear hcz59_0
           try clear hcz60_0
           try clear hcz66_0
           try clear hcz72_0
           try clear hcz79_0
           try clear hcz81_0
           try clear hcz85_0
           try clear hfz13_0
           try clear hfz16_0
           try clear hfz18_0
           try clear hfz20_0
           try clear hfz27_0
           try clear hfz32_0
           try clear hfz35_0
           try clear hfz38_0
           try clear hfz44_0
           try clear hfz55_0
           try clear hfz57_0
           try clear hfz59_0
           try clear hfz60_0
           try clear hfz66_0
           try clear hfz72_0
           try clear hfz79_0
           try clear hfz81_0
           try clear hfz85_0
           try clear hx212_0
           try clear hx213_0
           try clear hx214_0
           try clear hx216_0
           try clear p2
           try clear p21
           try clear p212
           try clear p213
           try clear p214
           try clear p216
           try clear q2
           try clear q21
           try clear q212
           try clear q213
           try clear q214
           try clear q216
           obtain ⟨x21_4, rfl, HA, HK4, HO_199000, HO_210000, BK192, BK198, BK209, HB⟩ := hrel
           cases gk with
           | zero => exact absurd HA.out (by simp [bitloftlaw16_MixerApart.l1])
           | succ k4 =>
            have H := HA.out; clear HA; simp only [bitloftlaw16_MixerApart.l1] at H
            by_cases c86 : x21_4 < 8
            ·
             rw [if_pos c86] at H; have c86b0 : decide (x21_4 < 8) = true := decide_eq_true c86; clear c86; have HC87 := Aside0.mk H; clear H
             go_upto_block 3 with (fail)
             repeat (go_quiet (fail); go_upto_block 3 with (fail))
             (with_reducible first | refine then_id_ ?_ | (refine wp_tail_ ?_; intro Kt_ hKt_))
             go_cut [] (fun wc => ∃ (kq : Nat), Aside0 (bitloftlaw16_MixerApart.j5 kq a1 l2 x21_4 l0_0 t194 = some r) ∧ Aside0 (kq ≤ k4) ∧ Aside0 (Kd.S (Kd.slice 21 (Kd.int .i32)) 25 wc w.heap.size (fun k_ => some k_ ≠ ((.slice Ao41 t205.length co41) : Value).ownBlock) (.slice Ao30 t194.length co30) t194) ∧ Aside0 (Kd.S (Kd.slice 21 (Kd.int .i32)) 25 wc w.heap.size (fun k_ => some k_ ≠ ((.slice Ao30 t194.length co30) : Value).ownBlock) (.slice Ao41 t205.length co41) t205) ∧ Aside0 (wc.heap[gb192]? = some (.cells #[(.slice A0_0 l0_0.length c0_0)] 24 (0, 0))) ∧ Aside0 (wc.heap[gb198]? = some (.cells #[(.slice Ao30 t194.length co30)] 24 (0, 0))) ∧ Aside0 (wc.heap[gb209]? = some (.cells #[(.slice Ao41 t205.length co41)] 24 (0, 0))) ∧ Aside0 (Below w.heap.size w wc))
             case first =>
              have H := HC87.out; clear HC87
              by_cases c88 : 0 ≤ x21_4
              ·
               rw [if_pos c88] at H; have c88b0 : decide (0 ≤ x21_4) = true := decide_eq_true c88; clear c88; (first | rw [c88b0] | (simp only [i64_w, i32_w]; rw [c88b0]) | skip)
               by_cases c89 : x21_4 < (l2.length : Int)
               ·
                rw [if_pos c89] at H; have c89b0 : decide (x21_4 < (l2.length : Int)) = true := decide_eq_true c89; clear c89
                by_cases c90 : (rd l2 x21_4) = 0
                ·
                 rw [if_pos c90] at H; have c90b0 : ((rd l2 x21_4) == 0) = true := beq_iff_eq.mpr c90; have c90b1 : ((rd l2 x21_4) != 0) = false := bne_eq_false_iff_eq.mpr c90; clear c90
                 by_cases c91 : 0 ≤ a1
                 ·
                  rw [if_pos c91] at H; have c91b0 : decide (0 ≤ a1) = true := decide_eq_true c91; clear c91
                  by_cases c92 : a1 < (t194.length : Int)
                  ·
                   rw [if_pos c92] at H; have c92b0 : decide (a1 < (t194.length : Int)) = true := decide_eq_true c92; clear c92
                   by_cases c93 : x21_4 < ((rd_L1 t194 a1).length : Int)
                   ·
                    rw [if_pos c93] at H; have c93b0 : decide (x21_4 < ((rd_L1 t194 a1).length : Int)) = true := decide_eq_true c93; clear c93
                    by_cases c94 : a1 < (l0_0.length : Int)
                    ·
                     rw [if_pos c94] at H; have c94b0 : decide (a1 < (l0_0.length : Int)) = true := decide_eq_true c94; clear c94
                     by_cases c95 : x21_4 < ((rd_L1 l0_0 a1).length : Int)
                     ·
                      rw [if_pos c95] at H; have c95b0 : decide (x21_4 < ((rd_L1 l0_0 a1).length : Int)) = true := decide_eq_true c95; clear c95
                      by_cases c96 : (rd (rd_L1 t194 a1) x21_4) = (rd (rd_L1 l0_0 a1) x21_4)
                      ·
                       rw [if_pos c96] at H; have c96b0 : ((rd (rd_L1 t194 a1) x21_4) == (rd (rd_L1 l0_0 a1) x21_4)) = true := beq_iff_eq.mpr c96; have c96b1 : ((rd (rd_L1 t194 a1) x21_4) != (rd (rd_L1 l0_0 a1) x21_4)) = false := bne_eq_false_iff_eq.mpr c96; clear c96; have H' := Aside0.mk H; clear H; have p217 : 0 ≤ (x21_4 : Int) := of_decide_eq_true (by first | (with_reducible assumption) | assumption); have q217 : x21_4 < (l2.length : Int) := of_decide_eq_true (by first | (with_reducible assumption) | assumption); obtain ⟨ad217, e217, hx217_0⟩ := Kd.at_int HR2.out x21_4 p217 q217
                       cases e217
                       replace hx217_0 := (HB.out.cell (World.block_lt_of_cell? w _ hx217_0)).trans hx217_0; replace p217 := eq_true p217; replace q217 := eq_true q217; have hnb97 := NB198_192.out; have hnc97 := NB192_198.out; have hnb98 := NB198_209.out; have hnc98 := NB209_198.out; have hcz99_0 : wr.cell? ⟨gb198, 0, none⟩ = some (.slice Ao30 t194.length co30) := (blk_cell BK198.out 0).trans rfl; have hfz99_0 := blk_frozen BK198.out 0; have p218 : 0 ≤ (a1 : Int) := of_decide_eq_true (by first | (with_reducible assumption) | assumption); have q218 : a1 < (t194.length : Int) := of_decide_eq_true (by first | (with_reducible assumption) | assumption); obtain ⟨ad218, A218_0, c218_0, e218, hx218_0, hl218_0, hi218_0⟩ := at_L1 (Kd.S_reads' HO_199000.out).2.2 a1 p218 q218
                       cases e218
                       obtain ⟨ce218, hce218, hMe218, hcc218⟩ := Kd.S_get HO_199000.out [] a1 p218 (by first | exact q218 | exact of_decide_eq_true (by first | (with_reducible assumption) | assumption) | (have e_ := (Kd.S_reads' HO_199000.out).1; omega)); obtain ⟨ve218_0, rfl, ge218_0⟩ := hMe218; have hv218_0 := hcc218 0 _ rfl; rw [Nat.add_zero, show ((Kd.slice 21 (Kd.int .i32))).sz = 1 from rfl, Nat.mul_one] at hv218_0; replace hv218_0 := Option.some.inj (hv218_0.symm.trans hx218_0); rw [hv218_0] at ge218_0; have HL218_0 := Aside0.mk (show Kd.R (Kd.int .i32) 21 _ _ _ _ (rd_L1 t194 a1) from ge218_0); clear hv218_0 ge218_0; clear hcc218 hce218; have HR218_0 := Aside0.mk hi218_0; have HC218_0 := Aside0.mk hl218_0; clear hi218_0 hl218_0; replace p218 := eq_true p218; replace q218 := eq_true q218; have p219 : 0 ≤ (x21_4 : Int) := of_decide_eq_true (by first | (with_reducible assumption) | assumption); have q219 : x21_4 < ((rd_L1 t194 a1).length : Int) := of_decide_eq_true (by first | (with_reducible assumption) | assumption); obtain ⟨ad219, e219, hx219_0⟩ := Kd.at_int (by repeat (first | (with_reducible exact HR218_0.out) | (with_reducible refine Kd.C_alloc ?_ _) | (with_reducible refine Kd.C_drewN ?_ _) | (with_reducible refine Kd.C_drew ?_) | exact HR218_0.out)) x21_4 p219 q219
                       cases e219
                       replace p219 := eq_true p219; replace q219 := eq_true q219; have hnb100 := NB192_209.out; have hnc100 := NB209_192.out; have hcz101_0 : wr.cell? ⟨gb192, 0, none⟩ = some (.slice A0_0 l0_0.length c0_0) := (blk_cell BK192.out 0).trans rfl; have hfz101_0 := blk_frozen BK192.out 0; have p220 : 0 ≤ (a1 : Int) := of_decide_eq_true (by first | (with_reducible assumption) | assumption); have q220 : a1 < (l0_0.length : Int) := of_decide_eq_true (by first | (with_reducible assumption) | assumption); obtain ⟨ad220, A220_0, c220_0, e220, hx220_0, hl220_0, hi220_0⟩ := at_L1 HR0_0.out a1 p220 q220
                       cases e220
                       replace hx220_0 := (HB.out.cell (World.block_lt_of_cell? w _ hx220_0)).trans hx220_0; have HR220_0 := Aside0.mk hi220_0; have HC220_0 := Aside0.mk hl220_0; clear hi220_0 hl220_0; replace p220 := eq_true p220; replace q220 := eq_true q220; have p221 : 0 ≤ (x21_4 : Int) := of_decide_eq_true (by first | (with_reducible assumption) | assumption); have q221 : x21_4 < ((rd_L1 l0_0 a1).length : Int) := of_decide_eq_true (by first | (with_reducible assumption) | assumption); obtain ⟨ad221, e221, hx221_0⟩ := Kd.at_int HR220_0.out x21_4 p221 q221
                       cases e221
                       replace hx221_0 := (HB.out.cell (World.block_lt_of_cell? w _ hx221_0)).trans hx221_0; replace p221 := eq_true p221; replace q221 := eq_true q221
                       go_wp2
                       repeat (go_quiet (fail); try go_wp2)
                       (first | go_meet | (refine Met.intro ?_; go_step; (repeat apply Exists.intro); refine ⟨?rel, ?eqf_⟩; case eqf_ => ((simp only [c96b0, c95b0, c94b0, c93b0, c92b0, c91b0, c90b0, c89b0, c88b0, c86b0]) <;> rfl)))
                       case rel => exact ⟨_, H', ⟨by have := HJ6.out; have := HJ25.out; have := HK3.out; have := HK4.out; first | omega | exact Nat.le_refl _⟩, ⟨by (with_reducible repeat (first | apply Kd.S_alloc | apply Kd.S_drewN | apply Kd.S_drew)); exact HO_199000.out⟩, ⟨by (with_reducible repeat (first | apply Kd.S_alloc | apply Kd.S_drewN | apply Kd.S_drew)); exact HO_210000.out⟩, ⟨pG_ BK192.out⟩, ⟨pG_ BK198.out⟩, ⟨pG_ BK209.out⟩, ⟨pH_ HB.out⟩⟩
                      ·
                       rw [if_neg c96] at H; have c96b0 : ((rd (rd_L1 t194 a1) x21_4) == (rd (rd_L1 l0_0 a1) x21_4)) = false := beq_eq_false_iff_ne.mpr c96; have c96b1 : ((rd (rd_L1 t194 a1) x21_4) != (rd (rd_L1 l0_0 a1) x21_4)) = true := bne_iff_ne.mpr c96; exact absurd (H.trans (congrArg some HRT_.out)) (by simp)
                     ·
                      rw [if_neg c95] at H; exact absurd H (by simp)
                    ·
                     rw [if_neg c94] at H; exact absurd H (by simp)
                   ·
                    rw [if_neg c93] at H; exact absurd H (by simp)
                  ·
                   rw [if_neg c92] at H; exact absurd H (by simp)
                 ·
                  rw [if_neg c91] at H; exact absurd H (by simp)
                ·
                 rw [if_neg c90] at H; have c90b0 : ((rd l2 x21_4) == 0) = false := beq_eq_false_iff_ne.mpr c90; have c90b1 : ((rd l2 x21_4) != 0) = true := bne_iff_ne.mpr c90; have H' := Aside0.mk H; clear H; have p217 : 0 ≤ (x21_4 : Int) := of_decide_eq_true (by first | (with_reducible assumption) | assumption); have q217 : x21_4 < (l2.length : Int) := of_decide_eq_true (by first | (with_reducible assumption) | assumption); obtain ⟨ad217, e217, hx217_0⟩ := Kd.at_int HR2.out x21_4 p217 q217
                 cases e217
                 replace hx217_0 := (HB.out.cell (World.block_lt_of_cell? w _ hx217_0)).trans hx217_0; replace p217 := eq_true p217; replace q217 := eq_true q217
                 go_wp2
                 repeat (go_quiet (fail); try go_wp2)
                 (first | go_meet | (refine Met.intro ?_; go_step; (repeat apply Exists.intro); refine ⟨?rel, ?eqf_⟩; case eqf_ => ((simp only [c90b0, c89b0, c88b0, c86b0]) <;> rfl)))
                 case rel => exact ⟨_, H', ⟨by have := HJ6.out; have := HJ25.out; have := HK3.out; have := HK4.out; first | omega | exact Nat.le_refl _⟩, ⟨by (with_reducible repeat (first | apply Kd.S_alloc | apply Kd.S_drewN | apply Kd.S_drew)); exact HO_199000.out⟩, ⟨by (with_reducible repeat (first | apply Kd.S_alloc | apply Kd.S_drewN | apply Kd.S_drew)); exact HO_210000.out⟩, ⟨pG_ BK192.out⟩, ⟨pG_ BK198.out⟩, ⟨pG_ BK209.out⟩, ⟨pH_ HB.out⟩⟩
               ·
                rw [if_neg c89] at H; exact absurd H (by simp)
              ·
               rw [if_neg c88] at H; exact absurd H (by simp)
             case rest =>
              (try (refine hKt_ _ _ ?_; clear hKt_; clear Kt_)); clear HC87
              try clear c1
              try clear c2
              try clear p2
              try clear q2
              try clear hx2
              try clear c3
              try clear c4
              try clear c5
              try clear c6
              try clear p6
              try clear c7
              try clear c8
              try clear c9
              try clear c10
              try clear c11
              try clear c12
              try clear c12b0
              try clear c15
              try clear c15b0
              try clear c21
              try clear p21
              try clear q21
              try clear hx21
              try clear c22
              try clear p22
              try clear q22
              try clear hx22
              try clear c31
              try clear c42
              try clear c43
              try clear c45
              try clear c45b0
              try clear c45b1
              try clear c46
              try clear c46b0
              try clear c46b1
              try clear c47
              try clear c47b0
              try clear c47b1
              try clear c48
              try clear c48b0
              try clear c48b1
              try clear c50
              try clear c50b0
              try clear c50b1
              try clear c52
              try clear c53
              try clear c54
              try clear c56
              try clear c61
              try clear c62
              try clear c62b0
              try clear c64
              try clear p64
              try clear c65
              try clear c67
              try clear c67b0
              try clear c67b1
              try clear c68
              try clear c68b0
              try clear c69
              try clear c69b0
              try clear c70
              try clear c71
              try clear c73
              try clear c73b0
              try clear c74
              try clear c74b0
              try clear c76
              try clear c77
              try clear c78
              try clear c80
              try clear c82
              try clear c83
              try clear c84
              try clear c86
              try clear c86b0
              try clear c88
              try clear c88b0
              try clear c89
              try clear c89b0
              try clear c90
              try clear c90b0
              try clear c90b1
              try clear c91
              try clear c91b0
              try clear c92
              try clear c92b0
              try clear c93
              try clear c93b0
              try clear c94
              try clear c94b0
              try clear c95
              try clear c95b0
              try clear c96
              try clear c96b0
              try clear c96b1
              try clear c97
              try clear c98
              try clear c100
              try clear hcz101_0
              try clear hcz13_0
              try clear hcz16_0
              try clear hcz18_0
              try clear hcz20_0
              try clear hcz27_0
              try clear hcz32_0
              try clear hcz35_0
              try clear hcz38_0
              try clear hcz44_0
              try clear hcz55_0
              try clear hcz57_0
              try clear hcz59_0
              try clear hcz60_0
              try clear hcz66_0
              try clear hcz72_0
              try clear hcz79_0
              try clear hcz81_0
              try clear hcz85_0
              try clear hcz99_0
              try clear hfz101_0
              try clear hfz13_0
              try clear hfz16_0
              try clear hfz18_0
              try clear hfz20_0
              try clear hfz27_0
              try clear hfz32_0
              try clear hfz35_0
              try clear hfz38_0
              try clear hfz44_0
              try clear hfz55_0
              try clear hfz57_0
              try clear hfz59_0
              try clear hfz60_0
              try clear hfz66_0
              try clear hfz72_0
              try clear hfz79_0
              try clear hfz81_0
              try clear hfz85_0
              try clear hfz99_0
              try clear hx212_0
              try clear hx213_0
              try clear hx214_0
              try clear hx216_0
              try clear hx217_0
              try clear hx218_0
              try clear hx219_0
              try clear hx220_0
              try clear hx221_0
              try clear p2
              try clear p21
              try clear p212
              try clear p213
              try clear p214
              try clear p216
              try clear p217
              try clear p218
              try clear p219
              try clear p220
              try clear p221
              try clear p6
              try clear p64
              try clear q2
              try clear q21
              try clear q212
              try clear q213
              try clear q214
              try clear q216
              try clear q217
              try clear q218
              try clear q219
              try clear q220
              try clear q221
              obtain ⟨kq, HA, HJ86, HO_199000, HO_210000, BK192, BK198, BK209, HB⟩ := hcut
              cases kq with
              | zero => exact absurd HA.out (by simp [bitloftlaw16_MixerApart.j5])
              | succ kj86 =>
               have H := HA.out; clear HA; simp only [bitloftlaw16_MixerApart.j5] at H; have H' := Aside0.mk H; clear H
               go_wp2
               repeat (go_quiet (fail); try go_wp2)
               go_roundg kj86
               case measure => have := HJ6.out; have := HJ25.out; have := HK3.out; have := HK4.out; have := HJ86.out; omega
               case rel => exact ⟨(wrap64 (x21_4 + 1)), (by first | rfl | (simp; done) | (simp [*]; done)), H', ⟨by have := HJ6.out; have := HJ25.out; have := HK3.out; have := HK4.out; have := HJ86.out; omega⟩, ⟨by (with_reducible repeat (first | apply Kd.S_alloc | apply Kd.S_drewN | apply Kd.S_drew)); exact HO_199000.out⟩, ⟨by (with_reducible repeat (first | apply Kd.S_alloc | apply Kd.S_drewN | apply Kd.S_drew)); exact HO_210000.out⟩, ⟨pG_ BK192.out⟩, ⟨pG_ BK198.out⟩, ⟨pG_ BK209.out⟩, ⟨pH_ HB.out⟩⟩
            ·
             rw [if_neg c86] at H; have c86b0 : decide (x21_4 < 8) = false := decide_eq_false c86; clear c86; obtain rfl := Option.some.inj H
             go_wp2
             repeat (go_quiet (fail); try go_wp2)
             go_ret
             exact ⟨by first | rfl | (simp [errW_none, errW_some] <;> rfl) | (simp [*, errW_none, errW_some] <;> rfl), pH_ HB.out⟩

/-- The one plain statement of bitloftlaw16_MixerApart. -/
def bitloftlaw16_MixerApart.Pure : Prop := ∀ (l0_0 : List (List Int)) (a1 : Int) (l2 : List Int) (a3 : Int) (a4 : Bool), l0_0.length ≤ maxLen → (∀ x_ ∈ l0_0, (fun l_ : List Int => l_.length ≤ maxLen ∧ ∀ x_ ∈ l_, (fun n_ : Int => (Lit.int .i32 n_).wf = true) x_) x_) → (Lit.int .i64 a1).wf = true → l2.length ≤ maxLen → l2.length * 4 ≤ 140737488351232 → (∀ x ∈ l2, (Lit.int .i32 x).wf = true) → (Lit.int .i32 a3).wf = true → ∃ k, bitloftlaw16_MixerApart.f k l0_0 a1 l2 a3 a4 = some true

end Go.Proofs.YtlpkfljihcklkaaDoor.XMixerApart
