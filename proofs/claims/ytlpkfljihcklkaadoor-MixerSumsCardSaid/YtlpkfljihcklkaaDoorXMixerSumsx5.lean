-- Laid by a program of this session (wip/mkxprint.py, over the kit's print): Lean checks it.
import Derived.Test.YtlpkfljihcklkaaDoorXMixerSumsx0
import Derived.Test.YtlpkfljihcklkaaDoorXMixerSumsx1
import Derived.Test.YtlpkfljihcklkaaDoorXMixerSumsx2
import Derived.Test.YtlpkfljihcklkaaDoorXMixerSumsx3
import Derived.Test.YtlpkfljihcklkaaDoorXMixerSumsx4
namespace Go.Proofs.YtlpkfljihcklkaaDoor.XMixerSums
open List (setIfInBounds_toArray set_cons_zero set_cons_succ)
open Go.RowKit Go.Proofs.YtlpkfljihcklkaaDoorW.PrintWords Go.Proofs.YtlpkfljihcklkaaDoorW.PrintLast Go.Proofs.YtlpkfljihcklkaaDoorW.PrintMore
attribute [local go_sem] max2_int min2_int max_two min_two max_three min_three max_four min_four   -- for this text's walks alone
set_option linter.unusedVariables false
set_option linter.unusedSimpArgs false

/-! ### bitloftlaw16_MixerSums: function 7 -/
mutual
def bitloftlaw16_MixerSums.j0 : Nat → Int → List Int → Int → Bool → Bool → List (List Int) → Option (Bool)
 | 0, _, _, _, _, _, _ => none
 | k + 1, x1, x2, x3, x4, x42, x188000 => if x42 = true then (some true) else ((mixer_Mix.f k x188000 x1 x2).bind fun bt189 => ((mixer_Learn.f k x188000 x1 x2 x3 x4).bind fun bt192 => ((mixer_Wrong.f x3 x4).bind fun bt197 => (if 0 ≤ x1 then (if x1 < (x188000.length : Int) then ((fixed_Dot.f k (rd_L1 x188000 x1) x2).bind fun bt200 => (if bt189.2.2 = 0 then (if bt192.2 = 0 then (if bt197.2 = 0 then (if bt200.2 = 0 then ((bitloftref16_Check.f k bt192.1).bind fun t202 => (if t202 = 0 then (bitloftlaw16_MixerSums.j1 k x1 x2 bt189.1 bt197.1 bt200.1 ((bt192.1.length : Int) != (x188000.length : Int)) x188000 bt192.1) else (bitloftlaw16_MixerSums.j1 k x1 x2 bt189.1 bt197.1 bt200.1 true x188000 bt192.1))) else (bitloftlaw16_MixerSums.j1 k x1 x2 bt189.1 bt197.1 bt200.1 true x188000 bt192.1)) else (bitloftlaw16_MixerSums.j1 k x1 x2 bt189.1 bt197.1 bt200.1 true x188000 bt192.1)) else (bitloftlaw16_MixerSums.j1 k x1 x2 bt189.1 bt197.1 bt200.1 true x188000 bt192.1)) else (bitloftlaw16_MixerSums.j1 k x1 x2 bt189.1 bt197.1 bt200.1 true x188000 bt192.1))) else (none)) else (none)))))
def bitloftlaw16_MixerSums.j1 : Nat → Int → List Int → Int → Int → Int → Bool → List (List Int) → List (List Int) → Option (Bool)
 | 0, _, _, _, _, _, _, _, _ => none
 | k + 1, x1, x2, x12, x17, x19, x104, x188000, x197000 => if x104 = true then (some false) else (if x12 > (-2047) then (if x12 < 2047 then (if (wrap64 ((wrap64 (x12)) * 65536)) > (wrap64 (x19)) then (bitloftlaw16_MixerSums.j2 k x1 x2 x17 true x188000 x197000) else (if (wrap64 ((wrap64 ((wrap64 (x12)) * 65536)) + 65535)) < (wrap64 (x19)) then (bitloftlaw16_MixerSums.j2 k x1 x2 x17 true x188000 x197000) else (if x12 = 2047 then (if (wrap64 (x19)) < 134152192 then (bitloftlaw16_MixerSums.j2 k x1 x2 x17 true x188000 x197000) else (if x12 = (-2047) then (bitloftlaw16_MixerSums.j2 k x1 x2 x17 (decide ((wrap64 (x19)) > (-134086657))) x188000 x197000) else (bitloftlaw16_MixerSums.j2 k x1 x2 x17 false x188000 x197000))) else (if x12 = (-2047) then (bitloftlaw16_MixerSums.j2 k x1 x2 x17 (decide ((wrap64 (x19)) > (-134086657))) x188000 x197000) else (bitloftlaw16_MixerSums.j2 k x1 x2 x17 false x188000 x197000))))) else (if x12 = 2047 then (if (wrap64 (x19)) < 134152192 then (bitloftlaw16_MixerSums.j2 k x1 x2 x17 true x188000 x197000) else (if x12 = (-2047) then (bitloftlaw16_MixerSums.j2 k x1 x2 x17 (decide ((wrap64 (x19)) > (-134086657))) x188000 x197000) else (bitloftlaw16_MixerSums.j2 k x1 x2 x17 false x188000 x197000))) else (if x12 = (-2047) then (bitloftlaw16_MixerSums.j2 k x1 x2 x17 (decide ((wrap64 (x19)) > (-134086657))) x188000 x197000) else (bitloftlaw16_MixerSums.j2 k x1 x2 x17 false x188000 x197000)))) else (if x12 = 2047 then (if (wrap64 (x19)) < 134152192 then (bitloftlaw16_MixerSums.j2 k x1 x2 x17 true x188000 x197000) else (if x12 = (-2047) then (bitloftlaw16_MixerSums.j2 k x1 x2 x17 (decide ((wrap64 (x19)) > (-134086657))) x188000 x197000) else (bitloftlaw16_MixerSums.j2 k x1 x2 x17 false x188000 x197000))) else (if x12 = (-2047) then (bitloftlaw16_MixerSums.j2 k x1 x2 x17 (decide ((wrap64 (x19)) > (-134086657))) x188000 x197000) else (bitloftlaw16_MixerSums.j2 k x1 x2 x17 false x188000 x197000))))
def bitloftlaw16_MixerSums.j2 : Nat → Int → List Int → Int → Bool → List (List Int) → List (List Int) → Option (Bool)
 | 0, _, _, _, _, _, _ => none
 | k + 1, x1, x2, x17, x145, x188000, x197000 => if x145 = true then (some false) else (bitloftlaw16_MixerSums.l0 k x1 x2 x17 0 x188000 x197000)
def bitloftlaw16_MixerSums.l0 : Nat → Int → List Int → Int → Int → List (List Int) → List (List Int) → Option (Bool)
 | 0, _, _, _, _, _, _ => none
 | k + 1, x1, x2, x17, x21, x188000, x197000 => if x21 < 8 then (if 0 ≤ x1 then (if x1 < (x188000.length : Int) then (if 0 ≤ x21 then (if x21 < ((rd_L1 x188000 x1).length : Int) then (if x1 < (x197000.length : Int) then (if x21 < ((rd_L1 x197000 x1).length : Int) then (if x21 < (x2.length : Int) then (if (wrap64 (rd (rd_L1 x188000 x1) x21)) > 2147400000 then (bitloftlaw16_MixerSums.j4 k x1 x2 x17 x21 (wrap64 ((wrap64 (rd (rd_L1 x197000 x1) x21)) - (wrap64 (rd (rd_L1 x188000 x1) x21)))) (wrap64 ((wrap64 ((wrap64 (rd x2 x21)) * (wrap64 (x17)))) * 7)) true x188000 x197000) else (bitloftlaw16_MixerSums.j4 k x1 x2 x17 x21 (wrap64 ((wrap64 (rd (rd_L1 x197000 x1) x21)) - (wrap64 (rd (rd_L1 x188000 x1) x21)))) (wrap64 ((wrap64 ((wrap64 (rd x2 x21)) * (wrap64 (x17)))) * 7)) (decide ((wrap64 (rd (rd_L1 x188000 x1) x21)) < (-2147400000))) x188000 x197000)) else (none)) else (none)) else (none)) else (none)) else (none)) else (none)) else (none)) else (some true)
def bitloftlaw16_MixerSums.j5 : Nat → Int → List Int → Int → Int → List (List Int) → List (List Int) → Option (Bool)
 | 0, _, _, _, _, _, _ => none
 | k + 1, x1, x2, x17, x21, x188000, x197000 => bitloftlaw16_MixerSums.l0 k x1 x2 x17 (wrap64 (x21 + 1)) x188000 x197000
def bitloftlaw16_MixerSums.j4 : Nat → Int → List Int → Int → Int → Int → Int → Bool → List (List Int) → List (List Int) → Option (Bool)
 | 0, _, _, _, _, _, _, _, _, _ => none
 | k + 1, x1, x2, x17, x21, x23, x24, x184, x188000, x197000 => if x184 = true then (bitloftlaw16_MixerSums.j5 k x1 x2 x17 x21 x188000 x197000) else (if (wrap64 (x24 - (wrap64 (x23 * 16384)))) > 8192 then (some false) else (if (wrap64 (x24 - (wrap64 (x23 * 16384)))) < (-8192) then (some false) else (bitloftlaw16_MixerSums.j5 k x1 x2 x17 x21 x188000 x197000)))
end
def bitloftlaw16_MixerSums.f (k : Nat) (l0_0 : List (List Int)) (a1 : Int) (l2 : List Int) (a3 : Int) (a4 : Bool) : Option (Bool) := (bitloftlaw16_fit.f k l0_0 a1 l2).bind fun t188 => (if t188 = true then (if a3 < 0 then (bitloftlaw16_MixerSums.j0 k a1 l2 a3 a4 true l0_0) else (if a3 > 4095 then (bitloftlaw16_MixerSums.j0 k a1 l2 a3 a4 true l0_0) else (bitloftlaw16_MixerSums.j0 k a1 l2 a3 a4 (!true) l0_0))) else (bitloftlaw16_MixerSums.j0 k a1 l2 a3 a4 true l0_0))
theorem bitloftlaw16_MixerSums.mono_l : ∀ k, (∀ y0 y1 y2 y3 y4 y5, LeO (bitloftlaw16_MixerSums.j0 k y0 y1 y2 y3 y4 y5) (bitloftlaw16_MixerSums.j0 (k + 1) y0 y1 y2 y3 y4 y5)) ∧ (∀ y0 y1 y2 y3 y4 y5 y6 y7, LeO (bitloftlaw16_MixerSums.j1 k y0 y1 y2 y3 y4 y5 y6 y7) (bitloftlaw16_MixerSums.j1 (k + 1) y0 y1 y2 y3 y4 y5 y6 y7)) ∧ (∀ y0 y1 y2 y3 y4 y5, LeO (bitloftlaw16_MixerSums.j2 k y0 y1 y2 y3 y4 y5) (bitloftlaw16_MixerSums.j2 (k + 1) y0 y1 y2 y3 y4 y5)) ∧ (∀ y0 y1 y2 y3 y4 y5, LeO (bitloftlaw16_MixerSums.l0 k y0 y1 y2 y3 y4 y5) (bitloftlaw16_MixerSums.l0 (k + 1) y0 y1 y2 y3 y4 y5)) ∧ (∀ y0 y1 y2 y3 y4 y5, LeO (bitloftlaw16_MixerSums.j5 k y0 y1 y2 y3 y4 y5) (bitloftlaw16_MixerSums.j5 (k + 1) y0 y1 y2 y3 y4 y5)) ∧ (∀ y0 y1 y2 y3 y4 y5 y6 y7 y8, LeO (bitloftlaw16_MixerSums.j4 k y0 y1 y2 y3 y4 y5 y6 y7 y8) (bitloftlaw16_MixerSums.j4 (k + 1) y0 y1 y2 y3 y4 y5 y6 y7 y8))
 | 0 => ⟨fun _ _ _ _ _ _ r h => by simp [bitloftlaw16_MixerSums.j0] at h, fun _ _ _ _ _ _ _ _ r h => by simp [bitloftlaw16_MixerSums.j1] at h, fun _ _ _ _ _ _ r h => by simp [bitloftlaw16_MixerSums.j2] at h, fun _ _ _ _ _ _ r h => by simp [bitloftlaw16_MixerSums.l0] at h, fun _ _ _ _ _ _ r h => by simp [bitloftlaw16_MixerSums.j5] at h, fun _ _ _ _ _ _ _ _ _ r h => by simp [bitloftlaw16_MixerSums.j4] at h⟩
 | k + 1 => by
  obtain ⟨ih0, ih1, ih2, ih3, ih4, ih5⟩ := bitloftlaw16_MixerSums.mono_l k; refine ⟨?_, ?_, ?_, ?_, ?_, ?_⟩
  ·
   intro y0 y1 y2 y3 y4 y5
   unfold bitloftlaw16_MixerSums.j0
   repeat' first
   | (with_reducible exact ih0 _ _ _ _ _ _)
   | (with_reducible exact ih1 _ _ _ _ _ _ _ _)
   | (with_reducible exact ih2 _ _ _ _ _ _)
   | (with_reducible exact ih3 _ _ _ _ _ _)
   | (with_reducible exact ih4 _ _ _ _ _ _)
   | (with_reducible exact ih5 _ _ _ _ _ _ _ _ _)
   | (with_reducible exact bitloftlaw16_alive.mono _)
   | (with_reducible exact bitloftlaw16_fit.mono _ _ _ _)
   | (with_reducible exact bitloftref16_Check.mono _ _)
   | (with_reducible exact fixed_Dot.mono _ _ _)
   | (with_reducible exact mixer_Learn.mono _ _ _ _ _ _)
   | (with_reducible exact mixer_Mix.mono _ _ _ _)
   | (with_reducible exact LeO.refl _)
   | (with_reducible exact LeO.none _)
   | (with_reducible refine LeO.ite ?_ ?_)
   | (with_reducible refine LeO.bind ?_ (fun _ => ?_))
   | exact ih0 _ _ _ _ _ _
   | exact ih1 _ _ _ _ _ _ _ _
   | exact ih2 _ _ _ _ _ _
   | exact ih3 _ _ _ _ _ _
   | exact ih4 _ _ _ _ _ _
   | exact ih5 _ _ _ _ _ _ _ _ _
   | exact bitloftlaw16_alive.mono _
   | exact bitloftlaw16_fit.mono _ _ _ _
   | exact bitloftref16_Check.mono _ _
   | exact fixed_Dot.mono _ _ _
   | exact mixer_Learn.mono _ _ _ _ _ _
   | exact mixer_Mix.mono _ _ _ _
   | exact LeO.none _
   | refine LeO.ite ?_ ?_
   | refine LeO.bind ?_ (fun _ => ?_)
  ·
   intro y0 y1 y2 y3 y4 y5 y6 y7
   unfold bitloftlaw16_MixerSums.j1
   repeat' first
   | (with_reducible exact ih0 _ _ _ _ _ _)
   | (with_reducible exact ih1 _ _ _ _ _ _ _ _)
   | (with_reducible exact ih2 _ _ _ _ _ _)
   | (with_reducible exact ih3 _ _ _ _ _ _)
   | (with_reducible exact ih4 _ _ _ _ _ _)
   | (with_reducible exact ih5 _ _ _ _ _ _ _ _ _)
   | (with_reducible exact bitloftlaw16_alive.mono _)
   | (with_reducible exact bitloftlaw16_fit.mono _ _ _ _)
   | (with_reducible exact bitloftref16_Check.mono _ _)
   | (with_reducible exact fixed_Dot.mono _ _ _)
   | (with_reducible exact mixer_Learn.mono _ _ _ _ _ _)
   | (with_reducible exact mixer_Mix.mono _ _ _ _)
   | (with_reducible exact LeO.refl _)
   | (with_reducible exact LeO.none _)
   | (with_reducible refine LeO.ite ?_ ?_)
   | (with_reducible refine LeO.bind ?_ (fun _ => ?_))
   | exact ih0 _ _ _ _ _ _
   | exact ih1 _ _ _ _ _ _ _ _
   | exact ih2 _ _ _ _ _ _
   | exact ih3 _ _ _ _ _ _
   | exact ih4 _ _ _ _ _ _
   | exact ih5 _ _ _ _ _ _ _ _ _
   | exact bitloftlaw16_alive.mono _
   | exact bitloftlaw16_fit.mono _ _ _ _
   | exact bitloftref16_Check.mono _ _
   | exact fixed_Dot.mono _ _ _
   | exact mixer_Learn.mono _ _ _ _ _ _
   | exact mixer_Mix.mono _ _ _ _
   | exact LeO.none _
   | refine LeO.ite ?_ ?_
   | refine LeO.bind ?_ (fun _ => ?_)
  ·
   intro y0 y1 y2 y3 y4 y5
   unfold bitloftlaw16_MixerSums.j2
   repeat' first
   | (with_reducible exact ih0 _ _ _ _ _ _)
   | (with_reducible exact ih1 _ _ _ _ _ _ _ _)
   | (with_reducible exact ih2 _ _ _ _ _ _)
   | (with_reducible exact ih3 _ _ _ _ _ _)
   | (with_reducible exact ih4 _ _ _ _ _ _)
   | (with_reducible exact ih5 _ _ _ _ _ _ _ _ _)
   | (with_reducible exact bitloftlaw16_alive.mono _)
   | (with_reducible exact bitloftlaw16_fit.mono _ _ _ _)
   | (with_reducible exact bitloftref16_Check.mono _ _)
   | (with_reducible exact fixed_Dot.mono _ _ _)
   | (with_reducible exact mixer_Learn.mono _ _ _ _ _ _)
   | (with_reducible exact mixer_Mix.mono _ _ _ _)
   | (with_reducible exact LeO.refl _)
   | (with_reducible exact LeO.none _)
   | (with_reducible refine LeO.ite ?_ ?_)
   | (with_reducible refine LeO.bind ?_ (fun _ => ?_))
   | exact ih0 _ _ _ _ _ _
   | exact ih1 _ _ _ _ _ _ _ _
   | exact ih2 _ _ _ _ _ _
   | exact ih3 _ _ _ _ _ _
   | exact ih4 _ _ _ _ _ _
   | exact ih5 _ _ _ _ _ _ _ _ _
   | exact bitloftlaw16_alive.mono _
   | exact bitloftlaw16_fit.mono _ _ _ _
   | exact bitloftref16_Check.mono _ _
   | exact fixed_Dot.mono _ _ _
   | exact mixer_Learn.mono _ _ _ _ _ _
   | exact mixer_Mix.mono _ _ _ _
   | exact LeO.none _
   | refine LeO.ite ?_ ?_
   | refine LeO.bind ?_ (fun _ => ?_)
  ·
   intro y0 y1 y2 y3 y4 y5
   unfold bitloftlaw16_MixerSums.l0
   repeat' first
   | (with_reducible exact ih0 _ _ _ _ _ _)
   | (with_reducible exact ih1 _ _ _ _ _ _ _ _)
   | (with_reducible exact ih2 _ _ _ _ _ _)
   | (with_reducible exact ih3 _ _ _ _ _ _)
   | (with_reducible exact ih4 _ _ _ _ _ _)
   | (with_reducible exact ih5 _ _ _ _ _ _ _ _ _)
   | (with_reducible exact bitloftlaw16_alive.mono _)
   | (with_reducible exact bitloftlaw16_fit.mono _ _ _ _)
   | (with_reducible exact bitloftref16_Check.mono _ _)
   | (with_reducible exact fixed_Dot.mono _ _ _)
   | (with_reducible exact mixer_Learn.mono _ _ _ _ _ _)
   | (with_reducible exact mixer_Mix.mono _ _ _ _)
   | (with_reducible exact LeO.refl _)
   | (with_reducible exact LeO.none _)
   | (with_reducible refine LeO.ite ?_ ?_)
   | (with_reducible refine LeO.bind ?_ (fun _ => ?_))
   | exact ih0 _ _ _ _ _ _
   | exact ih1 _ _ _ _ _ _ _ _
   | exact ih2 _ _ _ _ _ _
   | exact ih3 _ _ _ _ _ _
   | exact ih4 _ _ _ _ _ _
   | exact ih5 _ _ _ _ _ _ _ _ _
   | exact bitloftlaw16_alive.mono _
   | exact bitloftlaw16_fit.mono _ _ _ _
   | exact bitloftref16_Check.mono _ _
   | exact fixed_Dot.mono _ _ _
   | exact mixer_Learn.mono _ _ _ _ _ _
   | exact mixer_Mix.mono _ _ _ _
   | exact LeO.none _
   | refine LeO.ite ?_ ?_
   | refine LeO.bind ?_ (fun _ => ?_)
  ·
   intro y0 y1 y2 y3 y4 y5
   unfold bitloftlaw16_MixerSums.j5
   repeat' first
   | (with_reducible exact ih0 _ _ _ _ _ _)
   | (with_reducible exact ih1 _ _ _ _ _ _ _ _)
   | (with_reducible exact ih2 _ _ _ _ _ _)
   | (with_reducible exact ih3 _ _ _ _ _ _)
   | (with_reducible exact ih4 _ _ _ _ _ _)
   | (with_reducible exact ih5 _ _ _ _ _ _ _ _ _)
   | (with_reducible exact bitloftlaw16_alive.mono _)
   | (with_reducible exact bitloftlaw16_fit.mono _ _ _ _)
   | (with_reducible exact bitloftref16_Check.mono _ _)
   | (with_reducible exact fixed_Dot.mono _ _ _)
   | (with_reducible exact mixer_Learn.mono _ _ _ _ _ _)
   | (with_reducible exact mixer_Mix.mono _ _ _ _)
   | (with_reducible exact LeO.refl _)
   | (with_reducible exact LeO.none _)
   | (with_reducible refine LeO.ite ?_ ?_)
   | (with_reducible refine LeO.bind ?_ (fun _ => ?_))
   | exact ih0 _ _ _ _ _ _
   | exact ih1 _ _ _ _ _ _ _ _
   | exact ih2 _ _ _ _ _ _
   | exact ih3 _ _ _ _ _ _
   | exact ih4 _ _ _ _ _ _
   | exact ih5 _ _ _ _ _ _ _ _ _
   | exact bitloftlaw16_alive.mono _
   | exact bitloftlaw16_fit.mono _ _ _ _
   | exact bitloftref16_Check.mono _ _
   | exact fixed_Dot.mono _ _ _
   | exact mixer_Learn.mono _ _ _ _ _ _
   | exact mixer_Mix.mono _ _ _ _
   | exact LeO.none _
   | refine LeO.ite ?_ ?_
   | refine LeO.bind ?_ (fun _ => ?_)
  ·
   intro y0 y1 y2 y3 y4 y5 y6 y7 y8
   unfold bitloftlaw16_MixerSums.j4
   repeat' first
   | (with_reducible exact ih0 _ _ _ _ _ _)
   | (with_reducible exact ih1 _ _ _ _ _ _ _ _)
   | (with_reducible exact ih2 _ _ _ _ _ _)
   | (with_reducible exact ih3 _ _ _ _ _ _)
   | (with_reducible exact ih4 _ _ _ _ _ _)
   | (with_reducible exact ih5 _ _ _ _ _ _ _ _ _)
   | (with_reducible exact bitloftlaw16_alive.mono _)
   | (with_reducible exact bitloftlaw16_fit.mono _ _ _ _)
   | (with_reducible exact bitloftref16_Check.mono _ _)
   | (with_reducible exact fixed_Dot.mono _ _ _)
   | (with_reducible exact mixer_Learn.mono _ _ _ _ _ _)
   | (with_reducible exact mixer_Mix.mono _ _ _ _)
   | (with_reducible exact LeO.refl _)
   | (with_reducible exact LeO.none _)
   | (with_reducible refine LeO.ite ?_ ?_)
   | (with_reducible refine LeO.bind ?_ (fun _ => ?_))
   | exact ih0 _ _ _ _ _ _
   | exact ih1 _ _ _ _ _ _ _ _
   | exact ih2 _ _ _ _ _ _
   | exact ih3 _ _ _ _ _ _
   | exact ih4 _ _ _ _ _ _
   | exact ih5 _ _ _ _ _ _ _ _ _
   | exact bitloftlaw16_alive.mono _
   | exact bitloftlaw16_fit.mono _ _ _ _
   | exact bitloftref16_Check.mono _ _
   | exact fixed_Dot.mono _ _ _
   | exact mixer_Learn.mono _ _ _ _ _ _
   | exact mixer_Mix.mono _ _ _ _
   | exact LeO.none _
   | refine LeO.ite ?_ ?_
   | refine LeO.bind ?_ (fun _ => ?_)
theorem bitloftlaw16_MixerSums.mono : ∀ a0 a1 a2 a3 a4 k, LeO (bitloftlaw16_MixerSums.f k a0 a1 a2 a3 a4) (bitloftlaw16_MixerSums.f (k + 1) a0 a1 a2 a3 a4) := by
 intro a0 a1 a2 a3 a4 k; obtain ⟨ih0, ih1, ih2, ih3, ih4, ih5⟩ := bitloftlaw16_MixerSums.mono_l k
 unfold bitloftlaw16_MixerSums.f
 repeat' first
   | (with_reducible exact ih0 _ _ _ _ _ _)
   | (with_reducible exact ih1 _ _ _ _ _ _ _ _)
   | (with_reducible exact ih2 _ _ _ _ _ _)
   | (with_reducible exact ih3 _ _ _ _ _ _)
   | (with_reducible exact ih4 _ _ _ _ _ _)
   | (with_reducible exact ih5 _ _ _ _ _ _ _ _ _)
   | (with_reducible exact bitloftlaw16_alive.mono _)
   | (with_reducible exact bitloftlaw16_fit.mono _ _ _ _)
   | (with_reducible exact bitloftref16_Check.mono _ _)
   | (with_reducible exact fixed_Dot.mono _ _ _)
   | (with_reducible exact mixer_Learn.mono _ _ _ _ _ _)
   | (with_reducible exact mixer_Mix.mono _ _ _ _)
   | (with_reducible exact LeO.refl _)
   | (with_reducible exact LeO.none _)
   | (with_reducible refine LeO.ite ?_ ?_)
   | (with_reducible refine LeO.bind ?_ (fun _ => ?_))
   | exact ih0 _ _ _ _ _ _
   | exact ih1 _ _ _ _ _ _ _ _
   | exact ih2 _ _ _ _ _ _
   | exact ih3 _ _ _ _ _ _
   | exact ih4 _ _ _ _ _ _
   | exact ih5 _ _ _ _ _ _ _ _ _
   | exact bitloftlaw16_alive.mono _
   | exact bitloftlaw16_fit.mono _ _ _ _
   | exact bitloftref16_Check.mono _ _
   | exact fixed_Dot.mono _ _ _
   | exact mixer_Learn.mono _ _ _ _ _ _
   | exact mixer_Mix.mono _ _ _ _
   | exact LeO.none _
   | refine LeO.ite ?_ ?_
   | refine LeO.bind ?_ (fun _ => ?_)
set_option maxHeartbeats 8000000 in
set_option maxRecDepth 100000 in
theorem bitloftlaw16_MixerSums.calls (k : Nat) (A0_0 : Option Addr) (c0_0 : Nat) (l0_0 : List (List Int)) (a1 : Int) (A2 : Option Addr) (c2 : Nat) (l2 : List Int) (a3 : Int) (a4 : Bool) (r : Bool) (w : World) (hr0_0 : Kd.C (Kd.slice 21 (Kd.int .i32)) w A0_0 l0_0.length l0_0) (hc0_0 : l0_0.length ≤ c0_0) (hr2 : Kd.C (Kd.int .i32) w A2 l2.length l2) (hc2 : l2.length ≤ c2) (hT : Tab_ w) (hr_ : r = true) (h : bitloftlaw16_MixerSums.f k l0_0 a1 l2 a3 a4 = some r) :
  Calls Tryd.prog 7 #[.agg #[.slice A0_0 l0_0.length c0_0], .int .i64 a1, .slice A2 l2.length c2, .int .i32 a3, .bool a4] w fun e w' => e = .returned (.bool r) ∧ Below w.heap.size w w' := by
 have hu24 := Tryd.underlying24; have HRT_ := Aside0.mk hr_; clear hr_; have HR0_0 := Aside0.mk hr0_0; have HC0_0 := Aside0.mk hc0_0; clear hr0_0 hc0_0; have HR2 := Aside0.mk hr2; have HC2 := Aside0.mk hc2; clear hr2 hc2; have HB := Aside0.mk (Below.refl w.heap.size w); have H : ((bitloftlaw16_fit.f k l0_0 a1 l2).bind fun t188 => (if t188 = true then (if a3 < 0 then (bitloftlaw16_MixerSums.j0 k a1 l2 a3 a4 true l0_0) else (if a3 > 4095 then (bitloftlaw16_MixerSums.j0 k a1 l2 a3 a4 true l0_0) else (bitloftlaw16_MixerSums.j0 k a1 l2 a3 a4 (!true) l0_0))) else (bitloftlaw16_MixerSums.j0 k a1 l2 a3 a4 true l0_0))) = some r := h; clear h; have A6 := Aside0.mk (show bitloftlaw16_alive.f 2000 = some true by first | rfl | decide +kernel); have HC7 := Aside0.mk H; clear H
 go_enter Tryd.func7, Tryd.ntmps7
 go_upto_region 2 with (first | ((with_reducible refine gate_dst (N := 5) rfl ?_); (try (refine gate_guard (by rfl) ?_; dsimp only)); refine box_event ?hg (N := 5) ?hd (cs := #[.slice A0_0 l0_0.length c0_0]) (t := 24) ?hr ?_; (case hd => rfl); (case hg => rfl); (case hr => first | (go_simp; done) | (go_simp; rfl)); intro gb187 hg w8 hbox hb; have n0_ := Aside0.mk (below_step (pH_ HB.out) hb); have n1_ := Aside0.mk (hbox); have n2_ := Aside0.mk ((by rw [hg]; exact (below_size (pH_ HB.out)) : w.heap.size ≤ gb187)); have n3_ := Aside0.mk ((by rw [hg]; exact (below_size (pH_ HB.out)) : w.heap.size ≤ gb187)); clear HB; have HB := n0_; have BK187 := n1_; have GW187 := n2_; have GE187 := n3_; clear n0_ n1_ n2_ n3_; clear hb hbox hg) | ((with_reducible refine gate_callee (f := 19) rfl ?_); refine gL_ (some 25) Tryd.func19 #[] ?_; (with_reducible refine (bitloftlaw16_alive.calls 2000  true _ (tab_bel hT (pH_ HB.out)) A6.out).mono ?_); rintro e w9 ⟨rfl, hb⟩; refine ⟨_, rfl, ?_⟩; have n0_ := Aside0.mk (blk_below (pG_ BK187.out) hb); have n1_ := Aside0.mk (below_step (pH_ HB.out) hb); clear BK187; clear HB; have BK187 := n0_; have HB := n1_; clear n0_ n1_; (try clear hb)))
 (try simp only [Act.put, sA_, sZ_, sS_]); (with_reducible first | refine then_id_ ?_ | (refine wp_tail_ ?_; intro Kt_ hKt_))
 go_cut [42] (fun v42 wc => ∃ (kq : Nat) (x42_6 : Bool), v42 = .bool x42_6 ∧ Aside0 (bitloftlaw16_MixerSums.j0 kq a1 l2 a3 a4 x42_6 l0_0 = some r) ∧ Aside0 (kq ≤ k) ∧ Aside0 (wc.heap[gb187]? = some (.cells #[(.slice A0_0 l0_0.length c0_0)] 24 (0, 0))) ∧ Aside0 (Below w.heap.size w wc))
 case first =>
  have H := HC7.out; clear HC7; replace H := Option.bind_eq_some_iff.mp H; obtain ⟨t188, A100, H⟩ := H; replace H : (if t188 = true then (if a3 < 0 then (bitloftlaw16_MixerSums.j0 k a1 l2 a3 a4 true l0_0) else (if a3 > 4095 then (bitloftlaw16_MixerSums.j0 k a1 l2 a3 a4 true l0_0) else (bitloftlaw16_MixerSums.j0 k a1 l2 a3 a4 (!true) l0_0))) else (bitloftlaw16_MixerSums.j0 k a1 l2 a3 a4 true l0_0)) = some r := H; have A10 := Aside0.mk A100; clear A100
  by_cases c11 : t188 = true
  ·
   subst c11
   have H1 : (if a3 < 0 then (bitloftlaw16_MixerSums.j0 k a1 l2 a3 a4 true l0_0) else (if a3 > 4095 then (bitloftlaw16_MixerSums.j0 k a1 l2 a3 a4 true l0_0) else (bitloftlaw16_MixerSums.j0 k a1 l2 a3 a4 (!true) l0_0))) = some r := by rw [if_pos rfl] at H; exact H
   clear H; have H := H1; clear H1
   by_cases c12 : a3 < 0
   ·
    rw [if_pos c12] at H; have c12b0 : decide (a3 < 0) = true := decide_eq_true c12; clear c12; (first | rw [c12b0] | (simp only [i64_w, i32_w]; rw [c12b0]) | skip); have H' := Aside0.mk H; clear H; have hcz13_0 : w9.cell? ⟨gb187, 0, none⟩ = some (.slice A0_0 l0_0.length c0_0) := (blk_cell BK187.out 0).trans rfl; have hfz13_0 := blk_frozen BK187.out 0
    go_wp2_with (first | ((with_reducible refine gate_callee (f := 21) rfl ?_); refine gL_ (some 29) Tryd.func21 #[.agg #[.slice A0_0 l0_0.length c0_0], .int .i64 a1, .slice A2 l2.length c2] ?_; (with_reducible refine (bitloftlaw16_fit.calls k _ _ l0_0 a1 _ _ l2 true _ ?side1 ?side2 ?side3 ?side4 A10.out).mono ?_); (case side1 => repeat (first | exact (Kd.C_below HR0_0.out HB.out) | (with_reducible refine Kd.C_alloc ?_ _) | (with_reducible refine Kd.C_drewN ?_ _) | (with_reducible refine Kd.C_drew ?_))); (case side2 => exact HC0_0.out); (case side3 => repeat (first | exact (Kd.C_below HR2.out HB.out) | (with_reducible refine Kd.C_alloc ?_ _) | (with_reducible refine Kd.C_drewN ?_ _) | (with_reducible refine Kd.C_drew ?_))); (case side4 => exact HC2.out); rintro e w14 ⟨rfl, hb⟩; refine ⟨_, rfl, ?_⟩; have n0_ := Aside0.mk (blk_below (pG_ BK187.out) hb); have n1_ := Aside0.mk (below_step (pH_ HB.out) hb); clear BK187; clear HB; have BK187 := n0_; have HB := n1_; clear n0_ n1_; (try clear hb)))
    (first | go_meet | (refine Met.intro ?_; go_step; (repeat apply Exists.intro); refine ⟨?rel, ?eqf_⟩; case eqf_ => ((simp only [c12b0]) <;> rfl)))
    case rel => exact ⟨_, (true), (by first | rfl | (simp; done) | (simp [*]; done)), H', ⟨by first | omega | exact Nat.le_refl _⟩, ⟨pG_ BK187.out⟩, ⟨pH_ HB.out⟩⟩
   ·
    rw [if_neg c12] at H; have c12b0 : decide (a3 < 0) = false := decide_eq_false c12; clear c12; (first | rw [c12b0] | (simp only [i64_w, i32_w]; rw [c12b0]) | skip)
    by_cases c15 : a3 > 4095
    ·
     rw [if_pos c15] at H; have c15b0 : decide (4095 < a3) = true := decide_eq_true c15; clear c15; have H' := Aside0.mk H; clear H; have hcz16_0 : w9.cell? ⟨gb187, 0, none⟩ = some (.slice A0_0 l0_0.length c0_0) := (blk_cell BK187.out 0).trans rfl; have hfz16_0 := blk_frozen BK187.out 0
     go_wp2_with (first | ((with_reducible refine gate_callee (f := 21) rfl ?_); refine gL_ (some 29) Tryd.func21 #[.agg #[.slice A0_0 l0_0.length c0_0], .int .i64 a1, .slice A2 l2.length c2] ?_; (with_reducible refine (bitloftlaw16_fit.calls k _ _ l0_0 a1 _ _ l2 true _ ?side1 ?side2 ?side3 ?side4 A10.out).mono ?_); (case side1 => repeat (first | exact (Kd.C_below HR0_0.out HB.out) | (with_reducible refine Kd.C_alloc ?_ _) | (with_reducible refine Kd.C_drewN ?_ _) | (with_reducible refine Kd.C_drew ?_))); (case side2 => exact HC0_0.out); (case side3 => repeat (first | exact (Kd.C_below HR2.out HB.out) | (with_reducible refine Kd.C_alloc ?_ _) | (with_reducible refine Kd.C_drewN ?_ _) | (with_reducible refine Kd.C_drew ?_))); (case side4 => exact HC2.out); rintro e w17 ⟨rfl, hb⟩; refine ⟨_, rfl, ?_⟩; have n0_ := Aside0.mk (blk_below (pG_ BK187.out) hb); have n1_ := Aside0.mk (below_step (pH_ HB.out) hb); clear BK187; clear HB; have BK187 := n0_; have HB := n1_; clear n0_ n1_; (try clear hb)))
     (first | go_meet | (refine Met.intro ?_; go_step; (repeat apply Exists.intro); refine ⟨?rel, ?eqf_⟩; case eqf_ => ((simp only [c15b0, c12b0]) <;> rfl)))
     case rel => exact ⟨_, (true), (by first | rfl | (simp; done) | (simp [*]; done)), H', ⟨by first | omega | exact Nat.le_refl _⟩, ⟨pG_ BK187.out⟩, ⟨pH_ HB.out⟩⟩
    ·
     rw [if_neg c15] at H; have c15b0 : decide (4095 < a3) = false := decide_eq_false c15; clear c15; have H' := Aside0.mk H; clear H; have hcz18_0 : w9.cell? ⟨gb187, 0, none⟩ = some (.slice A0_0 l0_0.length c0_0) := (blk_cell BK187.out 0).trans rfl; have hfz18_0 := blk_frozen BK187.out 0
     go_wp2_with (first | ((with_reducible refine gate_callee (f := 21) rfl ?_); refine gL_ (some 29) Tryd.func21 #[.agg #[.slice A0_0 l0_0.length c0_0], .int .i64 a1, .slice A2 l2.length c2] ?_; (with_reducible refine (bitloftlaw16_fit.calls k _ _ l0_0 a1 _ _ l2 true _ ?side1 ?side2 ?side3 ?side4 A10.out).mono ?_); (case side1 => repeat (first | exact (Kd.C_below HR0_0.out HB.out) | (with_reducible refine Kd.C_alloc ?_ _) | (with_reducible refine Kd.C_drewN ?_ _) | (with_reducible refine Kd.C_drew ?_))); (case side2 => exact HC0_0.out); (case side3 => repeat (first | exact (Kd.C_below HR2.out HB.out) | (with_reducible refine Kd.C_alloc ?_ _) | (with_reducible refine Kd.C_drewN ?_ _) | (with_reducible refine Kd.C_drew ?_))); (case side4 => exact HC2.out); rintro e w19 ⟨rfl, hb⟩; refine ⟨_, rfl, ?_⟩; have n0_ := Aside0.mk (blk_below (pG_ BK187.out) hb); have n1_ := Aside0.mk (below_step (pH_ HB.out) hb); clear BK187; clear HB; have BK187 := n0_; have HB := n1_; clear n0_ n1_; (try clear hb)))
     (first | go_meet | (refine Met.intro ?_; go_step; (repeat apply Exists.intro); refine ⟨?rel, ?eqf_⟩; case eqf_ => ((simp only [c15b0, c12b0]) <;> rfl)))
     case rel => exact ⟨_, (!true), (by first | rfl | (simp; done) | (simp [*]; done)), H', ⟨by first | omega | exact Nat.le_refl _⟩, ⟨pG_ BK187.out⟩, ⟨pH_ HB.out⟩⟩
  ·
   replace c11 := Bool.eq_false_iff.mpr c11
   subst c11
   have H1 : (bitloftlaw16_MixerSums.j0 k a1 l2 a3 a4 true l0_0) = some r := by rw [if_neg (show ¬ (false = true) by decide)] at H; exact H
   clear H; have H := H1; clear H1; have H' := Aside0.mk H; clear H; have hcz20_0 : w9.cell? ⟨gb187, 0, none⟩ = some (.slice A0_0 l0_0.length c0_0) := (blk_cell BK187.out 0).trans rfl; have hfz20_0 := blk_frozen BK187.out 0
   go_wp2_with (first | ((with_reducible refine gate_callee (f := 21) rfl ?_); refine gL_ (some 29) Tryd.func21 #[.agg #[.slice A0_0 l0_0.length c0_0], .int .i64 a1, .slice A2 l2.length c2] ?_; (with_reducible refine (bitloftlaw16_fit.calls k _ _ l0_0 a1 _ _ l2 false _ ?side1 ?side2 ?side3 ?side4 A10.out).mono ?_); (case side1 => repeat (first | exact (Kd.C_below HR0_0.out HB.out) | (with_reducible refine Kd.C_alloc ?_ _) | (with_reducible refine Kd.C_drewN ?_ _) | (with_reducible refine Kd.C_drew ?_))); (case side2 => exact HC0_0.out); (case side3 => repeat (first | exact (Kd.C_below HR2.out HB.out) | (with_reducible refine Kd.C_alloc ?_ _) | (with_reducible refine Kd.C_drewN ?_ _) | (with_reducible refine Kd.C_drew ?_))); (case side4 => exact HC2.out); rintro e w21 ⟨rfl, hb⟩; refine ⟨_, rfl, ?_⟩; have n0_ := Aside0.mk (blk_below (pG_ BK187.out) hb); have n1_ := Aside0.mk (below_step (pH_ HB.out) hb); clear BK187; clear HB; have BK187 := n0_; have HB := n1_; clear n0_ n1_; (try clear hb)))
   go_meet
   case rel => exact ⟨_, (true), (by first | rfl | (simp; done) | (simp [*]; done)), H', ⟨by first | omega | exact Nat.le_refl _⟩, ⟨pG_ BK187.out⟩, ⟨pH_ HB.out⟩⟩
 case rest =>
  as_aux_lemma =>
   (try (refine hKt_ _ _ ?_; clear hKt_; clear Kt_)); clear HC7
   try clear c1
   try clear c2
   try clear p2
   try clear c7
   try clear c11
   try clear c12
   try clear c12b0
   try clear c15
   try clear c15b0
   try clear c19
   try clear c21
   try clear hcz13_0
   try clear hcz16_0
   try clear hcz18_0
   try clear hcz20_0
   try clear hfz13_0
   try clear hfz16_0
   try clear hfz18_0
   try clear hfz20_0
   obtain ⟨kq, x42_6, rfl, HA, HJ6, BK187, HB⟩ := hcut
   cases kq with
   | zero => exact absurd HA.out (by simp [bitloftlaw16_MixerSums.j0])
   | succ kj6 =>
    have H := HA.out; clear HA; simp only [bitloftlaw16_MixerSums.j0] at H
    by_cases c22 : x42_6 = true
    ·
     subst c22
     have H1 : (some true) = some r := by rw [if_pos rfl] at H; exact H
     clear H; have H := H1; clear H1; obtain rfl := Option.some.inj H
     go_wp2
     go_ret
     exact ⟨by first | rfl | (simp [errW_none, errW_some] <;> rfl) | (simp [*, errW_none, errW_some] <;> rfl), pH_ HB.out⟩
    ·
     as_aux_lemma =>
      replace c22 := Bool.eq_false_iff.mpr c22
      subst c22
      have H1 : ((mixer_Mix.f kj6 l0_0 a1 l2).bind fun bt189 => ((mixer_Learn.f kj6 l0_0 a1 l2 a3 a4).bind fun bt192 => ((mixer_Wrong.f a3 a4).bind fun bt197 => (if 0 ≤ a1 then (if a1 < (l0_0.length : Int) then ((fixed_Dot.f kj6 (rd_L1 l0_0 a1) l2).bind fun bt200 => (if bt189.2.2 = 0 then (if bt192.2 = 0 then (if bt197.2 = 0 then (if bt200.2 = 0 then ((bitloftref16_Check.f kj6 bt192.1).bind fun t202 => (if t202 = 0 then (bitloftlaw16_MixerSums.j1 kj6 a1 l2 bt189.1 bt197.1 bt200.1 ((bt192.1.length : Int) != (l0_0.length : Int)) l0_0 bt192.1) else (bitloftlaw16_MixerSums.j1 kj6 a1 l2 bt189.1 bt197.1 bt200.1 true l0_0 bt192.1))) else (bitloftlaw16_MixerSums.j1 kj6 a1 l2 bt189.1 bt197.1 bt200.1 true l0_0 bt192.1)) else (bitloftlaw16_MixerSums.j1 kj6 a1 l2 bt189.1 bt197.1 bt200.1 true l0_0 bt192.1)) else (bitloftlaw16_MixerSums.j1 kj6 a1 l2 bt189.1 bt197.1 bt200.1 true l0_0 bt192.1)) else (bitloftlaw16_MixerSums.j1 kj6 a1 l2 bt189.1 bt197.1 bt200.1 true l0_0 bt192.1))) else (none)) else (none))))) = some r := by rw [if_neg (show ¬ (false = true) by decide)] at H; exact H
      clear H; have H := H1; clear H1; replace H := Option.bind_eq_some_iff.mp H; obtain ⟨⟨t189, t190, t191⟩, A230, H⟩ := H; replace H : ((mixer_Learn.f kj6 l0_0 a1 l2 a3 a4).bind fun bt192 => ((mixer_Wrong.f a3 a4).bind fun bt197 => (if 0 ≤ a1 then (if a1 < (l0_0.length : Int) then ((fixed_Dot.f kj6 (rd_L1 l0_0 a1) l2).bind fun bt200 => (if t191 = 0 then (if bt192.2 = 0 then (if bt197.2 = 0 then (if bt200.2 = 0 then ((bitloftref16_Check.f kj6 bt192.1).bind fun t202 => (if t202 = 0 then (bitloftlaw16_MixerSums.j1 kj6 a1 l2 t189 bt197.1 bt200.1 ((bt192.1.length : Int) != (l0_0.length : Int)) l0_0 bt192.1) else (bitloftlaw16_MixerSums.j1 kj6 a1 l2 t189 bt197.1 bt200.1 true l0_0 bt192.1))) else (bitloftlaw16_MixerSums.j1 kj6 a1 l2 t189 bt197.1 bt200.1 true l0_0 bt192.1)) else (bitloftlaw16_MixerSums.j1 kj6 a1 l2 t189 bt197.1 bt200.1 true l0_0 bt192.1)) else (bitloftlaw16_MixerSums.j1 kj6 a1 l2 t189 bt197.1 bt200.1 true l0_0 bt192.1)) else (bitloftlaw16_MixerSums.j1 kj6 a1 l2 t189 bt197.1 bt200.1 true l0_0 bt192.1))) else (none)) else (none)))) = some r := H; have A23 := Aside0.mk A230; clear A230; replace H := Option.bind_eq_some_iff.mp H; obtain ⟨⟨t192, t195⟩, A240, H⟩ := H; replace H : ((mixer_Wrong.f a3 a4).bind fun bt197 => (if 0 ≤ a1 then (if a1 < (l0_0.length : Int) then ((fixed_Dot.f kj6 (rd_L1 l0_0 a1) l2).bind fun bt200 => (if t191 = 0 then (if t195 = 0 then (if bt197.2 = 0 then (if bt200.2 = 0 then ((bitloftref16_Check.f kj6 t192).bind fun t202 => (if t202 = 0 then (bitloftlaw16_MixerSums.j1 kj6 a1 l2 t189 bt197.1 bt200.1 ((t192.length : Int) != (l0_0.length : Int)) l0_0 t192) else (bitloftlaw16_MixerSums.j1 kj6 a1 l2 t189 bt197.1 bt200.1 true l0_0 t192))) else (bitloftlaw16_MixerSums.j1 kj6 a1 l2 t189 bt197.1 bt200.1 true l0_0 t192)) else (bitloftlaw16_MixerSums.j1 kj6 a1 l2 t189 bt197.1 bt200.1 true l0_0 t192)) else (bitloftlaw16_MixerSums.j1 kj6 a1 l2 t189 bt197.1 bt200.1 true l0_0 t192)) else (bitloftlaw16_MixerSums.j1 kj6 a1 l2 t189 bt197.1 bt200.1 true l0_0 t192))) else (none)) else (none))) = some r := H; have A24 := Aside0.mk A240; clear A240; replace H := Option.bind_eq_some_iff.mp H; obtain ⟨⟨t197, t198⟩, A250, H⟩ := H; replace H : (if 0 ≤ a1 then (if a1 < (l0_0.length : Int) then ((fixed_Dot.f kj6 (rd_L1 l0_0 a1) l2).bind fun bt200 => (if t191 = 0 then (if t195 = 0 then (if t198 = 0 then (if bt200.2 = 0 then ((bitloftref16_Check.f kj6 t192).bind fun t202 => (if t202 = 0 then (bitloftlaw16_MixerSums.j1 kj6 a1 l2 t189 t197 bt200.1 ((t192.length : Int) != (l0_0.length : Int)) l0_0 t192) else (bitloftlaw16_MixerSums.j1 kj6 a1 l2 t189 t197 bt200.1 true l0_0 t192))) else (bitloftlaw16_MixerSums.j1 kj6 a1 l2 t189 t197 bt200.1 true l0_0 t192)) else (bitloftlaw16_MixerSums.j1 kj6 a1 l2 t189 t197 bt200.1 true l0_0 t192)) else (bitloftlaw16_MixerSums.j1 kj6 a1 l2 t189 t197 bt200.1 true l0_0 t192)) else (bitloftlaw16_MixerSums.j1 kj6 a1 l2 t189 t197 bt200.1 true l0_0 t192))) else (none)) else (none)) = some r := H; have A25 := Aside0.mk A250; clear A250
      by_cases c26 : 0 ≤ a1
      ·
       as_aux_lemma =>
        rw [if_pos c26] at H; have c26b0 : decide (0 ≤ a1) = true := decide_eq_true c26; clear c26
        by_cases c27 : a1 < (l0_0.length : Int)
        ·
         as_aux_lemma =>
          rw [if_pos c27] at H; have c27b0 : decide (a1 < (l0_0.length : Int)) = true := decide_eq_true c27; clear c27; replace H := Option.bind_eq_some_iff.mp H; obtain ⟨⟨t200, t201⟩, A280, H⟩ := H; replace H : (if t191 = 0 then (if t195 = 0 then (if t198 = 0 then (if t201 = 0 then ((bitloftref16_Check.f kj6 t192).bind fun t202 => (if t202 = 0 then (bitloftlaw16_MixerSums.j1 kj6 a1 l2 t189 t197 t200 ((t192.length : Int) != (l0_0.length : Int)) l0_0 t192) else (bitloftlaw16_MixerSums.j1 kj6 a1 l2 t189 t197 t200 true l0_0 t192))) else (bitloftlaw16_MixerSums.j1 kj6 a1 l2 t189 t197 t200 true l0_0 t192)) else (bitloftlaw16_MixerSums.j1 kj6 a1 l2 t189 t197 t200 true l0_0 t192)) else (bitloftlaw16_MixerSums.j1 kj6 a1 l2 t189 t197 t200 true l0_0 t192)) else (bitloftlaw16_MixerSums.j1 kj6 a1 l2 t189 t197 t200 true l0_0 t192)) = some r := H; have A28 := Aside0.mk A280; clear A280; have HC29 := Aside0.mk H; clear H; have hcz30_0 : wc.cell? ⟨gb187, 0, none⟩ = some (.slice A0_0 l0_0.length c0_0) := (blk_cell BK187.out 0).trans rfl; have hfz30_0 := blk_frozen BK187.out 0
          go_upto_region 8 with (first | ((with_reducible refine gate_callee (f := 11) rfl ?_); refine gL_ (some 48) Tryd.func11 #[.agg #[.slice A0_0 l0_0.length c0_0], .int .i64 a1, .slice A2 l2.length c2] ?_; (with_reducible refine (mixer_Mix.calls kj6 _ _ l0_0 a1 _ _ l2 t189 t190 t191 _ ?side1 ?side2 ?side3 ?side4 (tab_bel hT (pH_ HB.out)) A23.out).mono ?_); (case side1 => repeat (first | exact (Kd.C_below HR0_0.out HB.out) | (with_reducible refine Kd.C_alloc ?_ _) | (with_reducible refine Kd.C_drewN ?_ _) | (with_reducible refine Kd.C_drew ?_))); (case side2 => exact HC0_0.out); (case side3 => repeat (first | exact (Kd.C_below HR2.out HB.out) | (with_reducible refine Kd.C_alloc ?_ _) | (with_reducible refine Kd.C_drewN ?_ _) | (with_reducible refine Kd.C_drew ?_))); (case side4 => exact HC2.out); rintro e w31 ⟨rfl, hb⟩; refine ⟨_, rfl, ?_⟩; have n0_ := Aside0.mk (blk_below (pG_ BK187.out) hb); have n1_ := Aside0.mk (below_step (pH_ HB.out) hb); clear BK187; clear HB; have BK187 := n0_; have HB := n1_; clear n0_ n1_; (try clear hb); have hcz32_0 : w31.cell? ⟨gb187, 0, none⟩ = some (.slice A0_0 l0_0.length c0_0) := (blk_cell BK187.out 0).trans rfl; have hfz32_0 := blk_frozen BK187.out 0) | ((with_reducible refine gate_callee (f := 18) rfl ?_); refine gL_ (some 58) Tryd.func18 #[.agg #[.slice A0_0 l0_0.length c0_0], .int .i64 a1, .slice A2 l2.length c2, .int .i32 a3, .bool a4] ?_; (with_reducible refine (mixer_Learn.calls kj6 _ _ l0_0 a1 _ _ l2 a3 a4 t192 t195 _ ?side1 ?side2 ?side3 ?side4 A24.out).mono ?_); (case side1 => repeat (first | exact (Kd.C_below HR0_0.out HB.out) | (with_reducible refine Kd.C_alloc ?_ _) | (with_reducible refine Kd.C_drewN ?_ _) | (with_reducible refine Kd.C_drew ?_))); (case side2 => exact HC0_0.out); (case side3 => repeat (first | exact (Kd.C_below HR2.out HB.out) | (with_reducible refine Kd.C_alloc ?_ _) | (with_reducible refine Kd.C_drewN ?_ _) | (with_reducible refine Kd.C_drew ?_))); (case side4 => exact HC2.out); rintro e w33 ⟨v193, rfl, ho0, hb⟩; refine ⟨_, rfl, ?_⟩; have n0_ := Aside0.mk (Kd.S_lower ho0 (below_size (pH_ HB.out))); have n1_ := Aside0.mk (blk_below (pG_ BK187.out) hb); have n2_ := Aside0.mk (below_step (pH_ HB.out) hb); clear BK187; clear HB; have HO194 := n0_; have BK187 := n1_; have HB := n2_; clear n0_ n1_ n2_; (try clear hb); (try clear ho0)) | ((with_reducible refine gate_dst (N := 15) rfl ?_); (try (refine gate_guard (by rfl) ?_; dsimp only)); refine box_event ?hg (N := 15) ?hd (cs := #[.slice none 0 0]) (t := 24) ?hr ?_; (case hd => rfl); (case hg => rfl); (case hr => first | (go_simp; done) | (go_simp; rfl)); intro gb196 hg w34 hbox hb; have n0_ := Aside0.mk (Kd.S_below (by (with_reducible repeat (first | apply Kd.S_alloc | apply Kd.S_drewN | apply Kd.S_drew)); exact HO194.out) hb); have n1_ := Aside0.mk (blk_below (pG_ BK187.out) hb); have n2_ := Aside0.mk (below_step (pH_ HB.out) hb); have n3_ := Aside0.mk (hbox); have n4_ := Aside0.mk ((by rw [hg]; exact (below_size (pH_ HB.out)) : w.heap.size ≤ gb196)); have n5_ := Aside0.mk ((by rw [hg]; exact (below_size (pH_ HB.out)) : w.heap.size ≤ gb196)); have n6_ := Aside0.mk ((by rw [hg]; exact Nat.ne_of_lt (blk_lt (pG_ BK187.out)) : gb187 ≠ gb196)); have n7_ := Aside0.mk ((by rw [hg]; exact Nat.ne_of_gt (blk_lt (pG_ BK187.out)) : gb196 ≠ gb187)); clear HO194; clear BK187; clear HB; have HO194 := n0_; have BK187 := n1_; have HB := n2_; have BK196 := n3_; have GW196 := n4_; have GE196 := n5_; have NB187_196 := n6_; have NB196_187 := n7_; clear n0_ n1_ n2_ n3_ n4_ n5_ n6_ n7_; clear hb hbox hg; obtain ⟨Ao35, co35, eo35⟩ := Kd.S_slice HO194.out; subst eo35; have hnb36 := NB196_187.out; have hnc36 := NB187_196.out; have hcz37_0 : w34.cell? ⟨gb196, 0, none⟩ = some (.slice none 0 0) := (blk_cell BK196.out 0).trans rfl; have hfz37_0 := blk_frozen BK196.out 0) | ((with_reducible refine gate_callee (f := 13) rfl ?_); refine gL_ (some 64) Tryd.func13 #[.int .i32 a3, .bool a4] ?_; (with_reducible refine (mixer_Wrong.calls a3 a4 t197 t198 _ A25.out).mono ?_); rintro e w' ⟨rfl, ⟨nd, rfl⟩⟩; refine ⟨_, rfl, ?_⟩; have hcz38_0 : w34.cell? ⟨gb187, 0, none⟩ = some (.slice A0_0 l0_0.length c0_0) := (blk_cell BK187.out 0).trans rfl; have hfz38_0 := blk_frozen BK187.out 0; have p199 : 0 ≤ (a1 : Int) := of_decide_eq_true (by first | (with_reducible assumption) | assumption); have q199 : a1 < (l0_0.length : Int) := of_decide_eq_true (by first | (with_reducible assumption) | assumption); obtain ⟨ad199, A199_0, c199_0, e199, hx199_0, hl199_0, hi199_0⟩ := at_L1 HR0_0.out a1 p199 q199; cases e199; have hn199_0 : ad199.block ≠ gb196 := Nat.ne_of_lt (Nat.lt_of_lt_of_le (by have := World.block_lt_of_cell? _ _ hx199_0; first | rwa [add_block] at this | exact this) GW196.out); replace hx199_0 := (HB.out.cell (World.block_lt_of_cell? w _ hx199_0)).trans hx199_0; have HR199_0 := Aside0.mk hi199_0; have HC199_0 := Aside0.mk hl199_0; clear hi199_0 hl199_0; replace hx199_0 := (cell_far (p := ⟨gb196, 0, none⟩) (by first | (rw [add_block]; exact hn199_0) | (show (Addr.add _ _).block ≠ _; rw [add_block]; exact hn199_0) | exact hn199_0) (.slice Ao35 t192.length co35)).trans hx199_0; clear hn199_0; replace p199 := eq_true p199; replace q199 := eq_true q199) | ((with_reducible refine gate_callee (f := 23) rfl ?_); refine gL_ (some 74) Tryd.func23 #[.slice A199_0 (rd_L1 l0_0 a1).length c199_0, .slice A2 l2.length c2] ?_; (with_reducible refine (fixed_Dot.calls kj6 _ _ (rd_L1 l0_0 a1) _ _ l2 t200 t201 _ ?side1 ?side2 ?side3 ?side4 A28.out).mono ?_); (case side1 => exact Kd.C_below HR199_0.out (pH_ HB.out)); (case side2 => exact HC199_0.out); (case side3 => exact Kd.C_below HR2.out (pH_ HB.out)); (case side4 => exact HC2.out); rintro e w39 ⟨rfl, hb⟩; refine ⟨_, rfl, ?_⟩; have n0_ := Aside0.mk (Kd.S_below (by (with_reducible repeat (first | apply Kd.S_alloc | apply Kd.S_drewN | apply Kd.S_drew)); exact (Kd.S_mono (Kd.S_far (p := ⟨gb196, 0, none⟩) (Kd.S_types HO194.out BK196.out (by decide)) (fun _ hk => hk.2) (.slice Ao35 t192.length co35)) (fun _ h_ => h_.1))) hb); have n1_ := Aside0.mk (blk_below (g := gb187) (o := .cells #[.slice (some ad199) l0_0.length c0_0] 24 (0, 0)) (by (with_reducible repeat (first | refine blk_drewN ?_ _ | refine blk_drew ?_ | refine blk_alloc ?_ _)); refine blk_far ?_ NB187_196.out _; (with_reducible repeat (first | refine blk_drewN ?_ _ | refine blk_drew ?_ | refine blk_alloc ?_ _)); exact BK187.out) hb); have n2_ := Aside0.mk (blk_below (g := gb196) (o := .cells #[.slice Ao35 t192.length co35] 24 (0, 0)) (by (with_reducible repeat (first | refine blk_drewN ?_ _ | refine blk_drew ?_ | refine blk_alloc ?_ _)); refine blk_put (cs := #[.slice none 0 0]) ?_ 0 _ rfl; (with_reducible repeat (first | refine blk_drewN ?_ _ | refine blk_drew ?_ | refine blk_alloc ?_ _)); exact BK196.out) hb); have n3_ := Aside0.mk (below_step (pH_ HB.out) hb); clear HO194; clear BK187; clear BK196; clear HB; have HO194 := n0_; have BK187 := n1_; have BK196 := n2_; have HB := n3_; clear n0_ n1_ n2_ n3_; (try clear hb)))
          (try simp only [Act.put, sA_, sZ_, sS_]); (with_reducible first | refine then_id_ ?_ | (refine wp_tail_ ?_; intro Kt_ hKt_))
          go_cut [104] (fun v104 wc => ∃ (kq : Nat) (x104_28 : Bool), v104 = .bool x104_28 ∧ Aside0 (bitloftlaw16_MixerSums.j1 kq a1 l2 t189 t197 t200 x104_28 l0_0 t192 = some r) ∧ Aside0 (kq ≤ kj6) ∧ Aside0 (Kd.S (Kd.slice 21 (Kd.int .i32)) 25 wc w.heap.size (fun _ => True) (.slice Ao35 t192.length co35) t192) ∧ Aside0 (wc.heap[gb187]? = some (.cells #[(.slice (some ad199) l0_0.length c0_0)] 24 (0, 0))) ∧ Aside0 (wc.heap[gb196]? = some (.cells #[(.slice Ao35 t192.length co35)] 24 (0, 0))) ∧ Aside0 (Below w.heap.size w wc))
          case first =>
           have H := HC29.out; clear HC29
           by_cases c40 : t191 = 0
           ·
            rw [if_pos c40] at H; have c40b0 : (t191 == 0) = true := beq_iff_eq.mpr c40; have c40b1 : (t191 != 0) = false := bne_eq_false_iff_eq.mpr c40; clear c40; (first | rw [c40b0] | (simp only [i64_w, i32_w]; rw [c40b0]) | skip)
            by_cases c41 : t195 = 0
            ·
             rw [if_pos c41] at H; have c41b0 : (t195 == 0) = true := beq_iff_eq.mpr c41; have c41b1 : (t195 != 0) = false := bne_eq_false_iff_eq.mpr c41; clear c41
             by_cases c42 : t198 = 0
             ·
              rw [if_pos c42] at H; have c42b0 : (t198 == 0) = true := beq_iff_eq.mpr c42; have c42b1 : (t198 != 0) = false := bne_eq_false_iff_eq.mpr c42; clear c42
              by_cases c43 : t201 = 0
              ·
               rw [if_pos c43] at H; have c43b0 : (t201 == 0) = true := beq_iff_eq.mpr c43; have c43b1 : (t201 != 0) = false := bne_eq_false_iff_eq.mpr c43; clear c43; replace H := Option.bind_eq_some_iff.mp H; obtain ⟨t202, A440, H⟩ := H; replace H : (if t202 = 0 then (bitloftlaw16_MixerSums.j1 kj6 a1 l2 t189 t197 t200 ((t192.length : Int) != (l0_0.length : Int)) l0_0 t192) else (bitloftlaw16_MixerSums.j1 kj6 a1 l2 t189 t197 t200 true l0_0 t192)) = some r := H; have A44 := Aside0.mk A440; clear A440
               by_cases c45 : t202 = 0
               ·
                rw [if_pos c45] at H; have c45b0 : (t202 == 0) = true := beq_iff_eq.mpr c45; have c45b1 : (t202 != 0) = false := bne_eq_false_iff_eq.mpr c45; clear c45; have H' := Aside0.mk H; clear H; have hnb46 := NB196_187.out; have hnc46 := NB187_196.out; have hcz47_0 : w39.cell? ⟨gb196, 0, none⟩ = some (.slice Ao35 t192.length co35) := (blk_cell BK196.out 0).trans rfl; have hfz47_0 := blk_frozen BK196.out 0
                go_wp2_with (first | (go_at_call 17; (with_reducible refine (bitloftref16_Check.calls kj6 _ _ t192 t202 _ ?side1 ?side2 A44.out).mono ?_); (case side1 => repeat (first | exact (Kd.S_reads' HO194.out).2.2 | (with_reducible refine Kd.C_alloc ?_ _) | (with_reducible refine Kd.C_drewN ?_ _) | (with_reducible refine Kd.C_drew ?_))); (case side2 => exact (Kd.S_reads' HO194.out).2.1); rintro e w48 ⟨rfl, hb⟩; have n0_ := Aside0.mk (Kd.S_below (by (with_reducible repeat (first | apply Kd.S_alloc | apply Kd.S_drewN | apply Kd.S_drew)); exact HO194.out) hb); have n1_ := Aside0.mk (blk_below (pG_ BK187.out) hb); have n2_ := Aside0.mk (blk_below (pG_ BK196.out) hb); have n3_ := Aside0.mk (below_step (pH_ HB.out) hb); clear HO194; clear BK187; clear BK196; clear HB; have HO194 := n0_; have BK187 := n1_; have BK196 := n2_; have HB := n3_; clear n0_ n1_ n2_ n3_; (try clear hb); have hcz49_0 : w48.cell? ⟨gb196, 0, none⟩ = some (.slice Ao35 t192.length co35) := (blk_cell BK196.out 0).trans rfl; have hfz49_0 := blk_frozen BK196.out 0; have hcz50_0 : w48.cell? ⟨gb187, 0, none⟩ = some (.slice (some ad199) l0_0.length c0_0) := (blk_cell BK187.out 0).trans rfl; have hfz50_0 := blk_frozen BK187.out 0))
                (first | go_meet | (refine Met.intro ?_; go_step; (repeat apply Exists.intro); refine ⟨?rel, ?eqf_⟩; case eqf_ => ((simp only [c45b0, c43b0, c42b0, c41b0, c40b0, c27b0, c26b0]) <;> rfl)))
                case rel => exact ⟨_, (((t192.length : Int) != (l0_0.length : Int))), (by first | rfl | (simp; done) | (simp [*]; done)), H', ⟨by have := HJ6.out; first | omega | exact Nat.le_refl _⟩, ⟨by (with_reducible repeat (first | apply Kd.S_alloc | apply Kd.S_drewN | apply Kd.S_drew)); exact HO194.out⟩, ⟨pG_ BK187.out⟩, ⟨pG_ BK196.out⟩, ⟨pH_ HB.out⟩⟩
               ·
                rw [if_neg c45] at H; have c45b0 : (t202 == 0) = false := beq_eq_false_iff_ne.mpr c45; have c45b1 : (t202 != 0) = true := bne_iff_ne.mpr c45; exact absurd (H.trans (congrArg some HRT_.out)) (by first | (simp; done) | (generalize kj6 = k_; cases k_ <;> simp [bitloftlaw16_MixerSums.j0, bitloftlaw16_MixerSums.j1, bitloftlaw16_MixerSums.j2, bitloftlaw16_MixerSums.l0, bitloftlaw16_MixerSums.j5, bitloftlaw16_MixerSums.j4]))
              ·
               rw [if_neg c43] at H; have c43b0 : (t201 == 0) = false := beq_eq_false_iff_ne.mpr c43; have c43b1 : (t201 != 0) = true := bne_iff_ne.mpr c43; exact absurd (H.trans (congrArg some HRT_.out)) (by first | (simp; done) | (generalize kj6 = k_; cases k_ <;> simp [bitloftlaw16_MixerSums.j0, bitloftlaw16_MixerSums.j1, bitloftlaw16_MixerSums.j2, bitloftlaw16_MixerSums.l0, bitloftlaw16_MixerSums.j5, bitloftlaw16_MixerSums.j4]))
             ·
              rw [if_neg c42] at H; have c42b0 : (t198 == 0) = false := beq_eq_false_iff_ne.mpr c42; have c42b1 : (t198 != 0) = true := bne_iff_ne.mpr c42; exact absurd (H.trans (congrArg some HRT_.out)) (by first | (simp; done) | (generalize kj6 = k_; cases k_ <;> simp [bitloftlaw16_MixerSums.j0, bitloftlaw16_MixerSums.j1, bitloftlaw16_MixerSums.j2, bitloftlaw16_MixerSums.l0, bitloftlaw16_MixerSums.j5, bitloftlaw16_MixerSums.j4]))
            ·
             rw [if_neg c41] at H; have c41b0 : (t195 == 0) = false := beq_eq_false_iff_ne.mpr c41; have c41b1 : (t195 != 0) = true := bne_iff_ne.mpr c41; exact absurd (H.trans (congrArg some HRT_.out)) (by first | (simp; done) | (generalize kj6 = k_; cases k_ <;> simp [bitloftlaw16_MixerSums.j0, bitloftlaw16_MixerSums.j1, bitloftlaw16_MixerSums.j2, bitloftlaw16_MixerSums.l0, bitloftlaw16_MixerSums.j5, bitloftlaw16_MixerSums.j4]))
           ·
            rw [if_neg c40] at H; have c40b0 : (t191 == 0) = false := beq_eq_false_iff_ne.mpr c40; have c40b1 : (t191 != 0) = true := bne_iff_ne.mpr c40; (first | rw [c40b0] | (simp only [i64_w, i32_w]; rw [c40b0]) | skip); exact absurd (H.trans (congrArg some HRT_.out)) (by first | (simp; done) | (generalize kj6 = k_; cases k_ <;> simp [bitloftlaw16_MixerSums.j0, bitloftlaw16_MixerSums.j1, bitloftlaw16_MixerSums.j2, bitloftlaw16_MixerSums.l0, bitloftlaw16_MixerSums.j5, bitloftlaw16_MixerSums.j4]))
          case rest =>
           as_aux_lemma =>
            (try (refine hKt_ _ _ ?_; clear hKt_; clear Kt_)); clear HC29
            try clear c1
            try clear p1
            try clear q1
            try clear hx1
            try clear c2
            try clear p2
            try clear c3
            try clear c4
            try clear c7
            try clear c11
            try clear c12
            try clear c12b0
            try clear c13
            try clear c15
            try clear c15b0
            try clear c18
            try clear c19
            try clear p19
            try clear q19
            try clear hx19
            try clear c21
            try clear c22
            try clear c23
            try clear c26
            try clear c26b0
            try clear c27
            try clear c27b0
            try clear c36
            try clear c40
            try clear c40b0
            try clear c40b1
            try clear c41
            try clear c41b0
            try clear c41b1
            try clear c42
            try clear c42b0
            try clear c42b1
            try clear c43
            try clear c43b0
            try clear c43b1
            try clear c45
            try clear c45b0
            try clear c45b1
            try clear c46
            try clear hcz13_0
            try clear hcz16_0
            try clear hcz18_0
            try clear hcz20_0
            try clear hcz30_0
            try clear hcz32_0
            try clear hcz37_0
            try clear hcz38_0
            try clear hcz47_0
            try clear hcz49_0
            try clear hcz50_0
            try clear hfz13_0
            try clear hfz16_0
            try clear hfz18_0
            try clear hfz20_0
            try clear hfz30_0
            try clear hfz32_0
            try clear hfz37_0
            try clear hfz38_0
            try clear hfz47_0
            try clear hfz49_0
            try clear hfz50_0
            try clear hx199_0
            try clear p199
            try clear p2
            try clear q199
            obtain ⟨kq, x104_28, rfl, HA, HJ28, HO_197000, BK187, BK196, HB⟩ := hcut
            cases kq with
            | zero => exact absurd HA.out (by simp [bitloftlaw16_MixerSums.j1])
            | succ kj28 =>
             have H := HA.out; clear HA; simp only [bitloftlaw16_MixerSums.j1] at H
             by_cases c51 : x104_28 = true
             ·
              subst c51
              have H1 : (some false) = some r := by rw [if_pos rfl] at H; exact H
              clear H; have H := H1; clear H1; exact absurd (H.trans (congrArg some HRT_.out)) (by simp)
             ·
              as_aux_lemma =>
               replace c51 := Bool.eq_false_iff.mpr c51
               subst c51
               have H1 : (if t189 > (-2047) then (if t189 < 2047 then (if (wrap64 ((wrap64 (t189)) * 65536)) > (wrap64 (t200)) then (bitloftlaw16_MixerSums.j2 kj28 a1 l2 t197 true l0_0 t192) else (if (wrap64 ((wrap64 ((wrap64 (t189)) * 65536)) + 65535)) < (wrap64 (t200)) then (bitloftlaw16_MixerSums.j2 kj28 a1 l2 t197 true l0_0 t192) else (if t189 = 2047 then (if (wrap64 (t200)) < 134152192 then (bitloftlaw16_MixerSums.j2 kj28 a1 l2 t197 true l0_0 t192) else (if t189 = (-2047) then (bitloftlaw16_MixerSums.j2 kj28 a1 l2 t197 (decide ((wrap64 (t200)) > (-134086657))) l0_0 t192) else (bitloftlaw16_MixerSums.j2 kj28 a1 l2 t197 false l0_0 t192))) else (if t189 = (-2047) then (bitloftlaw16_MixerSums.j2 kj28 a1 l2 t197 (decide ((wrap64 (t200)) > (-134086657))) l0_0 t192) else (bitloftlaw16_MixerSums.j2 kj28 a1 l2 t197 false l0_0 t192))))) else (if t189 = 2047 then (if (wrap64 (t200)) < 134152192 then (bitloftlaw16_MixerSums.j2 kj28 a1 l2 t197 true l0_0 t192) else (if t189 = (-2047) then (bitloftlaw16_MixerSums.j2 kj28 a1 l2 t197 (decide ((wrap64 (t200)) > (-134086657))) l0_0 t192) else (bitloftlaw16_MixerSums.j2 kj28 a1 l2 t197 false l0_0 t192))) else (if t189 = (-2047) then (bitloftlaw16_MixerSums.j2 kj28 a1 l2 t197 (decide ((wrap64 (t200)) > (-134086657))) l0_0 t192) else (bitloftlaw16_MixerSums.j2 kj28 a1 l2 t197 false l0_0 t192)))) else (if t189 = 2047 then (if (wrap64 (t200)) < 134152192 then (bitloftlaw16_MixerSums.j2 kj28 a1 l2 t197 true l0_0 t192) else (if t189 = (-2047) then (bitloftlaw16_MixerSums.j2 kj28 a1 l2 t197 (decide ((wrap64 (t200)) > (-134086657))) l0_0 t192) else (bitloftlaw16_MixerSums.j2 kj28 a1 l2 t197 false l0_0 t192))) else (if t189 = (-2047) then (bitloftlaw16_MixerSums.j2 kj28 a1 l2 t197 (decide ((wrap64 (t200)) > (-134086657))) l0_0 t192) else (bitloftlaw16_MixerSums.j2 kj28 a1 l2 t197 false l0_0 t192)))) = some r := by rw [if_neg (show ¬ (false = true) by decide)] at H; exact H
               clear H; have H := H1; clear H1; have HC52 := Aside0.mk H; clear H
               go_upto_region 10 with (fail)
               (with_reducible first | refine then_id_ ?_ | (refine wp_tail_ ?_; intro Kt_ hKt_))
               go_cut [145] (fun v145 wc => ∃ (kq : Nat) (x145_51 : Bool), v145 = .bool x145_51 ∧ Aside0 (bitloftlaw16_MixerSums.j2 kq a1 l2 t197 x145_51 l0_0 t192 = some r) ∧ Aside0 (kq ≤ kj28) ∧ Aside0 (Kd.S (Kd.slice 21 (Kd.int .i32)) 25 wc w.heap.size (fun _ => True) (.slice Ao35 t192.length co35) t192) ∧ Aside0 (wc.heap[gb187]? = some (.cells #[(.slice (some ad199) l0_0.length c0_0)] 24 (0, 0))) ∧ Aside0 (wc.heap[gb196]? = some (.cells #[(.slice Ao35 t192.length co35)] 24 (0, 0))) ∧ Aside0 (Below w.heap.size w wc))
               case first =>
                as_aux_lemma =>
                 have H := HC52.out; clear HC52
                 by_cases c53 : t189 > (-2047)
                 ·
                  as_aux_lemma =>
                   rw [if_pos c53] at H; have c53b0 : decide ((-2047) < t189) = true := decide_eq_true c53; clear c53; (first | rw [c53b0] | (simp only [i64_w, i32_w]; rw [c53b0]) | skip)
                   by_cases c54 : t189 < 2047
                   ·
                    rw [if_pos c54] at H; have c54b0 : decide (t189 < 2047) = true := decide_eq_true c54; clear c54
                    by_cases c55 : (wrap64 ((wrap64 (t189)) * 65536)) > (wrap64 (t200))
                    ·
                     rw [if_pos c55] at H; have c55b0 : decide ((wrap64 (t200)) < (wrap64 ((wrap64 (t189)) * 65536))) = true := decide_eq_true c55; clear c55; exact absurd (H.trans (congrArg some HRT_.out)) (by first | (simp; done) | (generalize kj28 = k_; cases k_ <;> simp [bitloftlaw16_MixerSums.j0, bitloftlaw16_MixerSums.j1, bitloftlaw16_MixerSums.j2, bitloftlaw16_MixerSums.l0, bitloftlaw16_MixerSums.j5, bitloftlaw16_MixerSums.j4]))
                    ·
                     rw [if_neg c55] at H; have c55b0 : decide ((wrap64 (t200)) < (wrap64 ((wrap64 (t189)) * 65536))) = false := decide_eq_false c55; clear c55
                     by_cases c56 : (wrap64 ((wrap64 ((wrap64 (t189)) * 65536)) + 65535)) < (wrap64 (t200))
                     ·
                      rw [if_pos c56] at H; have c56b0 : decide ((wrap64 ((wrap64 ((wrap64 (t189)) * 65536)) + 65535)) < (wrap64 (t200))) = true := decide_eq_true c56; clear c56; exact absurd (H.trans (congrArg some HRT_.out)) (by first | (simp; done) | (generalize kj28 = k_; cases k_ <;> simp [bitloftlaw16_MixerSums.j0, bitloftlaw16_MixerSums.j1, bitloftlaw16_MixerSums.j2, bitloftlaw16_MixerSums.l0, bitloftlaw16_MixerSums.j5, bitloftlaw16_MixerSums.j4]))
                     ·
                      rw [if_neg c56] at H; have c56b0 : decide ((wrap64 ((wrap64 ((wrap64 (t189)) * 65536)) + 65535)) < (wrap64 (t200))) = false := decide_eq_false c56; clear c56
                      by_cases c57 : t189 = 2047
                      ·
                       rw [if_pos c57] at H; have c57b0 : (t189 == 2047) = true := beq_iff_eq.mpr c57; have c57b1 : (t189 != 2047) = false := bne_eq_false_iff_eq.mpr c57; clear c57
                       by_cases c58 : (wrap64 (t200)) < 134152192
                       ·
                        rw [if_pos c58] at H; have c58b0 : decide ((wrap64 (t200)) < 134152192) = true := decide_eq_true c58; clear c58; exact absurd (H.trans (congrArg some HRT_.out)) (by first | (simp; done) | (generalize kj28 = k_; cases k_ <;> simp [bitloftlaw16_MixerSums.j0, bitloftlaw16_MixerSums.j1, bitloftlaw16_MixerSums.j2, bitloftlaw16_MixerSums.l0, bitloftlaw16_MixerSums.j5, bitloftlaw16_MixerSums.j4]))
                       ·
                        rw [if_neg c58] at H; have c58b0 : decide ((wrap64 (t200)) < 134152192) = false := decide_eq_false c58; clear c58
                        by_cases c59 : t189 = (-2047)
                        ·
                         rw [if_pos c59] at H; have c59b0 : (t189 == (-2047)) = true := beq_iff_eq.mpr c59; have c59b1 : (t189 != (-2047)) = false := bne_eq_false_iff_eq.mpr c59; clear c59; have H' := Aside0.mk H; clear H
                         go_wp2
                         (first | go_meet | (refine Met.intro ?_; go_step; (repeat apply Exists.intro); refine ⟨?rel, ?eqf_⟩; case eqf_ => ((simp only [c59b0, c58b0, c57b0, c56b0, c55b0, c54b0, c53b0]) <;> rfl)))
                         case rel => exact ⟨_, (decide ((wrap64 (t200)) > (-134086657))), (by first | rfl | (simp; done) | (simp [*]; done)), H', ⟨by have := HJ6.out; have := HJ28.out; first | omega | exact Nat.le_refl _⟩, ⟨by (with_reducible repeat (first | apply Kd.S_alloc | apply Kd.S_drewN | apply Kd.S_drew)); exact HO_197000.out⟩, ⟨pG_ BK187.out⟩, ⟨pG_ BK196.out⟩, ⟨pH_ HB.out⟩⟩
                        ·
                         rw [if_neg c59] at H; have c59b0 : (t189 == (-2047)) = false := beq_eq_false_iff_ne.mpr c59; have c59b1 : (t189 != (-2047)) = true := bne_iff_ne.mpr c59; have H' := Aside0.mk H; clear H
                         go_wp2
                         (first | go_meet | (refine Met.intro ?_; go_step; (repeat apply Exists.intro); refine ⟨?rel, ?eqf_⟩; case eqf_ => ((simp only [c59b0, c58b0, c57b0, c56b0, c55b0, c54b0, c53b0]) <;> rfl)))
                         case rel => exact ⟨_, (false), (by first | rfl | (simp; done) | (simp [*]; done)), H', ⟨by have := HJ6.out; have := HJ28.out; first | omega | exact Nat.le_refl _⟩, ⟨by (with_reducible repeat (first | apply Kd.S_alloc | apply Kd.S_drewN | apply Kd.S_drew)); exact HO_197000.out⟩, ⟨pG_ BK187.out⟩, ⟨pG_ BK196.out⟩, ⟨pH_ HB.out⟩⟩
                      ·
                       rw [if_neg c57] at H; have c57b0 : (t189 == 2047) = false := beq_eq_false_iff_ne.mpr c57; have c57b1 : (t189 != 2047) = true := bne_iff_ne.mpr c57
                       by_cases c60 : t189 = (-2047)
                       ·
                        rw [if_pos c60] at H; have c60b0 : (t189 == (-2047)) = true := beq_iff_eq.mpr c60; have c60b1 : (t189 != (-2047)) = false := bne_eq_false_iff_eq.mpr c60; clear c60; have H' := Aside0.mk H; clear H
                        go_wp2
                        (first | go_meet | (refine Met.intro ?_; go_step; (repeat apply Exists.intro); refine ⟨?rel, ?eqf_⟩; case eqf_ => ((simp only [c60b0, c57b0, c56b0, c55b0, c54b0, c53b0]) <;> rfl)))
                        case rel => exact ⟨_, (decide ((wrap64 (t200)) > (-134086657))), (by first | rfl | (simp; done) | (simp [*]; done)), H', ⟨by have := HJ6.out; have := HJ28.out; first | omega | exact Nat.le_refl _⟩, ⟨by (with_reducible repeat (first | apply Kd.S_alloc | apply Kd.S_drewN | apply Kd.S_drew)); exact HO_197000.out⟩, ⟨pG_ BK187.out⟩, ⟨pG_ BK196.out⟩, ⟨pH_ HB.out⟩⟩
                       ·
                        rw [if_neg c60] at H; have c60b0 : (t189 == (-2047)) = false := beq_eq_false_iff_ne.mpr c60; have c60b1 : (t189 != (-2047)) = true := bne_iff_ne.mpr c60; have H' := Aside0.mk H; clear H
                        go_wp2
                        (first | go_meet | (refine Met.intro ?_; go_step; (repeat apply Exists.intro); refine ⟨?rel, ?eqf_⟩; case eqf_ => ((simp only [c60b0, c57b0, c56b0, c55b0, c54b0, c53b0]) <;> rfl)))
                        case rel => exact ⟨_, (false), (by first | rfl | (simp; done) | (simp [*]; done)), H', ⟨by have := HJ6.out; have := HJ28.out; first | omega | exact Nat.le_refl _⟩, ⟨by (with_reducible repeat (first | apply Kd.S_alloc | apply Kd.S_drewN | apply Kd.S_drew)); exact HO_197000.out⟩, ⟨pG_ BK187.out⟩, ⟨pG_ BK196.out⟩, ⟨pH_ HB.out⟩⟩
                   ·
                    rw [if_neg c54] at H; have c54b0 : decide (t189 < 2047) = false := decide_eq_false c54; clear c54
                    by_cases c61 : t189 = 2047
                    ·
                     rw [if_pos c61] at H; have c61b0 : (t189 == 2047) = true := beq_iff_eq.mpr c61; have c61b1 : (t189 != 2047) = false := bne_eq_false_iff_eq.mpr c61; clear c61
                     by_cases c62 : (wrap64 (t200)) < 134152192
                     ·
                      rw [if_pos c62] at H; have c62b0 : decide ((wrap64 (t200)) < 134152192) = true := decide_eq_true c62; clear c62; exact absurd (H.trans (congrArg some HRT_.out)) (by first | (simp; done) | (generalize kj28 = k_; cases k_ <;> simp [bitloftlaw16_MixerSums.j0, bitloftlaw16_MixerSums.j1, bitloftlaw16_MixerSums.j2, bitloftlaw16_MixerSums.l0, bitloftlaw16_MixerSums.j5, bitloftlaw16_MixerSums.j4]))
                     ·
                      rw [if_neg c62] at H; have c62b0 : decide ((wrap64 (t200)) < 134152192) = false := decide_eq_false c62; clear c62
                      by_cases c63 : t189 = (-2047)
                      ·
                       rw [if_pos c63] at H; have c63b0 : (t189 == (-2047)) = true := beq_iff_eq.mpr c63; have c63b1 : (t189 != (-2047)) = false := bne_eq_false_iff_eq.mpr c63; clear c63; have H' := Aside0.mk H; clear H
                       go_wp2
                       (first | go_meet | (refine Met.intro ?_; go_step; (repeat apply Exists.intro); refine ⟨?rel, ?eqf_⟩; case eqf_ => ((simp only [c63b0, c62b0, c61b0, c54b0, c53b0]) <;> rfl)))
                       case rel => exact ⟨_, (decide ((wrap64 (t200)) > (-134086657))), (by first | rfl | (simp; done) | (simp [*]; done)), H', ⟨by have := HJ6.out; have := HJ28.out; first | omega | exact Nat.le_refl _⟩, ⟨by (with_reducible repeat (first | apply Kd.S_alloc | apply Kd.S_drewN | apply Kd.S_drew)); exact HO_197000.out⟩, ⟨pG_ BK187.out⟩, ⟨pG_ BK196.out⟩, ⟨pH_ HB.out⟩⟩
                      ·
                       rw [if_neg c63] at H; have c63b0 : (t189 == (-2047)) = false := beq_eq_false_iff_ne.mpr c63; have c63b1 : (t189 != (-2047)) = true := bne_iff_ne.mpr c63; have H' := Aside0.mk H; clear H
                       go_wp2
                       (first | go_meet | (refine Met.intro ?_; go_step; (repeat apply Exists.intro); refine ⟨?rel, ?eqf_⟩; case eqf_ => ((simp only [c63b0, c62b0, c61b0, c54b0, c53b0]) <;> rfl)))
                       case rel => exact ⟨_, (false), (by first | rfl | (simp; done) | (simp [*]; done)), H', ⟨by have := HJ6.out; have := HJ28.out; first | omega | exact Nat.le_refl _⟩, ⟨by (with_reducible repeat (first | apply Kd.S_alloc | apply Kd.S_drewN | apply Kd.S_drew)); exact HO_197000.out⟩, ⟨pG_ BK187.out⟩, ⟨pG_ BK196.out⟩, ⟨pH_ HB.out⟩⟩
                    ·
                     rw [if_neg c61] at H; have c61b0 : (t189 == 2047) = false := beq_eq_false_iff_ne.mpr c61; have c61b1 : (t189 != 2047) = true := bne_iff_ne.mpr c61
                     by_cases c64 : t189 = (-2047)
                     ·
                      rw [if_pos c64] at H; have c64b0 : (t189 == (-2047)) = true := beq_iff_eq.mpr c64; have c64b1 : (t189 != (-2047)) = false := bne_eq_false_iff_eq.mpr c64; clear c64; have H' := Aside0.mk H; clear H
                      go_wp2
                      (first | go_meet | (refine Met.intro ?_; go_step; (repeat apply Exists.intro); refine ⟨?rel, ?eqf_⟩; case eqf_ => ((simp only [c64b0, c61b0, c54b0, c53b0]) <;> rfl)))
                      case rel => exact ⟨_, (decide ((wrap64 (t200)) > (-134086657))), (by first | rfl | (simp; done) | (simp [*]; done)), H', ⟨by have := HJ6.out; have := HJ28.out; first | omega | exact Nat.le_refl _⟩, ⟨by (with_reducible repeat (first | apply Kd.S_alloc | apply Kd.S_drewN | apply Kd.S_drew)); exact HO_197000.out⟩, ⟨pG_ BK187.out⟩, ⟨pG_ BK196.out⟩, ⟨pH_ HB.out⟩⟩
                     ·
                      rw [if_neg c64] at H; have c64b0 : (t189 == (-2047)) = false := beq_eq_false_iff_ne.mpr c64; have c64b1 : (t189 != (-2047)) = true := bne_iff_ne.mpr c64; have H' := Aside0.mk H; clear H
                      go_wp2
                      (first | go_meet | (refine Met.intro ?_; go_step; (repeat apply Exists.intro); refine ⟨?rel, ?eqf_⟩; case eqf_ => ((simp only [c64b0, c61b0, c54b0, c53b0]) <;> rfl)))
                      case rel => exact ⟨_, (false), (by first | rfl | (simp; done) | (simp [*]; done)), H', ⟨by have := HJ6.out; have := HJ28.out; first | omega | exact Nat.le_refl _⟩, ⟨by (with_reducible repeat (first | apply Kd.S_alloc | apply Kd.S_drewN | apply Kd.S_drew)); exact HO_197000.out⟩, ⟨pG_ BK187.out⟩, ⟨pG_ BK196.out⟩, ⟨pH_ HB.out⟩⟩
                 ·
                  rw [if_neg c53] at H; have c53b0 : decide ((-2047) < t189) = false := decide_eq_false c53; clear c53; (first | rw [c53b0] | (simp only [i64_w, i32_w]; rw [c53b0]) | skip)
                  by_cases c65 : t189 = 2047
                  ·
                   rw [if_pos c65] at H; have c65b0 : (t189 == 2047) = true := beq_iff_eq.mpr c65; have c65b1 : (t189 != 2047) = false := bne_eq_false_iff_eq.mpr c65; clear c65
                   by_cases c66 : (wrap64 (t200)) < 134152192
                   ·
                    rw [if_pos c66] at H; have c66b0 : decide ((wrap64 (t200)) < 134152192) = true := decide_eq_true c66; clear c66; exact absurd (H.trans (congrArg some HRT_.out)) (by first | (simp; done) | (generalize kj28 = k_; cases k_ <;> simp [bitloftlaw16_MixerSums.j0, bitloftlaw16_MixerSums.j1, bitloftlaw16_MixerSums.j2, bitloftlaw16_MixerSums.l0, bitloftlaw16_MixerSums.j5, bitloftlaw16_MixerSums.j4]))
                   ·
                    rw [if_neg c66] at H; have c66b0 : decide ((wrap64 (t200)) < 134152192) = false := decide_eq_false c66; clear c66
                    by_cases c67 : t189 = (-2047)
                    ·
                     rw [if_pos c67] at H; have c67b0 : (t189 == (-2047)) = true := beq_iff_eq.mpr c67; have c67b1 : (t189 != (-2047)) = false := bne_eq_false_iff_eq.mpr c67; clear c67; have H' := Aside0.mk H; clear H
                     go_wp2
                     (first | go_meet | (refine Met.intro ?_; go_step; (repeat apply Exists.intro); refine ⟨?rel, ?eqf_⟩; case eqf_ => ((simp only [c67b0, c66b0, c65b0, c53b0]) <;> rfl)))
                     case rel => exact ⟨_, (decide ((wrap64 (t200)) > (-134086657))), (by first | rfl | (simp; done) | (simp [*]; done)), H', ⟨by have := HJ6.out; have := HJ28.out; first | omega | exact Nat.le_refl _⟩, ⟨by (with_reducible repeat (first | apply Kd.S_alloc | apply Kd.S_drewN | apply Kd.S_drew)); exact HO_197000.out⟩, ⟨pG_ BK187.out⟩, ⟨pG_ BK196.out⟩, ⟨pH_ HB.out⟩⟩
                    ·
                     rw [if_neg c67] at H; have c67b0 : (t189 == (-2047)) = false := beq_eq_false_iff_ne.mpr c67; have c67b1 : (t189 != (-2047)) = true := bne_iff_ne.mpr c67; have H' := Aside0.mk H; clear H
                     go_wp2
                     (first | go_meet | (refine Met.intro ?_; go_step; (repeat apply Exists.intro); refine ⟨?rel, ?eqf_⟩; case eqf_ => ((simp only [c67b0, c66b0, c65b0, c53b0]) <;> rfl)))
                     case rel => exact ⟨_, (false), (by first | rfl | (simp; done) | (simp [*]; done)), H', ⟨by have := HJ6.out; have := HJ28.out; first | omega | exact Nat.le_refl _⟩, ⟨by (with_reducible repeat (first | apply Kd.S_alloc | apply Kd.S_drewN | apply Kd.S_drew)); exact HO_197000.out⟩, ⟨pG_ BK187.out⟩, ⟨pG_ BK196.out⟩, ⟨pH_ HB.out⟩⟩
                  ·
                   rw [if_neg c65] at H; have c65b0 : (t189 == 2047) = false := beq_eq_false_iff_ne.mpr c65; have c65b1 : (t189 != 2047) = true := bne_iff_ne.mpr c65
                   by_cases c68 : t189 = (-2047)
                   ·
                    rw [if_pos c68] at H; have c68b0 : (t189 == (-2047)) = true := beq_iff_eq.mpr c68; have c68b1 : (t189 != (-2047)) = false := bne_eq_false_iff_eq.mpr c68; clear c68; have H' := Aside0.mk H; clear H
                    go_wp2
                    (first | go_meet | (refine Met.intro ?_; go_step; (repeat apply Exists.intro); refine ⟨?rel, ?eqf_⟩; case eqf_ => ((simp only [c68b0, c65b0, c53b0]) <;> rfl)))
                    case rel => exact ⟨_, (decide ((wrap64 (t200)) > (-134086657))), (by first | rfl | (simp; done) | (simp [*]; done)), H', ⟨by have := HJ6.out; have := HJ28.out; first | omega | exact Nat.le_refl _⟩, ⟨by (with_reducible repeat (first | apply Kd.S_alloc | apply Kd.S_drewN | apply Kd.S_drew)); exact HO_197000.out⟩, ⟨pG_ BK187.out⟩, ⟨pG_ BK196.out⟩, ⟨pH_ HB.out⟩⟩
                   ·
                    rw [if_neg c68] at H; have c68b0 : (t189 == (-2047)) = false := beq_eq_false_iff_ne.mpr c68; have c68b1 : (t189 != (-2047)) = true := bne_iff_ne.mpr c68; have H' := Aside0.mk H; clear H
                    go_wp2
                    (first | go_meet | (refine Met.intro ?_; go_step; (repeat apply Exists.intro); refine ⟨?rel, ?eqf_⟩; case eqf_ => ((simp only [c68b0, c65b0, c53b0]) <;> rfl)))
                    case rel => exact ⟨_, (false), (by first | rfl | (simp; done) | (simp [*]; done)), H', ⟨by have := HJ6.out; have := HJ28.out; first | omega | exact Nat.le_refl _⟩, ⟨by (with_reducible repeat (first | apply Kd.S_alloc | apply Kd.S_drewN | apply Kd.S_drew)); exact HO_197000.out⟩, ⟨pG_ BK187.out⟩, ⟨pG_ BK196.out⟩, ⟨pH_ HB.out⟩⟩
               case rest =>
                as_aux_lemma =>
                 (try (refine hKt_ _ _ ?_; clear hKt_; clear Kt_)); clear HC52
                 try clear c1
                 try clear p1
                 try clear q1
                 try clear hx1
                 try clear c2
                 try clear p2
                 try clear c3
                 try clear c4
                 try clear c5
                 try clear c6
                 try clear p6
                 try clear c7
                 try clear c11
                 try clear c12
                 try clear c12b0
                 try clear c13
                 try clear c15
                 try clear c15b0
                 try clear c18
                 try clear c19
                 try clear p19
                 try clear q19
                 try clear hx19
                 try clear c21
                 try clear c22
                 try clear c23
                 try clear c26
                 try clear c26b0
                 try clear c27
                 try clear c27b0
                 try clear c36
                 try clear c40
                 try clear c40b0
                 try clear c40b1
                 try clear c41
                 try clear c41b0
                 try clear c41b1
                 try clear c42
                 try clear c42b0
                 try clear c42b1
                 try clear c43
                 try clear c43b0
                 try clear c43b1
                 try clear c45
                 try clear c45b0
                 try clear c45b1
                 try clear c46
                 try clear c51
                 try clear c53
                 try clear c53b0
                 try clear c54
                 try clear c54b0
                 try clear c55
                 try clear c55b0
                 try clear c56
                 try clear c56b0
                 try clear c57
                 try clear c57b0
                 try clear c57b1
                 try clear c58
                 try clear c58b0
                 try clear c59
                 try clear c59b0
                 try clear c59b1
                 try clear c60
                 try clear c60b0
                 try clear c60b1
                 try clear c61
                 try clear c61b0
                 try clear c61b1
                 try clear c62
                 try clear c62b0
                 try clear c63
                 try clear c63b0
                 try clear c63b1
                 try clear c64
                 try clear c64b0
                 try clear c64b1
                 try clear p64
                 try clear c65
                 try clear c65b0
                 try clear c65b1
                 try clear c66
                 try clear c66b0
                 try clear c67
                 try clear c67b0
                 try clear c67b1
                 try clear c68
                 try clear c68b0
                 try clear c68b1
                 try clear hcz13_0
                 try clear hcz16_0
                 try clear hcz18_0
                 try clear hcz20_0
                 try clear hcz30_0
                 try clear hcz32_0
                 try clear hcz37_0
                 try clear hcz38_0
                 try clear hcz47_0
                 try clear hcz49_0
                 try clear hcz50_0
                 try clear hfz13_0
                 try clear hfz16_0
                 try clear hfz18_0
                 try clear hfz20_0
                 try clear hfz30_0
                 try clear hfz32_0
                 try clear hfz37_0
                 try clear hfz38_0
                 try clear hfz47_0
                 try clear hfz49_0
                 try clear hfz50_0
                 try clear hx199_0
                 try clear p1
                 try clear p19
                 try clear p199
                 try clear p2
                 try clear q1
                 try clear q19
                 try clear q199
                 obtain ⟨kq, x145_51, rfl, HA, HJ51, HO_197000, BK187, BK196, HB⟩ := hcut
                 cases kq with
                 | zero => exact absurd HA.out (by simp [bitloftlaw16_MixerSums.j2])
                 | succ kj51 =>
                  have H := HA.out; clear HA; simp only [bitloftlaw16_MixerSums.j2] at H
                  by_cases c69 : x145_51 = true
                  ·
                   subst c69
                   have H1 : (some false) = some r := by rw [if_pos rfl] at H; exact H
                   clear H; have H := H1; clear H1; exact absurd (H.trans (congrArg some HRT_.out)) (by simp)
                  ·
                   as_aux_lemma =>
                    replace c69 := Bool.eq_false_iff.mpr c69
                    subst c69
                    have H1 : (bitloftlaw16_MixerSums.l0 kj51 a1 l2 t197 0 l0_0 t192) = some r := by rw [if_neg (show ¬ (false = true) by decide)] at H; exact H
                    clear H; have H := H1; clear H1; have H' := Aside0.mk H; clear H
                    go_wp2
                    go_loopg [21] kj51 (fun kq v21 w' => ∃ (x21_4 : Int), v21 = .int .i64 x21_4 ∧ Aside0 (bitloftlaw16_MixerSums.l0 kq a1 l2 t197 x21_4 l0_0 t192 = some r) ∧ Aside0 (kq ≤ kj51) ∧ Aside0 (Kd.S (Kd.slice 21 (Kd.int .i32)) 25 w' w.heap.size (fun _ => True) (.slice Ao35 t192.length co35) t192) ∧ Aside0 (w'.heap[gb187]? = some (.cells #[(.slice (some ad199) l0_0.length c0_0)] 24 (0, 0))) ∧ Aside0 (w'.heap[gb196]? = some (.cells #[(.slice Ao35 t192.length co35)] 24 (0, 0))) ∧ Aside0 (Below w.heap.size w w'))
                    case atStart => exact ⟨(0), (by first | rfl | (simp; done) | (simp [*]; done)), H', ⟨Nat.le_refl _⟩, ⟨by (with_reducible repeat (first | apply Kd.S_alloc | apply Kd.S_drewN | apply Kd.S_drew)); exact HO_197000.out⟩, ⟨pG_ BK187.out⟩, ⟨pG_ BK196.out⟩, ⟨pH_ HB.out⟩⟩
                    case round =>
                     as_aux_lemma =>
                      clear H'
                      try clear c1
                      try clear p1
                      try clear q1
                      try clear hx1
                      try clear c2
                      try clear p2
                      try clear c3
                      try clear c4
                      try clear c5
                      try clear c6
                      try clear p6
                      try clear c7
                      try clear c11
                      try clear c12
                      try clear c12b0
                      try clear c13
                      try clear c15
                      try clear c15b0
                      try clear c18
                      try clear c19
                      try clear p19
                      try clear q19
                      try clear hx19
                      try clear c21
                      try clear c22
                      try clear c23
                      try clear c26
                      try clear c26b0
                      try clear c27
                      try clear c27b0
                      try clear c36
                      try clear c40
                      try clear c40b0
                      try clear c40b1
                      try clear c41
                      try clear c41b0
                      try clear c41b1
                      try clear c42
                      try clear c42b0
                      try clear c42b1
                      try clear c43
                      try clear c43b0
                      try clear c43b1
                      try clear c45
                      try clear c45b0
                      try clear c45b1
                      try clear c46
                      try clear c51
                      try clear c53
                      try clear c53b0
                      try clear c54
                      try clear c54b0
                      try clear c55
                      try clear c55b0
                      try clear c56
                      try clear c56b0
                      try clear c57
                      try clear c57b0
                      try clear c57b1
                      try clear c58
                      try clear c58b0
                      try clear c59
                      try clear c59b0
                      try clear c59b1
                      try clear c60
                      try clear c60b0
                      try clear c60b1
                      try clear c61
                      try clear c61b0
                      try clear c61b1
                      try clear c62
                      try clear c62b0
                      try clear c63
                      try clear c63b0
                      try clear c63b1
                      try clear c64
                      try clear c64b0
                      try clear c64b1
                      try clear p64
                      try clear c65
                      try clear c65b0
                      try clear c65b1
                      try clear c66
                      try clear c66b0
                      try clear c67
                      try clear c67b0
                      try clear c67b1
                      try clear c68
                      try clear c68b0
                      try clear c68b1
                      try clear c69
                      try clear hcz13_0
                      try clear hcz16_0
                      try clear hcz18_0
                      try clear hcz20_0
                      try clear hcz30_0
                      try clear hcz32_0
                      try clear hcz37_0
                      try clear hcz38_0
                      try clear hcz47_0
                      try clear hcz49_0
                      try clear hcz50_0
                      try clear hfz13_0
                      try clear hfz16_0
                      try clear hfz18_0
                      try clear hfz20_0
                      try clear hfz30_0
                      try clear hfz32_0
                      try clear hfz37_0
                      try clear hfz38_0
                      try clear hfz47_0
                      try clear hfz49_0
                      try clear hfz50_0
                      try clear hx199_0
                      try clear p1
                      try clear p19
                      try clear p199
                      try clear p2
                      try clear p6
                      try clear p64
                      try clear q1
                      try clear q19
                      try clear q199
                      obtain ⟨x21_4, rfl, HA, HK4, HO_197000, BK187, BK196, HB⟩ := hrel
                      cases gk with
                      | zero => exact absurd HA.out (by simp [bitloftlaw16_MixerSums.l0])
                      | succ k4 =>
                       have H := HA.out; clear HA; simp only [bitloftlaw16_MixerSums.l0] at H
                       by_cases c70 : x21_4 < 8
                       ·
                        as_aux_lemma =>
                         rw [if_pos c70] at H; have c70b0 : decide (x21_4 < 8) = true := decide_eq_true c70; clear c70; have HC71 := Aside0.mk H; clear H
                         go_upto_block 1 with (fail)
                         (with_reducible first | refine then_id_ ?_ | (refine wp_tail_ ?_; intro Kt_ hKt_))
                         go_cut [] (fun wc => ∃ (kq : Nat), Aside0 (bitloftlaw16_MixerSums.j5 kq a1 l2 t197 x21_4 l0_0 t192 = some r) ∧ Aside0 (kq ≤ k4) ∧ Aside0 (Kd.S (Kd.slice 21 (Kd.int .i32)) 25 wc w.heap.size (fun _ => True) (.slice Ao35 t192.length co35) t192) ∧ Aside0 (wc.heap[gb187]? = some (.cells #[(.slice (some ad199) l0_0.length c0_0)] 24 (0, 0))) ∧ Aside0 (wc.heap[gb196]? = some (.cells #[(.slice Ao35 t192.length co35)] 24 (0, 0))) ∧ Aside0 (Below w.heap.size w wc))
                         case first =>
                          as_aux_lemma =>
                           have H := HC71.out; clear HC71
                           by_cases c72 : 0 ≤ a1
                           ·
                            as_aux_lemma =>
                             rw [if_pos c72] at H; have c72b0 : decide (0 ≤ a1) = true := decide_eq_true c72; clear c72; (first | rw [c72b0] | (simp only [i64_w, i32_w]; rw [c72b0]) | skip)
                             by_cases c73 : a1 < (l0_0.length : Int)
                             ·
                              as_aux_lemma =>
                               rw [if_pos c73] at H; have c73b0 : decide (a1 < (l0_0.length : Int)) = true := decide_eq_true c73; clear c73
                               by_cases c74 : 0 ≤ x21_4
                               ·
                                as_aux_lemma =>
                                 rw [if_pos c74] at H; have c74b0 : decide (0 ≤ x21_4) = true := decide_eq_true c74; clear c74
                                 by_cases c75 : x21_4 < ((rd_L1 l0_0 a1).length : Int)
                                 ·
                                  as_aux_lemma =>
                                   rw [if_pos c75] at H; have c75b0 : decide (x21_4 < ((rd_L1 l0_0 a1).length : Int)) = true := decide_eq_true c75; clear c75
                                   by_cases c76 : a1 < (t192.length : Int)
                                   ·
                                    as_aux_lemma =>
                                     rw [if_pos c76] at H; have c76b0 : decide (a1 < (t192.length : Int)) = true := decide_eq_true c76; clear c76
                                     by_cases c77 : x21_4 < ((rd_L1 t192 a1).length : Int)
                                     ·
                                      as_aux_lemma =>
                                       rw [if_pos c77] at H; have c77b0 : decide (x21_4 < ((rd_L1 t192 a1).length : Int)) = true := decide_eq_true c77; clear c77
                                       by_cases c78 : x21_4 < (l2.length : Int)
                                       ·
                                        as_aux_lemma =>
                                         rw [if_pos c78] at H; have c78b0 : decide (x21_4 < (l2.length : Int)) = true := decide_eq_true c78; clear c78; have HC79 := Aside0.mk H; clear H; have hnb80 := NB187_196.out; have hnc80 := NB196_187.out; have hcz81_0 : wr.cell? ⟨gb187, 0, none⟩ = some (.slice (some ad199) l0_0.length c0_0) := (blk_cell BK187.out 0).trans rfl; have hfz81_0 := blk_frozen BK187.out 0; have p203 : 0 ≤ (a1 : Int) := of_decide_eq_true (by first | (with_reducible assumption) | assumption); have q203 : a1 < (l0_0.length : Int) := of_decide_eq_true (by first | (with_reducible assumption) | assumption); obtain ⟨ad203, A203_0, c203_0, e203, hx203_0, hl203_0, hi203_0⟩ := at_L1 HR0_0.out a1 p203 q203; obtain rfl : ad199 = ad203 := (by injection e203); replace hx203_0 := (HB.out.cell (World.block_lt_of_cell? w _ hx203_0)).trans hx203_0; have HR203_0 := Aside0.mk hi203_0; have HC203_0 := Aside0.mk hl203_0; clear hi203_0 hl203_0; replace p203 := eq_true p203; replace q203 := eq_true q203; have p204 : 0 ≤ (x21_4 : Int) := of_decide_eq_true (by first | (with_reducible assumption) | assumption); have q204 : x21_4 < ((rd_L1 l0_0 a1).length : Int) := of_decide_eq_true (by first | (with_reducible assumption) | assumption); obtain ⟨ad204, e204, hx204_0⟩ := Kd.at_int HR203_0.out x21_4 p204 q204
                                         cases e204
                                         replace hx204_0 := (HB.out.cell (World.block_lt_of_cell? w _ hx204_0)).trans hx204_0; replace p204 := eq_true p204; replace q204 := eq_true q204; have hcz82_0 : wr.cell? ⟨gb196, 0, none⟩ = some (.slice Ao35 t192.length co35) := (blk_cell BK196.out 0).trans rfl; have hfz82_0 := blk_frozen BK196.out 0; have p205 : 0 ≤ (a1 : Int) := of_decide_eq_true (by first | (with_reducible assumption) | assumption); have q205 : a1 < (t192.length : Int) := of_decide_eq_true (by first | (with_reducible assumption) | assumption); obtain ⟨ad205, A205_0, c205_0, e205, hx205_0, hl205_0, hi205_0⟩ := at_L1 (Kd.S_reads' HO_197000.out).2.2 a1 p205 q205
                                         cases e205
                                         obtain ⟨ce205, hce205, hMe205, hcc205⟩ := Kd.S_get HO_197000.out [] a1 p205 (by first | exact q205 | exact of_decide_eq_true (by first | (with_reducible assumption) | assumption) | (have e_ := (Kd.S_reads' HO_197000.out).1; omega)); obtain ⟨ve205_0, rfl, ge205_0⟩ := hMe205; have hv205_0 := hcc205 0 _ rfl; rw [Nat.add_zero, show ((Kd.slice 21 (Kd.int .i32))).sz = 1 from rfl, Nat.mul_one] at hv205_0; replace hv205_0 := Option.some.inj (hv205_0.symm.trans hx205_0); rw [hv205_0] at ge205_0; have HL205_0 := Aside0.mk (show Kd.R (Kd.int .i32) 21 _ _ _ _ (rd_L1 t192 a1) from ge205_0); clear hv205_0 ge205_0; clear hcc205 hce205; have HR205_0 := Aside0.mk hi205_0; have HC205_0 := Aside0.mk hl205_0; clear hi205_0 hl205_0; replace p205 := eq_true p205; replace q205 := eq_true q205; have p206 : 0 ≤ (x21_4 : Int) := of_decide_eq_true (by first | (with_reducible assumption) | assumption); have q206 : x21_4 < ((rd_L1 t192 a1).length : Int) := of_decide_eq_true (by first | (with_reducible assumption) | assumption); obtain ⟨ad206, e206, hx206_0⟩ := Kd.at_int (by repeat (first | (with_reducible exact HR205_0.out) | (with_reducible refine Kd.C_alloc ?_ _) | (with_reducible refine Kd.C_drewN ?_ _) | (with_reducible refine Kd.C_drew ?_) | exact HR205_0.out)) x21_4 p206 q206
                                         cases e206
                                         replace p206 := eq_true p206; replace q206 := eq_true q206; have p207 : 0 ≤ (x21_4 : Int) := of_decide_eq_true (by first | (with_reducible assumption) | assumption); have q207 : x21_4 < (l2.length : Int) := of_decide_eq_true (by first | (with_reducible assumption) | assumption); obtain ⟨ad207, e207, hx207_0⟩ := Kd.at_int HR2.out x21_4 p207 q207
                                         cases e207
                                         replace hx207_0 := (HB.out.cell (World.block_lt_of_cell? w _ hx207_0)).trans hx207_0; replace p207 := eq_true p207; replace q207 := eq_true q207
                                         go_upto_region 18 with (fail)
                                         (with_reducible first | refine then_id_ ?_ | (refine wp_tail_ ?_; intro Kt_ hKt_))
                                         go_cut [184] (fun v184 wc => ∃ (kq : Nat) (x184_78 : Bool), v184 = .bool x184_78 ∧ Aside0 (bitloftlaw16_MixerSums.j4 kq a1 l2 t197 x21_4 (wrap64 ((wrap64 (rd (rd_L1 t192 a1) x21_4)) - (wrap64 (rd (rd_L1 l0_0 a1) x21_4)))) (wrap64 ((wrap64 ((wrap64 (rd l2 x21_4)) * (wrap64 (t197)))) * 7)) x184_78 l0_0 t192 = some r) ∧ Aside0 (kq ≤ k4) ∧ Aside0 (Kd.S (Kd.slice 21 (Kd.int .i32)) 25 wc w.heap.size (fun _ => True) (.slice (some ad205) t192.length co35) t192) ∧ Aside0 (wc.heap[gb187]? = some (.cells #[(.slice (some ad199) l0_0.length c0_0)] 24 (0, 0))) ∧ Aside0 (wc.heap[gb196]? = some (.cells #[(.slice (some ad205) t192.length co35)] 24 (0, 0))) ∧ Aside0 (Kd.C (Kd.int .i32) wc (some ad206) (rd_L1 t192 a1).length (rd_L1 t192 a1)) ∧ Aside0 (Below w.heap.size w wc))
                                         case first =>
                                          have H := HC79.out; clear HC79
                                          by_cases c83 : (wrap64 (rd (rd_L1 l0_0 a1) x21_4)) > 2147400000
                                          ·
                                           rw [if_pos c83] at H; have c83b0 : decide (2147400000 < (wrap64 (rd (rd_L1 l0_0 a1) x21_4))) = true := decide_eq_true c83; clear c83; (first | rw [c83b0] | (simp only [i64_w, i32_w]; rw [c83b0]) | skip); have H' := Aside0.mk H; clear H
                                           go_wp2
                                           (first | go_meet | (refine Met.intro ?_; go_step; (repeat apply Exists.intro); refine ⟨?rel, ?eqf_⟩; case eqf_ => ((simp only [c83b0, c78b0, c77b0, c76b0, c75b0, c74b0, c73b0, c72b0, c70b0]) <;> rfl)))
                                           case rel => exact ⟨_, (true), (by first | rfl | (simp; done) | (simp [*]; done)), H', ⟨by have := HJ6.out; have := HJ28.out; have := HJ51.out; have := HK4.out; first | omega | exact Nat.le_refl _⟩, ⟨by (with_reducible repeat (first | apply Kd.S_alloc | apply Kd.S_drewN | apply Kd.S_drew)); exact HO_197000.out⟩, ⟨pG_ BK187.out⟩, ⟨pG_ BK196.out⟩, ⟨by repeat (first | (with_reducible exact HR205_0.out) | (with_reducible refine Kd.C_alloc ?_ _) | (with_reducible refine Kd.C_drewN ?_ _) | (with_reducible refine Kd.C_drew ?_) | exact HR205_0.out)⟩, ⟨pH_ HB.out⟩⟩
                                          ·
                                           rw [if_neg c83] at H; have c83b0 : decide (2147400000 < (wrap64 (rd (rd_L1 l0_0 a1) x21_4))) = false := decide_eq_false c83; clear c83; (first | rw [c83b0] | (simp only [i64_w, i32_w]; rw [c83b0]) | skip); have H' := Aside0.mk H; clear H
                                           go_wp2
                                           (first | go_meet | (refine Met.intro ?_; go_step; (repeat apply Exists.intro); refine ⟨?rel, ?eqf_⟩; case eqf_ => ((simp only [c83b0, c78b0, c77b0, c76b0, c75b0, c74b0, c73b0, c72b0, c70b0]) <;> rfl)))
                                           case rel => exact ⟨_, (decide ((wrap64 (rd (rd_L1 l0_0 a1) x21_4)) < (-2147400000))), (by first | rfl | (simp; done) | (simp [*]; done)), H', ⟨by have := HJ6.out; have := HJ28.out; have := HJ51.out; have := HK4.out; first | omega | exact Nat.le_refl _⟩, ⟨by (with_reducible repeat (first | apply Kd.S_alloc | apply Kd.S_drewN | apply Kd.S_drew)); exact HO_197000.out⟩, ⟨pG_ BK187.out⟩, ⟨pG_ BK196.out⟩, ⟨by repeat (first | (with_reducible exact HR205_0.out) | (with_reducible refine Kd.C_alloc ?_ _) | (with_reducible refine Kd.C_drewN ?_ _) | (with_reducible refine Kd.C_drew ?_) | exact HR205_0.out)⟩, ⟨pH_ HB.out⟩⟩
                                         case rest =>
                                          as_aux_lemma =>
                                           (try (refine hKt_ _ _ ?_; clear hKt_; clear Kt_)); clear HC79
                                           try clear c1
                                           try clear p1
                                           try clear q1
                                           try clear hx1
                                           try clear c2
                                           try clear p2
                                           try clear q2
                                           try clear hx2
                                           try clear c3
                                           try clear c4
                                           try clear c5
                                           try clear c6
                                           try clear p6
                                           try clear c7
                                           try clear c8
                                           try clear c11
                                           try clear c12
                                           try clear c12b0
                                           try clear c13
                                           try clear c15
                                           try clear c15b0
                                           try clear c18
                                           try clear c19
                                           try clear p19
                                           try clear q19
                                           try clear hx19
                                           try clear c20
                                           try clear p20
                                           try clear q20
                                           try clear hx20
                                           try clear c21
                                           try clear c22
                                           try clear c23
                                           try clear c26
                                           try clear c26b0
                                           try clear c27
                                           try clear c27b0
                                           try clear c36
                                           try clear c40
                                           try clear c40b0
                                           try clear c40b1
                                           try clear c41
                                           try clear c41b0
                                           try clear c41b1
                                           try clear c42
                                           try clear c42b0
                                           try clear c42b1
                                           try clear c43
                                           try clear c43b0
                                           try clear c43b1
                                           try clear c45
                                           try clear c45b0
                                           try clear c45b1
                                           try clear c46
                                           try clear c51
                                           try clear c53
                                           try clear c53b0
                                           try clear c54
                                           try clear c54b0
                                           try clear c55
                                           try clear c55b0
                                           try clear c56
                                           try clear c56b0
                                           try clear c57
                                           try clear c57b0
                                           try clear c57b1
                                           try clear c58
                                           try clear c58b0
                                           try clear c59
                                           try clear c59b0
                                           try clear c59b1
                                           try clear c60
                                           try clear c60b0
                                           try clear c60b1
                                           try clear c61
                                           try clear c61b0
                                           try clear c61b1
                                           try clear c62
                                           try clear c62b0
                                           try clear c63
                                           try clear c63b0
                                           try clear c63b1
                                           try clear c64
                                           try clear c64b0
                                           try clear c64b1
                                           try clear p64
                                           try clear c65
                                           try clear c65b0
                                           try clear c65b1
                                           try clear c66
                                           try clear c66b0
                                           try clear c67
                                           try clear c67b0
                                           try clear c67b1
                                           try clear c68
                                           try clear c68b0
                                           try clear c68b1
                                           try clear c69
                                           try clear c70
                                           try clear c70b0
                                           try clear c72
                                           try clear c72b0
                                           try clear c73
                                           try clear c73b0
                                           try clear c74
                                           try clear c74b0
                                           try clear c75
                                           try clear c75b0
                                           try clear c76
                                           try clear c76b0
                                           try clear c77
                                           try clear c77b0
                                           try clear c78
                                           try clear c78b0
                                           try clear c80
                                           try clear c83
                                           try clear c83b0
                                           try clear hcz13_0
                                           try clear hcz16_0
                                           try clear hcz18_0
                                           try clear hcz20_0
                                           try clear hcz30_0
                                           try clear hcz32_0
                                           try clear hcz37_0
                                           try clear hcz38_0
                                           try clear hcz47_0
                                           try clear hcz49_0
                                           try clear hcz50_0
                                           try clear hcz81_0
                                           try clear hcz82_0
                                           try clear hfz13_0
                                           try clear hfz16_0
                                           try clear hfz18_0
                                           try clear hfz20_0
                                           try clear hfz30_0
                                           try clear hfz32_0
                                           try clear hfz37_0
                                           try clear hfz38_0
                                           try clear hfz47_0
                                           try clear hfz49_0
                                           try clear hfz50_0
                                           try clear hfz81_0
                                           try clear hfz82_0
                                           try clear hx199_0
                                           try clear hx203_0
                                           try clear hx204_0
                                           try clear hx205_0
                                           try clear hx206_0
                                           try clear hx207_0
                                           try clear p1
                                           try clear p19
                                           try clear p199
                                           try clear p2
                                           try clear p203
                                           try clear p204
                                           try clear p205
                                           try clear p206
                                           try clear p207
                                           try clear p6
                                           try clear p64
                                           try clear q1
                                           try clear q19
                                           try clear q199
                                           try clear q203
                                           try clear q204
                                           try clear q205
                                           try clear q206
                                           try clear q207
                                           obtain ⟨kq, x184_78, rfl, HA, HJ78, HO_197000, BK187, BK196, HR205_0, HB⟩ := hcut
                                           cases kq with
                                           | zero => exact absurd HA.out (by simp [bitloftlaw16_MixerSums.j4])
                                           | succ kj78 =>
                                            have H := HA.out; clear HA; simp only [bitloftlaw16_MixerSums.j4] at H
                                            by_cases c84 : x184_78 = true
                                            ·
                                             subst c84
                                             have H1 : (bitloftlaw16_MixerSums.j5 kj78 a1 l2 t197 x21_4 l0_0 t192) = some r := by rw [if_pos rfl] at H; exact H
                                             clear H; have H := H1; clear H1; have H' := Aside0.mk H; clear H
                                             go_wp2
                                             go_meet
                                             case rel => exact ⟨_, H', ⟨by have := HJ6.out; have := HJ28.out; have := HJ51.out; have := HK4.out; have := HJ78.out; first | omega | exact Nat.le_refl _⟩, ⟨by (with_reducible repeat (first | apply Kd.S_alloc | apply Kd.S_drewN | apply Kd.S_drew)); exact HO_197000.out⟩, ⟨pG_ BK187.out⟩, ⟨pG_ BK196.out⟩, ⟨pH_ HB.out⟩⟩
                                            ·
                                             replace c84 := Bool.eq_false_iff.mpr c84
                                             subst c84
                                             have H1 : (if (wrap64 ((wrap64 ((wrap64 ((wrap64 (rd l2 x21_4)) * (wrap64 (t197)))) * 7)) - (wrap64 ((wrap64 ((wrap64 (rd (rd_L1 t192 a1) x21_4)) - (wrap64 (rd (rd_L1 l0_0 a1) x21_4)))) * 16384)))) > 8192 then (some false) else (if (wrap64 ((wrap64 ((wrap64 ((wrap64 (rd l2 x21_4)) * (wrap64 (t197)))) * 7)) - (wrap64 ((wrap64 ((wrap64 (rd (rd_L1 t192 a1) x21_4)) - (wrap64 (rd (rd_L1 l0_0 a1) x21_4)))) * 16384)))) < (-8192) then (some false) else (bitloftlaw16_MixerSums.j5 kj78 a1 l2 t197 x21_4 l0_0 t192))) = some r := by rw [if_neg (show ¬ (false = true) by decide)] at H; exact H
                                             clear H; have H := H1; clear H1
                                             by_cases c85 : (wrap64 ((wrap64 ((wrap64 ((wrap64 (rd l2 x21_4)) * (wrap64 (t197)))) * 7)) - (wrap64 ((wrap64 ((wrap64 (rd (rd_L1 t192 a1) x21_4)) - (wrap64 (rd (rd_L1 l0_0 a1) x21_4)))) * 16384)))) > 8192
                                             ·
                                              rw [if_pos c85] at H; have c85b0 : decide (8192 < (wrap64 ((wrap64 ((wrap64 ((wrap64 (rd l2 x21_4)) * (wrap64 (t197)))) * 7)) - (wrap64 ((wrap64 ((wrap64 (rd (rd_L1 t192 a1) x21_4)) - (wrap64 (rd (rd_L1 l0_0 a1) x21_4)))) * 16384))))) = true := decide_eq_true c85; clear c85; exact absurd (H.trans (congrArg some HRT_.out)) (by simp)
                                             ·
                                              rw [if_neg c85] at H; have c85b0 : decide (8192 < (wrap64 ((wrap64 ((wrap64 ((wrap64 (rd l2 x21_4)) * (wrap64 (t197)))) * 7)) - (wrap64 ((wrap64 ((wrap64 (rd (rd_L1 t192 a1) x21_4)) - (wrap64 (rd (rd_L1 l0_0 a1) x21_4)))) * 16384))))) = false := decide_eq_false c85; clear c85
                                              by_cases c86 : (wrap64 ((wrap64 ((wrap64 ((wrap64 (rd l2 x21_4)) * (wrap64 (t197)))) * 7)) - (wrap64 ((wrap64 ((wrap64 (rd (rd_L1 t192 a1) x21_4)) - (wrap64 (rd (rd_L1 l0_0 a1) x21_4)))) * 16384)))) < (-8192)
                                              ·
                                               rw [if_pos c86] at H; have c86b0 : decide ((wrap64 ((wrap64 ((wrap64 ((wrap64 (rd l2 x21_4)) * (wrap64 (t197)))) * 7)) - (wrap64 ((wrap64 ((wrap64 (rd (rd_L1 t192 a1) x21_4)) - (wrap64 (rd (rd_L1 l0_0 a1) x21_4)))) * 16384)))) < (-8192)) = true := decide_eq_true c86; clear c86; exact absurd (H.trans (congrArg some HRT_.out)) (by simp)
                                              ·
                                               rw [if_neg c86] at H; have c86b0 : decide ((wrap64 ((wrap64 ((wrap64 ((wrap64 (rd l2 x21_4)) * (wrap64 (t197)))) * 7)) - (wrap64 ((wrap64 ((wrap64 (rd (rd_L1 t192 a1) x21_4)) - (wrap64 (rd (rd_L1 l0_0 a1) x21_4)))) * 16384)))) < (-8192)) = false := decide_eq_false c86; clear c86; have H' := Aside0.mk H; clear H
                                               go_wp2
                                               (first | go_meet | (refine Met.intro ?_; go_step; (repeat apply Exists.intro); refine ⟨?rel, ?eqf_⟩; case eqf_ => ((simp only [c86b0, c85b0]) <;> rfl)))
                                               case rel => exact ⟨_, H', ⟨by have := HJ6.out; have := HJ28.out; have := HJ51.out; have := HK4.out; have := HJ78.out; first | omega | exact Nat.le_refl _⟩, ⟨by (with_reducible repeat (first | apply Kd.S_alloc | apply Kd.S_drewN | apply Kd.S_drew)); exact HO_197000.out⟩, ⟨pG_ BK187.out⟩, ⟨pG_ BK196.out⟩, ⟨pH_ HB.out⟩⟩
                                       ·
                                        rw [if_neg c78] at H; exact absurd H (by simp)
                                     ·
                                      rw [if_neg c77] at H; exact absurd H (by simp)
                                   ·
                                    rw [if_neg c76] at H; exact absurd H (by simp)
                                 ·
                                  rw [if_neg c75] at H; exact absurd H (by simp)
                               ·
                                rw [if_neg c74] at H; exact absurd H (by simp)
                             ·
                              rw [if_neg c73] at H; exact absurd H (by simp)
                           ·
                            rw [if_neg c72] at H; exact absurd H (by simp)
                         case rest =>
                          (try (refine hKt_ _ _ ?_; clear hKt_; clear Kt_)); clear HC71
                          try clear c1
                          try clear p1
                          try clear q1
                          try clear hx1
                          try clear c2
                          try clear p2
                          try clear q2
                          try clear hx2
                          try clear c3
                          try clear c4
                          try clear c5
                          try clear c6
                          try clear p6
                          try clear c7
                          try clear c8
                          try clear c11
                          try clear c12
                          try clear c12b0
                          try clear c13
                          try clear c15
                          try clear c15b0
                          try clear c18
                          try clear c19
                          try clear p19
                          try clear q19
                          try clear hx19
                          try clear c20
                          try clear p20
                          try clear q20
                          try clear hx20
                          try clear c21
                          try clear c22
                          try clear c23
                          try clear c26
                          try clear c26b0
                          try clear c27
                          try clear c27b0
                          try clear c36
                          try clear c40
                          try clear c40b0
                          try clear c40b1
                          try clear c41
                          try clear c41b0
                          try clear c41b1
                          try clear c42
                          try clear c42b0
                          try clear c42b1
                          try clear c43
                          try clear c43b0
                          try clear c43b1
                          try clear c45
                          try clear c45b0
                          try clear c45b1
                          try clear c46
                          try clear c51
                          try clear c53
                          try clear c53b0
                          try clear c54
                          try clear c54b0
                          try clear c55
                          try clear c55b0
                          try clear c56
                          try clear c56b0
                          try clear c57
                          try clear c57b0
                          try clear c57b1
                          try clear c58
                          try clear c58b0
                          try clear c59
                          try clear c59b0
                          try clear c59b1
                          try clear c60
                          try clear c60b0
                          try clear c60b1
                          try clear c61
                          try clear c61b0
                          try clear c61b1
                          try clear c62
                          try clear c62b0
                          try clear c63
                          try clear c63b0
                          try clear c63b1
                          try clear c64
                          try clear c64b0
                          try clear c64b1
                          try clear p64
                          try clear c65
                          try clear c65b0
                          try clear c65b1
                          try clear c66
                          try clear c66b0
                          try clear c67
                          try clear c67b0
                          try clear c67b1
                          try clear c68
                          try clear c68b0
                          try clear c68b1
                          try clear c69
                          try clear c70
                          try clear c70b0
                          try clear c72
                          try clear c72b0
                          try clear c73
                          try clear c73b0
                          try clear c74
                          try clear c74b0
                          try clear c75
                          try clear c75b0
                          try clear c76
                          try clear c76b0
                          try clear c77
                          try clear c77b0
                          try clear c78
                          try clear c78b0
                          try clear c80
                          try clear c83
                          try clear c83b0
                          try clear c84
                          try clear c85
                          try clear c85b0
                          try clear c86
                          try clear c86b0
                          try clear hcz13_0
                          try clear hcz16_0
                          try clear hcz18_0
                          try clear hcz20_0
                          try clear hcz30_0
                          try clear hcz32_0
                          try clear hcz37_0
                          try clear hcz38_0
                          try clear hcz47_0
                          try clear hcz49_0
                          try clear hcz50_0
                          try clear hcz81_0
                          try clear hcz82_0
                          try clear hfz13_0
                          try clear hfz16_0
                          try clear hfz18_0
                          try clear hfz20_0
                          try clear hfz30_0
                          try clear hfz32_0
                          try clear hfz37_0
                          try clear hfz38_0
                          try clear hfz47_0
                          try clear hfz49_0
                          try clear hfz50_0
                          try clear hfz81_0
                          try clear hfz82_0
                          try clear hx199_0
                          try clear hx203_0
                          try clear hx204_0
                          try clear hx205_0
                          try clear hx206_0
                          try clear hx207_0
                          try clear p1
                          try clear p19
                          try clear p199
                          try clear p2
                          try clear p20
                          try clear p203
                          try clear p204
                          try clear p205
                          try clear p206
                          try clear p207
                          try clear p6
                          try clear p64
                          try clear q1
                          try clear q19
                          try clear q199
                          try clear q2
                          try clear q20
                          try clear q203
                          try clear q204
                          try clear q205
                          try clear q206
                          try clear q207
                          obtain ⟨kq, HA, HJ70, HO_197000, BK187, BK196, HB⟩ := hcut
                          cases kq with
                          | zero => exact absurd HA.out (by simp [bitloftlaw16_MixerSums.j5])
                          | succ kj70 =>
                           have H := HA.out; clear HA; simp only [bitloftlaw16_MixerSums.j5] at H; have H' := Aside0.mk H; clear H
                           go_wp2
                           go_roundg kj70
                           case measure => have := HJ6.out; have := HJ28.out; have := HJ51.out; have := HK4.out; have := HJ70.out; omega
                           case rel => exact ⟨(wrap64 (x21_4 + 1)), (by first | rfl | (simp; done) | (simp [*]; done)), H', ⟨by have := HJ6.out; have := HJ28.out; have := HJ51.out; have := HK4.out; have := HJ70.out; omega⟩, ⟨by (with_reducible repeat (first | apply Kd.S_alloc | apply Kd.S_drewN | apply Kd.S_drew)); exact HO_197000.out⟩, ⟨pG_ BK187.out⟩, ⟨pG_ BK196.out⟩, ⟨pH_ HB.out⟩⟩
                       ·
                        rw [if_neg c70] at H; have c70b0 : decide (x21_4 < 8) = false := decide_eq_false c70; clear c70; obtain rfl := Option.some.inj H
                        go_wp2
                        go_ret
                        exact ⟨by first | rfl | (simp [errW_none, errW_some] <;> rfl) | (simp [*, errW_none, errW_some] <;> rfl), pH_ HB.out⟩
        ·
         rw [if_neg c27] at H; exact absurd H (by simp)
      ·
       rw [if_neg c26] at H; exact absurd H (by simp)

/-- The one plain statement of bitloftlaw16_MixerSums. -/
def bitloftlaw16_MixerSums.Pure : Prop := ∀ (l0_0 : List (List Int)) (a1 : Int) (l2 : List Int) (a3 : Int) (a4 : Bool), l0_0.length ≤ maxLen → (∀ x_ ∈ l0_0, (fun l_ : List Int => l_.length ≤ maxLen ∧ ∀ x_ ∈ l_, (fun n_ : Int => (Lit.int .i32 n_).wf = true) x_) x_) → (Lit.int .i64 a1).wf = true → l2.length ≤ maxLen → l2.length * 4 ≤ 140737488351232 → (∀ x ∈ l2, (Lit.int .i32 x).wf = true) → (Lit.int .i32 a3).wf = true → ∃ k, bitloftlaw16_MixerSums.f k l0_0 a1 l2 a3 a4 = some true

end Go.Proofs.YtlpkfljihcklkaaDoor.XMixerSums
