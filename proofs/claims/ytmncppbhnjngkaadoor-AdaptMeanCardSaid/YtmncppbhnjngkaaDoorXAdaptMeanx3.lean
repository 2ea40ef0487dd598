-- Laid by a program of this session (wip/mkxprint.py, over the kit's print): Lean checks it.
import Derived.Test.YtmncppbhnjngkaaDoorXAdaptMeanx0
import Derived.Test.YtmncppbhnjngkaaDoorXAdaptMeanx1
import Derived.Test.YtmncppbhnjngkaaDoorXAdaptMeanx2
namespace Go.Proofs.YtmncppbhnjngkaaDoor.XAdaptMean
open List (setIfInBounds_toArray set_cons_zero set_cons_succ)
open Go.RowKit Go.Proofs.YtmncppbhnjngkaaDoorW.PrintWords Go.Proofs.YtmncppbhnjngkaaDoorW.PrintLast Go.Proofs.YtmncppbhnjngkaaDoorW.PrintMore
attribute [local go_sem] max2_int min2_int max_two min_two max_three min_three max_four min_four   -- for this text's walks alone
set_option linter.unusedVariables false
set_option linter.unusedSimpArgs false

/-! ### bitloftlaw09_AdaptMean: function 5 -/
mutual
def bitloftlaw09_AdaptMean.j0 : Nat → Int → Int → List Int → Bool → Option (Bool)
 | 0, _, _, _, _ => none
 | k + 1, x0, x1, x2, x37 => if x37 = true then (some true) else ((adapt_New.f x0).bind fun bt214 => (if bt214.2.2.2 = 0 then (bitloftlaw09_AdaptMean.l0 k x0 x1 x2 0 0 bt214.1 bt214.2.1 bt214.2.2.1) else (some false)))
def bitloftlaw09_AdaptMean.l0 : Nat → Int → Int → List Int → Int → Int → Int → List Int → List Int → Option (Bool)
 | 0, _, _, _, _, _, _, _, _ => none
 | k + 1, x0, x1, x2, x9, x10, x223000, x223001, x223002 => if x10 < (x2.length : Int) then (bitloftlaw09_AdaptMean.j2 k x0 x1 x2 x9 x10 (decide (x10 < x0)) x223000 x223001 x223002) else (bitloftlaw09_AdaptMean.j2 k x0 x1 x2 x9 x10 false x223000 x223001 x223002)
def bitloftlaw09_AdaptMean.j2 : Nat → Int → Int → List Int → Int → Int → Bool → Int → List Int → List Int → Option (Bool)
 | 0, _, _, _, _, _, _, _, _, _ => none
 | k + 1, x0, x1, x2, x9, x10, x54, x223000, x223001, x223002 => if x54 = true then (if 0 ≤ x10 then (if x10 < (x2.length : Int) then ((adapt_Update.f k x223000 x223001 x223002 x1 (rd x2 x10)).bind fun bt224 => ((adapt_P.f k bt224.1 bt224.2.1 bt224.2.2.1 x1).bind fun bt233 => (if bt224.2.2.2 = 0 then (bitloftlaw09_AdaptMean.j3 k x0 x1 x2 x9 x10 bt233.1 (bt233.2 != 0) bt224.1 bt224.2.1 bt224.2.2.1) else (bitloftlaw09_AdaptMean.j3 k x0 x1 x2 x9 x10 bt233.1 true bt224.1 bt224.2.1 bt224.2.2.1)))) else (none)) else (none)) else (some true)
def bitloftlaw09_AdaptMean.j3 : Nat → Int → Int → List Int → Int → Int → Int → Bool → Int → List Int → List Int → Option (Bool)
 | 0, _, _, _, _, _, _, _, _, _, _ => none
 | k + 1, x0, x1, x2, x9, x10, x13, x78, x233000, x233001, x233002 => if x78 = true then (some false) else (if 0 ≤ x10 then (if x10 < (x2.length : Int) then (if (wrap64 ((wrap64 ((wrap64 ((wrap64 (x13)) * (wrap64 ((wrap64 (x10 + 1)) + 1)))) - 32768)) - (wrap64 (65535 * (wrap64 (x9 + (wrap64 (rd x2 x10)))))))) > (wrap64 ((wrap64 ((wrap64 (x10 + 1)) + 1)) * (wrap64 ((wrap64 (x10 + 1)) + 2)))) then (some false) else (if (wrap64 ((wrap64 ((wrap64 ((wrap64 (x13)) * (wrap64 ((wrap64 (x10 + 1)) + 1)))) - 32768)) - (wrap64 (65535 * (wrap64 (x9 + (wrap64 (rd x2 x10)))))))) < (wrap64 ((wrap64 (-(wrap64 ((wrap64 (x10 + 1)) + 1)))) * (wrap64 ((wrap64 (x10 + 1)) + 2)))) then (some false) else (bitloftlaw09_AdaptMean.l0 k x0 x1 x2 (wrap64 (x9 + (wrap64 (rd x2 x10)))) (wrap64 (x10 + 1)) x233000 x233001 x233002))) else (none)) else (none))
end
def bitloftlaw09_AdaptMean.f (k : Nat) (a0 : Int) (a1 : Int) (l2 : List Int) : Option (Bool) := if a0 < 1 then (bitloftlaw09_AdaptMean.j0 k a0 a1 l2 true) else (if a0 > 1000 then (bitloftlaw09_AdaptMean.j0 k a0 a1 l2 true) else ((bitloftref08_State.f a1).bind fun t212 => (if t212 = true then (if (l2.length : Int) > 100 then (bitloftlaw09_AdaptMean.j0 k a0 a1 l2 true) else ((bitloftref07_Bits.f k l2).bind fun t213 => (bitloftlaw09_AdaptMean.j0 k a0 a1 l2 (!t213)))) else (bitloftlaw09_AdaptMean.j0 k a0 a1 l2 true))))
theorem bitloftlaw09_AdaptMean.mono_l : ∀ k, (∀ y0 y1 y2 y3, LeO (bitloftlaw09_AdaptMean.j0 k y0 y1 y2 y3) (bitloftlaw09_AdaptMean.j0 (k + 1) y0 y1 y2 y3)) ∧ (∀ y0 y1 y2 y3 y4 y5 y6 y7, LeO (bitloftlaw09_AdaptMean.l0 k y0 y1 y2 y3 y4 y5 y6 y7) (bitloftlaw09_AdaptMean.l0 (k + 1) y0 y1 y2 y3 y4 y5 y6 y7)) ∧ (∀ y0 y1 y2 y3 y4 y5 y6 y7 y8, LeO (bitloftlaw09_AdaptMean.j2 k y0 y1 y2 y3 y4 y5 y6 y7 y8) (bitloftlaw09_AdaptMean.j2 (k + 1) y0 y1 y2 y3 y4 y5 y6 y7 y8)) ∧ (∀ y0 y1 y2 y3 y4 y5 y6 y7 y8 y9, LeO (bitloftlaw09_AdaptMean.j3 k y0 y1 y2 y3 y4 y5 y6 y7 y8 y9) (bitloftlaw09_AdaptMean.j3 (k + 1) y0 y1 y2 y3 y4 y5 y6 y7 y8 y9))
 | 0 => ⟨fun _ _ _ _ r h => by simp [bitloftlaw09_AdaptMean.j0] at h, fun _ _ _ _ _ _ _ _ r h => by simp [bitloftlaw09_AdaptMean.l0] at h, fun _ _ _ _ _ _ _ _ _ r h => by simp [bitloftlaw09_AdaptMean.j2] at h, fun _ _ _ _ _ _ _ _ _ _ r h => by simp [bitloftlaw09_AdaptMean.j3] at h⟩
 | k + 1 => by
  obtain ⟨ih0, ih1, ih2, ih3⟩ := bitloftlaw09_AdaptMean.mono_l k; refine ⟨?_, ?_, ?_, ?_⟩
  ·
   intro y0 y1 y2 y3
   unfold bitloftlaw09_AdaptMean.j0
   repeat' first
   | (with_reducible exact ih0 _ _ _ _)
   | (with_reducible exact ih1 _ _ _ _ _ _ _ _)
   | (with_reducible exact ih2 _ _ _ _ _ _ _ _ _)
   | (with_reducible exact ih3 _ _ _ _ _ _ _ _ _ _)
   | (with_reducible exact adapt_P.mono _ _ _ _ _)
   | (with_reducible exact adapt_Update.mono _ _ _ _ _ _)
   | (with_reducible exact bitloftlaw09_alive.mono _)
   | (with_reducible exact bitloftref07_Bits.mono _ _)
   | (with_reducible exact LeO.refl _)
   | (with_reducible exact LeO.none _)
   | (with_reducible refine LeO.ite ?_ ?_)
   | (with_reducible refine LeO.bind ?_ (fun _ => ?_))
   | exact ih0 _ _ _ _
   | exact ih1 _ _ _ _ _ _ _ _
   | exact ih2 _ _ _ _ _ _ _ _ _
   | exact ih3 _ _ _ _ _ _ _ _ _ _
   | exact adapt_P.mono _ _ _ _ _
   | exact adapt_Update.mono _ _ _ _ _ _
   | exact bitloftlaw09_alive.mono _
   | exact bitloftref07_Bits.mono _ _
   | exact LeO.none _
   | refine LeO.ite ?_ ?_
   | refine LeO.bind ?_ (fun _ => ?_)
  ·
   intro y0 y1 y2 y3 y4 y5 y6 y7
   unfold bitloftlaw09_AdaptMean.l0
   repeat' first
   | (with_reducible exact ih0 _ _ _ _)
   | (with_reducible exact ih1 _ _ _ _ _ _ _ _)
   | (with_reducible exact ih2 _ _ _ _ _ _ _ _ _)
   | (with_reducible exact ih3 _ _ _ _ _ _ _ _ _ _)
   | (with_reducible exact adapt_P.mono _ _ _ _ _)
   | (with_reducible exact adapt_Update.mono _ _ _ _ _ _)
   | (with_reducible exact bitloftlaw09_alive.mono _)
   | (with_reducible exact bitloftref07_Bits.mono _ _)
   | (with_reducible exact LeO.refl _)
   | (with_reducible exact LeO.none _)
   | (with_reducible refine LeO.ite ?_ ?_)
   | (with_reducible refine LeO.bind ?_ (fun _ => ?_))
   | exact ih0 _ _ _ _
   | exact ih1 _ _ _ _ _ _ _ _
   | exact ih2 _ _ _ _ _ _ _ _ _
   | exact ih3 _ _ _ _ _ _ _ _ _ _
   | exact adapt_P.mono _ _ _ _ _
   | exact adapt_Update.mono _ _ _ _ _ _
   | exact bitloftlaw09_alive.mono _
   | exact bitloftref07_Bits.mono _ _
   | exact LeO.none _
   | refine LeO.ite ?_ ?_
   | refine LeO.bind ?_ (fun _ => ?_)
  ·
   intro y0 y1 y2 y3 y4 y5 y6 y7 y8
   unfold bitloftlaw09_AdaptMean.j2
   repeat' first
   | (with_reducible exact ih0 _ _ _ _)
   | (with_reducible exact ih1 _ _ _ _ _ _ _ _)
   | (with_reducible exact ih2 _ _ _ _ _ _ _ _ _)
   | (with_reducible exact ih3 _ _ _ _ _ _ _ _ _ _)
   | (with_reducible exact adapt_P.mono _ _ _ _ _)
   | (with_reducible exact adapt_Update.mono _ _ _ _ _ _)
   | (with_reducible exact bitloftlaw09_alive.mono _)
   | (with_reducible exact bitloftref07_Bits.mono _ _)
   | (with_reducible exact LeO.refl _)
   | (with_reducible exact LeO.none _)
   | (with_reducible refine LeO.ite ?_ ?_)
   | (with_reducible refine LeO.bind ?_ (fun _ => ?_))
   | exact ih0 _ _ _ _
   | exact ih1 _ _ _ _ _ _ _ _
   | exact ih2 _ _ _ _ _ _ _ _ _
   | exact ih3 _ _ _ _ _ _ _ _ _ _
   | exact adapt_P.mono _ _ _ _ _
   | exact adapt_Update.mono _ _ _ _ _ _
   | exact bitloftlaw09_alive.mono _
   | exact bitloftref07_Bits.mono _ _
   | exact LeO.none _
   | refine LeO.ite ?_ ?_
   | refine LeO.bind ?_ (fun _ => ?_)
  ·
   intro y0 y1 y2 y3 y4 y5 y6 y7 y8 y9
   unfold bitloftlaw09_AdaptMean.j3
   repeat' first
   | (with_reducible exact ih0 _ _ _ _)
   | (with_reducible exact ih1 _ _ _ _ _ _ _ _)
   | (with_reducible exact ih2 _ _ _ _ _ _ _ _ _)
   | (with_reducible exact ih3 _ _ _ _ _ _ _ _ _ _)
   | (with_reducible exact adapt_P.mono _ _ _ _ _)
   | (with_reducible exact adapt_Update.mono _ _ _ _ _ _)
   | (with_reducible exact bitloftlaw09_alive.mono _)
   | (with_reducible exact bitloftref07_Bits.mono _ _)
   | (with_reducible exact LeO.refl _)
   | (with_reducible exact LeO.none _)
   | (with_reducible refine LeO.ite ?_ ?_)
   | (with_reducible refine LeO.bind ?_ (fun _ => ?_))
   | exact ih0 _ _ _ _
   | exact ih1 _ _ _ _ _ _ _ _
   | exact ih2 _ _ _ _ _ _ _ _ _
   | exact ih3 _ _ _ _ _ _ _ _ _ _
   | exact adapt_P.mono _ _ _ _ _
   | exact adapt_Update.mono _ _ _ _ _ _
   | exact bitloftlaw09_alive.mono _
   | exact bitloftref07_Bits.mono _ _
   | exact LeO.none _
   | refine LeO.ite ?_ ?_
   | refine LeO.bind ?_ (fun _ => ?_)
theorem bitloftlaw09_AdaptMean.mono : ∀ a0 a1 a2 k, LeO (bitloftlaw09_AdaptMean.f k a0 a1 a2) (bitloftlaw09_AdaptMean.f (k + 1) a0 a1 a2) := by
 intro a0 a1 a2 k; obtain ⟨ih0, ih1, ih2, ih3⟩ := bitloftlaw09_AdaptMean.mono_l k
 unfold bitloftlaw09_AdaptMean.f
 repeat' first
   | (with_reducible exact ih0 _ _ _ _)
   | (with_reducible exact ih1 _ _ _ _ _ _ _ _)
   | (with_reducible exact ih2 _ _ _ _ _ _ _ _ _)
   | (with_reducible exact ih3 _ _ _ _ _ _ _ _ _ _)
   | (with_reducible exact adapt_P.mono _ _ _ _ _)
   | (with_reducible exact adapt_Update.mono _ _ _ _ _ _)
   | (with_reducible exact bitloftlaw09_alive.mono _)
   | (with_reducible exact bitloftref07_Bits.mono _ _)
   | (with_reducible exact LeO.refl _)
   | (with_reducible exact LeO.none _)
   | (with_reducible refine LeO.ite ?_ ?_)
   | (with_reducible refine LeO.bind ?_ (fun _ => ?_))
   | exact ih0 _ _ _ _
   | exact ih1 _ _ _ _ _ _ _ _
   | exact ih2 _ _ _ _ _ _ _ _ _
   | exact ih3 _ _ _ _ _ _ _ _ _ _
   | exact adapt_P.mono _ _ _ _ _
   | exact adapt_Update.mono _ _ _ _ _ _
   | exact bitloftlaw09_alive.mono _
   | exact bitloftref07_Bits.mono _ _
   | exact LeO.none _
   | refine LeO.ite ?_ ?_
   | refine LeO.bind ?_ (fun _ => ?_)
def bitloftlaw09_AdaptMean.T10 : Bool × List (List Nat × List Nat) := (true, [([], []), ([], []), ([], []), ([], []), ([2, 3], [2, 3]), ([4], [4]), ([0, 1, 5], [0, 1, 5]), ([6], [6]), ([7], [7]), ([7], [7]), ([], []), ([10, 8, 6, 0, 1, 2, 3, 4, 5, 6, 7, 8, 10], [8, 10]), ([9, 11, 0, 1, 2, 3, 4, 5, 6, 7, 8, 9, 10, 11], [9])])
def bitloftlaw09_AdaptMean.B10 : List Nat := [0, 0, 0, 0, 12, 28, 63, 127, 255, 255, 0, 1535, 4095]
theorem bitloftlaw09_AdaptMean.tab10 : rtab .any (opsOf Tryd.f5 10) = bitloftlaw09_AdaptMean.T10 := by kernel_rfl
theorem bitloftlaw09_AdaptMean.bits10 : waitsOk bitloftlaw09_AdaptMean.T10.2 bitloftlaw09_AdaptMean.B10 = true := by kernel_rfl
def bitloftlaw09_AdaptMean.T14 : Bool × List (List Nat × List Nat) := (true, [([], []), ([], []), ([], []), ([], []), ([2, 3], [2, 3]), ([4], [4]), ([5], [5]), ([1, 6], [1, 6]), ([0, 0], [0]), ([7, 8, 0, 1, 2, 3, 4, 5, 6, 7, 8], [1, 7])])
def bitloftlaw09_AdaptMean.B14 : List Nat := [0, 0, 0, 0, 12, 28, 60, 126, 1, 511]
theorem bitloftlaw09_AdaptMean.tab14 : rtab .any (opsOf Tryd.f5 14) = bitloftlaw09_AdaptMean.T14 := by kernel_rfl
theorem bitloftlaw09_AdaptMean.bits14 : waitsOk bitloftlaw09_AdaptMean.T14.2 bitloftlaw09_AdaptMean.B14 = true := by kernel_rfl
set_option maxHeartbeats 8000000 in
set_option maxRecDepth 100000 in
theorem bitloftlaw09_AdaptMean.calls (k : Nat) (a0 : Int) (a1 : Int) (A2 : Option Addr) (c2 : Nat) (l2 : List Int) (r : Bool) (w : World) (hr2 : Kd.C (Kd.int .u8) w A2 l2.length l2) (hc2 : l2.length ≤ c2) (hT : Tab_ w) (hr_ : r = true) (h : bitloftlaw09_AdaptMean.f k a0 a1 l2 = some r) :
  Calls Tryd.prog 5 #[.int .i64 a0, .int .u8 a1, .slice A2 l2.length c2] w fun e w' => e = .returned (.bool r) ∧ Below w.heap.size w w' := by
 have hu24 := Tryd.underlying24; have HRT_ := Aside0.mk hr_; clear hr_; have HR2 := Aside0.mk hr2; have HC2 := Aside0.mk hc2; clear hr2 hc2; have HB := Aside0.mk (Below.refl w.heap.size w); have H : (if a0 < 1 then (bitloftlaw09_AdaptMean.j0 k a0 a1 l2 true) else (if a0 > 1000 then (bitloftlaw09_AdaptMean.j0 k a0 a1 l2 true) else ((bitloftref08_State.f a1).bind fun t212 => (if t212 = true then (if (l2.length : Int) > 100 then (bitloftlaw09_AdaptMean.j0 k a0 a1 l2 true) else ((bitloftref07_Bits.f k l2).bind fun t213 => (bitloftlaw09_AdaptMean.j0 k a0 a1 l2 (!t213)))) else (bitloftlaw09_AdaptMean.j0 k a0 a1 l2 true))))) = some r := h; clear h; have HC4 := Aside0.mk H; clear H
 go_enter Tryd.func5, Tryd.ntmps5
 go_upto_region 1 with (fail)
 (with_reducible first | refine then_id_ ?_ | (refine wp_tail_ ?_; intro Kt_ hKt_))
 go_cut [37] (fun v37 wc => ∃ (kq : Nat) (x37_3 : Bool), v37 = .bool x37_3 ∧ Aside0 (bitloftlaw09_AdaptMean.j0 kq a0 a1 l2 x37_3 = some r) ∧ Aside0 (kq ≤ k) ∧ Aside0 (Below w.heap.size w wc))
 case first =>
  have H := HC4.out; clear HC4
  by_cases c5 : a0 < 1
  ·
   rw [if_pos c5] at H; have c5b0 : decide (a0 < 1) = true := decide_eq_true c5; clear c5; (first | rw [c5b0] | (simp only [i64_w, i32_w]; rw [c5b0]) | skip); have H' := Aside0.mk H; clear H
   go_wp2
   (first | go_meet | (refine Met.intro ?_; go_step; (repeat apply Exists.intro); refine ⟨?rel, ?eqf_⟩; case eqf_ => ((simp only [c5b0]) <;> rfl)))
   case rel => exact ⟨_, (true), (by first | rfl | (simp; done) | (simp [*]; done)), H', ⟨by first | omega | exact Nat.le_refl _⟩, ⟨pH_ HB.out⟩⟩
  ·
   rw [if_neg c5] at H; have c5b0 : decide (a0 < 1) = false := decide_eq_false c5; clear c5; (first | rw [c5b0] | (simp only [i64_w, i32_w]; rw [c5b0]) | skip)
   by_cases c6 : a0 > 1000
   ·
    rw [if_pos c6] at H; have c6b0 : decide (1000 < a0) = true := decide_eq_true c6; clear c6; have H' := Aside0.mk H; clear H
    go_wp2
    (first | go_meet | (refine Met.intro ?_; go_step; (repeat apply Exists.intro); refine ⟨?rel, ?eqf_⟩; case eqf_ => ((simp only [c6b0, c5b0]) <;> rfl)))
    case rel => exact ⟨_, (true), (by first | rfl | (simp; done) | (simp [*]; done)), H', ⟨by first | omega | exact Nat.le_refl _⟩, ⟨pH_ HB.out⟩⟩
   ·
    rw [if_neg c6] at H; have c6b0 : decide (1000 < a0) = false := decide_eq_false c6; clear c6; replace H := Option.bind_eq_some_iff.mp H; obtain ⟨t212, A70, H⟩ := H; replace H : (if t212 = true then (if (l2.length : Int) > 100 then (bitloftlaw09_AdaptMean.j0 k a0 a1 l2 true) else ((bitloftref07_Bits.f k l2).bind fun t213 => (bitloftlaw09_AdaptMean.j0 k a0 a1 l2 (!t213)))) else (bitloftlaw09_AdaptMean.j0 k a0 a1 l2 true)) = some r := H; have A7 := Aside0.mk A70; clear A70
    by_cases c8 : t212 = true
    ·
     subst c8
     have H1 : (if (l2.length : Int) > 100 then (bitloftlaw09_AdaptMean.j0 k a0 a1 l2 true) else ((bitloftref07_Bits.f k l2).bind fun t213 => (bitloftlaw09_AdaptMean.j0 k a0 a1 l2 (!t213)))) = some r := by rw [if_pos rfl] at H; exact H
     clear H; have H := H1; clear H1
     by_cases c9 : (l2.length : Int) > 100
     ·
      rw [if_pos c9] at H; have c9b0 : decide (100 < (l2.length : Int)) = true := decide_eq_true c9; have c9b1 : decide (100 < l2.length) = true := decide_eq_true (by omega); clear c9; have H' := Aside0.mk H; clear H
      go_wp2_with (first | (go_at_call 22; (with_reducible refine (bitloftref08_State.calls a1 true _ A7.out).mono ?_); rintro e w' ⟨rfl, ⟨nd, rfl⟩⟩))
      (first | go_meet | (refine Met.intro ?_; go_step; (repeat apply Exists.intro); refine ⟨?rel, ?eqf_⟩; case eqf_ => ((simp only [c9b0, c6b0, c5b0]) <;> rfl)))
      case rel => exact ⟨_, (true), (by first | rfl | (simp; done) | (simp [*]; done)), H', ⟨by first | omega | exact Nat.le_refl _⟩, ⟨pH_ HB.out⟩⟩
     ·
      rw [if_neg c9] at H; have c9b0 : decide (100 < (l2.length : Int)) = false := decide_eq_false c9; have c9b1 : decide (100 < l2.length) = false := decide_eq_false (by omega); clear c9; replace H := Option.bind_eq_some_iff.mp H; obtain ⟨t213, A100, H⟩ := H; replace H : (bitloftlaw09_AdaptMean.j0 k a0 a1 l2 (!t213)) = some r := H; have A10 := Aside0.mk A100; clear A100; have H' := Aside0.mk H; clear H
      go_wp2_with (first | (go_at_call 22; (with_reducible refine (bitloftref08_State.calls a1 true _ A7.out).mono ?_); rintro e w' ⟨rfl, ⟨nd, rfl⟩⟩) | (go_at_call 23; (with_reducible refine (bitloftref07_Bits.calls k _ _ l2 t213 _ ?side1 ?side2 A10.out).mono ?_); (case side1 => repeat (first | exact (Kd.C_below HR2.out (pH_ HB.out)) | (with_reducible refine Kd.C_alloc ?_ _) | (with_reducible refine Kd.C_drewN ?_ _) | (with_reducible refine Kd.C_drew ?_))); (case side2 => exact HC2.out); rintro e w' ⟨rfl, ⟨nd, rfl⟩⟩))
      (first | go_meet | (refine Met.intro ?_; go_step; (repeat apply Exists.intro); refine ⟨?rel, ?eqf_⟩; case eqf_ => ((simp only [c9b0, c6b0, c5b0]) <;> rfl)))
      case rel => exact ⟨_, (!t213), (by first | rfl | (simp; done) | (simp [*]; done)), H', ⟨by first | omega | exact Nat.le_refl _⟩, ⟨pH_ HB.out⟩⟩
    ·
     replace c8 := Bool.eq_false_iff.mpr c8
     subst c8
     have H1 : (bitloftlaw09_AdaptMean.j0 k a0 a1 l2 true) = some r := by rw [if_neg (show ¬ (false = true) by decide)] at H; exact H
     clear H; have H := H1; clear H1; have H' := Aside0.mk H; clear H
     go_wp2_with (first | (go_at_call 22; (with_reducible refine (bitloftref08_State.calls a1 false _ A7.out).mono ?_); rintro e w' ⟨rfl, ⟨nd, rfl⟩⟩))
     (first | go_meet | (refine Met.intro ?_; go_step; (repeat apply Exists.intro); refine ⟨?rel, ?eqf_⟩; case eqf_ => ((simp only [c6b0, c5b0]) <;> rfl)))
     case rel => exact ⟨_, (true), (by first | rfl | (simp; done) | (simp [*]; done)), H', ⟨by first | omega | exact Nat.le_refl _⟩, ⟨pH_ HB.out⟩⟩
 case rest =>
  (try (refine hKt_ _ _ ?_; clear hKt_; clear Kt_)); clear HC4
  try clear c2
  try clear p2
  try clear c5
  try clear c5b0
  try clear c6
  try clear c6b0
  try clear c8
  try clear c9
  try clear c9b0
  try clear c9b1
  obtain ⟨kq, x37_3, rfl, HA, HJ3, HB⟩ := hcut
  cases kq with
  | zero => exact absurd HA.out (by simp [bitloftlaw09_AdaptMean.j0])
  | succ kj3 =>
   have H := HA.out; clear HA; simp only [bitloftlaw09_AdaptMean.j0] at H
   by_cases c11 : x37_3 = true
   ·
    subst c11
    have H1 : (some true) = some r := by rw [if_pos rfl] at H; exact H
    clear H; have H := H1; clear H1; have A12 := Aside0.mk (show bitloftlaw09_alive.f 2000 = some true by first | rfl | decide +kernel); obtain rfl := Option.some.inj H
    go_wp2_with (first | ((with_reducible refine gate_callee (f := 21) rfl ?_); refine gL_ (some 38) Tryd.func21 #[] ?_; (with_reducible refine (bitloftlaw09_alive.calls 2000  true _ (tab_bel hT (pH_ HB.out)) A12.out).mono ?_); rintro e w13 ⟨rfl, hb⟩; refine ⟨_, rfl, ?_⟩; have n0_ := Aside0.mk (below_step (pH_ HB.out) hb); clear HB; have HB := n0_; clear n0_; (try clear hb)))
    go_ret
    exact ⟨by first | rfl | (simp [errW_none, errW_some] <;> rfl) | (simp [*, errW_none, errW_some] <;> rfl), pH_ HB.out⟩
   ·
    replace c11 := Bool.eq_false_iff.mpr c11
    subst c11
    have H1 : ((adapt_New.f a0).bind fun bt214 => (if bt214.2.2.2 = 0 then (bitloftlaw09_AdaptMean.l0 kj3 a0 a1 l2 0 0 bt214.1 bt214.2.1 bt214.2.2.1) else (some false))) = some r := by rw [if_neg (show ¬ (false = true) by decide)] at H; exact H
    clear H; have H := H1; clear H1; replace H := Option.bind_eq_some_iff.mp H; obtain ⟨⟨t214, t215, t218, t221⟩, A140, H⟩ := H; replace H : (if t221 = 0 then (bitloftlaw09_AdaptMean.l0 kj3 a0 a1 l2 0 0 t214 t215 t218) else (some false)) = some r := H; have A14 := Aside0.mk A140; clear A140
    by_cases c15 : t221 = 0
    ·
     rw [if_pos c15] at H; have c15b0 : (t221 == 0) = true := beq_iff_eq.mpr c15; have c15b1 : (t221 != 0) = false := bne_eq_false_iff_eq.mpr c15; clear c15; have H' := Aside0.mk H; clear H
     go_wp2_with (first | ((with_reducible refine gate_callee (f := 11) rfl ?_); refine gL_ (some 41) Tryd.func11 #[.int .i64 a0] ?_; (with_reducible refine (adapt_New.calls a0 t214 t215 t218 t221 _ A14.out).mono ?_); rintro e w16 ⟨v216, v219, rfl, ho0, ho1, hb⟩; refine ⟨_, rfl, ?_⟩; have n0_ := Aside0.mk (Kd.R_lower ho0 (below_size (pH_ HB.out))); have n1_ := Aside0.mk (Kd.R_lower ho1 (below_size (pH_ HB.out))); have n2_ := Aside0.mk (below_step (pH_ HB.out) hb); clear HB; have HO217 := n0_; have HO220 := n1_; have HB := n2_; clear n0_ n1_ n2_; (try clear hb); (try clear ho0); (try clear ho1)) | ((with_reducible refine gate_dst (N := 7) rfl ?_); (try (refine gate_guard (by rfl) ?_; dsimp only)); refine box_event ?hg (N := 7) ?hd (cs := #[.int .i32 0, .slice none 0 0, .slice none 0 0]) (t := 24) ?hr ?_; (case hd => rfl); (case hg => rfl); (case hr => first | (go_simp; done) | (go_simp; rfl)); intro gb222 hg w17 hbox hb; have n0_ := Aside0.mk (Kd.R_below (pL_ HO217.out) hb); have n1_ := Aside0.mk (Kd.R_below (pL_ HO220.out) hb); have n2_ := Aside0.mk (below_step (pH_ HB.out) hb); have n3_ := Aside0.mk (hbox); have n4_ := Aside0.mk ((by rw [hg]; exact (below_size (pH_ HB.out)) : w.heap.size ≤ gb222)); have n5_ := Aside0.mk ((by rw [hg]; exact (below_size (pH_ HB.out)) : w.heap.size ≤ gb222)); clear HO217; clear HO220; clear HB; have HO217 := n0_; have HO220 := n1_; have HB := n2_; have BK222 := n3_; have GW222 := n4_; have GE222 := n5_; clear n0_ n1_ n2_ n3_ n4_ n5_; clear hb hbox hg; have hcz18_0 : w17.cell? ⟨gb222, 0, none⟩ = some (.int .i32 0) := (blk_cell BK222.out 0).trans rfl; have hcz18_1 : w17.cell? ⟨gb222, 1, none⟩ = some (.slice none 0 0) := (blk_cell BK222.out 1).trans rfl; have hcz18_2 : w17.cell? ⟨gb222, 2, none⟩ = some (.slice none 0 0) := (blk_cell BK222.out 2).trans rfl; have hfz18_0 := blk_frozen BK222.out 0; have hfz18_1 := blk_frozen BK222.out 1; have hfz18_2 := blk_frozen BK222.out 2; obtain ⟨Ao19, co19, eo19⟩ := Kd.R_slice HO217.out; subst eo19; obtain ⟨Ao20, co20, eo20⟩ := Kd.R_slice HO220.out; subst eo20))
     go_loopg [9, 10] kj3 (fun kq v9 v10 w' => ∃ (x9_2 : Int) (x10_2 : Int) (x223000_2 : Int) (x223001_2 : List Int) (x223002_2 : List Int) (u223001 : Value) (u223002 : Value), v9 = .int .i64 x9_2 ∧ v10 = .int .i64 x10_2 ∧ Aside0 (bitloftlaw09_AdaptMean.l0 kq a0 a1 l2 x9_2 x10_2 x223000_2 x223001_2 x223002_2 = some r) ∧ Aside0 (kq ≤ kj3) ∧ Aside0 (Kd.R (Kd.int .i32) 21 w' w.heap.size (fun k_ => nO_ k_ u223002) u223001 x223001_2) ∧ Aside0 (Kd.R (Kd.int .i32) 21 w' w.heap.size (fun k_ => nO_ k_ u223001) u223002 x223002_2) ∧ Aside0 (w'.heap[gb222]? = some (.cells #[.int .i32 x223000_2, u223001, u223002] 24 (0, 0))) ∧ Aside0 (Below w.heap.size w w'))
     case atStart => exact ⟨(0), (0), (t214), (t215), (t218), (.slice Ao19 t215.length co19), (.slice Ao20 t218.length co20), (by first | rfl | (simp; done) | (simp [*]; done)), (by first | rfl | (simp; done) | (simp [*]; done)), H', ⟨Nat.le_refl _⟩, ⟨by (with_reducible repeat (first | apply rA_ | apply rN_ | apply rD_)); exact Kd.R_mono (Kd.R_far (p := ⟨gb222, 2, none⟩) (Kd.R_far (p := ⟨gb222, 1, none⟩) (Kd.R_far (p := ⟨gb222, 0, none⟩) (Kd.R_types HO217.out BK222.out (by decide)) (fun _ hk => hk.2) (.int .i32 t214)) (fun _ hk => hk.2) (.slice Ao19 t215.length co19)) (fun _ hk => hk.2) (.slice Ao20 t218.length co20)) (fun _ hk => hk.1)⟩, ⟨by (with_reducible repeat (first | apply rA_ | apply rN_ | apply rD_)); exact Kd.R_mono (Kd.R_far (p := ⟨gb222, 2, none⟩) (Kd.R_far (p := ⟨gb222, 1, none⟩) (Kd.R_far (p := ⟨gb222, 0, none⟩) (Kd.R_types HO220.out BK222.out (by decide)) (fun _ hk => hk.2) (.int .i32 t214)) (fun _ hk => hk.2) (.slice Ao19 t215.length co19)) (fun _ hk => hk.2) (.slice Ao20 t218.length co20)) (fun _ hk => hk.1)⟩, ⟨by (with_reducible repeat (first | refine blk_drewN ?_ _ | refine blk_drew ?_ | refine blk_alloc ?_ _)); refine blk_put (cs := #[.int .i32 t214, .slice Ao19 t215.length co19, .slice none 0 0]) ?_ 2 _ rfl; (with_reducible repeat (first | refine blk_drewN ?_ _ | refine blk_drew ?_ | refine blk_alloc ?_ _)); refine blk_put (cs := #[.int .i32 t214, .slice none 0 0, .slice none 0 0]) ?_ 1 _ rfl; (with_reducible repeat (first | refine blk_drewN ?_ _ | refine blk_drew ?_ | refine blk_alloc ?_ _)); refine blk_put (cs := #[.int .i32 0, .slice none 0 0, .slice none 0 0]) ?_ 0 _ rfl; (with_reducible repeat (first | refine blk_drewN ?_ _ | refine blk_drew ?_ | refine blk_alloc ?_ _)); exact BK222.out⟩, ⟨pH_ HB.out⟩⟩
     case round =>
      clear H'
      try clear c1
      try clear c2
      try clear p2
      try clear c5
      try clear c5b0
      try clear c6
      try clear c6b0
      try clear c8
      try clear c9
      try clear c9b0
      try clear c9b1
      try clear c11
      try clear c15
      try clear c15b0
      try clear c15b1
      try clear hcz18_0
      try clear hcz18_1
      try clear hcz18_2
      try clear hfz18_0
      try clear hfz18_1
      try clear hfz18_2
      try clear p2
      obtain ⟨x9_2, x10_2, x223000_2, x223001_2, x223002_2, u223001, u223002, rfl, rfl, HA, HK2, HO_223001, HO_223002, BK222, HB⟩ := hrel
      cases gk with
      | zero => exact absurd HA.out (by simp [bitloftlaw09_AdaptMean.l0])
      | succ k2 =>
       have H := HA.out; clear HA; simp only [bitloftlaw09_AdaptMean.l0] at H; have HC21 := Aside0.mk H; clear H
       go_upto_region 8 with (fail)
       (with_reducible first | refine then_id_ ?_ | (refine wp_tail_ ?_; intro Kt_ hKt_))
       go_cut [54] (fun v54 wc => ∃ (kq : Nat) (x54_20 : Bool), v54 = .bool x54_20 ∧ Aside0 (bitloftlaw09_AdaptMean.j2 kq a0 a1 l2 x9_2 x10_2 x54_20 x223000_2 x223001_2 x223002_2 = some r) ∧ Aside0 (kq ≤ k2) ∧ Aside0 (Kd.R (Kd.int .i32) 21 wc w.heap.size (fun k_ => nO_ k_ u223002) u223001 x223001_2) ∧ Aside0 (Kd.R (Kd.int .i32) 21 wc w.heap.size (fun k_ => nO_ k_ u223001) u223002 x223002_2) ∧ Aside0 (wc.heap[gb222]? = some (.cells #[.int .i32 x223000_2, u223001, u223002] 24 (0, 0))) ∧ Aside0 (Below w.heap.size w wc))
       case first =>
        have H := HC21.out; clear HC21
        by_cases c22 : x10_2 < (l2.length : Int)
        ·
         rw [if_pos c22] at H; have c22b0 : decide (x10_2 < (l2.length : Int)) = true := decide_eq_true c22; clear c22; (first | rw [c22b0] | (simp only [i64_w, i32_w]; rw [c22b0]) | skip); have H' := Aside0.mk H; clear H
         go_wp2
         (first | go_meet | (refine Met.intro ?_; go_step; (repeat apply Exists.intro); refine ⟨?rel, ?eqf_⟩; case eqf_ => ((simp only [c22b0]) <;> rfl)))
         case rel => exact ⟨_, (decide (x10_2 < a0)), (by first | rfl | (simp; done) | (simp [*]; done)), H', ⟨by have := HJ3.out; have := HK2.out; first | omega | exact Nat.le_refl _⟩, ⟨pL_ HO_223001.out⟩, ⟨pL_ HO_223002.out⟩, ⟨pG_ BK222.out⟩, ⟨pH_ HB.out⟩⟩
        ·
         rw [if_neg c22] at H; have c22b0 : decide (x10_2 < (l2.length : Int)) = false := decide_eq_false c22; clear c22; (first | rw [c22b0] | (simp only [i64_w, i32_w]; rw [c22b0]) | skip); have H' := Aside0.mk H; clear H
         go_wp2
         (first | go_meet | (refine Met.intro ?_; go_step; (repeat apply Exists.intro); refine ⟨?rel, ?eqf_⟩; case eqf_ => ((simp only [c22b0]) <;> rfl)))
         case rel => exact ⟨_, (false), (by first | rfl | (simp; done) | (simp [*]; done)), H', ⟨by have := HJ3.out; have := HK2.out; first | omega | exact Nat.le_refl _⟩, ⟨pL_ HO_223001.out⟩, ⟨pL_ HO_223002.out⟩, ⟨pG_ BK222.out⟩, ⟨pH_ HB.out⟩⟩
       case rest =>
        (try (refine hKt_ _ _ ?_; clear hKt_; clear Kt_)); clear HC21
        try clear c1
        try clear c2
        try clear p2
        try clear c5
        try clear c5b0
        try clear c6
        try clear c6b0
        try clear c8
        try clear c9
        try clear c9b0
        try clear c9b1
        try clear c11
        try clear c15
        try clear c15b0
        try clear c15b1
        try clear c21
        try clear c22
        try clear c22b0
        try clear hcz18_0
        try clear hcz18_1
        try clear hcz18_2
        try clear hfz18_0
        try clear hfz18_1
        try clear hfz18_2
        try clear p2
        obtain ⟨kq, x54_20, rfl, HA, HJ20, HO_223001, HO_223002, BK222, HB⟩ := hcut
        cases kq with
        | zero => exact absurd HA.out (by simp [bitloftlaw09_AdaptMean.j2])
        | succ kj20 =>
         have H := HA.out; clear HA; simp only [bitloftlaw09_AdaptMean.j2] at H
         by_cases c23 : x54_20 = true
         ·
          subst c23
          have H1 : (if 0 ≤ x10_2 then (if x10_2 < (l2.length : Int) then ((adapt_Update.f kj20 x223000_2 x223001_2 x223002_2 a1 (rd l2 x10_2)).bind fun bt224 => ((adapt_P.f kj20 bt224.1 bt224.2.1 bt224.2.2.1 a1).bind fun bt233 => (if bt224.2.2.2 = 0 then (bitloftlaw09_AdaptMean.j3 kj20 a0 a1 l2 x9_2 x10_2 bt233.1 (bt233.2 != 0) bt224.1 bt224.2.1 bt224.2.2.1) else (bitloftlaw09_AdaptMean.j3 kj20 a0 a1 l2 x9_2 x10_2 bt233.1 true bt224.1 bt224.2.1 bt224.2.2.1)))) else (none)) else (none)) = some r := by rw [if_pos rfl] at H; exact H
          clear H; have H := H1; clear H1
          by_cases c24 : 0 ≤ x10_2
          ·
           rw [if_pos c24] at H; have c24b0 : decide (0 ≤ x10_2) = true := decide_eq_true c24; clear c24
           by_cases c25 : x10_2 < (l2.length : Int)
           ·
            rw [if_pos c25] at H; have c25b0 : decide (x10_2 < (l2.length : Int)) = true := decide_eq_true c25; clear c25; replace H := Option.bind_eq_some_iff.mp H; obtain ⟨⟨t224, t225, t228, t231⟩, A260, H⟩ := H; replace H : ((adapt_P.f kj20 t224 t225 t228 a1).bind fun bt233 => (if t231 = 0 then (bitloftlaw09_AdaptMean.j3 kj20 a0 a1 l2 x9_2 x10_2 bt233.1 (bt233.2 != 0) t224 t225 t228) else (bitloftlaw09_AdaptMean.j3 kj20 a0 a1 l2 x9_2 x10_2 bt233.1 true t224 t225 t228))) = some r := H; have A26 := Aside0.mk A260; clear A260; replace H := Option.bind_eq_some_iff.mp H; obtain ⟨⟨t233, t234⟩, A270, H⟩ := H; replace H : (if t231 = 0 then (bitloftlaw09_AdaptMean.j3 kj20 a0 a1 l2 x9_2 x10_2 t233 (t234 != 0) t224 t225 t228) else (bitloftlaw09_AdaptMean.j3 kj20 a0 a1 l2 x9_2 x10_2 t233 true t224 t225 t228)) = some r := H; have A27 := Aside0.mk A270; clear A270; have HC28 := Aside0.mk H; clear H; obtain ⟨Ao29, co29, eo29⟩ := Kd.R_slice HO_223001.out
            subst eo29
            obtain ⟨Ao30, co30, eo30⟩ := Kd.R_slice HO_223002.out
            subst eo30
            try go_wp2
            have n0_ := Aside0.mk (Kd.R_drew HO_223001.out); have n1_ := Aside0.mk (Kd.R_drew HO_223002.out); have n2_ := Aside0.mk (blk_drew BK222.out); have n3_ := Aside0.mk (below_drew1 HB.out); clear HO_223001; clear HO_223002; clear BK222; clear HB; have HO_223001 := n0_; have HO_223002 := n1_; have BK222 := n2_; have HB := n3_; clear n0_ n1_ n2_ n3_; have p223 : 0 ≤ (x10_2 : Int) := of_decide_eq_true (by first | (with_reducible assumption) | assumption); have q223 : x10_2 < (l2.length : Int) := of_decide_eq_true (by first | (with_reducible assumption) | assumption); obtain ⟨ad223, e223, hx223_0⟩ := Kd.at_int HR2.out x10_2 p223 q223; have hw223_0 := hx223_0
            cases e223
            replace hx223_0 := (HB.out.cell (World.block_lt_of_cell? w _ hx223_0)).trans hx223_0; replace p223 := eq_true p223; replace q223 := eq_true q223; refine start_ (n := 13) (S := fun w' => w'.cell? ⟨gb222, 0, none⟩ = some (.int .i32 x223000_2) ∧ w'.cell? ⟨gb222, 1, none⟩ = some (.slice _ x223001_2.length co29) ∧ w'.cell? ⟨gb222, 2, none⟩ = some (.slice _ x223002_2.length co30) ∧ w'.cell? (ad223.add (x10_2).toNat) = some (.int .u8 (rd l2 x10_2))) (ds := []) #[f_, f_, f_, f_, f_, f_, f_, f_, f_, f_, f_, f_, f_] (by kernel_rfl) rfl rfl ⟨(blk_cell BK222.out 0).trans rfl, (blk_cell BK222.out 1).trans rfl, (blk_cell BK222.out 2).trans rfl, ((HB.out.cell (World.block_lt_of_cell? w _ hw223_0)).trans hw223_0)⟩ (fun hHeld => ?_); refine with_tabW bitloftlaw09_AdaptMean.tab10 bitloftlaw09_AdaptMean.bits10 (fun HT_ HW_ => ?_)
            generalize wc.drew = w31 at HO_223001 HO_223002 BK222 HB hx223_0 hHeld ⊢
            refine pure_ (i := 1) (N := some 59) (v := ?_) (a' := ?_) #[f_, t_, f_, f_, f_, f_, f_, f_, f_, f_, f_, f_, f_] rfl rfl (any_of HT_.out (by kernel_rfl)) (fun _ _ _ h => h) (Or.inl ⟨by rfl, ?_⟩) ?_ ?_; rotate_left
            ·
             intro w'; go_simp
             with_reducible rfl
            rotate_left
            ·
             simp only [Act.put, sA_, sZ_, sS_, i64_w, i32_w]; rfl
            refine pure_ (i := 2) (N := some 60) (v := ?_) (a' := ?_) #[f_, t_, t_, f_, f_, f_, f_, f_, f_, f_, f_, f_, f_] rfl rfl (any_of HT_.out (by kernel_rfl)) (fun _ _ _ h => h) (Or.inl ⟨by rfl, ?_⟩) ?_ ?_; rotate_left
            ·
             intro w'; go_simp
             with_reducible rfl
            rotate_left
            ·
             simp only [Act.put, sA_, sZ_, sS_, i64_w, i32_w]; rfl
            refine pure_ (i := 3) (N := some 61) (v := ?_) (a' := ?_) #[f_, t_, t_, t_, f_, f_, f_, f_, f_, f_, f_, f_, f_] rfl rfl (any_of HT_.out (by kernel_rfl)) (fun _ _ _ h => h) (Or.inl ⟨by rfl, ?_⟩) ?_ ?_; rotate_left
            ·
             intro w'; go_simp
             with_reducible rfl
            rotate_left
            ·
             simp only [Act.put, sA_, sZ_, sS_, i64_w, i32_w]; rfl
            refine pure_ (i := 4) (N := some 62) (v := ?_) (a' := ?_) #[f_, t_, t_, t_, t_, f_, f_, f_, f_, f_, f_, f_, f_] rfl rfl (any_of HT_.out (by kernel_rfl)) (fun _ _ _ h => h) (Or.inl ⟨by rfl, ?_⟩) ?_ ?_; rotate_left
            ·
             intro w'; go_simp
             with_reducible rfl
            rotate_left
            ·
             simp only [Act.put, sA_, sZ_, sS_, i64_w, i32_w]; rfl
            refine take_ (i := 0) (N := some 58) (v := ?_) (a' := ?_) #[t_, t_, t_, t_, t_, f_, f_, f_, f_, f_, f_, f_, f_] rfl rfl (take_ofW HT_.out HW_.out (by kernel_rfl)) (fun _ _ _ h => h) (Or.inl ⟨by rfl, ?_⟩) hHeld ?_ ?_; rotate_left
            ·
             rintro w' ⟨s0, s1, s2, s3⟩
             go_simp
             with_reducible rfl
            rotate_left
            ·
             simp only [Act.put, sA_, sZ_, sS_, i64_w, i32_w]; rfl
            refine take_ (i := 5) (N := some 63) (v := ?_) (a' := ?_) #[t_, t_, t_, t_, t_, t_, f_, f_, f_, f_, f_, f_, f_] rfl rfl (take_ofW HT_.out HW_.out (by kernel_rfl)) (fun _ _ _ h => h) (Or.inl ⟨by rfl, ?_⟩) hHeld ?_ ?_; rotate_left
            ·
             rintro w' ⟨s0, s1, s2, s3⟩
             go_simp
             with_reducible rfl
            rotate_left
            ·
             simp only [Act.put, sA_, sZ_, sS_, i64_w, i32_w]; rfl
            refine join_ (σ := Value × Value × Nat) 2 #[t_, t_, t_, t_, t_, t_, t_, t_, t_, t_, t_, f_, f_] (fun s_ => [(64, .tuple #[.agg #[.int .i32 t224, s_.1, s_.2.1], .int .i64 t231]), (11, .pointer (some ⟨s_.2.2, 0, none⟩)), (57, .tuple #[.agg #[.int .i32 t224, s_.1, s_.2.1], .int .i64 t231]), (65, .agg #[.int .i32 t224, s_.1, s_.2.1]), (66, .int .i64 t231)]) (fun s_ w' => (w'.cell? ⟨gb222, 0, none⟩ = some (.int .i32 x223000_2) ∧ w'.cell? ⟨gb222, 1, none⟩ = some (.slice Ao29 x223001_2.length co29) ∧ w'.cell? ⟨gb222, 2, none⟩ = some (.slice Ao30 x223002_2.length co30) ∧ w'.cell? (ad223.add (x10_2).toNat) = some (.int .u8 (rd l2 x10_2))) ∧ (Kd.R (Kd.int .i32) 21 w' w.heap.size (fun k_ => nO_ k_ s_.2.1 ∧ nO_ k_ (.slice Ao29 x223001_2.length co29) ∧ nO_ k_ (.slice Ao30 x223002_2.length co30)) s_.1 t225) ∧ (Kd.R (Kd.int .i32) 21 w' w.heap.size (fun k_ => nO_ k_ s_.1 ∧ nO_ k_ (.slice Ao29 x223001_2.length co29) ∧ nO_ k_ (.slice Ao30 x223002_2.length co30)) s_.2.1 t228) ∧ (Kd.R (Kd.int .i32) 21 w' w.heap.size (fun k_ => nO_ k_ s_.1 ∧ nO_ k_ s_.2.1 ∧ nO_ k_ (.slice Ao30 x223002_2.length co30)) (.slice Ao29 x223001_2.length co29) x223001_2) ∧ (Kd.R (Kd.int .i32) 21 w' w.heap.size (fun k_ => nO_ k_ s_.1 ∧ nO_ k_ s_.2.1 ∧ nO_ k_ (.slice Ao29 x223001_2.length co29)) (.slice Ao30 x223002_2.length co30) x223002_2) ∧ (w'.heap[gb222]? = some (.cells #[.int .i32 x223000_2, .slice Ao29 x223001_2.length co29, .slice Ao30 x223002_2.length co30] 24 (0, 0))) ∧ (w'.heap[s_.2.2]? = some (.cells #[.int .i32 0, .slice none 0 0, .slice none 0 0] 24 (0, 0))) ∧ (w.heap.size ≤ s_.2.2) ∧ (w.heap.size ≤ s_.2.2) ∧ (gb222 ≠ s_.2.2) ∧ (s_.2.2 ≠ gb222) ∧ (Below w.heap.size w w')) ?_ ?_; rotate_left
            ·
             intro hCont; refine two_ (i := 6) (j := 10) (Ni := some 64) (Nj := some 11) #[t_, t_, t_, t_, t_, t_, t_, f_, f_, f_, f_, f_, f_] #[t_, t_, t_, t_, t_, t_, f_, f_, f_, f_, t_, f_, f_] rfl rfl rfl rfl (two_of HT_.out (by kernel_rfl)) (by decide) (by decide) (fun K hK => ?_) (fun K hK => ?_)
             ·
              skip
              refine goes_ Tryd.func15 (by kernel_rfl) rfl #[.agg #[.int .i32 x223000_2, .slice Ao29 x223001_2.length co29, .slice Ao30 x223002_2.length co30], .int .u8 a1, .int .u8 (rd l2 x10_2)] (by rfl) rfl rfl (by (try simp only [List.map_toArray, List.map_cons, List.map_nil]); first | done | rfl | (simp only [List.length_drop, List.length_take]; rfl)) ?_
              with_reducible refine (adapt_Update.calls kj20 x223000_2 _ _ x223001_2 _ _ x223002_2 a1 (rd l2 x10_2) t224 t225 t228 t231 _ ?side1 ?side2 ?side3 ?side4 (tab_bel hT (pH_ HB.out)) A26.out).mono ?_
              (case side1 => repeat (first | exact (Kd.R_reads' HO_223001.out).2.2 | (with_reducible refine Kd.C_alloc ?_ _) | (with_reducible refine Kd.C_drewN ?_ _) | (with_reducible refine Kd.C_drew ?_))); (case side2 => exact (Kd.R_reads' HO_223001.out).2.1); (case side3 => repeat (first | exact (Kd.R_reads' HO_223002.out).2.2 | (with_reducible refine Kd.C_alloc ?_ _) | (with_reducible refine Kd.C_drewN ?_ _) | (with_reducible refine Kd.C_drew ?_))); (case side4 => exact (Kd.R_reads' HO_223002.out).2.1)
              rintro e w32 ⟨v226, v229, rfl, ho0, ho1, hb⟩
              refine ⟨_, rfl, ?_⟩; have n0_ := Aside0.mk (Kd.R_mono (Kd.R_told (Kd.R_told (Kd.R_old (pL_ HO_223001.out) hb) (Kd.R_base ho0)) (Kd.R_base ho1)) (fun _ h_ => h_.1)); have n1_ := Aside0.mk (Kd.R_mono (Kd.R_told (Kd.R_told (Kd.R_old (pL_ HO_223002.out) hb) (Kd.R_base ho0)) (Kd.R_base ho1)) (fun _ h_ => h_.1)); have n2_ := Aside0.mk (Kd.R_lower (Kd.R_new' (Kd.R_new' ho0 (Kd.R_lt (pL_ HO_223001.out))) (Kd.R_lt (pL_ HO_223002.out))) (below_size (pH_ HB.out))); have n3_ := Aside0.mk (Kd.R_lower (Kd.R_new' (Kd.R_new' ho1 (Kd.R_lt (pL_ HO_223001.out))) (Kd.R_lt (pL_ HO_223002.out))) (below_size (pH_ HB.out))); have n4_ := Aside0.mk (blk_below (pG_ BK222.out) hb); have n5_ := Aside0.mk (below_step (pH_ HB.out) hb); clear HO_223001; clear HO_223002; clear BK222; clear HB; have HO_223001 := n0_; have HO_223002 := n1_; have HO227 := n2_; have HO230 := n3_; have BK222 := n4_; have HB := n5_; clear n0_ n1_ n2_ n3_ n4_ n5_; (try clear hb); (try clear hb2); (try clear hk); (try clear hi); (try clear ho0); (try clear ho1); refine hK.out _ _ ⟨(blk_cell BK222.out 0).trans rfl, (blk_cell BK222.out 1).trans rfl, (blk_cell BK222.out 2).trans rfl, ((HB.out.cell (World.block_lt_of_cell? w _ hw223_0)).trans hw223_0)⟩ (fun hHeld => ?_); clear hK K; refine norm_ (a' := ?_) ?_ ?_; rotate_left
              ·
               show Act.put _ (some 64) _ = _
               simp only [Act.put, sA_, sZ_, sS_, i64_w, i32_w]; rfl
              refine pure_ (i := 7) (N := some 57) (v := ?_) (a' := ?_) #[t_, t_, t_, t_, t_, t_, t_, t_, f_, f_, f_, f_, f_] rfl rfl (any_of HT_.out (by kernel_rfl)) (fun _ _ _ h => h) (Or.inl ⟨by rfl, ?_⟩) ?_ ?_; rotate_left
              ·
               intro w'; go_simp
               with_reducible rfl
              rotate_left
              ·
               simp only [Act.put, sA_, sZ_, sS_, i64_w, i32_w]; rfl
              refine pure_ (i := 8) (N := some 65) (v := ?_) (a' := ?_) #[t_, t_, t_, t_, t_, t_, t_, t_, t_, f_, f_, f_, f_] rfl rfl (any_of HT_.out (by kernel_rfl)) (fun _ _ _ h => h) (Or.inl ⟨by rfl, ?_⟩) ?_ ?_; rotate_left
              ·
               intro w'; go_simp
               with_reducible rfl
              rotate_left
              ·
               simp only [Act.put, sA_, sZ_, sS_, i64_w, i32_w]; rfl
              refine pure_ (i := 9) (N := some 66) (v := ?_) (a' := ?_) #[t_, t_, t_, t_, t_, t_, t_, t_, t_, t_, f_, f_, f_] rfl rfl (any_of HT_.out (by kernel_rfl)) (fun _ _ _ h => h) (Or.inl ⟨by rfl, ?_⟩) ?_ ?_; rotate_left
              ·
               intro w'; go_simp
               with_reducible rfl
              rotate_left
              ·
               simp only [Act.put, sA_, sZ_, sS_, i64_w, i32_w]; rfl
              refine one_ (i := 10) (N := some 11) #[t_, t_, t_, t_, t_, t_, t_, t_, t_, t_, t_, f_, f_] rfl rfl (one_of HT_.out (by kernel_rfl)) (by decide) (fun K hK => ?_); refine box_step ?hg (N := 11) ?hd (cs := #[.int .i32 0, .slice none 0 0, .slice none 0 0]) (t := 24) ?hr ?_; (case hd => rfl); (case hg => rfl); (case hr => first | (go_simp; done) | (go_simp; rfl)); intro gb232 hg w33 hbox hb; have n0_ := Aside0.mk (Kd.R_below (pL_ HO_223001.out) hb); have n1_ := Aside0.mk (Kd.R_below (pL_ HO_223002.out) hb); have n2_ := Aside0.mk (Kd.R_below (pL_ HO227.out) hb); have n3_ := Aside0.mk (Kd.R_below (pL_ HO230.out) hb); have n4_ := Aside0.mk (blk_below (pG_ BK222.out) hb); have n5_ := Aside0.mk (below_step (pH_ HB.out) hb); have n6_ := Aside0.mk (hbox); have n7_ := Aside0.mk ((by rw [hg]; exact (below_size (pH_ HB.out)) : w.heap.size ≤ gb232)); have n8_ := Aside0.mk ((by rw [hg]; exact (below_size (pH_ HB.out)) : w.heap.size ≤ gb232)); have n9_ := Aside0.mk ((by rw [hg]; exact Nat.ne_of_lt (blk_lt (pG_ BK222.out)) : gb222 ≠ gb232)); have n10_ := Aside0.mk ((by rw [hg]; exact Nat.ne_of_gt (blk_lt (pG_ BK222.out)) : gb232 ≠ gb222)); clear HO_223001; clear HO_223002; clear HO227; clear HO230; clear BK222; clear HB; have HO_223001 := n0_; have HO_223002 := n1_; have HO227 := n2_; have HO230 := n3_; have BK222 := n4_; have HB := n5_; have BK232 := n6_; have GW232 := n7_; have GE232 := n8_; have NB222_232 := n9_; have NB232_222 := n10_; clear n0_ n1_ n2_ n3_ n4_ n5_ n6_ n7_ n8_ n9_ n10_; clear hb hbox hg; refine hK.out _ _ ⟨(blk_cell BK222.out 0).trans rfl, (blk_cell BK222.out 1).trans rfl, (blk_cell BK222.out 2).trans rfl, ((HB.out.cell (World.block_lt_of_cell? w _ hw223_0)).trans hw223_0)⟩ (fun hHeld => ?_); clear hK K; refine norm_ (a' := ?_) ?_ ?_; rotate_left
              ·
               show Act.put _ (some 11) _ = _
               simp only [Act.put, sA_, sZ_, sS_, i64_w, i32_w]; rfl
              exact norm_ (by simp only [putAll, Act.put, sA_, sZ_, sS_]) (hCont (v226, v229, gb232) _ ⟨hHeld, (by (with_reducible repeat (first | apply rA_ | apply rN_ | apply rD_)); exact Kd.R_mono HO227.out (fun _ hk => ⟨hk.1.1, ⟨hk.1.2, hk.2⟩⟩)), (by (with_reducible repeat (first | apply rA_ | apply rN_ | apply rD_)); exact Kd.R_mono HO230.out (fun _ hk => ⟨hk.1.1, ⟨hk.1.2, hk.2⟩⟩)), (by (with_reducible repeat (first | apply rA_ | apply rN_ | apply rD_)); exact Kd.R_mono HO_223001.out (fun _ hk => ⟨hk.1.2, ⟨hk.2, hk.1.1⟩⟩)), (by (with_reducible repeat (first | apply rA_ | apply rN_ | apply rD_)); exact Kd.R_mono HO_223002.out (fun _ hk => ⟨hk.1.2, ⟨hk.2, hk.1.1⟩⟩)), (pG_ BK222.out), (pG_ BK232.out), GW232.out, GE232.out, NB222_232.out, NB232_222.out, (pH_ HB.out)⟩)
             ·
              skip
              refine box_step ?hg (N := 11) ?hd (cs := #[.int .i32 0, .slice none 0 0, .slice none 0 0]) (t := 24) ?hr ?_; (case hd => rfl); (case hg => rfl); (case hr => first | (go_simp; done) | (go_simp; rfl)); intro gb232 hg w32 hbox hb; have n0_ := Aside0.mk (Kd.R_below (pL_ HO_223001.out) hb); have n1_ := Aside0.mk (Kd.R_below (pL_ HO_223002.out) hb); have n2_ := Aside0.mk (blk_below (pG_ BK222.out) hb); have n3_ := Aside0.mk (below_step (pH_ HB.out) hb); have n4_ := Aside0.mk (hbox); have n5_ := Aside0.mk ((by rw [hg]; exact (below_size (pH_ HB.out)) : w.heap.size ≤ gb232)); have n6_ := Aside0.mk ((by rw [hg]; exact (below_size (pH_ HB.out)) : w.heap.size ≤ gb232)); have n7_ := Aside0.mk ((by rw [hg]; exact Nat.ne_of_lt (blk_lt (pG_ BK222.out)) : gb222 ≠ gb232)); have n8_ := Aside0.mk ((by rw [hg]; exact Nat.ne_of_gt (blk_lt (pG_ BK222.out)) : gb232 ≠ gb222)); clear HO_223001; clear HO_223002; clear BK222; clear HB; have HO_223001 := n0_; have HO_223002 := n1_; have BK222 := n2_; have HB := n3_; have BK232 := n4_; have GW232 := n5_; have GE232 := n6_; have NB222_232 := n7_; have NB232_222 := n8_; clear n0_ n1_ n2_ n3_ n4_ n5_ n6_ n7_ n8_; clear hb hbox hg; refine hK.out _ _ ⟨(blk_cell BK222.out 0).trans rfl, (blk_cell BK222.out 1).trans rfl, (blk_cell BK222.out 2).trans rfl, ((HB.out.cell (World.block_lt_of_cell? w _ hw223_0)).trans hw223_0)⟩ (fun hHeld => ?_); clear hK K; refine norm_ (a' := ?_) ?_ ?_; rotate_left
              ·
               show Act.put _ (some 11) _ = _
               simp only [Act.put, sA_, sZ_, sS_, i64_w, i32_w]; rfl
              refine one_ (i := 6) (N := some 64) #[t_, t_, t_, t_, t_, t_, t_, f_, f_, f_, t_, f_, f_] rfl rfl (one_of HT_.out (by kernel_rfl)) (by decide) (fun K hK => ?_); refine goes_ Tryd.func15 (by kernel_rfl) rfl #[.agg #[.int .i32 x223000_2, .slice Ao29 x223001_2.length co29, .slice Ao30 x223002_2.length co30], .int .u8 a1, .int .u8 (rd l2 x10_2)] (by rfl) rfl rfl (by (try simp only [List.map_toArray, List.map_cons, List.map_nil]); first | done | rfl | (simp only [List.length_drop, List.length_take]; rfl)) ?_
              with_reducible refine (adapt_Update.calls kj20 x223000_2 _ _ x223001_2 _ _ x223002_2 a1 (rd l2 x10_2) t224 t225 t228 t231 _ ?side1 ?side2 ?side3 ?side4 (tab_bel hT (pH_ HB.out)) A26.out).mono ?_
              (case side1 => repeat (first | exact (Kd.R_reads' HO_223001.out).2.2 | (with_reducible refine Kd.C_alloc ?_ _) | (with_reducible refine Kd.C_drewN ?_ _) | (with_reducible refine Kd.C_drew ?_))); (case side2 => exact (Kd.R_reads' HO_223001.out).2.1); (case side3 => repeat (first | exact (Kd.R_reads' HO_223002.out).2.2 | (with_reducible refine Kd.C_alloc ?_ _) | (with_reducible refine Kd.C_drewN ?_ _) | (with_reducible refine Kd.C_drew ?_))); (case side4 => exact (Kd.R_reads' HO_223002.out).2.1)
              rintro e w33 ⟨v226, v229, rfl, ho0, ho1, hb⟩
              refine ⟨_, rfl, ?_⟩; have n0_ := Aside0.mk (Kd.R_mono (Kd.R_told (Kd.R_told (Kd.R_old (pL_ HO_223001.out) hb) (Kd.R_base ho0)) (Kd.R_base ho1)) (fun _ h_ => h_.1)); have n1_ := Aside0.mk (Kd.R_mono (Kd.R_told (Kd.R_told (Kd.R_old (pL_ HO_223002.out) hb) (Kd.R_base ho0)) (Kd.R_base ho1)) (fun _ h_ => h_.1)); have n2_ := Aside0.mk (Kd.R_lower (Kd.R_new' (Kd.R_new' ho0 (Kd.R_lt (pL_ HO_223001.out))) (Kd.R_lt (pL_ HO_223002.out))) (below_size (pH_ HB.out))); have n3_ := Aside0.mk (Kd.R_lower (Kd.R_new' (Kd.R_new' ho1 (Kd.R_lt (pL_ HO_223001.out))) (Kd.R_lt (pL_ HO_223002.out))) (below_size (pH_ HB.out))); have n4_ := Aside0.mk (blk_below (pG_ BK222.out) hb); have n5_ := Aside0.mk (blk_below (pG_ BK232.out) hb); have n6_ := Aside0.mk (below_step (pH_ HB.out) hb); clear HO_223001; clear HO_223002; clear BK222; clear BK232; clear HB; have HO_223001 := n0_; have HO_223002 := n1_; have HO227 := n2_; have HO230 := n3_; have BK222 := n4_; have BK232 := n5_; have HB := n6_; clear n0_ n1_ n2_ n3_ n4_ n5_ n6_; (try clear hb); (try clear hb2); (try clear hk); (try clear hi); (try clear ho0); (try clear ho1); refine hK.out _ _ ⟨(blk_cell BK222.out 0).trans rfl, (blk_cell BK222.out 1).trans rfl, (blk_cell BK222.out 2).trans rfl, ((HB.out.cell (World.block_lt_of_cell? w _ hw223_0)).trans hw223_0)⟩ (fun hHeld => ?_); clear hK K; refine norm_ (a' := ?_) ?_ ?_; rotate_left
              ·
               show Act.put _ (some 64) _ = _
               simp only [Act.put, sA_, sZ_, sS_, i64_w, i32_w]; rfl
              refine pure_ (i := 7) (N := some 57) (v := ?_) (a' := ?_) #[t_, t_, t_, t_, t_, t_, t_, t_, f_, f_, t_, f_, f_] rfl rfl (any_of HT_.out (by kernel_rfl)) (fun _ _ _ h => h) (Or.inl ⟨by rfl, ?_⟩) ?_ ?_; rotate_left
              ·
               intro w'; go_simp
               with_reducible rfl
              rotate_left
              ·
               simp only [Act.put, sA_, sZ_, sS_, i64_w, i32_w]; rfl
              refine pure_ (i := 8) (N := some 65) (v := ?_) (a' := ?_) #[t_, t_, t_, t_, t_, t_, t_, t_, t_, f_, t_, f_, f_] rfl rfl (any_of HT_.out (by kernel_rfl)) (fun _ _ _ h => h) (Or.inl ⟨by rfl, ?_⟩) ?_ ?_; rotate_left
              ·
               intro w'; go_simp
               with_reducible rfl
              rotate_left
              ·
               simp only [Act.put, sA_, sZ_, sS_, i64_w, i32_w]; rfl
              refine pure_ (i := 9) (N := some 66) (v := ?_) (a' := ?_) #[t_, t_, t_, t_, t_, t_, t_, t_, t_, t_, t_, f_, f_] rfl rfl (any_of HT_.out (by kernel_rfl)) (fun _ _ _ h => h) (Or.inl ⟨by rfl, ?_⟩) ?_ ?_; rotate_left
              ·
               intro w'; go_simp
               with_reducible rfl
              rotate_left
              ·
               simp only [Act.put, sA_, sZ_, sS_, i64_w, i32_w]; rfl
              exact norm_ (by simp only [putAll, Act.put, sA_, sZ_, sS_]) (hCont (v226, v229, gb232) _ ⟨hHeld, (by (with_reducible repeat (first | apply rA_ | apply rN_ | apply rD_)); exact Kd.R_mono HO227.out (fun _ hk => ⟨hk.1.1, ⟨hk.1.2, hk.2⟩⟩)), (by (with_reducible repeat (first | apply rA_ | apply rN_ | apply rD_)); exact Kd.R_mono HO230.out (fun _ hk => ⟨hk.1.1, ⟨hk.1.2, hk.2⟩⟩)), (by (with_reducible repeat (first | apply rA_ | apply rN_ | apply rD_)); exact Kd.R_mono HO_223001.out (fun _ hk => ⟨hk.1.2, ⟨hk.2, hk.1.1⟩⟩)), (by (with_reducible repeat (first | apply rA_ | apply rN_ | apply rD_)); exact Kd.R_mono HO_223002.out (fun _ hk => ⟨hk.1.2, ⟨hk.2, hk.1.1⟩⟩)), (pG_ BK222.out), (pG_ BK232.out), GW232.out, GE232.out, NB222_232.out, NB232_222.out, (pH_ HB.out)⟩)
            rintro ⟨v226, v229, gb232⟩ w34 ⟨hS_, h0_, h1_, h2_, h3_, h4_, h5_, h6_, h7_, h8_, h9_, h10_⟩
            have n0_ : Aside0 (Kd.R (Kd.int .i32) 21 w34 w.heap.size (fun k_ => nO_ k_ v229 ∧ nO_ k_ (.slice Ao29 x223001_2.length co29) ∧ nO_ k_ (.slice Ao30 x223002_2.length co30)) v226 t225) := ⟨h0_⟩; have n1_ : Aside0 (Kd.R (Kd.int .i32) 21 w34 w.heap.size (fun k_ => nO_ k_ v226 ∧ nO_ k_ (.slice Ao29 x223001_2.length co29) ∧ nO_ k_ (.slice Ao30 x223002_2.length co30)) v229 t228) := ⟨h1_⟩; have n2_ : Aside0 (Kd.R (Kd.int .i32) 21 w34 w.heap.size (fun k_ => nO_ k_ v226 ∧ nO_ k_ v229 ∧ nO_ k_ (.slice Ao30 x223002_2.length co30)) (.slice Ao29 x223001_2.length co29) x223001_2) := ⟨h2_⟩; have n3_ : Aside0 (Kd.R (Kd.int .i32) 21 w34 w.heap.size (fun k_ => nO_ k_ v226 ∧ nO_ k_ v229 ∧ nO_ k_ (.slice Ao29 x223001_2.length co29)) (.slice Ao30 x223002_2.length co30) x223002_2) := ⟨h3_⟩; have n4_ : Aside0 (w34.heap[gb222]? = some (.cells #[.int .i32 x223000_2, .slice Ao29 x223001_2.length co29, .slice Ao30 x223002_2.length co30] 24 (0, 0))) := ⟨h4_⟩; have n5_ : Aside0 (w34.heap[gb232]? = some (.cells #[.int .i32 0, .slice none 0 0, .slice none 0 0] 24 (0, 0))) := ⟨h5_⟩; have n6_ : Aside0 (w.heap.size ≤ gb232) := ⟨h6_⟩; have n7_ : Aside0 (w.heap.size ≤ gb232) := ⟨h7_⟩; have n8_ : Aside0 (gb222 ≠ gb232) := ⟨h8_⟩; have n9_ : Aside0 (gb232 ≠ gb222) := ⟨h9_⟩; have n10_ : Aside0 (Below w.heap.size w w34) := ⟨h10_⟩; clear HO_223001; clear HO_223002; clear BK222; clear HB; clear h0_ h1_ h2_ h3_ h4_ h5_ h6_ h7_ h8_ h9_ h10_; have HO227 := n0_; have HO230 := n1_; have HO_223001 := n2_; have HO_223002 := n3_; have BK222 := n4_; have BK232 := n5_; have GW232 := n6_; have GE232 := n7_; have NB222_232 := n8_; have NB232_222 := n9_; have HB := n10_; clear n0_ n1_ n2_ n3_ n4_ n5_ n6_ n7_ n8_ n9_ n10_; have hHeld : w34.cell? ⟨gb222, 0, none⟩ = some (.int .i32 x223000_2) ∧ w34.cell? ⟨gb222, 1, none⟩ = some (.slice Ao29 x223001_2.length co29) ∧ w34.cell? ⟨gb222, 2, none⟩ = some (.slice Ao30 x223002_2.length co30) ∧ w34.cell? (ad223.add (x10_2).toNat) = some (.int .u8 (rd l2 x10_2)) := hS_; obtain ⟨Ao36, co36, eo36⟩ := Kd.R_slice HO227.out; (first | subst eo36 | (injection eo36 with f1_ f2_ f3_; have f4_ := f1_.symm; have f5_ := f3_.symm; clear f1_ f2_ f3_; subst f4_; subst f5_)); obtain ⟨Ao38, co38, eo38⟩ := Kd.R_slice HO230.out; (first | subst eo38 | (injection eo38 with f1_ f2_ f3_; have f4_ := f1_.symm; have f5_ := f3_.symm; clear f1_ f2_ f3_; subst f4_; subst f5_)); refine norm_ (a' := ?_) ?_ ?_; rotate_left
            ·
             simp only [putAll, Act.put, sA_, sZ_, sS_]; rfl
            refine one_ (i := 11) (N := none) #[t_, t_, t_, t_, t_, t_, t_, t_, t_, t_, t_, t_, f_] rfl rfl (one_of HT_.out (by kernel_rfl)) (by decide) (fun K hK => ?_); have hs35 : w34.cell? ⟨gb232, 0, none⟩ = some (.int .i32 0) := (blk_cell BK232.out 0).trans rfl; have hfs35 := blk_frozen BK232.out 0; have hns35_0 := NB222_232.out; have hms35_0 := NB232_222.out; have hs37 : w34.cell? ⟨gb232, 1, none⟩ = some (.slice none 0 0) := (blk_cell BK232.out 1).trans rfl; have hfs37 := blk_frozen BK232.out 1; have hns37_0 := NB222_232.out; have hms37_0 := NB232_222.out; have hs39 : w34.cell? ⟨gb232, 2, none⟩ = some (.slice none 0 0) := (blk_cell BK232.out 2).trans rfl; have hfs39 := blk_frozen BK232.out 2; have hns39_0 := NB222_232.out; have hms39_0 := NB232_222.out; refine skip_ (w1 := ?_) (by rfl) rfl ?_ ?_; rotate_left
            ·
             go_simp; rfl
            refine hK.out _ _ ⟨((cell_far (p := ⟨gb232, _, none⟩) NB222_232.out _).trans (((cell_far (p := ⟨gb232, _, none⟩) NB222_232.out _).trans (((cell_far (p := ⟨gb232, _, none⟩) NB222_232.out _).trans (hHeld.1)))))), ((cell_far (p := ⟨gb232, _, none⟩) NB222_232.out _).trans (((cell_far (p := ⟨gb232, _, none⟩) NB222_232.out _).trans (((cell_far (p := ⟨gb232, _, none⟩) NB222_232.out _).trans (hHeld.2.1)))))), ((cell_far (p := ⟨gb232, _, none⟩) NB222_232.out _).trans (((cell_far (p := ⟨gb232, _, none⟩) NB222_232.out _).trans (((cell_far (p := ⟨gb232, _, none⟩) NB222_232.out _).trans (hHeld.2.2.1)))))), ((cell_far (p := ⟨gb232, _, none⟩) (by first | exact Nat.ne_of_lt (Nat.lt_of_lt_of_le (by have := World.block_lt_of_cell? _ _ hw223_0; first | rwa [add_block] at this | exact this) GW232.out) | (rw [add_block]; exact Nat.ne_of_lt (Nat.lt_of_lt_of_le (by have := World.block_lt_of_cell? _ _ hw223_0; first | rwa [add_block] at this | exact this) GW232.out)) | (show (Addr.add _ _).block ≠ _; rw [add_block]; exact Nat.ne_of_lt (Nat.lt_of_lt_of_le (by have := World.block_lt_of_cell? _ _ hw223_0; first | rwa [add_block] at this | exact this) GW232.out)) | (dsimp only; exact Nat.ne_of_lt (Nat.lt_of_lt_of_le (by have := World.block_lt_of_cell? _ _ hw223_0; first | rwa [add_block] at this | exact this) GW232.out))) _).trans (((cell_far (p := ⟨gb232, _, none⟩) (by first | exact Nat.ne_of_lt (Nat.lt_of_lt_of_le (by have := World.block_lt_of_cell? _ _ hw223_0; first | rwa [add_block] at this | exact this) GW232.out) | (rw [add_block]; exact Nat.ne_of_lt (Nat.lt_of_lt_of_le (by have := World.block_lt_of_cell? _ _ hw223_0; first | rwa [add_block] at this | exact this) GW232.out)) | (show (Addr.add _ _).block ≠ _; rw [add_block]; exact Nat.ne_of_lt (Nat.lt_of_lt_of_le (by have := World.block_lt_of_cell? _ _ hw223_0; first | rwa [add_block] at this | exact this) GW232.out)) | (dsimp only; exact Nat.ne_of_lt (Nat.lt_of_lt_of_le (by have := World.block_lt_of_cell? _ _ hw223_0; first | rwa [add_block] at this | exact this) GW232.out))) _).trans (((cell_far (p := ⟨gb232, _, none⟩) (by first | exact Nat.ne_of_lt (Nat.lt_of_lt_of_le (by have := World.block_lt_of_cell? _ _ hw223_0; first | rwa [add_block] at this | exact this) GW232.out) | (rw [add_block]; exact Nat.ne_of_lt (Nat.lt_of_lt_of_le (by have := World.block_lt_of_cell? _ _ hw223_0; first | rwa [add_block] at this | exact this) GW232.out)) | (show (Addr.add _ _).block ≠ _; rw [add_block]; exact Nat.ne_of_lt (Nat.lt_of_lt_of_le (by have := World.block_lt_of_cell? _ _ hw223_0; first | rwa [add_block] at this | exact this) GW232.out)) | (dsimp only; exact Nat.ne_of_lt (Nat.lt_of_lt_of_le (by have := World.block_lt_of_cell? _ _ hw223_0; first | rwa [add_block] at this | exact this) GW232.out))) _).trans (hHeld.2.2.2))))))⟩ (fun hHeld => ?_); clear hK K; refine pure_ (i := 12) (N := some 12) (v := ?_) (a' := ?_) #[t_, t_, t_, t_, t_, t_, t_, t_, t_, t_, t_, t_, t_] rfl rfl (any_of HT_.out (by kernel_rfl)) (fun _ _ _ h => h) (Or.inl ⟨by rfl, ?_⟩) ?_ ?_; rotate_left
            ·
             intro w'; go_simp
             with_reducible rfl
            rotate_left
            ·
             simp only [Act.put, sA_, sZ_, sS_, i64_w, i32_w]; rfl
            refine done_ (done_of HT_.out (by kernel_rfl)) ?_; have hnb40 := NB232_222.out; have hnc40 := NB222_232.out; have hcz41_0 : w34.cell? ⟨gb232, 0, none⟩ = some (.int .i32 0) := (blk_cell BK232.out 0).trans rfl; have hcz41_1 : w34.cell? ⟨gb232, 1, none⟩ = some (.slice none 0 0) := (blk_cell BK232.out 1).trans rfl; have hcz41_2 : w34.cell? ⟨gb232, 2, none⟩ = some (.slice none 0 0) := (blk_cell BK232.out 2).trans rfl; have hfz41_0 := blk_frozen BK232.out 0; have hfz41_1 := blk_frozen BK232.out 1; have hfz41_2 := blk_frozen BK232.out 2
            go_upto_region 12 with (first | ((with_reducible refine gate_callee (f := 13) rfl ?_); refine gL_ (some 70) Tryd.func13 #[.agg #[.int .i32 t224, .slice Ao36 t225.length co36, .slice Ao38 t228.length co38], .int .u8 a1] ?_; (with_reducible refine (adapt_P.calls kj20 t224 _ _ t225 _ _ t228 a1 t233 t234 _ ?side1 ?side2 ?side3 ?side4 (tab_bel hT (pH_ HB.out)) A27.out).mono ?_); (case side1 => refine (Kd.R_reads' (e := 21) (base := w.heap.size) (ok := fun k_ => (nO_ k_ (.slice Ao38 t228.length co38) ∧ (nO_ k_ (.slice Ao29 x223001_2.length co29) ∧ nO_ k_ (.slice Ao30 x223002_2.length co30)))) (n := t225.length) (c := co36) ?_).2.2; exact (by (with_reducible repeat (first | apply rA_ | apply rN_ | apply rD_)); exact (Kd.R_mono (Kd.R_far (p := ⟨gb232, 2, none⟩) (Kd.R_far (p := ⟨gb232, 1, none⟩) (Kd.R_far (p := ⟨gb232, 0, none⟩) (Kd.R_types HO227.out BK232.out (by decide)) (fun _ hk => hk.2) (.int .i32 t224)) (fun _ hk => hk.2) (.slice Ao36 t225.length co36)) (fun _ hk => hk.2) (.slice Ao38 t228.length co38)) (fun _ h_ => h_.1)))); (case side2 => exact (Kd.R_reads' HO227.out).2.1); (case side3 => refine (Kd.R_reads' (e := 21) (base := w.heap.size) (ok := fun k_ => (nO_ k_ (.slice Ao36 t225.length co36) ∧ (nO_ k_ (.slice Ao29 x223001_2.length co29) ∧ nO_ k_ (.slice Ao30 x223002_2.length co30)))) (n := t228.length) (c := co38) ?_).2.2; exact (by (with_reducible repeat (first | apply rA_ | apply rN_ | apply rD_)); exact (Kd.R_mono (Kd.R_far (p := ⟨gb232, 2, none⟩) (Kd.R_far (p := ⟨gb232, 1, none⟩) (Kd.R_far (p := ⟨gb232, 0, none⟩) (Kd.R_types HO230.out BK232.out (by decide)) (fun _ hk => hk.2) (.int .i32 t224)) (fun _ hk => hk.2) (.slice Ao36 t225.length co36)) (fun _ hk => hk.2) (.slice Ao38 t228.length co38)) (fun _ h_ => h_.1)))); (case side4 => exact (Kd.R_reads' HO230.out).2.1); rintro e w42 ⟨rfl, hb⟩; refine ⟨_, rfl, ?_⟩; have n0_ := Aside0.mk (Kd.R_below (by (with_reducible repeat (first | apply rA_ | apply rN_ | apply rD_)); exact (Kd.R_mono (Kd.R_far (p := ⟨gb232, 2, none⟩) (Kd.R_far (p := ⟨gb232, 1, none⟩) (Kd.R_far (p := ⟨gb232, 0, none⟩) (Kd.R_types HO_223001.out BK232.out (by decide)) (fun _ hk => hk.2) (.int .i32 t224)) (fun _ hk => hk.2) (.slice Ao36 t225.length co36)) (fun _ hk => hk.2) (.slice Ao38 t228.length co38)) (fun _ h_ => h_.1))) hb); have n1_ := Aside0.mk (Kd.R_below (by (with_reducible repeat (first | apply rA_ | apply rN_ | apply rD_)); exact (Kd.R_mono (Kd.R_far (p := ⟨gb232, 2, none⟩) (Kd.R_far (p := ⟨gb232, 1, none⟩) (Kd.R_far (p := ⟨gb232, 0, none⟩) (Kd.R_types HO_223002.out BK232.out (by decide)) (fun _ hk => hk.2) (.int .i32 t224)) (fun _ hk => hk.2) (.slice Ao36 t225.length co36)) (fun _ hk => hk.2) (.slice Ao38 t228.length co38)) (fun _ h_ => h_.1))) hb); have n2_ := Aside0.mk (Kd.R_below (by (with_reducible repeat (first | apply rA_ | apply rN_ | apply rD_)); exact (Kd.R_mono (Kd.R_far (p := ⟨gb232, 2, none⟩) (Kd.R_far (p := ⟨gb232, 1, none⟩) (Kd.R_far (p := ⟨gb232, 0, none⟩) (Kd.R_types HO227.out BK232.out (by decide)) (fun _ hk => hk.2) (.int .i32 t224)) (fun _ hk => hk.2) (.slice Ao36 t225.length co36)) (fun _ hk => hk.2) (.slice Ao38 t228.length co38)) (fun _ h_ => h_.1))) hb); have n3_ := Aside0.mk (Kd.R_below (by (with_reducible repeat (first | apply rA_ | apply rN_ | apply rD_)); exact (Kd.R_mono (Kd.R_far (p := ⟨gb232, 2, none⟩) (Kd.R_far (p := ⟨gb232, 1, none⟩) (Kd.R_far (p := ⟨gb232, 0, none⟩) (Kd.R_types HO230.out BK232.out (by decide)) (fun _ hk => hk.2) (.int .i32 t224)) (fun _ hk => hk.2) (.slice Ao36 t225.length co36)) (fun _ hk => hk.2) (.slice Ao38 t228.length co38)) (fun _ h_ => h_.1))) hb); have n4_ := Aside0.mk (blk_below (g := gb222) (o := .cells #[.int .i32 x223000_2, .slice Ao29 x223001_2.length co29, .slice Ao30 x223002_2.length co30] 24 (0, 0)) (by (with_reducible repeat (first | refine blk_drewN ?_ _ | refine blk_drew ?_ | refine blk_alloc ?_ _)); refine blk_far ?_ NB222_232.out _; (with_reducible repeat (first | refine blk_drewN ?_ _ | refine blk_drew ?_ | refine blk_alloc ?_ _)); refine blk_far ?_ NB222_232.out _; (with_reducible repeat (first | refine blk_drewN ?_ _ | refine blk_drew ?_ | refine blk_alloc ?_ _)); refine blk_far ?_ NB222_232.out _; (with_reducible repeat (first | refine blk_drewN ?_ _ | refine blk_drew ?_ | refine blk_alloc ?_ _)); exact BK222.out) hb); have n5_ := Aside0.mk (blk_below (g := gb232) (o := .cells #[.int .i32 t224, .slice Ao36 t225.length co36, .slice Ao38 t228.length co38] 24 (0, 0)) (by (with_reducible repeat (first | refine blk_drewN ?_ _ | refine blk_drew ?_ | refine blk_alloc ?_ _)); refine blk_put (cs := #[.int .i32 t224, .slice Ao36 t225.length co36, .slice none 0 0]) ?_ 2 _ rfl; (with_reducible repeat (first | refine blk_drewN ?_ _ | refine blk_drew ?_ | refine blk_alloc ?_ _)); refine blk_put (cs := #[.int .i32 t224, .slice none 0 0, .slice none 0 0]) ?_ 1 _ rfl; (with_reducible repeat (first | refine blk_drewN ?_ _ | refine blk_drew ?_ | refine blk_alloc ?_ _)); refine blk_put (cs := #[.int .i32 0, .slice none 0 0, .slice none 0 0]) ?_ 0 _ rfl; (with_reducible repeat (first | refine blk_drewN ?_ _ | refine blk_drew ?_ | refine blk_alloc ?_ _)); exact BK232.out) hb); have n6_ := Aside0.mk (below_step (pH_ HB.out) hb); clear HO_223001; clear HO_223002; clear HO227; clear HO230; clear BK222; clear BK232; clear HB; have HO_223001 := n0_; have HO_223002 := n1_; have HO227 := n2_; have HO230 := n3_; have BK222 := n4_; have BK232 := n5_; have HB := n6_; clear n0_ n1_ n2_ n3_ n4_ n5_ n6_; (try clear hb)))
            (try simp only [Act.put, sA_, sZ_, sS_]); (with_reducible first | refine then_id_ ?_ | (refine wp_tail_ ?_; intro Kt_ hKt_))
            go_cut [78] (fun v78 wc => ∃ (kq : Nat) (x78_27 : Bool), v78 = .bool x78_27 ∧ Aside0 (bitloftlaw09_AdaptMean.j3 kq a0 a1 l2 x9_2 x10_2 t233 x78_27 t224 t225 t228 = some r) ∧ Aside0 (kq ≤ kj20) ∧ Aside0 (Kd.R (Kd.int .i32) 21 wc w.heap.size (fun k_ => some k_ ≠ ((.slice Ao30 x223002_2.length co30) : Value).ownBlock ∧ some k_ ≠ ((.slice Ao36 t225.length co36) : Value).ownBlock ∧ some k_ ≠ ((.slice Ao38 t228.length co38) : Value).ownBlock) (.slice Ao29 x223001_2.length co29) x223001_2) ∧ Aside0 (Kd.R (Kd.int .i32) 21 wc w.heap.size (fun k_ => some k_ ≠ ((.slice Ao29 x223001_2.length co29) : Value).ownBlock ∧ some k_ ≠ ((.slice Ao36 t225.length co36) : Value).ownBlock ∧ some k_ ≠ ((.slice Ao38 t228.length co38) : Value).ownBlock) (.slice Ao30 x223002_2.length co30) x223002_2) ∧ Aside0 (Kd.R (Kd.int .i32) 21 wc w.heap.size (fun k_ => some k_ ≠ ((.slice Ao29 x223001_2.length co29) : Value).ownBlock ∧ some k_ ≠ ((.slice Ao30 x223002_2.length co30) : Value).ownBlock ∧ some k_ ≠ ((.slice Ao38 t228.length co38) : Value).ownBlock) (.slice Ao36 t225.length co36) t225) ∧ Aside0 (Kd.R (Kd.int .i32) 21 wc w.heap.size (fun k_ => some k_ ≠ ((.slice Ao29 x223001_2.length co29) : Value).ownBlock ∧ some k_ ≠ ((.slice Ao30 x223002_2.length co30) : Value).ownBlock ∧ some k_ ≠ ((.slice Ao36 t225.length co36) : Value).ownBlock) (.slice Ao38 t228.length co38) t228) ∧ Aside0 (wc.heap[gb222]? = some (.cells #[.int .i32 x223000_2, (.slice Ao29 x223001_2.length co29), (.slice Ao30 x223002_2.length co30)] 24 (0, 0))) ∧ Aside0 (wc.heap[gb232]? = some (.cells #[.int .i32 t224, (.slice Ao36 t225.length co36), (.slice Ao38 t228.length co38)] 24 (0, 0))) ∧ Aside0 (Below w.heap.size w wc))
            case first =>
             have H := HC28.out; clear HC28
             by_cases c43 : t231 = 0
             ·
              rw [if_pos c43] at H; have c43b0 : (t231 == 0) = true := beq_iff_eq.mpr c43; have c43b1 : (t231 != 0) = false := bne_eq_false_iff_eq.mpr c43; clear c43; (first | rw [c43b0] | (simp only [i64_w, i32_w]; rw [c43b0]) | skip); have H' := Aside0.mk H; clear H
              go_wp2
              (first | go_meet | (refine Met.intro ?_; go_step; (repeat apply Exists.intro); refine ⟨?rel, ?eqf_⟩; case eqf_ => ((simp only [c43b0, c25b0, c24b0]) <;> rfl)))
              case rel => exact ⟨_, ((t234 != 0)), (by first | rfl | (simp; done) | (simp [*]; done)), H', ⟨by have := HJ3.out; have := HK2.out; have := HJ20.out; first | omega | exact Nat.le_refl _⟩, ⟨by (with_reducible repeat (first | apply rA_ | apply rN_ | apply rD_)); exact Kd.R_mono HO_223001.out (fun _ hk => ⟨hk.2.2, ⟨hk.1, hk.2.1⟩⟩)⟩, ⟨by (with_reducible repeat (first | apply rA_ | apply rN_ | apply rD_)); exact Kd.R_mono HO_223002.out (fun _ hk => ⟨hk.2.2, ⟨hk.1, hk.2.1⟩⟩)⟩, ⟨by (with_reducible repeat (first | apply rA_ | apply rN_ | apply rD_)); exact Kd.R_mono HO227.out (fun _ hk => ⟨hk.2.1, ⟨hk.2.2, hk.1⟩⟩)⟩, ⟨by (with_reducible repeat (first | apply rA_ | apply rN_ | apply rD_)); exact Kd.R_mono HO230.out (fun _ hk => ⟨hk.2.1, ⟨hk.2.2, hk.1⟩⟩)⟩, ⟨pG_ BK222.out⟩, ⟨pG_ BK232.out⟩, ⟨pH_ HB.out⟩⟩
             ·
              rw [if_neg c43] at H; have c43b0 : (t231 == 0) = false := beq_eq_false_iff_ne.mpr c43; have c43b1 : (t231 != 0) = true := bne_iff_ne.mpr c43; (first | rw [c43b0] | (simp only [i64_w, i32_w]; rw [c43b0]) | skip); exact absurd (H.trans (congrArg some HRT_.out)) (by first | (simp; done) | (generalize kj20 = k_; cases k_ <;> simp [bitloftlaw09_AdaptMean.j0, bitloftlaw09_AdaptMean.l0, bitloftlaw09_AdaptMean.j2, bitloftlaw09_AdaptMean.j3]))
            case rest =>
             (try (refine hKt_ _ _ ?_; clear hKt_; clear Kt_)); clear HC28
             try clear c1
             try clear c2
             try clear p2
             try clear q2
             try clear hx2
             try clear c4
             try clear c5
             try clear c5b0
             try clear c6
             try clear c6b0
             try clear c8
             try clear c9
             try clear c9b0
             try clear c9b1
             try clear c11
             try clear c13
             try clear c15
             try clear c15b0
             try clear c15b1
             try clear c21
             try clear c22
             try clear c22b0
             try clear p22
             try clear q22
             try clear hx22
             try clear c23
             try clear c24
             try clear c24b0
             try clear c25
             try clear c25b0
             try clear c40
             try clear c43
             try clear c43b0
             try clear c43b1
             try clear hcz18_0
             try clear hcz18_1
             try clear hcz18_2
             try clear hcz41_0
             try clear hcz41_1
             try clear hcz41_2
             try clear hfz18_0
             try clear hfz18_1
             try clear hfz18_2
             try clear hfz41_0
             try clear hfz41_1
             try clear hfz41_2
             try clear hx223_0
             try clear p2
             try clear p223
             try clear q223
             obtain ⟨kq, x78_27, rfl, HA, HJ27, HO_223001, HO_223002, HO_233001, HO_233002, BK222, BK232, HB⟩ := hcut
             cases kq with
             | zero => exact absurd HA.out (by simp [bitloftlaw09_AdaptMean.j3])
             | succ kj27 =>
              have H := HA.out; clear HA; simp only [bitloftlaw09_AdaptMean.j3] at H
              by_cases c44 : x78_27 = true
              ·
               subst c44
               have H1 : (some false) = some r := by rw [if_pos rfl] at H; exact H
               clear H; have H := H1; clear H1; exact absurd (H.trans (congrArg some HRT_.out)) (by simp)
              ·
               replace c44 := Bool.eq_false_iff.mpr c44
               subst c44
               have H1 : (if 0 ≤ x10_2 then (if x10_2 < (l2.length : Int) then (if (wrap64 ((wrap64 ((wrap64 ((wrap64 (t233)) * (wrap64 ((wrap64 (x10_2 + 1)) + 1)))) - 32768)) - (wrap64 (65535 * (wrap64 (x9_2 + (wrap64 (rd l2 x10_2)))))))) > (wrap64 ((wrap64 ((wrap64 (x10_2 + 1)) + 1)) * (wrap64 ((wrap64 (x10_2 + 1)) + 2)))) then (some false) else (if (wrap64 ((wrap64 ((wrap64 ((wrap64 (t233)) * (wrap64 ((wrap64 (x10_2 + 1)) + 1)))) - 32768)) - (wrap64 (65535 * (wrap64 (x9_2 + (wrap64 (rd l2 x10_2)))))))) < (wrap64 ((wrap64 (-(wrap64 ((wrap64 (x10_2 + 1)) + 1)))) * (wrap64 ((wrap64 (x10_2 + 1)) + 2)))) then (some false) else (bitloftlaw09_AdaptMean.l0 kj27 a0 a1 l2 (wrap64 (x9_2 + (wrap64 (rd l2 x10_2)))) (wrap64 (x10_2 + 1)) t224 t225 t228))) else (none)) else (none)) = some r := by rw [if_neg (show ¬ (false = true) by decide)] at H; exact H
               clear H; have H := H1; clear H1
               by_cases c45 : 0 ≤ x10_2
               ·
                rw [if_pos c45] at H; have c45b0 : decide (0 ≤ x10_2) = true := decide_eq_true c45; clear c45
                by_cases c46 : x10_2 < (l2.length : Int)
                ·
                 rw [if_pos c46] at H; have c46b0 : decide (x10_2 < (l2.length : Int)) = true := decide_eq_true c46; clear c46
                 by_cases c47 : (wrap64 ((wrap64 ((wrap64 ((wrap64 (t233)) * (wrap64 ((wrap64 (x10_2 + 1)) + 1)))) - 32768)) - (wrap64 (65535 * (wrap64 (x9_2 + (wrap64 (rd l2 x10_2)))))))) > (wrap64 ((wrap64 ((wrap64 (x10_2 + 1)) + 1)) * (wrap64 ((wrap64 (x10_2 + 1)) + 2))))
                 ·
                  rw [if_pos c47] at H; have c47b0 : decide ((wrap64 ((wrap64 ((wrap64 (x10_2 + 1)) + 1)) * (wrap64 ((wrap64 (x10_2 + 1)) + 2)))) < (wrap64 ((wrap64 ((wrap64 ((wrap64 (t233)) * (wrap64 ((wrap64 (x10_2 + 1)) + 1)))) - 32768)) - (wrap64 (65535 * (wrap64 (x9_2 + (wrap64 (rd l2 x10_2))))))))) = true := decide_eq_true c47; clear c47; exact absurd (H.trans (congrArg some HRT_.out)) (by simp)
                 ·
                  rw [if_neg c47] at H; have c47b0 : decide ((wrap64 ((wrap64 ((wrap64 (x10_2 + 1)) + 1)) * (wrap64 ((wrap64 (x10_2 + 1)) + 2)))) < (wrap64 ((wrap64 ((wrap64 ((wrap64 (t233)) * (wrap64 ((wrap64 (x10_2 + 1)) + 1)))) - 32768)) - (wrap64 (65535 * (wrap64 (x9_2 + (wrap64 (rd l2 x10_2))))))))) = false := decide_eq_false c47; clear c47
                  by_cases c48 : (wrap64 ((wrap64 ((wrap64 ((wrap64 (t233)) * (wrap64 ((wrap64 (x10_2 + 1)) + 1)))) - 32768)) - (wrap64 (65535 * (wrap64 (x9_2 + (wrap64 (rd l2 x10_2)))))))) < (wrap64 ((wrap64 (-(wrap64 ((wrap64 (x10_2 + 1)) + 1)))) * (wrap64 ((wrap64 (x10_2 + 1)) + 2))))
                  ·
                   rw [if_pos c48] at H; have c48b0 : decide ((wrap64 ((wrap64 ((wrap64 ((wrap64 (t233)) * (wrap64 ((wrap64 (x10_2 + 1)) + 1)))) - 32768)) - (wrap64 (65535 * (wrap64 (x9_2 + (wrap64 (rd l2 x10_2)))))))) < (wrap64 ((wrap64 (-(wrap64 ((wrap64 (x10_2 + 1)) + 1)))) * (wrap64 ((wrap64 (x10_2 + 1)) + 2))))) = true := decide_eq_true c48; clear c48; exact absurd (H.trans (congrArg some HRT_.out)) (by simp)
                  ·
                   rw [if_neg c48] at H; have c48b0 : decide ((wrap64 ((wrap64 ((wrap64 ((wrap64 (t233)) * (wrap64 ((wrap64 (x10_2 + 1)) + 1)))) - 32768)) - (wrap64 (65535 * (wrap64 (x9_2 + (wrap64 (rd l2 x10_2)))))))) < (wrap64 ((wrap64 (-(wrap64 ((wrap64 (x10_2 + 1)) + 1)))) * (wrap64 ((wrap64 (x10_2 + 1)) + 2))))) = false := decide_eq_false c48; clear c48; have H' := Aside0.mk H; clear H
                   try go_wp2
                   have n0_ := Aside0.mk (Kd.R_drew HO_223001.out); have n1_ := Aside0.mk (Kd.R_drew HO_223002.out); have n2_ := Aside0.mk (Kd.R_drew HO_233001.out); have n3_ := Aside0.mk (Kd.R_drew HO_233002.out); have n4_ := Aside0.mk (blk_drew BK222.out); have n5_ := Aside0.mk (blk_drew BK232.out); have n6_ := Aside0.mk (below_drew1 HB.out); clear HO_223001; clear HO_223002; clear HO_233001; clear HO_233002; clear BK222; clear BK232; clear HB; have HO_223001 := n0_; have HO_223002 := n1_; have HO_233001 := n2_; have HO_233002 := n3_; have BK222 := n4_; have BK232 := n5_; have HB := n6_; clear n0_ n1_ n2_ n3_ n4_ n5_ n6_; have p235 : 0 ≤ (x10_2 : Int) := of_decide_eq_true (by first | (with_reducible assumption) | assumption); have q235 : x10_2 < (l2.length : Int) := of_decide_eq_true (by first | (with_reducible assumption) | assumption); obtain ⟨ad235, e235, hx235_0⟩ := Kd.at_int HR2.out x10_2 p235 q235; have hw235_0 := hx235_0; obtain rfl : ad223 = ad235 := (by injection e235); replace hx235_0 := (HB.out.cell (World.block_lt_of_cell? w _ hx235_0)).trans hx235_0; replace p235 := eq_true p235; replace q235 := eq_true q235; refine start_ (n := 10) (S := fun w' => w'.cell? ⟨gb232, 0, none⟩ = some (.int .i32 t224) ∧ w'.cell? ⟨gb232, 1, none⟩ = some (.slice Ao36 t225.length co36) ∧ w'.cell? ⟨gb232, 2, none⟩ = some (.slice Ao38 t228.length co38) ∧ w'.cell? (ad223.add (x10_2).toNat) = some (.int .u8 (rd l2 x10_2))) (ds := []) #[f_, f_, f_, f_, f_, f_, f_, f_, f_, f_] (by kernel_rfl) rfl rfl ⟨(blk_cell BK232.out 0).trans rfl, (blk_cell BK232.out 1).trans rfl, (blk_cell BK232.out 2).trans rfl, ((HB.out.cell (World.block_lt_of_cell? w _ hw235_0)).trans hw235_0)⟩ (fun hHeld => ?_); refine with_tabW bitloftlaw09_AdaptMean.tab14 bitloftlaw09_AdaptMean.bits14 (fun HT_ HW_ => ?_)
                   generalize wc.drew = w49 at HO_223001 HO_223002 HO_233001 HO_233002 BK222 BK232 HB hx235_0 hHeld ⊢
                   refine pure_ (i := 1) (N := some 80) (v := ?_) (a' := ?_) #[f_, t_, f_, f_, f_, f_, f_, f_, f_, f_] rfl rfl (any_of HT_.out (by kernel_rfl)) (fun _ _ _ h => h) (Or.inl ⟨by rfl, ?_⟩) ?_ ?_; rotate_left
                   ·
                    intro w'; go_simp
                    with_reducible rfl
                   rotate_left
                   ·
                    simp only [Act.put, sA_, sZ_, sS_, i64_w, i32_w]; rfl
                   refine pure_ (i := 2) (N := some 81) (v := ?_) (a' := ?_) #[f_, t_, t_, f_, f_, f_, f_, f_, f_, f_] rfl rfl (any_of HT_.out (by kernel_rfl)) (fun _ _ _ h => h) (Or.inl ⟨by rfl, ?_⟩) ?_ ?_; rotate_left
                   ·
                    intro w'; go_simp
                    with_reducible rfl
                   rotate_left
                   ·
                    simp only [Act.put, sA_, sZ_, sS_, i64_w, i32_w]; rfl
                   refine pure_ (i := 3) (N := some 82) (v := ?_) (a' := ?_) #[f_, t_, t_, t_, f_, f_, f_, f_, f_, f_] rfl rfl (any_of HT_.out (by kernel_rfl)) (fun _ _ _ h => h) (Or.inl ⟨by rfl, ?_⟩) ?_ ?_; rotate_left
                   ·
                    intro w'; go_simp
                    with_reducible rfl
                   rotate_left
                   ·
                    simp only [Act.put, sA_, sZ_, sS_, i64_w, i32_w]; rfl
                   refine pure_ (i := 4) (N := some 83) (v := ?_) (a' := ?_) #[f_, t_, t_, t_, t_, f_, f_, f_, f_, f_] rfl rfl (any_of HT_.out (by kernel_rfl)) (fun _ _ _ h => h) (Or.inl ⟨by rfl, ?_⟩) ?_ ?_; rotate_left
                   ·
                    intro w'; go_simp
                    with_reducible rfl
                   rotate_left
                   ·
                    simp only [Act.put, sA_, sZ_, sS_, i64_w, i32_w]; rfl
                   refine take_ (i := 0) (N := some 79) (v := ?_) (a' := ?_) #[t_, t_, t_, t_, t_, f_, f_, f_, f_, f_] rfl rfl (take_ofW HT_.out HW_.out (by kernel_rfl)) (fun _ _ _ h => h) (Or.inl ⟨by rfl, ?_⟩) hHeld ?_ ?_; rotate_left
                   ·
                    rintro w' ⟨s0, s1, s2, s3⟩
                    go_simp
                    with_reducible rfl
                   rotate_left
                   ·
                    simp only [Act.put, sA_, sZ_, sS_, i64_w, i32_w]; rfl
                   refine take_ (i := 5) (N := some 84) (v := ?_) (a' := ?_) #[t_, t_, t_, t_, t_, t_, f_, f_, f_, f_] rfl rfl (take_ofW HT_.out HW_.out (by kernel_rfl)) (fun _ _ _ h => h) (Or.inl ⟨by rfl, ?_⟩) hHeld ?_ ?_; rotate_left
                   ·
                    rintro w' ⟨s0, s1, s2, s3⟩
                    go_simp
                    with_reducible rfl
                   rotate_left
                   ·
                    simp only [Act.put, sA_, sZ_, sS_, i64_w, i32_w]; rfl
                   refine pure_ (i := 6) (N := some 85) (v := ?_) (a' := ?_) #[t_, t_, t_, t_, t_, t_, t_, f_, f_, f_] rfl rfl (any_of HT_.out (by kernel_rfl)) (fun _ _ _ h => h) (Or.inl ⟨by rfl, ?_⟩) ?_ ?_; rotate_left
                   ·
                    intro w'; go_simp
                    with_reducible rfl
                   rotate_left
                   ·
                    simp only [Act.put, sA_, sZ_, sS_, i64_w, i32_w]; rfl
                   refine pure_ (i := 7) (N := some 86) (v := ?_) (a' := ?_) #[t_, t_, t_, t_, t_, t_, t_, t_, f_, f_] rfl rfl (any_of HT_.out (by kernel_rfl)) (fun _ _ _ h => h) (Or.inl ⟨by rfl, ?_⟩) ?_ ?_; rotate_left
                   ·
                    intro w'; go_simp
                    with_reducible rfl
                   rotate_left
                   ·
                    simp only [Act.put, sA_, sZ_, sS_, i64_w, i32_w]; rfl
                   refine one_ (i := 8) (N := none) #[t_, t_, t_, t_, t_, t_, t_, t_, t_, f_] rfl rfl (one_of HT_.out (by kernel_rfl)) (by decide) (fun K hK => ?_); have hs50 : w49.cell? ⟨gb222, 0, none⟩ = some (.int .i32 x223000_2) := (blk_cell BK222.out 0).trans rfl; have hfs50 := blk_frozen BK222.out 0; have hns50_1 := NB232_222.out; have hms50_1 := NB222_232.out; have hs51 : w49.cell? ⟨gb222, 1, none⟩ = some (.slice Ao29 x223001_2.length co29) := (blk_cell BK222.out 1).trans rfl; have hfs51 := blk_frozen BK222.out 1; have hns51_1 := NB232_222.out; have hms51_1 := NB222_232.out; have hs52 : w49.cell? ⟨gb222, 2, none⟩ = some (.slice Ao30 x223002_2.length co30) := (blk_cell BK222.out 2).trans rfl; have hfs52 := blk_frozen BK222.out 2; have hns52_1 := NB232_222.out; have hms52_1 := NB222_232.out; refine skip_ (w1 := ?_) (by rfl) rfl ?_ ?_; rotate_left
                   ·
                    go_simp; rfl
                   refine hK.out _ _ ⟨((cell_far (p := ⟨gb222, _, none⟩) NB232_222.out _).trans (((cell_far (p := ⟨gb222, _, none⟩) NB232_222.out _).trans (((cell_far (p := ⟨gb222, _, none⟩) NB232_222.out _).trans (hHeld.1)))))), ((cell_far (p := ⟨gb222, _, none⟩) NB232_222.out _).trans (((cell_far (p := ⟨gb222, _, none⟩) NB232_222.out _).trans (((cell_far (p := ⟨gb222, _, none⟩) NB232_222.out _).trans (hHeld.2.1)))))), ((cell_far (p := ⟨gb222, _, none⟩) NB232_222.out _).trans (((cell_far (p := ⟨gb222, _, none⟩) NB232_222.out _).trans (((cell_far (p := ⟨gb222, _, none⟩) NB232_222.out _).trans (hHeld.2.2.1)))))), ((cell_far (p := ⟨gb222, _, none⟩) (by first | exact Nat.ne_of_lt (Nat.lt_of_lt_of_le (by have := World.block_lt_of_cell? _ _ hw235_0; first | rwa [add_block] at this | exact this) GW222.out) | (rw [add_block]; exact Nat.ne_of_lt (Nat.lt_of_lt_of_le (by have := World.block_lt_of_cell? _ _ hw235_0; first | rwa [add_block] at this | exact this) GW222.out)) | (show (Addr.add _ _).block ≠ _; rw [add_block]; exact Nat.ne_of_lt (Nat.lt_of_lt_of_le (by have := World.block_lt_of_cell? _ _ hw235_0; first | rwa [add_block] at this | exact this) GW222.out)) | (dsimp only; exact Nat.ne_of_lt (Nat.lt_of_lt_of_le (by have := World.block_lt_of_cell? _ _ hw235_0; first | rwa [add_block] at this | exact this) GW222.out))) _).trans (((cell_far (p := ⟨gb222, _, none⟩) (by first | exact Nat.ne_of_lt (Nat.lt_of_lt_of_le (by have := World.block_lt_of_cell? _ _ hw235_0; first | rwa [add_block] at this | exact this) GW222.out) | (rw [add_block]; exact Nat.ne_of_lt (Nat.lt_of_lt_of_le (by have := World.block_lt_of_cell? _ _ hw235_0; first | rwa [add_block] at this | exact this) GW222.out)) | (show (Addr.add _ _).block ≠ _; rw [add_block]; exact Nat.ne_of_lt (Nat.lt_of_lt_of_le (by have := World.block_lt_of_cell? _ _ hw235_0; first | rwa [add_block] at this | exact this) GW222.out)) | (dsimp only; exact Nat.ne_of_lt (Nat.lt_of_lt_of_le (by have := World.block_lt_of_cell? _ _ hw235_0; first | rwa [add_block] at this | exact this) GW222.out))) _).trans (((cell_far (p := ⟨gb222, _, none⟩) (by first | exact Nat.ne_of_lt (Nat.lt_of_lt_of_le (by have := World.block_lt_of_cell? _ _ hw235_0; first | rwa [add_block] at this | exact this) GW222.out) | (rw [add_block]; exact Nat.ne_of_lt (Nat.lt_of_lt_of_le (by have := World.block_lt_of_cell? _ _ hw235_0; first | rwa [add_block] at this | exact this) GW222.out)) | (show (Addr.add _ _).block ≠ _; rw [add_block]; exact Nat.ne_of_lt (Nat.lt_of_lt_of_le (by have := World.block_lt_of_cell? _ _ hw235_0; first | rwa [add_block] at this | exact this) GW222.out)) | (dsimp only; exact Nat.ne_of_lt (Nat.lt_of_lt_of_le (by have := World.block_lt_of_cell? _ _ hw235_0; first | rwa [add_block] at this | exact this) GW222.out))) _).trans (hHeld.2.2.2))))))⟩ (fun hHeld => ?_); clear hK K; refine pure_ (i := 9) (N := some 9) (v := ?_) (a' := ?_) #[t_, t_, t_, t_, t_, t_, t_, t_, t_, t_] rfl rfl (any_of HT_.out (by kernel_rfl)) (fun _ _ _ h => h) (Or.inl ⟨by rfl, ?_⟩) ?_ ?_; rotate_left
                   ·
                    intro w'; go_simp
                    with_reducible rfl
                   rotate_left
                   ·
                    simp only [Act.put, sA_, sZ_, sS_, i64_w, i32_w]; rfl
                   refine done_ (done_of HT_.out (by kernel_rfl)) ?_
                   try go_wp2
                   go_roundg kj27
                   case measure => have := HJ3.out; have := HK2.out; have := HJ20.out; have := HJ27.out; omega
                   case rel => exact ⟨(wrap64 (x9_2 + (wrap64 (rd l2 x10_2)))), (wrap64 (x10_2 + 1)), (t224), (t225), (t228), (.slice Ao36 t225.length co36), (.slice Ao38 t228.length co38), (by first | rfl | (simp; done) | (simp [*]; done)), (by first | rfl | (simp; done) | (simp [*]; done)), H', ⟨by have := HJ3.out; have := HK2.out; have := HJ20.out; have := HJ27.out; omega⟩, ⟨by (with_reducible repeat (first | apply rA_ | apply rN_ | apply rD_)); exact Kd.R_mono (Kd.R_far (p := ⟨gb222, 2, none⟩) (Kd.R_far (p := ⟨gb222, 1, none⟩) (Kd.R_far (p := ⟨gb222, 0, none⟩) (Kd.R_types HO_233001.out BK222.out (by decide)) (fun _ hk => hk.2) (.int .i32 t224)) (fun _ hk => hk.2) (.slice Ao36 t225.length co36)) (fun _ hk => hk.2) (.slice Ao38 t228.length co38)) (fun _ hk => hk.1.2.2)⟩, ⟨by (with_reducible repeat (first | apply rA_ | apply rN_ | apply rD_)); exact Kd.R_mono (Kd.R_far (p := ⟨gb222, 2, none⟩) (Kd.R_far (p := ⟨gb222, 1, none⟩) (Kd.R_far (p := ⟨gb222, 0, none⟩) (Kd.R_types HO_233002.out BK222.out (by decide)) (fun _ hk => hk.2) (.int .i32 t224)) (fun _ hk => hk.2) (.slice Ao36 t225.length co36)) (fun _ hk => hk.2) (.slice Ao38 t228.length co38)) (fun _ hk => hk.1.2.2)⟩, ⟨by (with_reducible repeat (first | refine blk_drewN ?_ _ | refine blk_drew ?_ | refine blk_alloc ?_ _)); refine blk_put (cs := #[.int .i32 t224, .slice Ao36 t225.length co36, .slice Ao30 x223002_2.length co30]) ?_ 2 _ rfl; (with_reducible repeat (first | refine blk_drewN ?_ _ | refine blk_drew ?_ | refine blk_alloc ?_ _)); refine blk_put (cs := #[.int .i32 t224, .slice Ao29 x223001_2.length co29, .slice Ao30 x223002_2.length co30]) ?_ 1 _ rfl; (with_reducible repeat (first | refine blk_drewN ?_ _ | refine blk_drew ?_ | refine blk_alloc ?_ _)); refine blk_put (cs := #[.int .i32 x223000_2, .slice Ao29 x223001_2.length co29, .slice Ao30 x223002_2.length co30]) ?_ 0 _ rfl; (with_reducible repeat (first | refine blk_drewN ?_ _ | refine blk_drew ?_ | refine blk_alloc ?_ _)); exact BK222.out⟩, ⟨pH_ HB.out⟩⟩
                ·
                 rw [if_neg c46] at H; exact absurd H (by simp)
               ·
                rw [if_neg c45] at H; exact absurd H (by simp)
           ·
            rw [if_neg c25] at H; exact absurd H (by simp)
          ·
           rw [if_neg c24] at H; exact absurd H (by simp)
         ·
          replace c23 := Bool.eq_false_iff.mpr c23
          subst c23
          have H1 : (some true) = some r := by rw [if_neg (show ¬ (false = true) by decide)] at H; exact H
          clear H; have H := H1; clear H1; have A53 := Aside0.mk (show bitloftlaw09_alive.f 2000 = some true by first | rfl | decide +kernel); obtain rfl := Option.some.inj H
          go_wp2_with (first | ((with_reducible refine gate_callee (f := 21) rfl ?_); refine gL_ (some 115) Tryd.func21 #[] ?_; (with_reducible refine (bitloftlaw09_alive.calls 2000  true _ (tab_bel hT (pH_ HB.out)) A53.out).mono ?_); rintro e w54 ⟨rfl, hb⟩; refine ⟨_, rfl, ?_⟩; have n0_ := Aside0.mk (Kd.R_below (pL_ HO_223001.out) hb); have n1_ := Aside0.mk (Kd.R_below (pL_ HO_223002.out) hb); have n2_ := Aside0.mk (blk_below (pG_ BK222.out) hb); have n3_ := Aside0.mk (below_step (pH_ HB.out) hb); clear HO_223001; clear HO_223002; clear BK222; clear HB; have HO_223001 := n0_; have HO_223002 := n1_; have BK222 := n2_; have HB := n3_; clear n0_ n1_ n2_ n3_; (try clear hb)))
          go_ret
          exact ⟨by first | rfl | (simp [errW_none, errW_some] <;> rfl) | (simp [*, errW_none, errW_some] <;> rfl), pH_ HB.out⟩
    ·
     rw [if_neg c15] at H; have c15b0 : (t221 == 0) = false := beq_eq_false_iff_ne.mpr c15; have c15b1 : (t221 != 0) = true := bne_iff_ne.mpr c15; exact absurd (H.trans (congrArg some HRT_.out)) (by simp)

/-- THE ONE PURE STATEMENT of bitloftlaw09_AdaptMean: yours. -/
def bitloftlaw09_AdaptMean.Pure : Prop := ∀ (a0 : Int) (a1 : Int) (l2 : List Int), (Lit.int .i64 a0).wf = true → (Lit.int .u8 a1).wf = true → l2.length ≤ maxLen → l2.length * 1 ≤ 140737488351232 → (∀ x ∈ l2, (Lit.int .u8 x).wf = true) → ∃ k, bitloftlaw09_AdaptMean.f k a0 a1 l2 = some true
theorem bitloftlaw09_AdaptMean.walk (P : bitloftlaw09_AdaptMean.Pure) (a0 : Int) (a1 : Int) (a2 : Option Addr) (len2 cap2 : Nat) (z2 : List Int) (w : World) (w0 : (Lit.int .i64 a0).wf = true) (w1 : (Lit.int .u8 a1).wf = true) (w2 : (a2 = none ∧ len2 = 0 ∧ cap2 = 0 ∧ z2 = []) ∨ ∃ x, a2 = some x ∧ len2 ≤ cap2 ∧ cap2 ≤ maxLen ∧ z2.length = cap2 ∧ (∀ i, i < z2.length → w.cell? (x.add i) = some (.int .u8 (z2.getD i 0))) ∧ ∀ n ∈ z2, (Lit.int .u8 n).wf = true) (y2 : len2 * 1 ≤ 140737488351232) (hT : Tab_ w) :
  Calls Tryd.prog 5 #[.int .i64 a0, .int .u8 a1, .slice a2 len2 cap2] w fun e w' => e = .returned (.bool true) ∧ Below w.heap.size w w' := by
 obtain ⟨l2, rfl, hr2, hm2, hw2, hc2⟩ := ReadsInt.ofRowC w2; obtain ⟨k, h⟩ := P a0 a1 l2 w0 w1 hm2 y2 hw2; refine (bitloftlaw09_AdaptMean.calls k a0 a1 _ _ l2 true w (Kd.C_of_reads (d := (0 : Int)) (h1 := fun _ => rfl) hr2) hc2 hT rfl h).mono ?_
 rintro e w' ⟨rfl, hd⟩
 exact ⟨rfl, hd⟩

end Go.Proofs.YtmncppbhnjngkaaDoor.XAdaptMean
