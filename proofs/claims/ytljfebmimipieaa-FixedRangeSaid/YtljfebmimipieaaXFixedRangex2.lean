-- Laid by a program of this session (wip/mkxprint.py, over the kit's print): Lean checks it.
import Derived.Test.YtljfebmimipieaaXFixedRangex0
import Derived.Test.YtljfebmimipieaaXFixedRangex1
namespace Go.Proofs.Ytljfebmimipieaa.XFixedRange
open Go.RowKit Go.Proofs.YtljfebmimipieaaW.PrintWords Go.Proofs.YtljfebmimipieaaW.PrintLast Go.Proofs.YtljfebmimipieaaW.PrintMore
attribute [local go_sem] max2_int min2_int max_two min_two max_three min_three max_four min_four   -- for this text's walks alone
set_option linter.unusedVariables false
set_option linter.unusedSimpArgs false

/-! ### bitloftlaw03_FixedRange: function 9 -/
mutual
def bitloftlaw03_FixedRange.j0 : Nat → Int → Int → Int → Bool → Option (Bool)
  | 0, _, _, _, _ => none
  | k + 1, x0, x1, x2, x53 => if x53 = true then (some false) else ((fixed_Add.f x0 x1).bind fun t139 => ((fixed_Add.f x1 x0).bind fun t140 => (if t139 = t140 then ((fixed_Mul.f x0 x1).bind fun t141 => ((fixed_Mul.f x1 x0).bind fun t142 => (bitloftlaw03_FixedRange.j1 k x0 x1 x2 (t141 != t142)))) else (bitloftlaw03_FixedRange.j1 k x0 x1 x2 true))))
def bitloftlaw03_FixedRange.j1 : Nat → Int → Int → Int → Bool → Option (Bool)
  | 0, _, _, _, _ => none
  | k + 1, x0, x1, x2, x69 => if x69 = true then (some false) else (if x1 > x2 then ((bitloftlaw03_alive.f k).bind fun t143 => (some t143)) else ((fixed_Add.f x0 x1).bind fun t144 => ((fixed_Add.f x0 x2).bind fun t145 => (if t144 ≤ t145 then ((fixed_Sub.f x0 x1).bind fun t146 => ((fixed_Sub.f x0 x2).bind fun t147 => (if t146 ≥ t147 then ((bitloftlaw03_alive.f k).bind fun t148 => (some t148)) else (some false)))) else (some false)))))
end
def bitloftlaw03_FixedRange.f (k : Nat) (a0 : Int) (a1 : Int) (a2 : Int) : Option (Bool) := (fixed_Add.f a0 a1).bind fun t131 => ((bitloftlaw03_near.f t131 (wrap64 ((wrap64 (a0)) + (wrap64 (a1))))).bind fun t132 => (if t132 = true then ((fixed_Sub.f a0 a1).bind fun t133 => ((bitloftlaw03_near.f t133 (wrap64 ((wrap64 (a0)) - (wrap64 (a1))))).bind fun t134 => (if t134 = true then ((fixed_Mul.f a0 a1).bind fun t135 => ((bitloftlaw03_near.f t135 (wrap64 ((wrap64 (a0)) * (wrap64 (a1))))).bind fun t136 => (if t136 = true then ((fixed_Sat.f (wrap64 ((wrap64 (a0)) * (wrap64 (a1))))).bind fun t137 => ((bitloftlaw03_near.f t137 (wrap64 ((wrap64 (a0)) * (wrap64 (a1))))).bind fun t138 => (bitloftlaw03_FixedRange.j0 k a0 a1 a2 (!t138)))) else (bitloftlaw03_FixedRange.j0 k a0 a1 a2 true)))) else (bitloftlaw03_FixedRange.j0 k a0 a1 a2 true)))) else (bitloftlaw03_FixedRange.j0 k a0 a1 a2 true)))
theorem bitloftlaw03_FixedRange.mono_l : ∀ k, (∀ y0 y1 y2 y3, LeO (bitloftlaw03_FixedRange.j0 k y0 y1 y2 y3) (bitloftlaw03_FixedRange.j0 (k + 1) y0 y1 y2 y3)) ∧ (∀ y0 y1 y2 y3, LeO (bitloftlaw03_FixedRange.j1 k y0 y1 y2 y3) (bitloftlaw03_FixedRange.j1 (k + 1) y0 y1 y2 y3))
  | 0 => ⟨fun _ _ _ _ r h => by simp [bitloftlaw03_FixedRange.j0] at h, fun _ _ _ _ r h => by simp [bitloftlaw03_FixedRange.j1] at h⟩
  | k + 1 => by
    obtain ⟨ih0, ih1⟩ := bitloftlaw03_FixedRange.mono_l k
    refine ⟨?_, ?_⟩
    · intro y0 y1 y2 y3
      unfold bitloftlaw03_FixedRange.j0
      repeat' first
      | (with_reducible exact ih0 _ _ _ _)
      | (with_reducible exact ih1 _ _ _ _)
      | (with_reducible exact bitloftlaw03_alive.mono _)
      | (with_reducible exact LeO.refl _)
      | (with_reducible exact LeO.none _)
      | (with_reducible refine LeO.ite ?_ ?_)
      | (with_reducible refine LeO.bind ?_ (fun _ => ?_))
      | exact ih0 _ _ _ _
      | exact ih1 _ _ _ _
      | exact bitloftlaw03_alive.mono _
      | exact LeO.none _
      | refine LeO.ite ?_ ?_
      | refine LeO.bind ?_ (fun _ => ?_)
    · intro y0 y1 y2 y3
      unfold bitloftlaw03_FixedRange.j1
      repeat' first
      | (with_reducible exact ih0 _ _ _ _)
      | (with_reducible exact ih1 _ _ _ _)
      | (with_reducible exact bitloftlaw03_alive.mono _)
      | (with_reducible exact LeO.refl _)
      | (with_reducible exact LeO.none _)
      | (with_reducible refine LeO.ite ?_ ?_)
      | (with_reducible refine LeO.bind ?_ (fun _ => ?_))
      | exact ih0 _ _ _ _
      | exact ih1 _ _ _ _
      | exact bitloftlaw03_alive.mono _
      | exact LeO.none _
      | refine LeO.ite ?_ ?_
      | refine LeO.bind ?_ (fun _ => ?_)
theorem bitloftlaw03_FixedRange.mono : ∀ a0 a1 a2 k, LeO (bitloftlaw03_FixedRange.f k a0 a1 a2) (bitloftlaw03_FixedRange.f (k + 1) a0 a1 a2) := by
  intro a0 a1 a2 k
  obtain ⟨ih0, ih1⟩ := bitloftlaw03_FixedRange.mono_l k
  unfold bitloftlaw03_FixedRange.f
  repeat' first
      | (with_reducible exact ih0 _ _ _ _)
      | (with_reducible exact ih1 _ _ _ _)
      | (with_reducible exact bitloftlaw03_alive.mono _)
      | (with_reducible exact LeO.refl _)
      | (with_reducible exact LeO.none _)
      | (with_reducible refine LeO.ite ?_ ?_)
      | (with_reducible refine LeO.bind ?_ (fun _ => ?_))
      | exact ih0 _ _ _ _
      | exact ih1 _ _ _ _
      | exact bitloftlaw03_alive.mono _
      | exact LeO.none _
      | refine LeO.ite ?_ ?_
      | refine LeO.bind ?_ (fun _ => ?_)
set_option maxHeartbeats 8000000 in
set_option maxRecDepth 100000 in
theorem bitloftlaw03_FixedRange.calls (k : Nat) (a0 : Int) (a1 : Int) (a2 : Int) (r : Bool) (w : World) (h : bitloftlaw03_FixedRange.f k a0 a1 a2 = some r) :
    Calls Try.prog 9 #[.int .i32 a0, .int .i32 a1, .int .i32 a2] w fun e w' => e = .returned (.bool r) ∧ Below w.heap.size w w' := by
  have HB := Aside0.mk (Below.refl w.heap.size w)
  have H : ((fixed_Add.f a0 a1).bind fun t131 => ((bitloftlaw03_near.f t131 (wrap64 ((wrap64 (a0)) + (wrap64 (a1))))).bind fun t132 => (if t132 = true then ((fixed_Sub.f a0 a1).bind fun t133 => ((bitloftlaw03_near.f t133 (wrap64 ((wrap64 (a0)) - (wrap64 (a1))))).bind fun t134 => (if t134 = true then ((fixed_Mul.f a0 a1).bind fun t135 => ((bitloftlaw03_near.f t135 (wrap64 ((wrap64 (a0)) * (wrap64 (a1))))).bind fun t136 => (if t136 = true then ((fixed_Sat.f (wrap64 ((wrap64 (a0)) * (wrap64 (a1))))).bind fun t137 => ((bitloftlaw03_near.f t137 (wrap64 ((wrap64 (a0)) * (wrap64 (a1))))).bind fun t138 => (bitloftlaw03_FixedRange.j0 k a0 a1 a2 (!t138)))) else (bitloftlaw03_FixedRange.j0 k a0 a1 a2 true)))) else (bitloftlaw03_FixedRange.j0 k a0 a1 a2 true)))) else (bitloftlaw03_FixedRange.j0 k a0 a1 a2 true)))) = some r := h
  clear h
  have HC4 := Aside0.mk H
  clear H
  go_enter Try.func9, Try.ntmps9
  go_upto_region 2 with (fail)
  go_cut [53] (fun v53 wc => ∃ (kq : Nat) (x53_3 : Bool), v53 = .bool x53_3 ∧ Aside0 (bitloftlaw03_FixedRange.j0 kq a0 a1 a2 x53_3 = some r) ∧ Aside0 (kq ≤ k) ∧ Aside0 (Below w.heap.size w wc))
  case first =>
    have H := HC4.out
    clear HC4
    replace H := Option.bind_eq_some_iff.mp H
    obtain ⟨t131, A50, H⟩ := H
    replace H : ((bitloftlaw03_near.f t131 (wrap64 ((wrap64 (a0)) + (wrap64 (a1))))).bind fun t132 => (if t132 = true then ((fixed_Sub.f a0 a1).bind fun t133 => ((bitloftlaw03_near.f t133 (wrap64 ((wrap64 (a0)) - (wrap64 (a1))))).bind fun t134 => (if t134 = true then ((fixed_Mul.f a0 a1).bind fun t135 => ((bitloftlaw03_near.f t135 (wrap64 ((wrap64 (a0)) * (wrap64 (a1))))).bind fun t136 => (if t136 = true then ((fixed_Sat.f (wrap64 ((wrap64 (a0)) * (wrap64 (a1))))).bind fun t137 => ((bitloftlaw03_near.f t137 (wrap64 ((wrap64 (a0)) * (wrap64 (a1))))).bind fun t138 => (bitloftlaw03_FixedRange.j0 k a0 a1 a2 (!t138)))) else (bitloftlaw03_FixedRange.j0 k a0 a1 a2 true)))) else (bitloftlaw03_FixedRange.j0 k a0 a1 a2 true)))) else (bitloftlaw03_FixedRange.j0 k a0 a1 a2 true))) = some r := H
    have A5 := Aside0.mk A50
    clear A50
    replace H := Option.bind_eq_some_iff.mp H
    obtain ⟨t132, A60, H⟩ := H
    replace H : (if t132 = true then ((fixed_Sub.f a0 a1).bind fun t133 => ((bitloftlaw03_near.f t133 (wrap64 ((wrap64 (a0)) - (wrap64 (a1))))).bind fun t134 => (if t134 = true then ((fixed_Mul.f a0 a1).bind fun t135 => ((bitloftlaw03_near.f t135 (wrap64 ((wrap64 (a0)) * (wrap64 (a1))))).bind fun t136 => (if t136 = true then ((fixed_Sat.f (wrap64 ((wrap64 (a0)) * (wrap64 (a1))))).bind fun t137 => ((bitloftlaw03_near.f t137 (wrap64 ((wrap64 (a0)) * (wrap64 (a1))))).bind fun t138 => (bitloftlaw03_FixedRange.j0 k a0 a1 a2 (!t138)))) else (bitloftlaw03_FixedRange.j0 k a0 a1 a2 true)))) else (bitloftlaw03_FixedRange.j0 k a0 a1 a2 true)))) else (bitloftlaw03_FixedRange.j0 k a0 a1 a2 true)) = some r := H
    have A6 := Aside0.mk A60
    clear A60
    by_cases c7 : t132 = true
    · subst c7
      have H1 : ((fixed_Sub.f a0 a1).bind fun t133 => ((bitloftlaw03_near.f t133 (wrap64 ((wrap64 (a0)) - (wrap64 (a1))))).bind fun t134 => (if t134 = true then ((fixed_Mul.f a0 a1).bind fun t135 => ((bitloftlaw03_near.f t135 (wrap64 ((wrap64 (a0)) * (wrap64 (a1))))).bind fun t136 => (if t136 = true then ((fixed_Sat.f (wrap64 ((wrap64 (a0)) * (wrap64 (a1))))).bind fun t137 => ((bitloftlaw03_near.f t137 (wrap64 ((wrap64 (a0)) * (wrap64 (a1))))).bind fun t138 => (bitloftlaw03_FixedRange.j0 k a0 a1 a2 (!t138)))) else (bitloftlaw03_FixedRange.j0 k a0 a1 a2 true)))) else (bitloftlaw03_FixedRange.j0 k a0 a1 a2 true)))) = some r := by rw [if_pos rfl] at H; exact H
      clear H
      have H := H1
      clear H1
      replace H := Option.bind_eq_some_iff.mp H
      obtain ⟨t133, A80, H⟩ := H
      replace H : ((bitloftlaw03_near.f t133 (wrap64 ((wrap64 (a0)) - (wrap64 (a1))))).bind fun t134 => (if t134 = true then ((fixed_Mul.f a0 a1).bind fun t135 => ((bitloftlaw03_near.f t135 (wrap64 ((wrap64 (a0)) * (wrap64 (a1))))).bind fun t136 => (if t136 = true then ((fixed_Sat.f (wrap64 ((wrap64 (a0)) * (wrap64 (a1))))).bind fun t137 => ((bitloftlaw03_near.f t137 (wrap64 ((wrap64 (a0)) * (wrap64 (a1))))).bind fun t138 => (bitloftlaw03_FixedRange.j0 k a0 a1 a2 (!t138)))) else (bitloftlaw03_FixedRange.j0 k a0 a1 a2 true)))) else (bitloftlaw03_FixedRange.j0 k a0 a1 a2 true))) = some r := H
      have A8 := Aside0.mk A80
      clear A80
      replace H := Option.bind_eq_some_iff.mp H
      obtain ⟨t134, A90, H⟩ := H
      replace H : (if t134 = true then ((fixed_Mul.f a0 a1).bind fun t135 => ((bitloftlaw03_near.f t135 (wrap64 ((wrap64 (a0)) * (wrap64 (a1))))).bind fun t136 => (if t136 = true then ((fixed_Sat.f (wrap64 ((wrap64 (a0)) * (wrap64 (a1))))).bind fun t137 => ((bitloftlaw03_near.f t137 (wrap64 ((wrap64 (a0)) * (wrap64 (a1))))).bind fun t138 => (bitloftlaw03_FixedRange.j0 k a0 a1 a2 (!t138)))) else (bitloftlaw03_FixedRange.j0 k a0 a1 a2 true)))) else (bitloftlaw03_FixedRange.j0 k a0 a1 a2 true)) = some r := H
      have A9 := Aside0.mk A90
      clear A90
      by_cases c10 : t134 = true
      · subst c10
        have H1 : ((fixed_Mul.f a0 a1).bind fun t135 => ((bitloftlaw03_near.f t135 (wrap64 ((wrap64 (a0)) * (wrap64 (a1))))).bind fun t136 => (if t136 = true then ((fixed_Sat.f (wrap64 ((wrap64 (a0)) * (wrap64 (a1))))).bind fun t137 => ((bitloftlaw03_near.f t137 (wrap64 ((wrap64 (a0)) * (wrap64 (a1))))).bind fun t138 => (bitloftlaw03_FixedRange.j0 k a0 a1 a2 (!t138)))) else (bitloftlaw03_FixedRange.j0 k a0 a1 a2 true)))) = some r := by rw [if_pos rfl] at H; exact H
        clear H
        have H := H1
        clear H1
        replace H := Option.bind_eq_some_iff.mp H
        obtain ⟨t135, A110, H⟩ := H
        replace H : ((bitloftlaw03_near.f t135 (wrap64 ((wrap64 (a0)) * (wrap64 (a1))))).bind fun t136 => (if t136 = true then ((fixed_Sat.f (wrap64 ((wrap64 (a0)) * (wrap64 (a1))))).bind fun t137 => ((bitloftlaw03_near.f t137 (wrap64 ((wrap64 (a0)) * (wrap64 (a1))))).bind fun t138 => (bitloftlaw03_FixedRange.j0 k a0 a1 a2 (!t138)))) else (bitloftlaw03_FixedRange.j0 k a0 a1 a2 true))) = some r := H
        have A11 := Aside0.mk A110
        clear A110
        replace H := Option.bind_eq_some_iff.mp H
        obtain ⟨t136, A120, H⟩ := H
        replace H : (if t136 = true then ((fixed_Sat.f (wrap64 ((wrap64 (a0)) * (wrap64 (a1))))).bind fun t137 => ((bitloftlaw03_near.f t137 (wrap64 ((wrap64 (a0)) * (wrap64 (a1))))).bind fun t138 => (bitloftlaw03_FixedRange.j0 k a0 a1 a2 (!t138)))) else (bitloftlaw03_FixedRange.j0 k a0 a1 a2 true)) = some r := H
        have A12 := Aside0.mk A120
        clear A120
        by_cases c13 : t136 = true
        · subst c13
          have H1 : ((fixed_Sat.f (wrap64 ((wrap64 (a0)) * (wrap64 (a1))))).bind fun t137 => ((bitloftlaw03_near.f t137 (wrap64 ((wrap64 (a0)) * (wrap64 (a1))))).bind fun t138 => (bitloftlaw03_FixedRange.j0 k a0 a1 a2 (!t138)))) = some r := by rw [if_pos rfl] at H; exact H
          clear H
          have H := H1
          clear H1
          replace H := Option.bind_eq_some_iff.mp H
          obtain ⟨t137, A140, H⟩ := H
          replace H : ((bitloftlaw03_near.f t137 (wrap64 ((wrap64 (a0)) * (wrap64 (a1))))).bind fun t138 => (bitloftlaw03_FixedRange.j0 k a0 a1 a2 (!t138))) = some r := H
          have A14 := Aside0.mk A140
          clear A140
          replace H := Option.bind_eq_some_iff.mp H
          obtain ⟨t138, A150, H⟩ := H
          replace H : (bitloftlaw03_FixedRange.j0 k a0 a1 a2 (!t138)) = some r := H
          have A15 := Aside0.mk A150
          clear A150
          have H' := Aside0.mk H
          clear H
          go_wp2_with (first | ((with_reducible refine gate_callee (f := 14) rfl ?_); refine goesL_ (some 27) rfl rfl Try.func14 (by kernel_rfl) rfl #[.int .i32 a0, .int .i32 a1] rfl (by (try simp only [List.map_toArray, List.map_cons, List.map_nil]); first | done | rfl | (simp only [List.length_drop, List.length_take]; rfl)) ?_; (with_reducible refine (fixed_Add.calls a0 a1 t131 _ A5.out).mono ?_); rintro e w16 ⟨rfl, hb⟩; refine ⟨_, rfl, ?_⟩; have n0_ := Aside0.mk (below_step (by repeat (first | (with_reducible first | exact HB.out | apply below_alloc | apply pw_below_drewN | apply below_drew1) | exact HB.out)) hb); clear HB; have HB := n0_; clear n0_; (try clear hb); (try clear hb2); (try clear hk); (try clear hi)) | ((with_reducible refine gate_callee (f := 23) rfl ?_); refine goesL_ (some 29) rfl rfl Try.func23 (by kernel_rfl) rfl #[.int .i32 t131, .int .i64 (wrap64 ((wrap64 (a0)) + (wrap64 (a1))))] rfl (by (try simp only [List.map_toArray, List.map_cons, List.map_nil]); first | done | rfl | (simp only [List.length_drop, List.length_take]; rfl)) ?_; (with_reducible refine (bitloftlaw03_near.calls t131 (wrap64 ((wrap64 (a0)) + (wrap64 (a1)))) true _ A6.out).mono ?_); rintro e w' ⟨rfl, ⟨nd, rfl⟩⟩; refine ⟨_, rfl, ?_⟩) | (go_at_call 16; (with_reducible refine (fixed_Sub.calls a0 a1 t133 _ A8.out).mono ?_); rintro e w17 ⟨rfl, hb⟩; have n0_ := Aside0.mk (below_step (by repeat (first | (with_reducible first | exact HB.out | apply below_alloc | apply pw_below_drewN | apply below_drew1) | exact HB.out)) hb); clear HB; have HB := n0_; clear n0_; (try clear hb); (try clear hb2); (try clear hk); (try clear hi)) | (go_at_call 23; (with_reducible refine (bitloftlaw03_near.calls t133 (wrap64 ((wrap64 (a0)) - (wrap64 (a1)))) true _ A9.out).mono ?_); rintro e w' ⟨rfl, ⟨nd, rfl⟩⟩) | (go_at_call 18; (with_reducible refine (fixed_Mul.calls a0 a1 t135 _ A11.out).mono ?_); rintro e w18 ⟨rfl, hb⟩; have n0_ := Aside0.mk (below_step (by repeat (first | (with_reducible first | exact HB.out | apply below_alloc | apply pw_below_drewN | apply below_drew1) | exact HB.out)) hb); clear HB; have HB := n0_; clear n0_; (try clear hb); (try clear hb2); (try clear hk); (try clear hi)) | (go_at_call 23; (with_reducible refine (bitloftlaw03_near.calls t135 (wrap64 ((wrap64 (a0)) * (wrap64 (a1)))) true _ A12.out).mono ?_); rintro e w' ⟨rfl, ⟨nd, rfl⟩⟩) | (go_at_call 12; (with_reducible refine (fixed_Sat.calls (wrap64 ((wrap64 (a0)) * (wrap64 (a1)))) t137 _ A14.out).mono ?_); rintro e w19 ⟨rfl, hb⟩; have n0_ := Aside0.mk (below_step (by repeat (first | (with_reducible first | exact HB.out | apply below_alloc | apply pw_below_drewN | apply below_drew1) | exact HB.out)) hb); clear HB; have HB := n0_; clear n0_; (try clear hb); (try clear hb2); (try clear hk); (try clear hi)) | (go_at_call 23; (with_reducible refine (bitloftlaw03_near.calls t137 (wrap64 ((wrap64 (a0)) * (wrap64 (a1)))) t138 _ A15.out).mono ?_); rintro e w' ⟨rfl, ⟨nd, rfl⟩⟩))
          go_meet
          case rel => exact ⟨_, (!t138), (by first | rfl | (simp; done) | (simp [*]; done)), H', ⟨by first | omega | exact Nat.le_refl _⟩, ⟨by repeat (first | (with_reducible first | exact HB.out | apply below_alloc | apply pw_below_drewN | apply below_drew1) | exact HB.out)⟩⟩
        · replace c13 := Bool.eq_false_iff.mpr c13
          subst c13
          have H1 : (bitloftlaw03_FixedRange.j0 k a0 a1 a2 true) = some r := by rw [if_neg (show ¬ (false = true) by decide)] at H; exact H
          clear H
          have H := H1
          clear H1
          have H' := Aside0.mk H
          clear H
          go_wp2_with (first | ((with_reducible refine gate_callee (f := 14) rfl ?_); refine goesL_ (some 27) rfl rfl Try.func14 (by kernel_rfl) rfl #[.int .i32 a0, .int .i32 a1] rfl (by (try simp only [List.map_toArray, List.map_cons, List.map_nil]); first | done | rfl | (simp only [List.length_drop, List.length_take]; rfl)) ?_; (with_reducible refine (fixed_Add.calls a0 a1 t131 _ A5.out).mono ?_); rintro e w20 ⟨rfl, hb⟩; refine ⟨_, rfl, ?_⟩; have n0_ := Aside0.mk (below_step (by repeat (first | (with_reducible first | exact HB.out | apply below_alloc | apply pw_below_drewN | apply below_drew1) | exact HB.out)) hb); clear HB; have HB := n0_; clear n0_; (try clear hb); (try clear hb2); (try clear hk); (try clear hi)) | ((with_reducible refine gate_callee (f := 23) rfl ?_); refine goesL_ (some 29) rfl rfl Try.func23 (by kernel_rfl) rfl #[.int .i32 t131, .int .i64 (wrap64 ((wrap64 (a0)) + (wrap64 (a1))))] rfl (by (try simp only [List.map_toArray, List.map_cons, List.map_nil]); first | done | rfl | (simp only [List.length_drop, List.length_take]; rfl)) ?_; (with_reducible refine (bitloftlaw03_near.calls t131 (wrap64 ((wrap64 (a0)) + (wrap64 (a1)))) true _ A6.out).mono ?_); rintro e w' ⟨rfl, ⟨nd, rfl⟩⟩; refine ⟨_, rfl, ?_⟩) | (go_at_call 16; (with_reducible refine (fixed_Sub.calls a0 a1 t133 _ A8.out).mono ?_); rintro e w21 ⟨rfl, hb⟩; have n0_ := Aside0.mk (below_step (by repeat (first | (with_reducible first | exact HB.out | apply below_alloc | apply pw_below_drewN | apply below_drew1) | exact HB.out)) hb); clear HB; have HB := n0_; clear n0_; (try clear hb); (try clear hb2); (try clear hk); (try clear hi)) | (go_at_call 23; (with_reducible refine (bitloftlaw03_near.calls t133 (wrap64 ((wrap64 (a0)) - (wrap64 (a1)))) true _ A9.out).mono ?_); rintro e w' ⟨rfl, ⟨nd, rfl⟩⟩) | (go_at_call 18; (with_reducible refine (fixed_Mul.calls a0 a1 t135 _ A11.out).mono ?_); rintro e w22 ⟨rfl, hb⟩; have n0_ := Aside0.mk (below_step (by repeat (first | (with_reducible first | exact HB.out | apply below_alloc | apply pw_below_drewN | apply below_drew1) | exact HB.out)) hb); clear HB; have HB := n0_; clear n0_; (try clear hb); (try clear hb2); (try clear hk); (try clear hi)) | (go_at_call 23; (with_reducible refine (bitloftlaw03_near.calls t135 (wrap64 ((wrap64 (a0)) * (wrap64 (a1)))) false _ A12.out).mono ?_); rintro e w' ⟨rfl, ⟨nd, rfl⟩⟩))
          go_meet
          case rel => exact ⟨_, (true), (by first | rfl | (simp; done) | (simp [*]; done)), H', ⟨by first | omega | exact Nat.le_refl _⟩, ⟨by repeat (first | (with_reducible first | exact HB.out | apply below_alloc | apply pw_below_drewN | apply below_drew1) | exact HB.out)⟩⟩
      · replace c10 := Bool.eq_false_iff.mpr c10
        subst c10
        have H1 : (bitloftlaw03_FixedRange.j0 k a0 a1 a2 true) = some r := by rw [if_neg (show ¬ (false = true) by decide)] at H; exact H
        clear H
        have H := H1
        clear H1
        have H' := Aside0.mk H
        clear H
        go_wp2_with (first | ((with_reducible refine gate_callee (f := 14) rfl ?_); refine goesL_ (some 27) rfl rfl Try.func14 (by kernel_rfl) rfl #[.int .i32 a0, .int .i32 a1] rfl (by (try simp only [List.map_toArray, List.map_cons, List.map_nil]); first | done | rfl | (simp only [List.length_drop, List.length_take]; rfl)) ?_; (with_reducible refine (fixed_Add.calls a0 a1 t131 _ A5.out).mono ?_); rintro e w23 ⟨rfl, hb⟩; refine ⟨_, rfl, ?_⟩; have n0_ := Aside0.mk (below_step (by repeat (first | (with_reducible first | exact HB.out | apply below_alloc | apply pw_below_drewN | apply below_drew1) | exact HB.out)) hb); clear HB; have HB := n0_; clear n0_; (try clear hb); (try clear hb2); (try clear hk); (try clear hi)) | ((with_reducible refine gate_callee (f := 23) rfl ?_); refine goesL_ (some 29) rfl rfl Try.func23 (by kernel_rfl) rfl #[.int .i32 t131, .int .i64 (wrap64 ((wrap64 (a0)) + (wrap64 (a1))))] rfl (by (try simp only [List.map_toArray, List.map_cons, List.map_nil]); first | done | rfl | (simp only [List.length_drop, List.length_take]; rfl)) ?_; (with_reducible refine (bitloftlaw03_near.calls t131 (wrap64 ((wrap64 (a0)) + (wrap64 (a1)))) true _ A6.out).mono ?_); rintro e w' ⟨rfl, ⟨nd, rfl⟩⟩; refine ⟨_, rfl, ?_⟩) | (go_at_call 16; (with_reducible refine (fixed_Sub.calls a0 a1 t133 _ A8.out).mono ?_); rintro e w24 ⟨rfl, hb⟩; have n0_ := Aside0.mk (below_step (by repeat (first | (with_reducible first | exact HB.out | apply below_alloc | apply pw_below_drewN | apply below_drew1) | exact HB.out)) hb); clear HB; have HB := n0_; clear n0_; (try clear hb); (try clear hb2); (try clear hk); (try clear hi)) | (go_at_call 23; (with_reducible refine (bitloftlaw03_near.calls t133 (wrap64 ((wrap64 (a0)) - (wrap64 (a1)))) false _ A9.out).mono ?_); rintro e w' ⟨rfl, ⟨nd, rfl⟩⟩))
        go_meet
        case rel => exact ⟨_, (true), (by first | rfl | (simp; done) | (simp [*]; done)), H', ⟨by first | omega | exact Nat.le_refl _⟩, ⟨by repeat (first | (with_reducible first | exact HB.out | apply below_alloc | apply pw_below_drewN | apply below_drew1) | exact HB.out)⟩⟩
    · replace c7 := Bool.eq_false_iff.mpr c7
      subst c7
      have H1 : (bitloftlaw03_FixedRange.j0 k a0 a1 a2 true) = some r := by rw [if_neg (show ¬ (false = true) by decide)] at H; exact H
      clear H
      have H := H1
      clear H1
      have H' := Aside0.mk H
      clear H
      go_wp2_with (first | ((with_reducible refine gate_callee (f := 14) rfl ?_); refine goesL_ (some 27) rfl rfl Try.func14 (by kernel_rfl) rfl #[.int .i32 a0, .int .i32 a1] rfl (by (try simp only [List.map_toArray, List.map_cons, List.map_nil]); first | done | rfl | (simp only [List.length_drop, List.length_take]; rfl)) ?_; (with_reducible refine (fixed_Add.calls a0 a1 t131 _ A5.out).mono ?_); rintro e w25 ⟨rfl, hb⟩; refine ⟨_, rfl, ?_⟩; have n0_ := Aside0.mk (below_step (by repeat (first | (with_reducible first | exact HB.out | apply below_alloc | apply pw_below_drewN | apply below_drew1) | exact HB.out)) hb); clear HB; have HB := n0_; clear n0_; (try clear hb); (try clear hb2); (try clear hk); (try clear hi)) | ((with_reducible refine gate_callee (f := 23) rfl ?_); refine goesL_ (some 29) rfl rfl Try.func23 (by kernel_rfl) rfl #[.int .i32 t131, .int .i64 (wrap64 ((wrap64 (a0)) + (wrap64 (a1))))] rfl (by (try simp only [List.map_toArray, List.map_cons, List.map_nil]); first | done | rfl | (simp only [List.length_drop, List.length_take]; rfl)) ?_; (with_reducible refine (bitloftlaw03_near.calls t131 (wrap64 ((wrap64 (a0)) + (wrap64 (a1)))) false _ A6.out).mono ?_); rintro e w' ⟨rfl, ⟨nd, rfl⟩⟩; refine ⟨_, rfl, ?_⟩))
      go_meet
      case rel => exact ⟨_, (true), (by first | rfl | (simp; done) | (simp [*]; done)), H', ⟨by first | omega | exact Nat.le_refl _⟩, ⟨by repeat (first | (with_reducible first | exact HB.out | apply below_alloc | apply pw_below_drewN | apply below_drew1) | exact HB.out)⟩⟩
  case rest =>
    clear HC4
    try clear c1
    try clear c2
    try clear p2
    try clear p6
    try clear c7
    try clear c9
    try clear c10
    try clear c13
    try clear c14
    try clear c23
    obtain ⟨kq, x53_3, rfl, HA, HJ3, HB⟩ := hcut
    cases kq with
    | zero => exact absurd HA.out (by simp [bitloftlaw03_FixedRange.j0])
    | succ kj3 =>
      have H := HA.out
      clear HA
      simp only [bitloftlaw03_FixedRange.j0] at H
      by_cases c26 : x53_3 = true
      · subst c26
        have H1 : (some false) = some r := by rw [if_pos rfl] at H; exact H
        clear H
        have H := H1
        clear H1
        obtain rfl := Option.some.inj H
        go_wp2
        go_ret
        exact ⟨by first | rfl | (simp [errW_none, errW_some] <;> rfl) | (simp [*, errW_none, errW_some] <;> rfl), by repeat (first | (with_reducible first | exact HB.out | apply below_alloc | apply pw_below_drewN | apply below_drew1) | exact HB.out)⟩
      · replace c26 := Bool.eq_false_iff.mpr c26
        subst c26
        have H1 : ((fixed_Add.f a0 a1).bind fun t139 => ((fixed_Add.f a1 a0).bind fun t140 => (if t139 = t140 then ((fixed_Mul.f a0 a1).bind fun t141 => ((fixed_Mul.f a1 a0).bind fun t142 => (bitloftlaw03_FixedRange.j1 kj3 a0 a1 a2 (t141 != t142)))) else (bitloftlaw03_FixedRange.j1 kj3 a0 a1 a2 true)))) = some r := by rw [if_neg (show ¬ (false = true) by decide)] at H; exact H
        clear H
        have H := H1
        clear H1
        have HC27 := Aside0.mk H
        clear H
        go_upto_region 4 with (fail)
        go_cut [69] (fun v69 wc => ∃ (kq : Nat) (x69_26 : Bool), v69 = .bool x69_26 ∧ Aside0 (bitloftlaw03_FixedRange.j1 kq a0 a1 a2 x69_26 = some r) ∧ Aside0 (kq ≤ kj3) ∧ Aside0 (Below w.heap.size w wc))
        case first =>
          have H := HC27.out
          clear HC27
          replace H := Option.bind_eq_some_iff.mp H
          obtain ⟨t139, A280, H⟩ := H
          replace H : ((fixed_Add.f a1 a0).bind fun t140 => (if t139 = t140 then ((fixed_Mul.f a0 a1).bind fun t141 => ((fixed_Mul.f a1 a0).bind fun t142 => (bitloftlaw03_FixedRange.j1 kj3 a0 a1 a2 (t141 != t142)))) else (bitloftlaw03_FixedRange.j1 kj3 a0 a1 a2 true))) = some r := H
          have A28 := Aside0.mk A280
          clear A280
          replace H := Option.bind_eq_some_iff.mp H
          obtain ⟨t140, A290, H⟩ := H
          replace H : (if t139 = t140 then ((fixed_Mul.f a0 a1).bind fun t141 => ((fixed_Mul.f a1 a0).bind fun t142 => (bitloftlaw03_FixedRange.j1 kj3 a0 a1 a2 (t141 != t142)))) else (bitloftlaw03_FixedRange.j1 kj3 a0 a1 a2 true)) = some r := H
          have A29 := Aside0.mk A290
          clear A290
          by_cases c30 : t139 = t140
          · rw [if_pos c30] at H
            have c30b0 : (t139 == t140) = true := beq_iff_eq.mpr c30
            have c30b1 : (t139 != t140) = false := bne_eq_false_iff_eq.mpr c30
            clear c30
            (first | rw [c30b0] | (simp only [i64_w, i32_w]; rw [c30b0]) | skip)
            replace H := Option.bind_eq_some_iff.mp H
            obtain ⟨t141, A310, H⟩ := H
            replace H : ((fixed_Mul.f a1 a0).bind fun t142 => (bitloftlaw03_FixedRange.j1 kj3 a0 a1 a2 (t141 != t142))) = some r := H
            have A31 := Aside0.mk A310
            clear A310
            replace H := Option.bind_eq_some_iff.mp H
            obtain ⟨t142, A320, H⟩ := H
            replace H : (bitloftlaw03_FixedRange.j1 kj3 a0 a1 a2 (t141 != t142)) = some r := H
            have A32 := Aside0.mk A320
            clear A320
            have H' := Aside0.mk H
            clear H
            go_wp2_with (first | ((with_reducible refine gate_callee (f := 14) rfl ?_); refine goesL_ (some 56) rfl rfl Try.func14 (by kernel_rfl) rfl #[.int .i32 a0, .int .i32 a1] rfl (by (try simp only [List.map_toArray, List.map_cons, List.map_nil]); first | done | rfl | (simp only [List.length_drop, List.length_take]; rfl)) ?_; (with_reducible refine (fixed_Add.calls a0 a1 t139 _ A28.out).mono ?_); rintro e w33 ⟨rfl, hb⟩; refine ⟨_, rfl, ?_⟩; have n0_ := Aside0.mk (below_step (by repeat (first | (with_reducible first | exact HB.out | apply below_alloc | apply pw_below_drewN | apply below_drew1) | exact HB.out)) hb); clear HB; have HB := n0_; clear n0_; (try clear hb); (try clear hb2); (try clear hk); (try clear hi)) | ((with_reducible refine gate_callee (f := 14) rfl ?_); refine goesL_ (some 59) rfl rfl Try.func14 (by kernel_rfl) rfl #[.int .i32 a1, .int .i32 a0] rfl (by (try simp only [List.map_toArray, List.map_cons, List.map_nil]); first | done | rfl | (simp only [List.length_drop, List.length_take]; rfl)) ?_; (with_reducible refine (fixed_Add.calls a1 a0 t140 _ A29.out).mono ?_); rintro e w34 ⟨rfl, hb⟩; refine ⟨_, rfl, ?_⟩; have n0_ := Aside0.mk (below_step (by repeat (first | (with_reducible first | exact HB.out | apply below_alloc | apply pw_below_drewN | apply below_drew1) | exact HB.out)) hb); clear HB; have HB := n0_; clear n0_; (try clear hb); (try clear hb2); (try clear hk); (try clear hi)) | (go_at_call 18; (with_reducible refine (fixed_Mul.calls a0 a1 t141 _ A31.out).mono ?_); rintro e w35 ⟨rfl, hb⟩; have n0_ := Aside0.mk (below_step (by repeat (first | (with_reducible first | exact HB.out | apply below_alloc | apply pw_below_drewN | apply below_drew1) | exact HB.out)) hb); clear HB; have HB := n0_; clear n0_; (try clear hb); (try clear hb2); (try clear hk); (try clear hi)) | (go_at_call 18; (with_reducible refine (fixed_Mul.calls a1 a0 t142 _ A32.out).mono ?_); rintro e w36 ⟨rfl, hb⟩; have n0_ := Aside0.mk (below_step (by repeat (first | (with_reducible first | exact HB.out | apply below_alloc | apply pw_below_drewN | apply below_drew1) | exact HB.out)) hb); clear HB; have HB := n0_; clear n0_; (try clear hb); (try clear hb2); (try clear hk); (try clear hi)))
            go_meet
            case rel => exact ⟨_, ((t141 != t142)), (by first | rfl | (simp; done) | (simp [*]; done)), H', ⟨by have := HJ3.out; first | omega | exact Nat.le_refl _⟩, ⟨by repeat (first | (with_reducible first | exact HB.out | apply below_alloc | apply pw_below_drewN | apply below_drew1) | exact HB.out)⟩⟩
          · rw [if_neg c30] at H
            have c30b0 : (t139 == t140) = false := beq_eq_false_iff_ne.mpr c30
            have c30b1 : (t139 != t140) = true := bne_iff_ne.mpr c30
            (first | rw [c30b0] | (simp only [i64_w, i32_w]; rw [c30b0]) | skip)
            have H' := Aside0.mk H
            clear H
            go_wp2_with (first | ((with_reducible refine gate_callee (f := 14) rfl ?_); refine goesL_ (some 56) rfl rfl Try.func14 (by kernel_rfl) rfl #[.int .i32 a0, .int .i32 a1] rfl (by (try simp only [List.map_toArray, List.map_cons, List.map_nil]); first | done | rfl | (simp only [List.length_drop, List.length_take]; rfl)) ?_; (with_reducible refine (fixed_Add.calls a0 a1 t139 _ A28.out).mono ?_); rintro e w37 ⟨rfl, hb⟩; refine ⟨_, rfl, ?_⟩; have n0_ := Aside0.mk (below_step (by repeat (first | (with_reducible first | exact HB.out | apply below_alloc | apply pw_below_drewN | apply below_drew1) | exact HB.out)) hb); clear HB; have HB := n0_; clear n0_; (try clear hb); (try clear hb2); (try clear hk); (try clear hi)) | ((with_reducible refine gate_callee (f := 14) rfl ?_); refine goesL_ (some 59) rfl rfl Try.func14 (by kernel_rfl) rfl #[.int .i32 a1, .int .i32 a0] rfl (by (try simp only [List.map_toArray, List.map_cons, List.map_nil]); first | done | rfl | (simp only [List.length_drop, List.length_take]; rfl)) ?_; (with_reducible refine (fixed_Add.calls a1 a0 t140 _ A29.out).mono ?_); rintro e w38 ⟨rfl, hb⟩; refine ⟨_, rfl, ?_⟩; have n0_ := Aside0.mk (below_step (by repeat (first | (with_reducible first | exact HB.out | apply below_alloc | apply pw_below_drewN | apply below_drew1) | exact HB.out)) hb); clear HB; have HB := n0_; clear n0_; (try clear hb); (try clear hb2); (try clear hk); (try clear hi)))
            go_meet
            case rel => exact ⟨_, (true), (by first | rfl | (simp; done) | (simp [*]; done)), H', ⟨by have := HJ3.out; first | omega | exact Nat.le_refl _⟩, ⟨by repeat (first | (with_reducible first | exact HB.out | apply below_alloc | apply pw_below_drewN | apply below_drew1) | exact HB.out)⟩⟩
        case rest =>
          clear HC27
          try clear c1
          try clear c2
          try clear p2
          try clear c3
          try clear p6
          try clear c7
          try clear c9
          try clear c10
          try clear c13
          try clear c14
          try clear c23
          try clear c26
          try clear c30
          try clear c30b0
          try clear c30b1
          try clear p2
          try clear p6
          obtain ⟨kq, x69_26, rfl, HA, HJ26, HB⟩ := hcut
          cases kq with
          | zero => exact absurd HA.out (by simp [bitloftlaw03_FixedRange.j1])
          | succ kj26 =>
            have H := HA.out
            clear HA
            simp only [bitloftlaw03_FixedRange.j1] at H
            by_cases c39 : x69_26 = true
            · subst c39
              have H1 : (some false) = some r := by rw [if_pos rfl] at H; exact H
              clear H
              have H := H1
              clear H1
              obtain rfl := Option.some.inj H
              go_wp2
              go_ret
              exact ⟨by first | rfl | (simp [errW_none, errW_some] <;> rfl) | (simp [*, errW_none, errW_some] <;> rfl), by repeat (first | (with_reducible first | exact HB.out | apply below_alloc | apply pw_below_drewN | apply below_drew1) | exact HB.out)⟩
            · replace c39 := Bool.eq_false_iff.mpr c39
              subst c39
              have H1 : (if a1 > a2 then ((bitloftlaw03_alive.f kj26).bind fun t143 => (some t143)) else ((fixed_Add.f a0 a1).bind fun t144 => ((fixed_Add.f a0 a2).bind fun t145 => (if t144 ≤ t145 then ((fixed_Sub.f a0 a1).bind fun t146 => ((fixed_Sub.f a0 a2).bind fun t147 => (if t146 ≥ t147 then ((bitloftlaw03_alive.f kj26).bind fun t148 => (some t148)) else (some false)))) else (some false))))) = some r := by rw [if_neg (show ¬ (false = true) by decide)] at H; exact H
              clear H
              have H := H1
              clear H1
              by_cases c40 : a1 > a2
              · rw [if_pos c40] at H
                have c40b0 : decide (a2 < a1) = true := decide_eq_true c40
                clear c40
                replace H := Option.bind_eq_some_iff.mp H
                obtain ⟨t143, A410, H⟩ := H
                replace H : (some t143) = some r := H
                have A41 := Aside0.mk A410
                clear A410
                obtain rfl := Option.some.inj H
                go_wp2_with (first | (go_at_call 22; (with_reducible refine (bitloftlaw03_alive.calls kj26  t143 _ A41.out).mono ?_); rintro e w42 ⟨rfl, hb⟩; have n0_ := Aside0.mk (below_step (by repeat (first | (with_reducible first | exact HB.out | apply below_alloc | apply pw_below_drewN | apply below_drew1) | exact HB.out)) hb); clear HB; have HB := n0_; clear n0_; (try clear hb); (try clear hb2); (try clear hk); (try clear hi)))
                go_ret
                exact ⟨by first | rfl | (simp [errW_none, errW_some] <;> rfl) | (simp [*, errW_none, errW_some] <;> rfl), by repeat (first | (with_reducible first | exact HB.out | apply below_alloc | apply pw_below_drewN | apply below_drew1) | exact HB.out)⟩
              · rw [if_neg c40] at H
                have c40b0 : decide (a2 < a1) = false := decide_eq_false c40
                clear c40
                replace H := Option.bind_eq_some_iff.mp H
                obtain ⟨t144, A430, H⟩ := H
                replace H : ((fixed_Add.f a0 a2).bind fun t145 => (if t144 ≤ t145 then ((fixed_Sub.f a0 a1).bind fun t146 => ((fixed_Sub.f a0 a2).bind fun t147 => (if t146 ≥ t147 then ((bitloftlaw03_alive.f kj26).bind fun t148 => (some t148)) else (some false)))) else (some false))) = some r := H
                have A43 := Aside0.mk A430
                clear A430
                replace H := Option.bind_eq_some_iff.mp H
                obtain ⟨t145, A440, H⟩ := H
                replace H : (if t144 ≤ t145 then ((fixed_Sub.f a0 a1).bind fun t146 => ((fixed_Sub.f a0 a2).bind fun t147 => (if t146 ≥ t147 then ((bitloftlaw03_alive.f kj26).bind fun t148 => (some t148)) else (some false)))) else (some false)) = some r := H
                have A44 := Aside0.mk A440
                clear A440
                by_cases c45 : t144 ≤ t145
                · rw [if_pos c45] at H
                  have c45b0 : decide (t144 ≤ t145) = true := decide_eq_true c45
                  clear c45
                  replace H := Option.bind_eq_some_iff.mp H
                  obtain ⟨t146, A460, H⟩ := H
                  replace H : ((fixed_Sub.f a0 a2).bind fun t147 => (if t146 ≥ t147 then ((bitloftlaw03_alive.f kj26).bind fun t148 => (some t148)) else (some false))) = some r := H
                  have A46 := Aside0.mk A460
                  clear A460
                  replace H := Option.bind_eq_some_iff.mp H
                  obtain ⟨t147, A470, H⟩ := H
                  replace H : (if t146 ≥ t147 then ((bitloftlaw03_alive.f kj26).bind fun t148 => (some t148)) else (some false)) = some r := H
                  have A47 := Aside0.mk A470
                  clear A470
                  by_cases c48 : t146 ≥ t147
                  · rw [if_pos c48] at H
                    have c48b0 : decide (t147 ≤ t146) = true := decide_eq_true c48
                    clear c48
                    replace H := Option.bind_eq_some_iff.mp H
                    obtain ⟨t148, A490, H⟩ := H
                    replace H : (some t148) = some r := H
                    have A49 := Aside0.mk A490
                    clear A490
                    obtain rfl := Option.some.inj H
                    go_wp2_with (first | (go_at_call 14; (with_reducible refine (fixed_Add.calls a0 a1 t144 _ A43.out).mono ?_); rintro e w50 ⟨rfl, hb⟩; have n0_ := Aside0.mk (below_step (by repeat (first | (with_reducible first | exact HB.out | apply below_alloc | apply pw_below_drewN | apply below_drew1) | exact HB.out)) hb); clear HB; have HB := n0_; clear n0_; (try clear hb); (try clear hb2); (try clear hk); (try clear hi)) | (go_at_call 14; (with_reducible refine (fixed_Add.calls a0 a2 t145 _ A44.out).mono ?_); rintro e w51 ⟨rfl, hb⟩; have n0_ := Aside0.mk (below_step (by repeat (first | (with_reducible first | exact HB.out | apply below_alloc | apply pw_below_drewN | apply below_drew1) | exact HB.out)) hb); clear HB; have HB := n0_; clear n0_; (try clear hb); (try clear hb2); (try clear hk); (try clear hi)) | (go_at_call 16; (with_reducible refine (fixed_Sub.calls a0 a1 t146 _ A46.out).mono ?_); rintro e w52 ⟨rfl, hb⟩; have n0_ := Aside0.mk (below_step (by repeat (first | (with_reducible first | exact HB.out | apply below_alloc | apply pw_below_drewN | apply below_drew1) | exact HB.out)) hb); clear HB; have HB := n0_; clear n0_; (try clear hb); (try clear hb2); (try clear hk); (try clear hi)) | (go_at_call 16; (with_reducible refine (fixed_Sub.calls a0 a2 t147 _ A47.out).mono ?_); rintro e w53 ⟨rfl, hb⟩; have n0_ := Aside0.mk (below_step (by repeat (first | (with_reducible first | exact HB.out | apply below_alloc | apply pw_below_drewN | apply below_drew1) | exact HB.out)) hb); clear HB; have HB := n0_; clear n0_; (try clear hb); (try clear hb2); (try clear hk); (try clear hi)) | (go_at_call 22; (with_reducible refine (bitloftlaw03_alive.calls kj26  t148 _ A49.out).mono ?_); rintro e w54 ⟨rfl, hb⟩; have n0_ := Aside0.mk (below_step (by repeat (first | (with_reducible first | exact HB.out | apply below_alloc | apply pw_below_drewN | apply below_drew1) | exact HB.out)) hb); clear HB; have HB := n0_; clear n0_; (try clear hb); (try clear hb2); (try clear hk); (try clear hi)))
                    go_ret
                    exact ⟨by first | rfl | (simp [errW_none, errW_some] <;> rfl) | (simp [*, errW_none, errW_some] <;> rfl), by repeat (first | (with_reducible first | exact HB.out | apply below_alloc | apply pw_below_drewN | apply below_drew1) | exact HB.out)⟩
                  · rw [if_neg c48] at H
                    have c48b0 : decide (t147 ≤ t146) = false := decide_eq_false c48
                    clear c48
                    obtain rfl := Option.some.inj H
                    go_wp2_with (first | (go_at_call 14; (with_reducible refine (fixed_Add.calls a0 a1 t144 _ A43.out).mono ?_); rintro e w55 ⟨rfl, hb⟩; have n0_ := Aside0.mk (below_step (by repeat (first | (with_reducible first | exact HB.out | apply below_alloc | apply pw_below_drewN | apply below_drew1) | exact HB.out)) hb); clear HB; have HB := n0_; clear n0_; (try clear hb); (try clear hb2); (try clear hk); (try clear hi)) | (go_at_call 14; (with_reducible refine (fixed_Add.calls a0 a2 t145 _ A44.out).mono ?_); rintro e w56 ⟨rfl, hb⟩; have n0_ := Aside0.mk (below_step (by repeat (first | (with_reducible first | exact HB.out | apply below_alloc | apply pw_below_drewN | apply below_drew1) | exact HB.out)) hb); clear HB; have HB := n0_; clear n0_; (try clear hb); (try clear hb2); (try clear hk); (try clear hi)) | (go_at_call 16; (with_reducible refine (fixed_Sub.calls a0 a1 t146 _ A46.out).mono ?_); rintro e w57 ⟨rfl, hb⟩; have n0_ := Aside0.mk (below_step (by repeat (first | (with_reducible first | exact HB.out | apply below_alloc | apply pw_below_drewN | apply below_drew1) | exact HB.out)) hb); clear HB; have HB := n0_; clear n0_; (try clear hb); (try clear hb2); (try clear hk); (try clear hi)) | (go_at_call 16; (with_reducible refine (fixed_Sub.calls a0 a2 t147 _ A47.out).mono ?_); rintro e w58 ⟨rfl, hb⟩; have n0_ := Aside0.mk (below_step (by repeat (first | (with_reducible first | exact HB.out | apply below_alloc | apply pw_below_drewN | apply below_drew1) | exact HB.out)) hb); clear HB; have HB := n0_; clear n0_; (try clear hb); (try clear hb2); (try clear hk); (try clear hi)))
                    go_ret
                    exact ⟨by first | rfl | (simp [errW_none, errW_some] <;> rfl) | (simp [*, errW_none, errW_some] <;> rfl), by repeat (first | (with_reducible first | exact HB.out | apply below_alloc | apply pw_below_drewN | apply below_drew1) | exact HB.out)⟩
                · rw [if_neg c45] at H
                  have c45b0 : decide (t144 ≤ t145) = false := decide_eq_false c45
                  clear c45
                  obtain rfl := Option.some.inj H
                  go_wp2_with (first | (go_at_call 14; (with_reducible refine (fixed_Add.calls a0 a1 t144 _ A43.out).mono ?_); rintro e w59 ⟨rfl, hb⟩; have n0_ := Aside0.mk (below_step (by repeat (first | (with_reducible first | exact HB.out | apply below_alloc | apply pw_below_drewN | apply below_drew1) | exact HB.out)) hb); clear HB; have HB := n0_; clear n0_; (try clear hb); (try clear hb2); (try clear hk); (try clear hi)) | (go_at_call 14; (with_reducible refine (fixed_Add.calls a0 a2 t145 _ A44.out).mono ?_); rintro e w60 ⟨rfl, hb⟩; have n0_ := Aside0.mk (below_step (by repeat (first | (with_reducible first | exact HB.out | apply below_alloc | apply pw_below_drewN | apply below_drew1) | exact HB.out)) hb); clear HB; have HB := n0_; clear n0_; (try clear hb); (try clear hb2); (try clear hk); (try clear hi)))
                  go_ret
                  exact ⟨by first | rfl | (simp [errW_none, errW_some] <;> rfl) | (simp [*, errW_none, errW_some] <;> rfl), by repeat (first | (with_reducible first | exact HB.out | apply below_alloc | apply pw_below_drewN | apply below_drew1) | exact HB.out)⟩

/-- THE ONE PURE STATEMENT of bitloftlaw03_FixedRange: yours. -/
def bitloftlaw03_FixedRange.Pure : Prop := ∀ (a0 : Int) (a1 : Int) (a2 : Int), (Lit.int .i32 a0).wf = true → (Lit.int .i32 a1).wf = true → (Lit.int .i32 a2).wf = true → ∃ k, bitloftlaw03_FixedRange.f k a0 a1 a2 = some true
theorem bitloftlaw03_FixedRange.walk (P : bitloftlaw03_FixedRange.Pure) (a0 : Int) (a1 : Int) (a2 : Int) (w : World) (w0 : (Lit.int .i32 a0).wf = true) (w1 : (Lit.int .i32 a1).wf = true) (w2 : (Lit.int .i32 a2).wf = true) :
    Calls Try.prog 9 #[.int .i32 a0, .int .i32 a1, .int .i32 a2] w fun e w' => e = .returned (.bool true) ∧ Below w.heap.size w w' := by
  obtain ⟨k, h⟩ := P a0 a1 a2 w0 w1 w2
  refine (bitloftlaw03_FixedRange.calls k a0 a1 a2 true w h).mono ?_
  rintro e w' ⟨rfl, hd⟩
  exact ⟨rfl, hd⟩

end Go.Proofs.Ytljfebmimipieaa.XFixedRange
