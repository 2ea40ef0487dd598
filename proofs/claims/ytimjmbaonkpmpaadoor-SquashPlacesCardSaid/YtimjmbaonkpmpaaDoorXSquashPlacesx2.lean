-- Laid by a program of this session (wip/mkxprint.py, over the kit's print): Lean checks it.
import Derived.Test.YtimjmbaonkpmpaaDoorXSquashPlacesx0
import Derived.Test.YtimjmbaonkpmpaaDoorXSquashPlacesx1
namespace Go.Proofs.YtimjmbaonkpmpaaDoor.XSquashPlaces
open List (setIfInBounds_toArray set_cons_zero set_cons_succ)
open Go.RowKit Go.Proofs.YtimjmbaonkpmpaaDoorW.PrintWords Go.Proofs.YtimjmbaonkpmpaaDoorW.PrintLast Go.Proofs.YtimjmbaonkpmpaaDoorW.PrintMore
attribute [local go_sem] max2_int min2_int max_two min_two max_three min_three max_four min_four   -- for this text's walks alone
set_option linter.unusedVariables false
set_option linter.unusedSimpArgs false

/-! ### bitloftlaw04_SquashPlaces: function 9 -/
mutual
def bitloftlaw04_SquashPlaces.j0 : Nat → Int → Int → Bool → Option (Bool)
  | 0, _, _, _ => none
  | k + 1, x0, x1, x21 => if x21 = true then (some true) else ((squash_Squash.f (wrap32 (wrap64 (128 * (wrap64 (x0 - 16)))))).bind fun t102 => (if 0 ≤ x0 then (if x0 < 33 then (if t102 = (rd [1, 2, 3, 6, 10, 16, 27, 45, 73, 120, 194, 310, 488, 747, 1101, 1546, 2047, 2549, 2994, 3348, 3607, 3785, 3901, 3975, 4022, 4050, 4068, 4079, 4085, 4089, 4092, 4093, 4094] x0) then ((squash_Squash.f (wrap32 ((wrap32 (wrap64 (128 * (wrap64 (x0 - 16))))) + x1))).bind fun t103 => (if t103 ≥ (rd [1, 2, 3, 6, 10, 16, 27, 45, 73, 120, 194, 310, 488, 747, 1101, 1546, 2047, 2549, 2994, 3348, 3607, 3785, 3901, 3975, 4022, 4050, 4068, 4079, 4085, 4089, 4092, 4093, 4094] x0) then (if 0 ≤ (wrap64 (x0 + 1)) then (if (wrap64 (x0 + 1)) < 33 then (if t103 ≤ (rd [1, 2, 3, 6, 10, 16, 27, 45, 73, 120, 194, 310, 488, 747, 1101, 1546, 2047, 2549, 2994, 3348, 3607, 3785, 3901, 3975, 4022, 4050, 4068, 4079, 4085, 4089, 4092, 4093, 4094] (wrap64 (x0 + 1))) then (bitloftlaw04_SquashPlaces.j1 k true) else (bitloftlaw04_SquashPlaces.j1 k false)) else (none)) else (none)) else (bitloftlaw04_SquashPlaces.j1 k false))) else (some false)) else (none)) else (none)))
def bitloftlaw04_SquashPlaces.j1 : Nat → Bool → Option (Bool)
  | 0, _ => none
  | k + 1, x4 => some x4
end
def bitloftlaw04_SquashPlaces.f (k : Nat) (a0 : Int) (a1 : Int) : Option (Bool) := if a0 < 1 then (bitloftlaw04_SquashPlaces.j0 k a0 a1 true) else (if a0 > 31 then (bitloftlaw04_SquashPlaces.j0 k a0 a1 true) else (if a1 < 0 then (bitloftlaw04_SquashPlaces.j0 k a0 a1 true) else (bitloftlaw04_SquashPlaces.j0 k a0 a1 (decide (a1 > 127)))))
theorem bitloftlaw04_SquashPlaces.mono_l : ∀ k, (∀ y0 y1 y2, LeO (bitloftlaw04_SquashPlaces.j0 k y0 y1 y2) (bitloftlaw04_SquashPlaces.j0 (k + 1) y0 y1 y2)) ∧ (∀ y0, LeO (bitloftlaw04_SquashPlaces.j1 k y0) (bitloftlaw04_SquashPlaces.j1 (k + 1) y0))
  | 0 => ⟨fun _ _ _ r h => by simp [bitloftlaw04_SquashPlaces.j0] at h, fun _ r h => by simp [bitloftlaw04_SquashPlaces.j1] at h⟩
  | k + 1 => by
    obtain ⟨ih0, ih1⟩ := bitloftlaw04_SquashPlaces.mono_l k
    refine ⟨?_, ?_⟩
    · intro y0 y1 y2
      unfold bitloftlaw04_SquashPlaces.j0
      repeat' first
      | (with_reducible exact ih0 _ _ _)
      | (with_reducible exact ih1 _)
      | (with_reducible exact LeO.refl _)
      | (with_reducible exact LeO.none _)
      | (with_reducible refine LeO.ite ?_ ?_)
      | (with_reducible refine LeO.bind ?_ (fun _ => ?_))
      | exact ih0 _ _ _
      | exact ih1 _
      | exact LeO.none _
      | refine LeO.ite ?_ ?_
      | refine LeO.bind ?_ (fun _ => ?_)
    · intro y0
      unfold bitloftlaw04_SquashPlaces.j1
      repeat' first
      | (with_reducible exact ih0 _ _ _)
      | (with_reducible exact ih1 _)
      | (with_reducible exact LeO.refl _)
      | (with_reducible exact LeO.none _)
      | (with_reducible refine LeO.ite ?_ ?_)
      | (with_reducible refine LeO.bind ?_ (fun _ => ?_))
      | exact ih0 _ _ _
      | exact ih1 _
      | exact LeO.none _
      | refine LeO.ite ?_ ?_
      | refine LeO.bind ?_ (fun _ => ?_)
theorem bitloftlaw04_SquashPlaces.mono : ∀ a0 a1 k, LeO (bitloftlaw04_SquashPlaces.f k a0 a1) (bitloftlaw04_SquashPlaces.f (k + 1) a0 a1) := by
  intro a0 a1 k
  obtain ⟨ih0, ih1⟩ := bitloftlaw04_SquashPlaces.mono_l k
  unfold bitloftlaw04_SquashPlaces.f
  repeat' first
      | (with_reducible exact ih0 _ _ _)
      | (with_reducible exact ih1 _)
      | (with_reducible exact LeO.refl _)
      | (with_reducible exact LeO.none _)
      | (with_reducible refine LeO.ite ?_ ?_)
      | (with_reducible refine LeO.bind ?_ (fun _ => ?_))
      | exact ih0 _ _ _
      | exact ih1 _
      | exact LeO.none _
      | refine LeO.ite ?_ ?_
      | refine LeO.bind ?_ (fun _ => ?_)
set_option maxHeartbeats 8000000 in
set_option maxRecDepth 100000 in
theorem bitloftlaw04_SquashPlaces.calls (k : Nat) (a0 : Int) (a1 : Int) (r : Bool) (w : World) (hT : Tab_ w) (h : bitloftlaw04_SquashPlaces.f k a0 a1 = some r) :
    Calls Tryd.prog 9 #[.int .i64 a0, .int .i32 a1] w fun e w' => e = .returned (.bool r) ∧ Below w.heap.size w w' := by
  have hu23 := Tryd.underlying23
  have HB := Aside0.mk (Below.refl w.heap.size w)
  have H : (if a0 < 1 then (bitloftlaw04_SquashPlaces.j0 k a0 a1 true) else (if a0 > 31 then (bitloftlaw04_SquashPlaces.j0 k a0 a1 true) else (if a1 < 0 then (bitloftlaw04_SquashPlaces.j0 k a0 a1 true) else (bitloftlaw04_SquashPlaces.j0 k a0 a1 (decide (a1 > 127)))))) = some r := h
  clear h
  have HC3 := Aside0.mk H
  clear H
  go_enter Tryd.func9, Tryd.ntmps9
  go_upto_region 1 with (fail)
  repeat (go_quiet (fail); go_upto_region 1 with (fail))
  go_cut [21] (fun v21 wc => ∃ (kq : Nat) (x21_2 : Bool), v21 = .bool x21_2 ∧ Aside0 (bitloftlaw04_SquashPlaces.j0 kq a0 a1 x21_2 = some r) ∧ Aside0 (kq ≤ k) ∧ Aside0 (Below w.heap.size w wc))
  case first =>
    have H := HC3.out
    clear HC3
    by_cases c4 : a0 < 1
    · rw [if_pos c4] at H
      have c4b0 : decide (a0 < 1) = true := decide_eq_true c4
      clear c4
      (first | rw [c4b0] | (simp only [i64_w, i32_w]; rw [c4b0]) | skip)
      have H' := Aside0.mk H
      clear H
      go_wp2
      repeat (go_quiet (fail); try go_wp2)
      go_meet
      case rel => exact ⟨_, (true), (by first | rfl | (simp; done) | (simp [*]; done)), H', ⟨by first | omega | exact Nat.le_refl _⟩, ⟨by repeat (first | (with_reducible first | exact HB.out | apply below_alloc | apply bN_ | apply below_drew1) | exact HB.out)⟩⟩
    · rw [if_neg c4] at H
      have c4b0 : decide (a0 < 1) = false := decide_eq_false c4
      clear c4
      (first | rw [c4b0] | (simp only [i64_w, i32_w]; rw [c4b0]) | skip)
      by_cases c5 : a0 > 31
      · rw [if_pos c5] at H
        have c5b0 : decide (31 < a0) = true := decide_eq_true c5
        clear c5
        have H' := Aside0.mk H
        clear H
        go_wp2
        repeat (go_quiet (fail); try go_wp2)
        go_meet
        case rel => exact ⟨_, (true), (by first | rfl | (simp; done) | (simp [*]; done)), H', ⟨by first | omega | exact Nat.le_refl _⟩, ⟨by repeat (first | (with_reducible first | exact HB.out | apply below_alloc | apply bN_ | apply below_drew1) | exact HB.out)⟩⟩
      · rw [if_neg c5] at H
        have c5b0 : decide (31 < a0) = false := decide_eq_false c5
        clear c5
        by_cases c6 : a1 < 0
        · rw [if_pos c6] at H
          have c6b0 : decide (a1 < 0) = true := decide_eq_true c6
          clear c6
          have H' := Aside0.mk H
          clear H
          go_wp2
          repeat (go_quiet (fail); try go_wp2)
          go_meet
          case rel => exact ⟨_, (true), (by first | rfl | (simp; done) | (simp [*]; done)), H', ⟨by first | omega | exact Nat.le_refl _⟩, ⟨by repeat (first | (with_reducible first | exact HB.out | apply below_alloc | apply bN_ | apply below_drew1) | exact HB.out)⟩⟩
        · rw [if_neg c6] at H
          have c6b0 : decide (a1 < 0) = false := decide_eq_false c6
          clear c6
          have H' := Aside0.mk H
          clear H
          go_wp2
          repeat (go_quiet (fail); try go_wp2)
          go_meet
          case rel => exact ⟨_, (decide (a1 > 127)), (by first | rfl | (simp; done) | (simp [*]; done)), H', ⟨by first | omega | exact Nat.le_refl _⟩, ⟨by repeat (first | (with_reducible first | exact HB.out | apply below_alloc | apply bN_ | apply below_drew1) | exact HB.out)⟩⟩
  case rest =>
    clear HC3
    try clear p2
    try clear c4
    try clear c4b0
    try clear c5
    try clear c5b0
    try clear c6
    try clear c6b0
    obtain ⟨kq, x21_2, rfl, HA, HJ2, HB⟩ := hcut
    cases kq with
    | zero => exact absurd HA.out (by simp [bitloftlaw04_SquashPlaces.j0])
    | succ kj2 =>
      have H := HA.out
      clear HA
      simp only [bitloftlaw04_SquashPlaces.j0] at H
      by_cases c7 : x21_2 = true
      · subst c7
        have H1 : (some true) = some r := by rw [if_pos rfl] at H; exact H
        clear H
        have H := H1
        clear H1
        have A8 := Aside0.mk (show bitloftlaw04_alive.f = some true by first | rfl | decide +kernel)
        obtain rfl := Option.some.inj H
        go_wp2_with (first | (go_at_call 16; (with_reducible refine (bitloftlaw04_alive.calls  true _ (tab_bel hT (by repeat (first | (with_reducible first | exact HB.out | apply below_alloc | apply bN_ | apply below_drew1) | exact HB.out))) A8.out).mono ?_); rintro e w9 ⟨rfl, hb⟩; have n0_ := Aside0.mk (below_step (by repeat (first | (with_reducible first | exact HB.out | apply below_alloc | apply bN_ | apply below_drew1) | exact HB.out)) hb); clear HB; have HB := n0_; clear n0_; (try clear hb)))
        repeat (go_quiet (first | (go_at_call 16; (with_reducible refine (bitloftlaw04_alive.calls  true _ (tab_bel hT (by repeat (first | (with_reducible first | exact HB.out | apply below_alloc | apply bN_ | apply below_drew1) | exact HB.out))) A8.out).mono ?_); rintro e w9 ⟨rfl, hb⟩; have n0_ := Aside0.mk (below_step (by repeat (first | (with_reducible first | exact HB.out | apply below_alloc | apply bN_ | apply below_drew1) | exact HB.out)) hb); clear HB; have HB := n0_; clear n0_; (try clear hb))); try go_wp2_with (first | (go_at_call 16; (with_reducible refine (bitloftlaw04_alive.calls  true _ (tab_bel hT (by repeat (first | (with_reducible first | exact HB.out | apply below_alloc | apply bN_ | apply below_drew1) | exact HB.out))) A8.out).mono ?_); rintro e w9 ⟨rfl, hb⟩; have n0_ := Aside0.mk (below_step (by repeat (first | (with_reducible first | exact HB.out | apply below_alloc | apply bN_ | apply below_drew1) | exact HB.out)) hb); clear HB; have HB := n0_; clear n0_; (try clear hb))))
        go_ret
        exact ⟨by first | rfl | (simp [errW_none, errW_some] <;> rfl) | (simp [*, errW_none, errW_some] <;> rfl), by repeat (first | (with_reducible first | exact HB.out | apply below_alloc | apply bN_ | apply below_drew1) | exact HB.out)⟩
      · replace c7 := Bool.eq_false_iff.mpr c7
        subst c7
        have H1 : ((squash_Squash.f (wrap32 (wrap64 (128 * (wrap64 (a0 - 16)))))).bind fun t102 => (if 0 ≤ a0 then (if a0 < 33 then (if t102 = (rd [1, 2, 3, 6, 10, 16, 27, 45, 73, 120, 194, 310, 488, 747, 1101, 1546, 2047, 2549, 2994, 3348, 3607, 3785, 3901, 3975, 4022, 4050, 4068, 4079, 4085, 4089, 4092, 4093, 4094] a0) then ((squash_Squash.f (wrap32 ((wrap32 (wrap64 (128 * (wrap64 (a0 - 16))))) + a1))).bind fun t103 => (if t103 ≥ (rd [1, 2, 3, 6, 10, 16, 27, 45, 73, 120, 194, 310, 488, 747, 1101, 1546, 2047, 2549, 2994, 3348, 3607, 3785, 3901, 3975, 4022, 4050, 4068, 4079, 4085, 4089, 4092, 4093, 4094] a0) then (if 0 ≤ (wrap64 (a0 + 1)) then (if (wrap64 (a0 + 1)) < 33 then (if t103 ≤ (rd [1, 2, 3, 6, 10, 16, 27, 45, 73, 120, 194, 310, 488, 747, 1101, 1546, 2047, 2549, 2994, 3348, 3607, 3785, 3901, 3975, 4022, 4050, 4068, 4079, 4085, 4089, 4092, 4093, 4094] (wrap64 (a0 + 1))) then (bitloftlaw04_SquashPlaces.j1 kj2 true) else (bitloftlaw04_SquashPlaces.j1 kj2 false)) else (none)) else (none)) else (bitloftlaw04_SquashPlaces.j1 kj2 false))) else (some false)) else (none)) else (none))) = some r := by rw [if_neg (show ¬ (false = true) by decide)] at H; exact H
        clear H
        have H := H1
        clear H1
        have A10 := Aside0.mk (show squash_Row.f = some (1, 2, 3, 6, 10, 16, 27, 45, 73, 120, 194, 310, 488, 747, 1101, 1546, 2047, 2549, 2994, 3348, 3607, 3785, 3901, 3975, 4022, 4050, 4068, 4079, 4085, 4089, 4092, 4093, 4094) by first | rfl | decide +kernel)
        replace H := Option.bind_eq_some_iff.mp H
        obtain ⟨t102, A110, H⟩ := H
        replace H : (if 0 ≤ a0 then (if a0 < 33 then (if t102 = (rd [1, 2, 3, 6, 10, 16, 27, 45, 73, 120, 194, 310, 488, 747, 1101, 1546, 2047, 2549, 2994, 3348, 3607, 3785, 3901, 3975, 4022, 4050, 4068, 4079, 4085, 4089, 4092, 4093, 4094] a0) then ((squash_Squash.f (wrap32 ((wrap32 (wrap64 (128 * (wrap64 (a0 - 16))))) + a1))).bind fun t103 => (if t103 ≥ (rd [1, 2, 3, 6, 10, 16, 27, 45, 73, 120, 194, 310, 488, 747, 1101, 1546, 2047, 2549, 2994, 3348, 3607, 3785, 3901, 3975, 4022, 4050, 4068, 4079, 4085, 4089, 4092, 4093, 4094] a0) then (if 0 ≤ (wrap64 (a0 + 1)) then (if (wrap64 (a0 + 1)) < 33 then (if t103 ≤ (rd [1, 2, 3, 6, 10, 16, 27, 45, 73, 120, 194, 310, 488, 747, 1101, 1546, 2047, 2549, 2994, 3348, 3607, 3785, 3901, 3975, 4022, 4050, 4068, 4079, 4085, 4089, 4092, 4093, 4094] (wrap64 (a0 + 1))) then (bitloftlaw04_SquashPlaces.j1 kj2 true) else (bitloftlaw04_SquashPlaces.j1 kj2 false)) else (none)) else (none)) else (bitloftlaw04_SquashPlaces.j1 kj2 false))) else (some false)) else (none)) else (none)) = some r := H
        have A11 := Aside0.mk A110
        clear A110
        by_cases c12 : 0 ≤ a0
        · rw [if_pos c12] at H
          have c12b0 : decide (0 ≤ a0) = true := decide_eq_true c12
          clear c12
          by_cases c13 : a0 < 33
          · rw [if_pos c13] at H
            have c13b0 : decide (a0 < 33) = true := decide_eq_true c13
            clear c13
            by_cases c14 : t102 = (rd [1, 2, 3, 6, 10, 16, 27, 45, 73, 120, 194, 310, 488, 747, 1101, 1546, 2047, 2549, 2994, 3348, 3607, 3785, 3901, 3975, 4022, 4050, 4068, 4079, 4085, 4089, 4092, 4093, 4094] a0)
            · rw [if_pos c14] at H
              have c14b0 : (t102 == (rd [1, 2, 3, 6, 10, 16, 27, 45, 73, 120, 194, 310, 488, 747, 1101, 1546, 2047, 2549, 2994, 3348, 3607, 3785, 3901, 3975, 4022, 4050, 4068, 4079, 4085, 4089, 4092, 4093, 4094] a0)) = true := beq_iff_eq.mpr c14
              have c14b1 : (t102 != (rd [1, 2, 3, 6, 10, 16, 27, 45, 73, 120, 194, 310, 488, 747, 1101, 1546, 2047, 2549, 2994, 3348, 3607, 3785, 3901, 3975, 4022, 4050, 4068, 4079, 4085, 4089, 4092, 4093, 4094] a0)) = false := bne_eq_false_iff_eq.mpr c14
              clear c14
              replace H := Option.bind_eq_some_iff.mp H
              obtain ⟨t103, A150, H⟩ := H
              replace H : (if t103 ≥ (rd [1, 2, 3, 6, 10, 16, 27, 45, 73, 120, 194, 310, 488, 747, 1101, 1546, 2047, 2549, 2994, 3348, 3607, 3785, 3901, 3975, 4022, 4050, 4068, 4079, 4085, 4089, 4092, 4093, 4094] a0) then (if 0 ≤ (wrap64 (a0 + 1)) then (if (wrap64 (a0 + 1)) < 33 then (if t103 ≤ (rd [1, 2, 3, 6, 10, 16, 27, 45, 73, 120, 194, 310, 488, 747, 1101, 1546, 2047, 2549, 2994, 3348, 3607, 3785, 3901, 3975, 4022, 4050, 4068, 4079, 4085, 4089, 4092, 4093, 4094] (wrap64 (a0 + 1))) then (bitloftlaw04_SquashPlaces.j1 kj2 true) else (bitloftlaw04_SquashPlaces.j1 kj2 false)) else (none)) else (none)) else (bitloftlaw04_SquashPlaces.j1 kj2 false)) = some r := H
              have A15 := Aside0.mk A150
              clear A150
              have HC16 := Aside0.mk H
              clear H
              go_upto_region 8 with (first | (go_at_call 12; (with_reducible refine (squash_Row.calls  1 2 3 6 10 16 27 45 73 120 194 310 488 747 1101 1546 2047 2549 2994 3348 3607 3785 3901 3975 4022 4050 4068 4079 4085 4089 4092 4093 4094 _ (tab_bel hT (by repeat (first | (with_reducible first | exact HB.out | apply below_alloc | apply bN_ | apply below_drew1) | exact HB.out))) A10.out).mono ?_); rintro e w17 ⟨rfl, hb⟩; have n0_ := Aside0.mk (below_step (by repeat (first | (with_reducible first | exact HB.out | apply below_alloc | apply bN_ | apply below_drew1) | exact HB.out)) hb); clear HB; have HB := n0_; clear n0_; (try clear hb)) | ((with_reducible refine gate_dst (N := 5) rfl ?_); refine box_event ?hg (N := 5) ?hd (cs := #[.int .i32 0, .int .i32 0, .int .i32 0, .int .i32 0, .int .i32 0, .int .i32 0, .int .i32 0, .int .i32 0, .int .i32 0, .int .i32 0, .int .i32 0, .int .i32 0, .int .i32 0, .int .i32 0, .int .i32 0, .int .i32 0, .int .i32 0, .int .i32 0, .int .i32 0, .int .i32 0, .int .i32 0, .int .i32 0, .int .i32 0, .int .i32 0, .int .i32 0, .int .i32 0, .int .i32 0, .int .i32 0, .int .i32 0, .int .i32 0, .int .i32 0, .int .i32 0, .int .i32 0]) (t := 23) ?hr ?_; (case hd => rfl); (case hg => rfl); (case hr => first | (go_simp; done) | (go_simp; rfl)); intro gb101 hg w18 hbox hb; have n0_ := Aside0.mk (below_step (by repeat (first | (with_reducible first | exact HB.out | apply below_alloc | apply bN_ | apply below_drew1) | exact HB.out)) hb); have n1_ := Aside0.mk (hbox); have n2_ := Aside0.mk ((by rw [hg]; exact (below_size (by repeat (first | (with_reducible first | exact HB.out | apply below_alloc | apply bN_ | apply below_drew1) | exact HB.out))) : w.heap.size ≤ gb101)); have n3_ := Aside0.mk ((by rw [hg]; exact (below_size (by repeat (first | (with_reducible first | exact HB.out | apply below_alloc | apply bN_ | apply below_drew1) | exact HB.out))) : w.heap.size ≤ gb101)); clear HB; have HB := n0_; have BK101 := n1_; have GW101 := n2_; have GE101 := n3_; clear n0_ n1_ n2_ n3_; clear hb hbox hg) | ((with_reducible refine gate_store (t := 23) (p := 5) rfl ?_); (try (rw [drewN_self w18]; generalize hq_ : World.drewN w18 _ = w18; have n0_ := Aside0.mk (blk_at hq_ BK101.out); have n1_ := Aside0.mk (below_at hq_ HB.out); clear hq_ BK101 HB; have BK101 := n0_; have HB := n1_; clear n0_ n1_)); refine wstore_event (t := 23) (p := 5) (v := ?vo_w19) (cs := #[.int .i32 1, .int .i32 2, .int .i32 3, .int .i32 6, .int .i32 10, .int .i32 16, .int .i32 27, .int .i32 45, .int .i32 73, .int .i32 120, .int .i32 194, .int .i32 310, .int .i32 488, .int .i32 747, .int .i32 1101, .int .i32 1546, .int .i32 2047, .int .i32 2549, .int .i32 2994, .int .i32 3348, .int .i32 3607, .int .i32 3785, .int .i32 3901, .int .i32 3975, .int .i32 4022, .int .i32 4050, .int .i32 4068, .int .i32 4079, .int .i32 4085, .int .i32 4089, .int .i32 4092, .int .i32 4093, .int .i32 4094]) ?hg ?ho ?hn ?hx ?hy BK101.out (by kernel_rfl) (by rfl) (by rfl) ?_; (case ho => rfl); (case hg => rfl); (case hn => rfl); (case hx => first | rfl | (go_simp; done) | (go_simp; rfl)); (case hy => first | rfl | (go_simp; done) | (go_simp; rfl)); intro w19 hbox hg; have n0_ := Aside0.mk (hbox); have n1_ := Aside0.mk (pw_below_grown (by repeat (first | (with_reducible first | exact HB.out | apply below_alloc | apply bN_ | apply below_drew1 | refine below_set ?_ GE101.out) | exact HB.out)) _ ((below_size (by repeat (first | (with_reducible first | exact HB.out | apply below_alloc | apply bN_ | apply below_drew1 | refine below_set ?_ GE101.out) | exact HB.out)))) hg (fun k_ e_ => by injection e_ with e_; subst e_; exact GE101.out)); clear BK101; clear HB; have BK101 := n0_; have HB := n1_; clear n0_ n1_; clear hg hbox) | (go_at_call 10; (with_reducible refine (squash_Squash.calls (wrap32 (wrap64 (128 * (wrap64 (a0 - 16))))) t102 _ (tab_bel hT (by repeat (first | (with_reducible first | exact HB.out | apply below_alloc | apply bN_ | apply below_drew1) | exact HB.out))) A11.out).mono ?_); rintro e w' ⟨rfl, ⟨nd, rfl⟩⟩; (try first | exact ⟨rfl, _, World.drewN_drewN _ _ _⟩ | exact ⟨rfl, _, Eq.trans (World.drewN_drewN _ _ _) (congrArg (World.drewN _) (Nat.add_assoc _ _ _))⟩); have hcz20_0 : w19.cell? ⟨gb101, 0, none⟩ = some (.int .i32 1) := (blk_cell BK101.out 0).trans rfl; have hcz20_1 : w19.cell? ⟨gb101, 1, none⟩ = some (.int .i32 2) := (blk_cell BK101.out 1).trans rfl; have hcz20_2 : w19.cell? ⟨gb101, 2, none⟩ = some (.int .i32 3) := (blk_cell BK101.out 2).trans rfl; have hcz20_3 : w19.cell? ⟨gb101, 3, none⟩ = some (.int .i32 6) := (blk_cell BK101.out 3).trans rfl; have hcz20_4 : w19.cell? ⟨gb101, 4, none⟩ = some (.int .i32 10) := (blk_cell BK101.out 4).trans rfl; have hcz20_5 : w19.cell? ⟨gb101, 5, none⟩ = some (.int .i32 16) := (blk_cell BK101.out 5).trans rfl; have hcz20_6 : w19.cell? ⟨gb101, 6, none⟩ = some (.int .i32 27) := (blk_cell BK101.out 6).trans rfl; have hcz20_7 : w19.cell? ⟨gb101, 7, none⟩ = some (.int .i32 45) := (blk_cell BK101.out 7).trans rfl; have hcz20_8 : w19.cell? ⟨gb101, 8, none⟩ = some (.int .i32 73) := (blk_cell BK101.out 8).trans rfl; have hcz20_9 : w19.cell? ⟨gb101, 9, none⟩ = some (.int .i32 120) := (blk_cell BK101.out 9).trans rfl; have hcz20_10 : w19.cell? ⟨gb101, 10, none⟩ = some (.int .i32 194) := (blk_cell BK101.out 10).trans rfl; have hcz20_11 : w19.cell? ⟨gb101, 11, none⟩ = some (.int .i32 310) := (blk_cell BK101.out 11).trans rfl; have hcz20_12 : w19.cell? ⟨gb101, 12, none⟩ = some (.int .i32 488) := (blk_cell BK101.out 12).trans rfl; have hcz20_13 : w19.cell? ⟨gb101, 13, none⟩ = some (.int .i32 747) := (blk_cell BK101.out 13).trans rfl; have hcz20_14 : w19.cell? ⟨gb101, 14, none⟩ = some (.int .i32 1101) := (blk_cell BK101.out 14).trans rfl; have hcz20_15 : w19.cell? ⟨gb101, 15, none⟩ = some (.int .i32 1546) := (blk_cell BK101.out 15).trans rfl; have hcz20_16 : w19.cell? ⟨gb101, 16, none⟩ = some (.int .i32 2047) := (blk_cell BK101.out 16).trans rfl; have hcz20_17 : w19.cell? ⟨gb101, 17, none⟩ = some (.int .i32 2549) := (blk_cell BK101.out 17).trans rfl; have hcz20_18 : w19.cell? ⟨gb101, 18, none⟩ = some (.int .i32 2994) := (blk_cell BK101.out 18).trans rfl; have hcz20_19 : w19.cell? ⟨gb101, 19, none⟩ = some (.int .i32 3348) := (blk_cell BK101.out 19).trans rfl; have hcz20_20 : w19.cell? ⟨gb101, 20, none⟩ = some (.int .i32 3607) := (blk_cell BK101.out 20).trans rfl; have hcz20_21 : w19.cell? ⟨gb101, 21, none⟩ = some (.int .i32 3785) := (blk_cell BK101.out 21).trans rfl; have hcz20_22 : w19.cell? ⟨gb101, 22, none⟩ = some (.int .i32 3901) := (blk_cell BK101.out 22).trans rfl; have hcz20_23 : w19.cell? ⟨gb101, 23, none⟩ = some (.int .i32 3975) := (blk_cell BK101.out 23).trans rfl; have hcz20_24 : w19.cell? ⟨gb101, 24, none⟩ = some (.int .i32 4022) := (blk_cell BK101.out 24).trans rfl; have hcz20_25 : w19.cell? ⟨gb101, 25, none⟩ = some (.int .i32 4050) := (blk_cell BK101.out 25).trans rfl; have hcz20_26 : w19.cell? ⟨gb101, 26, none⟩ = some (.int .i32 4068) := (blk_cell BK101.out 26).trans rfl; have hcz20_27 : w19.cell? ⟨gb101, 27, none⟩ = some (.int .i32 4079) := (blk_cell BK101.out 27).trans rfl; have hcz20_28 : w19.cell? ⟨gb101, 28, none⟩ = some (.int .i32 4085) := (blk_cell BK101.out 28).trans rfl; have hcz20_29 : w19.cell? ⟨gb101, 29, none⟩ = some (.int .i32 4089) := (blk_cell BK101.out 29).trans rfl; have hcz20_30 : w19.cell? ⟨gb101, 30, none⟩ = some (.int .i32 4092) := (blk_cell BK101.out 30).trans rfl; have hcz20_31 : w19.cell? ⟨gb101, 31, none⟩ = some (.int .i32 4093) := (blk_cell BK101.out 31).trans rfl; have hcz20_32 : w19.cell? ⟨gb101, 32, none⟩ = some (.int .i32 4094) := (blk_cell BK101.out 32).trans rfl; have hfz20_0 := blk_frozen BK101.out 0; have hfz20_1 := blk_frozen BK101.out 1; have hfz20_2 := blk_frozen BK101.out 2; have hfz20_3 := blk_frozen BK101.out 3; have hfz20_4 := blk_frozen BK101.out 4; have hfz20_5 := blk_frozen BK101.out 5; have hfz20_6 := blk_frozen BK101.out 6; have hfz20_7 := blk_frozen BK101.out 7; have hfz20_8 := blk_frozen BK101.out 8; have hfz20_9 := blk_frozen BK101.out 9; have hfz20_10 := blk_frozen BK101.out 10; have hfz20_11 := blk_frozen BK101.out 11; have hfz20_12 := blk_frozen BK101.out 12; have hfz20_13 := blk_frozen BK101.out 13; have hfz20_14 := blk_frozen BK101.out 14; have hfz20_15 := blk_frozen BK101.out 15; have hfz20_16 := blk_frozen BK101.out 16; have hfz20_17 := blk_frozen BK101.out 17; have hfz20_18 := blk_frozen BK101.out 18; have hfz20_19 := blk_frozen BK101.out 19; have hfz20_20 := blk_frozen BK101.out 20; have hfz20_21 := blk_frozen BK101.out 21; have hfz20_22 := blk_frozen BK101.out 22; have hfz20_23 := blk_frozen BK101.out 23; have hfz20_24 := blk_frozen BK101.out 24; have hfz20_25 := blk_frozen BK101.out 25; have hfz20_26 := blk_frozen BK101.out 26; have hfz20_27 := blk_frozen BK101.out 27; have hfz20_28 := blk_frozen BK101.out 28; have hfz20_29 := blk_frozen BK101.out 29; have hfz20_30 := blk_frozen BK101.out 30; have hfz20_31 := blk_frozen BK101.out 31; have hfz20_32 := blk_frozen BK101.out 32; have hs21 : w19.cell? ⟨gb101, (a0 : Int).toNat, none⟩ = some (.int .i32 (rd [1, 2, 3, 6, 10, 16, 27, 45, 73, 120, 194, 310, 488, 747, 1101, 1546, 2047, 2549, 2994, 3348, 3607, 3785, 3901, 3975, 4022, 4050, 4068, 4079, 4085, 4089, 4092, 4093, 4094] a0)) := (blk_cell BK101.out _).trans (arr_sel_ .i32 (n := 33) [1, 2, 3, 6, 10, 16, 27, 45, 73, 120, 194, 310, 488, 747, 1101, 1546, 2047, 2549, 2994, 3348, 3607, 3785, 3901, 3975, 4022, 4050, 4068, 4079, 4085, 4089, 4092, 4093, 4094] rfl (of_decide_eq_true (by first | (with_reducible assumption) | assumption)) (of_decide_eq_true (by first | (with_reducible assumption) | assumption))); have pa21 : 0 ≤ (a0 : Int) := of_decide_eq_true (by first | (with_reducible assumption) | assumption); have qa21 : (a0 : Int) < 33 := of_decide_eq_true (by first | (with_reducible assumption) | assumption); replace pa21 := eq_true pa21; replace qa21 := eq_true qa21) | (go_at_call 10; (with_reducible refine (squash_Squash.calls (wrap32 ((wrap32 (wrap64 (128 * (wrap64 (a0 - 16))))) + a1)) t103 _ (tab_bel hT (by repeat (first | (with_reducible first | exact HB.out | apply below_alloc | apply bN_ | apply below_drew1) | exact HB.out))) A15.out).mono ?_); rintro e w' ⟨rfl, ⟨nd, rfl⟩⟩; (try first | exact ⟨rfl, _, World.drewN_drewN _ _ _⟩ | exact ⟨rfl, _, Eq.trans (World.drewN_drewN _ _ _) (congrArg (World.drewN _) (Nat.add_assoc _ _ _))⟩)))
              repeat (go_quiet (first | (go_at_call 12; (with_reducible refine (squash_Row.calls  1 2 3 6 10 16 27 45 73 120 194 310 488 747 1101 1546 2047 2549 2994 3348 3607 3785 3901 3975 4022 4050 4068 4079 4085 4089 4092 4093 4094 _ (tab_bel hT (by repeat (first | (with_reducible first | exact HB.out | apply below_alloc | apply bN_ | apply below_drew1) | exact HB.out))) A10.out).mono ?_); rintro e w17 ⟨rfl, hb⟩; have n0_ := Aside0.mk (below_step (by repeat (first | (with_reducible first | exact HB.out | apply below_alloc | apply bN_ | apply below_drew1) | exact HB.out)) hb); clear HB; have HB := n0_; clear n0_; (try clear hb)) | ((with_reducible refine gate_dst (N := 5) rfl ?_); refine box_event ?hg (N := 5) ?hd (cs := #[.int .i32 0, .int .i32 0, .int .i32 0, .int .i32 0, .int .i32 0, .int .i32 0, .int .i32 0, .int .i32 0, .int .i32 0, .int .i32 0, .int .i32 0, .int .i32 0, .int .i32 0, .int .i32 0, .int .i32 0, .int .i32 0, .int .i32 0, .int .i32 0, .int .i32 0, .int .i32 0, .int .i32 0, .int .i32 0, .int .i32 0, .int .i32 0, .int .i32 0, .int .i32 0, .int .i32 0, .int .i32 0, .int .i32 0, .int .i32 0, .int .i32 0, .int .i32 0, .int .i32 0]) (t := 23) ?hr ?_; (case hd => rfl); (case hg => rfl); (case hr => first | (go_simp; done) | (go_simp; rfl)); intro gb101 hg w18 hbox hb; have n0_ := Aside0.mk (below_step (by repeat (first | (with_reducible first | exact HB.out | apply below_alloc | apply bN_ | apply below_drew1) | exact HB.out)) hb); have n1_ := Aside0.mk (hbox); have n2_ := Aside0.mk ((by rw [hg]; exact (below_size (by repeat (first | (with_reducible first | exact HB.out | apply below_alloc | apply bN_ | apply below_drew1) | exact HB.out))) : w.heap.size ≤ gb101)); have n3_ := Aside0.mk ((by rw [hg]; exact (below_size (by repeat (first | (with_reducible first | exact HB.out | apply below_alloc | apply bN_ | apply below_drew1) | exact HB.out))) : w.heap.size ≤ gb101)); clear HB; have HB := n0_; have BK101 := n1_; have GW101 := n2_; have GE101 := n3_; clear n0_ n1_ n2_ n3_; clear hb hbox hg) | ((with_reducible refine gate_store (t := 23) (p := 5) rfl ?_); (try (rw [drewN_self w18]; generalize hq_ : World.drewN w18 _ = w18; have n0_ := Aside0.mk (blk_at hq_ BK101.out); have n1_ := Aside0.mk (below_at hq_ HB.out); clear hq_ BK101 HB; have BK101 := n0_; have HB := n1_; clear n0_ n1_)); refine wstore_event (t := 23) (p := 5) (v := ?vo_w19) (cs := #[.int .i32 1, .int .i32 2, .int .i32 3, .int .i32 6, .int .i32 10, .int .i32 16, .int .i32 27, .int .i32 45, .int .i32 73, .int .i32 120, .int .i32 194, .int .i32 310, .int .i32 488, .int .i32 747, .int .i32 1101, .int .i32 1546, .int .i32 2047, .int .i32 2549, .int .i32 2994, .int .i32 3348, .int .i32 3607, .int .i32 3785, .int .i32 3901, .int .i32 3975, .int .i32 4022, .int .i32 4050, .int .i32 4068, .int .i32 4079, .int .i32 4085, .int .i32 4089, .int .i32 4092, .int .i32 4093, .int .i32 4094]) ?hg ?ho ?hn ?hx ?hy BK101.out (by kernel_rfl) (by rfl) (by rfl) ?_; (case ho => rfl); (case hg => rfl); (case hn => rfl); (case hx => first | rfl | (go_simp; done) | (go_simp; rfl)); (case hy => first | rfl | (go_simp; done) | (go_simp; rfl)); intro w19 hbox hg; have n0_ := Aside0.mk (hbox); have n1_ := Aside0.mk (pw_below_grown (by repeat (first | (with_reducible first | exact HB.out | apply below_alloc | apply bN_ | apply below_drew1 | refine below_set ?_ GE101.out) | exact HB.out)) _ ((below_size (by repeat (first | (with_reducible first | exact HB.out | apply below_alloc | apply bN_ | apply below_drew1 | refine below_set ?_ GE101.out) | exact HB.out)))) hg (fun k_ e_ => by injection e_ with e_; subst e_; exact GE101.out)); clear BK101; clear HB; have BK101 := n0_; have HB := n1_; clear n0_ n1_; clear hg hbox) | (go_at_call 10; (with_reducible refine (squash_Squash.calls (wrap32 (wrap64 (128 * (wrap64 (a0 - 16))))) t102 _ (tab_bel hT (by repeat (first | (with_reducible first | exact HB.out | apply below_alloc | apply bN_ | apply below_drew1) | exact HB.out))) A11.out).mono ?_); rintro e w' ⟨rfl, ⟨nd, rfl⟩⟩; (try first | exact ⟨rfl, _, World.drewN_drewN _ _ _⟩ | exact ⟨rfl, _, Eq.trans (World.drewN_drewN _ _ _) (congrArg (World.drewN _) (Nat.add_assoc _ _ _))⟩); have hcz20_0 : w19.cell? ⟨gb101, 0, none⟩ = some (.int .i32 1) := (blk_cell BK101.out 0).trans rfl; have hcz20_1 : w19.cell? ⟨gb101, 1, none⟩ = some (.int .i32 2) := (blk_cell BK101.out 1).trans rfl; have hcz20_2 : w19.cell? ⟨gb101, 2, none⟩ = some (.int .i32 3) := (blk_cell BK101.out 2).trans rfl; have hcz20_3 : w19.cell? ⟨gb101, 3, none⟩ = some (.int .i32 6) := (blk_cell BK101.out 3).trans rfl; have hcz20_4 : w19.cell? ⟨gb101, 4, none⟩ = some (.int .i32 10) := (blk_cell BK101.out 4).trans rfl; have hcz20_5 : w19.cell? ⟨gb101, 5, none⟩ = some (.int .i32 16) := (blk_cell BK101.out 5).trans rfl; have hcz20_6 : w19.cell? ⟨gb101, 6, none⟩ = some (.int .i32 27) := (blk_cell BK101.out 6).trans rfl; have hcz20_7 : w19.cell? ⟨gb101, 7, none⟩ = some (.int .i32 45) := (blk_cell BK101.out 7).trans rfl; have hcz20_8 : w19.cell? ⟨gb101, 8, none⟩ = some (.int .i32 73) := (blk_cell BK101.out 8).trans rfl; have hcz20_9 : w19.cell? ⟨gb101, 9, none⟩ = some (.int .i32 120) := (blk_cell BK101.out 9).trans rfl; have hcz20_10 : w19.cell? ⟨gb101, 10, none⟩ = some (.int .i32 194) := (blk_cell BK101.out 10).trans rfl; have hcz20_11 : w19.cell? ⟨gb101, 11, none⟩ = some (.int .i32 310) := (blk_cell BK101.out 11).trans rfl; have hcz20_12 : w19.cell? ⟨gb101, 12, none⟩ = some (.int .i32 488) := (blk_cell BK101.out 12).trans rfl; have hcz20_13 : w19.cell? ⟨gb101, 13, none⟩ = some (.int .i32 747) := (blk_cell BK101.out 13).trans rfl; have hcz20_14 : w19.cell? ⟨gb101, 14, none⟩ = some (.int .i32 1101) := (blk_cell BK101.out 14).trans rfl; have hcz20_15 : w19.cell? ⟨gb101, 15, none⟩ = some (.int .i32 1546) := (blk_cell BK101.out 15).trans rfl; have hcz20_16 : w19.cell? ⟨gb101, 16, none⟩ = some (.int .i32 2047) := (blk_cell BK101.out 16).trans rfl; have hcz20_17 : w19.cell? ⟨gb101, 17, none⟩ = some (.int .i32 2549) := (blk_cell BK101.out 17).trans rfl; have hcz20_18 : w19.cell? ⟨gb101, 18, none⟩ = some (.int .i32 2994) := (blk_cell BK101.out 18).trans rfl; have hcz20_19 : w19.cell? ⟨gb101, 19, none⟩ = some (.int .i32 3348) := (blk_cell BK101.out 19).trans rfl; have hcz20_20 : w19.cell? ⟨gb101, 20, none⟩ = some (.int .i32 3607) := (blk_cell BK101.out 20).trans rfl; have hcz20_21 : w19.cell? ⟨gb101, 21, none⟩ = some (.int .i32 3785) := (blk_cell BK101.out 21).trans rfl; have hcz20_22 : w19.cell? ⟨gb101, 22, none⟩ = some (.int .i32 3901) := (blk_cell BK101.out 22).trans rfl; have hcz20_23 : w19.cell? ⟨gb101, 23, none⟩ = some (.int .i32 3975) := (blk_cell BK101.out 23).trans rfl; have hcz20_24 : w19.cell? ⟨gb101, 24, none⟩ = some (.int .i32 4022) := (blk_cell BK101.out 24).trans rfl; have hcz20_25 : w19.cell? ⟨gb101, 25, none⟩ = some (.int .i32 4050) := (blk_cell BK101.out 25).trans rfl; have hcz20_26 : w19.cell? ⟨gb101, 26, none⟩ = some (.int .i32 4068) := (blk_cell BK101.out 26).trans rfl; have hcz20_27 : w19.cell? ⟨gb101, 27, none⟩ = some (.int .i32 4079) := (blk_cell BK101.out 27).trans rfl; have hcz20_28 : w19.cell? ⟨gb101, 28, none⟩ = some (.int .i32 4085) := (blk_cell BK101.out 28).trans rfl; have hcz20_29 : w19.cell? ⟨gb101, 29, none⟩ = some (.int .i32 4089) := (blk_cell BK101.out 29).trans rfl; have hcz20_30 : w19.cell? ⟨gb101, 30, none⟩ = some (.int .i32 4092) := (blk_cell BK101.out 30).trans rfl; have hcz20_31 : w19.cell? ⟨gb101, 31, none⟩ = some (.int .i32 4093) := (blk_cell BK101.out 31).trans rfl; have hcz20_32 : w19.cell? ⟨gb101, 32, none⟩ = some (.int .i32 4094) := (blk_cell BK101.out 32).trans rfl; have hfz20_0 := blk_frozen BK101.out 0; have hfz20_1 := blk_frozen BK101.out 1; have hfz20_2 := blk_frozen BK101.out 2; have hfz20_3 := blk_frozen BK101.out 3; have hfz20_4 := blk_frozen BK101.out 4; have hfz20_5 := blk_frozen BK101.out 5; have hfz20_6 := blk_frozen BK101.out 6; have hfz20_7 := blk_frozen BK101.out 7; have hfz20_8 := blk_frozen BK101.out 8; have hfz20_9 := blk_frozen BK101.out 9; have hfz20_10 := blk_frozen BK101.out 10; have hfz20_11 := blk_frozen BK101.out 11; have hfz20_12 := blk_frozen BK101.out 12; have hfz20_13 := blk_frozen BK101.out 13; have hfz20_14 := blk_frozen BK101.out 14; have hfz20_15 := blk_frozen BK101.out 15; have hfz20_16 := blk_frozen BK101.out 16; have hfz20_17 := blk_frozen BK101.out 17; have hfz20_18 := blk_frozen BK101.out 18; have hfz20_19 := blk_frozen BK101.out 19; have hfz20_20 := blk_frozen BK101.out 20; have hfz20_21 := blk_frozen BK101.out 21; have hfz20_22 := blk_frozen BK101.out 22; have hfz20_23 := blk_frozen BK101.out 23; have hfz20_24 := blk_frozen BK101.out 24; have hfz20_25 := blk_frozen BK101.out 25; have hfz20_26 := blk_frozen BK101.out 26; have hfz20_27 := blk_frozen BK101.out 27; have hfz20_28 := blk_frozen BK101.out 28; have hfz20_29 := blk_frozen BK101.out 29; have hfz20_30 := blk_frozen BK101.out 30; have hfz20_31 := blk_frozen BK101.out 31; have hfz20_32 := blk_frozen BK101.out 32; have hs21 : w19.cell? ⟨gb101, (a0 : Int).toNat, none⟩ = some (.int .i32 (rd [1, 2, 3, 6, 10, 16, 27, 45, 73, 120, 194, 310, 488, 747, 1101, 1546, 2047, 2549, 2994, 3348, 3607, 3785, 3901, 3975, 4022, 4050, 4068, 4079, 4085, 4089, 4092, 4093, 4094] a0)) := (blk_cell BK101.out _).trans (arr_sel_ .i32 (n := 33) [1, 2, 3, 6, 10, 16, 27, 45, 73, 120, 194, 310, 488, 747, 1101, 1546, 2047, 2549, 2994, 3348, 3607, 3785, 3901, 3975, 4022, 4050, 4068, 4079, 4085, 4089, 4092, 4093, 4094] rfl (of_decide_eq_true (by first | (with_reducible assumption) | assumption)) (of_decide_eq_true (by first | (with_reducible assumption) | assumption))); have pa21 : 0 ≤ (a0 : Int) := of_decide_eq_true (by first | (with_reducible assumption) | assumption); have qa21 : (a0 : Int) < 33 := of_decide_eq_true (by first | (with_reducible assumption) | assumption); replace pa21 := eq_true pa21; replace qa21 := eq_true qa21) | (go_at_call 10; (with_reducible refine (squash_Squash.calls (wrap32 ((wrap32 (wrap64 (128 * (wrap64 (a0 - 16))))) + a1)) t103 _ (tab_bel hT (by repeat (first | (with_reducible first | exact HB.out | apply below_alloc | apply bN_ | apply below_drew1) | exact HB.out))) A15.out).mono ?_); rintro e w' ⟨rfl, ⟨nd, rfl⟩⟩; (try first | exact ⟨rfl, _, World.drewN_drewN _ _ _⟩ | exact ⟨rfl, _, Eq.trans (World.drewN_drewN _ _ _) (congrArg (World.drewN _) (Nat.add_assoc _ _ _))⟩))); go_upto_region 8 with (first | (go_at_call 12; (with_reducible refine (squash_Row.calls  1 2 3 6 10 16 27 45 73 120 194 310 488 747 1101 1546 2047 2549 2994 3348 3607 3785 3901 3975 4022 4050 4068 4079 4085 4089 4092 4093 4094 _ (tab_bel hT (by repeat (first | (with_reducible first | exact HB.out | apply below_alloc | apply bN_ | apply below_drew1) | exact HB.out))) A10.out).mono ?_); rintro e w17 ⟨rfl, hb⟩; have n0_ := Aside0.mk (below_step (by repeat (first | (with_reducible first | exact HB.out | apply below_alloc | apply bN_ | apply below_drew1) | exact HB.out)) hb); clear HB; have HB := n0_; clear n0_; (try clear hb)) | ((with_reducible refine gate_dst (N := 5) rfl ?_); refine box_event ?hg (N := 5) ?hd (cs := #[.int .i32 0, .int .i32 0, .int .i32 0, .int .i32 0, .int .i32 0, .int .i32 0, .int .i32 0, .int .i32 0, .int .i32 0, .int .i32 0, .int .i32 0, .int .i32 0, .int .i32 0, .int .i32 0, .int .i32 0, .int .i32 0, .int .i32 0, .int .i32 0, .int .i32 0, .int .i32 0, .int .i32 0, .int .i32 0, .int .i32 0, .int .i32 0, .int .i32 0, .int .i32 0, .int .i32 0, .int .i32 0, .int .i32 0, .int .i32 0, .int .i32 0, .int .i32 0, .int .i32 0]) (t := 23) ?hr ?_; (case hd => rfl); (case hg => rfl); (case hr => first | (go_simp; done) | (go_simp; rfl)); intro gb101 hg w18 hbox hb; have n0_ := Aside0.mk (below_step (by repeat (first | (with_reducible first | exact HB.out | apply below_alloc | apply bN_ | apply below_drew1) | exact HB.out)) hb); have n1_ := Aside0.mk (hbox); have n2_ := Aside0.mk ((by rw [hg]; exact (below_size (by repeat (first | (with_reducible first | exact HB.out | apply below_alloc | apply bN_ | apply below_drew1) | exact HB.out))) : w.heap.size ≤ gb101)); have n3_ := Aside0.mk ((by rw [hg]; exact (below_size (by repeat (first | (with_reducible first | exact HB.out | apply below_alloc | apply bN_ | apply below_drew1) | exact HB.out))) : w.heap.size ≤ gb101)); clear HB; have HB := n0_; have BK101 := n1_; have GW101 := n2_; have GE101 := n3_; clear n0_ n1_ n2_ n3_; clear hb hbox hg) | ((with_reducible refine gate_store (t := 23) (p := 5) rfl ?_); (try (rw [drewN_self w18]; generalize hq_ : World.drewN w18 _ = w18; have n0_ := Aside0.mk (blk_at hq_ BK101.out); have n1_ := Aside0.mk (below_at hq_ HB.out); clear hq_ BK101 HB; have BK101 := n0_; have HB := n1_; clear n0_ n1_)); refine wstore_event (t := 23) (p := 5) (v := ?vo_w19) (cs := #[.int .i32 1, .int .i32 2, .int .i32 3, .int .i32 6, .int .i32 10, .int .i32 16, .int .i32 27, .int .i32 45, .int .i32 73, .int .i32 120, .int .i32 194, .int .i32 310, .int .i32 488, .int .i32 747, .int .i32 1101, .int .i32 1546, .int .i32 2047, .int .i32 2549, .int .i32 2994, .int .i32 3348, .int .i32 3607, .int .i32 3785, .int .i32 3901, .int .i32 3975, .int .i32 4022, .int .i32 4050, .int .i32 4068, .int .i32 4079, .int .i32 4085, .int .i32 4089, .int .i32 4092, .int .i32 4093, .int .i32 4094]) ?hg ?ho ?hn ?hx ?hy BK101.out (by kernel_rfl) (by rfl) (by rfl) ?_; (case ho => rfl); (case hg => rfl); (case hn => rfl); (case hx => first | rfl | (go_simp; done) | (go_simp; rfl)); (case hy => first | rfl | (go_simp; done) | (go_simp; rfl)); intro w19 hbox hg; have n0_ := Aside0.mk (hbox); have n1_ := Aside0.mk (pw_below_grown (by repeat (first | (with_reducible first | exact HB.out | apply below_alloc | apply bN_ | apply below_drew1 | refine below_set ?_ GE101.out) | exact HB.out)) _ ((below_size (by repeat (first | (with_reducible first | exact HB.out | apply below_alloc | apply bN_ | apply below_drew1 | refine below_set ?_ GE101.out) | exact HB.out)))) hg (fun k_ e_ => by injection e_ with e_; subst e_; exact GE101.out)); clear BK101; clear HB; have BK101 := n0_; have HB := n1_; clear n0_ n1_; clear hg hbox) | (go_at_call 10; (with_reducible refine (squash_Squash.calls (wrap32 (wrap64 (128 * (wrap64 (a0 - 16))))) t102 _ (tab_bel hT (by repeat (first | (with_reducible first | exact HB.out | apply below_alloc | apply bN_ | apply below_drew1) | exact HB.out))) A11.out).mono ?_); rintro e w' ⟨rfl, ⟨nd, rfl⟩⟩; (try first | exact ⟨rfl, _, World.drewN_drewN _ _ _⟩ | exact ⟨rfl, _, Eq.trans (World.drewN_drewN _ _ _) (congrArg (World.drewN _) (Nat.add_assoc _ _ _))⟩); have hcz20_0 : w19.cell? ⟨gb101, 0, none⟩ = some (.int .i32 1) := (blk_cell BK101.out 0).trans rfl; have hcz20_1 : w19.cell? ⟨gb101, 1, none⟩ = some (.int .i32 2) := (blk_cell BK101.out 1).trans rfl; have hcz20_2 : w19.cell? ⟨gb101, 2, none⟩ = some (.int .i32 3) := (blk_cell BK101.out 2).trans rfl; have hcz20_3 : w19.cell? ⟨gb101, 3, none⟩ = some (.int .i32 6) := (blk_cell BK101.out 3).trans rfl; have hcz20_4 : w19.cell? ⟨gb101, 4, none⟩ = some (.int .i32 10) := (blk_cell BK101.out 4).trans rfl; have hcz20_5 : w19.cell? ⟨gb101, 5, none⟩ = some (.int .i32 16) := (blk_cell BK101.out 5).trans rfl; have hcz20_6 : w19.cell? ⟨gb101, 6, none⟩ = some (.int .i32 27) := (blk_cell BK101.out 6).trans rfl; have hcz20_7 : w19.cell? ⟨gb101, 7, none⟩ = some (.int .i32 45) := (blk_cell BK101.out 7).trans rfl; have hcz20_8 : w19.cell? ⟨gb101, 8, none⟩ = some (.int .i32 73) := (blk_cell BK101.out 8).trans rfl; have hcz20_9 : w19.cell? ⟨gb101, 9, none⟩ = some (.int .i32 120) := (blk_cell BK101.out 9).trans rfl; have hcz20_10 : w19.cell? ⟨gb101, 10, none⟩ = some (.int .i32 194) := (blk_cell BK101.out 10).trans rfl; have hcz20_11 : w19.cell? ⟨gb101, 11, none⟩ = some (.int .i32 310) := (blk_cell BK101.out 11).trans rfl; have hcz20_12 : w19.cell? ⟨gb101, 12, none⟩ = some (.int .i32 488) := (blk_cell BK101.out 12).trans rfl; have hcz20_13 : w19.cell? ⟨gb101, 13, none⟩ = some (.int .i32 747) := (blk_cell BK101.out 13).trans rfl; have hcz20_14 : w19.cell? ⟨gb101, 14, none⟩ = some (.int .i32 1101) := (blk_cell BK101.out 14).trans rfl; have hcz20_15 : w19.cell? ⟨gb101, 15, none⟩ = some (.int .i32 1546) := (blk_cell BK101.out 15).trans rfl; have hcz20_16 : w19.cell? ⟨gb101, 16, none⟩ = some (.int .i32 2047) := (blk_cell BK101.out 16).trans rfl; have hcz20_17 : w19.cell? ⟨gb101, 17, none⟩ = some (.int .i32 2549) := (blk_cell BK101.out 17).trans rfl; have hcz20_18 : w19.cell? ⟨gb101, 18, none⟩ = some (.int .i32 2994) := (blk_cell BK101.out 18).trans rfl; have hcz20_19 : w19.cell? ⟨gb101, 19, none⟩ = some (.int .i32 3348) := (blk_cell BK101.out 19).trans rfl; have hcz20_20 : w19.cell? ⟨gb101, 20, none⟩ = some (.int .i32 3607) := (blk_cell BK101.out 20).trans rfl; have hcz20_21 : w19.cell? ⟨gb101, 21, none⟩ = some (.int .i32 3785) := (blk_cell BK101.out 21).trans rfl; have hcz20_22 : w19.cell? ⟨gb101, 22, none⟩ = some (.int .i32 3901) := (blk_cell BK101.out 22).trans rfl; have hcz20_23 : w19.cell? ⟨gb101, 23, none⟩ = some (.int .i32 3975) := (blk_cell BK101.out 23).trans rfl; have hcz20_24 : w19.cell? ⟨gb101, 24, none⟩ = some (.int .i32 4022) := (blk_cell BK101.out 24).trans rfl; have hcz20_25 : w19.cell? ⟨gb101, 25, none⟩ = some (.int .i32 4050) := (blk_cell BK101.out 25).trans rfl; have hcz20_26 : w19.cell? ⟨gb101, 26, none⟩ = some (.int .i32 4068) := (blk_cell BK101.out 26).trans rfl; have hcz20_27 : w19.cell? ⟨gb101, 27, none⟩ = some (.int .i32 4079) := (blk_cell BK101.out 27).trans rfl; have hcz20_28 : w19.cell? ⟨gb101, 28, none⟩ = some (.int .i32 4085) := (blk_cell BK101.out 28).trans rfl; have hcz20_29 : w19.cell? ⟨gb101, 29, none⟩ = some (.int .i32 4089) := (blk_cell BK101.out 29).trans rfl; have hcz20_30 : w19.cell? ⟨gb101, 30, none⟩ = some (.int .i32 4092) := (blk_cell BK101.out 30).trans rfl; have hcz20_31 : w19.cell? ⟨gb101, 31, none⟩ = some (.int .i32 4093) := (blk_cell BK101.out 31).trans rfl; have hcz20_32 : w19.cell? ⟨gb101, 32, none⟩ = some (.int .i32 4094) := (blk_cell BK101.out 32).trans rfl; have hfz20_0 := blk_frozen BK101.out 0; have hfz20_1 := blk_frozen BK101.out 1; have hfz20_2 := blk_frozen BK101.out 2; have hfz20_3 := blk_frozen BK101.out 3; have hfz20_4 := blk_frozen BK101.out 4; have hfz20_5 := blk_frozen BK101.out 5; have hfz20_6 := blk_frozen BK101.out 6; have hfz20_7 := blk_frozen BK101.out 7; have hfz20_8 := blk_frozen BK101.out 8; have hfz20_9 := blk_frozen BK101.out 9; have hfz20_10 := blk_frozen BK101.out 10; have hfz20_11 := blk_frozen BK101.out 11; have hfz20_12 := blk_frozen BK101.out 12; have hfz20_13 := blk_frozen BK101.out 13; have hfz20_14 := blk_frozen BK101.out 14; have hfz20_15 := blk_frozen BK101.out 15; have hfz20_16 := blk_frozen BK101.out 16; have hfz20_17 := blk_frozen BK101.out 17; have hfz20_18 := blk_frozen BK101.out 18; have hfz20_19 := blk_frozen BK101.out 19; have hfz20_20 := blk_frozen BK101.out 20; have hfz20_21 := blk_frozen BK101.out 21; have hfz20_22 := blk_frozen BK101.out 22; have hfz20_23 := blk_frozen BK101.out 23; have hfz20_24 := blk_frozen BK101.out 24; have hfz20_25 := blk_frozen BK101.out 25; have hfz20_26 := blk_frozen BK101.out 26; have hfz20_27 := blk_frozen BK101.out 27; have hfz20_28 := blk_frozen BK101.out 28; have hfz20_29 := blk_frozen BK101.out 29; have hfz20_30 := blk_frozen BK101.out 30; have hfz20_31 := blk_frozen BK101.out 31; have hfz20_32 := blk_frozen BK101.out 32; have hs21 : w19.cell? ⟨gb101, (a0 : Int).toNat, none⟩ = some (.int .i32 (rd [1, 2, 3, 6, 10, 16, 27, 45, 73, 120, 194, 310, 488, 747, 1101, 1546, 2047, 2549, 2994, 3348, 3607, 3785, 3901, 3975, 4022, 4050, 4068, 4079, 4085, 4089, 4092, 4093, 4094] a0)) := (blk_cell BK101.out _).trans (arr_sel_ .i32 (n := 33) [1, 2, 3, 6, 10, 16, 27, 45, 73, 120, 194, 310, 488, 747, 1101, 1546, 2047, 2549, 2994, 3348, 3607, 3785, 3901, 3975, 4022, 4050, 4068, 4079, 4085, 4089, 4092, 4093, 4094] rfl (of_decide_eq_true (by first | (with_reducible assumption) | assumption)) (of_decide_eq_true (by first | (with_reducible assumption) | assumption))); have pa21 : 0 ≤ (a0 : Int) := of_decide_eq_true (by first | (with_reducible assumption) | assumption); have qa21 : (a0 : Int) < 33 := of_decide_eq_true (by first | (with_reducible assumption) | assumption); replace pa21 := eq_true pa21; replace qa21 := eq_true qa21) | (go_at_call 10; (with_reducible refine (squash_Squash.calls (wrap32 ((wrap32 (wrap64 (128 * (wrap64 (a0 - 16))))) + a1)) t103 _ (tab_bel hT (by repeat (first | (with_reducible first | exact HB.out | apply below_alloc | apply bN_ | apply below_drew1) | exact HB.out))) A15.out).mono ?_); rintro e w' ⟨rfl, ⟨nd, rfl⟩⟩; (try first | exact ⟨rfl, _, World.drewN_drewN _ _ _⟩ | exact ⟨rfl, _, Eq.trans (World.drewN_drewN _ _ _) (congrArg (World.drewN _) (Nat.add_assoc _ _ _))⟩))))
              (try simp only [Act.put, setIfInBounds_toArray, set_cons_zero, set_cons_succ])
              go_cut [4] (fun v4 wc => ∃ (kq : Nat) (x4_15 : Bool), v4 = .bool x4_15 ∧ Aside0 (bitloftlaw04_SquashPlaces.j1 kq x4_15 = some r) ∧ Aside0 (kq ≤ kj2) ∧ Aside0 (wc.heap[gb101]? = some (.cells #[.int .i32 1, .int .i32 2, .int .i32 3, .int .i32 6, .int .i32 10, .int .i32 16, .int .i32 27, .int .i32 45, .int .i32 73, .int .i32 120, .int .i32 194, .int .i32 310, .int .i32 488, .int .i32 747, .int .i32 1101, .int .i32 1546, .int .i32 2047, .int .i32 2549, .int .i32 2994, .int .i32 3348, .int .i32 3607, .int .i32 3785, .int .i32 3901, .int .i32 3975, .int .i32 4022, .int .i32 4050, .int .i32 4068, .int .i32 4079, .int .i32 4085, .int .i32 4089, .int .i32 4092, .int .i32 4093, .int .i32 4094] 23 (0, 0))) ∧ Aside0 (Below w.heap.size w wc))
              case first =>
                have H := HC16.out
                clear HC16
                by_cases c22 : t103 ≥ (rd [1, 2, 3, 6, 10, 16, 27, 45, 73, 120, 194, 310, 488, 747, 1101, 1546, 2047, 2549, 2994, 3348, 3607, 3785, 3901, 3975, 4022, 4050, 4068, 4079, 4085, 4089, 4092, 4093, 4094] a0)
                · rw [if_pos c22] at H
                  have c22b0 : decide ((rd [1, 2, 3, 6, 10, 16, 27, 45, 73, 120, 194, 310, 488, 747, 1101, 1546, 2047, 2549, 2994, 3348, 3607, 3785, 3901, 3975, 4022, 4050, 4068, 4079, 4085, 4089, 4092, 4093, 4094] a0) ≤ t103) = true := decide_eq_true c22
                  clear c22
                  (first | rw [c22b0] | (simp only [i64_w, i32_w]; rw [c22b0]) | skip)
                  obtain ⟨ji23, hji23⟩ : ∃ j_ : Int, (wrap64 (a0 + 1)) = j_ := ⟨_, rfl⟩
                  replace H : (if 0 ≤ (ji23) then (if (ji23) < 33 then (if t103 ≤ (rd [1, 2, 3, 6, 10, 16, 27, 45, 73, 120, 194, 310, 488, 747, 1101, 1546, 2047, 2549, 2994, 3348, 3607, 3785, 3901, 3975, 4022, 4050, 4068, 4079, 4085, 4089, 4092, 4093, 4094] (ji23)) then (bitloftlaw04_SquashPlaces.j1 kj2 true) else (bitloftlaw04_SquashPlaces.j1 kj2 false)) else (none)) else (none)) = some r := by first | (rw [hji23] at H; exact H) | (simp only [hji23] at H ⊢; exact H)
                  have hji23w : (IntKind.i64.wrap (a0 + 1)) = ji23 := (i64_w _).trans hji23
                  by_cases c24 : 0 ≤ (ji23)
                  · rw [if_pos c24] at H
                    have c24b0 : decide (0 ≤ (ji23)) = true := decide_eq_true c24
                    clear c24
                    by_cases c25 : (ji23) < 33
                    · rw [if_pos c25] at H
                      have c25b0 : decide ((ji23) < 33) = true := decide_eq_true c25
                      clear c25
                      by_cases c26 : t103 ≤ (rd [1, 2, 3, 6, 10, 16, 27, 45, 73, 120, 194, 310, 488, 747, 1101, 1546, 2047, 2549, 2994, 3348, 3607, 3785, 3901, 3975, 4022, 4050, 4068, 4079, 4085, 4089, 4092, 4093, 4094] (ji23))
                      · rw [if_pos c26] at H
                        have c26b0 : decide (t103 ≤ (rd [1, 2, 3, 6, 10, 16, 27, 45, 73, 120, 194, 310, 488, 747, 1101, 1546, 2047, 2549, 2994, 3348, 3607, 3785, 3901, 3975, 4022, 4050, 4068, 4079, 4085, 4089, 4092, 4093, 4094] (ji23))) = true := decide_eq_true c26
                        clear c26
                        have A27 := Aside0.mk (show bitloftlaw04_alive.f = some true by first | rfl | decide +kernel)
                        have H' := Aside0.mk H
                        clear H
                        have hcz28_0 : w19.cell? ⟨gb101, 0, none⟩ = some (.int .i32 1) := (blk_cell BK101.out 0).trans rfl
                        have hcz28_1 : w19.cell? ⟨gb101, 1, none⟩ = some (.int .i32 2) := (blk_cell BK101.out 1).trans rfl
                        have hcz28_2 : w19.cell? ⟨gb101, 2, none⟩ = some (.int .i32 3) := (blk_cell BK101.out 2).trans rfl
                        have hcz28_3 : w19.cell? ⟨gb101, 3, none⟩ = some (.int .i32 6) := (blk_cell BK101.out 3).trans rfl
                        have hcz28_4 : w19.cell? ⟨gb101, 4, none⟩ = some (.int .i32 10) := (blk_cell BK101.out 4).trans rfl
                        have hcz28_5 : w19.cell? ⟨gb101, 5, none⟩ = some (.int .i32 16) := (blk_cell BK101.out 5).trans rfl
                        have hcz28_6 : w19.cell? ⟨gb101, 6, none⟩ = some (.int .i32 27) := (blk_cell BK101.out 6).trans rfl
                        have hcz28_7 : w19.cell? ⟨gb101, 7, none⟩ = some (.int .i32 45) := (blk_cell BK101.out 7).trans rfl
                        have hcz28_8 : w19.cell? ⟨gb101, 8, none⟩ = some (.int .i32 73) := (blk_cell BK101.out 8).trans rfl
                        have hcz28_9 : w19.cell? ⟨gb101, 9, none⟩ = some (.int .i32 120) := (blk_cell BK101.out 9).trans rfl
                        have hcz28_10 : w19.cell? ⟨gb101, 10, none⟩ = some (.int .i32 194) := (blk_cell BK101.out 10).trans rfl
                        have hcz28_11 : w19.cell? ⟨gb101, 11, none⟩ = some (.int .i32 310) := (blk_cell BK101.out 11).trans rfl
                        have hcz28_12 : w19.cell? ⟨gb101, 12, none⟩ = some (.int .i32 488) := (blk_cell BK101.out 12).trans rfl
                        have hcz28_13 : w19.cell? ⟨gb101, 13, none⟩ = some (.int .i32 747) := (blk_cell BK101.out 13).trans rfl
                        have hcz28_14 : w19.cell? ⟨gb101, 14, none⟩ = some (.int .i32 1101) := (blk_cell BK101.out 14).trans rfl
                        have hcz28_15 : w19.cell? ⟨gb101, 15, none⟩ = some (.int .i32 1546) := (blk_cell BK101.out 15).trans rfl
                        have hcz28_16 : w19.cell? ⟨gb101, 16, none⟩ = some (.int .i32 2047) := (blk_cell BK101.out 16).trans rfl
                        have hcz28_17 : w19.cell? ⟨gb101, 17, none⟩ = some (.int .i32 2549) := (blk_cell BK101.out 17).trans rfl
                        have hcz28_18 : w19.cell? ⟨gb101, 18, none⟩ = some (.int .i32 2994) := (blk_cell BK101.out 18).trans rfl
                        have hcz28_19 : w19.cell? ⟨gb101, 19, none⟩ = some (.int .i32 3348) := (blk_cell BK101.out 19).trans rfl
                        have hcz28_20 : w19.cell? ⟨gb101, 20, none⟩ = some (.int .i32 3607) := (blk_cell BK101.out 20).trans rfl
                        have hcz28_21 : w19.cell? ⟨gb101, 21, none⟩ = some (.int .i32 3785) := (blk_cell BK101.out 21).trans rfl
                        have hcz28_22 : w19.cell? ⟨gb101, 22, none⟩ = some (.int .i32 3901) := (blk_cell BK101.out 22).trans rfl
                        have hcz28_23 : w19.cell? ⟨gb101, 23, none⟩ = some (.int .i32 3975) := (blk_cell BK101.out 23).trans rfl
                        have hcz28_24 : w19.cell? ⟨gb101, 24, none⟩ = some (.int .i32 4022) := (blk_cell BK101.out 24).trans rfl
                        have hcz28_25 : w19.cell? ⟨gb101, 25, none⟩ = some (.int .i32 4050) := (blk_cell BK101.out 25).trans rfl
                        have hcz28_26 : w19.cell? ⟨gb101, 26, none⟩ = some (.int .i32 4068) := (blk_cell BK101.out 26).trans rfl
                        have hcz28_27 : w19.cell? ⟨gb101, 27, none⟩ = some (.int .i32 4079) := (blk_cell BK101.out 27).trans rfl
                        have hcz28_28 : w19.cell? ⟨gb101, 28, none⟩ = some (.int .i32 4085) := (blk_cell BK101.out 28).trans rfl
                        have hcz28_29 : w19.cell? ⟨gb101, 29, none⟩ = some (.int .i32 4089) := (blk_cell BK101.out 29).trans rfl
                        have hcz28_30 : w19.cell? ⟨gb101, 30, none⟩ = some (.int .i32 4092) := (blk_cell BK101.out 30).trans rfl
                        have hcz28_31 : w19.cell? ⟨gb101, 31, none⟩ = some (.int .i32 4093) := (blk_cell BK101.out 31).trans rfl
                        have hcz28_32 : w19.cell? ⟨gb101, 32, none⟩ = some (.int .i32 4094) := (blk_cell BK101.out 32).trans rfl
                        have hfz28_0 := blk_frozen BK101.out 0
                        have hfz28_1 := blk_frozen BK101.out 1
                        have hfz28_2 := blk_frozen BK101.out 2
                        have hfz28_3 := blk_frozen BK101.out 3
                        have hfz28_4 := blk_frozen BK101.out 4
                        have hfz28_5 := blk_frozen BK101.out 5
                        have hfz28_6 := blk_frozen BK101.out 6
                        have hfz28_7 := blk_frozen BK101.out 7
                        have hfz28_8 := blk_frozen BK101.out 8
                        have hfz28_9 := blk_frozen BK101.out 9
                        have hfz28_10 := blk_frozen BK101.out 10
                        have hfz28_11 := blk_frozen BK101.out 11
                        have hfz28_12 := blk_frozen BK101.out 12
                        have hfz28_13 := blk_frozen BK101.out 13
                        have hfz28_14 := blk_frozen BK101.out 14
                        have hfz28_15 := blk_frozen BK101.out 15
                        have hfz28_16 := blk_frozen BK101.out 16
                        have hfz28_17 := blk_frozen BK101.out 17
                        have hfz28_18 := blk_frozen BK101.out 18
                        have hfz28_19 := blk_frozen BK101.out 19
                        have hfz28_20 := blk_frozen BK101.out 20
                        have hfz28_21 := blk_frozen BK101.out 21
                        have hfz28_22 := blk_frozen BK101.out 22
                        have hfz28_23 := blk_frozen BK101.out 23
                        have hfz28_24 := blk_frozen BK101.out 24
                        have hfz28_25 := blk_frozen BK101.out 25
                        have hfz28_26 := blk_frozen BK101.out 26
                        have hfz28_27 := blk_frozen BK101.out 27
                        have hfz28_28 := blk_frozen BK101.out 28
                        have hfz28_29 := blk_frozen BK101.out 29
                        have hfz28_30 := blk_frozen BK101.out 30
                        have hfz28_31 := blk_frozen BK101.out 31
                        have hfz28_32 := blk_frozen BK101.out 32
                        have hs29 : w19.cell? ⟨gb101, (a0 : Int).toNat, none⟩ = some (.int .i32 (rd [1, 2, 3, 6, 10, 16, 27, 45, 73, 120, 194, 310, 488, 747, 1101, 1546, 2047, 2549, 2994, 3348, 3607, 3785, 3901, 3975, 4022, 4050, 4068, 4079, 4085, 4089, 4092, 4093, 4094] a0)) := (blk_cell BK101.out _).trans (arr_sel_ .i32 (n := 33) [1, 2, 3, 6, 10, 16, 27, 45, 73, 120, 194, 310, 488, 747, 1101, 1546, 2047, 2549, 2994, 3348, 3607, 3785, 3901, 3975, 4022, 4050, 4068, 4079, 4085, 4089, 4092, 4093, 4094] rfl (of_decide_eq_true (by first | (with_reducible assumption) | assumption)) (of_decide_eq_true (by first | (with_reducible assumption) | assumption)))
                        have pa29 : 0 ≤ (a0 : Int) := of_decide_eq_true (by first | (with_reducible assumption) | assumption)
                        have qa29 : (a0 : Int) < 33 := of_decide_eq_true (by first | (with_reducible assumption) | assumption)
                        replace pa29 := eq_true pa29
                        replace qa29 := eq_true qa29
                        have hs30 : w19.cell? ⟨gb101, ((ji23) : Int).toNat, none⟩ = some (.int .i32 (rd [1, 2, 3, 6, 10, 16, 27, 45, 73, 120, 194, 310, 488, 747, 1101, 1546, 2047, 2549, 2994, 3348, 3607, 3785, 3901, 3975, 4022, 4050, 4068, 4079, 4085, 4089, 4092, 4093, 4094] (ji23))) := (blk_cell BK101.out _).trans (arr_sel_ .i32 (n := 33) [1, 2, 3, 6, 10, 16, 27, 45, 73, 120, 194, 310, 488, 747, 1101, 1546, 2047, 2549, 2994, 3348, 3607, 3785, 3901, 3975, 4022, 4050, 4068, 4079, 4085, 4089, 4092, 4093, 4094] rfl (of_decide_eq_true (by first | (with_reducible assumption) | assumption)) (of_decide_eq_true (by first | (with_reducible assumption) | assumption)))
                        have pa30 : 0 ≤ ((ji23) : Int) := of_decide_eq_true (by first | (with_reducible assumption) | assumption)
                        have qa30 : ((ji23) : Int) < 33 := of_decide_eq_true (by first | (with_reducible assumption) | assumption)
                        replace pa30 := eq_true pa30
                        replace qa30 := eq_true qa30
                        go_wp2_with (first | (go_at_call 16; (with_reducible refine (bitloftlaw04_alive.calls  true _ (tab_bel hT (by repeat (first | (with_reducible first | exact HB.out | apply below_alloc | apply bN_ | apply below_drew1) | exact HB.out))) A27.out).mono ?_); rintro e w31 ⟨rfl, hb⟩; have n0_ := Aside0.mk (blk_below (g := gb101) (o := .cells #[.int .i32 1, .int .i32 2, .int .i32 3, .int .i32 6, .int .i32 10, .int .i32 16, .int .i32 27, .int .i32 45, .int .i32 73, .int .i32 120, .int .i32 194, .int .i32 310, .int .i32 488, .int .i32 747, .int .i32 1101, .int .i32 1546, .int .i32 2047, .int .i32 2549, .int .i32 2994, .int .i32 3348, .int .i32 3607, .int .i32 3785, .int .i32 3901, .int .i32 3975, .int .i32 4022, .int .i32 4050, .int .i32 4068, .int .i32 4079, .int .i32 4085, .int .i32 4089, .int .i32 4092, .int .i32 4093, .int .i32 4094] 23 (0, 0)) (by (with_reducible repeat (first | refine blk_drewN ?_ _ | refine blk_drew ?_ | refine blk_alloc ?_ _)); exact BK101.out) hb); have n1_ := Aside0.mk (below_step (by repeat (first | (with_reducible first | exact HB.out | apply below_alloc | apply bN_ | apply below_drew1 | refine below_set ?_ GE101.out) | exact HB.out)) hb); clear BK101; clear HB; have BK101 := n0_; have HB := n1_; clear n0_ n1_; (try clear hb)))
                        repeat (go_quiet (first | (go_at_call 16; (with_reducible refine (bitloftlaw04_alive.calls  true _ (tab_bel hT (by repeat (first | (with_reducible first | exact HB.out | apply below_alloc | apply bN_ | apply below_drew1) | exact HB.out))) A27.out).mono ?_); rintro e w31 ⟨rfl, hb⟩; have n0_ := Aside0.mk (blk_below (g := gb101) (o := .cells #[.int .i32 1, .int .i32 2, .int .i32 3, .int .i32 6, .int .i32 10, .int .i32 16, .int .i32 27, .int .i32 45, .int .i32 73, .int .i32 120, .int .i32 194, .int .i32 310, .int .i32 488, .int .i32 747, .int .i32 1101, .int .i32 1546, .int .i32 2047, .int .i32 2549, .int .i32 2994, .int .i32 3348, .int .i32 3607, .int .i32 3785, .int .i32 3901, .int .i32 3975, .int .i32 4022, .int .i32 4050, .int .i32 4068, .int .i32 4079, .int .i32 4085, .int .i32 4089, .int .i32 4092, .int .i32 4093, .int .i32 4094] 23 (0, 0)) (by (with_reducible repeat (first | refine blk_drewN ?_ _ | refine blk_drew ?_ | refine blk_alloc ?_ _)); exact BK101.out) hb); have n1_ := Aside0.mk (below_step (by repeat (first | (with_reducible first | exact HB.out | apply below_alloc | apply bN_ | apply below_drew1 | refine below_set ?_ GE101.out) | exact HB.out)) hb); clear BK101; clear HB; have BK101 := n0_; have HB := n1_; clear n0_ n1_; (try clear hb))); try go_wp2_with (first | (go_at_call 16; (with_reducible refine (bitloftlaw04_alive.calls  true _ (tab_bel hT (by repeat (first | (with_reducible first | exact HB.out | apply below_alloc | apply bN_ | apply below_drew1) | exact HB.out))) A27.out).mono ?_); rintro e w31 ⟨rfl, hb⟩; have n0_ := Aside0.mk (blk_below (g := gb101) (o := .cells #[.int .i32 1, .int .i32 2, .int .i32 3, .int .i32 6, .int .i32 10, .int .i32 16, .int .i32 27, .int .i32 45, .int .i32 73, .int .i32 120, .int .i32 194, .int .i32 310, .int .i32 488, .int .i32 747, .int .i32 1101, .int .i32 1546, .int .i32 2047, .int .i32 2549, .int .i32 2994, .int .i32 3348, .int .i32 3607, .int .i32 3785, .int .i32 3901, .int .i32 3975, .int .i32 4022, .int .i32 4050, .int .i32 4068, .int .i32 4079, .int .i32 4085, .int .i32 4089, .int .i32 4092, .int .i32 4093, .int .i32 4094] 23 (0, 0)) (by (with_reducible repeat (first | refine blk_drewN ?_ _ | refine blk_drew ?_ | refine blk_alloc ?_ _)); exact BK101.out) hb); have n1_ := Aside0.mk (below_step (by repeat (first | (with_reducible first | exact HB.out | apply below_alloc | apply bN_ | apply below_drew1 | refine below_set ?_ GE101.out) | exact HB.out)) hb); clear BK101; clear HB; have BK101 := n0_; have HB := n1_; clear n0_ n1_; (try clear hb))))
                        go_meet
                        case rel => exact ⟨_, (true), (by first | rfl | (simp; done) | (simp [*]; done)), H', ⟨by have := HJ2.out; first | omega | exact Nat.le_refl _⟩, ⟨by (with_reducible repeat (first | refine blk_drewN ?_ _ | refine blk_drew ?_ | refine blk_alloc ?_ _)); exact BK101.out⟩, ⟨by repeat (first | (with_reducible first | exact HB.out | apply below_alloc | apply bN_ | apply below_drew1 | refine below_set ?_ GE101.out) | exact HB.out)⟩⟩
                      · rw [if_neg c26] at H
                        have c26b0 : decide (t103 ≤ (rd [1, 2, 3, 6, 10, 16, 27, 45, 73, 120, 194, 310, 488, 747, 1101, 1546, 2047, 2549, 2994, 3348, 3607, 3785, 3901, 3975, 4022, 4050, 4068, 4079, 4085, 4089, 4092, 4093, 4094] (ji23))) = false := decide_eq_false c26
                        clear c26
                        have H' := Aside0.mk H
                        clear H
                        have hcz32_0 : w19.cell? ⟨gb101, 0, none⟩ = some (.int .i32 1) := (blk_cell BK101.out 0).trans rfl
                        have hcz32_1 : w19.cell? ⟨gb101, 1, none⟩ = some (.int .i32 2) := (blk_cell BK101.out 1).trans rfl
                        have hcz32_2 : w19.cell? ⟨gb101, 2, none⟩ = some (.int .i32 3) := (blk_cell BK101.out 2).trans rfl
                        have hcz32_3 : w19.cell? ⟨gb101, 3, none⟩ = some (.int .i32 6) := (blk_cell BK101.out 3).trans rfl
                        have hcz32_4 : w19.cell? ⟨gb101, 4, none⟩ = some (.int .i32 10) := (blk_cell BK101.out 4).trans rfl
                        have hcz32_5 : w19.cell? ⟨gb101, 5, none⟩ = some (.int .i32 16) := (blk_cell BK101.out 5).trans rfl
                        have hcz32_6 : w19.cell? ⟨gb101, 6, none⟩ = some (.int .i32 27) := (blk_cell BK101.out 6).trans rfl
                        have hcz32_7 : w19.cell? ⟨gb101, 7, none⟩ = some (.int .i32 45) := (blk_cell BK101.out 7).trans rfl
                        have hcz32_8 : w19.cell? ⟨gb101, 8, none⟩ = some (.int .i32 73) := (blk_cell BK101.out 8).trans rfl
                        have hcz32_9 : w19.cell? ⟨gb101, 9, none⟩ = some (.int .i32 120) := (blk_cell BK101.out 9).trans rfl
                        have hcz32_10 : w19.cell? ⟨gb101, 10, none⟩ = some (.int .i32 194) := (blk_cell BK101.out 10).trans rfl
                        have hcz32_11 : w19.cell? ⟨gb101, 11, none⟩ = some (.int .i32 310) := (blk_cell BK101.out 11).trans rfl
                        have hcz32_12 : w19.cell? ⟨gb101, 12, none⟩ = some (.int .i32 488) := (blk_cell BK101.out 12).trans rfl
                        have hcz32_13 : w19.cell? ⟨gb101, 13, none⟩ = some (.int .i32 747) := (blk_cell BK101.out 13).trans rfl
                        have hcz32_14 : w19.cell? ⟨gb101, 14, none⟩ = some (.int .i32 1101) := (blk_cell BK101.out 14).trans rfl
                        have hcz32_15 : w19.cell? ⟨gb101, 15, none⟩ = some (.int .i32 1546) := (blk_cell BK101.out 15).trans rfl
                        have hcz32_16 : w19.cell? ⟨gb101, 16, none⟩ = some (.int .i32 2047) := (blk_cell BK101.out 16).trans rfl
                        have hcz32_17 : w19.cell? ⟨gb101, 17, none⟩ = some (.int .i32 2549) := (blk_cell BK101.out 17).trans rfl
                        have hcz32_18 : w19.cell? ⟨gb101, 18, none⟩ = some (.int .i32 2994) := (blk_cell BK101.out 18).trans rfl
                        have hcz32_19 : w19.cell? ⟨gb101, 19, none⟩ = some (.int .i32 3348) := (blk_cell BK101.out 19).trans rfl
                        have hcz32_20 : w19.cell? ⟨gb101, 20, none⟩ = some (.int .i32 3607) := (blk_cell BK101.out 20).trans rfl
                        have hcz32_21 : w19.cell? ⟨gb101, 21, none⟩ = some (.int .i32 3785) := (blk_cell BK101.out 21).trans rfl
                        have hcz32_22 : w19.cell? ⟨gb101, 22, none⟩ = some (.int .i32 3901) := (blk_cell BK101.out 22).trans rfl
                        have hcz32_23 : w19.cell? ⟨gb101, 23, none⟩ = some (.int .i32 3975) := (blk_cell BK101.out 23).trans rfl
                        have hcz32_24 : w19.cell? ⟨gb101, 24, none⟩ = some (.int .i32 4022) := (blk_cell BK101.out 24).trans rfl
                        have hcz32_25 : w19.cell? ⟨gb101, 25, none⟩ = some (.int .i32 4050) := (blk_cell BK101.out 25).trans rfl
                        have hcz32_26 : w19.cell? ⟨gb101, 26, none⟩ = some (.int .i32 4068) := (blk_cell BK101.out 26).trans rfl
                        have hcz32_27 : w19.cell? ⟨gb101, 27, none⟩ = some (.int .i32 4079) := (blk_cell BK101.out 27).trans rfl
                        have hcz32_28 : w19.cell? ⟨gb101, 28, none⟩ = some (.int .i32 4085) := (blk_cell BK101.out 28).trans rfl
                        have hcz32_29 : w19.cell? ⟨gb101, 29, none⟩ = some (.int .i32 4089) := (blk_cell BK101.out 29).trans rfl
                        have hcz32_30 : w19.cell? ⟨gb101, 30, none⟩ = some (.int .i32 4092) := (blk_cell BK101.out 30).trans rfl
                        have hcz32_31 : w19.cell? ⟨gb101, 31, none⟩ = some (.int .i32 4093) := (blk_cell BK101.out 31).trans rfl
                        have hcz32_32 : w19.cell? ⟨gb101, 32, none⟩ = some (.int .i32 4094) := (blk_cell BK101.out 32).trans rfl
                        have hfz32_0 := blk_frozen BK101.out 0
                        have hfz32_1 := blk_frozen BK101.out 1
                        have hfz32_2 := blk_frozen BK101.out 2
                        have hfz32_3 := blk_frozen BK101.out 3
                        have hfz32_4 := blk_frozen BK101.out 4
                        have hfz32_5 := blk_frozen BK101.out 5
                        have hfz32_6 := blk_frozen BK101.out 6
                        have hfz32_7 := blk_frozen BK101.out 7
                        have hfz32_8 := blk_frozen BK101.out 8
                        have hfz32_9 := blk_frozen BK101.out 9
                        have hfz32_10 := blk_frozen BK101.out 10
                        have hfz32_11 := blk_frozen BK101.out 11
                        have hfz32_12 := blk_frozen BK101.out 12
                        have hfz32_13 := blk_frozen BK101.out 13
                        have hfz32_14 := blk_frozen BK101.out 14
                        have hfz32_15 := blk_frozen BK101.out 15
                        have hfz32_16 := blk_frozen BK101.out 16
                        have hfz32_17 := blk_frozen BK101.out 17
                        have hfz32_18 := blk_frozen BK101.out 18
                        have hfz32_19 := blk_frozen BK101.out 19
                        have hfz32_20 := blk_frozen BK101.out 20
                        have hfz32_21 := blk_frozen BK101.out 21
                        have hfz32_22 := blk_frozen BK101.out 22
                        have hfz32_23 := blk_frozen BK101.out 23
                        have hfz32_24 := blk_frozen BK101.out 24
                        have hfz32_25 := blk_frozen BK101.out 25
                        have hfz32_26 := blk_frozen BK101.out 26
                        have hfz32_27 := blk_frozen BK101.out 27
                        have hfz32_28 := blk_frozen BK101.out 28
                        have hfz32_29 := blk_frozen BK101.out 29
                        have hfz32_30 := blk_frozen BK101.out 30
                        have hfz32_31 := blk_frozen BK101.out 31
                        have hfz32_32 := blk_frozen BK101.out 32
                        have hs33 : w19.cell? ⟨gb101, (a0 : Int).toNat, none⟩ = some (.int .i32 (rd [1, 2, 3, 6, 10, 16, 27, 45, 73, 120, 194, 310, 488, 747, 1101, 1546, 2047, 2549, 2994, 3348, 3607, 3785, 3901, 3975, 4022, 4050, 4068, 4079, 4085, 4089, 4092, 4093, 4094] a0)) := (blk_cell BK101.out _).trans (arr_sel_ .i32 (n := 33) [1, 2, 3, 6, 10, 16, 27, 45, 73, 120, 194, 310, 488, 747, 1101, 1546, 2047, 2549, 2994, 3348, 3607, 3785, 3901, 3975, 4022, 4050, 4068, 4079, 4085, 4089, 4092, 4093, 4094] rfl (of_decide_eq_true (by first | (with_reducible assumption) | assumption)) (of_decide_eq_true (by first | (with_reducible assumption) | assumption)))
                        have pa33 : 0 ≤ (a0 : Int) := of_decide_eq_true (by first | (with_reducible assumption) | assumption)
                        have qa33 : (a0 : Int) < 33 := of_decide_eq_true (by first | (with_reducible assumption) | assumption)
                        replace pa33 := eq_true pa33
                        replace qa33 := eq_true qa33
                        have hs34 : w19.cell? ⟨gb101, ((ji23) : Int).toNat, none⟩ = some (.int .i32 (rd [1, 2, 3, 6, 10, 16, 27, 45, 73, 120, 194, 310, 488, 747, 1101, 1546, 2047, 2549, 2994, 3348, 3607, 3785, 3901, 3975, 4022, 4050, 4068, 4079, 4085, 4089, 4092, 4093, 4094] (ji23))) := (blk_cell BK101.out _).trans (arr_sel_ .i32 (n := 33) [1, 2, 3, 6, 10, 16, 27, 45, 73, 120, 194, 310, 488, 747, 1101, 1546, 2047, 2549, 2994, 3348, 3607, 3785, 3901, 3975, 4022, 4050, 4068, 4079, 4085, 4089, 4092, 4093, 4094] rfl (of_decide_eq_true (by first | (with_reducible assumption) | assumption)) (of_decide_eq_true (by first | (with_reducible assumption) | assumption)))
                        have pa34 : 0 ≤ ((ji23) : Int) := of_decide_eq_true (by first | (with_reducible assumption) | assumption)
                        have qa34 : ((ji23) : Int) < 33 := of_decide_eq_true (by first | (with_reducible assumption) | assumption)
                        replace pa34 := eq_true pa34
                        replace qa34 := eq_true qa34
                        go_wp2
                        repeat (go_quiet (fail); try go_wp2)
                        go_meet
                        case rel => exact ⟨_, (false), (by first | rfl | (simp; done) | (simp [*]; done)), H', ⟨by have := HJ2.out; first | omega | exact Nat.le_refl _⟩, ⟨by (with_reducible repeat (first | refine blk_drewN ?_ _ | refine blk_drew ?_ | refine blk_alloc ?_ _)); exact BK101.out⟩, ⟨by repeat (first | (with_reducible first | exact HB.out | apply below_alloc | apply bN_ | apply below_drew1 | refine below_set ?_ GE101.out) | exact HB.out)⟩⟩
                    · rw [if_neg c25] at H
                      exact absurd H (by simp)
                  · rw [if_neg c24] at H
                    exact absurd H (by simp)
                · rw [if_neg c22] at H
                  have c22b0 : decide ((rd [1, 2, 3, 6, 10, 16, 27, 45, 73, 120, 194, 310, 488, 747, 1101, 1546, 2047, 2549, 2994, 3348, 3607, 3785, 3901, 3975, 4022, 4050, 4068, 4079, 4085, 4089, 4092, 4093, 4094] a0) ≤ t103) = false := decide_eq_false c22
                  clear c22
                  (first | rw [c22b0] | (simp only [i64_w, i32_w]; rw [c22b0]) | skip)
                  have H' := Aside0.mk H
                  clear H
                  have hcz35_0 : w19.cell? ⟨gb101, 0, none⟩ = some (.int .i32 1) := (blk_cell BK101.out 0).trans rfl
                  have hcz35_1 : w19.cell? ⟨gb101, 1, none⟩ = some (.int .i32 2) := (blk_cell BK101.out 1).trans rfl
                  have hcz35_2 : w19.cell? ⟨gb101, 2, none⟩ = some (.int .i32 3) := (blk_cell BK101.out 2).trans rfl
                  have hcz35_3 : w19.cell? ⟨gb101, 3, none⟩ = some (.int .i32 6) := (blk_cell BK101.out 3).trans rfl
                  have hcz35_4 : w19.cell? ⟨gb101, 4, none⟩ = some (.int .i32 10) := (blk_cell BK101.out 4).trans rfl
                  have hcz35_5 : w19.cell? ⟨gb101, 5, none⟩ = some (.int .i32 16) := (blk_cell BK101.out 5).trans rfl
                  have hcz35_6 : w19.cell? ⟨gb101, 6, none⟩ = some (.int .i32 27) := (blk_cell BK101.out 6).trans rfl
                  have hcz35_7 : w19.cell? ⟨gb101, 7, none⟩ = some (.int .i32 45) := (blk_cell BK101.out 7).trans rfl
                  have hcz35_8 : w19.cell? ⟨gb101, 8, none⟩ = some (.int .i32 73) := (blk_cell BK101.out 8).trans rfl
                  have hcz35_9 : w19.cell? ⟨gb101, 9, none⟩ = some (.int .i32 120) := (blk_cell BK101.out 9).trans rfl
                  have hcz35_10 : w19.cell? ⟨gb101, 10, none⟩ = some (.int .i32 194) := (blk_cell BK101.out 10).trans rfl
                  have hcz35_11 : w19.cell? ⟨gb101, 11, none⟩ = some (.int .i32 310) := (blk_cell BK101.out 11).trans rfl
                  have hcz35_12 : w19.cell? ⟨gb101, 12, none⟩ = some (.int .i32 488) := (blk_cell BK101.out 12).trans rfl
                  have hcz35_13 : w19.cell? ⟨gb101, 13, none⟩ = some (.int .i32 747) := (blk_cell BK101.out 13).trans rfl
                  have hcz35_14 : w19.cell? ⟨gb101, 14, none⟩ = some (.int .i32 1101) := (blk_cell BK101.out 14).trans rfl
                  have hcz35_15 : w19.cell? ⟨gb101, 15, none⟩ = some (.int .i32 1546) := (blk_cell BK101.out 15).trans rfl
                  have hcz35_16 : w19.cell? ⟨gb101, 16, none⟩ = some (.int .i32 2047) := (blk_cell BK101.out 16).trans rfl
                  have hcz35_17 : w19.cell? ⟨gb101, 17, none⟩ = some (.int .i32 2549) := (blk_cell BK101.out 17).trans rfl
                  have hcz35_18 : w19.cell? ⟨gb101, 18, none⟩ = some (.int .i32 2994) := (blk_cell BK101.out 18).trans rfl
                  have hcz35_19 : w19.cell? ⟨gb101, 19, none⟩ = some (.int .i32 3348) := (blk_cell BK101.out 19).trans rfl
                  have hcz35_20 : w19.cell? ⟨gb101, 20, none⟩ = some (.int .i32 3607) := (blk_cell BK101.out 20).trans rfl
                  have hcz35_21 : w19.cell? ⟨gb101, 21, none⟩ = some (.int .i32 3785) := (blk_cell BK101.out 21).trans rfl
                  have hcz35_22 : w19.cell? ⟨gb101, 22, none⟩ = some (.int .i32 3901) := (blk_cell BK101.out 22).trans rfl
                  have hcz35_23 : w19.cell? ⟨gb101, 23, none⟩ = some (.int .i32 3975) := (blk_cell BK101.out 23).trans rfl
                  have hcz35_24 : w19.cell? ⟨gb101, 24, none⟩ = some (.int .i32 4022) := (blk_cell BK101.out 24).trans rfl
                  have hcz35_25 : w19.cell? ⟨gb101, 25, none⟩ = some (.int .i32 4050) := (blk_cell BK101.out 25).trans rfl
                  have hcz35_26 : w19.cell? ⟨gb101, 26, none⟩ = some (.int .i32 4068) := (blk_cell BK101.out 26).trans rfl
                  have hcz35_27 : w19.cell? ⟨gb101, 27, none⟩ = some (.int .i32 4079) := (blk_cell BK101.out 27).trans rfl
                  have hcz35_28 : w19.cell? ⟨gb101, 28, none⟩ = some (.int .i32 4085) := (blk_cell BK101.out 28).trans rfl
                  have hcz35_29 : w19.cell? ⟨gb101, 29, none⟩ = some (.int .i32 4089) := (blk_cell BK101.out 29).trans rfl
                  have hcz35_30 : w19.cell? ⟨gb101, 30, none⟩ = some (.int .i32 4092) := (blk_cell BK101.out 30).trans rfl
                  have hcz35_31 : w19.cell? ⟨gb101, 31, none⟩ = some (.int .i32 4093) := (blk_cell BK101.out 31).trans rfl
                  have hcz35_32 : w19.cell? ⟨gb101, 32, none⟩ = some (.int .i32 4094) := (blk_cell BK101.out 32).trans rfl
                  have hfz35_0 := blk_frozen BK101.out 0
                  have hfz35_1 := blk_frozen BK101.out 1
                  have hfz35_2 := blk_frozen BK101.out 2
                  have hfz35_3 := blk_frozen BK101.out 3
                  have hfz35_4 := blk_frozen BK101.out 4
                  have hfz35_5 := blk_frozen BK101.out 5
                  have hfz35_6 := blk_frozen BK101.out 6
                  have hfz35_7 := blk_frozen BK101.out 7
                  have hfz35_8 := blk_frozen BK101.out 8
                  have hfz35_9 := blk_frozen BK101.out 9
                  have hfz35_10 := blk_frozen BK101.out 10
                  have hfz35_11 := blk_frozen BK101.out 11
                  have hfz35_12 := blk_frozen BK101.out 12
                  have hfz35_13 := blk_frozen BK101.out 13
                  have hfz35_14 := blk_frozen BK101.out 14
                  have hfz35_15 := blk_frozen BK101.out 15
                  have hfz35_16 := blk_frozen BK101.out 16
                  have hfz35_17 := blk_frozen BK101.out 17
                  have hfz35_18 := blk_frozen BK101.out 18
                  have hfz35_19 := blk_frozen BK101.out 19
                  have hfz35_20 := blk_frozen BK101.out 20
                  have hfz35_21 := blk_frozen BK101.out 21
                  have hfz35_22 := blk_frozen BK101.out 22
                  have hfz35_23 := blk_frozen BK101.out 23
                  have hfz35_24 := blk_frozen BK101.out 24
                  have hfz35_25 := blk_frozen BK101.out 25
                  have hfz35_26 := blk_frozen BK101.out 26
                  have hfz35_27 := blk_frozen BK101.out 27
                  have hfz35_28 := blk_frozen BK101.out 28
                  have hfz35_29 := blk_frozen BK101.out 29
                  have hfz35_30 := blk_frozen BK101.out 30
                  have hfz35_31 := blk_frozen BK101.out 31
                  have hfz35_32 := blk_frozen BK101.out 32
                  have hs36 : w19.cell? ⟨gb101, (a0 : Int).toNat, none⟩ = some (.int .i32 (rd [1, 2, 3, 6, 10, 16, 27, 45, 73, 120, 194, 310, 488, 747, 1101, 1546, 2047, 2549, 2994, 3348, 3607, 3785, 3901, 3975, 4022, 4050, 4068, 4079, 4085, 4089, 4092, 4093, 4094] a0)) := (blk_cell BK101.out _).trans (arr_sel_ .i32 (n := 33) [1, 2, 3, 6, 10, 16, 27, 45, 73, 120, 194, 310, 488, 747, 1101, 1546, 2047, 2549, 2994, 3348, 3607, 3785, 3901, 3975, 4022, 4050, 4068, 4079, 4085, 4089, 4092, 4093, 4094] rfl (of_decide_eq_true (by first | (with_reducible assumption) | assumption)) (of_decide_eq_true (by first | (with_reducible assumption) | assumption)))
                  have pa36 : 0 ≤ (a0 : Int) := of_decide_eq_true (by first | (with_reducible assumption) | assumption)
                  have qa36 : (a0 : Int) < 33 := of_decide_eq_true (by first | (with_reducible assumption) | assumption)
                  replace pa36 := eq_true pa36
                  replace qa36 := eq_true qa36
                  go_wp2
                  repeat (go_quiet (fail); try go_wp2)
                  go_meet
                  case rel => exact ⟨_, (false), (by first | rfl | (simp; done) | (simp [*]; done)), H', ⟨by have := HJ2.out; first | omega | exact Nat.le_refl _⟩, ⟨by (with_reducible repeat (first | refine blk_drewN ?_ _ | refine blk_drew ?_ | refine blk_alloc ?_ _)); exact BK101.out⟩, ⟨by repeat (first | (with_reducible first | exact HB.out | apply below_alloc | apply bN_ | apply below_drew1 | refine below_set ?_ GE101.out) | exact HB.out)⟩⟩
              case rest =>
                clear HC16
                try clear c1
                try clear c2
                try clear p2
                try clear p3
                try clear c4
                try clear c4b0
                try clear c5
                try clear c5b0
                try clear c6
                try clear c6b0
                try clear p6
                try clear c7
                try clear c9
                try clear c12
                try clear c12b0
                try clear c13
                try clear c13b0
                try clear c14
                try clear c14b0
                try clear c14b1
                try clear c22
                try clear c22b0
                try clear c24
                try clear c24b0
                try clear c25
                try clear c25b0
                try clear c26
                try clear c26b0
                try clear p32
                try clear hcz20_0
                try clear hcz20_1
                try clear hcz20_10
                try clear hcz20_11
                try clear hcz20_12
                try clear hcz20_13
                try clear hcz20_14
                try clear hcz20_15
                try clear hcz20_16
                try clear hcz20_17
                try clear hcz20_18
                try clear hcz20_19
                try clear hcz20_2
                try clear hcz20_20
                try clear hcz20_21
                try clear hcz20_22
                try clear hcz20_23
                try clear hcz20_24
                try clear hcz20_25
                try clear hcz20_26
                try clear hcz20_27
                try clear hcz20_28
                try clear hcz20_29
                try clear hcz20_3
                try clear hcz20_30
                try clear hcz20_31
                try clear hcz20_32
                try clear hcz20_4
                try clear hcz20_5
                try clear hcz20_6
                try clear hcz20_7
                try clear hcz20_8
                try clear hcz20_9
                try clear hcz28_0
                try clear hcz28_1
                try clear hcz28_10
                try clear hcz28_11
                try clear hcz28_12
                try clear hcz28_13
                try clear hcz28_14
                try clear hcz28_15
                try clear hcz28_16
                try clear hcz28_17
                try clear hcz28_18
                try clear hcz28_19
                try clear hcz28_2
                try clear hcz28_20
                try clear hcz28_21
                try clear hcz28_22
                try clear hcz28_23
                try clear hcz28_24
                try clear hcz28_25
                try clear hcz28_26
                try clear hcz28_27
                try clear hcz28_28
                try clear hcz28_29
                try clear hcz28_3
                try clear hcz28_30
                try clear hcz28_31
                try clear hcz28_32
                try clear hcz28_4
                try clear hcz28_5
                try clear hcz28_6
                try clear hcz28_7
                try clear hcz28_8
                try clear hcz28_9
                try clear hcz32_0
                try clear hcz32_1
                try clear hcz32_10
                try clear hcz32_11
                try clear hcz32_12
                try clear hcz32_13
                try clear hcz32_14
                try clear hcz32_15
                try clear hcz32_16
                try clear hcz32_17
                try clear hcz32_18
                try clear hcz32_19
                try clear hcz32_2
                try clear hcz32_20
                try clear hcz32_21
                try clear hcz32_22
                try clear hcz32_23
                try clear hcz32_24
                try clear hcz32_25
                try clear hcz32_26
                try clear hcz32_27
                try clear hcz32_28
                try clear hcz32_29
                try clear hcz32_3
                try clear hcz32_30
                try clear hcz32_31
                try clear hcz32_32
                try clear hcz32_4
                try clear hcz32_5
                try clear hcz32_6
                try clear hcz32_7
                try clear hcz32_8
                try clear hcz32_9
                try clear hcz35_0
                try clear hcz35_1
                try clear hcz35_10
                try clear hcz35_11
                try clear hcz35_12
                try clear hcz35_13
                try clear hcz35_14
                try clear hcz35_15
                try clear hcz35_16
                try clear hcz35_17
                try clear hcz35_18
                try clear hcz35_19
                try clear hcz35_2
                try clear hcz35_20
                try clear hcz35_21
                try clear hcz35_22
                try clear hcz35_23
                try clear hcz35_24
                try clear hcz35_25
                try clear hcz35_26
                try clear hcz35_27
                try clear hcz35_28
                try clear hcz35_29
                try clear hcz35_3
                try clear hcz35_30
                try clear hcz35_31
                try clear hcz35_32
                try clear hcz35_4
                try clear hcz35_5
                try clear hcz35_6
                try clear hcz35_7
                try clear hcz35_8
                try clear hcz35_9
                try clear hfz20_0
                try clear hfz20_1
                try clear hfz20_10
                try clear hfz20_11
                try clear hfz20_12
                try clear hfz20_13
                try clear hfz20_14
                try clear hfz20_15
                try clear hfz20_16
                try clear hfz20_17
                try clear hfz20_18
                try clear hfz20_19
                try clear hfz20_2
                try clear hfz20_20
                try clear hfz20_21
                try clear hfz20_22
                try clear hfz20_23
                try clear hfz20_24
                try clear hfz20_25
                try clear hfz20_26
                try clear hfz20_27
                try clear hfz20_28
                try clear hfz20_29
                try clear hfz20_3
                try clear hfz20_30
                try clear hfz20_31
                try clear hfz20_32
                try clear hfz20_4
                try clear hfz20_5
                try clear hfz20_6
                try clear hfz20_7
                try clear hfz20_8
                try clear hfz20_9
                try clear hfz28_0
                try clear hfz28_1
                try clear hfz28_10
                try clear hfz28_11
                try clear hfz28_12
                try clear hfz28_13
                try clear hfz28_14
                try clear hfz28_15
                try clear hfz28_16
                try clear hfz28_17
                try clear hfz28_18
                try clear hfz28_19
                try clear hfz28_2
                try clear hfz28_20
                try clear hfz28_21
                try clear hfz28_22
                try clear hfz28_23
                try clear hfz28_24
                try clear hfz28_25
                try clear hfz28_26
                try clear hfz28_27
                try clear hfz28_28
                try clear hfz28_29
                try clear hfz28_3
                try clear hfz28_30
                try clear hfz28_31
                try clear hfz28_32
                try clear hfz28_4
                try clear hfz28_5
                try clear hfz28_6
                try clear hfz28_7
                try clear hfz28_8
                try clear hfz28_9
                try clear hfz32_0
                try clear hfz32_1
                try clear hfz32_10
                try clear hfz32_11
                try clear hfz32_12
                try clear hfz32_13
                try clear hfz32_14
                try clear hfz32_15
                try clear hfz32_16
                try clear hfz32_17
                try clear hfz32_18
                try clear hfz32_19
                try clear hfz32_2
                try clear hfz32_20
                try clear hfz32_21
                try clear hfz32_22
                try clear hfz32_23
                try clear hfz32_24
                try clear hfz32_25
                try clear hfz32_26
                try clear hfz32_27
                try clear hfz32_28
                try clear hfz32_29
                try clear hfz32_3
                try clear hfz32_30
                try clear hfz32_31
                try clear hfz32_32
                try clear hfz32_4
                try clear hfz32_5
                try clear hfz32_6
                try clear hfz32_7
                try clear hfz32_8
                try clear hfz32_9
                try clear hfz35_0
                try clear hfz35_1
                try clear hfz35_10
                try clear hfz35_11
                try clear hfz35_12
                try clear hfz35_13
                try clear hfz35_14
                try clear hfz35_15
                try clear hfz35_16
                try clear hfz35_17
                try clear hfz35_18
                try clear hfz35_19
                try clear hfz35_2
                try clear hfz35_20
                try clear hfz35_21
                try clear hfz35_22
                try clear hfz35_23
                try clear hfz35_24
                try clear hfz35_25
                try clear hfz35_26
                try clear hfz35_27
                try clear hfz35_28
                try clear hfz35_29
                try clear hfz35_3
                try clear hfz35_30
                try clear hfz35_31
                try clear hfz35_32
                try clear hfz35_4
                try clear hfz35_5
                try clear hfz35_6
                try clear hfz35_7
                try clear hfz35_8
                try clear hfz35_9
                try clear p2
                obtain ⟨kq, x4_15, rfl, HA, HJ15, BK101, HB⟩ := hcut
                cases kq with
                | zero => exact absurd HA.out (by simp [bitloftlaw04_SquashPlaces.j1])
                | succ kj15 =>
                  have H := HA.out
                  clear HA
                  simp only [bitloftlaw04_SquashPlaces.j1] at H
                  obtain rfl := Option.some.inj H
                  go_wp2
                  repeat (go_quiet (fail); try go_wp2)
                  go_ret
                  exact ⟨by first | rfl | (simp [errW_none, errW_some] <;> rfl) | (simp [*, errW_none, errW_some] <;> rfl), by repeat (first | (with_reducible first | exact HB.out | apply below_alloc | apply bN_ | apply below_drew1 | refine below_set ?_ GE101.out) | exact HB.out)⟩
            · rw [if_neg c14] at H
              have c14b0 : (t102 == (rd [1, 2, 3, 6, 10, 16, 27, 45, 73, 120, 194, 310, 488, 747, 1101, 1546, 2047, 2549, 2994, 3348, 3607, 3785, 3901, 3975, 4022, 4050, 4068, 4079, 4085, 4089, 4092, 4093, 4094] a0)) = false := beq_eq_false_iff_ne.mpr c14
              have c14b1 : (t102 != (rd [1, 2, 3, 6, 10, 16, 27, 45, 73, 120, 194, 310, 488, 747, 1101, 1546, 2047, 2549, 2994, 3348, 3607, 3785, 3901, 3975, 4022, 4050, 4068, 4079, 4085, 4089, 4092, 4093, 4094] a0)) = true := bne_iff_ne.mpr c14
              obtain rfl := Option.some.inj H
              go_wp2_with (first | (go_at_call 12; (with_reducible refine (squash_Row.calls  1 2 3 6 10 16 27 45 73 120 194 310 488 747 1101 1546 2047 2549 2994 3348 3607 3785 3901 3975 4022 4050 4068 4079 4085 4089 4092 4093 4094 _ (tab_bel hT (by repeat (first | (with_reducible first | exact HB.out | apply below_alloc | apply bN_ | apply below_drew1) | exact HB.out))) A10.out).mono ?_); rintro e w37 ⟨rfl, hb⟩; have n0_ := Aside0.mk (below_step (by repeat (first | (with_reducible first | exact HB.out | apply below_alloc | apply bN_ | apply below_drew1) | exact HB.out)) hb); clear HB; have HB := n0_; clear n0_; (try clear hb)) | ((with_reducible refine gate_dst (N := 5) rfl ?_); refine box_event ?hg (N := 5) ?hd (cs := #[.int .i32 0, .int .i32 0, .int .i32 0, .int .i32 0, .int .i32 0, .int .i32 0, .int .i32 0, .int .i32 0, .int .i32 0, .int .i32 0, .int .i32 0, .int .i32 0, .int .i32 0, .int .i32 0, .int .i32 0, .int .i32 0, .int .i32 0, .int .i32 0, .int .i32 0, .int .i32 0, .int .i32 0, .int .i32 0, .int .i32 0, .int .i32 0, .int .i32 0, .int .i32 0, .int .i32 0, .int .i32 0, .int .i32 0, .int .i32 0, .int .i32 0, .int .i32 0, .int .i32 0]) (t := 23) ?hr ?_; (case hd => rfl); (case hg => rfl); (case hr => first | (go_simp; done) | (go_simp; rfl)); intro gb101 hg w38 hbox hb; have n0_ := Aside0.mk (below_step (by repeat (first | (with_reducible first | exact HB.out | apply below_alloc | apply bN_ | apply below_drew1) | exact HB.out)) hb); have n1_ := Aside0.mk (hbox); have n2_ := Aside0.mk ((by rw [hg]; exact (below_size (by repeat (first | (with_reducible first | exact HB.out | apply below_alloc | apply bN_ | apply below_drew1) | exact HB.out))) : w.heap.size ≤ gb101)); have n3_ := Aside0.mk ((by rw [hg]; exact (below_size (by repeat (first | (with_reducible first | exact HB.out | apply below_alloc | apply bN_ | apply below_drew1) | exact HB.out))) : w.heap.size ≤ gb101)); clear HB; have HB := n0_; have BK101 := n1_; have GW101 := n2_; have GE101 := n3_; clear n0_ n1_ n2_ n3_; clear hb hbox hg) | ((with_reducible refine gate_store (t := 23) (p := 5) rfl ?_); (try (rw [drewN_self w38]; generalize hq_ : World.drewN w38 _ = w38; have n0_ := Aside0.mk (blk_at hq_ BK101.out); have n1_ := Aside0.mk (below_at hq_ HB.out); clear hq_ BK101 HB; have BK101 := n0_; have HB := n1_; clear n0_ n1_)); refine wstore_event (t := 23) (p := 5) (v := ?vo_w39) (cs := #[.int .i32 1, .int .i32 2, .int .i32 3, .int .i32 6, .int .i32 10, .int .i32 16, .int .i32 27, .int .i32 45, .int .i32 73, .int .i32 120, .int .i32 194, .int .i32 310, .int .i32 488, .int .i32 747, .int .i32 1101, .int .i32 1546, .int .i32 2047, .int .i32 2549, .int .i32 2994, .int .i32 3348, .int .i32 3607, .int .i32 3785, .int .i32 3901, .int .i32 3975, .int .i32 4022, .int .i32 4050, .int .i32 4068, .int .i32 4079, .int .i32 4085, .int .i32 4089, .int .i32 4092, .int .i32 4093, .int .i32 4094]) ?hg ?ho ?hn ?hx ?hy BK101.out (by kernel_rfl) (by rfl) (by rfl) ?_; (case ho => rfl); (case hg => rfl); (case hn => rfl); (case hx => first | rfl | (go_simp; done) | (go_simp; rfl)); (case hy => first | rfl | (go_simp; done) | (go_simp; rfl)); intro w39 hbox hg; have n0_ := Aside0.mk (hbox); have n1_ := Aside0.mk (pw_below_grown (by repeat (first | (with_reducible first | exact HB.out | apply below_alloc | apply bN_ | apply below_drew1 | refine below_set ?_ GE101.out) | exact HB.out)) _ ((below_size (by repeat (first | (with_reducible first | exact HB.out | apply below_alloc | apply bN_ | apply below_drew1 | refine below_set ?_ GE101.out) | exact HB.out)))) hg (fun k_ e_ => by injection e_ with e_; subst e_; exact GE101.out)); clear BK101; clear HB; have BK101 := n0_; have HB := n1_; clear n0_ n1_; clear hg hbox) | (go_at_call 10; (with_reducible refine (squash_Squash.calls (wrap32 (wrap64 (128 * (wrap64 (a0 - 16))))) t102 _ (tab_bel hT (by repeat (first | (with_reducible first | exact HB.out | apply below_alloc | apply bN_ | apply below_drew1) | exact HB.out))) A11.out).mono ?_); rintro e w' ⟨rfl, ⟨nd, rfl⟩⟩; (try first | exact ⟨rfl, _, World.drewN_drewN _ _ _⟩ | exact ⟨rfl, _, Eq.trans (World.drewN_drewN _ _ _) (congrArg (World.drewN _) (Nat.add_assoc _ _ _))⟩); have hcz40_0 : w39.cell? ⟨gb101, 0, none⟩ = some (.int .i32 1) := (blk_cell BK101.out 0).trans rfl; have hcz40_1 : w39.cell? ⟨gb101, 1, none⟩ = some (.int .i32 2) := (blk_cell BK101.out 1).trans rfl; have hcz40_2 : w39.cell? ⟨gb101, 2, none⟩ = some (.int .i32 3) := (blk_cell BK101.out 2).trans rfl; have hcz40_3 : w39.cell? ⟨gb101, 3, none⟩ = some (.int .i32 6) := (blk_cell BK101.out 3).trans rfl; have hcz40_4 : w39.cell? ⟨gb101, 4, none⟩ = some (.int .i32 10) := (blk_cell BK101.out 4).trans rfl; have hcz40_5 : w39.cell? ⟨gb101, 5, none⟩ = some (.int .i32 16) := (blk_cell BK101.out 5).trans rfl; have hcz40_6 : w39.cell? ⟨gb101, 6, none⟩ = some (.int .i32 27) := (blk_cell BK101.out 6).trans rfl; have hcz40_7 : w39.cell? ⟨gb101, 7, none⟩ = some (.int .i32 45) := (blk_cell BK101.out 7).trans rfl; have hcz40_8 : w39.cell? ⟨gb101, 8, none⟩ = some (.int .i32 73) := (blk_cell BK101.out 8).trans rfl; have hcz40_9 : w39.cell? ⟨gb101, 9, none⟩ = some (.int .i32 120) := (blk_cell BK101.out 9).trans rfl; have hcz40_10 : w39.cell? ⟨gb101, 10, none⟩ = some (.int .i32 194) := (blk_cell BK101.out 10).trans rfl; have hcz40_11 : w39.cell? ⟨gb101, 11, none⟩ = some (.int .i32 310) := (blk_cell BK101.out 11).trans rfl; have hcz40_12 : w39.cell? ⟨gb101, 12, none⟩ = some (.int .i32 488) := (blk_cell BK101.out 12).trans rfl; have hcz40_13 : w39.cell? ⟨gb101, 13, none⟩ = some (.int .i32 747) := (blk_cell BK101.out 13).trans rfl; have hcz40_14 : w39.cell? ⟨gb101, 14, none⟩ = some (.int .i32 1101) := (blk_cell BK101.out 14).trans rfl; have hcz40_15 : w39.cell? ⟨gb101, 15, none⟩ = some (.int .i32 1546) := (blk_cell BK101.out 15).trans rfl; have hcz40_16 : w39.cell? ⟨gb101, 16, none⟩ = some (.int .i32 2047) := (blk_cell BK101.out 16).trans rfl; have hcz40_17 : w39.cell? ⟨gb101, 17, none⟩ = some (.int .i32 2549) := (blk_cell BK101.out 17).trans rfl; have hcz40_18 : w39.cell? ⟨gb101, 18, none⟩ = some (.int .i32 2994) := (blk_cell BK101.out 18).trans rfl; have hcz40_19 : w39.cell? ⟨gb101, 19, none⟩ = some (.int .i32 3348) := (blk_cell BK101.out 19).trans rfl; have hcz40_20 : w39.cell? ⟨gb101, 20, none⟩ = some (.int .i32 3607) := (blk_cell BK101.out 20).trans rfl; have hcz40_21 : w39.cell? ⟨gb101, 21, none⟩ = some (.int .i32 3785) := (blk_cell BK101.out 21).trans rfl; have hcz40_22 : w39.cell? ⟨gb101, 22, none⟩ = some (.int .i32 3901) := (blk_cell BK101.out 22).trans rfl; have hcz40_23 : w39.cell? ⟨gb101, 23, none⟩ = some (.int .i32 3975) := (blk_cell BK101.out 23).trans rfl; have hcz40_24 : w39.cell? ⟨gb101, 24, none⟩ = some (.int .i32 4022) := (blk_cell BK101.out 24).trans rfl; have hcz40_25 : w39.cell? ⟨gb101, 25, none⟩ = some (.int .i32 4050) := (blk_cell BK101.out 25).trans rfl; have hcz40_26 : w39.cell? ⟨gb101, 26, none⟩ = some (.int .i32 4068) := (blk_cell BK101.out 26).trans rfl; have hcz40_27 : w39.cell? ⟨gb101, 27, none⟩ = some (.int .i32 4079) := (blk_cell BK101.out 27).trans rfl; have hcz40_28 : w39.cell? ⟨gb101, 28, none⟩ = some (.int .i32 4085) := (blk_cell BK101.out 28).trans rfl; have hcz40_29 : w39.cell? ⟨gb101, 29, none⟩ = some (.int .i32 4089) := (blk_cell BK101.out 29).trans rfl; have hcz40_30 : w39.cell? ⟨gb101, 30, none⟩ = some (.int .i32 4092) := (blk_cell BK101.out 30).trans rfl; have hcz40_31 : w39.cell? ⟨gb101, 31, none⟩ = some (.int .i32 4093) := (blk_cell BK101.out 31).trans rfl; have hcz40_32 : w39.cell? ⟨gb101, 32, none⟩ = some (.int .i32 4094) := (blk_cell BK101.out 32).trans rfl; have hfz40_0 := blk_frozen BK101.out 0; have hfz40_1 := blk_frozen BK101.out 1; have hfz40_2 := blk_frozen BK101.out 2; have hfz40_3 := blk_frozen BK101.out 3; have hfz40_4 := blk_frozen BK101.out 4; have hfz40_5 := blk_frozen BK101.out 5; have hfz40_6 := blk_frozen BK101.out 6; have hfz40_7 := blk_frozen BK101.out 7; have hfz40_8 := blk_frozen BK101.out 8; have hfz40_9 := blk_frozen BK101.out 9; have hfz40_10 := blk_frozen BK101.out 10; have hfz40_11 := blk_frozen BK101.out 11; have hfz40_12 := blk_frozen BK101.out 12; have hfz40_13 := blk_frozen BK101.out 13; have hfz40_14 := blk_frozen BK101.out 14; have hfz40_15 := blk_frozen BK101.out 15; have hfz40_16 := blk_frozen BK101.out 16; have hfz40_17 := blk_frozen BK101.out 17; have hfz40_18 := blk_frozen BK101.out 18; have hfz40_19 := blk_frozen BK101.out 19; have hfz40_20 := blk_frozen BK101.out 20; have hfz40_21 := blk_frozen BK101.out 21; have hfz40_22 := blk_frozen BK101.out 22; have hfz40_23 := blk_frozen BK101.out 23; have hfz40_24 := blk_frozen BK101.out 24; have hfz40_25 := blk_frozen BK101.out 25; have hfz40_26 := blk_frozen BK101.out 26; have hfz40_27 := blk_frozen BK101.out 27; have hfz40_28 := blk_frozen BK101.out 28; have hfz40_29 := blk_frozen BK101.out 29; have hfz40_30 := blk_frozen BK101.out 30; have hfz40_31 := blk_frozen BK101.out 31; have hfz40_32 := blk_frozen BK101.out 32; have hs41 : w39.cell? ⟨gb101, (a0 : Int).toNat, none⟩ = some (.int .i32 (rd [1, 2, 3, 6, 10, 16, 27, 45, 73, 120, 194, 310, 488, 747, 1101, 1546, 2047, 2549, 2994, 3348, 3607, 3785, 3901, 3975, 4022, 4050, 4068, 4079, 4085, 4089, 4092, 4093, 4094] a0)) := (blk_cell BK101.out _).trans (arr_sel_ .i32 (n := 33) [1, 2, 3, 6, 10, 16, 27, 45, 73, 120, 194, 310, 488, 747, 1101, 1546, 2047, 2549, 2994, 3348, 3607, 3785, 3901, 3975, 4022, 4050, 4068, 4079, 4085, 4089, 4092, 4093, 4094] rfl (of_decide_eq_true (by first | (with_reducible assumption) | assumption)) (of_decide_eq_true (by first | (with_reducible assumption) | assumption))); have pa41 : 0 ≤ (a0 : Int) := of_decide_eq_true (by first | (with_reducible assumption) | assumption); have qa41 : (a0 : Int) < 33 := of_decide_eq_true (by first | (with_reducible assumption) | assumption); replace pa41 := eq_true pa41; replace qa41 := eq_true qa41))
              repeat (go_quiet (first | (go_at_call 12; (with_reducible refine (squash_Row.calls  1 2 3 6 10 16 27 45 73 120 194 310 488 747 1101 1546 2047 2549 2994 3348 3607 3785 3901 3975 4022 4050 4068 4079 4085 4089 4092 4093 4094 _ (tab_bel hT (by repeat (first | (with_reducible first | exact HB.out | apply below_alloc | apply bN_ | apply below_drew1) | exact HB.out))) A10.out).mono ?_); rintro e w37 ⟨rfl, hb⟩; have n0_ := Aside0.mk (below_step (by repeat (first | (with_reducible first | exact HB.out | apply below_alloc | apply bN_ | apply below_drew1) | exact HB.out)) hb); clear HB; have HB := n0_; clear n0_; (try clear hb)) | ((with_reducible refine gate_dst (N := 5) rfl ?_); refine box_event ?hg (N := 5) ?hd (cs := #[.int .i32 0, .int .i32 0, .int .i32 0, .int .i32 0, .int .i32 0, .int .i32 0, .int .i32 0, .int .i32 0, .int .i32 0, .int .i32 0, .int .i32 0, .int .i32 0, .int .i32 0, .int .i32 0, .int .i32 0, .int .i32 0, .int .i32 0, .int .i32 0, .int .i32 0, .int .i32 0, .int .i32 0, .int .i32 0, .int .i32 0, .int .i32 0, .int .i32 0, .int .i32 0, .int .i32 0, .int .i32 0, .int .i32 0, .int .i32 0, .int .i32 0, .int .i32 0, .int .i32 0]) (t := 23) ?hr ?_; (case hd => rfl); (case hg => rfl); (case hr => first | (go_simp; done) | (go_simp; rfl)); intro gb101 hg w38 hbox hb; have n0_ := Aside0.mk (below_step (by repeat (first | (with_reducible first | exact HB.out | apply below_alloc | apply bN_ | apply below_drew1) | exact HB.out)) hb); have n1_ := Aside0.mk (hbox); have n2_ := Aside0.mk ((by rw [hg]; exact (below_size (by repeat (first | (with_reducible first | exact HB.out | apply below_alloc | apply bN_ | apply below_drew1) | exact HB.out))) : w.heap.size ≤ gb101)); have n3_ := Aside0.mk ((by rw [hg]; exact (below_size (by repeat (first | (with_reducible first | exact HB.out | apply below_alloc | apply bN_ | apply below_drew1) | exact HB.out))) : w.heap.size ≤ gb101)); clear HB; have HB := n0_; have BK101 := n1_; have GW101 := n2_; have GE101 := n3_; clear n0_ n1_ n2_ n3_; clear hb hbox hg) | ((with_reducible refine gate_store (t := 23) (p := 5) rfl ?_); (try (rw [drewN_self w38]; generalize hq_ : World.drewN w38 _ = w38; have n0_ := Aside0.mk (blk_at hq_ BK101.out); have n1_ := Aside0.mk (below_at hq_ HB.out); clear hq_ BK101 HB; have BK101 := n0_; have HB := n1_; clear n0_ n1_)); refine wstore_event (t := 23) (p := 5) (v := ?vo_w39) (cs := #[.int .i32 1, .int .i32 2, .int .i32 3, .int .i32 6, .int .i32 10, .int .i32 16, .int .i32 27, .int .i32 45, .int .i32 73, .int .i32 120, .int .i32 194, .int .i32 310, .int .i32 488, .int .i32 747, .int .i32 1101, .int .i32 1546, .int .i32 2047, .int .i32 2549, .int .i32 2994, .int .i32 3348, .int .i32 3607, .int .i32 3785, .int .i32 3901, .int .i32 3975, .int .i32 4022, .int .i32 4050, .int .i32 4068, .int .i32 4079, .int .i32 4085, .int .i32 4089, .int .i32 4092, .int .i32 4093, .int .i32 4094]) ?hg ?ho ?hn ?hx ?hy BK101.out (by kernel_rfl) (by rfl) (by rfl) ?_; (case ho => rfl); (case hg => rfl); (case hn => rfl); (case hx => first | rfl | (go_simp; done) | (go_simp; rfl)); (case hy => first | rfl | (go_simp; done) | (go_simp; rfl)); intro w39 hbox hg; have n0_ := Aside0.mk (hbox); have n1_ := Aside0.mk (pw_below_grown (by repeat (first | (with_reducible first | exact HB.out | apply below_alloc | apply bN_ | apply below_drew1 | refine below_set ?_ GE101.out) | exact HB.out)) _ ((below_size (by repeat (first | (with_reducible first | exact HB.out | apply below_alloc | apply bN_ | apply below_drew1 | refine below_set ?_ GE101.out) | exact HB.out)))) hg (fun k_ e_ => by injection e_ with e_; subst e_; exact GE101.out)); clear BK101; clear HB; have BK101 := n0_; have HB := n1_; clear n0_ n1_; clear hg hbox) | (go_at_call 10; (with_reducible refine (squash_Squash.calls (wrap32 (wrap64 (128 * (wrap64 (a0 - 16))))) t102 _ (tab_bel hT (by repeat (first | (with_reducible first | exact HB.out | apply below_alloc | apply bN_ | apply below_drew1) | exact HB.out))) A11.out).mono ?_); rintro e w' ⟨rfl, ⟨nd, rfl⟩⟩; (try first | exact ⟨rfl, _, World.drewN_drewN _ _ _⟩ | exact ⟨rfl, _, Eq.trans (World.drewN_drewN _ _ _) (congrArg (World.drewN _) (Nat.add_assoc _ _ _))⟩); have hcz40_0 : w39.cell? ⟨gb101, 0, none⟩ = some (.int .i32 1) := (blk_cell BK101.out 0).trans rfl; have hcz40_1 : w39.cell? ⟨gb101, 1, none⟩ = some (.int .i32 2) := (blk_cell BK101.out 1).trans rfl; have hcz40_2 : w39.cell? ⟨gb101, 2, none⟩ = some (.int .i32 3) := (blk_cell BK101.out 2).trans rfl; have hcz40_3 : w39.cell? ⟨gb101, 3, none⟩ = some (.int .i32 6) := (blk_cell BK101.out 3).trans rfl; have hcz40_4 : w39.cell? ⟨gb101, 4, none⟩ = some (.int .i32 10) := (blk_cell BK101.out 4).trans rfl; have hcz40_5 : w39.cell? ⟨gb101, 5, none⟩ = some (.int .i32 16) := (blk_cell BK101.out 5).trans rfl; have hcz40_6 : w39.cell? ⟨gb101, 6, none⟩ = some (.int .i32 27) := (blk_cell BK101.out 6).trans rfl; have hcz40_7 : w39.cell? ⟨gb101, 7, none⟩ = some (.int .i32 45) := (blk_cell BK101.out 7).trans rfl; have hcz40_8 : w39.cell? ⟨gb101, 8, none⟩ = some (.int .i32 73) := (blk_cell BK101.out 8).trans rfl; have hcz40_9 : w39.cell? ⟨gb101, 9, none⟩ = some (.int .i32 120) := (blk_cell BK101.out 9).trans rfl; have hcz40_10 : w39.cell? ⟨gb101, 10, none⟩ = some (.int .i32 194) := (blk_cell BK101.out 10).trans rfl; have hcz40_11 : w39.cell? ⟨gb101, 11, none⟩ = some (.int .i32 310) := (blk_cell BK101.out 11).trans rfl; have hcz40_12 : w39.cell? ⟨gb101, 12, none⟩ = some (.int .i32 488) := (blk_cell BK101.out 12).trans rfl; have hcz40_13 : w39.cell? ⟨gb101, 13, none⟩ = some (.int .i32 747) := (blk_cell BK101.out 13).trans rfl; have hcz40_14 : w39.cell? ⟨gb101, 14, none⟩ = some (.int .i32 1101) := (blk_cell BK101.out 14).trans rfl; have hcz40_15 : w39.cell? ⟨gb101, 15, none⟩ = some (.int .i32 1546) := (blk_cell BK101.out 15).trans rfl; have hcz40_16 : w39.cell? ⟨gb101, 16, none⟩ = some (.int .i32 2047) := (blk_cell BK101.out 16).trans rfl; have hcz40_17 : w39.cell? ⟨gb101, 17, none⟩ = some (.int .i32 2549) := (blk_cell BK101.out 17).trans rfl; have hcz40_18 : w39.cell? ⟨gb101, 18, none⟩ = some (.int .i32 2994) := (blk_cell BK101.out 18).trans rfl; have hcz40_19 : w39.cell? ⟨gb101, 19, none⟩ = some (.int .i32 3348) := (blk_cell BK101.out 19).trans rfl; have hcz40_20 : w39.cell? ⟨gb101, 20, none⟩ = some (.int .i32 3607) := (blk_cell BK101.out 20).trans rfl; have hcz40_21 : w39.cell? ⟨gb101, 21, none⟩ = some (.int .i32 3785) := (blk_cell BK101.out 21).trans rfl; have hcz40_22 : w39.cell? ⟨gb101, 22, none⟩ = some (.int .i32 3901) := (blk_cell BK101.out 22).trans rfl; have hcz40_23 : w39.cell? ⟨gb101, 23, none⟩ = some (.int .i32 3975) := (blk_cell BK101.out 23).trans rfl; have hcz40_24 : w39.cell? ⟨gb101, 24, none⟩ = some (.int .i32 4022) := (blk_cell BK101.out 24).trans rfl; have hcz40_25 : w39.cell? ⟨gb101, 25, none⟩ = some (.int .i32 4050) := (blk_cell BK101.out 25).trans rfl; have hcz40_26 : w39.cell? ⟨gb101, 26, none⟩ = some (.int .i32 4068) := (blk_cell BK101.out 26).trans rfl; have hcz40_27 : w39.cell? ⟨gb101, 27, none⟩ = some (.int .i32 4079) := (blk_cell BK101.out 27).trans rfl; have hcz40_28 : w39.cell? ⟨gb101, 28, none⟩ = some (.int .i32 4085) := (blk_cell BK101.out 28).trans rfl; have hcz40_29 : w39.cell? ⟨gb101, 29, none⟩ = some (.int .i32 4089) := (blk_cell BK101.out 29).trans rfl; have hcz40_30 : w39.cell? ⟨gb101, 30, none⟩ = some (.int .i32 4092) := (blk_cell BK101.out 30).trans rfl; have hcz40_31 : w39.cell? ⟨gb101, 31, none⟩ = some (.int .i32 4093) := (blk_cell BK101.out 31).trans rfl; have hcz40_32 : w39.cell? ⟨gb101, 32, none⟩ = some (.int .i32 4094) := (blk_cell BK101.out 32).trans rfl; have hfz40_0 := blk_frozen BK101.out 0; have hfz40_1 := blk_frozen BK101.out 1; have hfz40_2 := blk_frozen BK101.out 2; have hfz40_3 := blk_frozen BK101.out 3; have hfz40_4 := blk_frozen BK101.out 4; have hfz40_5 := blk_frozen BK101.out 5; have hfz40_6 := blk_frozen BK101.out 6; have hfz40_7 := blk_frozen BK101.out 7; have hfz40_8 := blk_frozen BK101.out 8; have hfz40_9 := blk_frozen BK101.out 9; have hfz40_10 := blk_frozen BK101.out 10; have hfz40_11 := blk_frozen BK101.out 11; have hfz40_12 := blk_frozen BK101.out 12; have hfz40_13 := blk_frozen BK101.out 13; have hfz40_14 := blk_frozen BK101.out 14; have hfz40_15 := blk_frozen BK101.out 15; have hfz40_16 := blk_frozen BK101.out 16; have hfz40_17 := blk_frozen BK101.out 17; have hfz40_18 := blk_frozen BK101.out 18; have hfz40_19 := blk_frozen BK101.out 19; have hfz40_20 := blk_frozen BK101.out 20; have hfz40_21 := blk_frozen BK101.out 21; have hfz40_22 := blk_frozen BK101.out 22; have hfz40_23 := blk_frozen BK101.out 23; have hfz40_24 := blk_frozen BK101.out 24; have hfz40_25 := blk_frozen BK101.out 25; have hfz40_26 := blk_frozen BK101.out 26; have hfz40_27 := blk_frozen BK101.out 27; have hfz40_28 := blk_frozen BK101.out 28; have hfz40_29 := blk_frozen BK101.out 29; have hfz40_30 := blk_frozen BK101.out 30; have hfz40_31 := blk_frozen BK101.out 31; have hfz40_32 := blk_frozen BK101.out 32; have hs41 : w39.cell? ⟨gb101, (a0 : Int).toNat, none⟩ = some (.int .i32 (rd [1, 2, 3, 6, 10, 16, 27, 45, 73, 120, 194, 310, 488, 747, 1101, 1546, 2047, 2549, 2994, 3348, 3607, 3785, 3901, 3975, 4022, 4050, 4068, 4079, 4085, 4089, 4092, 4093, 4094] a0)) := (blk_cell BK101.out _).trans (arr_sel_ .i32 (n := 33) [1, 2, 3, 6, 10, 16, 27, 45, 73, 120, 194, 310, 488, 747, 1101, 1546, 2047, 2549, 2994, 3348, 3607, 3785, 3901, 3975, 4022, 4050, 4068, 4079, 4085, 4089, 4092, 4093, 4094] rfl (of_decide_eq_true (by first | (with_reducible assumption) | assumption)) (of_decide_eq_true (by first | (with_reducible assumption) | assumption))); have pa41 : 0 ≤ (a0 : Int) := of_decide_eq_true (by first | (with_reducible assumption) | assumption); have qa41 : (a0 : Int) < 33 := of_decide_eq_true (by first | (with_reducible assumption) | assumption); replace pa41 := eq_true pa41; replace qa41 := eq_true qa41)); try go_wp2_with (first | (go_at_call 12; (with_reducible refine (squash_Row.calls  1 2 3 6 10 16 27 45 73 120 194 310 488 747 1101 1546 2047 2549 2994 3348 3607 3785 3901 3975 4022 4050 4068 4079 4085 4089 4092 4093 4094 _ (tab_bel hT (by repeat (first | (with_reducible first | exact HB.out | apply below_alloc | apply bN_ | apply below_drew1) | exact HB.out))) A10.out).mono ?_); rintro e w37 ⟨rfl, hb⟩; have n0_ := Aside0.mk (below_step (by repeat (first | (with_reducible first | exact HB.out | apply below_alloc | apply bN_ | apply below_drew1) | exact HB.out)) hb); clear HB; have HB := n0_; clear n0_; (try clear hb)) | ((with_reducible refine gate_dst (N := 5) rfl ?_); refine box_event ?hg (N := 5) ?hd (cs := #[.int .i32 0, .int .i32 0, .int .i32 0, .int .i32 0, .int .i32 0, .int .i32 0, .int .i32 0, .int .i32 0, .int .i32 0, .int .i32 0, .int .i32 0, .int .i32 0, .int .i32 0, .int .i32 0, .int .i32 0, .int .i32 0, .int .i32 0, .int .i32 0, .int .i32 0, .int .i32 0, .int .i32 0, .int .i32 0, .int .i32 0, .int .i32 0, .int .i32 0, .int .i32 0, .int .i32 0, .int .i32 0, .int .i32 0, .int .i32 0, .int .i32 0, .int .i32 0, .int .i32 0]) (t := 23) ?hr ?_; (case hd => rfl); (case hg => rfl); (case hr => first | (go_simp; done) | (go_simp; rfl)); intro gb101 hg w38 hbox hb; have n0_ := Aside0.mk (below_step (by repeat (first | (with_reducible first | exact HB.out | apply below_alloc | apply bN_ | apply below_drew1) | exact HB.out)) hb); have n1_ := Aside0.mk (hbox); have n2_ := Aside0.mk ((by rw [hg]; exact (below_size (by repeat (first | (with_reducible first | exact HB.out | apply below_alloc | apply bN_ | apply below_drew1) | exact HB.out))) : w.heap.size ≤ gb101)); have n3_ := Aside0.mk ((by rw [hg]; exact (below_size (by repeat (first | (with_reducible first | exact HB.out | apply below_alloc | apply bN_ | apply below_drew1) | exact HB.out))) : w.heap.size ≤ gb101)); clear HB; have HB := n0_; have BK101 := n1_; have GW101 := n2_; have GE101 := n3_; clear n0_ n1_ n2_ n3_; clear hb hbox hg) | ((with_reducible refine gate_store (t := 23) (p := 5) rfl ?_); (try (rw [drewN_self w38]; generalize hq_ : World.drewN w38 _ = w38; have n0_ := Aside0.mk (blk_at hq_ BK101.out); have n1_ := Aside0.mk (below_at hq_ HB.out); clear hq_ BK101 HB; have BK101 := n0_; have HB := n1_; clear n0_ n1_)); refine wstore_event (t := 23) (p := 5) (v := ?vo_w39) (cs := #[.int .i32 1, .int .i32 2, .int .i32 3, .int .i32 6, .int .i32 10, .int .i32 16, .int .i32 27, .int .i32 45, .int .i32 73, .int .i32 120, .int .i32 194, .int .i32 310, .int .i32 488, .int .i32 747, .int .i32 1101, .int .i32 1546, .int .i32 2047, .int .i32 2549, .int .i32 2994, .int .i32 3348, .int .i32 3607, .int .i32 3785, .int .i32 3901, .int .i32 3975, .int .i32 4022, .int .i32 4050, .int .i32 4068, .int .i32 4079, .int .i32 4085, .int .i32 4089, .int .i32 4092, .int .i32 4093, .int .i32 4094]) ?hg ?ho ?hn ?hx ?hy BK101.out (by kernel_rfl) (by rfl) (by rfl) ?_; (case ho => rfl); (case hg => rfl); (case hn => rfl); (case hx => first | rfl | (go_simp; done) | (go_simp; rfl)); (case hy => first | rfl | (go_simp; done) | (go_simp; rfl)); intro w39 hbox hg; have n0_ := Aside0.mk (hbox); have n1_ := Aside0.mk (pw_below_grown (by repeat (first | (with_reducible first | exact HB.out | apply below_alloc | apply bN_ | apply below_drew1 | refine below_set ?_ GE101.out) | exact HB.out)) _ ((below_size (by repeat (first | (with_reducible first | exact HB.out | apply below_alloc | apply bN_ | apply below_drew1 | refine below_set ?_ GE101.out) | exact HB.out)))) hg (fun k_ e_ => by injection e_ with e_; subst e_; exact GE101.out)); clear BK101; clear HB; have BK101 := n0_; have HB := n1_; clear n0_ n1_; clear hg hbox) | (go_at_call 10; (with_reducible refine (squash_Squash.calls (wrap32 (wrap64 (128 * (wrap64 (a0 - 16))))) t102 _ (tab_bel hT (by repeat (first | (with_reducible first | exact HB.out | apply below_alloc | apply bN_ | apply below_drew1) | exact HB.out))) A11.out).mono ?_); rintro e w' ⟨rfl, ⟨nd, rfl⟩⟩; (try first | exact ⟨rfl, _, World.drewN_drewN _ _ _⟩ | exact ⟨rfl, _, Eq.trans (World.drewN_drewN _ _ _) (congrArg (World.drewN _) (Nat.add_assoc _ _ _))⟩); have hcz40_0 : w39.cell? ⟨gb101, 0, none⟩ = some (.int .i32 1) := (blk_cell BK101.out 0).trans rfl; have hcz40_1 : w39.cell? ⟨gb101, 1, none⟩ = some (.int .i32 2) := (blk_cell BK101.out 1).trans rfl; have hcz40_2 : w39.cell? ⟨gb101, 2, none⟩ = some (.int .i32 3) := (blk_cell BK101.out 2).trans rfl; have hcz40_3 : w39.cell? ⟨gb101, 3, none⟩ = some (.int .i32 6) := (blk_cell BK101.out 3).trans rfl; have hcz40_4 : w39.cell? ⟨gb101, 4, none⟩ = some (.int .i32 10) := (blk_cell BK101.out 4).trans rfl; have hcz40_5 : w39.cell? ⟨gb101, 5, none⟩ = some (.int .i32 16) := (blk_cell BK101.out 5).trans rfl; have hcz40_6 : w39.cell? ⟨gb101, 6, none⟩ = some (.int .i32 27) := (blk_cell BK101.out 6).trans rfl; have hcz40_7 : w39.cell? ⟨gb101, 7, none⟩ = some (.int .i32 45) := (blk_cell BK101.out 7).trans rfl; have hcz40_8 : w39.cell? ⟨gb101, 8, none⟩ = some (.int .i32 73) := (blk_cell BK101.out 8).trans rfl; have hcz40_9 : w39.cell? ⟨gb101, 9, none⟩ = some (.int .i32 120) := (blk_cell BK101.out 9).trans rfl; have hcz40_10 : w39.cell? ⟨gb101, 10, none⟩ = some (.int .i32 194) := (blk_cell BK101.out 10).trans rfl; have hcz40_11 : w39.cell? ⟨gb101, 11, none⟩ = some (.int .i32 310) := (blk_cell BK101.out 11).trans rfl; have hcz40_12 : w39.cell? ⟨gb101, 12, none⟩ = some (.int .i32 488) := (blk_cell BK101.out 12).trans rfl; have hcz40_13 : w39.cell? ⟨gb101, 13, none⟩ = some (.int .i32 747) := (blk_cell BK101.out 13).trans rfl; have hcz40_14 : w39.cell? ⟨gb101, 14, none⟩ = some (.int .i32 1101) := (blk_cell BK101.out 14).trans rfl; have hcz40_15 : w39.cell? ⟨gb101, 15, none⟩ = some (.int .i32 1546) := (blk_cell BK101.out 15).trans rfl; have hcz40_16 : w39.cell? ⟨gb101, 16, none⟩ = some (.int .i32 2047) := (blk_cell BK101.out 16).trans rfl; have hcz40_17 : w39.cell? ⟨gb101, 17, none⟩ = some (.int .i32 2549) := (blk_cell BK101.out 17).trans rfl; have hcz40_18 : w39.cell? ⟨gb101, 18, none⟩ = some (.int .i32 2994) := (blk_cell BK101.out 18).trans rfl; have hcz40_19 : w39.cell? ⟨gb101, 19, none⟩ = some (.int .i32 3348) := (blk_cell BK101.out 19).trans rfl; have hcz40_20 : w39.cell? ⟨gb101, 20, none⟩ = some (.int .i32 3607) := (blk_cell BK101.out 20).trans rfl; have hcz40_21 : w39.cell? ⟨gb101, 21, none⟩ = some (.int .i32 3785) := (blk_cell BK101.out 21).trans rfl; have hcz40_22 : w39.cell? ⟨gb101, 22, none⟩ = some (.int .i32 3901) := (blk_cell BK101.out 22).trans rfl; have hcz40_23 : w39.cell? ⟨gb101, 23, none⟩ = some (.int .i32 3975) := (blk_cell BK101.out 23).trans rfl; have hcz40_24 : w39.cell? ⟨gb101, 24, none⟩ = some (.int .i32 4022) := (blk_cell BK101.out 24).trans rfl; have hcz40_25 : w39.cell? ⟨gb101, 25, none⟩ = some (.int .i32 4050) := (blk_cell BK101.out 25).trans rfl; have hcz40_26 : w39.cell? ⟨gb101, 26, none⟩ = some (.int .i32 4068) := (blk_cell BK101.out 26).trans rfl; have hcz40_27 : w39.cell? ⟨gb101, 27, none⟩ = some (.int .i32 4079) := (blk_cell BK101.out 27).trans rfl; have hcz40_28 : w39.cell? ⟨gb101, 28, none⟩ = some (.int .i32 4085) := (blk_cell BK101.out 28).trans rfl; have hcz40_29 : w39.cell? ⟨gb101, 29, none⟩ = some (.int .i32 4089) := (blk_cell BK101.out 29).trans rfl; have hcz40_30 : w39.cell? ⟨gb101, 30, none⟩ = some (.int .i32 4092) := (blk_cell BK101.out 30).trans rfl; have hcz40_31 : w39.cell? ⟨gb101, 31, none⟩ = some (.int .i32 4093) := (blk_cell BK101.out 31).trans rfl; have hcz40_32 : w39.cell? ⟨gb101, 32, none⟩ = some (.int .i32 4094) := (blk_cell BK101.out 32).trans rfl; have hfz40_0 := blk_frozen BK101.out 0; have hfz40_1 := blk_frozen BK101.out 1; have hfz40_2 := blk_frozen BK101.out 2; have hfz40_3 := blk_frozen BK101.out 3; have hfz40_4 := blk_frozen BK101.out 4; have hfz40_5 := blk_frozen BK101.out 5; have hfz40_6 := blk_frozen BK101.out 6; have hfz40_7 := blk_frozen BK101.out 7; have hfz40_8 := blk_frozen BK101.out 8; have hfz40_9 := blk_frozen BK101.out 9; have hfz40_10 := blk_frozen BK101.out 10; have hfz40_11 := blk_frozen BK101.out 11; have hfz40_12 := blk_frozen BK101.out 12; have hfz40_13 := blk_frozen BK101.out 13; have hfz40_14 := blk_frozen BK101.out 14; have hfz40_15 := blk_frozen BK101.out 15; have hfz40_16 := blk_frozen BK101.out 16; have hfz40_17 := blk_frozen BK101.out 17; have hfz40_18 := blk_frozen BK101.out 18; have hfz40_19 := blk_frozen BK101.out 19; have hfz40_20 := blk_frozen BK101.out 20; have hfz40_21 := blk_frozen BK101.out 21; have hfz40_22 := blk_frozen BK101.out 22; have hfz40_23 := blk_frozen BK101.out 23; have hfz40_24 := blk_frozen BK101.out 24; have hfz40_25 := blk_frozen BK101.out 25; have hfz40_26 := blk_frozen BK101.out 26; have hfz40_27 := blk_frozen BK101.out 27; have hfz40_28 := blk_frozen BK101.out 28; have hfz40_29 := blk_frozen BK101.out 29; have hfz40_30 := blk_frozen BK101.out 30; have hfz40_31 := blk_frozen BK101.out 31; have hfz40_32 := blk_frozen BK101.out 32; have hs41 : w39.cell? ⟨gb101, (a0 : Int).toNat, none⟩ = some (.int .i32 (rd [1, 2, 3, 6, 10, 16, 27, 45, 73, 120, 194, 310, 488, 747, 1101, 1546, 2047, 2549, 2994, 3348, 3607, 3785, 3901, 3975, 4022, 4050, 4068, 4079, 4085, 4089, 4092, 4093, 4094] a0)) := (blk_cell BK101.out _).trans (arr_sel_ .i32 (n := 33) [1, 2, 3, 6, 10, 16, 27, 45, 73, 120, 194, 310, 488, 747, 1101, 1546, 2047, 2549, 2994, 3348, 3607, 3785, 3901, 3975, 4022, 4050, 4068, 4079, 4085, 4089, 4092, 4093, 4094] rfl (of_decide_eq_true (by first | (with_reducible assumption) | assumption)) (of_decide_eq_true (by first | (with_reducible assumption) | assumption))); have pa41 : 0 ≤ (a0 : Int) := of_decide_eq_true (by first | (with_reducible assumption) | assumption); have qa41 : (a0 : Int) < 33 := of_decide_eq_true (by first | (with_reducible assumption) | assumption); replace pa41 := eq_true pa41; replace qa41 := eq_true qa41)))
              go_ret
              exact ⟨by first | rfl | (simp [errW_none, errW_some] <;> rfl) | (simp [*, errW_none, errW_some] <;> rfl), by repeat (first | (with_reducible first | exact HB.out | apply below_alloc | apply bN_ | apply below_drew1 | refine below_set ?_ GE101.out) | exact HB.out)⟩
          · rw [if_neg c13] at H
            exact absurd H (by simp)
        · rw [if_neg c12] at H
          exact absurd H (by simp)

/-- THE ONE PURE STATEMENT of bitloftlaw04_SquashPlaces: yours. -/
def bitloftlaw04_SquashPlaces.Pure : Prop := ∀ (a0 : Int) (a1 : Int), (Lit.int .i64 a0).wf = true → (Lit.int .i32 a1).wf = true → ∃ k, bitloftlaw04_SquashPlaces.f k a0 a1 = some true
theorem bitloftlaw04_SquashPlaces.walk (P : bitloftlaw04_SquashPlaces.Pure) (a0 : Int) (a1 : Int) (w : World) (w0 : (Lit.int .i64 a0).wf = true) (w1 : (Lit.int .i32 a1).wf = true) (hT : Tab_ w) :
    Calls Tryd.prog 9 #[.int .i64 a0, .int .i32 a1] w fun e w' => e = .returned (.bool true) ∧ Below w.heap.size w w' := by
  obtain ⟨k, h⟩ := P a0 a1 w0 w1
  refine (bitloftlaw04_SquashPlaces.calls k a0 a1 true w hT h).mono ?_
  rintro e w' ⟨rfl, hd⟩
  exact ⟨rfl, hd⟩

end Go.Proofs.YtimjmbaonkpmpaaDoor.XSquashPlaces
