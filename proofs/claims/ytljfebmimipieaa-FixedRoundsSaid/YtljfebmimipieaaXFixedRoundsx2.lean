-- Laid by a program of this session (wip/mkxprint.py, over the kit's print): Lean checks it.
import Derived.Test.YtljfebmimipieaaXFixedRoundsx0
import Derived.Test.YtljfebmimipieaaXFixedRoundsx1
namespace Go.Proofs.Ytljfebmimipieaa.XFixedRounds
open Go.RowKit Go.Proofs.YtljfebmimipieaaW.PrintWords Go.Proofs.YtljfebmimipieaaW.PrintLast Go.Proofs.YtljfebmimipieaaW.PrintMore
attribute [local go_sem] max2_int min2_int max_two min_two max_three min_three max_four min_four   -- for this text's walks alone
set_option linter.unusedVariables false
set_option linter.unusedSimpArgs false

/-! ### bitloftlaw03_FixedRounds: function 5 -/
def bitloftlaw03_FixedRounds.j0 : Nat → Int → Int → Int → Bool → Option (Bool)
  | 0, _, _, _, _ => none
  | k + 1, x0, x1, x2, x34 => if x34 = true then ((bitloftlaw03_alive.f k).bind fun t130 => (some t130)) else ((fixed_Round.f k x0 x2).bind fun bt131 => ((fixed_Round.f k x1 x2).bind fun bt133 => (if 0 ≤ x2 then (if bt131.2 = 0 then (if bt133.2 = 0 then (if x0 ≤ x1 then (if bt131.1 > bt133.1 then (some false) else (if (shl .i64 1 x2) = 0 then (none) else (if bt131.1 > (wrap64 (Int.tdiv (2305843009213693952 : Int) (shl .i64 1 x2))) then (some false) else (if bt131.1 < (wrap64 (-(Int.tdiv (2305843009213693952 : Int) (shl .i64 1 x2)))) then (some false) else (if (wrap64 (2 * (wrap64 (x0 - (wrap64 (bt131.1 * (shl .i64 1 x2))))))) < (shl .i64 1 x2) then (if (wrap64 (2 * (wrap64 (x0 - (wrap64 (bt131.1 * (shl .i64 1 x2))))))) ≥ (wrap64 (-(shl .i64 1 x2))) then ((bitloftlaw03_alive.f k).bind fun t135 => (some t135)) else (some false)) else (some false)))))) else (if (shl .i64 1 x2) = 0 then (none) else (if bt131.1 > (wrap64 (Int.tdiv (2305843009213693952 : Int) (shl .i64 1 x2))) then (some false) else (if bt131.1 < (wrap64 (-(Int.tdiv (2305843009213693952 : Int) (shl .i64 1 x2)))) then (some false) else (if (wrap64 (2 * (wrap64 (x0 - (wrap64 (bt131.1 * (shl .i64 1 x2))))))) < (shl .i64 1 x2) then (if (wrap64 (2 * (wrap64 (x0 - (wrap64 (bt131.1 * (shl .i64 1 x2))))))) ≥ (wrap64 (-(shl .i64 1 x2))) then ((bitloftlaw03_alive.f k).bind fun t136 => (some t136)) else (some false)) else (some false)))))) else (some false)) else (some false)) else (none))))
def bitloftlaw03_FixedRounds.f (k : Nat) (a0 : Int) (a1 : Int) (a2 : Int) : Option (Bool) := if a0 > 2305843009213693952 then (bitloftlaw03_FixedRounds.j0 k a0 a1 a2 true) else (if a0 < (-2305843009213693952) then (bitloftlaw03_FixedRounds.j0 k a0 a1 a2 true) else (if a1 > 2305843009213693952 then (bitloftlaw03_FixedRounds.j0 k a0 a1 a2 true) else (if a1 < (-2305843009213693952) then (bitloftlaw03_FixedRounds.j0 k a0 a1 a2 true) else (if a2 < 0 then (bitloftlaw03_FixedRounds.j0 k a0 a1 a2 true) else (bitloftlaw03_FixedRounds.j0 k a0 a1 a2 (decide (a2 > 60)))))))
theorem bitloftlaw03_FixedRounds.mono_l : ∀ k, (∀ y0 y1 y2 y3, LeO (bitloftlaw03_FixedRounds.j0 k y0 y1 y2 y3) (bitloftlaw03_FixedRounds.j0 (k + 1) y0 y1 y2 y3))
  | 0 => fun _ _ _ _ r h => by simp [bitloftlaw03_FixedRounds.j0] at h
  | k + 1 => by
    have ih0 := bitloftlaw03_FixedRounds.mono_l k
    · intro y0 y1 y2 y3
      unfold bitloftlaw03_FixedRounds.j0
      repeat' first
      | (with_reducible exact ih0 _ _ _ _)
      | (with_reducible exact bitloftlaw03_alive.mono _)
      | (with_reducible exact fixed_Round.mono _ _ _)
      | (with_reducible exact LeO.refl _)
      | (with_reducible exact LeO.none _)
      | (with_reducible refine LeO.ite ?_ ?_)
      | (with_reducible refine LeO.bind ?_ (fun _ => ?_))
      | exact ih0 _ _ _ _
      | exact bitloftlaw03_alive.mono _
      | exact fixed_Round.mono _ _ _
      | exact LeO.none _
      | refine LeO.ite ?_ ?_
      | refine LeO.bind ?_ (fun _ => ?_)
theorem bitloftlaw03_FixedRounds.mono : ∀ a0 a1 a2 k, LeO (bitloftlaw03_FixedRounds.f k a0 a1 a2) (bitloftlaw03_FixedRounds.f (k + 1) a0 a1 a2) := by
  intro a0 a1 a2 k
  have ih0 := bitloftlaw03_FixedRounds.mono_l k
  unfold bitloftlaw03_FixedRounds.f
  repeat' first
      | (with_reducible exact ih0 _ _ _ _)
      | (with_reducible exact bitloftlaw03_alive.mono _)
      | (with_reducible exact fixed_Round.mono _ _ _)
      | (with_reducible exact LeO.refl _)
      | (with_reducible exact LeO.none _)
      | (with_reducible refine LeO.ite ?_ ?_)
      | (with_reducible refine LeO.bind ?_ (fun _ => ?_))
      | exact ih0 _ _ _ _
      | exact bitloftlaw03_alive.mono _
      | exact fixed_Round.mono _ _ _
      | exact LeO.none _
      | refine LeO.ite ?_ ?_
      | refine LeO.bind ?_ (fun _ => ?_)
set_option maxHeartbeats 8000000 in
set_option maxRecDepth 100000 in
theorem bitloftlaw03_FixedRounds.calls (k : Nat) (a0 : Int) (a1 : Int) (a2 : Int) (r : Bool) (w : World) (h : bitloftlaw03_FixedRounds.f k a0 a1 a2 = some r) :
    Calls Try.prog 5 #[.int .i64 a0, .int .i64 a1, .int .i64 a2] w fun e w' => e = .returned (.bool r) ∧ Below w.heap.size w w' := by
  have HB := Aside0.mk (Below.refl w.heap.size w)
  have H : (if a0 > 2305843009213693952 then (bitloftlaw03_FixedRounds.j0 k a0 a1 a2 true) else (if a0 < (-2305843009213693952) then (bitloftlaw03_FixedRounds.j0 k a0 a1 a2 true) else (if a1 > 2305843009213693952 then (bitloftlaw03_FixedRounds.j0 k a0 a1 a2 true) else (if a1 < (-2305843009213693952) then (bitloftlaw03_FixedRounds.j0 k a0 a1 a2 true) else (if a2 < 0 then (bitloftlaw03_FixedRounds.j0 k a0 a1 a2 true) else (bitloftlaw03_FixedRounds.j0 k a0 a1 a2 (decide (a2 > 60)))))))) = some r := h
  clear h
  have HC4 := Aside0.mk H
  clear H
  go_enter Try.func5, Try.ntmps5
  go_upto_region 1 with (fail)
  go_cut [34] (fun v34 wc => ∃ (kq : Nat) (x34_3 : Bool), v34 = .bool x34_3 ∧ Aside0 (bitloftlaw03_FixedRounds.j0 kq a0 a1 a2 x34_3 = some r) ∧ Aside0 (kq ≤ k) ∧ Aside0 (Below w.heap.size w wc))
  case first =>
    have H := HC4.out
    clear HC4
    by_cases c5 : a0 > 2305843009213693952
    · rw [if_pos c5] at H
      have c5b0 : decide (2305843009213693952 < a0) = true := decide_eq_true c5
      clear c5
      (first | rw [c5b0] | (simp only [i64_w, i32_w]; rw [c5b0]) | skip)
      have H' := Aside0.mk H
      clear H
      go_wp2
      go_meet
      case rel => exact ⟨_, (true), (by first | rfl | (simp; done) | (simp [*]; done)), H', ⟨by first | omega | exact Nat.le_refl _⟩, ⟨by repeat (first | (with_reducible first | exact HB.out | apply below_alloc | apply pw_below_drewN | apply below_drew1) | exact HB.out)⟩⟩
    · rw [if_neg c5] at H
      have c5b0 : decide (2305843009213693952 < a0) = false := decide_eq_false c5
      clear c5
      (first | rw [c5b0] | (simp only [i64_w, i32_w]; rw [c5b0]) | skip)
      by_cases c6 : a0 < (-2305843009213693952)
      · rw [if_pos c6] at H
        have c6b0 : decide (a0 < (-2305843009213693952)) = true := decide_eq_true c6
        clear c6
        have H' := Aside0.mk H
        clear H
        go_wp2
        go_meet
        case rel => exact ⟨_, (true), (by first | rfl | (simp; done) | (simp [*]; done)), H', ⟨by first | omega | exact Nat.le_refl _⟩, ⟨by repeat (first | (with_reducible first | exact HB.out | apply below_alloc | apply pw_below_drewN | apply below_drew1) | exact HB.out)⟩⟩
      · rw [if_neg c6] at H
        have c6b0 : decide (a0 < (-2305843009213693952)) = false := decide_eq_false c6
        clear c6
        by_cases c7 : a1 > 2305843009213693952
        · rw [if_pos c7] at H
          have c7b0 : decide (2305843009213693952 < a1) = true := decide_eq_true c7
          clear c7
          have H' := Aside0.mk H
          clear H
          go_wp2
          go_meet
          case rel => exact ⟨_, (true), (by first | rfl | (simp; done) | (simp [*]; done)), H', ⟨by first | omega | exact Nat.le_refl _⟩, ⟨by repeat (first | (with_reducible first | exact HB.out | apply below_alloc | apply pw_below_drewN | apply below_drew1) | exact HB.out)⟩⟩
        · rw [if_neg c7] at H
          have c7b0 : decide (2305843009213693952 < a1) = false := decide_eq_false c7
          clear c7
          by_cases c8 : a1 < (-2305843009213693952)
          · rw [if_pos c8] at H
            have c8b0 : decide (a1 < (-2305843009213693952)) = true := decide_eq_true c8
            clear c8
            have H' := Aside0.mk H
            clear H
            go_wp2
            go_meet
            case rel => exact ⟨_, (true), (by first | rfl | (simp; done) | (simp [*]; done)), H', ⟨by first | omega | exact Nat.le_refl _⟩, ⟨by repeat (first | (with_reducible first | exact HB.out | apply below_alloc | apply pw_below_drewN | apply below_drew1) | exact HB.out)⟩⟩
          · rw [if_neg c8] at H
            have c8b0 : decide (a1 < (-2305843009213693952)) = false := decide_eq_false c8
            clear c8
            by_cases c9 : a2 < 0
            · rw [if_pos c9] at H
              have c9b0 : decide (a2 < 0) = true := decide_eq_true c9
              clear c9
              have H' := Aside0.mk H
              clear H
              go_wp2
              go_meet
              case rel => exact ⟨_, (true), (by first | rfl | (simp; done) | (simp [*]; done)), H', ⟨by first | omega | exact Nat.le_refl _⟩, ⟨by repeat (first | (with_reducible first | exact HB.out | apply below_alloc | apply pw_below_drewN | apply below_drew1) | exact HB.out)⟩⟩
            · rw [if_neg c9] at H
              have c9b0 : decide (a2 < 0) = false := decide_eq_false c9
              clear c9
              have H' := Aside0.mk H
              clear H
              go_wp2
              go_meet
              case rel => exact ⟨_, (decide (a2 > 60)), (by first | rfl | (simp; done) | (simp [*]; done)), H', ⟨by first | omega | exact Nat.le_refl _⟩, ⟨by repeat (first | (with_reducible first | exact HB.out | apply below_alloc | apply pw_below_drewN | apply below_drew1) | exact HB.out)⟩⟩
  case rest =>
    clear HC4
    try clear p2
    try clear c5
    try clear c5b0
    try clear c6
    try clear c6b0
    try clear c7
    try clear c7b0
    try clear c8
    try clear c8b0
    try clear c9
    try clear c9b0
    obtain ⟨kq, x34_3, rfl, HA, HJ3, HB⟩ := hcut
    cases kq with
    | zero => exact absurd HA.out (by simp [bitloftlaw03_FixedRounds.j0])
    | succ kj3 =>
      have H := HA.out
      clear HA
      simp only [bitloftlaw03_FixedRounds.j0] at H
      by_cases c10 : x34_3 = true
      · subst c10
        have H1 : ((bitloftlaw03_alive.f kj3).bind fun t130 => (some t130)) = some r := by rw [if_pos rfl] at H; exact H
        clear H
        have H := H1
        clear H1
        replace H := Option.bind_eq_some_iff.mp H
        obtain ⟨t130, A110, H⟩ := H
        replace H : (some t130) = some r := H
        have A11 := Aside0.mk A110
        clear A110
        obtain rfl := Option.some.inj H
        go_wp2_with (first | ((with_reducible refine gate_callee (f := 22) rfl ?_); refine goesL_ (some 35) rfl rfl Try.func22 (by kernel_rfl) rfl #[] rfl (by (try simp only [List.map_toArray, List.map_cons, List.map_nil]); first | done | rfl | (simp only [List.length_drop, List.length_take]; rfl)) ?_; (with_reducible refine (bitloftlaw03_alive.calls kj3  t130 _ A11.out).mono ?_); rintro e w12 ⟨rfl, hb⟩; refine ⟨_, rfl, ?_⟩; have n0_ := Aside0.mk (below_step (by repeat (first | (with_reducible first | exact HB.out | apply below_alloc | apply pw_below_drewN | apply below_drew1) | exact HB.out)) hb); clear HB; have HB := n0_; clear n0_; (try clear hb); (try clear hb2); (try clear hk); (try clear hi)))
        go_ret
        exact ⟨by first | rfl | (simp [errW_none, errW_some] <;> rfl) | (simp [*, errW_none, errW_some] <;> rfl), by repeat (first | (with_reducible first | exact HB.out | apply below_alloc | apply pw_below_drewN | apply below_drew1) | exact HB.out)⟩
      · replace c10 := Bool.eq_false_iff.mpr c10
        subst c10
        have H1 : ((fixed_Round.f kj3 a0 a2).bind fun bt131 => ((fixed_Round.f kj3 a1 a2).bind fun bt133 => (if 0 ≤ a2 then (if bt131.2 = 0 then (if bt133.2 = 0 then (if a0 ≤ a1 then (if bt131.1 > bt133.1 then (some false) else (if (shl .i64 1 a2) = 0 then (none) else (if bt131.1 > (wrap64 (Int.tdiv (2305843009213693952 : Int) (shl .i64 1 a2))) then (some false) else (if bt131.1 < (wrap64 (-(Int.tdiv (2305843009213693952 : Int) (shl .i64 1 a2)))) then (some false) else (if (wrap64 (2 * (wrap64 (a0 - (wrap64 (bt131.1 * (shl .i64 1 a2))))))) < (shl .i64 1 a2) then (if (wrap64 (2 * (wrap64 (a0 - (wrap64 (bt131.1 * (shl .i64 1 a2))))))) ≥ (wrap64 (-(shl .i64 1 a2))) then ((bitloftlaw03_alive.f kj3).bind fun t135 => (some t135)) else (some false)) else (some false)))))) else (if (shl .i64 1 a2) = 0 then (none) else (if bt131.1 > (wrap64 (Int.tdiv (2305843009213693952 : Int) (shl .i64 1 a2))) then (some false) else (if bt131.1 < (wrap64 (-(Int.tdiv (2305843009213693952 : Int) (shl .i64 1 a2)))) then (some false) else (if (wrap64 (2 * (wrap64 (a0 - (wrap64 (bt131.1 * (shl .i64 1 a2))))))) < (shl .i64 1 a2) then (if (wrap64 (2 * (wrap64 (a0 - (wrap64 (bt131.1 * (shl .i64 1 a2))))))) ≥ (wrap64 (-(shl .i64 1 a2))) then ((bitloftlaw03_alive.f kj3).bind fun t136 => (some t136)) else (some false)) else (some false)))))) else (some false)) else (some false)) else (none)))) = some r := by rw [if_neg (show ¬ (false = true) by decide)] at H; exact H
        clear H
        have H := H1
        clear H1
        replace H := Option.bind_eq_some_iff.mp H
        obtain ⟨⟨t131, t132⟩, A130, H⟩ := H
        replace H : ((fixed_Round.f kj3 a1 a2).bind fun bt133 => (if 0 ≤ a2 then (if t132 = 0 then (if bt133.2 = 0 then (if a0 ≤ a1 then (if t131 > bt133.1 then (some false) else (if (shl .i64 1 a2) = 0 then (none) else (if t131 > (wrap64 (Int.tdiv (2305843009213693952 : Int) (shl .i64 1 a2))) then (some false) else (if t131 < (wrap64 (-(Int.tdiv (2305843009213693952 : Int) (shl .i64 1 a2)))) then (some false) else (if (wrap64 (2 * (wrap64 (a0 - (wrap64 (t131 * (shl .i64 1 a2))))))) < (shl .i64 1 a2) then (if (wrap64 (2 * (wrap64 (a0 - (wrap64 (t131 * (shl .i64 1 a2))))))) ≥ (wrap64 (-(shl .i64 1 a2))) then ((bitloftlaw03_alive.f kj3).bind fun t135 => (some t135)) else (some false)) else (some false)))))) else (if (shl .i64 1 a2) = 0 then (none) else (if t131 > (wrap64 (Int.tdiv (2305843009213693952 : Int) (shl .i64 1 a2))) then (some false) else (if t131 < (wrap64 (-(Int.tdiv (2305843009213693952 : Int) (shl .i64 1 a2)))) then (some false) else (if (wrap64 (2 * (wrap64 (a0 - (wrap64 (t131 * (shl .i64 1 a2))))))) < (shl .i64 1 a2) then (if (wrap64 (2 * (wrap64 (a0 - (wrap64 (t131 * (shl .i64 1 a2))))))) ≥ (wrap64 (-(shl .i64 1 a2))) then ((bitloftlaw03_alive.f kj3).bind fun t136 => (some t136)) else (some false)) else (some false)))))) else (some false)) else (some false)) else (none))) = some r := H
        have A13 := Aside0.mk A130
        clear A130
        replace H := Option.bind_eq_some_iff.mp H
        obtain ⟨⟨t133, t134⟩, A140, H⟩ := H
        replace H : (if 0 ≤ a2 then (if t132 = 0 then (if t134 = 0 then (if a0 ≤ a1 then (if t131 > t133 then (some false) else (if (shl .i64 1 a2) = 0 then (none) else (if t131 > (wrap64 (Int.tdiv (2305843009213693952 : Int) (shl .i64 1 a2))) then (some false) else (if t131 < (wrap64 (-(Int.tdiv (2305843009213693952 : Int) (shl .i64 1 a2)))) then (some false) else (if (wrap64 (2 * (wrap64 (a0 - (wrap64 (t131 * (shl .i64 1 a2))))))) < (shl .i64 1 a2) then (if (wrap64 (2 * (wrap64 (a0 - (wrap64 (t131 * (shl .i64 1 a2))))))) ≥ (wrap64 (-(shl .i64 1 a2))) then ((bitloftlaw03_alive.f kj3).bind fun t135 => (some t135)) else (some false)) else (some false)))))) else (if (shl .i64 1 a2) = 0 then (none) else (if t131 > (wrap64 (Int.tdiv (2305843009213693952 : Int) (shl .i64 1 a2))) then (some false) else (if t131 < (wrap64 (-(Int.tdiv (2305843009213693952 : Int) (shl .i64 1 a2)))) then (some false) else (if (wrap64 (2 * (wrap64 (a0 - (wrap64 (t131 * (shl .i64 1 a2))))))) < (shl .i64 1 a2) then (if (wrap64 (2 * (wrap64 (a0 - (wrap64 (t131 * (shl .i64 1 a2))))))) ≥ (wrap64 (-(shl .i64 1 a2))) then ((bitloftlaw03_alive.f kj3).bind fun t136 => (some t136)) else (some false)) else (some false)))))) else (some false)) else (some false)) else (none)) = some r := H
        have A14 := Aside0.mk A140
        clear A140
        by_cases c15 : 0 ≤ a2
        · rw [if_pos c15] at H
          have c15b0 := eq_true c15
          have c15b1 : decide (0 ≤ a2) = true := decide_eq_true c15
          clear c15
          obtain ⟨ji16, hji16⟩ : ∃ j_ : Int, (shl .i64 1 a2) = j_ := ⟨_, rfl⟩
          replace H : (if t132 = 0 then (if t134 = 0 then (if a0 ≤ a1 then (if t131 > t133 then (some false) else (if (ji16) = 0 then (none) else (if t131 > (wrap64 (Int.tdiv (2305843009213693952 : Int) (ji16))) then (some false) else (if t131 < (wrap64 (-(Int.tdiv (2305843009213693952 : Int) (ji16)))) then (some false) else (if (wrap64 (2 * (wrap64 (a0 - (wrap64 (t131 * (ji16))))))) < (ji16) then (if (wrap64 (2 * (wrap64 (a0 - (wrap64 (t131 * (ji16))))))) ≥ (wrap64 (-(ji16))) then ((bitloftlaw03_alive.f kj3).bind fun t135 => (some t135)) else (some false)) else (some false)))))) else (if (ji16) = 0 then (none) else (if t131 > (wrap64 (Int.tdiv (2305843009213693952 : Int) (ji16))) then (some false) else (if t131 < (wrap64 (-(Int.tdiv (2305843009213693952 : Int) (ji16)))) then (some false) else (if (wrap64 (2 * (wrap64 (a0 - (wrap64 (t131 * (ji16))))))) < (ji16) then (if (wrap64 (2 * (wrap64 (a0 - (wrap64 (t131 * (ji16))))))) ≥ (wrap64 (-(ji16))) then ((bitloftlaw03_alive.f kj3).bind fun t136 => (some t136)) else (some false)) else (some false)))))) else (some false)) else (some false)) = some r := by first | (rw [hji16] at H; exact H) | (simp only [hji16] at H ⊢; exact H)
          (try rw [hji16] at A13)
          (try rw [hji16] at A14)
          have hji16_ : (IntKind.i64.wrap (1 * 2 ^ min a2.toNat 64)) = ji16 := hji16
          have hji16z : a2 ≤ 64 → (IntKind.i64.wrap (1 * 2 ^ a2.toNat)) = ji16 := shl_small hji16
          have hji16u : (IntKind.i64.wrap (2 ^ min a2.toNat 64)) = ji16 := by have h_ := hji16_; rw [Int.one_mul] at h_; exact h_
          have hji16v : a2 ≤ 64 → (IntKind.i64.wrap (2 ^ a2.toNat)) = ji16 := fun hle_ => by have h_ := hji16z hle_; rw [Int.one_mul] at h_; exact h_
          have hji16y : (wrap64 (1 * 2 ^ min a2.toNat 64)) = ji16 := (i64_w _).symm.trans hji16_
          have hji16x : a2 ≤ 64 → (wrap64 (1 * 2 ^ a2.toNat)) = ji16 := fun h_ => (i64_w _).symm.trans (hji16z h_)
          by_cases c17 : t132 = 0
          · rw [if_pos c17] at H
            have c17b0 : (t132 == 0) = true := beq_iff_eq.mpr c17
            have c17b1 : (t132 != 0) = false := bne_eq_false_iff_eq.mpr c17
            clear c17
            by_cases c18 : t134 = 0
            · rw [if_pos c18] at H
              have c18b0 : (t134 == 0) = true := beq_iff_eq.mpr c18
              have c18b1 : (t134 != 0) = false := bne_eq_false_iff_eq.mpr c18
              clear c18
              by_cases c19 : a0 ≤ a1
              · rw [if_pos c19] at H
                have c19b0 : decide (a0 ≤ a1) = true := decide_eq_true c19
                clear c19
                by_cases c20 : t131 > t133
                · rw [if_pos c20] at H
                  have c20b0 : decide (t133 < t131) = true := decide_eq_true c20
                  clear c20
                  obtain rfl := Option.some.inj H
                  go_wp2_with (first | ((with_reducible refine gate_callee (f := 10) rfl ?_); refine goesL_ (some 39) rfl rfl Try.func10 (by kernel_rfl) rfl #[.int .i64 a0, .int .i64 a2] rfl (by (try simp only [List.map_toArray, List.map_cons, List.map_nil]); first | done | rfl | (simp only [List.length_drop, List.length_take]; rfl)) ?_; (with_reducible refine (fixed_Round.calls kj3 a0 a2 t131 t132 _ A13.out).mono ?_); rintro e w' ⟨rfl, ⟨nd, rfl⟩⟩; refine ⟨_, rfl, ?_⟩) | ((with_reducible refine gate_callee (f := 10) rfl ?_); refine goesL_ (some 45) rfl rfl Try.func10 (by kernel_rfl) rfl #[.int .i64 a1, .int .i64 a2] rfl (by (try simp only [List.map_toArray, List.map_cons, List.map_nil]); first | done | rfl | (simp only [List.length_drop, List.length_take]; rfl)) ?_; (with_reducible refine (fixed_Round.calls kj3 a1 a2 t133 t134 _ A14.out).mono ?_); rintro e w' ⟨rfl, ⟨nd, rfl⟩⟩; refine ⟨_, rfl, ?_⟩))
                  go_ret
                  exact ⟨by first | rfl | (simp [errW_none, errW_some] <;> rfl) | (simp only [← hji16]; first | rfl | (simp [errW_none, errW_some] <;> rfl)) | (simp [*, errW_none, errW_some] <;> rfl), by repeat (first | (with_reducible first | exact HB.out | apply below_alloc | apply pw_below_drewN | apply below_drew1) | exact HB.out)⟩
                · rw [if_neg c20] at H
                  have c20b0 : decide (t133 < t131) = false := decide_eq_false c20
                  clear c20
                  by_cases c21 : (ji16) = 0
                  · rw [if_pos c21] at H
                    exact absurd H (by simp)
                  · rw [if_neg c21] at H
                    have c21b0 : ((ji16) == 0) = false := beq_eq_false_iff_ne.mpr c21
                    have c21b1 : ((ji16) != 0) = true := bne_iff_ne.mpr c21
                    by_cases c22 : t131 > (wrap64 (Int.tdiv (2305843009213693952 : Int) (ji16)))
                    · rw [if_pos c22] at H
                      have c22b0 : decide ((wrap64 (Int.tdiv (2305843009213693952 : Int) (ji16))) < t131) = true := decide_eq_true c22
                      clear c22
                      obtain rfl := Option.some.inj H
                      go_wp2_with (first | ((with_reducible refine gate_callee (f := 10) rfl ?_); refine goesL_ (some 39) rfl rfl Try.func10 (by kernel_rfl) rfl #[.int .i64 a0, .int .i64 a2] rfl (by (try simp only [List.map_toArray, List.map_cons, List.map_nil]); first | done | rfl | (simp only [List.length_drop, List.length_take]; rfl)) ?_; (with_reducible refine (fixed_Round.calls kj3 a0 a2 t131 t132 _ A13.out).mono ?_); rintro e w' ⟨rfl, ⟨nd, rfl⟩⟩; refine ⟨_, rfl, ?_⟩) | ((with_reducible refine gate_callee (f := 10) rfl ?_); refine goesL_ (some 45) rfl rfl Try.func10 (by kernel_rfl) rfl #[.int .i64 a1, .int .i64 a2] rfl (by (try simp only [List.map_toArray, List.map_cons, List.map_nil]); first | done | rfl | (simp only [List.length_drop, List.length_take]; rfl)) ?_; (with_reducible refine (fixed_Round.calls kj3 a1 a2 t133 t134 _ A14.out).mono ?_); rintro e w' ⟨rfl, ⟨nd, rfl⟩⟩; refine ⟨_, rfl, ?_⟩))
                      go_ret
                      exact ⟨by first | rfl | (simp [errW_none, errW_some] <;> rfl) | (simp only [← hji16]; first | rfl | (simp [errW_none, errW_some] <;> rfl)) | (simp [*, errW_none, errW_some] <;> rfl), by repeat (first | (with_reducible first | exact HB.out | apply below_alloc | apply pw_below_drewN | apply below_drew1) | exact HB.out)⟩
                    · rw [if_neg c22] at H
                      have c22b0 : decide ((wrap64 (Int.tdiv (2305843009213693952 : Int) (ji16))) < t131) = false := decide_eq_false c22
                      clear c22
                      by_cases c23 : t131 < (wrap64 (-(Int.tdiv (2305843009213693952 : Int) (ji16))))
                      · rw [if_pos c23] at H
                        have c23b0 : decide (t131 < (wrap64 (-(Int.tdiv (2305843009213693952 : Int) (ji16))))) = true := decide_eq_true c23
                        clear c23
                        obtain rfl := Option.some.inj H
                        go_wp2_with (first | ((with_reducible refine gate_callee (f := 10) rfl ?_); refine goesL_ (some 39) rfl rfl Try.func10 (by kernel_rfl) rfl #[.int .i64 a0, .int .i64 a2] rfl (by (try simp only [List.map_toArray, List.map_cons, List.map_nil]); first | done | rfl | (simp only [List.length_drop, List.length_take]; rfl)) ?_; (with_reducible refine (fixed_Round.calls kj3 a0 a2 t131 t132 _ A13.out).mono ?_); rintro e w' ⟨rfl, ⟨nd, rfl⟩⟩; refine ⟨_, rfl, ?_⟩) | ((with_reducible refine gate_callee (f := 10) rfl ?_); refine goesL_ (some 45) rfl rfl Try.func10 (by kernel_rfl) rfl #[.int .i64 a1, .int .i64 a2] rfl (by (try simp only [List.map_toArray, List.map_cons, List.map_nil]); first | done | rfl | (simp only [List.length_drop, List.length_take]; rfl)) ?_; (with_reducible refine (fixed_Round.calls kj3 a1 a2 t133 t134 _ A14.out).mono ?_); rintro e w' ⟨rfl, ⟨nd, rfl⟩⟩; refine ⟨_, rfl, ?_⟩))
                        go_ret
                        exact ⟨by first | rfl | (simp [errW_none, errW_some] <;> rfl) | (simp only [← hji16]; first | rfl | (simp [errW_none, errW_some] <;> rfl)) | (simp [*, errW_none, errW_some] <;> rfl), by repeat (first | (with_reducible first | exact HB.out | apply below_alloc | apply pw_below_drewN | apply below_drew1) | exact HB.out)⟩
                      · rw [if_neg c23] at H
                        have c23b0 : decide (t131 < (wrap64 (-(Int.tdiv (2305843009213693952 : Int) (ji16))))) = false := decide_eq_false c23
                        clear c23
                        by_cases c24 : (wrap64 (2 * (wrap64 (a0 - (wrap64 (t131 * (ji16))))))) < (ji16)
                        · rw [if_pos c24] at H
                          have c24b0 : decide ((wrap64 (2 * (wrap64 (a0 - (wrap64 (t131 * (ji16))))))) < (ji16)) = true := decide_eq_true c24
                          clear c24
                          by_cases c25 : (wrap64 (2 * (wrap64 (a0 - (wrap64 (t131 * (ji16))))))) ≥ (wrap64 (-(ji16)))
                          · rw [if_pos c25] at H
                            have c25b0 : decide ((wrap64 (-(ji16))) ≤ (wrap64 (2 * (wrap64 (a0 - (wrap64 (t131 * (ji16)))))))) = true := decide_eq_true c25
                            clear c25
                            replace H := Option.bind_eq_some_iff.mp H
                            obtain ⟨t135, A260, H⟩ := H
                            replace H : (some t135) = some r := H
                            have A26 := Aside0.mk A260
                            clear A260
                            obtain rfl := Option.some.inj H
                            go_wp2_with (first | ((with_reducible refine gate_callee (f := 10) rfl ?_); refine goesL_ (some 39) rfl rfl Try.func10 (by kernel_rfl) rfl #[.int .i64 a0, .int .i64 a2] rfl (by (try simp only [List.map_toArray, List.map_cons, List.map_nil]); first | done | rfl | (simp only [List.length_drop, List.length_take]; rfl)) ?_; (with_reducible refine (fixed_Round.calls kj3 a0 a2 t131 t132 _ A13.out).mono ?_); rintro e w' ⟨rfl, ⟨nd, rfl⟩⟩; refine ⟨_, rfl, ?_⟩) | ((with_reducible refine gate_callee (f := 10) rfl ?_); refine goesL_ (some 45) rfl rfl Try.func10 (by kernel_rfl) rfl #[.int .i64 a1, .int .i64 a2] rfl (by (try simp only [List.map_toArray, List.map_cons, List.map_nil]); first | done | rfl | (simp only [List.length_drop, List.length_take]; rfl)) ?_; (with_reducible refine (fixed_Round.calls kj3 a1 a2 t133 t134 _ A14.out).mono ?_); rintro e w' ⟨rfl, ⟨nd, rfl⟩⟩; refine ⟨_, rfl, ?_⟩) | (go_at_call 22; (with_reducible refine (bitloftlaw03_alive.calls kj3  t135 _ A26.out).mono ?_); rintro e w27 ⟨rfl, hb⟩; have n0_ := Aside0.mk (below_step (by repeat (first | (with_reducible first | exact HB.out | apply below_alloc | apply pw_below_drewN | apply below_drew1) | exact HB.out)) hb); clear HB; have HB := n0_; clear n0_; (try clear hb); (try clear hb2); (try clear hk); (try clear hi)))
                            go_ret
                            exact ⟨by first | rfl | (simp [errW_none, errW_some] <;> rfl) | (simp only [← hji16]; first | rfl | (simp [errW_none, errW_some] <;> rfl)) | (simp [*, errW_none, errW_some] <;> rfl), by repeat (first | (with_reducible first | exact HB.out | apply below_alloc | apply pw_below_drewN | apply below_drew1) | exact HB.out)⟩
                          · rw [if_neg c25] at H
                            have c25b0 : decide ((wrap64 (-(ji16))) ≤ (wrap64 (2 * (wrap64 (a0 - (wrap64 (t131 * (ji16)))))))) = false := decide_eq_false c25
                            clear c25
                            obtain rfl := Option.some.inj H
                            go_wp2_with (first | ((with_reducible refine gate_callee (f := 10) rfl ?_); refine goesL_ (some 39) rfl rfl Try.func10 (by kernel_rfl) rfl #[.int .i64 a0, .int .i64 a2] rfl (by (try simp only [List.map_toArray, List.map_cons, List.map_nil]); first | done | rfl | (simp only [List.length_drop, List.length_take]; rfl)) ?_; (with_reducible refine (fixed_Round.calls kj3 a0 a2 t131 t132 _ A13.out).mono ?_); rintro e w' ⟨rfl, ⟨nd, rfl⟩⟩; refine ⟨_, rfl, ?_⟩) | ((with_reducible refine gate_callee (f := 10) rfl ?_); refine goesL_ (some 45) rfl rfl Try.func10 (by kernel_rfl) rfl #[.int .i64 a1, .int .i64 a2] rfl (by (try simp only [List.map_toArray, List.map_cons, List.map_nil]); first | done | rfl | (simp only [List.length_drop, List.length_take]; rfl)) ?_; (with_reducible refine (fixed_Round.calls kj3 a1 a2 t133 t134 _ A14.out).mono ?_); rintro e w' ⟨rfl, ⟨nd, rfl⟩⟩; refine ⟨_, rfl, ?_⟩))
                            go_ret
                            exact ⟨by first | rfl | (simp [errW_none, errW_some] <;> rfl) | (simp only [← hji16]; first | rfl | (simp [errW_none, errW_some] <;> rfl)) | (simp [*, errW_none, errW_some] <;> rfl), by repeat (first | (with_reducible first | exact HB.out | apply below_alloc | apply pw_below_drewN | apply below_drew1) | exact HB.out)⟩
                        · rw [if_neg c24] at H
                          have c24b0 : decide ((wrap64 (2 * (wrap64 (a0 - (wrap64 (t131 * (ji16))))))) < (ji16)) = false := decide_eq_false c24
                          clear c24
                          obtain rfl := Option.some.inj H
                          go_wp2_with (first | ((with_reducible refine gate_callee (f := 10) rfl ?_); refine goesL_ (some 39) rfl rfl Try.func10 (by kernel_rfl) rfl #[.int .i64 a0, .int .i64 a2] rfl (by (try simp only [List.map_toArray, List.map_cons, List.map_nil]); first | done | rfl | (simp only [List.length_drop, List.length_take]; rfl)) ?_; (with_reducible refine (fixed_Round.calls kj3 a0 a2 t131 t132 _ A13.out).mono ?_); rintro e w' ⟨rfl, ⟨nd, rfl⟩⟩; refine ⟨_, rfl, ?_⟩) | ((with_reducible refine gate_callee (f := 10) rfl ?_); refine goesL_ (some 45) rfl rfl Try.func10 (by kernel_rfl) rfl #[.int .i64 a1, .int .i64 a2] rfl (by (try simp only [List.map_toArray, List.map_cons, List.map_nil]); first | done | rfl | (simp only [List.length_drop, List.length_take]; rfl)) ?_; (with_reducible refine (fixed_Round.calls kj3 a1 a2 t133 t134 _ A14.out).mono ?_); rintro e w' ⟨rfl, ⟨nd, rfl⟩⟩; refine ⟨_, rfl, ?_⟩))
                          go_ret
                          exact ⟨by first | rfl | (simp [errW_none, errW_some] <;> rfl) | (simp only [← hji16]; first | rfl | (simp [errW_none, errW_some] <;> rfl)) | (simp [*, errW_none, errW_some] <;> rfl), by repeat (first | (with_reducible first | exact HB.out | apply below_alloc | apply pw_below_drewN | apply below_drew1) | exact HB.out)⟩
              · rw [if_neg c19] at H
                have c19b0 : decide (a0 ≤ a1) = false := decide_eq_false c19
                clear c19
                by_cases c28 : (ji16) = 0
                · rw [if_pos c28] at H
                  exact absurd H (by simp)
                · rw [if_neg c28] at H
                  have c28b0 : ((ji16) == 0) = false := beq_eq_false_iff_ne.mpr c28
                  have c28b1 : ((ji16) != 0) = true := bne_iff_ne.mpr c28
                  by_cases c29 : t131 > (wrap64 (Int.tdiv (2305843009213693952 : Int) (ji16)))
                  · rw [if_pos c29] at H
                    have c29b0 : decide ((wrap64 (Int.tdiv (2305843009213693952 : Int) (ji16))) < t131) = true := decide_eq_true c29
                    clear c29
                    obtain rfl := Option.some.inj H
                    go_wp2_with (first | ((with_reducible refine gate_callee (f := 10) rfl ?_); refine goesL_ (some 39) rfl rfl Try.func10 (by kernel_rfl) rfl #[.int .i64 a0, .int .i64 a2] rfl (by (try simp only [List.map_toArray, List.map_cons, List.map_nil]); first | done | rfl | (simp only [List.length_drop, List.length_take]; rfl)) ?_; (with_reducible refine (fixed_Round.calls kj3 a0 a2 t131 t132 _ A13.out).mono ?_); rintro e w' ⟨rfl, ⟨nd, rfl⟩⟩; refine ⟨_, rfl, ?_⟩) | ((with_reducible refine gate_callee (f := 10) rfl ?_); refine goesL_ (some 45) rfl rfl Try.func10 (by kernel_rfl) rfl #[.int .i64 a1, .int .i64 a2] rfl (by (try simp only [List.map_toArray, List.map_cons, List.map_nil]); first | done | rfl | (simp only [List.length_drop, List.length_take]; rfl)) ?_; (with_reducible refine (fixed_Round.calls kj3 a1 a2 t133 t134 _ A14.out).mono ?_); rintro e w' ⟨rfl, ⟨nd, rfl⟩⟩; refine ⟨_, rfl, ?_⟩))
                    go_ret
                    exact ⟨by first | rfl | (simp [errW_none, errW_some] <;> rfl) | (simp only [← hji16]; first | rfl | (simp [errW_none, errW_some] <;> rfl)) | (simp [*, errW_none, errW_some] <;> rfl), by repeat (first | (with_reducible first | exact HB.out | apply below_alloc | apply pw_below_drewN | apply below_drew1) | exact HB.out)⟩
                  · rw [if_neg c29] at H
                    have c29b0 : decide ((wrap64 (Int.tdiv (2305843009213693952 : Int) (ji16))) < t131) = false := decide_eq_false c29
                    clear c29
                    by_cases c30 : t131 < (wrap64 (-(Int.tdiv (2305843009213693952 : Int) (ji16))))
                    · rw [if_pos c30] at H
                      have c30b0 : decide (t131 < (wrap64 (-(Int.tdiv (2305843009213693952 : Int) (ji16))))) = true := decide_eq_true c30
                      clear c30
                      obtain rfl := Option.some.inj H
                      go_wp2_with (first | ((with_reducible refine gate_callee (f := 10) rfl ?_); refine goesL_ (some 39) rfl rfl Try.func10 (by kernel_rfl) rfl #[.int .i64 a0, .int .i64 a2] rfl (by (try simp only [List.map_toArray, List.map_cons, List.map_nil]); first | done | rfl | (simp only [List.length_drop, List.length_take]; rfl)) ?_; (with_reducible refine (fixed_Round.calls kj3 a0 a2 t131 t132 _ A13.out).mono ?_); rintro e w' ⟨rfl, ⟨nd, rfl⟩⟩; refine ⟨_, rfl, ?_⟩) | ((with_reducible refine gate_callee (f := 10) rfl ?_); refine goesL_ (some 45) rfl rfl Try.func10 (by kernel_rfl) rfl #[.int .i64 a1, .int .i64 a2] rfl (by (try simp only [List.map_toArray, List.map_cons, List.map_nil]); first | done | rfl | (simp only [List.length_drop, List.length_take]; rfl)) ?_; (with_reducible refine (fixed_Round.calls kj3 a1 a2 t133 t134 _ A14.out).mono ?_); rintro e w' ⟨rfl, ⟨nd, rfl⟩⟩; refine ⟨_, rfl, ?_⟩))
                      go_ret
                      exact ⟨by first | rfl | (simp [errW_none, errW_some] <;> rfl) | (simp only [← hji16]; first | rfl | (simp [errW_none, errW_some] <;> rfl)) | (simp [*, errW_none, errW_some] <;> rfl), by repeat (first | (with_reducible first | exact HB.out | apply below_alloc | apply pw_below_drewN | apply below_drew1) | exact HB.out)⟩
                    · rw [if_neg c30] at H
                      have c30b0 : decide (t131 < (wrap64 (-(Int.tdiv (2305843009213693952 : Int) (ji16))))) = false := decide_eq_false c30
                      clear c30
                      by_cases c31 : (wrap64 (2 * (wrap64 (a0 - (wrap64 (t131 * (ji16))))))) < (ji16)
                      · rw [if_pos c31] at H
                        have c31b0 : decide ((wrap64 (2 * (wrap64 (a0 - (wrap64 (t131 * (ji16))))))) < (ji16)) = true := decide_eq_true c31
                        clear c31
                        by_cases c32 : (wrap64 (2 * (wrap64 (a0 - (wrap64 (t131 * (ji16))))))) ≥ (wrap64 (-(ji16)))
                        · rw [if_pos c32] at H
                          have c32b0 : decide ((wrap64 (-(ji16))) ≤ (wrap64 (2 * (wrap64 (a0 - (wrap64 (t131 * (ji16)))))))) = true := decide_eq_true c32
                          clear c32
                          replace H := Option.bind_eq_some_iff.mp H
                          obtain ⟨t136, A330, H⟩ := H
                          replace H : (some t136) = some r := H
                          have A33 := Aside0.mk A330
                          clear A330
                          obtain rfl := Option.some.inj H
                          go_wp2_with (first | ((with_reducible refine gate_callee (f := 10) rfl ?_); refine goesL_ (some 39) rfl rfl Try.func10 (by kernel_rfl) rfl #[.int .i64 a0, .int .i64 a2] rfl (by (try simp only [List.map_toArray, List.map_cons, List.map_nil]); first | done | rfl | (simp only [List.length_drop, List.length_take]; rfl)) ?_; (with_reducible refine (fixed_Round.calls kj3 a0 a2 t131 t132 _ A13.out).mono ?_); rintro e w' ⟨rfl, ⟨nd, rfl⟩⟩; refine ⟨_, rfl, ?_⟩) | ((with_reducible refine gate_callee (f := 10) rfl ?_); refine goesL_ (some 45) rfl rfl Try.func10 (by kernel_rfl) rfl #[.int .i64 a1, .int .i64 a2] rfl (by (try simp only [List.map_toArray, List.map_cons, List.map_nil]); first | done | rfl | (simp only [List.length_drop, List.length_take]; rfl)) ?_; (with_reducible refine (fixed_Round.calls kj3 a1 a2 t133 t134 _ A14.out).mono ?_); rintro e w' ⟨rfl, ⟨nd, rfl⟩⟩; refine ⟨_, rfl, ?_⟩) | (go_at_call 22; (with_reducible refine (bitloftlaw03_alive.calls kj3  t136 _ A33.out).mono ?_); rintro e w34 ⟨rfl, hb⟩; have n0_ := Aside0.mk (below_step (by repeat (first | (with_reducible first | exact HB.out | apply below_alloc | apply pw_below_drewN | apply below_drew1) | exact HB.out)) hb); clear HB; have HB := n0_; clear n0_; (try clear hb); (try clear hb2); (try clear hk); (try clear hi)))
                          go_ret
                          exact ⟨by first | rfl | (simp [errW_none, errW_some] <;> rfl) | (simp only [← hji16]; first | rfl | (simp [errW_none, errW_some] <;> rfl)) | (simp [*, errW_none, errW_some] <;> rfl), by repeat (first | (with_reducible first | exact HB.out | apply below_alloc | apply pw_below_drewN | apply below_drew1) | exact HB.out)⟩
                        · rw [if_neg c32] at H
                          have c32b0 : decide ((wrap64 (-(ji16))) ≤ (wrap64 (2 * (wrap64 (a0 - (wrap64 (t131 * (ji16)))))))) = false := decide_eq_false c32
                          clear c32
                          obtain rfl := Option.some.inj H
                          go_wp2_with (first | ((with_reducible refine gate_callee (f := 10) rfl ?_); refine goesL_ (some 39) rfl rfl Try.func10 (by kernel_rfl) rfl #[.int .i64 a0, .int .i64 a2] rfl (by (try simp only [List.map_toArray, List.map_cons, List.map_nil]); first | done | rfl | (simp only [List.length_drop, List.length_take]; rfl)) ?_; (with_reducible refine (fixed_Round.calls kj3 a0 a2 t131 t132 _ A13.out).mono ?_); rintro e w' ⟨rfl, ⟨nd, rfl⟩⟩; refine ⟨_, rfl, ?_⟩) | ((with_reducible refine gate_callee (f := 10) rfl ?_); refine goesL_ (some 45) rfl rfl Try.func10 (by kernel_rfl) rfl #[.int .i64 a1, .int .i64 a2] rfl (by (try simp only [List.map_toArray, List.map_cons, List.map_nil]); first | done | rfl | (simp only [List.length_drop, List.length_take]; rfl)) ?_; (with_reducible refine (fixed_Round.calls kj3 a1 a2 t133 t134 _ A14.out).mono ?_); rintro e w' ⟨rfl, ⟨nd, rfl⟩⟩; refine ⟨_, rfl, ?_⟩))
                          go_ret
                          exact ⟨by first | rfl | (simp [errW_none, errW_some] <;> rfl) | (simp only [← hji16]; first | rfl | (simp [errW_none, errW_some] <;> rfl)) | (simp [*, errW_none, errW_some] <;> rfl), by repeat (first | (with_reducible first | exact HB.out | apply below_alloc | apply pw_below_drewN | apply below_drew1) | exact HB.out)⟩
                      · rw [if_neg c31] at H
                        have c31b0 : decide ((wrap64 (2 * (wrap64 (a0 - (wrap64 (t131 * (ji16))))))) < (ji16)) = false := decide_eq_false c31
                        clear c31
                        obtain rfl := Option.some.inj H
                        go_wp2_with (first | ((with_reducible refine gate_callee (f := 10) rfl ?_); refine goesL_ (some 39) rfl rfl Try.func10 (by kernel_rfl) rfl #[.int .i64 a0, .int .i64 a2] rfl (by (try simp only [List.map_toArray, List.map_cons, List.map_nil]); first | done | rfl | (simp only [List.length_drop, List.length_take]; rfl)) ?_; (with_reducible refine (fixed_Round.calls kj3 a0 a2 t131 t132 _ A13.out).mono ?_); rintro e w' ⟨rfl, ⟨nd, rfl⟩⟩; refine ⟨_, rfl, ?_⟩) | ((with_reducible refine gate_callee (f := 10) rfl ?_); refine goesL_ (some 45) rfl rfl Try.func10 (by kernel_rfl) rfl #[.int .i64 a1, .int .i64 a2] rfl (by (try simp only [List.map_toArray, List.map_cons, List.map_nil]); first | done | rfl | (simp only [List.length_drop, List.length_take]; rfl)) ?_; (with_reducible refine (fixed_Round.calls kj3 a1 a2 t133 t134 _ A14.out).mono ?_); rintro e w' ⟨rfl, ⟨nd, rfl⟩⟩; refine ⟨_, rfl, ?_⟩))
                        go_ret
                        exact ⟨by first | rfl | (simp [errW_none, errW_some] <;> rfl) | (simp only [← hji16]; first | rfl | (simp [errW_none, errW_some] <;> rfl)) | (simp [*, errW_none, errW_some] <;> rfl), by repeat (first | (with_reducible first | exact HB.out | apply below_alloc | apply pw_below_drewN | apply below_drew1) | exact HB.out)⟩
            · rw [if_neg c18] at H
              have c18b0 : (t134 == 0) = false := beq_eq_false_iff_ne.mpr c18
              have c18b1 : (t134 != 0) = true := bne_iff_ne.mpr c18
              obtain rfl := Option.some.inj H
              go_wp2_with (first | ((with_reducible refine gate_callee (f := 10) rfl ?_); refine goesL_ (some 39) rfl rfl Try.func10 (by kernel_rfl) rfl #[.int .i64 a0, .int .i64 a2] rfl (by (try simp only [List.map_toArray, List.map_cons, List.map_nil]); first | done | rfl | (simp only [List.length_drop, List.length_take]; rfl)) ?_; (with_reducible refine (fixed_Round.calls kj3 a0 a2 t131 t132 _ A13.out).mono ?_); rintro e w' ⟨rfl, ⟨nd, rfl⟩⟩; refine ⟨_, rfl, ?_⟩) | ((with_reducible refine gate_callee (f := 10) rfl ?_); refine goesL_ (some 45) rfl rfl Try.func10 (by kernel_rfl) rfl #[.int .i64 a1, .int .i64 a2] rfl (by (try simp only [List.map_toArray, List.map_cons, List.map_nil]); first | done | rfl | (simp only [List.length_drop, List.length_take]; rfl)) ?_; (with_reducible refine (fixed_Round.calls kj3 a1 a2 t133 t134 _ A14.out).mono ?_); rintro e w' ⟨rfl, ⟨nd, rfl⟩⟩; refine ⟨_, rfl, ?_⟩))
              go_ret
              exact ⟨by first | rfl | (simp [errW_none, errW_some] <;> rfl) | (simp only [← hji16]; first | rfl | (simp [errW_none, errW_some] <;> rfl)) | (simp [*, errW_none, errW_some] <;> rfl), by repeat (first | (with_reducible first | exact HB.out | apply below_alloc | apply pw_below_drewN | apply below_drew1) | exact HB.out)⟩
          · rw [if_neg c17] at H
            have c17b0 : (t132 == 0) = false := beq_eq_false_iff_ne.mpr c17
            have c17b1 : (t132 != 0) = true := bne_iff_ne.mpr c17
            obtain rfl := Option.some.inj H
            go_wp2_with (first | ((with_reducible refine gate_callee (f := 10) rfl ?_); refine goesL_ (some 39) rfl rfl Try.func10 (by kernel_rfl) rfl #[.int .i64 a0, .int .i64 a2] rfl (by (try simp only [List.map_toArray, List.map_cons, List.map_nil]); first | done | rfl | (simp only [List.length_drop, List.length_take]; rfl)) ?_; (with_reducible refine (fixed_Round.calls kj3 a0 a2 t131 t132 _ A13.out).mono ?_); rintro e w' ⟨rfl, ⟨nd, rfl⟩⟩; refine ⟨_, rfl, ?_⟩) | ((with_reducible refine gate_callee (f := 10) rfl ?_); refine goesL_ (some 45) rfl rfl Try.func10 (by kernel_rfl) rfl #[.int .i64 a1, .int .i64 a2] rfl (by (try simp only [List.map_toArray, List.map_cons, List.map_nil]); first | done | rfl | (simp only [List.length_drop, List.length_take]; rfl)) ?_; (with_reducible refine (fixed_Round.calls kj3 a1 a2 t133 t134 _ A14.out).mono ?_); rintro e w' ⟨rfl, ⟨nd, rfl⟩⟩; refine ⟨_, rfl, ?_⟩))
            go_ret
            exact ⟨by first | rfl | (simp [errW_none, errW_some] <;> rfl) | (simp only [← hji16]; first | rfl | (simp [errW_none, errW_some] <;> rfl)) | (simp [*, errW_none, errW_some] <;> rfl), by repeat (first | (with_reducible first | exact HB.out | apply below_alloc | apply pw_below_drewN | apply below_drew1) | exact HB.out)⟩
        · rw [if_neg c15] at H
          exact absurd H (by simp)

/-- THE ONE PURE STATEMENT of bitloftlaw03_FixedRounds: yours. -/
def bitloftlaw03_FixedRounds.Pure : Prop := ∀ (a0 : Int) (a1 : Int) (a2 : Int), (Lit.int .i64 a0).wf = true → (Lit.int .i64 a1).wf = true → (Lit.int .i64 a2).wf = true → ∃ k, bitloftlaw03_FixedRounds.f k a0 a1 a2 = some true
theorem bitloftlaw03_FixedRounds.walk (P : bitloftlaw03_FixedRounds.Pure) (a0 : Int) (a1 : Int) (a2 : Int) (w : World) (w0 : (Lit.int .i64 a0).wf = true) (w1 : (Lit.int .i64 a1).wf = true) (w2 : (Lit.int .i64 a2).wf = true) :
    Calls Try.prog 5 #[.int .i64 a0, .int .i64 a1, .int .i64 a2] w fun e w' => e = .returned (.bool true) ∧ Below w.heap.size w w' := by
  obtain ⟨k, h⟩ := P a0 a1 a2 w0 w1 w2
  refine (bitloftlaw03_FixedRounds.calls k a0 a1 a2 true w h).mono ?_
  rintro e w' ⟨rfl, hd⟩
  exact ⟨rfl, hd⟩

end Go.Proofs.Ytljfebmimipieaa.XFixedRounds
