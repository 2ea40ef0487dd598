-- Laid by a program of this session (wip/mkxprint.py, over the kit's print): Lean checks it.
import Derived.Test.YtljfebmimipieaaXFixedTurnsx0
import Derived.Test.YtljfebmimipieaaXFixedTurnsx1
namespace Go.Proofs.Ytljfebmimipieaa.XFixedTurns
open Go.RowKit Go.Proofs.YtljfebmimipieaaW.PrintWords Go.Proofs.YtljfebmimipieaaW.PrintLast Go.Proofs.YtljfebmimipieaaW.PrintMore
attribute [local go_sem] max2_int min2_int max_two min_two max_three min_three max_four min_four   -- for this text's walks alone
set_option linter.unusedVariables false
set_option linter.unusedSimpArgs false

/-! ### bitloftlaw03_FixedTurns: function 6 -/
mutual
def bitloftlaw03_FixedTurns.j0 : Nat → List Int → List Int → Int → Bool → Option (Bool)
  | 0, _, _, _, _ => none
  | k + 1, x0, x1, x2, x36 => if x36 = true then ((bitloftlaw03_alive.f k).bind fun t124 => (some t124)) else ((fixed_Dot.f k x0 x1).bind fun bt125 => ((fixed_Dot.f k x1 x0).bind fun bt127 => ((some (([] : List Int) : List Int)).bind fun y129 => (if 0 ≤ x2 then (if x2 ≤ (x0.length : Int) then (if y129.length + (x0.drop (x2 : Int).toNat).length < 35184372088832 then ((some (y129 ++ (x0.drop (x2 : Int).toNat) : List Int)).bind fun y133 => (if y133.length + (x0.take (x2 : Int).toNat).length < 35184372088832 then ((some (([] : List Int) : List Int)).bind fun y140 => (if x2 ≤ (x1.length : Int) then (if y140.length + (x1.drop (x2 : Int).toNat).length < 35184372088832 then ((some (y140 ++ (x1.drop (x2 : Int).toNat) : List Int)).bind fun y144 => (if y144.length + (x1.take (x2 : Int).toNat).length < 35184372088832 then ((fixed_Dot.f k (y133 ++ (x0.take (x2 : Int).toNat)) (y144 ++ (x1.take (x2 : Int).toNat))).bind fun bt151 => ((some (([] : List Int) : List Int)).bind fun y153 => (if y153.length + x0.length < 35184372088832 then ((some (y153 ++ x0 : List Int)).bind fun y156 => (if y156.length < 35184372088832 then ((some (([] : List Int) : List Int)).bind fun y162 => (if y162.length + x1.length < 35184372088832 then ((some (y162 ++ x1 : List Int)).bind fun y165 => (if y165.length < 35184372088832 then ((fixed_Dot.f k (y156 ++ [0]) (y165 ++ [(-2147483648)])).bind fun bt171 => ((fixed_Dot.f k x0 x0).bind fun bt173 => (if bt125.2 = 0 then (if bt127.2 = 0 then (if bt151.2 = 0 then (if bt171.2 = 0 then (if bt173.2 = 0 then (if bt125.1 = bt127.1 then (if bt125.1 = bt151.1 then (if bt125.1 = bt171.1 then (if bt173.1 ≥ 0 then ((bitloftlaw03_alive.f k).bind fun t175 => (bitloftlaw03_FixedTurns.j1 k t175)) else (bitloftlaw03_FixedTurns.j1 k false)) else (bitloftlaw03_FixedTurns.j1 k false)) else (bitloftlaw03_FixedTurns.j1 k false)) else (bitloftlaw03_FixedTurns.j1 k false)) else (bitloftlaw03_FixedTurns.j1 k false)) else (bitloftlaw03_FixedTurns.j1 k false)) else (bitloftlaw03_FixedTurns.j1 k false)) else (bitloftlaw03_FixedTurns.j1 k false)) else (bitloftlaw03_FixedTurns.j1 k false)))) else (none))) else (none))) else (none))) else (none)))) else (none))) else (none)) else (none))) else (none))) else (none)) else (none)) else (none)))))
def bitloftlaw03_FixedTurns.j1 : Nat → Bool → Option (Bool)
  | 0, _ => none
  | k + 1, x6 => some x6
end
def bitloftlaw03_FixedTurns.f (k : Nat) (l0 : List Int) (l1 : List Int) (a2 : Int) : Option (Bool) := if (l0.length : Int) > 15 then (bitloftlaw03_FixedTurns.j0 k l0 l1 a2 true) else (if (l1.length : Int) = (l0.length : Int) then (if a2 < 0 then (bitloftlaw03_FixedTurns.j0 k l0 l1 a2 true) else (bitloftlaw03_FixedTurns.j0 k l0 l1 a2 (decide (a2 > (l0.length : Int))))) else (bitloftlaw03_FixedTurns.j0 k l0 l1 a2 true))
theorem bitloftlaw03_FixedTurns.mono_l : ∀ k, (∀ y0 y1 y2 y3, LeO (bitloftlaw03_FixedTurns.j0 k y0 y1 y2 y3) (bitloftlaw03_FixedTurns.j0 (k + 1) y0 y1 y2 y3)) ∧ (∀ y0, LeO (bitloftlaw03_FixedTurns.j1 k y0) (bitloftlaw03_FixedTurns.j1 (k + 1) y0))
  | 0 => ⟨fun _ _ _ _ r h => by simp [bitloftlaw03_FixedTurns.j0] at h, fun _ r h => by simp [bitloftlaw03_FixedTurns.j1] at h⟩
  | k + 1 => by
    obtain ⟨ih0, ih1⟩ := bitloftlaw03_FixedTurns.mono_l k
    refine ⟨?_, ?_⟩
    · intro y0 y1 y2 y3
      unfold bitloftlaw03_FixedTurns.j0
      repeat' first
      | (with_reducible exact ih0 _ _ _ _)
      | (with_reducible exact ih1 _)
      | (with_reducible exact bitloftlaw03_alive.mono _)
      | (with_reducible exact fixed_Dot.mono _ _ _)
      | (with_reducible exact LeO.refl _)
      | (with_reducible exact LeO.none _)
      | (with_reducible refine LeO.ite ?_ ?_)
      | (with_reducible refine LeO.bind ?_ (fun _ => ?_))
      | exact ih0 _ _ _ _
      | exact ih1 _
      | exact bitloftlaw03_alive.mono _
      | exact fixed_Dot.mono _ _ _
      | exact LeO.none _
      | refine LeO.ite ?_ ?_
      | refine LeO.bind ?_ (fun _ => ?_)
    · intro y0
      unfold bitloftlaw03_FixedTurns.j1
      repeat' first
      | (with_reducible exact ih0 _ _ _ _)
      | (with_reducible exact ih1 _)
      | (with_reducible exact bitloftlaw03_alive.mono _)
      | (with_reducible exact fixed_Dot.mono _ _ _)
      | (with_reducible exact LeO.refl _)
      | (with_reducible exact LeO.none _)
      | (with_reducible refine LeO.ite ?_ ?_)
      | (with_reducible refine LeO.bind ?_ (fun _ => ?_))
      | exact ih0 _ _ _ _
      | exact ih1 _
      | exact bitloftlaw03_alive.mono _
      | exact fixed_Dot.mono _ _ _
      | exact LeO.none _
      | refine LeO.ite ?_ ?_
      | refine LeO.bind ?_ (fun _ => ?_)
theorem bitloftlaw03_FixedTurns.mono : ∀ a0 a1 a2 k, LeO (bitloftlaw03_FixedTurns.f k a0 a1 a2) (bitloftlaw03_FixedTurns.f (k + 1) a0 a1 a2) := by
  intro a0 a1 a2 k
  obtain ⟨ih0, ih1⟩ := bitloftlaw03_FixedTurns.mono_l k
  unfold bitloftlaw03_FixedTurns.f
  repeat' first
      | (with_reducible exact ih0 _ _ _ _)
      | (with_reducible exact ih1 _)
      | (with_reducible exact bitloftlaw03_alive.mono _)
      | (with_reducible exact fixed_Dot.mono _ _ _)
      | (with_reducible exact LeO.refl _)
      | (with_reducible exact LeO.none _)
      | (with_reducible refine LeO.ite ?_ ?_)
      | (with_reducible refine LeO.bind ?_ (fun _ => ?_))
      | exact ih0 _ _ _ _
      | exact ih1 _
      | exact bitloftlaw03_alive.mono _
      | exact fixed_Dot.mono _ _ _
      | exact LeO.none _
      | refine LeO.ite ?_ ?_
      | refine LeO.bind ?_ (fun _ => ?_)
def bitloftlaw03_FixedTurns.T5 : Bool × List (List Nat × List Nat) := (true, [([], []), ([], []), ([], []), ([1, 2], [1, 2]), ([0, 3], [0, 3]), ([], []), ([], []), ([5, 6], [5, 6]), ([4, 7, 4], [4, 7]), ([], []), ([], []), ([], []), ([10, 11], [10, 11]), ([9, 12, 8], [9, 12]), ([], []), ([], []), ([14, 15], [14, 15]), ([13, 16, 13], [13, 16]), ([8, 17, 17], [8, 17]), ([18], [18]), ([19], [19]), ([19], [19]), ([20, 18, 0, 1, 2, 3, 4, 5, 6, 7, 8, 9, 10, 11, 12, 13, 14, 15, 16, 17, 18, 19, 20], [20]), ([21, 22, 0, 1, 2, 3, 4, 5, 6, 7, 8, 9, 10, 11, 12, 13, 14, 15, 16, 17, 18, 19, 20, 21, 22], [21])])
def bitloftlaw03_FixedTurns.B5 : List Nat := [0, 0, 0, 6, 15, 0, 0, 96, 255, 0, 0, 0, 3072, 8191, 0, 0, 49152, 131071, 262143, 524287, 1048575, 1048575, 2097151, 8388607]
theorem bitloftlaw03_FixedTurns.tab5 : rtab .any (opsOf Try.f6 5) = bitloftlaw03_FixedTurns.T5 := by kernel_rfl
theorem bitloftlaw03_FixedTurns.bits5 : waitsOk bitloftlaw03_FixedTurns.T5.2 bitloftlaw03_FixedTurns.B5 = true := by kernel_rfl
set_option maxHeartbeats 8000000 in
set_option maxRecDepth 100000 in
theorem bitloftlaw03_FixedTurns.calls (k : Nat) (A0 : Option Addr) (c0 : Nat) (l0 : List Int) (A1 : Option Addr) (c1 : Nat) (l1 : List Int) (a2 : Int) (r : Bool) (w : World) (hr0 : Kd.C (Kd.int .i32) w A0 l0.length l0) (hc0 : l0.length ≤ c0) (hr1 : Kd.C (Kd.int .i32) w A1 l1.length l1) (hc1 : l1.length ≤ c1) (h : bitloftlaw03_FixedTurns.f k l0 l1 a2 = some r) :
    Calls Try.prog 6 #[.slice A0 l0.length c0, .slice A1 l1.length c1, .int .i64 a2] w fun e w' => e = .returned (.bool r) ∧ Below w.heap.size w w' := by
  have HR0 := Aside0.mk hr0
  have HC0 := Aside0.mk hc0
  clear hr0 hc0
  have HR1 := Aside0.mk hr1
  have HC1 := Aside0.mk hc1
  clear hr1 hc1
  have HB := Aside0.mk (Below.refl w.heap.size w)
  have H : (if (l0.length : Int) > 15 then (bitloftlaw03_FixedTurns.j0 k l0 l1 a2 true) else (if (l1.length : Int) = (l0.length : Int) then (if a2 < 0 then (bitloftlaw03_FixedTurns.j0 k l0 l1 a2 true) else (bitloftlaw03_FixedTurns.j0 k l0 l1 a2 (decide (a2 > (l0.length : Int))))) else (bitloftlaw03_FixedTurns.j0 k l0 l1 a2 true))) = some r := h
  clear h
  have HC4 := Aside0.mk H
  clear H
  go_enter Try.func6, Try.ntmps6
  go_upto_region 1 with (fail)
  go_cut [36] (fun v36 wc => ∃ (kq : Nat) (x36_3 : Bool), v36 = .bool x36_3 ∧ Aside0 (bitloftlaw03_FixedTurns.j0 kq l0 l1 a2 x36_3 = some r) ∧ Aside0 (kq ≤ k) ∧ Aside0 (Below w.heap.size w wc))
  case first =>
    have H := HC4.out
    clear HC4
    by_cases c5 : (l0.length : Int) > 15
    · rw [if_pos c5] at H
      have c5b0 : decide (15 < (l0.length : Int)) = true := decide_eq_true c5
      have c5b1 : decide (15 < l0.length) = true := decide_eq_true (by omega)
      clear c5
      (first | rw [c5b0] | (simp only [i64_w, i32_w]; rw [c5b0]) | skip)
      have H' := Aside0.mk H
      clear H
      go_wp2
      go_meet
      case rel => exact ⟨_, (true), (by first | rfl | (simp; done) | (simp [*]; done)), H', ⟨by first | omega | exact Nat.le_refl _⟩, ⟨by repeat (first | (with_reducible first | exact HB.out | apply below_alloc | apply pw_below_drewN | apply below_drew1) | exact HB.out)⟩⟩
    · rw [if_neg c5] at H
      have c5b0 : decide (15 < (l0.length : Int)) = false := decide_eq_false c5
      have c5b1 : decide (15 < l0.length) = false := decide_eq_false (by omega)
      clear c5
      (first | rw [c5b0] | (simp only [i64_w, i32_w]; rw [c5b0]) | skip)
      by_cases c6 : (l1.length : Int) = (l0.length : Int)
      · rw [if_pos c6] at H
        have c6b0 : ((l1.length : Int) == (l0.length : Int)) = true := beq_iff_eq.mpr c6
        have c6b1 : ((l1.length : Int) != (l0.length : Int)) = false := bne_eq_false_iff_eq.mpr c6
        have c6b2 : (l1.length == l0.length) = true := by first | simpa using c6 | (simp at c6 ⊢; omega)
        clear c6
        by_cases c7 : a2 < 0
        · rw [if_pos c7] at H
          have c7b0 : decide (a2 < 0) = true := decide_eq_true c7
          clear c7
          have H' := Aside0.mk H
          clear H
          go_wp2
          go_meet
          case rel => exact ⟨_, (true), (by first | rfl | (simp; done) | (simp [*]; done)), H', ⟨by first | omega | exact Nat.le_refl _⟩, ⟨by repeat (first | (with_reducible first | exact HB.out | apply below_alloc | apply pw_below_drewN | apply below_drew1) | exact HB.out)⟩⟩
        · rw [if_neg c7] at H
          have c7b0 : decide (a2 < 0) = false := decide_eq_false c7
          clear c7
          have H' := Aside0.mk H
          clear H
          go_wp2
          go_meet
          case rel => exact ⟨_, (decide (a2 > (l0.length : Int))), (by first | rfl | (simp; done) | (simp [*]; done)), H', ⟨by first | omega | exact Nat.le_refl _⟩, ⟨by repeat (first | (with_reducible first | exact HB.out | apply below_alloc | apply pw_below_drewN | apply below_drew1) | exact HB.out)⟩⟩
      · rw [if_neg c6] at H
        have c6b0 : ((l1.length : Int) == (l0.length : Int)) = false := beq_eq_false_iff_ne.mpr c6
        have c6b1 : ((l1.length : Int) != (l0.length : Int)) = true := bne_iff_ne.mpr c6
        have c6b2 : (l1.length == l0.length) = false := by first | simpa using c6 | (simp at c6 ⊢; omega)
        have H' := Aside0.mk H
        clear H
        go_wp2
        go_meet
        case rel => exact ⟨_, (true), (by first | rfl | (simp; done) | (simp [*]; done)), H', ⟨by first | omega | exact Nat.le_refl _⟩, ⟨by repeat (first | (with_reducible first | exact HB.out | apply below_alloc | apply pw_below_drewN | apply below_drew1) | exact HB.out)⟩⟩
  case rest =>
    clear HC4
    try clear c1
    try clear p2
    try clear c5
    try clear c5b0
    try clear c5b1
    try clear c6
    try clear c6b0
    try clear c6b1
    try clear c6b2
    try clear c7
    try clear c7b0
    obtain ⟨kq, x36_3, rfl, HA, HJ3, HB⟩ := hcut
    cases kq with
    | zero => exact absurd HA.out (by simp [bitloftlaw03_FixedTurns.j0])
    | succ kj3 =>
      have H := HA.out
      clear HA
      simp only [bitloftlaw03_FixedTurns.j0] at H
      by_cases c8 : x36_3 = true
      · subst c8
        have H1 : ((bitloftlaw03_alive.f kj3).bind fun t124 => (some t124)) = some r := by rw [if_pos rfl] at H; exact H
        clear H
        have H := H1
        clear H1
        replace H := Option.bind_eq_some_iff.mp H
        obtain ⟨t124, A90, H⟩ := H
        replace H : (some t124) = some r := H
        have A9 := Aside0.mk A90
        clear A90
        obtain rfl := Option.some.inj H
        go_wp2_with (first | ((with_reducible refine gate_callee (f := 22) rfl ?_); refine goesL_ (some 37) rfl rfl Try.func22 (by kernel_rfl) rfl #[] rfl (by (try simp only [List.map_toArray, List.map_cons, List.map_nil]); first | done | rfl | (simp only [List.length_drop, List.length_take]; rfl)) ?_; (with_reducible refine (bitloftlaw03_alive.calls kj3  t124 _ A9.out).mono ?_); rintro e w10 ⟨rfl, hb⟩; refine ⟨_, rfl, ?_⟩; have n0_ := Aside0.mk (below_step (by repeat (first | (with_reducible first | exact HB.out | apply below_alloc | apply pw_below_drewN | apply below_drew1) | exact HB.out)) hb); clear HB; have HB := n0_; clear n0_; (try clear hb); (try clear hb2); (try clear hk); (try clear hi)))
        go_ret
        exact ⟨by first | rfl | (simp [errW_none, errW_some] <;> rfl) | (simp [*, errW_none, errW_some] <;> rfl), by repeat (first | (with_reducible first | exact HB.out | apply below_alloc | apply pw_below_drewN | apply below_drew1) | exact HB.out)⟩
      · replace c8 := Bool.eq_false_iff.mpr c8
        subst c8
        have H1 : ((fixed_Dot.f kj3 l0 l1).bind fun bt125 => ((fixed_Dot.f kj3 l1 l0).bind fun bt127 => ((some (([] : List Int) : List Int)).bind fun y129 => (if 0 ≤ a2 then (if a2 ≤ (l0.length : Int) then (if y129.length + (l0.drop (a2 : Int).toNat).length < 35184372088832 then ((some (y129 ++ (l0.drop (a2 : Int).toNat) : List Int)).bind fun y133 => (if y133.length + (l0.take (a2 : Int).toNat).length < 35184372088832 then ((some (([] : List Int) : List Int)).bind fun y140 => (if a2 ≤ (l1.length : Int) then (if y140.length + (l1.drop (a2 : Int).toNat).length < 35184372088832 then ((some (y140 ++ (l1.drop (a2 : Int).toNat) : List Int)).bind fun y144 => (if y144.length + (l1.take (a2 : Int).toNat).length < 35184372088832 then ((fixed_Dot.f kj3 (y133 ++ (l0.take (a2 : Int).toNat)) (y144 ++ (l1.take (a2 : Int).toNat))).bind fun bt151 => ((some (([] : List Int) : List Int)).bind fun y153 => (if y153.length + l0.length < 35184372088832 then ((some (y153 ++ l0 : List Int)).bind fun y156 => (if y156.length < 35184372088832 then ((some (([] : List Int) : List Int)).bind fun y162 => (if y162.length + l1.length < 35184372088832 then ((some (y162 ++ l1 : List Int)).bind fun y165 => (if y165.length < 35184372088832 then ((fixed_Dot.f kj3 (y156 ++ [0]) (y165 ++ [(-2147483648)])).bind fun bt171 => ((fixed_Dot.f kj3 l0 l0).bind fun bt173 => (if bt125.2 = 0 then (if bt127.2 = 0 then (if bt151.2 = 0 then (if bt171.2 = 0 then (if bt173.2 = 0 then (if bt125.1 = bt127.1 then (if bt125.1 = bt151.1 then (if bt125.1 = bt171.1 then (if bt173.1 ≥ 0 then ((bitloftlaw03_alive.f kj3).bind fun t175 => (bitloftlaw03_FixedTurns.j1 kj3 t175)) else (bitloftlaw03_FixedTurns.j1 kj3 false)) else (bitloftlaw03_FixedTurns.j1 kj3 false)) else (bitloftlaw03_FixedTurns.j1 kj3 false)) else (bitloftlaw03_FixedTurns.j1 kj3 false)) else (bitloftlaw03_FixedTurns.j1 kj3 false)) else (bitloftlaw03_FixedTurns.j1 kj3 false)) else (bitloftlaw03_FixedTurns.j1 kj3 false)) else (bitloftlaw03_FixedTurns.j1 kj3 false)) else (bitloftlaw03_FixedTurns.j1 kj3 false)))) else (none))) else (none))) else (none))) else (none)))) else (none))) else (none)) else (none))) else (none))) else (none)) else (none)) else (none))))) = some r := by rw [if_neg (show ¬ (false = true) by decide)] at H; exact H
        clear H
        have H := H1
        clear H1
        replace H := Option.bind_eq_some_iff.mp H
        obtain ⟨⟨t125, t126⟩, A110, H⟩ := H
        replace H : ((fixed_Dot.f kj3 l1 l0).bind fun bt127 => ((some (([] : List Int) : List Int)).bind fun y129 => (if 0 ≤ a2 then (if a2 ≤ (l0.length : Int) then (if y129.length + (l0.drop (a2 : Int).toNat).length < 35184372088832 then ((some (y129 ++ (l0.drop (a2 : Int).toNat) : List Int)).bind fun y133 => (if y133.length + (l0.take (a2 : Int).toNat).length < 35184372088832 then ((some (([] : List Int) : List Int)).bind fun y140 => (if a2 ≤ (l1.length : Int) then (if y140.length + (l1.drop (a2 : Int).toNat).length < 35184372088832 then ((some (y140 ++ (l1.drop (a2 : Int).toNat) : List Int)).bind fun y144 => (if y144.length + (l1.take (a2 : Int).toNat).length < 35184372088832 then ((fixed_Dot.f kj3 (y133 ++ (l0.take (a2 : Int).toNat)) (y144 ++ (l1.take (a2 : Int).toNat))).bind fun bt151 => ((some (([] : List Int) : List Int)).bind fun y153 => (if y153.length + l0.length < 35184372088832 then ((some (y153 ++ l0 : List Int)).bind fun y156 => (if y156.length < 35184372088832 then ((some (([] : List Int) : List Int)).bind fun y162 => (if y162.length + l1.length < 35184372088832 then ((some (y162 ++ l1 : List Int)).bind fun y165 => (if y165.length < 35184372088832 then ((fixed_Dot.f kj3 (y156 ++ [0]) (y165 ++ [(-2147483648)])).bind fun bt171 => ((fixed_Dot.f kj3 l0 l0).bind fun bt173 => (if t126 = 0 then (if bt127.2 = 0 then (if bt151.2 = 0 then (if bt171.2 = 0 then (if bt173.2 = 0 then (if t125 = bt127.1 then (if t125 = bt151.1 then (if t125 = bt171.1 then (if bt173.1 ≥ 0 then ((bitloftlaw03_alive.f kj3).bind fun t175 => (bitloftlaw03_FixedTurns.j1 kj3 t175)) else (bitloftlaw03_FixedTurns.j1 kj3 false)) else (bitloftlaw03_FixedTurns.j1 kj3 false)) else (bitloftlaw03_FixedTurns.j1 kj3 false)) else (bitloftlaw03_FixedTurns.j1 kj3 false)) else (bitloftlaw03_FixedTurns.j1 kj3 false)) else (bitloftlaw03_FixedTurns.j1 kj3 false)) else (bitloftlaw03_FixedTurns.j1 kj3 false)) else (bitloftlaw03_FixedTurns.j1 kj3 false)) else (bitloftlaw03_FixedTurns.j1 kj3 false)))) else (none))) else (none))) else (none))) else (none)))) else (none))) else (none)) else (none))) else (none))) else (none)) else (none)) else (none)))) = some r := H
        have A11 := Aside0.mk A110
        clear A110
        replace H := Option.bind_eq_some_iff.mp H
        obtain ⟨⟨t127, t128⟩, A120, H⟩ := H
        replace H : ((some (([] : List Int) : List Int)).bind fun y129 => (if 0 ≤ a2 then (if a2 ≤ (l0.length : Int) then (if y129.length + (l0.drop (a2 : Int).toNat).length < 35184372088832 then ((some (y129 ++ (l0.drop (a2 : Int).toNat) : List Int)).bind fun y133 => (if y133.length + (l0.take (a2 : Int).toNat).length < 35184372088832 then ((some (([] : List Int) : List Int)).bind fun y140 => (if a2 ≤ (l1.length : Int) then (if y140.length + (l1.drop (a2 : Int).toNat).length < 35184372088832 then ((some (y140 ++ (l1.drop (a2 : Int).toNat) : List Int)).bind fun y144 => (if y144.length + (l1.take (a2 : Int).toNat).length < 35184372088832 then ((fixed_Dot.f kj3 (y133 ++ (l0.take (a2 : Int).toNat)) (y144 ++ (l1.take (a2 : Int).toNat))).bind fun bt151 => ((some (([] : List Int) : List Int)).bind fun y153 => (if y153.length + l0.length < 35184372088832 then ((some (y153 ++ l0 : List Int)).bind fun y156 => (if y156.length < 35184372088832 then ((some (([] : List Int) : List Int)).bind fun y162 => (if y162.length + l1.length < 35184372088832 then ((some (y162 ++ l1 : List Int)).bind fun y165 => (if y165.length < 35184372088832 then ((fixed_Dot.f kj3 (y156 ++ [0]) (y165 ++ [(-2147483648)])).bind fun bt171 => ((fixed_Dot.f kj3 l0 l0).bind fun bt173 => (if t126 = 0 then (if t128 = 0 then (if bt151.2 = 0 then (if bt171.2 = 0 then (if bt173.2 = 0 then (if t125 = t127 then (if t125 = bt151.1 then (if t125 = bt171.1 then (if bt173.1 ≥ 0 then ((bitloftlaw03_alive.f kj3).bind fun t175 => (bitloftlaw03_FixedTurns.j1 kj3 t175)) else (bitloftlaw03_FixedTurns.j1 kj3 false)) else (bitloftlaw03_FixedTurns.j1 kj3 false)) else (bitloftlaw03_FixedTurns.j1 kj3 false)) else (bitloftlaw03_FixedTurns.j1 kj3 false)) else (bitloftlaw03_FixedTurns.j1 kj3 false)) else (bitloftlaw03_FixedTurns.j1 kj3 false)) else (bitloftlaw03_FixedTurns.j1 kj3 false)) else (bitloftlaw03_FixedTurns.j1 kj3 false)) else (bitloftlaw03_FixedTurns.j1 kj3 false)))) else (none))) else (none))) else (none))) else (none)))) else (none))) else (none)) else (none))) else (none))) else (none)) else (none)) else (none))) = some r := H
        have A12 := Aside0.mk A120
        clear A120
        obtain ⟨y129, hy129⟩ : ∃ y_ : List Int, y_ = (([] : List Int)) := ⟨_, rfl⟩
        replace H : (if 0 ≤ a2 then (if a2 ≤ (l0.length : Int) then (if y129.length + (l0.drop (a2 : Int).toNat).length < 35184372088832 then ((some (y129 ++ (l0.drop (a2 : Int).toNat) : List Int)).bind fun y133 => (if y133.length + (l0.take (a2 : Int).toNat).length < 35184372088832 then ((some (([] : List Int) : List Int)).bind fun y140 => (if a2 ≤ (l1.length : Int) then (if y140.length + (l1.drop (a2 : Int).toNat).length < 35184372088832 then ((some (y140 ++ (l1.drop (a2 : Int).toNat) : List Int)).bind fun y144 => (if y144.length + (l1.take (a2 : Int).toNat).length < 35184372088832 then ((fixed_Dot.f kj3 (y133 ++ (l0.take (a2 : Int).toNat)) (y144 ++ (l1.take (a2 : Int).toNat))).bind fun bt151 => ((some (([] : List Int) : List Int)).bind fun y153 => (if y153.length + l0.length < 35184372088832 then ((some (y153 ++ l0 : List Int)).bind fun y156 => (if y156.length < 35184372088832 then ((some (([] : List Int) : List Int)).bind fun y162 => (if y162.length + l1.length < 35184372088832 then ((some (y162 ++ l1 : List Int)).bind fun y165 => (if y165.length < 35184372088832 then ((fixed_Dot.f kj3 (y156 ++ [0]) (y165 ++ [(-2147483648)])).bind fun bt171 => ((fixed_Dot.f kj3 l0 l0).bind fun bt173 => (if t126 = 0 then (if t128 = 0 then (if bt151.2 = 0 then (if bt171.2 = 0 then (if bt173.2 = 0 then (if t125 = t127 then (if t125 = bt151.1 then (if t125 = bt171.1 then (if bt173.1 ≥ 0 then ((bitloftlaw03_alive.f kj3).bind fun t175 => (bitloftlaw03_FixedTurns.j1 kj3 t175)) else (bitloftlaw03_FixedTurns.j1 kj3 false)) else (bitloftlaw03_FixedTurns.j1 kj3 false)) else (bitloftlaw03_FixedTurns.j1 kj3 false)) else (bitloftlaw03_FixedTurns.j1 kj3 false)) else (bitloftlaw03_FixedTurns.j1 kj3 false)) else (bitloftlaw03_FixedTurns.j1 kj3 false)) else (bitloftlaw03_FixedTurns.j1 kj3 false)) else (bitloftlaw03_FixedTurns.j1 kj3 false)) else (bitloftlaw03_FixedTurns.j1 kj3 false)))) else (none))) else (none))) else (none))) else (none)))) else (none))) else (none)) else (none))) else (none))) else (none)) else (none)) else (none)) = some r := by first | (rw [hy129]; with_reducible exact H) | (have H2_ := (Option.bind_some _ _).symm.trans H; rw [hy129]; with_reducible exact H2_) | (have H2_ := (Option.bind_some _ _).symm.trans H; with_reducible exact H2_) | with_reducible exact H | (rw [hy129]; exact H) | exact H
        have Ny129 := Aside0.mk hy129
        clear hy129
        by_cases c13 : 0 ≤ a2
        · rw [if_pos c13] at H
          have c13b0 := eq_true c13
          have c13b1 : decide (0 ≤ a2) = true := decide_eq_true c13
          clear c13
          by_cases c14 : a2 ≤ (l0.length : Int)
          · rw [if_pos c14] at H
            have c14b0 := eq_true c14
            have c14b1 : decide (a2 ≤ (l0.length : Int)) = true := decide_eq_true c14
            clear c14
            by_cases c15 : y129.length + (l0.drop (a2 : Int).toNat).length < 35184372088832
            · rw [if_pos c15] at H
              have LMc15 := Aside0.mk c15
              clear c15
              obtain ⟨y133, hy133⟩ : ∃ y_ : List Int, y_ = (y129 ++ (l0.drop (a2 : Int).toNat)) := ⟨_, rfl⟩
              replace H : (if y133.length + (l0.take (a2 : Int).toNat).length < 35184372088832 then ((some (([] : List Int) : List Int)).bind fun y140 => (if a2 ≤ (l1.length : Int) then (if y140.length + (l1.drop (a2 : Int).toNat).length < 35184372088832 then ((some (y140 ++ (l1.drop (a2 : Int).toNat) : List Int)).bind fun y144 => (if y144.length + (l1.take (a2 : Int).toNat).length < 35184372088832 then ((fixed_Dot.f kj3 (y133 ++ (l0.take (a2 : Int).toNat)) (y144 ++ (l1.take (a2 : Int).toNat))).bind fun bt151 => ((some (([] : List Int) : List Int)).bind fun y153 => (if y153.length + l0.length < 35184372088832 then ((some (y153 ++ l0 : List Int)).bind fun y156 => (if y156.length < 35184372088832 then ((some (([] : List Int) : List Int)).bind fun y162 => (if y162.length + l1.length < 35184372088832 then ((some (y162 ++ l1 : List Int)).bind fun y165 => (if y165.length < 35184372088832 then ((fixed_Dot.f kj3 (y156 ++ [0]) (y165 ++ [(-2147483648)])).bind fun bt171 => ((fixed_Dot.f kj3 l0 l0).bind fun bt173 => (if t126 = 0 then (if t128 = 0 then (if bt151.2 = 0 then (if bt171.2 = 0 then (if bt173.2 = 0 then (if t125 = t127 then (if t125 = bt151.1 then (if t125 = bt171.1 then (if bt173.1 ≥ 0 then ((bitloftlaw03_alive.f kj3).bind fun t175 => (bitloftlaw03_FixedTurns.j1 kj3 t175)) else (bitloftlaw03_FixedTurns.j1 kj3 false)) else (bitloftlaw03_FixedTurns.j1 kj3 false)) else (bitloftlaw03_FixedTurns.j1 kj3 false)) else (bitloftlaw03_FixedTurns.j1 kj3 false)) else (bitloftlaw03_FixedTurns.j1 kj3 false)) else (bitloftlaw03_FixedTurns.j1 kj3 false)) else (bitloftlaw03_FixedTurns.j1 kj3 false)) else (bitloftlaw03_FixedTurns.j1 kj3 false)) else (bitloftlaw03_FixedTurns.j1 kj3 false)))) else (none))) else (none))) else (none))) else (none)))) else (none))) else (none)) else (none))) else (none)) = some r := by first | (rw [hy133]; with_reducible exact H) | (have H2_ := (Option.bind_some _ _).symm.trans H; rw [hy133]; with_reducible exact H2_) | (have H2_ := (Option.bind_some _ _).symm.trans H; with_reducible exact H2_) | with_reducible exact H | (rw [hy133]; exact H) | exact H
              have Ny133 := Aside0.mk hy133
              clear hy133
              have c16b0 := eq_true (of_decide_eq_true (by first | (with_reducible assumption) | assumption) : 0 ≤ a2)
              have c17b0 := eq_true (of_decide_eq_true (by first | (with_reducible assumption) | assumption) : a2 ≤ (l0.length : Int))
              by_cases c18 : y133.length + (l0.take (a2 : Int).toNat).length < 35184372088832
              · rw [if_pos c18] at H
                have LMc18 := Aside0.mk c18
                clear c18
                obtain ⟨y137, hy137⟩ : ∃ y_ : List Int, y_ = (y133 ++ (l0.take (a2 : Int).toNat)) := ⟨_, rfl⟩
                replace H : ((some (([] : List Int) : List Int)).bind fun y140 => (if a2 ≤ (l1.length : Int) then (if y140.length + (l1.drop (a2 : Int).toNat).length < 35184372088832 then ((some (y140 ++ (l1.drop (a2 : Int).toNat) : List Int)).bind fun y144 => (if y144.length + (l1.take (a2 : Int).toNat).length < 35184372088832 then ((fixed_Dot.f kj3 y137 (y144 ++ (l1.take (a2 : Int).toNat))).bind fun bt151 => ((some (([] : List Int) : List Int)).bind fun y153 => (if y153.length + l0.length < 35184372088832 then ((some (y153 ++ l0 : List Int)).bind fun y156 => (if y156.length < 35184372088832 then ((some (([] : List Int) : List Int)).bind fun y162 => (if y162.length + l1.length < 35184372088832 then ((some (y162 ++ l1 : List Int)).bind fun y165 => (if y165.length < 35184372088832 then ((fixed_Dot.f kj3 (y156 ++ [0]) (y165 ++ [(-2147483648)])).bind fun bt171 => ((fixed_Dot.f kj3 l0 l0).bind fun bt173 => (if t126 = 0 then (if t128 = 0 then (if bt151.2 = 0 then (if bt171.2 = 0 then (if bt173.2 = 0 then (if t125 = t127 then (if t125 = bt151.1 then (if t125 = bt171.1 then (if bt173.1 ≥ 0 then ((bitloftlaw03_alive.f kj3).bind fun t175 => (bitloftlaw03_FixedTurns.j1 kj3 t175)) else (bitloftlaw03_FixedTurns.j1 kj3 false)) else (bitloftlaw03_FixedTurns.j1 kj3 false)) else (bitloftlaw03_FixedTurns.j1 kj3 false)) else (bitloftlaw03_FixedTurns.j1 kj3 false)) else (bitloftlaw03_FixedTurns.j1 kj3 false)) else (bitloftlaw03_FixedTurns.j1 kj3 false)) else (bitloftlaw03_FixedTurns.j1 kj3 false)) else (bitloftlaw03_FixedTurns.j1 kj3 false)) else (bitloftlaw03_FixedTurns.j1 kj3 false)))) else (none))) else (none))) else (none))) else (none)))) else (none))) else (none)) else (none))) = some r := by first | (rw [hy137]; with_reducible exact H) | (have H2_ := (Option.bind_some _ _).symm.trans H; rw [hy137]; with_reducible exact H2_) | (have H2_ := (Option.bind_some _ _).symm.trans H; with_reducible exact H2_) | with_reducible exact H | (rw [hy137]; exact H) | exact H
                have Ny137 := Aside0.mk hy137
                clear hy137
                obtain ⟨y140, hy140⟩ : ∃ y_ : List Int, y_ = (([] : List Int)) := ⟨_, rfl⟩
                replace H : (if a2 ≤ (l1.length : Int) then (if y140.length + (l1.drop (a2 : Int).toNat).length < 35184372088832 then ((some (y140 ++ (l1.drop (a2 : Int).toNat) : List Int)).bind fun y144 => (if y144.length + (l1.take (a2 : Int).toNat).length < 35184372088832 then ((fixed_Dot.f kj3 y137 (y144 ++ (l1.take (a2 : Int).toNat))).bind fun bt151 => ((some (([] : List Int) : List Int)).bind fun y153 => (if y153.length + l0.length < 35184372088832 then ((some (y153 ++ l0 : List Int)).bind fun y156 => (if y156.length < 35184372088832 then ((some (([] : List Int) : List Int)).bind fun y162 => (if y162.length + l1.length < 35184372088832 then ((some (y162 ++ l1 : List Int)).bind fun y165 => (if y165.length < 35184372088832 then ((fixed_Dot.f kj3 (y156 ++ [0]) (y165 ++ [(-2147483648)])).bind fun bt171 => ((fixed_Dot.f kj3 l0 l0).bind fun bt173 => (if t126 = 0 then (if t128 = 0 then (if bt151.2 = 0 then (if bt171.2 = 0 then (if bt173.2 = 0 then (if t125 = t127 then (if t125 = bt151.1 then (if t125 = bt171.1 then (if bt173.1 ≥ 0 then ((bitloftlaw03_alive.f kj3).bind fun t175 => (bitloftlaw03_FixedTurns.j1 kj3 t175)) else (bitloftlaw03_FixedTurns.j1 kj3 false)) else (bitloftlaw03_FixedTurns.j1 kj3 false)) else (bitloftlaw03_FixedTurns.j1 kj3 false)) else (bitloftlaw03_FixedTurns.j1 kj3 false)) else (bitloftlaw03_FixedTurns.j1 kj3 false)) else (bitloftlaw03_FixedTurns.j1 kj3 false)) else (bitloftlaw03_FixedTurns.j1 kj3 false)) else (bitloftlaw03_FixedTurns.j1 kj3 false)) else (bitloftlaw03_FixedTurns.j1 kj3 false)))) else (none))) else (none))) else (none))) else (none)))) else (none))) else (none)) else (none)) = some r := by first | (rw [hy140]; with_reducible exact H) | (have H2_ := (Option.bind_some _ _).symm.trans H; rw [hy140]; with_reducible exact H2_) | (have H2_ := (Option.bind_some _ _).symm.trans H; with_reducible exact H2_) | with_reducible exact H | (rw [hy140]; exact H) | exact H
                have Ny140 := Aside0.mk hy140
                clear hy140
                have c19b0 := eq_true (of_decide_eq_true (by first | (with_reducible assumption) | assumption) : 0 ≤ a2)
                by_cases c20 : a2 ≤ (l1.length : Int)
                · rw [if_pos c20] at H
                  have c20b0 := eq_true c20
                  have c20b1 : decide (a2 ≤ (l1.length : Int)) = true := decide_eq_true c20
                  clear c20
                  by_cases c21 : y140.length + (l1.drop (a2 : Int).toNat).length < 35184372088832
                  · rw [if_pos c21] at H
                    have LMc21 := Aside0.mk c21
                    clear c21
                    obtain ⟨y144, hy144⟩ : ∃ y_ : List Int, y_ = (y140 ++ (l1.drop (a2 : Int).toNat)) := ⟨_, rfl⟩
                    replace H : (if y144.length + (l1.take (a2 : Int).toNat).length < 35184372088832 then ((fixed_Dot.f kj3 y137 (y144 ++ (l1.take (a2 : Int).toNat))).bind fun bt151 => ((some (([] : List Int) : List Int)).bind fun y153 => (if y153.length + l0.length < 35184372088832 then ((some (y153 ++ l0 : List Int)).bind fun y156 => (if y156.length < 35184372088832 then ((some (([] : List Int) : List Int)).bind fun y162 => (if y162.length + l1.length < 35184372088832 then ((some (y162 ++ l1 : List Int)).bind fun y165 => (if y165.length < 35184372088832 then ((fixed_Dot.f kj3 (y156 ++ [0]) (y165 ++ [(-2147483648)])).bind fun bt171 => ((fixed_Dot.f kj3 l0 l0).bind fun bt173 => (if t126 = 0 then (if t128 = 0 then (if bt151.2 = 0 then (if bt171.2 = 0 then (if bt173.2 = 0 then (if t125 = t127 then (if t125 = bt151.1 then (if t125 = bt171.1 then (if bt173.1 ≥ 0 then ((bitloftlaw03_alive.f kj3).bind fun t175 => (bitloftlaw03_FixedTurns.j1 kj3 t175)) else (bitloftlaw03_FixedTurns.j1 kj3 false)) else (bitloftlaw03_FixedTurns.j1 kj3 false)) else (bitloftlaw03_FixedTurns.j1 kj3 false)) else (bitloftlaw03_FixedTurns.j1 kj3 false)) else (bitloftlaw03_FixedTurns.j1 kj3 false)) else (bitloftlaw03_FixedTurns.j1 kj3 false)) else (bitloftlaw03_FixedTurns.j1 kj3 false)) else (bitloftlaw03_FixedTurns.j1 kj3 false)) else (bitloftlaw03_FixedTurns.j1 kj3 false)))) else (none))) else (none))) else (none))) else (none)))) else (none)) = some r := by first | (rw [hy144]; with_reducible exact H) | (have H2_ := (Option.bind_some _ _).symm.trans H; rw [hy144]; with_reducible exact H2_) | (have H2_ := (Option.bind_some _ _).symm.trans H; with_reducible exact H2_) | with_reducible exact H | (rw [hy144]; exact H) | exact H
                    have Ny144 := Aside0.mk hy144
                    clear hy144
                    have c22b0 := eq_true (of_decide_eq_true (by first | (with_reducible assumption) | assumption) : 0 ≤ a2)
                    have c23b0 := eq_true (of_decide_eq_true (by first | (with_reducible assumption) | assumption) : a2 ≤ (l1.length : Int))
                    by_cases c24 : y144.length + (l1.take (a2 : Int).toNat).length < 35184372088832
                    · rw [if_pos c24] at H
                      have LMc24 := Aside0.mk c24
                      clear c24
                      obtain ⟨y148, hy148⟩ : ∃ y_ : List Int, y_ = (y144 ++ (l1.take (a2 : Int).toNat)) := ⟨_, rfl⟩
                      replace H : ((fixed_Dot.f kj3 y137 y148).bind fun bt151 => ((some (([] : List Int) : List Int)).bind fun y153 => (if y153.length + l0.length < 35184372088832 then ((some (y153 ++ l0 : List Int)).bind fun y156 => (if y156.length < 35184372088832 then ((some (([] : List Int) : List Int)).bind fun y162 => (if y162.length + l1.length < 35184372088832 then ((some (y162 ++ l1 : List Int)).bind fun y165 => (if y165.length < 35184372088832 then ((fixed_Dot.f kj3 (y156 ++ [0]) (y165 ++ [(-2147483648)])).bind fun bt171 => ((fixed_Dot.f kj3 l0 l0).bind fun bt173 => (if t126 = 0 then (if t128 = 0 then (if bt151.2 = 0 then (if bt171.2 = 0 then (if bt173.2 = 0 then (if t125 = t127 then (if t125 = bt151.1 then (if t125 = bt171.1 then (if bt173.1 ≥ 0 then ((bitloftlaw03_alive.f kj3).bind fun t175 => (bitloftlaw03_FixedTurns.j1 kj3 t175)) else (bitloftlaw03_FixedTurns.j1 kj3 false)) else (bitloftlaw03_FixedTurns.j1 kj3 false)) else (bitloftlaw03_FixedTurns.j1 kj3 false)) else (bitloftlaw03_FixedTurns.j1 kj3 false)) else (bitloftlaw03_FixedTurns.j1 kj3 false)) else (bitloftlaw03_FixedTurns.j1 kj3 false)) else (bitloftlaw03_FixedTurns.j1 kj3 false)) else (bitloftlaw03_FixedTurns.j1 kj3 false)) else (bitloftlaw03_FixedTurns.j1 kj3 false)))) else (none))) else (none))) else (none))) else (none)))) = some r := by first | (rw [hy148]; with_reducible exact H) | (have H2_ := (Option.bind_some _ _).symm.trans H; rw [hy148]; with_reducible exact H2_) | (have H2_ := (Option.bind_some _ _).symm.trans H; with_reducible exact H2_) | with_reducible exact H | (rw [hy148]; exact H) | exact H
                      have Ny148 := Aside0.mk hy148
                      clear hy148
                      replace H := Option.bind_eq_some_iff.mp H
                      obtain ⟨⟨t151, t152⟩, A250, H⟩ := H
                      replace H : ((some (([] : List Int) : List Int)).bind fun y153 => (if y153.length + l0.length < 35184372088832 then ((some (y153 ++ l0 : List Int)).bind fun y156 => (if y156.length < 35184372088832 then ((some (([] : List Int) : List Int)).bind fun y162 => (if y162.length + l1.length < 35184372088832 then ((some (y162 ++ l1 : List Int)).bind fun y165 => (if y165.length < 35184372088832 then ((fixed_Dot.f kj3 (y156 ++ [0]) (y165 ++ [(-2147483648)])).bind fun bt171 => ((fixed_Dot.f kj3 l0 l0).bind fun bt173 => (if t126 = 0 then (if t128 = 0 then (if t152 = 0 then (if bt171.2 = 0 then (if bt173.2 = 0 then (if t125 = t127 then (if t125 = t151 then (if t125 = bt171.1 then (if bt173.1 ≥ 0 then ((bitloftlaw03_alive.f kj3).bind fun t175 => (bitloftlaw03_FixedTurns.j1 kj3 t175)) else (bitloftlaw03_FixedTurns.j1 kj3 false)) else (bitloftlaw03_FixedTurns.j1 kj3 false)) else (bitloftlaw03_FixedTurns.j1 kj3 false)) else (bitloftlaw03_FixedTurns.j1 kj3 false)) else (bitloftlaw03_FixedTurns.j1 kj3 false)) else (bitloftlaw03_FixedTurns.j1 kj3 false)) else (bitloftlaw03_FixedTurns.j1 kj3 false)) else (bitloftlaw03_FixedTurns.j1 kj3 false)) else (bitloftlaw03_FixedTurns.j1 kj3 false)))) else (none))) else (none))) else (none))) else (none))) = some r := H
                      have A25 := Aside0.mk A250
                      clear A250
                      obtain ⟨y153, hy153⟩ : ∃ y_ : List Int, y_ = (([] : List Int)) := ⟨_, rfl⟩
                      replace H : (if y153.length + l0.length < 35184372088832 then ((some (y153 ++ l0 : List Int)).bind fun y156 => (if y156.length < 35184372088832 then ((some (([] : List Int) : List Int)).bind fun y162 => (if y162.length + l1.length < 35184372088832 then ((some (y162 ++ l1 : List Int)).bind fun y165 => (if y165.length < 35184372088832 then ((fixed_Dot.f kj3 (y156 ++ [0]) (y165 ++ [(-2147483648)])).bind fun bt171 => ((fixed_Dot.f kj3 l0 l0).bind fun bt173 => (if t126 = 0 then (if t128 = 0 then (if t152 = 0 then (if bt171.2 = 0 then (if bt173.2 = 0 then (if t125 = t127 then (if t125 = t151 then (if t125 = bt171.1 then (if bt173.1 ≥ 0 then ((bitloftlaw03_alive.f kj3).bind fun t175 => (bitloftlaw03_FixedTurns.j1 kj3 t175)) else (bitloftlaw03_FixedTurns.j1 kj3 false)) else (bitloftlaw03_FixedTurns.j1 kj3 false)) else (bitloftlaw03_FixedTurns.j1 kj3 false)) else (bitloftlaw03_FixedTurns.j1 kj3 false)) else (bitloftlaw03_FixedTurns.j1 kj3 false)) else (bitloftlaw03_FixedTurns.j1 kj3 false)) else (bitloftlaw03_FixedTurns.j1 kj3 false)) else (bitloftlaw03_FixedTurns.j1 kj3 false)) else (bitloftlaw03_FixedTurns.j1 kj3 false)))) else (none))) else (none))) else (none))) else (none)) = some r := by first | (rw [hy153]; with_reducible exact H) | (have H2_ := (Option.bind_some _ _).symm.trans H; rw [hy153]; with_reducible exact H2_) | (have H2_ := (Option.bind_some _ _).symm.trans H; with_reducible exact H2_) | with_reducible exact H | (rw [hy153]; exact H) | exact H
                      have Ny153 := Aside0.mk hy153
                      clear hy153
                      by_cases c26 : y153.length + l0.length < 35184372088832
                      · rw [if_pos c26] at H
                        have LMc26 := Aside0.mk c26
                        clear c26
                        obtain ⟨y156, hy156⟩ : ∃ y_ : List Int, y_ = (y153 ++ l0) := ⟨_, rfl⟩
                        replace H : (if y156.length < 35184372088832 then ((some (([] : List Int) : List Int)).bind fun y162 => (if y162.length + l1.length < 35184372088832 then ((some (y162 ++ l1 : List Int)).bind fun y165 => (if y165.length < 35184372088832 then ((fixed_Dot.f kj3 (y156 ++ [0]) (y165 ++ [(-2147483648)])).bind fun bt171 => ((fixed_Dot.f kj3 l0 l0).bind fun bt173 => (if t126 = 0 then (if t128 = 0 then (if t152 = 0 then (if bt171.2 = 0 then (if bt173.2 = 0 then (if t125 = t127 then (if t125 = t151 then (if t125 = bt171.1 then (if bt173.1 ≥ 0 then ((bitloftlaw03_alive.f kj3).bind fun t175 => (bitloftlaw03_FixedTurns.j1 kj3 t175)) else (bitloftlaw03_FixedTurns.j1 kj3 false)) else (bitloftlaw03_FixedTurns.j1 kj3 false)) else (bitloftlaw03_FixedTurns.j1 kj3 false)) else (bitloftlaw03_FixedTurns.j1 kj3 false)) else (bitloftlaw03_FixedTurns.j1 kj3 false)) else (bitloftlaw03_FixedTurns.j1 kj3 false)) else (bitloftlaw03_FixedTurns.j1 kj3 false)) else (bitloftlaw03_FixedTurns.j1 kj3 false)) else (bitloftlaw03_FixedTurns.j1 kj3 false)))) else (none))) else (none))) else (none)) = some r := by first | (rw [hy156]; with_reducible exact H) | (have H2_ := (Option.bind_some _ _).symm.trans H; rw [hy156]; with_reducible exact H2_) | (have H2_ := (Option.bind_some _ _).symm.trans H; with_reducible exact H2_) | with_reducible exact H | (rw [hy156]; exact H) | exact H
                        have Ny156 := Aside0.mk hy156
                        clear hy156
                        by_cases c27 : y156.length < 35184372088832
                        · rw [if_pos c27] at H
                          have LMc27 := Aside0.mk c27
                          clear c27
                          obtain ⟨y159, hy159⟩ : ∃ y_ : List Int, y_ = (y156 ++ [0]) := ⟨_, rfl⟩
                          replace H : ((some (([] : List Int) : List Int)).bind fun y162 => (if y162.length + l1.length < 35184372088832 then ((some (y162 ++ l1 : List Int)).bind fun y165 => (if y165.length < 35184372088832 then ((fixed_Dot.f kj3 y159 (y165 ++ [(-2147483648)])).bind fun bt171 => ((fixed_Dot.f kj3 l0 l0).bind fun bt173 => (if t126 = 0 then (if t128 = 0 then (if t152 = 0 then (if bt171.2 = 0 then (if bt173.2 = 0 then (if t125 = t127 then (if t125 = t151 then (if t125 = bt171.1 then (if bt173.1 ≥ 0 then ((bitloftlaw03_alive.f kj3).bind fun t175 => (bitloftlaw03_FixedTurns.j1 kj3 t175)) else (bitloftlaw03_FixedTurns.j1 kj3 false)) else (bitloftlaw03_FixedTurns.j1 kj3 false)) else (bitloftlaw03_FixedTurns.j1 kj3 false)) else (bitloftlaw03_FixedTurns.j1 kj3 false)) else (bitloftlaw03_FixedTurns.j1 kj3 false)) else (bitloftlaw03_FixedTurns.j1 kj3 false)) else (bitloftlaw03_FixedTurns.j1 kj3 false)) else (bitloftlaw03_FixedTurns.j1 kj3 false)) else (bitloftlaw03_FixedTurns.j1 kj3 false)))) else (none))) else (none))) = some r := by first | (rw [hy159]; with_reducible exact H) | (have H2_ := (Option.bind_some _ _).symm.trans H; rw [hy159]; with_reducible exact H2_) | (have H2_ := (Option.bind_some _ _).symm.trans H; with_reducible exact H2_) | with_reducible exact H | (rw [hy159]; exact H) | exact H
                          have Ny159 := Aside0.mk hy159
                          clear hy159
                          obtain ⟨y162, hy162⟩ : ∃ y_ : List Int, y_ = (([] : List Int)) := ⟨_, rfl⟩
                          replace H : (if y162.length + l1.length < 35184372088832 then ((some (y162 ++ l1 : List Int)).bind fun y165 => (if y165.length < 35184372088832 then ((fixed_Dot.f kj3 y159 (y165 ++ [(-2147483648)])).bind fun bt171 => ((fixed_Dot.f kj3 l0 l0).bind fun bt173 => (if t126 = 0 then (if t128 = 0 then (if t152 = 0 then (if bt171.2 = 0 then (if bt173.2 = 0 then (if t125 = t127 then (if t125 = t151 then (if t125 = bt171.1 then (if bt173.1 ≥ 0 then ((bitloftlaw03_alive.f kj3).bind fun t175 => (bitloftlaw03_FixedTurns.j1 kj3 t175)) else (bitloftlaw03_FixedTurns.j1 kj3 false)) else (bitloftlaw03_FixedTurns.j1 kj3 false)) else (bitloftlaw03_FixedTurns.j1 kj3 false)) else (bitloftlaw03_FixedTurns.j1 kj3 false)) else (bitloftlaw03_FixedTurns.j1 kj3 false)) else (bitloftlaw03_FixedTurns.j1 kj3 false)) else (bitloftlaw03_FixedTurns.j1 kj3 false)) else (bitloftlaw03_FixedTurns.j1 kj3 false)) else (bitloftlaw03_FixedTurns.j1 kj3 false)))) else (none))) else (none)) = some r := by first | (rw [hy162]; with_reducible exact H) | (have H2_ := (Option.bind_some _ _).symm.trans H; rw [hy162]; with_reducible exact H2_) | (have H2_ := (Option.bind_some _ _).symm.trans H; with_reducible exact H2_) | with_reducible exact H | (rw [hy162]; exact H) | exact H
                          have Ny162 := Aside0.mk hy162
                          clear hy162
                          by_cases c28 : y162.length + l1.length < 35184372088832
                          · rw [if_pos c28] at H
                            have LMc28 := Aside0.mk c28
                            clear c28
                            obtain ⟨y165, hy165⟩ : ∃ y_ : List Int, y_ = (y162 ++ l1) := ⟨_, rfl⟩
                            replace H : (if y165.length < 35184372088832 then ((fixed_Dot.f kj3 y159 (y165 ++ [(-2147483648)])).bind fun bt171 => ((fixed_Dot.f kj3 l0 l0).bind fun bt173 => (if t126 = 0 then (if t128 = 0 then (if t152 = 0 then (if bt171.2 = 0 then (if bt173.2 = 0 then (if t125 = t127 then (if t125 = t151 then (if t125 = bt171.1 then (if bt173.1 ≥ 0 then ((bitloftlaw03_alive.f kj3).bind fun t175 => (bitloftlaw03_FixedTurns.j1 kj3 t175)) else (bitloftlaw03_FixedTurns.j1 kj3 false)) else (bitloftlaw03_FixedTurns.j1 kj3 false)) else (bitloftlaw03_FixedTurns.j1 kj3 false)) else (bitloftlaw03_FixedTurns.j1 kj3 false)) else (bitloftlaw03_FixedTurns.j1 kj3 false)) else (bitloftlaw03_FixedTurns.j1 kj3 false)) else (bitloftlaw03_FixedTurns.j1 kj3 false)) else (bitloftlaw03_FixedTurns.j1 kj3 false)) else (bitloftlaw03_FixedTurns.j1 kj3 false)))) else (none)) = some r := by first | (rw [hy165]; with_reducible exact H) | (have H2_ := (Option.bind_some _ _).symm.trans H; rw [hy165]; with_reducible exact H2_) | (have H2_ := (Option.bind_some _ _).symm.trans H; with_reducible exact H2_) | with_reducible exact H | (rw [hy165]; exact H) | exact H
                            have Ny165 := Aside0.mk hy165
                            clear hy165
                            by_cases c29 : y165.length < 35184372088832
                            · rw [if_pos c29] at H
                              have LMc29 := Aside0.mk c29
                              clear c29
                              obtain ⟨y168, hy168⟩ : ∃ y_ : List Int, y_ = (y165 ++ [(-2147483648)]) := ⟨_, rfl⟩
                              replace H : ((fixed_Dot.f kj3 y159 y168).bind fun bt171 => ((fixed_Dot.f kj3 l0 l0).bind fun bt173 => (if t126 = 0 then (if t128 = 0 then (if t152 = 0 then (if bt171.2 = 0 then (if bt173.2 = 0 then (if t125 = t127 then (if t125 = t151 then (if t125 = bt171.1 then (if bt173.1 ≥ 0 then ((bitloftlaw03_alive.f kj3).bind fun t175 => (bitloftlaw03_FixedTurns.j1 kj3 t175)) else (bitloftlaw03_FixedTurns.j1 kj3 false)) else (bitloftlaw03_FixedTurns.j1 kj3 false)) else (bitloftlaw03_FixedTurns.j1 kj3 false)) else (bitloftlaw03_FixedTurns.j1 kj3 false)) else (bitloftlaw03_FixedTurns.j1 kj3 false)) else (bitloftlaw03_FixedTurns.j1 kj3 false)) else (bitloftlaw03_FixedTurns.j1 kj3 false)) else (bitloftlaw03_FixedTurns.j1 kj3 false)) else (bitloftlaw03_FixedTurns.j1 kj3 false)))) = some r := by first | (rw [hy168]; with_reducible exact H) | (have H2_ := (Option.bind_some _ _).symm.trans H; rw [hy168]; with_reducible exact H2_) | (have H2_ := (Option.bind_some _ _).symm.trans H; with_reducible exact H2_) | with_reducible exact H | (rw [hy168]; exact H) | exact H
                              have Ny168 := Aside0.mk hy168
                              clear hy168
                              replace H := Option.bind_eq_some_iff.mp H
                              obtain ⟨⟨t171, t172⟩, A300, H⟩ := H
                              replace H : ((fixed_Dot.f kj3 l0 l0).bind fun bt173 => (if t126 = 0 then (if t128 = 0 then (if t152 = 0 then (if t172 = 0 then (if bt173.2 = 0 then (if t125 = t127 then (if t125 = t151 then (if t125 = t171 then (if bt173.1 ≥ 0 then ((bitloftlaw03_alive.f kj3).bind fun t175 => (bitloftlaw03_FixedTurns.j1 kj3 t175)) else (bitloftlaw03_FixedTurns.j1 kj3 false)) else (bitloftlaw03_FixedTurns.j1 kj3 false)) else (bitloftlaw03_FixedTurns.j1 kj3 false)) else (bitloftlaw03_FixedTurns.j1 kj3 false)) else (bitloftlaw03_FixedTurns.j1 kj3 false)) else (bitloftlaw03_FixedTurns.j1 kj3 false)) else (bitloftlaw03_FixedTurns.j1 kj3 false)) else (bitloftlaw03_FixedTurns.j1 kj3 false)) else (bitloftlaw03_FixedTurns.j1 kj3 false))) = some r := H
                              have A30 := Aside0.mk A300
                              clear A300
                              replace H := Option.bind_eq_some_iff.mp H
                              obtain ⟨⟨t173, t174⟩, A310, H⟩ := H
                              replace H : (if t126 = 0 then (if t128 = 0 then (if t152 = 0 then (if t172 = 0 then (if t174 = 0 then (if t125 = t127 then (if t125 = t151 then (if t125 = t171 then (if t173 ≥ 0 then ((bitloftlaw03_alive.f kj3).bind fun t175 => (bitloftlaw03_FixedTurns.j1 kj3 t175)) else (bitloftlaw03_FixedTurns.j1 kj3 false)) else (bitloftlaw03_FixedTurns.j1 kj3 false)) else (bitloftlaw03_FixedTurns.j1 kj3 false)) else (bitloftlaw03_FixedTurns.j1 kj3 false)) else (bitloftlaw03_FixedTurns.j1 kj3 false)) else (bitloftlaw03_FixedTurns.j1 kj3 false)) else (bitloftlaw03_FixedTurns.j1 kj3 false)) else (bitloftlaw03_FixedTurns.j1 kj3 false)) else (bitloftlaw03_FixedTurns.j1 kj3 false)) = some r := H
                              have A31 := Aside0.mk A310
                              clear A310
                              have HC32 := Aside0.mk H
                              clear H
                              try go_wp2_with (first | ((with_reducible refine gate_callee (f := 20) rfl ?_); refine goesL_ (some 41) rfl rfl Try.func20 (by kernel_rfl) rfl #[.slice A0 l0.length c0, .slice A1 l1.length c1] rfl (by (try simp only [List.map_toArray, List.map_cons, List.map_nil]); first | done | rfl | (simp only [List.length_drop, List.length_take]; rfl)) ?_; (with_reducible refine (fixed_Dot.calls kj3 _ _ l0 _ _ l1 t125 t126 _ ?side1 ?side2 ?side3 ?side4 A11.out).mono ?_); (case side1 => repeat (first | exact (Kd.C_below HR0.out HB.out) | (with_reducible refine Kd.C_alloc ?_ _) | (with_reducible refine Kd.C_drewN ?_ _) | (with_reducible refine Kd.C_drew ?_))); (case side2 => exact HC0.out); (case side3 => repeat (first | exact (Kd.C_below HR1.out HB.out) | (with_reducible refine Kd.C_alloc ?_ _) | (with_reducible refine Kd.C_drewN ?_ _) | (with_reducible refine Kd.C_drew ?_))); (case side4 => exact HC1.out); rintro e w33 ⟨rfl, hb⟩; refine ⟨_, rfl, ?_⟩; have n0_ := Aside0.mk (below_step (by repeat (first | (with_reducible first | exact HB.out | apply below_alloc | apply pw_below_drewN | apply below_drew1) | exact HB.out)) hb); clear HB; have HB := n0_; clear n0_; (try clear hb); (try clear hb2); (try clear hk); (try clear hi)) | ((with_reducible refine gate_callee (f := 20) rfl ?_); refine goesL_ (some 47) rfl rfl Try.func20 (by kernel_rfl) rfl #[.slice A1 l1.length c1, .slice A0 l0.length c0] rfl (by (try simp only [List.map_toArray, List.map_cons, List.map_nil]); first | done | rfl | (simp only [List.length_drop, List.length_take]; rfl)) ?_; (with_reducible refine (fixed_Dot.calls kj3 _ _ l1 _ _ l0 t127 t128 _ ?side1 ?side2 ?side3 ?side4 A12.out).mono ?_); (case side1 => repeat (first | exact (Kd.C_below HR1.out HB.out) | (with_reducible refine Kd.C_alloc ?_ _) | (with_reducible refine Kd.C_drewN ?_ _) | (with_reducible refine Kd.C_drew ?_))); (case side2 => exact HC1.out); (case side3 => repeat (first | exact (Kd.C_below HR0.out HB.out) | (with_reducible refine Kd.C_alloc ?_ _) | (with_reducible refine Kd.C_drewN ?_ _) | (with_reducible refine Kd.C_drew ?_))); (case side4 => exact HC0.out); rintro e w34 ⟨rfl, hb⟩; refine ⟨_, rfl, ?_⟩; have n0_ := Aside0.mk (below_step (by repeat (first | (with_reducible first | exact HB.out | apply below_alloc | apply pw_below_drewN | apply below_drew1) | exact HB.out)) hb); clear HB; have HB := n0_; clear n0_; (try clear hb); (try clear hb2); (try clear hk); (try clear hi)))
                              have n0_ := Aside0.mk (below_drew1 HB.out)
                              clear HB
                              have HB := n0_
                              clear n0_
                              obtain ⟨i036, hi036, _, hsz36, _⟩ := info_parts info21
                              obtain ⟨A36, hcut36, hA36, hC36⟩ := print_drop_of (P := Try.prog) (Value.int .i32) 0 30 21 .i64 Try.underlying30 hi036 hsz36 A0 c0 l0 a2 (of_decide_eq_true (by first | (with_reducible assumption) | assumption)) (of_decide_eq_true (by first | (with_reducible assumption) | assumption)) HC0.out
                              have HR132 := Aside0.mk (Kd.C_of_reads (h1 := fun _ => rfl) (hA36 _ (Kd.reads_of_C HR0.out)))
                              have HC132 := Aside0.mk hC36
                              clear hA36 hC36 hi036 hsz36
                              obtain ⟨i037, hi037, _, hsz37, _⟩ := info_parts info21
                              obtain ⟨hcut37, hA37, hC37⟩ := print_take_of (P := Try.prog) (Value.int .i32) 0 30 21 .i64 Try.underlying30 hi037 hsz37 A0 c0 l0 a2 (of_decide_eq_true (by first | (with_reducible assumption) | assumption)) (of_decide_eq_true (by first | (with_reducible assumption) | assumption)) HC0.out
                              have HR136 := Aside0.mk (Kd.C_of_reads (h1 := fun _ => rfl) (hA37 _ (Kd.reads_of_C HR0.out)))
                              have HC136 := Aside0.mk hC37
                              clear hA37 hC37 hi037 hsz37
                              obtain ⟨i038, hi038, _, hsz38, _⟩ := info_parts info21
                              obtain ⟨A38, hcut38, hA38, hC38⟩ := print_drop_of (P := Try.prog) (Value.int .i32) 0 30 21 .i64 Try.underlying30 hi038 hsz38 A1 c1 l1 a2 (of_decide_eq_true (by first | (with_reducible assumption) | assumption)) (of_decide_eq_true (by first | (with_reducible assumption) | assumption)) HC1.out
                              have HR143 := Aside0.mk (Kd.C_of_reads (h1 := fun _ => rfl) (hA38 _ (Kd.reads_of_C HR1.out)))
                              have HC143 := Aside0.mk hC38
                              clear hA38 hC38 hi038 hsz38
                              obtain ⟨i039, hi039, _, hsz39, _⟩ := info_parts info21
                              obtain ⟨hcut39, hA39, hC39⟩ := print_take_of (P := Try.prog) (Value.int .i32) 0 30 21 .i64 Try.underlying30 hi039 hsz39 A1 c1 l1 a2 (of_decide_eq_true (by first | (with_reducible assumption) | assumption)) (of_decide_eq_true (by first | (with_reducible assumption) | assumption)) HC1.out
                              have HR147 := Aside0.mk (Kd.C_of_reads (h1 := fun _ => rfl) (hA39 _ (Kd.reads_of_C HR1.out)))
                              have HC147 := Aside0.mk hC39
                              clear hA39 hC39 hi039 hsz39
                              refine start_ (n := 24) (S := fun w' => True) (ds := []) #[false, false, false, false, false, false, false, false, false, false, false, false, false, false, false, false, false, false, false, false, false, false, false, false] (by kernel_rfl) rfl rfl trivial (fun hHeld => ?_); refine with_tabW bitloftlaw03_FixedTurns.tab5 bitloftlaw03_FixedTurns.bits5 (fun HT_ HW_ => ?_)
                              generalize w34.drew = w35 at HB HR132 HR136 HR143 HR147 hHeld ⊢
                              refine pure_ (i := 1) (N := some 52) (v := ?_) (a' := ?_) #[false, true, false, false, false, false, false, false, false, false, false, false, false, false, false, false, false, false, false, false, false, false, false, false] rfl rfl (any_of HT_.out (by kernel_rfl)) (fun _ _ _ h => h) (Or.inl ⟨by rfl, ?_⟩) ?_ ?_
                              rotate_left
                              · intro w'
                                go_simp
                                with_reducible rfl
                              rotate_left
                              · simp only [Act.put, List.setIfInBounds_toArray, List.set_cons_zero, List.set_cons_succ, i64_w, i32_w]
                                rfl
                              refine pure_ (i := 2) (N := some 53) (v := ?_) (a' := ?_) #[false, true, true, false, false, false, false, false, false, false, false, false, false, false, false, false, false, false, false, false, false, false, false, false] rfl rfl (any_of HT_.out (by kernel_rfl)) (fun _ _ _ h => h) (Or.inl ⟨by rfl, ?_⟩) ?_ ?_
                              rotate_left
                              · intro w'
                                go_simp
                                with_reducible rfl
                              rotate_left
                              · simp only [Act.put, List.setIfInBounds_toArray, List.set_cons_zero, List.set_cons_succ, i64_w, i32_w]
                                rfl
                              refine pure_ (i := 3) (N := some 54) (v := ?_) (a' := ?_) #[false, true, true, true, false, false, false, false, false, false, false, false, false, false, false, false, false, false, false, false, false, false, false, false] rfl rfl (any_of HT_.out (by kernel_rfl)) (fun _ _ _ h => h) (Or.inl ⟨by rfl, ?_⟩) ?_ ?_
                              rotate_left
                              · intro w'
                                go_simp
                                with_reducible rfl
                              rotate_left
                              · simp only [Act.put, List.setIfInBounds_toArray, List.set_cons_zero, List.set_cons_succ, i64_w, i32_w]
                                rfl
                              refine pure_ (i := 5) (N := some 56) (v := ?_) (a' := ?_) #[false, true, true, true, false, true, false, false, false, false, false, false, false, false, false, false, false, false, false, false, false, false, false, false] rfl rfl (any_of HT_.out (by kernel_rfl)) (fun _ _ _ h => h) (Or.inl ⟨by rfl, ?_⟩) ?_ ?_
                              rotate_left
                              · intro w'
                                go_simp
                                with_reducible rfl
                              rotate_left
                              · simp only [Act.put, List.setIfInBounds_toArray, List.set_cons_zero, List.set_cons_succ, i64_w, i32_w]
                                rfl
                              refine pure_ (i := 6) (N := some 57) (v := ?_) (a' := ?_) #[false, true, true, true, false, true, true, false, false, false, false, false, false, false, false, false, false, false, false, false, false, false, false, false] rfl rfl (any_of HT_.out (by kernel_rfl)) (fun _ _ _ h => h) (Or.inl ⟨by rfl, ?_⟩) ?_ ?_
                              rotate_left
                              · intro w'
                                go_simp
                                with_reducible rfl
                              rotate_left
                              · simp only [Act.put, List.setIfInBounds_toArray, List.set_cons_zero, List.set_cons_succ, i64_w, i32_w]
                                rfl
                              refine pure_ (i := 7) (N := some 58) (v := ?_) (a' := ?_) #[false, true, true, true, false, true, true, true, false, false, false, false, false, false, false, false, false, false, false, false, false, false, false, false] rfl rfl (any_of HT_.out (by kernel_rfl)) (fun _ _ _ h => h) (Or.inl ⟨by rfl, ?_⟩) ?_ ?_
                              rotate_left
                              · intro w'
                                go_simp
                                with_reducible rfl
                              rotate_left
                              · simp only [Act.put, List.setIfInBounds_toArray, List.set_cons_zero, List.set_cons_succ, i64_w, i32_w]
                                rfl
                              refine pure_ (i := 10) (N := some 61) (v := ?_) (a' := ?_) #[false, true, true, true, false, true, true, true, false, false, true, false, false, false, false, false, false, false, false, false, false, false, false, false] rfl rfl (any_of HT_.out (by kernel_rfl)) (fun _ _ _ h => h) (Or.inl ⟨by rfl, ?_⟩) ?_ ?_
                              rotate_left
                              · intro w'
                                go_simp
                                with_reducible rfl
                              rotate_left
                              · simp only [Act.put, List.setIfInBounds_toArray, List.set_cons_zero, List.set_cons_succ, i64_w, i32_w]
                                rfl
                              refine pure_ (i := 11) (N := some 62) (v := ?_) (a' := ?_) #[false, true, true, true, false, true, true, true, false, false, true, true, false, false, false, false, false, false, false, false, false, false, false, false] rfl rfl (any_of HT_.out (by kernel_rfl)) (fun _ _ _ h => h) (Or.inl ⟨by rfl, ?_⟩) ?_ ?_
                              rotate_left
                              · intro w'
                                go_simp
                                with_reducible rfl
                              rotate_left
                              · simp only [Act.put, List.setIfInBounds_toArray, List.set_cons_zero, List.set_cons_succ, i64_w, i32_w]
                                rfl
                              refine pure_ (i := 12) (N := some 63) (v := ?_) (a' := ?_) #[false, true, true, true, false, true, true, true, false, false, true, true, true, false, false, false, false, false, false, false, false, false, false, false] rfl rfl (any_of HT_.out (by kernel_rfl)) (fun _ _ _ h => h) (Or.inl ⟨by rfl, ?_⟩) ?_ ?_
                              rotate_left
                              · intro w'
                                go_simp
                                with_reducible rfl
                              rotate_left
                              · simp only [Act.put, List.setIfInBounds_toArray, List.set_cons_zero, List.set_cons_succ, i64_w, i32_w]
                                rfl
                              refine pure_ (i := 14) (N := some 65) (v := ?_) (a' := ?_) #[false, true, true, true, false, true, true, true, false, false, true, true, true, false, true, false, false, false, false, false, false, false, false, false] rfl rfl (any_of HT_.out (by kernel_rfl)) (fun _ _ _ h => h) (Or.inl ⟨by rfl, ?_⟩) ?_ ?_
                              rotate_left
                              · intro w'
                                go_simp
                                with_reducible rfl
                              rotate_left
                              · simp only [Act.put, List.setIfInBounds_toArray, List.set_cons_zero, List.set_cons_succ, i64_w, i32_w]
                                rfl
                              refine pure_ (i := 15) (N := some 66) (v := ?_) (a' := ?_) #[false, true, true, true, false, true, true, true, false, false, true, true, true, false, true, true, false, false, false, false, false, false, false, false] rfl rfl (any_of HT_.out (by kernel_rfl)) (fun _ _ _ h => h) (Or.inl ⟨by rfl, ?_⟩) ?_ ?_
                              rotate_left
                              · intro w'
                                go_simp
                                with_reducible rfl
                              rotate_left
                              · simp only [Act.put, List.setIfInBounds_toArray, List.set_cons_zero, List.set_cons_succ, i64_w, i32_w]
                                rfl
                              refine pure_ (i := 16) (N := some 67) (v := ?_) (a' := ?_) #[false, true, true, true, false, true, true, true, false, false, true, true, true, false, true, true, true, false, false, false, false, false, false, false] rfl rfl (any_of HT_.out (by kernel_rfl)) (fun _ _ _ h => h) (Or.inl ⟨by rfl, ?_⟩) ?_ ?_
                              rotate_left
                              · intro w'
                                go_simp
                                with_reducible rfl
                              rotate_left
                              · simp only [Act.put, List.setIfInBounds_toArray, List.set_cons_zero, List.set_cons_succ, i64_w, i32_w]
                                rfl
                              refine join_ (σ := Value × Value × Value × Value) 8 #[true, true, true, true, true, true, true, true, true, true, true, true, true, false, true, true, true, false, false, false, false, false, false, false] (fun s_ => [(51, s_.1), (55, s_.2.1), (59, s_.2.2.1), (60, s_.2.2.2)]) (fun s_ w' => (Kd.R (Kd.int .i32) 21 w' w.heap.size (fun k_ => some k_ ≠ (s_.2.2.2 : Value).ownBlock) s_.2.2.1 y137) ∧ (Kd.R (Kd.int .i32) 21 w' w.heap.size (fun k_ => some k_ ≠ (s_.2.2.1 : Value).ownBlock) s_.2.2.2 y140) ∧ (Below w.heap.size w w')) ?_ ?_
                              rotate_left
                              · intro hCont
                                refine two_ (i := 0) (j := 9) (Ni := some 51) (Nj := some 60) #[true, true, true, true, false, true, true, true, false, false, true, true, true, false, true, true, true, false, false, false, false, false, false, false] #[false, true, true, true, false, true, true, true, false, true, true, true, true, false, true, true, true, false, false, false, false, false, false, false] rfl rfl rfl rfl (two_of HT_.out (by kernel_rfl)) (by decide) (by decide) (fun K hK => ?_) (fun K hK => ?_)
                                · skip
                                  refine Kd.R_lit_step (Kd.int .i32) _ 21 ?hg (N := 51) ?hd (xs := ([] : List Int)) (inner := []) (ok := fun _ => True) (okp := fun _ => True) ?hr ?hp (fun _ hk => hk) trivial (Below.refl _ _) (Nat.le_refl _) (by simp) ?_; (case hd => rfl); (case hg => rfl); (case hr => first | (go_simp; done) | (go_simp; rfl)); (case hp => exact (Reps.none _ _))
                                  intro v130 w40 ho41 hb hg_ hnew_
                                  clear hg_ hnew_
                                  (first | rw [← Ny129.out] at ho41 | (simp only [Int.reduceToNat] at ho41; rw [← Ny129.out] at ho41))
                                  have n0_ := Aside0.mk (Kd.R_lower ho41 (below_size (by repeat (first | (with_reducible first | exact HB.out | apply below_alloc | apply pw_below_drewN | apply below_drew1) | exact HB.out))))
                                  have n1_ := Aside0.mk (below_step (by repeat (first | (with_reducible first | exact HB.out | apply below_alloc | apply pw_below_drewN | apply below_drew1) | exact HB.out)) hb)
                                  clear HB
                                  have HO131 := n0_
                                  have HB := n1_
                                  clear n0_ n1_
                                  clear hb ho41
                                  refine hK.out _ _ trivial (fun hHeld => ?_)
                                  clear hK K
                                  refine norm_ (a' := ?_) ?_ ?_
                                  rotate_left
                                  · show Act.put _ (some 51) _ = _
                                    simp only [Act.put, List.setIfInBounds_toArray, List.set_cons_zero, List.set_cons_succ, i64_w, i32_w]
                                    rfl
                                  refine two_ (i := 4) (j := 9) (Ni := some 55) (Nj := some 60) #[true, true, true, true, true, true, true, true, false, false, true, true, true, false, true, true, true, false, false, false, false, false, false, false] #[true, true, true, true, false, true, true, true, false, true, true, true, true, false, true, true, true, false, false, false, false, false, false, false] rfl rfl rfl rfl (two_of HT_.out (by kernel_rfl)) (by decide) (by decide) (fun K hK => ?_) (fun K hK => ?_)
                                  · skip
                                    refine Kd.R_append_rows_step (Kd.int .i32) (w0 := w) w.heap.size (by rfl) (.tmp 51) (.tmp 54) 30 21 (.int .i32 0) 4 rfl Try.underlying30 info21 rfl (by decide) (by omega) v130 y129 (l0.drop (a2 : Int).toNat) _ _ _ (fun _ => True) (fun _ => False) rfl rfl ?aO ?aR (fun _ _ h => h) (fun _ h => h.elim) ?aF ?aB ?aS ?aL ?_
                                    (case aR => first | (refine C_len_ (show (l0.drop (a2 : Int).toNat).length = (l0.length - a2.toNat) from List.length_drop) ?_; repeat (first | exact (Kd.C_below HR132.out HB.out) | (with_reducible refine Kd.C_alloc ?_ _) | (with_reducible refine Kd.C_drewN ?_ _) | (with_reducible refine Kd.C_drew ?_)); done) | (rw [← show (l0.drop (a2 : Int).toNat).length = (l0.length - a2.toNat) from List.length_drop]; repeat (first | exact (Kd.C_below HR132.out HB.out) | (with_reducible refine Kd.C_alloc ?_ _) | (with_reducible refine Kd.C_drewN ?_ _) | (with_reducible refine Kd.C_drew ?_))) | (repeat (first | exact (Kd.C_below HR132.out HB.out) | (with_reducible refine Kd.C_alloc ?_ _) | (with_reducible refine Kd.C_drewN ?_ _) | (with_reducible refine Kd.C_drew ?_))))
                                    (case aB => exact (by repeat (first | (with_reducible first | exact HB.out | apply below_alloc | apply pw_below_drewN | apply below_drew1) | exact HB.out)))
                                    (case aF => exact (fun _ _ => trivial))
                                    (case aO => exact (by (with_reducible repeat (first | apply Kd.R_alloc | apply Kd.R_drewN | apply Kd.R_drew)); exact HO131.out))
                                    (case aS => exact (below_size (by repeat (first | (with_reducible first | exact HB.out | apply below_alloc | apply pw_below_drewN | apply below_drew1) | exact HB.out))))
                                    (case aL => have := LMc15.out; have hlx_ := (show (l0.drop (a2 : Int).toNat).length = (l0.length - a2.toNat) from List.length_drop); omega)
                                    intro v134 w42 ho hb hg hat
                                    rw [← Ny133.out] at ho
                                    have n0_ := Aside0.mk (hb)
                                    have n1_ := Aside0.mk (ho)
                                    clear HB
                                    clear HO131
                                    have HB := n0_
                                    have HO135 := n1_
                                    clear n0_ n1_
                                    clear ho hb hg hat
                                    refine hK.out _ _ trivial (fun hHeld => ?_)
                                    clear hK K
                                    refine norm_ (a' := ?_) ?_ ?_
                                    rotate_left
                                    · show Act.put _ (some 55) _ = _
                                      simp only [Act.put, List.setIfInBounds_toArray, List.set_cons_zero, List.set_cons_succ, i64_w, i32_w]
                                      rfl
                                    refine two_ (i := 8) (j := 9) (Ni := some 59) (Nj := some 60) #[true, true, true, true, true, true, true, true, true, false, true, true, true, false, true, true, true, false, false, false, false, false, false, false] #[true, true, true, true, true, true, true, true, false, true, true, true, true, false, true, true, true, false, false, false, false, false, false, false] rfl rfl rfl rfl (two_of HT_.out (by kernel_rfl)) (by decide) (by decide) (fun K hK => ?_) (fun K hK => ?_)
                                    · skip
                                      refine Kd.R_append_rows_step (Kd.int .i32) (w0 := w) w.heap.size (by rfl) (.tmp 55) (.tmp 58) 30 21 (.int .i32 0) 4 rfl Try.underlying30 info21 rfl (by decide) (by omega) v134 y133 (l0.take (a2 : Int).toNat) _ _ _ (fun _ => True) (fun _ => False) rfl rfl ?aO ?aR (fun _ _ h => h) (fun _ h => h.elim) ?aF ?aB ?aS ?aL ?_
                                      (case aR => first | (refine C_len_ (show (l0.take (a2 : Int).toNat).length = a2.toNat from (by rw [List.length_take]; have h_ : (a2 : Int) ≤ (l0.length : Int) := of_decide_eq_true (by first | (with_reducible assumption) | assumption); omega)) ?_; repeat (first | exact (Kd.C_below HR136.out HB.out) | (with_reducible refine Kd.C_alloc ?_ _) | (with_reducible refine Kd.C_drewN ?_ _) | (with_reducible refine Kd.C_drew ?_)); done) | (rw [← show (l0.take (a2 : Int).toNat).length = a2.toNat from (by rw [List.length_take]; have h_ : (a2 : Int) ≤ (l0.length : Int) := of_decide_eq_true (by first | (with_reducible assumption) | assumption); omega)]; repeat (first | exact (Kd.C_below HR136.out HB.out) | (with_reducible refine Kd.C_alloc ?_ _) | (with_reducible refine Kd.C_drewN ?_ _) | (with_reducible refine Kd.C_drew ?_))) | (repeat (first | exact (Kd.C_below HR136.out HB.out) | (with_reducible refine Kd.C_alloc ?_ _) | (with_reducible refine Kd.C_drewN ?_ _) | (with_reducible refine Kd.C_drew ?_))))
                                      (case aB => exact (by repeat (first | (with_reducible first | exact HB.out | apply below_alloc | apply pw_below_drewN | apply below_drew1) | exact HB.out)))
                                      (case aF => exact (fun _ _ => trivial))
                                      (case aO => exact (by (with_reducible repeat (first | apply Kd.R_alloc | apply Kd.R_drewN | apply Kd.R_drew)); exact HO135.out))
                                      (case aS => exact (below_size (by repeat (first | (with_reducible first | exact HB.out | apply below_alloc | apply pw_below_drewN | apply below_drew1) | exact HB.out))))
                                      (case aL => have := LMc18.out; have hlx_ := (show (l0.take (a2 : Int).toNat).length = a2.toNat from (by rw [List.length_take]; have h_ : (a2 : Int) ≤ (l0.length : Int) := of_decide_eq_true (by first | (with_reducible assumption) | assumption); omega)); omega)
                                      intro v138 w43 ho hb hg hat
                                      rw [← Ny137.out] at ho
                                      have n0_ := Aside0.mk (hb)
                                      have n1_ := Aside0.mk (ho)
                                      clear HB
                                      clear HO135
                                      have HB := n0_
                                      have HO139 := n1_
                                      clear n0_ n1_
                                      clear ho hb hg hat
                                      refine hK.out _ _ trivial (fun hHeld => ?_)
                                      clear hK K
                                      refine norm_ (a' := ?_) ?_ ?_
                                      rotate_left
                                      · show Act.put _ (some 59) _ = _
                                        simp only [Act.put, List.setIfInBounds_toArray, List.set_cons_zero, List.set_cons_succ, i64_w, i32_w]
                                        rfl
                                      refine one_ (i := 9) (N := some 60) #[true, true, true, true, true, true, true, true, true, true, true, true, true, false, true, true, true, false, false, false, false, false, false, false] rfl rfl (one_of HT_.out (by kernel_rfl)) (by decide) (fun K hK => ?_)
                                      refine Kd.R_lit_step (Kd.int .i32) _ 21 ?hg (N := 60) ?hd (xs := ([] : List Int)) (inner := []) (ok := fun _ => True) (okp := fun _ => True) ?hr ?hp (fun _ hk => hk) trivial (Below.refl _ _) (Nat.le_refl _) (by simp) ?_; (case hd => rfl); (case hg => rfl); (case hr => first | (go_simp; done) | (go_simp; rfl)); (case hp => exact (Reps.none _ _))
                                      intro v141 w44 ho45 hb hg_ hnew_
                                      clear hg_ hnew_
                                      (first | rw [← Ny140.out] at ho45 | (simp only [Int.reduceToNat] at ho45; rw [← Ny140.out] at ho45))
                                      have n0_ := Aside0.mk (Kd.R_elder' (by (with_reducible repeat (first | apply Kd.R_alloc | apply Kd.R_drewN | apply Kd.R_drew)); exact HO139.out) (Kd.R_base ho45) hb)
                                      have n1_ := Aside0.mk (Kd.R_lower (Kd.R_new' ho45 (Kd.R_lt (by (with_reducible repeat (first | apply Kd.R_alloc | apply Kd.R_drewN | apply Kd.R_drew)); exact HO139.out))) (below_size (by repeat (first | (with_reducible first | exact HB.out | apply below_alloc | apply pw_below_drewN | apply below_drew1) | exact HB.out))))
                                      have n2_ := Aside0.mk (below_step (by repeat (first | (with_reducible first | exact HB.out | apply below_alloc | apply pw_below_drewN | apply below_drew1) | exact HB.out)) hb)
                                      clear HO139
                                      clear HB
                                      have HO139 := n0_
                                      have HO142 := n1_
                                      have HB := n2_
                                      clear n0_ n1_ n2_
                                      clear hb ho45
                                      refine hK.out _ _ trivial (fun hHeld => ?_)
                                      clear hK K
                                      refine norm_ (a' := ?_) ?_ ?_
                                      rotate_left
                                      · show Act.put _ (some 60) _ = _
                                        simp only [Act.put, List.setIfInBounds_toArray, List.set_cons_zero, List.set_cons_succ, i64_w, i32_w]
                                        rfl
                                      exact norm_ (by simp only [putAll, Act.put, List.setIfInBounds_toArray, List.set_cons_zero, List.set_cons_succ]) (hCont (v130, v134, v138, v141) _ ⟨(by (with_reducible repeat (first | apply Kd.R_alloc | apply Kd.R_drewN | apply Kd.R_drew)); exact Kd.R_mono HO139.out (fun _ hk => hk.2)), (by (with_reducible repeat (first | apply Kd.R_alloc | apply Kd.R_drewN | apply Kd.R_drew)); exact Kd.R_mono HO142.out (fun _ hk => hk.2)), (by repeat (first | (with_reducible first | exact HB.out | apply below_alloc | apply pw_below_drewN | apply below_drew1) | exact HB.out))⟩)
                                    · skip
                                      refine Kd.R_lit_step (Kd.int .i32) _ 21 ?hg (N := 60) ?hd (xs := ([] : List Int)) (inner := []) (ok := fun _ => True) (okp := fun _ => True) ?hr ?hp (fun _ hk => hk) trivial (Below.refl _ _) (Nat.le_refl _) (by simp) ?_; (case hd => rfl); (case hg => rfl); (case hr => first | (go_simp; done) | (go_simp; rfl)); (case hp => exact (Reps.none _ _))
                                      intro v141 w43 ho44 hb hg_ hnew_
                                      clear hg_ hnew_
                                      (first | rw [← Ny140.out] at ho44 | (simp only [Int.reduceToNat] at ho44; rw [← Ny140.out] at ho44))
                                      have n0_ := Aside0.mk (Kd.R_elder' (by (with_reducible repeat (first | apply Kd.R_alloc | apply Kd.R_drewN | apply Kd.R_drew)); exact HO135.out) (Kd.R_base ho44) hb)
                                      have n1_ := Aside0.mk (Kd.R_lower (Kd.R_new' ho44 (Kd.R_lt (by (with_reducible repeat (first | apply Kd.R_alloc | apply Kd.R_drewN | apply Kd.R_drew)); exact HO135.out))) (below_size (by repeat (first | (with_reducible first | exact HB.out | apply below_alloc | apply pw_below_drewN | apply below_drew1) | exact HB.out))))
                                      have n2_ := Aside0.mk (below_step (by repeat (first | (with_reducible first | exact HB.out | apply below_alloc | apply pw_below_drewN | apply below_drew1) | exact HB.out)) hb)
                                      clear HO135
                                      clear HB
                                      have HO135 := n0_
                                      have HO142 := n1_
                                      have HB := n2_
                                      clear n0_ n1_ n2_
                                      clear hb ho44
                                      refine hK.out _ _ trivial (fun hHeld => ?_)
                                      clear hK K
                                      refine norm_ (a' := ?_) ?_ ?_
                                      rotate_left
                                      · show Act.put _ (some 60) _ = _
                                        simp only [Act.put, List.setIfInBounds_toArray, List.set_cons_zero, List.set_cons_succ, i64_w, i32_w]
                                        rfl
                                      refine one_ (i := 8) (N := some 59) #[true, true, true, true, true, true, true, true, true, true, true, true, true, false, true, true, true, false, false, false, false, false, false, false] rfl rfl (one_of HT_.out (by kernel_rfl)) (by decide) (fun K hK => ?_)
                                      refine Kd.R_append_rows_step (Kd.int .i32) (w0 := w) w.heap.size (by rfl) (.tmp 55) (.tmp 58) 30 21 (.int .i32 0) 4 rfl Try.underlying30 info21 rfl (by decide) (by omega) v134 y133 (l0.take (a2 : Int).toNat) _ _ _ (fun k_ => some k_ ≠ (v141 : Value).ownBlock) (fun _ => False) rfl rfl ?aO ?aR (fun _ _ h => h) (fun _ h => h.elim) ?aF ?aB ?aS ?aL ?_
                                      (case aR => first | (refine C_len_ (show (l0.take (a2 : Int).toNat).length = a2.toNat from (by rw [List.length_take]; have h_ : (a2 : Int) ≤ (l0.length : Int) := of_decide_eq_true (by first | (with_reducible assumption) | assumption); omega)) ?_; repeat (first | exact (Kd.C_below HR136.out HB.out) | (with_reducible refine Kd.C_alloc ?_ _) | (with_reducible refine Kd.C_drewN ?_ _) | (with_reducible refine Kd.C_drew ?_)); done) | (rw [← show (l0.take (a2 : Int).toNat).length = a2.toNat from (by rw [List.length_take]; have h_ : (a2 : Int) ≤ (l0.length : Int) := of_decide_eq_true (by first | (with_reducible assumption) | assumption); omega)]; repeat (first | exact (Kd.C_below HR136.out HB.out) | (with_reducible refine Kd.C_alloc ?_ _) | (with_reducible refine Kd.C_drewN ?_ _) | (with_reducible refine Kd.C_drew ?_))) | (repeat (first | exact (Kd.C_below HR136.out HB.out) | (with_reducible refine Kd.C_alloc ?_ _) | (with_reducible refine Kd.C_drewN ?_ _) | (with_reducible refine Kd.C_drew ?_))))
                                      (case aB => exact (by repeat (first | (with_reducible first | exact HB.out | apply below_alloc | apply pw_below_drewN | apply below_drew1) | exact HB.out)))
                                      (case aF => exact (fun k_ hk => Kd.fresh' (Kd.R_lt (by (with_reducible repeat (first | apply Kd.R_alloc | apply Kd.R_drewN | apply Kd.R_drew)); exact HO142.out)) k_ hk))
                                      (case aO => exact (by (with_reducible repeat (first | apply Kd.R_alloc | apply Kd.R_drewN | apply Kd.R_drew)); exact Kd.R_mono HO135.out (fun _ hk => hk.2)))
                                      (case aS => exact (below_size (by repeat (first | (with_reducible first | exact HB.out | apply below_alloc | apply pw_below_drewN | apply below_drew1) | exact HB.out))))
                                      (case aL => have := LMc18.out; have hlx_ := (show (l0.take (a2 : Int).toNat).length = a2.toNat from (by rw [List.length_take]; have h_ : (a2 : Int) ≤ (l0.length : Int) := of_decide_eq_true (by first | (with_reducible assumption) | assumption); omega)); omega)
                                      intro v138 w45 ho hb hg hat
                                      rw [← Ny137.out] at ho
                                      have n0_ := Aside0.mk (Kd.R_after (ok := (fun _ => True)) (by (with_reducible repeat (first | apply Kd.R_alloc | apply Kd.R_drewN | apply Kd.R_drew)); exact HO142.out) hg hat)
                                      have n1_ := Aside0.mk (hb)
                                      have n2_ := Aside0.mk (ho)
                                      clear HO142
                                      clear HB
                                      clear HO135
                                      have HO142 := n0_
                                      have HB := n1_
                                      have HO139 := n2_
                                      clear n0_ n1_ n2_
                                      clear ho hb hg hat
                                      refine hK.out _ _ trivial (fun hHeld => ?_)
                                      clear hK K
                                      refine norm_ (a' := ?_) ?_ ?_
                                      rotate_left
                                      · show Act.put _ (some 59) _ = _
                                        simp only [Act.put, List.setIfInBounds_toArray, List.set_cons_zero, List.set_cons_succ, i64_w, i32_w]
                                        rfl
                                      exact norm_ (by simp only [putAll, Act.put, List.setIfInBounds_toArray, List.set_cons_zero, List.set_cons_succ]) (hCont (v130, v134, v138, v141) _ ⟨(by (with_reducible repeat (first | apply Kd.R_alloc | apply Kd.R_drewN | apply Kd.R_drew)); exact HO139.out), (by (with_reducible repeat (first | apply Kd.R_alloc | apply Kd.R_drewN | apply Kd.R_drew)); exact Kd.R_mono HO142.out (fun _ hk => hk.2)), (by repeat (first | (with_reducible first | exact HB.out | apply below_alloc | apply pw_below_drewN | apply below_drew1) | exact HB.out))⟩)
                                  · skip
                                    refine Kd.R_lit_step (Kd.int .i32) _ 21 ?hg (N := 60) ?hd (xs := ([] : List Int)) (inner := []) (ok := fun _ => True) (okp := fun _ => True) ?hr ?hp (fun _ hk => hk) trivial (Below.refl _ _) (Nat.le_refl _) (by simp) ?_; (case hd => rfl); (case hg => rfl); (case hr => first | (go_simp; done) | (go_simp; rfl)); (case hp => exact (Reps.none _ _))
                                    intro v141 w42 ho43 hb hg_ hnew_
                                    clear hg_ hnew_
                                    (first | rw [← Ny140.out] at ho43 | (simp only [Int.reduceToNat] at ho43; rw [← Ny140.out] at ho43))
                                    have n0_ := Aside0.mk (Kd.R_elder' (by (with_reducible repeat (first | apply Kd.R_alloc | apply Kd.R_drewN | apply Kd.R_drew)); exact HO131.out) (Kd.R_base ho43) hb)
                                    have n1_ := Aside0.mk (Kd.R_lower (Kd.R_new' ho43 (Kd.R_lt (by (with_reducible repeat (first | apply Kd.R_alloc | apply Kd.R_drewN | apply Kd.R_drew)); exact HO131.out))) (below_size (by repeat (first | (with_reducible first | exact HB.out | apply below_alloc | apply pw_below_drewN | apply below_drew1) | exact HB.out))))
                                    have n2_ := Aside0.mk (below_step (by repeat (first | (with_reducible first | exact HB.out | apply below_alloc | apply pw_below_drewN | apply below_drew1) | exact HB.out)) hb)
                                    clear HO131
                                    clear HB
                                    have HO131 := n0_
                                    have HO142 := n1_
                                    have HB := n2_
                                    clear n0_ n1_ n2_
                                    clear hb ho43
                                    refine hK.out _ _ trivial (fun hHeld => ?_)
                                    clear hK K
                                    refine norm_ (a' := ?_) ?_ ?_
                                    rotate_left
                                    · show Act.put _ (some 60) _ = _
                                      simp only [Act.put, List.setIfInBounds_toArray, List.set_cons_zero, List.set_cons_succ, i64_w, i32_w]
                                      rfl
                                    refine one_ (i := 4) (N := some 55) #[true, true, true, true, true, true, true, true, false, true, true, true, true, false, true, true, true, false, false, false, false, false, false, false] rfl rfl (one_of HT_.out (by kernel_rfl)) (by decide) (fun K hK => ?_)
                                    refine Kd.R_append_rows_step (Kd.int .i32) (w0 := w) w.heap.size (by rfl) (.tmp 51) (.tmp 54) 30 21 (.int .i32 0) 4 rfl Try.underlying30 info21 rfl (by decide) (by omega) v130 y129 (l0.drop (a2 : Int).toNat) _ _ _ (fun k_ => some k_ ≠ (v141 : Value).ownBlock) (fun _ => False) rfl rfl ?aO ?aR (fun _ _ h => h) (fun _ h => h.elim) ?aF ?aB ?aS ?aL ?_
                                    (case aR => first | (refine C_len_ (show (l0.drop (a2 : Int).toNat).length = (l0.length - a2.toNat) from List.length_drop) ?_; repeat (first | exact (Kd.C_below HR132.out HB.out) | (with_reducible refine Kd.C_alloc ?_ _) | (with_reducible refine Kd.C_drewN ?_ _) | (with_reducible refine Kd.C_drew ?_)); done) | (rw [← show (l0.drop (a2 : Int).toNat).length = (l0.length - a2.toNat) from List.length_drop]; repeat (first | exact (Kd.C_below HR132.out HB.out) | (with_reducible refine Kd.C_alloc ?_ _) | (with_reducible refine Kd.C_drewN ?_ _) | (with_reducible refine Kd.C_drew ?_))) | (repeat (first | exact (Kd.C_below HR132.out HB.out) | (with_reducible refine Kd.C_alloc ?_ _) | (with_reducible refine Kd.C_drewN ?_ _) | (with_reducible refine Kd.C_drew ?_))))
                                    (case aB => exact (by repeat (first | (with_reducible first | exact HB.out | apply below_alloc | apply pw_below_drewN | apply below_drew1) | exact HB.out)))
                                    (case aF => exact (fun k_ hk => Kd.fresh' (Kd.R_lt (by (with_reducible repeat (first | apply Kd.R_alloc | apply Kd.R_drewN | apply Kd.R_drew)); exact HO142.out)) k_ hk))
                                    (case aO => exact (by (with_reducible repeat (first | apply Kd.R_alloc | apply Kd.R_drewN | apply Kd.R_drew)); exact Kd.R_mono HO131.out (fun _ hk => hk.2)))
                                    (case aS => exact (below_size (by repeat (first | (with_reducible first | exact HB.out | apply below_alloc | apply pw_below_drewN | apply below_drew1) | exact HB.out))))
                                    (case aL => have := LMc15.out; have hlx_ := (show (l0.drop (a2 : Int).toNat).length = (l0.length - a2.toNat) from List.length_drop); omega)
                                    intro v134 w44 ho hb hg hat
                                    rw [← Ny133.out] at ho
                                    have n0_ := Aside0.mk (Kd.R_after (ok := (fun _ => True)) (by (with_reducible repeat (first | apply Kd.R_alloc | apply Kd.R_drewN | apply Kd.R_drew)); exact HO142.out) hg hat)
                                    have n1_ := Aside0.mk (hb)
                                    have n2_ := Aside0.mk (ho)
                                    clear HO142
                                    clear HB
                                    clear HO131
                                    have HO142 := n0_
                                    have HB := n1_
                                    have HO135 := n2_
                                    clear n0_ n1_ n2_
                                    clear ho hb hg hat
                                    refine hK.out _ _ trivial (fun hHeld => ?_)
                                    clear hK K
                                    refine norm_ (a' := ?_) ?_ ?_
                                    rotate_left
                                    · show Act.put _ (some 55) _ = _
                                      simp only [Act.put, List.setIfInBounds_toArray, List.set_cons_zero, List.set_cons_succ, i64_w, i32_w]
                                      rfl
                                    refine one_ (i := 8) (N := some 59) #[true, true, true, true, true, true, true, true, true, true, true, true, true, false, true, true, true, false, false, false, false, false, false, false] rfl rfl (one_of HT_.out (by kernel_rfl)) (by decide) (fun K hK => ?_)
                                    refine Kd.R_append_rows_step (Kd.int .i32) (w0 := w) w.heap.size (by rfl) (.tmp 55) (.tmp 58) 30 21 (.int .i32 0) 4 rfl Try.underlying30 info21 rfl (by decide) (by omega) v134 y133 (l0.take (a2 : Int).toNat) _ _ _ (fun k_ => some k_ ≠ (v141 : Value).ownBlock) (fun _ => False) rfl rfl ?aO ?aR (fun _ _ h => h) (fun _ h => h.elim) ?aF ?aB ?aS ?aL ?_
                                    (case aR => first | (refine C_len_ (show (l0.take (a2 : Int).toNat).length = a2.toNat from (by rw [List.length_take]; have h_ : (a2 : Int) ≤ (l0.length : Int) := of_decide_eq_true (by first | (with_reducible assumption) | assumption); omega)) ?_; repeat (first | exact (Kd.C_below HR136.out HB.out) | (with_reducible refine Kd.C_alloc ?_ _) | (with_reducible refine Kd.C_drewN ?_ _) | (with_reducible refine Kd.C_drew ?_)); done) | (rw [← show (l0.take (a2 : Int).toNat).length = a2.toNat from (by rw [List.length_take]; have h_ : (a2 : Int) ≤ (l0.length : Int) := of_decide_eq_true (by first | (with_reducible assumption) | assumption); omega)]; repeat (first | exact (Kd.C_below HR136.out HB.out) | (with_reducible refine Kd.C_alloc ?_ _) | (with_reducible refine Kd.C_drewN ?_ _) | (with_reducible refine Kd.C_drew ?_))) | (repeat (first | exact (Kd.C_below HR136.out HB.out) | (with_reducible refine Kd.C_alloc ?_ _) | (with_reducible refine Kd.C_drewN ?_ _) | (with_reducible refine Kd.C_drew ?_))))
                                    (case aB => exact (by repeat (first | (with_reducible first | exact HB.out | apply below_alloc | apply pw_below_drewN | apply below_drew1) | exact HB.out)))
                                    (case aF => exact (fun k_ hk => Kd.fresh' (Kd.R_lt (by (with_reducible repeat (first | apply Kd.R_alloc | apply Kd.R_drewN | apply Kd.R_drew)); exact HO142.out)) k_ hk))
                                    (case aO => exact (by (with_reducible repeat (first | apply Kd.R_alloc | apply Kd.R_drewN | apply Kd.R_drew)); exact HO135.out))
                                    (case aS => exact (below_size (by repeat (first | (with_reducible first | exact HB.out | apply below_alloc | apply pw_below_drewN | apply below_drew1) | exact HB.out))))
                                    (case aL => have := LMc18.out; have hlx_ := (show (l0.take (a2 : Int).toNat).length = a2.toNat from (by rw [List.length_take]; have h_ : (a2 : Int) ≤ (l0.length : Int) := of_decide_eq_true (by first | (with_reducible assumption) | assumption); omega)); omega)
                                    intro v138 w45 ho hb hg hat
                                    rw [← Ny137.out] at ho
                                    have n0_ := Aside0.mk (Kd.R_after (ok := (fun _ => True)) (by (with_reducible repeat (first | apply Kd.R_alloc | apply Kd.R_drewN | apply Kd.R_drew)); exact HO142.out) hg hat)
                                    have n1_ := Aside0.mk (hb)
                                    have n2_ := Aside0.mk (ho)
                                    clear HO142
                                    clear HB
                                    clear HO135
                                    have HO142 := n0_
                                    have HB := n1_
                                    have HO139 := n2_
                                    clear n0_ n1_ n2_
                                    clear ho hb hg hat
                                    refine hK.out _ _ trivial (fun hHeld => ?_)
                                    clear hK K
                                    refine norm_ (a' := ?_) ?_ ?_
                                    rotate_left
                                    · show Act.put _ (some 59) _ = _
                                      simp only [Act.put, List.setIfInBounds_toArray, List.set_cons_zero, List.set_cons_succ, i64_w, i32_w]
                                      rfl
                                    exact norm_ (by simp only [putAll, Act.put, List.setIfInBounds_toArray, List.set_cons_zero, List.set_cons_succ]) (hCont (v130, v134, v138, v141) _ ⟨(by (with_reducible repeat (first | apply Kd.R_alloc | apply Kd.R_drewN | apply Kd.R_drew)); exact HO139.out), (by (with_reducible repeat (first | apply Kd.R_alloc | apply Kd.R_drewN | apply Kd.R_drew)); exact Kd.R_mono HO142.out (fun _ hk => hk.2)), (by repeat (first | (with_reducible first | exact HB.out | apply below_alloc | apply pw_below_drewN | apply below_drew1) | exact HB.out))⟩)
                                · skip
                                  refine Kd.R_lit_step (Kd.int .i32) _ 21 ?hg (N := 60) ?hd (xs := ([] : List Int)) (inner := []) (ok := fun _ => True) (okp := fun _ => True) ?hr ?hp (fun _ hk => hk) trivial (Below.refl _ _) (Nat.le_refl _) (by simp) ?_; (case hd => rfl); (case hg => rfl); (case hr => first | (go_simp; done) | (go_simp; rfl)); (case hp => exact (Reps.none _ _))
                                  intro v141 w40 ho41 hb hg_ hnew_
                                  clear hg_ hnew_
                                  (first | rw [← Ny140.out] at ho41 | (simp only [Int.reduceToNat] at ho41; rw [← Ny140.out] at ho41))
                                  have n0_ := Aside0.mk (Kd.R_lower ho41 (below_size (by repeat (first | (with_reducible first | exact HB.out | apply below_alloc | apply pw_below_drewN | apply below_drew1) | exact HB.out))))
                                  have n1_ := Aside0.mk (below_step (by repeat (first | (with_reducible first | exact HB.out | apply below_alloc | apply pw_below_drewN | apply below_drew1) | exact HB.out)) hb)
                                  clear HB
                                  have HO142 := n0_
                                  have HB := n1_
                                  clear n0_ n1_
                                  clear hb ho41
                                  refine hK.out _ _ trivial (fun hHeld => ?_)
                                  clear hK K
                                  refine norm_ (a' := ?_) ?_ ?_
                                  rotate_left
                                  · show Act.put _ (some 60) _ = _
                                    simp only [Act.put, List.setIfInBounds_toArray, List.set_cons_zero, List.set_cons_succ, i64_w, i32_w]
                                    rfl
                                  refine one_ (i := 0) (N := some 51) #[true, true, true, true, false, true, true, true, false, true, true, true, true, false, true, true, true, false, false, false, false, false, false, false] rfl rfl (one_of HT_.out (by kernel_rfl)) (by decide) (fun K hK => ?_)
                                  refine Kd.R_lit_step (Kd.int .i32) _ 21 ?hg (N := 51) ?hd (xs := ([] : List Int)) (inner := []) (ok := fun _ => True) (okp := fun _ => True) ?hr ?hp (fun _ hk => hk) trivial (Below.refl _ _) (Nat.le_refl _) (by simp) ?_; (case hd => rfl); (case hg => rfl); (case hr => first | (go_simp; done) | (go_simp; rfl)); (case hp => exact (Reps.none _ _))
                                  intro v130 w42 ho43 hb hg_ hnew_
                                  clear hg_ hnew_
                                  (first | rw [← Ny129.out] at ho43 | (simp only [Int.reduceToNat] at ho43; rw [← Ny129.out] at ho43))
                                  have n0_ := Aside0.mk (Kd.R_elder' (by (with_reducible repeat (first | apply Kd.R_alloc | apply Kd.R_drewN | apply Kd.R_drew)); exact HO142.out) (Kd.R_base ho43) hb)
                                  have n1_ := Aside0.mk (Kd.R_lower (Kd.R_new' ho43 (Kd.R_lt (by (with_reducible repeat (first | apply Kd.R_alloc | apply Kd.R_drewN | apply Kd.R_drew)); exact HO142.out))) (below_size (by repeat (first | (with_reducible first | exact HB.out | apply below_alloc | apply pw_below_drewN | apply below_drew1) | exact HB.out))))
                                  have n2_ := Aside0.mk (below_step (by repeat (first | (with_reducible first | exact HB.out | apply below_alloc | apply pw_below_drewN | apply below_drew1) | exact HB.out)) hb)
                                  clear HO142
                                  clear HB
                                  have HO142 := n0_
                                  have HO131 := n1_
                                  have HB := n2_
                                  clear n0_ n1_ n2_
                                  clear hb ho43
                                  refine hK.out _ _ trivial (fun hHeld => ?_)
                                  clear hK K
                                  refine norm_ (a' := ?_) ?_ ?_
                                  rotate_left
                                  · show Act.put _ (some 51) _ = _
                                    simp only [Act.put, List.setIfInBounds_toArray, List.set_cons_zero, List.set_cons_succ, i64_w, i32_w]
                                    rfl
                                  refine one_ (i := 4) (N := some 55) #[true, true, true, true, true, true, true, true, false, true, true, true, true, false, true, true, true, false, false, false, false, false, false, false] rfl rfl (one_of HT_.out (by kernel_rfl)) (by decide) (fun K hK => ?_)
                                  refine Kd.R_append_rows_step (Kd.int .i32) (w0 := w) w.heap.size (by rfl) (.tmp 51) (.tmp 54) 30 21 (.int .i32 0) 4 rfl Try.underlying30 info21 rfl (by decide) (by omega) v130 y129 (l0.drop (a2 : Int).toNat) _ _ _ (fun k_ => some k_ ≠ (v141 : Value).ownBlock) (fun _ => False) rfl rfl ?aO ?aR (fun _ _ h => h) (fun _ h => h.elim) ?aF ?aB ?aS ?aL ?_
                                  (case aR => first | (refine C_len_ (show (l0.drop (a2 : Int).toNat).length = (l0.length - a2.toNat) from List.length_drop) ?_; repeat (first | exact (Kd.C_below HR132.out HB.out) | (with_reducible refine Kd.C_alloc ?_ _) | (with_reducible refine Kd.C_drewN ?_ _) | (with_reducible refine Kd.C_drew ?_)); done) | (rw [← show (l0.drop (a2 : Int).toNat).length = (l0.length - a2.toNat) from List.length_drop]; repeat (first | exact (Kd.C_below HR132.out HB.out) | (with_reducible refine Kd.C_alloc ?_ _) | (with_reducible refine Kd.C_drewN ?_ _) | (with_reducible refine Kd.C_drew ?_))) | (repeat (first | exact (Kd.C_below HR132.out HB.out) | (with_reducible refine Kd.C_alloc ?_ _) | (with_reducible refine Kd.C_drewN ?_ _) | (with_reducible refine Kd.C_drew ?_))))
                                  (case aB => exact (by repeat (first | (with_reducible first | exact HB.out | apply below_alloc | apply pw_below_drewN | apply below_drew1) | exact HB.out)))
                                  (case aF => exact (fun k_ hk => Kd.fresh' (Kd.R_lt (by (with_reducible repeat (first | apply Kd.R_alloc | apply Kd.R_drewN | apply Kd.R_drew)); exact HO142.out)) k_ hk))
                                  (case aO => exact (by (with_reducible repeat (first | apply Kd.R_alloc | apply Kd.R_drewN | apply Kd.R_drew)); exact Kd.R_mono HO131.out (fun _ hk => hk.2)))
                                  (case aS => exact (below_size (by repeat (first | (with_reducible first | exact HB.out | apply below_alloc | apply pw_below_drewN | apply below_drew1) | exact HB.out))))
                                  (case aL => have := LMc15.out; have hlx_ := (show (l0.drop (a2 : Int).toNat).length = (l0.length - a2.toNat) from List.length_drop); omega)
                                  intro v134 w44 ho hb hg hat
                                  rw [← Ny133.out] at ho
                                  have n0_ := Aside0.mk (Kd.R_after (ok := (fun _ => True)) (by (with_reducible repeat (first | apply Kd.R_alloc | apply Kd.R_drewN | apply Kd.R_drew)); exact HO142.out) hg hat)
                                  have n1_ := Aside0.mk (hb)
                                  have n2_ := Aside0.mk (ho)
                                  clear HO142
                                  clear HB
                                  clear HO131
                                  have HO142 := n0_
                                  have HB := n1_
                                  have HO135 := n2_
                                  clear n0_ n1_ n2_
                                  clear ho hb hg hat
                                  refine hK.out _ _ trivial (fun hHeld => ?_)
                                  clear hK K
                                  refine norm_ (a' := ?_) ?_ ?_
                                  rotate_left
                                  · show Act.put _ (some 55) _ = _
                                    simp only [Act.put, List.setIfInBounds_toArray, List.set_cons_zero, List.set_cons_succ, i64_w, i32_w]
                                    rfl
                                  refine one_ (i := 8) (N := some 59) #[true, true, true, true, true, true, true, true, true, true, true, true, true, false, true, true, true, false, false, false, false, false, false, false] rfl rfl (one_of HT_.out (by kernel_rfl)) (by decide) (fun K hK => ?_)
                                  refine Kd.R_append_rows_step (Kd.int .i32) (w0 := w) w.heap.size (by rfl) (.tmp 55) (.tmp 58) 30 21 (.int .i32 0) 4 rfl Try.underlying30 info21 rfl (by decide) (by omega) v134 y133 (l0.take (a2 : Int).toNat) _ _ _ (fun k_ => some k_ ≠ (v141 : Value).ownBlock) (fun _ => False) rfl rfl ?aO ?aR (fun _ _ h => h) (fun _ h => h.elim) ?aF ?aB ?aS ?aL ?_
                                  (case aR => first | (refine C_len_ (show (l0.take (a2 : Int).toNat).length = a2.toNat from (by rw [List.length_take]; have h_ : (a2 : Int) ≤ (l0.length : Int) := of_decide_eq_true (by first | (with_reducible assumption) | assumption); omega)) ?_; repeat (first | exact (Kd.C_below HR136.out HB.out) | (with_reducible refine Kd.C_alloc ?_ _) | (with_reducible refine Kd.C_drewN ?_ _) | (with_reducible refine Kd.C_drew ?_)); done) | (rw [← show (l0.take (a2 : Int).toNat).length = a2.toNat from (by rw [List.length_take]; have h_ : (a2 : Int) ≤ (l0.length : Int) := of_decide_eq_true (by first | (with_reducible assumption) | assumption); omega)]; repeat (first | exact (Kd.C_below HR136.out HB.out) | (with_reducible refine Kd.C_alloc ?_ _) | (with_reducible refine Kd.C_drewN ?_ _) | (with_reducible refine Kd.C_drew ?_))) | (repeat (first | exact (Kd.C_below HR136.out HB.out) | (with_reducible refine Kd.C_alloc ?_ _) | (with_reducible refine Kd.C_drewN ?_ _) | (with_reducible refine Kd.C_drew ?_))))
                                  (case aB => exact (by repeat (first | (with_reducible first | exact HB.out | apply below_alloc | apply pw_below_drewN | apply below_drew1) | exact HB.out)))
                                  (case aF => exact (fun k_ hk => Kd.fresh' (Kd.R_lt (by (with_reducible repeat (first | apply Kd.R_alloc | apply Kd.R_drewN | apply Kd.R_drew)); exact HO142.out)) k_ hk))
                                  (case aO => exact (by (with_reducible repeat (first | apply Kd.R_alloc | apply Kd.R_drewN | apply Kd.R_drew)); exact HO135.out))
                                  (case aS => exact (below_size (by repeat (first | (with_reducible first | exact HB.out | apply below_alloc | apply pw_below_drewN | apply below_drew1) | exact HB.out))))
                                  (case aL => have := LMc18.out; have hlx_ := (show (l0.take (a2 : Int).toNat).length = a2.toNat from (by rw [List.length_take]; have h_ : (a2 : Int) ≤ (l0.length : Int) := of_decide_eq_true (by first | (with_reducible assumption) | assumption); omega)); omega)
                                  intro v138 w45 ho hb hg hat
                                  rw [← Ny137.out] at ho
                                  have n0_ := Aside0.mk (Kd.R_after (ok := (fun _ => True)) (by (with_reducible repeat (first | apply Kd.R_alloc | apply Kd.R_drewN | apply Kd.R_drew)); exact HO142.out) hg hat)
                                  have n1_ := Aside0.mk (hb)
                                  have n2_ := Aside0.mk (ho)
                                  clear HO142
                                  clear HB
                                  clear HO135
                                  have HO142 := n0_
                                  have HB := n1_
                                  have HO139 := n2_
                                  clear n0_ n1_ n2_
                                  clear ho hb hg hat
                                  refine hK.out _ _ trivial (fun hHeld => ?_)
                                  clear hK K
                                  refine norm_ (a' := ?_) ?_ ?_
                                  rotate_left
                                  · show Act.put _ (some 59) _ = _
                                    simp only [Act.put, List.setIfInBounds_toArray, List.set_cons_zero, List.set_cons_succ, i64_w, i32_w]
                                    rfl
                                  exact norm_ (by simp only [putAll, Act.put, List.setIfInBounds_toArray, List.set_cons_zero, List.set_cons_succ]) (hCont (v130, v134, v138, v141) _ ⟨(by (with_reducible repeat (first | apply Kd.R_alloc | apply Kd.R_drewN | apply Kd.R_drew)); exact HO139.out), (by (with_reducible repeat (first | apply Kd.R_alloc | apply Kd.R_drewN | apply Kd.R_drew)); exact Kd.R_mono HO142.out (fun _ hk => hk.2)), (by repeat (first | (with_reducible first | exact HB.out | apply below_alloc | apply pw_below_drewN | apply below_drew1) | exact HB.out))⟩)
                              rintro ⟨v130, v134, v138, v141⟩ w46 ⟨h0_, h1_, h2_⟩
                              have n0_ : Aside0 (Kd.R (Kd.int .i32) 21 w46 w.heap.size (fun k_ => some k_ ≠ (v141 : Value).ownBlock) v138 y137) := ⟨h0_⟩
                              have n1_ : Aside0 (Kd.R (Kd.int .i32) 21 w46 w.heap.size (fun k_ => some k_ ≠ (v138 : Value).ownBlock) v141 y140) := ⟨h1_⟩
                              have n2_ : Aside0 (Below w.heap.size w w46) := ⟨h2_⟩
                              clear HB
                              clear h0_ h1_ h2_
                              have HO139 := n0_
                              have HO142 := n1_
                              have HB := n2_
                              clear n0_ n1_ n2_
                              have hHeld := trivial
                              refine norm_ (a' := ?_) ?_ ?_
                              rotate_left
                              · simp only [putAll, Act.put, List.setIfInBounds_toArray, List.set_cons_zero, List.set_cons_succ]
                                rfl
                              refine one_ (i := 13) (N := some 64) #[true, true, true, true, true, true, true, true, true, true, true, true, true, true, true, true, true, false, false, false, false, false, false, false] rfl rfl (one_of HT_.out (by kernel_rfl)) (by decide) (fun K hK => ?_)
                              refine Kd.R_append_rows_step (Kd.int .i32) (w0 := w) w.heap.size (by rfl) (.tmp 60) (.tmp 63) 30 21 (.int .i32 0) 4 rfl Try.underlying30 info21 rfl (by decide) (by omega) v141 y140 (l1.drop (a2 : Int).toNat) _ _ _ (fun k_ => some k_ ≠ (v138 : Value).ownBlock) (fun _ => False) rfl rfl ?aO ?aR (fun _ _ h => h) (fun _ h => h.elim) ?aF ?aB ?aS ?aL ?_
                              (case aR => first | (refine C_len_ (show (l1.drop (a2 : Int).toNat).length = (l1.length - a2.toNat) from List.length_drop) ?_; repeat (first | exact (Kd.C_below HR143.out HB.out) | (with_reducible refine Kd.C_alloc ?_ _) | (with_reducible refine Kd.C_drewN ?_ _) | (with_reducible refine Kd.C_drew ?_)); done) | (rw [← show (l1.drop (a2 : Int).toNat).length = (l1.length - a2.toNat) from List.length_drop]; repeat (first | exact (Kd.C_below HR143.out HB.out) | (with_reducible refine Kd.C_alloc ?_ _) | (with_reducible refine Kd.C_drewN ?_ _) | (with_reducible refine Kd.C_drew ?_))) | (repeat (first | exact (Kd.C_below HR143.out HB.out) | (with_reducible refine Kd.C_alloc ?_ _) | (with_reducible refine Kd.C_drewN ?_ _) | (with_reducible refine Kd.C_drew ?_))))
                              (case aB => exact (by repeat (first | (with_reducible first | exact HB.out | apply below_alloc | apply pw_below_drewN | apply below_drew1) | exact HB.out)))
                              (case aF => exact (fun k_ hk => Kd.fresh' (Kd.R_lt (by (with_reducible repeat (first | apply Kd.R_alloc | apply Kd.R_drewN | apply Kd.R_drew)); exact HO139.out)) k_ hk))
                              (case aO => exact (by (with_reducible repeat (first | apply Kd.R_alloc | apply Kd.R_drewN | apply Kd.R_drew)); exact HO142.out))
                              (case aS => exact (below_size (by repeat (first | (with_reducible first | exact HB.out | apply below_alloc | apply pw_below_drewN | apply below_drew1) | exact HB.out))))
                              (case aL => have := LMc21.out; have hlx_ := (show (l1.drop (a2 : Int).toNat).length = (l1.length - a2.toNat) from List.length_drop); omega)
                              intro v145 w47 ho hb hg hat
                              rw [← Ny144.out] at ho
                              have n0_ := Aside0.mk (Kd.R_after (ok := (fun _ => True)) (by (with_reducible repeat (first | apply Kd.R_alloc | apply Kd.R_drewN | apply Kd.R_drew)); exact Kd.R_mono HO139.out (fun _ hk => ⟨trivial, hk⟩)) hg hat)
                              have n1_ := Aside0.mk (hb)
                              have n2_ := Aside0.mk (ho)
                              clear HO139
                              clear HB
                              clear HO142
                              have HO139 := n0_
                              have HB := n1_
                              have HO146 := n2_
                              clear n0_ n1_ n2_
                              clear ho hb hg hat
                              refine hK.out _ _ trivial (fun hHeld => ?_)
                              clear hK K
                              refine norm_ (a' := ?_) ?_ ?_
                              rotate_left
                              · show Act.put _ (some 64) _ = _
                                simp only [Act.put, List.setIfInBounds_toArray, List.set_cons_zero, List.set_cons_succ, i64_w, i32_w]
                                rfl
                              refine one_ (i := 17) (N := some 68) #[true, true, true, true, true, true, true, true, true, true, true, true, true, true, true, true, true, true, false, false, false, false, false, false] rfl rfl (one_of HT_.out (by kernel_rfl)) (by decide) (fun K hK => ?_)
                              refine Kd.R_append_rows_step (Kd.int .i32) (w0 := w) w.heap.size (by rfl) (.tmp 64) (.tmp 67) 30 21 (.int .i32 0) 4 rfl Try.underlying30 info21 rfl (by decide) (by omega) v145 y144 (l1.take (a2 : Int).toNat) _ _ _ (fun k_ => some k_ ≠ (v138 : Value).ownBlock) (fun _ => False) rfl rfl ?aO ?aR (fun _ _ h => h) (fun _ h => h.elim) ?aF ?aB ?aS ?aL ?_
                              (case aR => first | (refine C_len_ (show (l1.take (a2 : Int).toNat).length = a2.toNat from (by rw [List.length_take]; have h_ : (a2 : Int) ≤ (l1.length : Int) := of_decide_eq_true (by first | (with_reducible assumption) | assumption); omega)) ?_; repeat (first | exact (Kd.C_below HR147.out HB.out) | (with_reducible refine Kd.C_alloc ?_ _) | (with_reducible refine Kd.C_drewN ?_ _) | (with_reducible refine Kd.C_drew ?_)); done) | (rw [← show (l1.take (a2 : Int).toNat).length = a2.toNat from (by rw [List.length_take]; have h_ : (a2 : Int) ≤ (l1.length : Int) := of_decide_eq_true (by first | (with_reducible assumption) | assumption); omega)]; repeat (first | exact (Kd.C_below HR147.out HB.out) | (with_reducible refine Kd.C_alloc ?_ _) | (with_reducible refine Kd.C_drewN ?_ _) | (with_reducible refine Kd.C_drew ?_))) | (repeat (first | exact (Kd.C_below HR147.out HB.out) | (with_reducible refine Kd.C_alloc ?_ _) | (with_reducible refine Kd.C_drewN ?_ _) | (with_reducible refine Kd.C_drew ?_))))
                              (case aB => exact (by repeat (first | (with_reducible first | exact HB.out | apply below_alloc | apply pw_below_drewN | apply below_drew1) | exact HB.out)))
                              (case aF => exact (fun k_ hk => Kd.fresh' (Kd.R_lt (by (with_reducible repeat (first | apply Kd.R_alloc | apply Kd.R_drewN | apply Kd.R_drew)); exact HO139.out)) k_ hk))
                              (case aO => exact (by (with_reducible repeat (first | apply Kd.R_alloc | apply Kd.R_drewN | apply Kd.R_drew)); exact HO146.out))
                              (case aS => exact (below_size (by repeat (first | (with_reducible first | exact HB.out | apply below_alloc | apply pw_below_drewN | apply below_drew1) | exact HB.out))))
                              (case aL => have := LMc24.out; have hlx_ := (show (l1.take (a2 : Int).toNat).length = a2.toNat from (by rw [List.length_take]; have h_ : (a2 : Int) ≤ (l1.length : Int) := of_decide_eq_true (by first | (with_reducible assumption) | assumption); omega)); omega)
                              intro v149 w48 ho hb hg hat
                              rw [← Ny148.out] at ho
                              have n0_ := Aside0.mk (Kd.R_after (ok := (fun _ => True)) (by (with_reducible repeat (first | apply Kd.R_alloc | apply Kd.R_drewN | apply Kd.R_drew)); exact HO139.out) hg hat)
                              have n1_ := Aside0.mk (hb)
                              have n2_ := Aside0.mk (ho)
                              clear HO139
                              clear HB
                              clear HO146
                              have HO139 := n0_
                              have HB := n1_
                              have HO150 := n2_
                              clear n0_ n1_ n2_
                              clear ho hb hg hat
                              obtain ⟨Ao49, co49, eo49⟩ := Kd.R_slice HO139.out
                              (first | subst eo49 | (injection eo49 with f1_ f2_ f3_; have f4_ := f1_.symm; have f5_ := f3_.symm; clear f1_ f2_ f3_; subst f4_; subst f5_))
                              obtain ⟨Ao50, co50, eo50⟩ := Kd.R_slice HO150.out
                              (first | subst eo50 | (injection eo50 with f1_ f2_ f3_; have f4_ := f1_.symm; have f5_ := f3_.symm; clear f1_ f2_ f3_; subst f4_; subst f5_))
                              refine hK.out _ _ trivial (fun hHeld => ?_)
                              clear hK K
                              refine norm_ (a' := ?_) ?_ ?_
                              rotate_left
                              · show Act.put _ (some 68) _ = _
                                simp only [Act.put, List.setIfInBounds_toArray, List.set_cons_zero, List.set_cons_succ, i64_w, i32_w]
                                rfl
                              refine one_ (i := 18) (N := some 69) #[true, true, true, true, true, true, true, true, true, true, true, true, true, true, true, true, true, true, true, false, false, false, false, false] rfl rfl (one_of HT_.out (by kernel_rfl)) (by decide) (fun K hK => ?_)
                              refine goes_ Try.func20 (by kernel_rfl) rfl #[.slice Ao49 y137.length co49, .slice Ao50 y148.length co50] (by rfl) rfl rfl (by (try simp only [List.map_toArray, List.map_cons, List.map_nil]); first | done | rfl | (simp only [List.length_drop, List.length_take]; rfl)) ?_
                              with_reducible refine (fixed_Dot.calls kj3 _ _ y137 _ _ y148 t151 t152 _ ?side1 ?side2 ?side3 ?side4 A25.out).mono ?_
                              (case side1 => repeat (first | exact (Kd.R_reads' HO139.out).2.2 | (with_reducible refine Kd.C_alloc ?_ _) | (with_reducible refine Kd.C_drewN ?_ _) | (with_reducible refine Kd.C_drew ?_)))
                              (case side2 => exact (Kd.R_reads' HO139.out).2.1)
                              (case side3 => repeat (first | exact (Kd.R_reads' HO150.out).2.2 | (with_reducible refine Kd.C_alloc ?_ _) | (with_reducible refine Kd.C_drewN ?_ _) | (with_reducible refine Kd.C_drew ?_)))
                              (case side4 => exact (Kd.R_reads' HO150.out).2.1)
                              rintro e w51 ⟨rfl, hb⟩
                              refine ⟨_, rfl, ?_⟩
                              have n0_ := Aside0.mk (Kd.R_below (by (with_reducible repeat (first | apply Kd.R_alloc | apply Kd.R_drewN | apply Kd.R_drew)); exact HO139.out) hb)
                              have n1_ := Aside0.mk (Kd.R_below (by (with_reducible repeat (first | apply Kd.R_alloc | apply Kd.R_drewN | apply Kd.R_drew)); exact HO150.out) hb)
                              have n2_ := Aside0.mk (below_step (by repeat (first | (with_reducible first | exact HB.out | apply below_alloc | apply pw_below_drewN | apply below_drew1) | exact HB.out)) hb)
                              clear HO139
                              clear HO150
                              clear HB
                              have HO139 := n0_
                              have HO150 := n1_
                              have HB := n2_
                              clear n0_ n1_ n2_
                              (try clear hb)
                              (try clear hb2)
                              (try clear hk)
                              (try clear hi)
                              refine hK.out _ _ trivial (fun hHeld => ?_)
                              clear hK K
                              refine norm_ (a' := ?_) ?_ ?_
                              rotate_left
                              · show Act.put _ (some 69) _ = _
                                simp only [Act.put, List.setIfInBounds_toArray, List.set_cons_zero, List.set_cons_succ, i64_w, i32_w]
                                rfl
                              refine pure_ (i := 19) (N := some 50) (v := ?_) (a' := ?_) #[true, true, true, true, true, true, true, true, true, true, true, true, true, true, true, true, true, true, true, true, false, false, false, false] rfl rfl (any_of HT_.out (by kernel_rfl)) (fun _ _ _ h => h) (Or.inl ⟨by rfl, ?_⟩) ?_ ?_
                              rotate_left
                              · intro w'
                                go_simp
                                with_reducible rfl
                              rotate_left
                              · simp only [Act.put, List.setIfInBounds_toArray, List.set_cons_zero, List.set_cons_succ, i64_w, i32_w]
                                rfl
                              refine pure_ (i := 20) (N := some 70) (v := ?_) (a' := ?_) #[true, true, true, true, true, true, true, true, true, true, true, true, true, true, true, true, true, true, true, true, true, false, false, false] rfl rfl (any_of HT_.out (by kernel_rfl)) (fun _ _ _ h => h) (Or.inl ⟨by rfl, ?_⟩) ?_ ?_
                              rotate_left
                              · intro w'
                                go_simp
                                with_reducible rfl
                              rotate_left
                              · simp only [Act.put, List.setIfInBounds_toArray, List.set_cons_zero, List.set_cons_succ, i64_w, i32_w]
                                rfl
                              refine pure_ (i := 21) (N := some 71) (v := ?_) (a' := ?_) #[true, true, true, true, true, true, true, true, true, true, true, true, true, true, true, true, true, true, true, true, true, true, false, false] rfl rfl (any_of HT_.out (by kernel_rfl)) (fun _ _ _ h => h) (Or.inl ⟨by rfl, ?_⟩) ?_ ?_
                              rotate_left
                              · intro w'
                                go_simp
                                with_reducible rfl
                              rotate_left
                              · simp only [Act.put, List.setIfInBounds_toArray, List.set_cons_zero, List.set_cons_succ, i64_w, i32_w]
                                rfl
                              refine pure_ (i := 22) (N := some 11) (v := ?_) (a' := ?_) #[true, true, true, true, true, true, true, true, true, true, true, true, true, true, true, true, true, true, true, true, true, true, true, false] rfl rfl (any_of HT_.out (by kernel_rfl)) (fun _ _ _ h => h) (Or.inl ⟨by rfl, ?_⟩) ?_ ?_
                              rotate_left
                              · intro w'
                                go_simp
                                with_reducible rfl
                              rotate_left
                              · simp only [Act.put, List.setIfInBounds_toArray, List.set_cons_zero, List.set_cons_succ, i64_w, i32_w]
                                rfl
                              refine pure_ (i := 23) (N := some 12) (v := ?_) (a' := ?_) #[true, true, true, true, true, true, true, true, true, true, true, true, true, true, true, true, true, true, true, true, true, true, true, true] rfl rfl (any_of HT_.out (by kernel_rfl)) (fun _ _ _ h => h) (Or.inl ⟨by rfl, ?_⟩) ?_ ?_
                              rotate_left
                              · intro w'
                                go_simp
                                with_reducible rfl
                              rotate_left
                              · simp only [Act.put, List.setIfInBounds_toArray, List.set_cons_zero, List.set_cons_succ, i64_w, i32_w]
                                rfl
                              refine done_ (done_of HT_.out (by kernel_rfl)) ?_
                              go_upto_region 8 with (first | ((with_reducible refine gate_dst (N := 73) rfl ?_); (try (refine gate_guard (by rfl) ?_; dsimp only)); refine Kd.R_lit (Kd.int .i32) _ 21 ?hg (N := 73) ?hd (xs := ([] : List Int)) (inner := []) (ok := fun _ => True) (okp := fun _ => True) ?hr ?hp (fun _ hk => hk) trivial (Below.refl _ _) (Nat.le_refl _) (by simp) ?_; (case hd => rfl); (case hg => rfl); (case hr => first | (go_simp; done) | (go_simp; rfl)); (case hp => exact (Reps.none _ _)); intro v154 w52 ho53 hb hg_ hnew_; clear hg_ hnew_; (first | rw [← Ny153.out] at ho53 | (simp only [Int.reduceToNat] at ho53; rw [← Ny153.out] at ho53)); have n0_ := Aside0.mk (Kd.R_elder' (by (with_reducible repeat (first | apply Kd.R_alloc | apply Kd.R_drewN | apply Kd.R_drew)); exact HO139.out) (Kd.R_base ho53) hb); have n1_ := Aside0.mk (Kd.R_elder' (by (with_reducible repeat (first | apply Kd.R_alloc | apply Kd.R_drewN | apply Kd.R_drew)); exact HO150.out) (Kd.R_base ho53) hb); have n2_ := Aside0.mk (Kd.R_lower (Kd.R_new' (Kd.R_new' ho53 (Kd.R_lt (by (with_reducible repeat (first | apply Kd.R_alloc | apply Kd.R_drewN | apply Kd.R_drew)); exact HO139.out))) (Kd.R_lt (by (with_reducible repeat (first | apply Kd.R_alloc | apply Kd.R_drewN | apply Kd.R_drew)); exact HO150.out))) (below_size (by repeat (first | (with_reducible first | exact HB.out | apply below_alloc | apply pw_below_drewN | apply below_drew1) | exact HB.out)))); have n3_ := Aside0.mk (below_step (by repeat (first | (with_reducible first | exact HB.out | apply below_alloc | apply pw_below_drewN | apply below_drew1) | exact HB.out)) hb); clear HO139; clear HO150; clear HB; have HO139 := n0_; have HO150 := n1_; have HO155 := n2_; have HB := n3_; clear n0_ n1_ n2_ n3_; clear hb ho53) | ((with_reducible refine gate_builtin (b := .append) (xs := #[.tmp 73, .tmp 74]) rfl ?_); (try (refine gate_guard (by rfl) ?_; dsimp only)); at_builtin; refine Kd.R_append_rows (Kd.int .i32) (w0 := w) w.heap.size rfl (.tmp 73) (.tmp 74) 30 21 (.int .i32 0) 4 rfl Try.underlying30 info21 rfl (by decide) (by omega) v154 y153 l0 _ _ _ (fun k_ => some k_ ≠ (.slice Ao49 y137.length co49 : Value).ownBlock ∧ some k_ ≠ (.slice Ao50 y148.length co50 : Value).ownBlock) (fun _ => False) rfl rfl ?aO ?aR (fun _ _ h => h) (fun _ h => h.elim) ?aF ?aB ?aS ?aL ?_; (case aR => repeat (first | exact (Kd.C_below HR0.out HB.out) | (with_reducible refine Kd.C_alloc ?_ _) | (with_reducible refine Kd.C_drewN ?_ _) | (with_reducible refine Kd.C_drew ?_))); (case aB => exact (by repeat (first | (with_reducible first | exact HB.out | apply below_alloc | apply pw_below_drewN | apply below_drew1) | exact HB.out))); (case aF => exact (fun k_ hk => ⟨Kd.fresh' (Kd.R_lt (by (with_reducible repeat (first | apply Kd.R_alloc | apply Kd.R_drewN | apply Kd.R_drew)); exact HO139.out)) k_ hk, Kd.fresh' (Kd.R_lt (by (with_reducible repeat (first | apply Kd.R_alloc | apply Kd.R_drewN | apply Kd.R_drew)); exact HO150.out)) k_ hk⟩)); (case aO => exact (by (with_reducible repeat (first | apply Kd.R_alloc | apply Kd.R_drewN | apply Kd.R_drew)); exact Kd.R_mono HO155.out (fun _ hk => ⟨hk.1.2, hk.2⟩))); (case aS => exact (below_size (by repeat (first | (with_reducible first | exact HB.out | apply below_alloc | apply pw_below_drewN | apply below_drew1) | exact HB.out)))); (case aL => have := LMc26.out; omega); intro v157 w54 ho hb hg hat; rw [← Ny156.out] at ho; have n0_ := Aside0.mk (Kd.R_after (ok := (fun k_ => some k_ ≠ (.slice Ao50 y148.length co50 : Value).ownBlock)) (by (with_reducible repeat (first | apply Kd.R_alloc | apply Kd.R_drewN | apply Kd.R_drew)); exact Kd.R_mono HO139.out (fun _ hk => ⟨hk.1.2, hk.2⟩)) hg hat); have n1_ := Aside0.mk (Kd.R_after (ok := (fun k_ => some k_ ≠ (.slice Ao49 y137.length co49 : Value).ownBlock)) (by (with_reducible repeat (first | apply Kd.R_alloc | apply Kd.R_drewN | apply Kd.R_drew)); exact HO150.out) hg hat); have n2_ := Aside0.mk (hb); have n3_ := Aside0.mk (ho); clear HO139; clear HO150; clear HB; clear HO155; have HO139 := n0_; have HO150 := n1_; have HB := n2_; have HO158 := n3_; clear n0_ n1_ n2_ n3_; clear ho hb hg hat) | ((with_reducible refine gate_builtin (b := .append) (xs := #[.tmp 75, .tmp 76]) rfl ?_); (try (refine gate_guard (by rfl) ?_; dsimp only)); at_builtin; refine Kd.R_append (Kd.int .i32) (w0 := w) w.heap.size rfl (.tmp 75) (.tmp 76) 30 21 (.int .i32 0) 4 rfl Try.underlying30 info21 rfl (by decide) (by omega) v157 y156 0 [.int .i32 0] (fun k_ => some k_ ≠ (.slice Ao49 y137.length co49 : Value).ownBlock ∧ some k_ ≠ (.slice Ao50 y148.length co50 : Value).ownBlock) (fun _ => False) rfl rfl ?aP (fun _ hk => hk.elim) ?aF ?aO ?aB ?aS ?aL ?_; (case aP => exact rfl); (case aB => exact (by repeat (first | (with_reducible first | exact HB.out | apply below_alloc | apply pw_below_drewN | apply below_drew1) | exact HB.out))); (case aF => exact (fun k_ hk => ⟨Kd.fresh' (Kd.R_lt (by (with_reducible repeat (first | apply Kd.R_alloc | apply Kd.R_drewN | apply Kd.R_drew)); exact HO139.out)) k_ hk, Kd.fresh' (Kd.R_lt (by (with_reducible repeat (first | apply Kd.R_alloc | apply Kd.R_drewN | apply Kd.R_drew)); exact HO150.out)) k_ hk⟩)); (case aO => exact (by (with_reducible repeat (first | apply Kd.R_alloc | apply Kd.R_drewN | apply Kd.R_drew)); exact HO158.out)); (case aS => exact (below_size (by repeat (first | (with_reducible first | exact HB.out | apply below_alloc | apply pw_below_drewN | apply below_drew1) | exact HB.out)))); (case aL => have := LMc27.out; omega); intro v160 w55 ho hb hg hat; rw [← Ny159.out] at ho; have n0_ := Aside0.mk (Kd.R_after (ok := (fun k_ => some k_ ≠ (.slice Ao50 y148.length co50 : Value).ownBlock)) (by (with_reducible repeat (first | apply Kd.R_alloc | apply Kd.R_drewN | apply Kd.R_drew)); exact HO139.out) hg hat); have n1_ := Aside0.mk (Kd.R_after (ok := (fun k_ => some k_ ≠ (.slice Ao49 y137.length co49 : Value).ownBlock)) (by (with_reducible repeat (first | apply Kd.R_alloc | apply Kd.R_drewN | apply Kd.R_drew)); exact HO150.out) hg hat); have n2_ := Aside0.mk (hb); have n3_ := Aside0.mk (ho); clear HO139; clear HO150; clear HB; clear HO158; have HO139 := n0_; have HO150 := n1_; have HB := n2_; have HO161 := n3_; clear n0_ n1_ n2_ n3_; clear ho hb hg hat) | ((with_reducible refine gate_dst (N := 78) rfl ?_); (try (refine gate_guard (by rfl) ?_; dsimp only)); refine Kd.R_lit (Kd.int .i32) _ 21 ?hg (N := 78) ?hd (xs := ([] : List Int)) (inner := []) (ok := fun _ => True) (okp := fun _ => True) ?hr ?hp (fun _ hk => hk) trivial (Below.refl _ _) (Nat.le_refl _) (by simp) ?_; (case hd => rfl); (case hg => rfl); (case hr => first | (go_simp; done) | (go_simp; rfl)); (case hp => exact (Reps.none _ _)); intro v163 w56 ho57 hb hg_ hnew_; clear hg_ hnew_; (first | rw [← Ny162.out] at ho57 | (simp only [Int.reduceToNat] at ho57; rw [← Ny162.out] at ho57)); have n0_ := Aside0.mk (Kd.R_elder' (by (with_reducible repeat (first | apply Kd.R_alloc | apply Kd.R_drewN | apply Kd.R_drew)); exact HO139.out) (Kd.R_base ho57) hb); have n1_ := Aside0.mk (Kd.R_elder' (by (with_reducible repeat (first | apply Kd.R_alloc | apply Kd.R_drewN | apply Kd.R_drew)); exact HO150.out) (Kd.R_base ho57) hb); have n2_ := Aside0.mk (Kd.R_elder' (by (with_reducible repeat (first | apply Kd.R_alloc | apply Kd.R_drewN | apply Kd.R_drew)); exact HO161.out) (Kd.R_base ho57) hb); have n3_ := Aside0.mk (Kd.R_lower (Kd.R_new' (Kd.R_new' (Kd.R_new' ho57 (Kd.R_lt (by (with_reducible repeat (first | apply Kd.R_alloc | apply Kd.R_drewN | apply Kd.R_drew)); exact HO139.out))) (Kd.R_lt (by (with_reducible repeat (first | apply Kd.R_alloc | apply Kd.R_drewN | apply Kd.R_drew)); exact HO150.out))) (Kd.R_lt (by (with_reducible repeat (first | apply Kd.R_alloc | apply Kd.R_drewN | apply Kd.R_drew)); exact HO161.out))) (below_size (by repeat (first | (with_reducible first | exact HB.out | apply below_alloc | apply pw_below_drewN | apply below_drew1) | exact HB.out)))); have n4_ := Aside0.mk (below_step (by repeat (first | (with_reducible first | exact HB.out | apply below_alloc | apply pw_below_drewN | apply below_drew1) | exact HB.out)) hb); clear HO139; clear HO150; clear HO161; clear HB; have HO139 := n0_; have HO150 := n1_; have HO161 := n2_; have HO164 := n3_; have HB := n4_; clear n0_ n1_ n2_ n3_ n4_; clear hb ho57) | ((with_reducible refine gate_builtin (b := .append) (xs := #[.tmp 78, .tmp 79]) rfl ?_); (try (refine gate_guard (by rfl) ?_; dsimp only)); at_builtin; refine Kd.R_append_rows (Kd.int .i32) (w0 := w) w.heap.size rfl (.tmp 78) (.tmp 79) 30 21 (.int .i32 0) 4 rfl Try.underlying30 info21 rfl (by decide) (by omega) v163 y162 l1 _ _ _ (fun k_ => some k_ ≠ (.slice Ao49 y137.length co49 : Value).ownBlock ∧ some k_ ≠ (.slice Ao50 y148.length co50 : Value).ownBlock ∧ some k_ ≠ (v160 : Value).ownBlock) (fun _ => False) rfl rfl ?aO ?aR (fun _ _ h => h) (fun _ h => h.elim) ?aF ?aB ?aS ?aL ?_; (case aR => repeat (first | exact (Kd.C_below HR1.out HB.out) | (with_reducible refine Kd.C_alloc ?_ _) | (with_reducible refine Kd.C_drewN ?_ _) | (with_reducible refine Kd.C_drew ?_))); (case aB => exact (by repeat (first | (with_reducible first | exact HB.out | apply below_alloc | apply pw_below_drewN | apply below_drew1) | exact HB.out))); (case aF => exact (fun k_ hk => ⟨Kd.fresh' (Kd.R_lt (by (with_reducible repeat (first | apply Kd.R_alloc | apply Kd.R_drewN | apply Kd.R_drew)); exact HO139.out)) k_ hk, Kd.fresh' (Kd.R_lt (by (with_reducible repeat (first | apply Kd.R_alloc | apply Kd.R_drewN | apply Kd.R_drew)); exact HO150.out)) k_ hk, Kd.fresh' (Kd.R_lt (by (with_reducible repeat (first | apply Kd.R_alloc | apply Kd.R_drewN | apply Kd.R_drew)); exact HO161.out)) k_ hk⟩)); (case aO => exact (by (with_reducible repeat (first | apply Kd.R_alloc | apply Kd.R_drewN | apply Kd.R_drew)); exact Kd.R_mono HO164.out (fun _ hk => ⟨hk.1.1.2, ⟨hk.1.2, hk.2⟩⟩))); (case aS => exact (below_size (by repeat (first | (with_reducible first | exact HB.out | apply below_alloc | apply pw_below_drewN | apply below_drew1) | exact HB.out)))); (case aL => have := LMc28.out; omega); intro v166 w58 ho hb hg hat; rw [← Ny165.out] at ho; have n0_ := Aside0.mk (Kd.R_after (ok := (fun k_ => some k_ ≠ (.slice Ao50 y148.length co50 : Value).ownBlock ∧ some k_ ≠ (v160 : Value).ownBlock)) (by (with_reducible repeat (first | apply Kd.R_alloc | apply Kd.R_drewN | apply Kd.R_drew)); exact HO139.out) hg hat); have n1_ := Aside0.mk (Kd.R_after (ok := (fun k_ => some k_ ≠ (.slice Ao49 y137.length co49 : Value).ownBlock ∧ some k_ ≠ (v160 : Value).ownBlock)) (by (with_reducible repeat (first | apply Kd.R_alloc | apply Kd.R_drewN | apply Kd.R_drew)); exact HO150.out) hg hat); have n2_ := Aside0.mk (Kd.R_after (ok := (fun k_ => some k_ ≠ (.slice Ao49 y137.length co49 : Value).ownBlock ∧ some k_ ≠ (.slice Ao50 y148.length co50 : Value).ownBlock)) (by (with_reducible repeat (first | apply Kd.R_alloc | apply Kd.R_drewN | apply Kd.R_drew)); exact HO161.out) hg hat); have n3_ := Aside0.mk (hb); have n4_ := Aside0.mk (ho); clear HO139; clear HO150; clear HO161; clear HB; clear HO164; have HO139 := n0_; have HO150 := n1_; have HO161 := n2_; have HB := n3_; have HO167 := n4_; clear n0_ n1_ n2_ n3_ n4_; clear ho hb hg hat) | ((with_reducible refine gate_builtin (b := .append) (xs := #[.tmp 80, .tmp 81]) rfl ?_); (try (refine gate_guard (by rfl) ?_; dsimp only)); at_builtin; refine Kd.R_append (Kd.int .i32) (w0 := w) w.heap.size rfl (.tmp 80) (.tmp 81) 30 21 (.int .i32 0) 4 rfl Try.underlying30 info21 rfl (by decide) (by omega) v166 y165 (-2147483648) [.int .i32 (-2147483648)] (fun k_ => some k_ ≠ (.slice Ao49 y137.length co49 : Value).ownBlock ∧ some k_ ≠ (.slice Ao50 y148.length co50 : Value).ownBlock ∧ some k_ ≠ (v160 : Value).ownBlock) (fun _ => False) rfl rfl ?aP (fun _ hk => hk.elim) ?aF ?aO ?aB ?aS ?aL ?_; (case aP => exact rfl); (case aB => exact (by repeat (first | (with_reducible first | exact HB.out | apply below_alloc | apply pw_below_drewN | apply below_drew1) | exact HB.out))); (case aF => exact (fun k_ hk => ⟨Kd.fresh' (Kd.R_lt (by (with_reducible repeat (first | apply Kd.R_alloc | apply Kd.R_drewN | apply Kd.R_drew)); exact HO139.out)) k_ hk, Kd.fresh' (Kd.R_lt (by (with_reducible repeat (first | apply Kd.R_alloc | apply Kd.R_drewN | apply Kd.R_drew)); exact HO150.out)) k_ hk, Kd.fresh' (Kd.R_lt (by (with_reducible repeat (first | apply Kd.R_alloc | apply Kd.R_drewN | apply Kd.R_drew)); exact HO161.out)) k_ hk⟩)); (case aO => exact (by (with_reducible repeat (first | apply Kd.R_alloc | apply Kd.R_drewN | apply Kd.R_drew)); exact HO167.out)); (case aS => exact (below_size (by repeat (first | (with_reducible first | exact HB.out | apply below_alloc | apply pw_below_drewN | apply below_drew1) | exact HB.out)))); (case aL => have := LMc29.out; omega); intro v169 w59 ho hb hg hat; rw [← Ny168.out] at ho; have n0_ := Aside0.mk (Kd.R_after (ok := (fun k_ => some k_ ≠ (.slice Ao50 y148.length co50 : Value).ownBlock ∧ some k_ ≠ (v160 : Value).ownBlock)) (by (with_reducible repeat (first | apply Kd.R_alloc | apply Kd.R_drewN | apply Kd.R_drew)); exact HO139.out) hg hat); have n1_ := Aside0.mk (Kd.R_after (ok := (fun k_ => some k_ ≠ (.slice Ao49 y137.length co49 : Value).ownBlock ∧ some k_ ≠ (v160 : Value).ownBlock)) (by (with_reducible repeat (first | apply Kd.R_alloc | apply Kd.R_drewN | apply Kd.R_drew)); exact HO150.out) hg hat); have n2_ := Aside0.mk (Kd.R_after (ok := (fun k_ => some k_ ≠ (.slice Ao49 y137.length co49 : Value).ownBlock ∧ some k_ ≠ (.slice Ao50 y148.length co50 : Value).ownBlock)) (by (with_reducible repeat (first | apply Kd.R_alloc | apply Kd.R_drewN | apply Kd.R_drew)); exact HO161.out) hg hat); have n3_ := Aside0.mk (hb); have n4_ := Aside0.mk (ho); clear HO139; clear HO150; clear HO161; clear HB; clear HO167; have HO139 := n0_; have HO150 := n1_; have HO161 := n2_; have HB := n3_; have HO170 := n4_; clear n0_ n1_ n2_ n3_ n4_; clear ho hb hg hat; obtain ⟨Ao60, co60, eo60⟩ := Kd.R_slice HO161.out; subst eo60; obtain ⟨Ao61, co61, eo61⟩ := Kd.R_slice HO170.out; subst eo61) | ((with_reducible refine gate_callee (f := 20) rfl ?_); refine goesL_ (some 83) rfl rfl Try.func20 (by kernel_rfl) rfl #[.slice Ao60 y159.length co60, .slice Ao61 y168.length co61] rfl (by (try simp only [List.map_toArray, List.map_cons, List.map_nil]); first | done | rfl | (simp only [List.length_drop, List.length_take]; rfl)) ?_; (with_reducible refine (fixed_Dot.calls kj3 _ _ y159 _ _ y168 t171 t172 _ ?side1 ?side2 ?side3 ?side4 A30.out).mono ?_); (case side1 => repeat (first | exact (Kd.R_reads' HO161.out).2.2 | (with_reducible refine Kd.C_alloc ?_ _) | (with_reducible refine Kd.C_drewN ?_ _) | (with_reducible refine Kd.C_drew ?_))); (case side2 => exact (Kd.R_reads' HO161.out).2.1); (case side3 => repeat (first | exact (Kd.R_reads' HO170.out).2.2 | (with_reducible refine Kd.C_alloc ?_ _) | (with_reducible refine Kd.C_drewN ?_ _) | (with_reducible refine Kd.C_drew ?_))); (case side4 => exact (Kd.R_reads' HO170.out).2.1); rintro e w62 ⟨rfl, hb⟩; refine ⟨_, rfl, ?_⟩; have n0_ := Aside0.mk (Kd.R_below (by (with_reducible repeat (first | apply Kd.R_alloc | apply Kd.R_drewN | apply Kd.R_drew)); exact HO139.out) hb); have n1_ := Aside0.mk (Kd.R_below (by (with_reducible repeat (first | apply Kd.R_alloc | apply Kd.R_drewN | apply Kd.R_drew)); exact HO150.out) hb); have n2_ := Aside0.mk (Kd.R_below (by (with_reducible repeat (first | apply Kd.R_alloc | apply Kd.R_drewN | apply Kd.R_drew)); exact HO161.out) hb); have n3_ := Aside0.mk (Kd.R_below (by (with_reducible repeat (first | apply Kd.R_alloc | apply Kd.R_drewN | apply Kd.R_drew)); exact HO170.out) hb); have n4_ := Aside0.mk (below_step (by repeat (first | (with_reducible first | exact HB.out | apply below_alloc | apply pw_below_drewN | apply below_drew1) | exact HB.out)) hb); clear HO139; clear HO150; clear HO161; clear HO170; clear HB; have HO139 := n0_; have HO150 := n1_; have HO161 := n2_; have HO170 := n3_; have HB := n4_; clear n0_ n1_ n2_ n3_ n4_; (try clear hb); (try clear hb2); (try clear hk); (try clear hi)) | ((with_reducible refine gate_callee (f := 20) rfl ?_); refine goesL_ (some 89) rfl rfl Try.func20 (by kernel_rfl) rfl #[.slice A0 l0.length c0, .slice A0 l0.length c0] rfl (by (try simp only [List.map_toArray, List.map_cons, List.map_nil]); first | done | rfl | (simp only [List.length_drop, List.length_take]; rfl)) ?_; (with_reducible refine (fixed_Dot.calls kj3 _ _ l0 _ _ l0 t173 t174 _ ?side1 ?side2 ?side3 ?side4 A31.out).mono ?_); (case side1 => repeat (first | exact (Kd.C_below HR0.out HB.out) | (with_reducible refine Kd.C_alloc ?_ _) | (with_reducible refine Kd.C_drewN ?_ _) | (with_reducible refine Kd.C_drew ?_))); (case side2 => exact HC0.out); (case side3 => repeat (first | exact (Kd.C_below HR0.out HB.out) | (with_reducible refine Kd.C_alloc ?_ _) | (with_reducible refine Kd.C_drewN ?_ _) | (with_reducible refine Kd.C_drew ?_))); (case side4 => exact HC0.out); rintro e w63 ⟨rfl, hb⟩; refine ⟨_, rfl, ?_⟩; have n0_ := Aside0.mk (Kd.R_below (by (with_reducible repeat (first | apply Kd.R_alloc | apply Kd.R_drewN | apply Kd.R_drew)); exact HO139.out) hb); have n1_ := Aside0.mk (Kd.R_below (by (with_reducible repeat (first | apply Kd.R_alloc | apply Kd.R_drewN | apply Kd.R_drew)); exact HO150.out) hb); have n2_ := Aside0.mk (Kd.R_below (by (with_reducible repeat (first | apply Kd.R_alloc | apply Kd.R_drewN | apply Kd.R_drew)); exact HO161.out) hb); have n3_ := Aside0.mk (Kd.R_below (by (with_reducible repeat (first | apply Kd.R_alloc | apply Kd.R_drewN | apply Kd.R_drew)); exact HO170.out) hb); have n4_ := Aside0.mk (below_step (by repeat (first | (with_reducible first | exact HB.out | apply below_alloc | apply pw_below_drewN | apply below_drew1) | exact HB.out)) hb); clear HO139; clear HO150; clear HO161; clear HO170; clear HB; have HO139 := n0_; have HO150 := n1_; have HO161 := n2_; have HO170 := n3_; have HB := n4_; clear n0_ n1_ n2_ n3_ n4_; (try clear hb); (try clear hb2); (try clear hk); (try clear hi)))
                              (try simp only [Act.put, List.setIfInBounds_toArray, List.set_cons_zero, List.set_cons_succ])
                              go_cut [6] (fun v6 wc => ∃ (kq : Nat) (x6_31 : Bool), v6 = .bool x6_31 ∧ Aside0 (bitloftlaw03_FixedTurns.j1 kq x6_31 = some r) ∧ Aside0 (kq ≤ kj3) ∧ Aside0 (Below w.heap.size w wc))
                              case first =>
                                have H := HC32.out
                                clear HC32
                                by_cases c64 : t126 = 0
                                · rw [if_pos c64] at H
                                  have c64b0 : (t126 == 0) = true := beq_iff_eq.mpr c64
                                  have c64b1 : (t126 != 0) = false := bne_eq_false_iff_eq.mpr c64
                                  clear c64
                                  (first | rw [c64b0] | (simp only [i64_w, i32_w]; rw [c64b0]) | skip)
                                  by_cases c65 : t128 = 0
                                  · rw [if_pos c65] at H
                                    have c65b0 : (t128 == 0) = true := beq_iff_eq.mpr c65
                                    have c65b1 : (t128 != 0) = false := bne_eq_false_iff_eq.mpr c65
                                    clear c65
                                    by_cases c66 : t152 = 0
                                    · rw [if_pos c66] at H
                                      have c66b0 : (t152 == 0) = true := beq_iff_eq.mpr c66
                                      have c66b1 : (t152 != 0) = false := bne_eq_false_iff_eq.mpr c66
                                      clear c66
                                      by_cases c67 : t172 = 0
                                      · rw [if_pos c67] at H
                                        have c67b0 : (t172 == 0) = true := beq_iff_eq.mpr c67
                                        have c67b1 : (t172 != 0) = false := bne_eq_false_iff_eq.mpr c67
                                        clear c67
                                        by_cases c68 : t174 = 0
                                        · rw [if_pos c68] at H
                                          have c68b0 : (t174 == 0) = true := beq_iff_eq.mpr c68
                                          have c68b1 : (t174 != 0) = false := bne_eq_false_iff_eq.mpr c68
                                          clear c68
                                          by_cases c69 : t125 = t127
                                          · rw [if_pos c69] at H
                                            have c69b0 : (t125 == t127) = true := beq_iff_eq.mpr c69
                                            have c69b1 : (t125 != t127) = false := bne_eq_false_iff_eq.mpr c69
                                            clear c69
                                            by_cases c70 : t125 = t151
                                            · rw [if_pos c70] at H
                                              have c70b0 : (t125 == t151) = true := beq_iff_eq.mpr c70
                                              have c70b1 : (t125 != t151) = false := bne_eq_false_iff_eq.mpr c70
                                              clear c70
                                              by_cases c71 : t125 = t171
                                              · rw [if_pos c71] at H
                                                have c71b0 : (t125 == t171) = true := beq_iff_eq.mpr c71
                                                have c71b1 : (t125 != t171) = false := bne_eq_false_iff_eq.mpr c71
                                                clear c71
                                                by_cases c72 : t173 ≥ 0
                                                · rw [if_pos c72] at H
                                                  have c72b0 : decide (0 ≤ t173) = true := decide_eq_true c72
                                                  clear c72
                                                  replace H := Option.bind_eq_some_iff.mp H
                                                  obtain ⟨t175, A730, H⟩ := H
                                                  replace H : (bitloftlaw03_FixedTurns.j1 kj3 t175) = some r := H
                                                  have A73 := Aside0.mk A730
                                                  clear A730
                                                  have H' := Aside0.mk H
                                                  clear H
                                                  go_wp2_with (first | (go_at_call 22; (with_reducible refine (bitloftlaw03_alive.calls kj3  t175 _ A73.out).mono ?_); rintro e w74 ⟨rfl, hb⟩; have n0_ := Aside0.mk (Kd.R_below (by (with_reducible repeat (first | apply Kd.R_alloc | apply Kd.R_drewN | apply Kd.R_drew)); exact HO139.out) hb); have n1_ := Aside0.mk (Kd.R_below (by (with_reducible repeat (first | apply Kd.R_alloc | apply Kd.R_drewN | apply Kd.R_drew)); exact HO150.out) hb); have n2_ := Aside0.mk (Kd.R_below (by (with_reducible repeat (first | apply Kd.R_alloc | apply Kd.R_drewN | apply Kd.R_drew)); exact HO161.out) hb); have n3_ := Aside0.mk (Kd.R_below (by (with_reducible repeat (first | apply Kd.R_alloc | apply Kd.R_drewN | apply Kd.R_drew)); exact HO170.out) hb); have n4_ := Aside0.mk (below_step (by repeat (first | (with_reducible first | exact HB.out | apply below_alloc | apply pw_below_drewN | apply below_drew1) | exact HB.out)) hb); clear HO139; clear HO150; clear HO161; clear HO170; clear HB; have HO139 := n0_; have HO150 := n1_; have HO161 := n2_; have HO170 := n3_; have HB := n4_; clear n0_ n1_ n2_ n3_ n4_; (try clear hb); (try clear hb2); (try clear hk); (try clear hi)))
                                                  go_meet
                                                  case rel => exact ⟨_, (t175), (by first | rfl | (simp; done) | (simp [*]; done)), H', ⟨by have := HJ3.out; first | omega | exact Nat.le_refl _⟩, ⟨by repeat (first | (with_reducible first | exact HB.out | apply below_alloc | apply pw_below_drewN | apply below_drew1) | exact HB.out)⟩⟩
                                                · rw [if_neg c72] at H
                                                  have c72b0 : decide (0 ≤ t173) = false := decide_eq_false c72
                                                  clear c72
                                                  have H' := Aside0.mk H
                                                  clear H
                                                  go_wp2
                                                  go_meet
                                                  case rel => exact ⟨_, (false), (by first | rfl | (simp; done) | (simp [*]; done)), H', ⟨by have := HJ3.out; first | omega | exact Nat.le_refl _⟩, ⟨by repeat (first | (with_reducible first | exact HB.out | apply below_alloc | apply pw_below_drewN | apply below_drew1) | exact HB.out)⟩⟩
                                              · rw [if_neg c71] at H
                                                have c71b0 : (t125 == t171) = false := beq_eq_false_iff_ne.mpr c71
                                                have c71b1 : (t125 != t171) = true := bne_iff_ne.mpr c71
                                                have H' := Aside0.mk H
                                                clear H
                                                go_wp2
                                                go_meet
                                                case rel => exact ⟨_, (false), (by first | rfl | (simp; done) | (simp [*]; done)), H', ⟨by have := HJ3.out; first | omega | exact Nat.le_refl _⟩, ⟨by repeat (first | (with_reducible first | exact HB.out | apply below_alloc | apply pw_below_drewN | apply below_drew1) | exact HB.out)⟩⟩
                                            · rw [if_neg c70] at H
                                              have c70b0 : (t125 == t151) = false := beq_eq_false_iff_ne.mpr c70
                                              have c70b1 : (t125 != t151) = true := bne_iff_ne.mpr c70
                                              have H' := Aside0.mk H
                                              clear H
                                              go_wp2
                                              go_meet
                                              case rel => exact ⟨_, (false), (by first | rfl | (simp; done) | (simp [*]; done)), H', ⟨by have := HJ3.out; first | omega | exact Nat.le_refl _⟩, ⟨by repeat (first | (with_reducible first | exact HB.out | apply below_alloc | apply pw_below_drewN | apply below_drew1) | exact HB.out)⟩⟩
                                          · rw [if_neg c69] at H
                                            have c69b0 : (t125 == t127) = false := beq_eq_false_iff_ne.mpr c69
                                            have c69b1 : (t125 != t127) = true := bne_iff_ne.mpr c69
                                            have H' := Aside0.mk H
                                            clear H
                                            go_wp2
                                            go_meet
                                            case rel => exact ⟨_, (false), (by first | rfl | (simp; done) | (simp [*]; done)), H', ⟨by have := HJ3.out; first | omega | exact Nat.le_refl _⟩, ⟨by repeat (first | (with_reducible first | exact HB.out | apply below_alloc | apply pw_below_drewN | apply below_drew1) | exact HB.out)⟩⟩
                                        · rw [if_neg c68] at H
                                          have c68b0 : (t174 == 0) = false := beq_eq_false_iff_ne.mpr c68
                                          have c68b1 : (t174 != 0) = true := bne_iff_ne.mpr c68
                                          have H' := Aside0.mk H
                                          clear H
                                          go_wp2
                                          go_meet
                                          case rel => exact ⟨_, (false), (by first | rfl | (simp; done) | (simp [*]; done)), H', ⟨by have := HJ3.out; first | omega | exact Nat.le_refl _⟩, ⟨by repeat (first | (with_reducible first | exact HB.out | apply below_alloc | apply pw_below_drewN | apply below_drew1) | exact HB.out)⟩⟩
                                      · rw [if_neg c67] at H
                                        have c67b0 : (t172 == 0) = false := beq_eq_false_iff_ne.mpr c67
                                        have c67b1 : (t172 != 0) = true := bne_iff_ne.mpr c67
                                        have H' := Aside0.mk H
                                        clear H
                                        go_wp2
                                        go_meet
                                        case rel => exact ⟨_, (false), (by first | rfl | (simp; done) | (simp [*]; done)), H', ⟨by have := HJ3.out; first | omega | exact Nat.le_refl _⟩, ⟨by repeat (first | (with_reducible first | exact HB.out | apply below_alloc | apply pw_below_drewN | apply below_drew1) | exact HB.out)⟩⟩
                                    · rw [if_neg c66] at H
                                      have c66b0 : (t152 == 0) = false := beq_eq_false_iff_ne.mpr c66
                                      have c66b1 : (t152 != 0) = true := bne_iff_ne.mpr c66
                                      have H' := Aside0.mk H
                                      clear H
                                      go_wp2
                                      go_meet
                                      case rel => exact ⟨_, (false), (by first | rfl | (simp; done) | (simp [*]; done)), H', ⟨by have := HJ3.out; first | omega | exact Nat.le_refl _⟩, ⟨by repeat (first | (with_reducible first | exact HB.out | apply below_alloc | apply pw_below_drewN | apply below_drew1) | exact HB.out)⟩⟩
                                  · rw [if_neg c65] at H
                                    have c65b0 : (t128 == 0) = false := beq_eq_false_iff_ne.mpr c65
                                    have c65b1 : (t128 != 0) = true := bne_iff_ne.mpr c65
                                    have H' := Aside0.mk H
                                    clear H
                                    go_wp2
                                    go_meet
                                    case rel => exact ⟨_, (false), (by first | rfl | (simp; done) | (simp [*]; done)), H', ⟨by have := HJ3.out; first | omega | exact Nat.le_refl _⟩, ⟨by repeat (first | (with_reducible first | exact HB.out | apply below_alloc | apply pw_below_drewN | apply below_drew1) | exact HB.out)⟩⟩
                                · rw [if_neg c64] at H
                                  have c64b0 : (t126 == 0) = false := beq_eq_false_iff_ne.mpr c64
                                  have c64b1 : (t126 != 0) = true := bne_iff_ne.mpr c64
                                  (first | rw [c64b0] | (simp only [i64_w, i32_w]; rw [c64b0]) | skip)
                                  have H' := Aside0.mk H
                                  clear H
                                  go_wp2
                                  go_meet
                                  case rel => exact ⟨_, (false), (by first | rfl | (simp; done) | (simp [*]; done)), H', ⟨by have := HJ3.out; first | omega | exact Nat.le_refl _⟩, ⟨by repeat (first | (with_reducible first | exact HB.out | apply below_alloc | apply pw_below_drewN | apply below_drew1) | exact HB.out)⟩⟩
                              case rest =>
                                clear HC32
                                try clear c1
                                try clear c2
                                try clear p2
                                try clear c6
                                try clear c7
                                try clear c15
                                try clear c18
                                try clear c20
                                try clear c21
                                try clear c24
                                try clear c26
                                try clear c27
                                try clear c28
                                try clear c29
                                try clear c64
                                try clear c64b0
                                try clear c64b1
                                try clear c65
                                try clear c65b0
                                try clear c65b1
                                try clear c66
                                try clear c66b0
                                try clear c66b1
                                try clear c67
                                try clear c67b0
                                try clear c67b1
                                try clear c68
                                try clear c68b0
                                try clear c68b1
                                try clear c69
                                try clear c69b0
                                try clear c69b1
                                try clear c70
                                try clear c70b0
                                try clear c70b1
                                try clear c71
                                try clear c71b0
                                try clear c71b1
                                try clear c72
                                try clear c72b0
                                obtain ⟨kq, x6_31, rfl, HA, HJ31, HB⟩ := hcut
                                cases kq with
                                | zero => exact absurd HA.out (by simp [bitloftlaw03_FixedTurns.j1])
                                | succ kj31 =>
                                  have H := HA.out
                                  clear HA
                                  simp only [bitloftlaw03_FixedTurns.j1] at H
                                  obtain rfl := Option.some.inj H
                                  go_wp2
                                  go_ret
                                  exact ⟨by first | rfl | (simp [errW_none, errW_some] <;> rfl) | (simp [*, errW_none, errW_some] <;> rfl), by repeat (first | (with_reducible first | exact HB.out | apply below_alloc | apply pw_below_drewN | apply below_drew1) | exact HB.out)⟩
                            · rw [if_neg c29] at H
                              exact absurd H (by simp)
                          · rw [if_neg c28] at H
                            exact absurd H (by simp)
                        · rw [if_neg c27] at H
                          exact absurd H (by simp)
                      · rw [if_neg c26] at H
                        exact absurd H (by simp)
                    · rw [if_neg c24] at H
                      exact absurd H (by simp)
                  · rw [if_neg c21] at H
                    exact absurd H (by simp)
                · rw [if_neg c20] at H
                  exact absurd H (by simp)
              · rw [if_neg c18] at H
                exact absurd H (by simp)
            · rw [if_neg c15] at H
              exact absurd H (by simp)
          · rw [if_neg c14] at H
            exact absurd H (by simp)
        · rw [if_neg c13] at H
          exact absurd H (by simp)

/-- THE ONE PURE STATEMENT of bitloftlaw03_FixedTurns: yours. -/
def bitloftlaw03_FixedTurns.Pure : Prop := ∀ (l0 : List Int) (l1 : List Int) (a2 : Int), l0.length ≤ maxLen → l0.length * 4 ≤ 140737488351232 → (∀ x ∈ l0, (Lit.int .i32 x).wf = true) → l1.length ≤ maxLen → l1.length * 4 ≤ 140737488351232 → (∀ x ∈ l1, (Lit.int .i32 x).wf = true) → (Lit.int .i64 a2).wf = true → ∃ k, bitloftlaw03_FixedTurns.f k l0 l1 a2 = some true
theorem bitloftlaw03_FixedTurns.walk (P : bitloftlaw03_FixedTurns.Pure) (a0 : Option Addr) (len0 cap0 : Nat) (z0 : List Int) (a1 : Option Addr) (len1 cap1 : Nat) (z1 : List Int) (a2 : Int) (w : World) (w0 : (a0 = none ∧ len0 = 0 ∧ cap0 = 0 ∧ z0 = []) ∨ ∃ x, a0 = some x ∧ len0 ≤ cap0 ∧ cap0 ≤ maxLen ∧ z0.length = cap0 ∧ (∀ i, i < z0.length → w.cell? (x.add i) = some (.int .i32 (z0.getD i 0))) ∧ ∀ n ∈ z0, (Lit.int .i32 n).wf = true) (y0 : len0 * 4 ≤ 140737488351232) (w1 : (a1 = none ∧ len1 = 0 ∧ cap1 = 0 ∧ z1 = []) ∨ ∃ x, a1 = some x ∧ len1 ≤ cap1 ∧ cap1 ≤ maxLen ∧ z1.length = cap1 ∧ (∀ i, i < z1.length → w.cell? (x.add i) = some (.int .i32 (z1.getD i 0))) ∧ ∀ n ∈ z1, (Lit.int .i32 n).wf = true) (y1 : len1 * 4 ≤ 140737488351232) (w2 : (Lit.int .i64 a2).wf = true) :
    Calls Try.prog 6 #[.slice a0 len0 cap0, .slice a1 len1 cap1, .int .i64 a2] w fun e w' => e = .returned (.bool true) ∧ Below w.heap.size w w' := by
  obtain ⟨l0, rfl, hr0, hm0, hw0, hc0⟩ := ReadsInt.ofRowC w0
  obtain ⟨l1, rfl, hr1, hm1, hw1, hc1⟩ := ReadsInt.ofRowC w1
  obtain ⟨k, h⟩ := P l0 l1 a2 hm0 y0 hw0 hm1 y1 hw1 w2
  refine (bitloftlaw03_FixedTurns.calls k _ _ l0 _ _ l1 a2 true w (Kd.C_of_reads (d := (0 : Int)) (h1 := fun _ => rfl) hr0) hc0 (Kd.C_of_reads (d := (0 : Int)) (h1 := fun _ => rfl) hr1) hc1 h).mono ?_
  rintro e w' ⟨rfl, hd⟩
  exact ⟨rfl, hd⟩

end Go.Proofs.Ytljfebmimipieaa.XFixedTurns
