-- Laid by a program of this session (wip/mkxprint.py, over the kit's print): Lean checks it.
import Derived.Test.YtpcjjggeipkehaaXCountsBoundsx0
import Derived.Test.YtpcjjggeipkehaaXCountsBoundsx2
import Derived.Test.YtpcjjggeipkehaaXCountsBoundsx3
namespace Go.Proofs.Ytpcjjggeipkehaa.XCountsBounds
open Go.RowKit Go.Proofs.YtpcjjggeipkehaaW.PrintWords Go.Proofs.YtpcjjggeipkehaaW.PrintLast Go.Proofs.YtpcjjggeipkehaaW.PrintMore
attribute [local go_sem] max2_int min2_int max_two min_two max_three min_three max_four min_four   -- for this text's walks alone
set_option linter.unusedVariables false
set_option linter.unusedSimpArgs false

/-! ### bitloftlaw07_CountsBounds: function 9 -/
mutual
def bitloftlaw07_CountsBounds.j0 : Nat → Int → Bool → Int → Int → Int → Option (Bool)
  | 0, _, _, _, _, _ => none
  | k + 1, x1, x15, x133000, x133001, x133002 => if x15 = true then ((bitloftlaw07_alive.f k).bind fun t134 => (some t134)) else ((counts_Next.f x133000 x133001 x133002 x1).bind fun bt135 => ((counts_Total.f bt135.1 bt135.2.1 bt135.2.2.1).bind fun bt140 => (if bt135.2.2.2 = 0 then (if bt140.2 = 0 then ((counts_Check.f bt135.1 bt135.2.1 bt135.2.2.1).bind fun t142 => (if t142 = 0 then ((bitloftref07_Check.f k bt135.1 bt135.2.1 bt135.2.2.1).bind fun t143 => (if t143 = 0 then (if bt135.2.2.1 = x1 then (bitloftlaw07_CountsBounds.j1 k x1 (bt140.1 != (wrap32 (bt135.1 + bt135.2.1))) x133000 x133001 x133002 bt135.1 bt135.2.1 bt135.2.2.1) else (bitloftlaw07_CountsBounds.j1 k x1 true x133000 x133001 x133002 bt135.1 bt135.2.1 bt135.2.2.1)) else (bitloftlaw07_CountsBounds.j1 k x1 true x133000 x133001 x133002 bt135.1 bt135.2.1 bt135.2.2.1))) else (bitloftlaw07_CountsBounds.j1 k x1 true x133000 x133001 x133002 bt135.1 bt135.2.1 bt135.2.2.1))) else (bitloftlaw07_CountsBounds.j1 k x1 true x133000 x133001 x133002 bt135.1 bt135.2.1 bt135.2.2.1)) else (bitloftlaw07_CountsBounds.j1 k x1 true x133000 x133001 x133002 bt135.1 bt135.2.1 bt135.2.2.1))))
def bitloftlaw07_CountsBounds.j1 : Nat → Int → Bool → Int → Int → Int → Int → Int → Int → Option (Bool)
  | 0, _, _, _, _, _, _, _, _ => none
  | k + 1, x1, x58, x133000, x133001, x133002, x140000, x140001, x140002 => if x58 = true then (some false) else (if x1 = 0 then (if x140000 = (mn (wrap32 (x133000 + 1)) 12) then (if x140001 ≤ x133001 then (if ((decide (x133001 ≤ 2)) == (x140001 == x133001)) = true then ((bitloftlaw07_alive.f k).bind fun t144 => (bitloftlaw07_CountsBounds.j2 k t144)) else (bitloftlaw07_CountsBounds.j2 k false)) else (bitloftlaw07_CountsBounds.j2 k false)) else (bitloftlaw07_CountsBounds.j2 k false)) else (if x140001 = (mn (wrap32 (x133001 + 1)) 12) then (if x140000 ≤ x133000 then (if ((decide (x133000 ≤ 2)) == (x140000 == x133000)) = true then ((bitloftlaw07_alive.f k).bind fun t145 => (bitloftlaw07_CountsBounds.j3 k t145)) else (bitloftlaw07_CountsBounds.j3 k false)) else (bitloftlaw07_CountsBounds.j3 k false)) else (bitloftlaw07_CountsBounds.j3 k false)))
def bitloftlaw07_CountsBounds.j2 : Nat → Bool → Option (Bool)
  | 0, _ => none
  | k + 1, x4 => some x4
def bitloftlaw07_CountsBounds.j3 : Nat → Bool → Option (Bool)
  | 0, _ => none
  | k + 1, x4 => some x4
end
def bitloftlaw07_CountsBounds.f (k : Nat) (a0_0 : Int) (a0_1 : Int) (a0_2 : Int) (a1 : Int) : Option (Bool) := (bitloftref07_Check.f k a0_0 a0_1 a0_2).bind fun t133 => (if t133 = 0 then (bitloftlaw07_CountsBounds.j0 k a1 (decide (a1 > 1)) a0_0 a0_1 a0_2) else (bitloftlaw07_CountsBounds.j0 k a1 true a0_0 a0_1 a0_2))
theorem bitloftlaw07_CountsBounds.mono_l : ∀ k, (∀ y0 y1 y2 y3 y4, LeO (bitloftlaw07_CountsBounds.j0 k y0 y1 y2 y3 y4) (bitloftlaw07_CountsBounds.j0 (k + 1) y0 y1 y2 y3 y4)) ∧ (∀ y0 y1 y2 y3 y4 y5 y6 y7, LeO (bitloftlaw07_CountsBounds.j1 k y0 y1 y2 y3 y4 y5 y6 y7) (bitloftlaw07_CountsBounds.j1 (k + 1) y0 y1 y2 y3 y4 y5 y6 y7)) ∧ (∀ y0, LeO (bitloftlaw07_CountsBounds.j2 k y0) (bitloftlaw07_CountsBounds.j2 (k + 1) y0)) ∧ (∀ y0, LeO (bitloftlaw07_CountsBounds.j3 k y0) (bitloftlaw07_CountsBounds.j3 (k + 1) y0))
  | 0 => ⟨fun _ _ _ _ _ r h => by simp [bitloftlaw07_CountsBounds.j0] at h, fun _ _ _ _ _ _ _ _ r h => by simp [bitloftlaw07_CountsBounds.j1] at h, fun _ r h => by simp [bitloftlaw07_CountsBounds.j2] at h, fun _ r h => by simp [bitloftlaw07_CountsBounds.j3] at h⟩
  | k + 1 => by
    obtain ⟨ih0, ih1, ih2, ih3⟩ := bitloftlaw07_CountsBounds.mono_l k
    refine ⟨?_, ?_, ?_, ?_⟩
    · intro y0 y1 y2 y3 y4
      unfold bitloftlaw07_CountsBounds.j0
      repeat' first
      | (with_reducible exact ih0 _ _ _ _ _)
      | (with_reducible exact ih1 _ _ _ _ _ _ _ _)
      | (with_reducible exact ih2 _)
      | (with_reducible exact ih3 _)
      | (with_reducible exact bitloftlaw07_alive.mono _)
      | (with_reducible exact bitloftref07_Check.mono _ _ _ _)
      | (with_reducible exact LeO.refl _)
      | (with_reducible exact LeO.none _)
      | (with_reducible refine LeO.ite ?_ ?_)
      | (with_reducible refine LeO.bind ?_ (fun _ => ?_))
      | exact ih0 _ _ _ _ _
      | exact ih1 _ _ _ _ _ _ _ _
      | exact ih2 _
      | exact ih3 _
      | exact bitloftlaw07_alive.mono _
      | exact bitloftref07_Check.mono _ _ _ _
      | exact LeO.none _
      | refine LeO.ite ?_ ?_
      | refine LeO.bind ?_ (fun _ => ?_)
    · intro y0 y1 y2 y3 y4 y5 y6 y7
      unfold bitloftlaw07_CountsBounds.j1
      repeat' first
      | (with_reducible exact ih0 _ _ _ _ _)
      | (with_reducible exact ih1 _ _ _ _ _ _ _ _)
      | (with_reducible exact ih2 _)
      | (with_reducible exact ih3 _)
      | (with_reducible exact bitloftlaw07_alive.mono _)
      | (with_reducible exact bitloftref07_Check.mono _ _ _ _)
      | (with_reducible exact LeO.refl _)
      | (with_reducible exact LeO.none _)
      | (with_reducible refine LeO.ite ?_ ?_)
      | (with_reducible refine LeO.bind ?_ (fun _ => ?_))
      | exact ih0 _ _ _ _ _
      | exact ih1 _ _ _ _ _ _ _ _
      | exact ih2 _
      | exact ih3 _
      | exact bitloftlaw07_alive.mono _
      | exact bitloftref07_Check.mono _ _ _ _
      | exact LeO.none _
      | refine LeO.ite ?_ ?_
      | refine LeO.bind ?_ (fun _ => ?_)
    · intro y0
      unfold bitloftlaw07_CountsBounds.j2
      repeat' first
      | (with_reducible exact ih0 _ _ _ _ _)
      | (with_reducible exact ih1 _ _ _ _ _ _ _ _)
      | (with_reducible exact ih2 _)
      | (with_reducible exact ih3 _)
      | (with_reducible exact bitloftlaw07_alive.mono _)
      | (with_reducible exact bitloftref07_Check.mono _ _ _ _)
      | (with_reducible exact LeO.refl _)
      | (with_reducible exact LeO.none _)
      | (with_reducible refine LeO.ite ?_ ?_)
      | (with_reducible refine LeO.bind ?_ (fun _ => ?_))
      | exact ih0 _ _ _ _ _
      | exact ih1 _ _ _ _ _ _ _ _
      | exact ih2 _
      | exact ih3 _
      | exact bitloftlaw07_alive.mono _
      | exact bitloftref07_Check.mono _ _ _ _
      | exact LeO.none _
      | refine LeO.ite ?_ ?_
      | refine LeO.bind ?_ (fun _ => ?_)
    · intro y0
      unfold bitloftlaw07_CountsBounds.j3
      repeat' first
      | (with_reducible exact ih0 _ _ _ _ _)
      | (with_reducible exact ih1 _ _ _ _ _ _ _ _)
      | (with_reducible exact ih2 _)
      | (with_reducible exact ih3 _)
      | (with_reducible exact bitloftlaw07_alive.mono _)
      | (with_reducible exact bitloftref07_Check.mono _ _ _ _)
      | (with_reducible exact LeO.refl _)
      | (with_reducible exact LeO.none _)
      | (with_reducible refine LeO.ite ?_ ?_)
      | (with_reducible refine LeO.bind ?_ (fun _ => ?_))
      | exact ih0 _ _ _ _ _
      | exact ih1 _ _ _ _ _ _ _ _
      | exact ih2 _
      | exact ih3 _
      | exact bitloftlaw07_alive.mono _
      | exact bitloftref07_Check.mono _ _ _ _
      | exact LeO.none _
      | refine LeO.ite ?_ ?_
      | refine LeO.bind ?_ (fun _ => ?_)
theorem bitloftlaw07_CountsBounds.mono : ∀ a0 a1 a2 a3 k, LeO (bitloftlaw07_CountsBounds.f k a0 a1 a2 a3) (bitloftlaw07_CountsBounds.f (k + 1) a0 a1 a2 a3) := by
  intro a0 a1 a2 a3 k
  obtain ⟨ih0, ih1, ih2, ih3⟩ := bitloftlaw07_CountsBounds.mono_l k
  unfold bitloftlaw07_CountsBounds.f
  repeat' first
      | (with_reducible exact ih0 _ _ _ _ _)
      | (with_reducible exact ih1 _ _ _ _ _ _ _ _)
      | (with_reducible exact ih2 _)
      | (with_reducible exact ih3 _)
      | (with_reducible exact bitloftlaw07_alive.mono _)
      | (with_reducible exact bitloftref07_Check.mono _ _ _ _)
      | (with_reducible exact LeO.refl _)
      | (with_reducible exact LeO.none _)
      | (with_reducible refine LeO.ite ?_ ?_)
      | (with_reducible refine LeO.bind ?_ (fun _ => ?_))
      | exact ih0 _ _ _ _ _
      | exact ih1 _ _ _ _ _ _ _ _
      | exact ih2 _
      | exact ih3 _
      | exact bitloftlaw07_alive.mono _
      | exact bitloftref07_Check.mono _ _ _ _
      | exact LeO.none _
      | refine LeO.ite ?_ ?_
      | refine LeO.bind ?_ (fun _ => ?_)
set_option maxHeartbeats 8000000 in
set_option maxRecDepth 100000 in
theorem bitloftlaw07_CountsBounds.calls (k : Nat) (a0_0 : Int) (a0_1 : Int) (a0_2 : Int) (a1 : Int) (r : Bool) (w : World) (h : bitloftlaw07_CountsBounds.f k a0_0 a0_1 a0_2 a1 = some r) :
    Calls Try.prog 9 #[.agg #[.int .i32 a0_0, .int .i32 a0_1, .int .u8 a0_2], .int .u8 a1] w fun e w' => e = .returned (.bool r) ∧ Below w.heap.size w w' := by
  have hu23 := Try.underlying23
  have HB := Aside0.mk (Below.refl w.heap.size w)
  have H : ((bitloftref07_Check.f k a0_0 a0_1 a0_2).bind fun t133 => (if t133 = 0 then (bitloftlaw07_CountsBounds.j0 k a1 (decide (a1 > 1)) a0_0 a0_1 a0_2) else (bitloftlaw07_CountsBounds.j0 k a1 true a0_0 a0_1 a0_2))) = some r := h
  clear h
  have HC3 := Aside0.mk H
  clear H
  go_enter Try.func9, Try.ntmps9
  go_upto_region 1 with (first | ((with_reducible refine gate_dst (N := 2) rfl ?_); refine box_event ?hg (N := 2) ?hd (cs := #[.int .i32 a0_0, .int .i32 a0_1, .int .u8 a0_2]) (t := 23) ?hr ?_; (case hd => rfl); (case hg => rfl); (case hr => first | (go_simp; done) | (go_simp; rfl)); intro gb132 hg w4 hbox hb; have n0_ := Aside0.mk (below_step (by repeat (first | (with_reducible first | exact HB.out | apply below_alloc | apply pw_below_drewN | apply below_drew1) | exact HB.out)) hb); have n1_ := Aside0.mk (hbox); have n2_ := Aside0.mk ((by rw [hg]; exact (below_size (by repeat (first | (with_reducible first | exact HB.out | apply below_alloc | apply pw_below_drewN | apply below_drew1) | exact HB.out))) : w.heap.size ≤ gb132)); have n3_ := Aside0.mk ((by rw [hg]; exact (below_size (by repeat (first | (with_reducible first | exact HB.out | apply below_alloc | apply pw_below_drewN | apply below_drew1) | exact HB.out))) : w.heap.size ≤ gb132)); clear HB; have HB := n0_; have BK132 := n1_; have GW132 := n2_; have GE132 := n3_; clear n0_ n1_ n2_ n3_; clear hb hbox hg))
  (try simp only [Act.put, List.setIfInBounds_toArray, List.set_cons_zero, List.set_cons_succ])
  go_cut [15] (fun v15 wc => ∃ (kq : Nat) (x15_2 : Bool), v15 = .bool x15_2 ∧ Aside0 (bitloftlaw07_CountsBounds.j0 kq a1 x15_2 a0_0 a0_1 a0_2 = some r) ∧ Aside0 (kq ≤ k) ∧ Aside0 (wc.heap[gb132]? = some (.cells #[.int .i32 a0_0, .int .i32 a0_1, .int .u8 a0_2] 23 (0, 0))) ∧ Aside0 (Below w.heap.size w wc))
  case first =>
    have H := HC3.out
    clear HC3
    replace H := Option.bind_eq_some_iff.mp H
    obtain ⟨t133, A50, H⟩ := H
    replace H : (if t133 = 0 then (bitloftlaw07_CountsBounds.j0 k a1 (decide (a1 > 1)) a0_0 a0_1 a0_2) else (bitloftlaw07_CountsBounds.j0 k a1 true a0_0 a0_1 a0_2)) = some r := H
    have A5 := Aside0.mk A50
    clear A50
    by_cases c6 : t133 = 0
    · rw [if_pos c6] at H
      have c6b0 : (t133 == 0) = true := beq_iff_eq.mpr c6
      have c6b1 : (t133 != 0) = false := bne_eq_false_iff_eq.mpr c6
      clear c6
      (first | rw [c6b0] | (simp only [i64_w, i32_w]; rw [c6b0]) | skip)
      have H' := Aside0.mk H
      clear H
      have hcz7_0 : w4.cell? ⟨gb132, 0, none⟩ = some (.int .i32 a0_0) := (blk_cell BK132.out 0).trans rfl
      have hcz7_1 : w4.cell? ⟨gb132, 1, none⟩ = some (.int .i32 a0_1) := (blk_cell BK132.out 1).trans rfl
      have hcz7_2 : w4.cell? ⟨gb132, 2, none⟩ = some (.int .u8 a0_2) := (blk_cell BK132.out 2).trans rfl
      have hfz7_0 := blk_frozen BK132.out 0
      have hfz7_1 := blk_frozen BK132.out 1
      have hfz7_2 := blk_frozen BK132.out 2
      go_wp2_with (first | ((with_reducible refine gate_callee (f := 17) rfl ?_); refine gL_ (some 10) Try.func17 #[.agg #[.int .i32 a0_0, .int .i32 a0_1, .int .u8 a0_2]] ?_; (with_reducible refine (bitloftref07_Check.calls k a0_0 a0_1 a0_2 t133 _ A5.out).mono ?_); rintro e w8 ⟨rfl, hb⟩; refine ⟨_, rfl, ?_⟩; have n0_ := Aside0.mk (blk_below (g := gb132) (o := .cells #[.int .i32 a0_0, .int .i32 a0_1, .int .u8 a0_2] 23 (0, 0)) (by (with_reducible repeat (first | refine blk_drewN ?_ _ | refine blk_drew ?_ | refine blk_alloc ?_ _)); exact BK132.out) hb); have n1_ := Aside0.mk (below_step (by repeat (first | (with_reducible first | exact HB.out | apply below_alloc | apply pw_below_drewN | apply below_drew1 | refine below_set ?_ GE132.out) | exact HB.out)) hb); clear BK132; clear HB; have BK132 := n0_; have HB := n1_; clear n0_ n1_; (try clear hb)))
      go_meet
      case rel => exact ⟨_, (decide (a1 > 1)), (by first | rfl | (simp; done) | (simp [*]; done)), H', ⟨by first | omega | exact Nat.le_refl _⟩, ⟨by (with_reducible repeat (first | refine blk_drewN ?_ _ | refine blk_drew ?_ | refine blk_alloc ?_ _)); exact BK132.out⟩, ⟨by repeat (first | (with_reducible first | exact HB.out | apply below_alloc | apply pw_below_drewN | apply below_drew1 | refine below_set ?_ GE132.out) | exact HB.out)⟩⟩
    · rw [if_neg c6] at H
      have c6b0 : (t133 == 0) = false := beq_eq_false_iff_ne.mpr c6
      have c6b1 : (t133 != 0) = true := bne_iff_ne.mpr c6
      (first | rw [c6b0] | (simp only [i64_w, i32_w]; rw [c6b0]) | skip)
      have H' := Aside0.mk H
      clear H
      have hcz9_0 : w4.cell? ⟨gb132, 0, none⟩ = some (.int .i32 a0_0) := (blk_cell BK132.out 0).trans rfl
      have hcz9_1 : w4.cell? ⟨gb132, 1, none⟩ = some (.int .i32 a0_1) := (blk_cell BK132.out 1).trans rfl
      have hcz9_2 : w4.cell? ⟨gb132, 2, none⟩ = some (.int .u8 a0_2) := (blk_cell BK132.out 2).trans rfl
      have hfz9_0 := blk_frozen BK132.out 0
      have hfz9_1 := blk_frozen BK132.out 1
      have hfz9_2 := blk_frozen BK132.out 2
      go_wp2_with (first | ((with_reducible refine gate_callee (f := 17) rfl ?_); refine gL_ (some 10) Try.func17 #[.agg #[.int .i32 a0_0, .int .i32 a0_1, .int .u8 a0_2]] ?_; (with_reducible refine (bitloftref07_Check.calls k a0_0 a0_1 a0_2 t133 _ A5.out).mono ?_); rintro e w10 ⟨rfl, hb⟩; refine ⟨_, rfl, ?_⟩; have n0_ := Aside0.mk (blk_below (g := gb132) (o := .cells #[.int .i32 a0_0, .int .i32 a0_1, .int .u8 a0_2] 23 (0, 0)) (by (with_reducible repeat (first | refine blk_drewN ?_ _ | refine blk_drew ?_ | refine blk_alloc ?_ _)); exact BK132.out) hb); have n1_ := Aside0.mk (below_step (by repeat (first | (with_reducible first | exact HB.out | apply below_alloc | apply pw_below_drewN | apply below_drew1 | refine below_set ?_ GE132.out) | exact HB.out)) hb); clear BK132; clear HB; have BK132 := n0_; have HB := n1_; clear n0_ n1_; (try clear hb)))
      go_meet
      case rel => exact ⟨_, (true), (by first | rfl | (simp; done) | (simp [*]; done)), H', ⟨by first | omega | exact Nat.le_refl _⟩, ⟨by (with_reducible repeat (first | refine blk_drewN ?_ _ | refine blk_drew ?_ | refine blk_alloc ?_ _)); exact BK132.out⟩, ⟨by repeat (first | (with_reducible first | exact HB.out | apply below_alloc | apply pw_below_drewN | apply below_drew1 | refine below_set ?_ GE132.out) | exact HB.out)⟩⟩
  case rest =>
    clear HC3
    try clear c1
    try clear p2
    try clear c6
    try clear c6b0
    try clear c6b1
    try clear c9
    try clear hcz7_0
    try clear hcz7_1
    try clear hcz7_2
    try clear hcz9_0
    try clear hcz9_1
    try clear hcz9_2
    try clear hfz7_0
    try clear hfz7_1
    try clear hfz7_2
    try clear hfz9_0
    try clear hfz9_1
    try clear hfz9_2
    obtain ⟨kq, x15_2, rfl, HA, HJ2, BK132, HB⟩ := hcut
    cases kq with
    | zero => exact absurd HA.out (by simp [bitloftlaw07_CountsBounds.j0])
    | succ kj2 =>
      have H := HA.out
      clear HA
      simp only [bitloftlaw07_CountsBounds.j0] at H
      by_cases c11 : x15_2 = true
      · subst c11
        have H1 : ((bitloftlaw07_alive.f kj2).bind fun t134 => (some t134)) = some r := by rw [if_pos rfl] at H; exact H
        clear H
        have H := H1
        clear H1
        replace H := Option.bind_eq_some_iff.mp H
        obtain ⟨t134, A120, H⟩ := H
        replace H : (some t134) = some r := H
        have A12 := Aside0.mk A120
        clear A120
        obtain rfl := Option.some.inj H
        go_wp2_with (first | ((with_reducible refine gate_callee (f := 21) rfl ?_); refine gL_ (some 16) Try.func21 #[] ?_; (with_reducible refine (bitloftlaw07_alive.calls kj2  t134 _ A12.out).mono ?_); rintro e w13 ⟨rfl, hb⟩; refine ⟨_, rfl, ?_⟩; have n0_ := Aside0.mk (blk_below (g := gb132) (o := .cells #[.int .i32 a0_0, .int .i32 a0_1, .int .u8 a0_2] 23 (0, 0)) (by (with_reducible repeat (first | refine blk_drewN ?_ _ | refine blk_drew ?_ | refine blk_alloc ?_ _)); exact BK132.out) hb); have n1_ := Aside0.mk (below_step (by repeat (first | (with_reducible first | exact HB.out | apply below_alloc | apply pw_below_drewN | apply below_drew1 | refine below_set ?_ GE132.out) | exact HB.out)) hb); clear BK132; clear HB; have BK132 := n0_; have HB := n1_; clear n0_ n1_; (try clear hb)))
        go_ret
        exact ⟨by first | rfl | (simp [errW_none, errW_some] <;> rfl) | (simp [*, errW_none, errW_some] <;> rfl), by repeat (first | (with_reducible first | exact HB.out | apply below_alloc | apply pw_below_drewN | apply below_drew1 | refine below_set ?_ GE132.out) | exact HB.out)⟩
      · replace c11 := Bool.eq_false_iff.mpr c11
        subst c11
        have H1 : ((counts_Next.f a0_0 a0_1 a0_2 a1).bind fun bt135 => ((counts_Total.f bt135.1 bt135.2.1 bt135.2.2.1).bind fun bt140 => (if bt135.2.2.2 = 0 then (if bt140.2 = 0 then ((counts_Check.f bt135.1 bt135.2.1 bt135.2.2.1).bind fun t142 => (if t142 = 0 then ((bitloftref07_Check.f kj2 bt135.1 bt135.2.1 bt135.2.2.1).bind fun t143 => (if t143 = 0 then (if bt135.2.2.1 = a1 then (bitloftlaw07_CountsBounds.j1 kj2 a1 (bt140.1 != (wrap32 (bt135.1 + bt135.2.1))) a0_0 a0_1 a0_2 bt135.1 bt135.2.1 bt135.2.2.1) else (bitloftlaw07_CountsBounds.j1 kj2 a1 true a0_0 a0_1 a0_2 bt135.1 bt135.2.1 bt135.2.2.1)) else (bitloftlaw07_CountsBounds.j1 kj2 a1 true a0_0 a0_1 a0_2 bt135.1 bt135.2.1 bt135.2.2.1))) else (bitloftlaw07_CountsBounds.j1 kj2 a1 true a0_0 a0_1 a0_2 bt135.1 bt135.2.1 bt135.2.2.1))) else (bitloftlaw07_CountsBounds.j1 kj2 a1 true a0_0 a0_1 a0_2 bt135.1 bt135.2.1 bt135.2.2.1)) else (bitloftlaw07_CountsBounds.j1 kj2 a1 true a0_0 a0_1 a0_2 bt135.1 bt135.2.1 bt135.2.2.1)))) = some r := by rw [if_neg (show ¬ (false = true) by decide)] at H; exact H
        clear H
        have H := H1
        clear H1
        replace H := Option.bind_eq_some_iff.mp H
        obtain ⟨⟨t135, t136, t137, t138⟩, A140, H⟩ := H
        replace H : ((counts_Total.f t135 t136 t137).bind fun bt140 => (if t138 = 0 then (if bt140.2 = 0 then ((counts_Check.f t135 t136 t137).bind fun t142 => (if t142 = 0 then ((bitloftref07_Check.f kj2 t135 t136 t137).bind fun t143 => (if t143 = 0 then (if t137 = a1 then (bitloftlaw07_CountsBounds.j1 kj2 a1 (bt140.1 != (wrap32 (t135 + t136))) a0_0 a0_1 a0_2 t135 t136 t137) else (bitloftlaw07_CountsBounds.j1 kj2 a1 true a0_0 a0_1 a0_2 t135 t136 t137)) else (bitloftlaw07_CountsBounds.j1 kj2 a1 true a0_0 a0_1 a0_2 t135 t136 t137))) else (bitloftlaw07_CountsBounds.j1 kj2 a1 true a0_0 a0_1 a0_2 t135 t136 t137))) else (bitloftlaw07_CountsBounds.j1 kj2 a1 true a0_0 a0_1 a0_2 t135 t136 t137)) else (bitloftlaw07_CountsBounds.j1 kj2 a1 true a0_0 a0_1 a0_2 t135 t136 t137))) = some r := H
        have A14 := Aside0.mk A140
        clear A140
        replace H := Option.bind_eq_some_iff.mp H
        obtain ⟨⟨t140, t141⟩, A150, H⟩ := H
        replace H : (if t138 = 0 then (if t141 = 0 then ((counts_Check.f t135 t136 t137).bind fun t142 => (if t142 = 0 then ((bitloftref07_Check.f kj2 t135 t136 t137).bind fun t143 => (if t143 = 0 then (if t137 = a1 then (bitloftlaw07_CountsBounds.j1 kj2 a1 (t140 != (wrap32 (t135 + t136))) a0_0 a0_1 a0_2 t135 t136 t137) else (bitloftlaw07_CountsBounds.j1 kj2 a1 true a0_0 a0_1 a0_2 t135 t136 t137)) else (bitloftlaw07_CountsBounds.j1 kj2 a1 true a0_0 a0_1 a0_2 t135 t136 t137))) else (bitloftlaw07_CountsBounds.j1 kj2 a1 true a0_0 a0_1 a0_2 t135 t136 t137))) else (bitloftlaw07_CountsBounds.j1 kj2 a1 true a0_0 a0_1 a0_2 t135 t136 t137)) else (bitloftlaw07_CountsBounds.j1 kj2 a1 true a0_0 a0_1 a0_2 t135 t136 t137)) = some r := H
        have A15 := Aside0.mk A150
        clear A150
        have HC16 := Aside0.mk H
        clear H
        have hcz17_0 : wc.cell? ⟨gb132, 0, none⟩ = some (.int .i32 a0_0) := (blk_cell BK132.out 0).trans rfl
        have hcz17_1 : wc.cell? ⟨gb132, 1, none⟩ = some (.int .i32 a0_1) := (blk_cell BK132.out 1).trans rfl
        have hcz17_2 : wc.cell? ⟨gb132, 2, none⟩ = some (.int .u8 a0_2) := (blk_cell BK132.out 2).trans rfl
        have hfz17_0 := blk_frozen BK132.out 0
        have hfz17_1 := blk_frozen BK132.out 1
        have hfz17_2 := blk_frozen BK132.out 2
        go_upto_region 5 with (first | ((with_reducible refine gate_callee (f := 10) rfl ?_); refine gL_ (some 20) Try.func10 #[.agg #[.int .i32 a0_0, .int .i32 a0_1, .int .u8 a0_2], .int .u8 a1] ?_; (with_reducible refine (counts_Next.calls a0_0 a0_1 a0_2 a1 t135 t136 t137 t138 _ A14.out).mono ?_); rintro e w18 ⟨rfl, hb⟩; refine ⟨_, rfl, ?_⟩; have n0_ := Aside0.mk (blk_below (g := gb132) (o := .cells #[.int .i32 a0_0, .int .i32 a0_1, .int .u8 a0_2] 23 (0, 0)) (by (with_reducible repeat (first | refine blk_drewN ?_ _ | refine blk_drew ?_ | refine blk_alloc ?_ _)); exact BK132.out) hb); have n1_ := Aside0.mk (below_step (by repeat (first | (with_reducible first | exact HB.out | apply below_alloc | apply pw_below_drewN | apply below_drew1 | refine below_set ?_ GE132.out) | exact HB.out)) hb); clear BK132; clear HB; have BK132 := n0_; have HB := n1_; clear n0_ n1_; (try clear hb)) | ((with_reducible refine gate_dst (N := 5) rfl ?_); refine box_event ?hg (N := 5) ?hd (cs := #[.int .i32 0, .int .i32 0, .int .u8 0]) (t := 23) ?hr ?_; (case hd => rfl); (case hg => rfl); (case hr => first | (go_simp; done) | (go_simp; rfl)); intro gb139 hg w19 hbox hb; have n0_ := Aside0.mk (blk_below (g := gb132) (o := .cells #[.int .i32 a0_0, .int .i32 a0_1, .int .u8 a0_2] 23 (0, 0)) (by (with_reducible repeat (first | refine blk_drewN ?_ _ | refine blk_drew ?_ | refine blk_alloc ?_ _)); exact BK132.out) hb); have n1_ := Aside0.mk (below_step (by repeat (first | (with_reducible first | exact HB.out | apply below_alloc | apply pw_below_drewN | apply below_drew1 | refine below_set ?_ GE132.out) | exact HB.out)) hb); have n2_ := Aside0.mk (hbox); have n3_ := Aside0.mk ((by rw [hg]; exact (below_size (by repeat (first | (with_reducible first | exact HB.out | apply below_alloc | apply pw_below_drewN | apply below_drew1 | refine below_set ?_ GE132.out) | exact HB.out))) : w.heap.size ≤ gb139)); have n4_ := Aside0.mk ((by rw [hg]; exact (below_size (by repeat (first | (with_reducible first | exact HB.out | apply below_alloc | apply pw_below_drewN | apply below_drew1 | refine below_set ?_ GE132.out) | exact HB.out))) : w.heap.size ≤ gb139)); have n5_ := Aside0.mk ((by rw [hg]; exact Nat.ne_of_lt (blk_lt (g := gb132) (o := .cells #[.int .i32 a0_0, .int .i32 a0_1, .int .u8 a0_2] 23 (0, 0)) (by (with_reducible repeat (first | refine blk_drewN ?_ _ | refine blk_drew ?_ | refine blk_alloc ?_ _)); exact BK132.out)) : gb132 ≠ gb139)); have n6_ := Aside0.mk ((by rw [hg]; exact Nat.ne_of_gt (blk_lt (g := gb132) (o := .cells #[.int .i32 a0_0, .int .i32 a0_1, .int .u8 a0_2] 23 (0, 0)) (by (with_reducible repeat (first | refine blk_drewN ?_ _ | refine blk_drew ?_ | refine blk_alloc ?_ _)); exact BK132.out)) : gb139 ≠ gb132)); clear BK132; clear HB; have BK132 := n0_; have HB := n1_; have BK139 := n2_; have GW139 := n3_; have GE139 := n4_; have NB132_139 := n5_; have NB139_132 := n6_; clear n0_ n1_ n2_ n3_ n4_ n5_ n6_; clear hb hbox hg; have hnb20 := NB139_132.out; have hnc20 := NB132_139.out; have hcz21_0 : w19.cell? ⟨gb139, 0, none⟩ = some (.int .i32 0) := (blk_cell BK139.out 0).trans rfl; have hcz21_1 : w19.cell? ⟨gb139, 1, none⟩ = some (.int .i32 0) := (blk_cell BK139.out 1).trans rfl; have hcz21_2 : w19.cell? ⟨gb139, 2, none⟩ = some (.int .u8 0) := (blk_cell BK139.out 2).trans rfl; have hfz21_0 := blk_frozen BK139.out 0; have hfz21_1 := blk_frozen BK139.out 1; have hfz21_2 := blk_frozen BK139.out 2) | ((with_reducible refine gate_callee (f := 12) rfl ?_); refine gL_ (some 25) Try.func12 #[.agg #[.int .i32 t135, .int .i32 t136, .int .u8 t137]] ?_; (with_reducible refine (counts_Total.calls t135 t136 t137 t140 t141 _ A15.out).mono ?_); rintro e w22 ⟨rfl, hb⟩; refine ⟨_, rfl, ?_⟩; have n0_ := Aside0.mk (blk_below (g := gb132) (o := .cells #[.int .i32 a0_0, .int .i32 a0_1, .int .u8 a0_2] 23 (0, 0)) (by (with_reducible repeat (first | refine blk_drewN ?_ _ | refine blk_drew ?_ | refine blk_alloc ?_ _)); refine blk_far ?_ NB132_139.out _; (with_reducible repeat (first | refine blk_drewN ?_ _ | refine blk_drew ?_ | refine blk_alloc ?_ _)); refine blk_far ?_ NB132_139.out _; (with_reducible repeat (first | refine blk_drewN ?_ _ | refine blk_drew ?_ | refine blk_alloc ?_ _)); refine blk_far ?_ NB132_139.out _; (with_reducible repeat (first | refine blk_drewN ?_ _ | refine blk_drew ?_ | refine blk_alloc ?_ _)); exact BK132.out) hb); have n1_ := Aside0.mk (blk_below (g := gb139) (o := .cells #[.int .i32 t135, .int .i32 t136, .int .u8 t137] 23 (0, 0)) (by (with_reducible repeat (first | refine blk_drewN ?_ _ | refine blk_drew ?_ | refine blk_alloc ?_ _)); refine blk_put (cs := #[.int .i32 t135, .int .i32 t136, .int .u8 0]) ?_ 2 _ rfl; (with_reducible repeat (first | refine blk_drewN ?_ _ | refine blk_drew ?_ | refine blk_alloc ?_ _)); refine blk_put (cs := #[.int .i32 t135, .int .i32 0, .int .u8 0]) ?_ 1 _ rfl; (with_reducible repeat (first | refine blk_drewN ?_ _ | refine blk_drew ?_ | refine blk_alloc ?_ _)); refine blk_put (cs := #[.int .i32 0, .int .i32 0, .int .u8 0]) ?_ 0 _ rfl; (with_reducible repeat (first | refine blk_drewN ?_ _ | refine blk_drew ?_ | refine blk_alloc ?_ _)); exact BK139.out) hb); have n2_ := Aside0.mk (below_step (by repeat (first | (with_reducible first | exact HB.out | apply below_alloc | apply pw_below_drewN | apply below_drew1 | refine below_set ?_ GE132.out | refine below_set ?_ GE139.out) | exact HB.out)) hb); clear BK132; clear BK139; clear HB; have BK132 := n0_; have BK139 := n1_; have HB := n2_; clear n0_ n1_ n2_; (try clear hb)))
        (try simp only [Act.put, List.setIfInBounds_toArray, List.set_cons_zero, List.set_cons_succ])
        go_cut [58] (fun v58 wc => ∃ (kq : Nat) (x58_15 : Bool), v58 = .bool x58_15 ∧ Aside0 (bitloftlaw07_CountsBounds.j1 kq a1 x58_15 a0_0 a0_1 a0_2 t135 t136 t137 = some r) ∧ Aside0 (kq ≤ kj2) ∧ Aside0 (wc.heap[gb132]? = some (.cells #[.int .i32 a0_0, .int .i32 a0_1, .int .u8 a0_2] 23 (0, 0))) ∧ Aside0 (wc.heap[gb139]? = some (.cells #[.int .i32 t135, .int .i32 t136, .int .u8 t137] 23 (0, 0))) ∧ Aside0 (Below w.heap.size w wc))
        case first =>
          have H := HC16.out
          clear HC16
          by_cases c23 : t138 = 0
          · rw [if_pos c23] at H
            have c23b0 : (t138 == 0) = true := beq_iff_eq.mpr c23
            have c23b1 : (t138 != 0) = false := bne_eq_false_iff_eq.mpr c23
            clear c23
            (first | rw [c23b0] | (simp only [i64_w, i32_w]; rw [c23b0]) | skip)
            by_cases c24 : t141 = 0
            · rw [if_pos c24] at H
              have c24b0 : (t141 == 0) = true := beq_iff_eq.mpr c24
              have c24b1 : (t141 != 0) = false := bne_eq_false_iff_eq.mpr c24
              clear c24
              replace H := Option.bind_eq_some_iff.mp H
              obtain ⟨t142, A250, H⟩ := H
              replace H : (if t142 = 0 then ((bitloftref07_Check.f kj2 t135 t136 t137).bind fun t143 => (if t143 = 0 then (if t137 = a1 then (bitloftlaw07_CountsBounds.j1 kj2 a1 (t140 != (wrap32 (t135 + t136))) a0_0 a0_1 a0_2 t135 t136 t137) else (bitloftlaw07_CountsBounds.j1 kj2 a1 true a0_0 a0_1 a0_2 t135 t136 t137)) else (bitloftlaw07_CountsBounds.j1 kj2 a1 true a0_0 a0_1 a0_2 t135 t136 t137))) else (bitloftlaw07_CountsBounds.j1 kj2 a1 true a0_0 a0_1 a0_2 t135 t136 t137)) = some r := H
              have A25 := Aside0.mk A250
              clear A250
              by_cases c26 : t142 = 0
              · rw [if_pos c26] at H
                have c26b0 : (t142 == 0) = true := beq_iff_eq.mpr c26
                have c26b1 : (t142 != 0) = false := bne_eq_false_iff_eq.mpr c26
                clear c26
                replace H := Option.bind_eq_some_iff.mp H
                obtain ⟨t143, A270, H⟩ := H
                replace H : (if t143 = 0 then (if t137 = a1 then (bitloftlaw07_CountsBounds.j1 kj2 a1 (t140 != (wrap32 (t135 + t136))) a0_0 a0_1 a0_2 t135 t136 t137) else (bitloftlaw07_CountsBounds.j1 kj2 a1 true a0_0 a0_1 a0_2 t135 t136 t137)) else (bitloftlaw07_CountsBounds.j1 kj2 a1 true a0_0 a0_1 a0_2 t135 t136 t137)) = some r := H
                have A27 := Aside0.mk A270
                clear A270
                by_cases c28 : t143 = 0
                · rw [if_pos c28] at H
                  have c28b0 : (t143 == 0) = true := beq_iff_eq.mpr c28
                  have c28b1 : (t143 != 0) = false := bne_eq_false_iff_eq.mpr c28
                  clear c28
                  by_cases c29 : t137 = a1
                  · rw [if_pos c29] at H
                    have c29b0 : (t137 == a1) = true := beq_iff_eq.mpr c29
                    have c29b1 : (t137 != a1) = false := bne_eq_false_iff_eq.mpr c29
                    clear c29
                    have H' := Aside0.mk H
                    clear H
                    have hnb30 := NB139_132.out
                    have hnc30 := NB132_139.out
                    have hcz31_0 : w22.cell? ⟨gb139, 0, none⟩ = some (.int .i32 t135) := (blk_cell BK139.out 0).trans rfl
                    have hcz31_1 : w22.cell? ⟨gb139, 1, none⟩ = some (.int .i32 t136) := (blk_cell BK139.out 1).trans rfl
                    have hcz31_2 : w22.cell? ⟨gb139, 2, none⟩ = some (.int .u8 t137) := (blk_cell BK139.out 2).trans rfl
                    have hfz31_0 := blk_frozen BK139.out 0
                    have hfz31_1 := blk_frozen BK139.out 1
                    have hfz31_2 := blk_frozen BK139.out 2
                    go_wp2_with (first | (go_at_call 16; (with_reducible refine (counts_Check.calls t135 t136 t137 t142 _ A25.out).mono ?_); rintro e w32 ⟨rfl, hb⟩; have n0_ := Aside0.mk (blk_below (g := gb132) (o := .cells #[.int .i32 a0_0, .int .i32 a0_1, .int .u8 a0_2] 23 (0, 0)) (by (with_reducible repeat (first | refine blk_drewN ?_ _ | refine blk_drew ?_ | refine blk_alloc ?_ _)); exact BK132.out) hb); have n1_ := Aside0.mk (blk_below (g := gb139) (o := .cells #[.int .i32 t135, .int .i32 t136, .int .u8 t137] 23 (0, 0)) (by (with_reducible repeat (first | refine blk_drewN ?_ _ | refine blk_drew ?_ | refine blk_alloc ?_ _)); exact BK139.out) hb); have n2_ := Aside0.mk (below_step (by repeat (first | (with_reducible first | exact HB.out | apply below_alloc | apply pw_below_drewN | apply below_drew1 | refine below_set ?_ GE132.out | refine below_set ?_ GE139.out) | exact HB.out)) hb); clear BK132; clear BK139; clear HB; have BK132 := n0_; have BK139 := n1_; have HB := n2_; clear n0_ n1_ n2_; (try clear hb); have hcz33_0 : w32.cell? ⟨gb139, 0, none⟩ = some (.int .i32 t135) := (blk_cell BK139.out 0).trans rfl; have hcz33_1 : w32.cell? ⟨gb139, 1, none⟩ = some (.int .i32 t136) := (blk_cell BK139.out 1).trans rfl; have hcz33_2 : w32.cell? ⟨gb139, 2, none⟩ = some (.int .u8 t137) := (blk_cell BK139.out 2).trans rfl; have hfz33_0 := blk_frozen BK139.out 0; have hfz33_1 := blk_frozen BK139.out 1; have hfz33_2 := blk_frozen BK139.out 2) | (go_at_call 17; (with_reducible refine (bitloftref07_Check.calls kj2 t135 t136 t137 t143 _ A27.out).mono ?_); rintro e w34 ⟨rfl, hb⟩; have n0_ := Aside0.mk (blk_below (g := gb132) (o := .cells #[.int .i32 a0_0, .int .i32 a0_1, .int .u8 a0_2] 23 (0, 0)) (by (with_reducible repeat (first | refine blk_drewN ?_ _ | refine blk_drew ?_ | refine blk_alloc ?_ _)); exact BK132.out) hb); have n1_ := Aside0.mk (blk_below (g := gb139) (o := .cells #[.int .i32 t135, .int .i32 t136, .int .u8 t137] 23 (0, 0)) (by (with_reducible repeat (first | refine blk_drewN ?_ _ | refine blk_drew ?_ | refine blk_alloc ?_ _)); exact BK139.out) hb); have n2_ := Aside0.mk (below_step (by repeat (first | (with_reducible first | exact HB.out | apply below_alloc | apply pw_below_drewN | apply below_drew1 | refine below_set ?_ GE132.out | refine below_set ?_ GE139.out) | exact HB.out)) hb); clear BK132; clear BK139; clear HB; have BK132 := n0_; have BK139 := n1_; have HB := n2_; clear n0_ n1_ n2_; (try clear hb); have hcz35_0 : w34.cell? ⟨gb139, 0, none⟩ = some (.int .i32 t135) := (blk_cell BK139.out 0).trans rfl; have hcz35_1 : w34.cell? ⟨gb139, 1, none⟩ = some (.int .i32 t136) := (blk_cell BK139.out 1).trans rfl; have hcz35_2 : w34.cell? ⟨gb139, 2, none⟩ = some (.int .u8 t137) := (blk_cell BK139.out 2).trans rfl; have hfz35_0 := blk_frozen BK139.out 0; have hfz35_1 := blk_frozen BK139.out 1; have hfz35_2 := blk_frozen BK139.out 2))
                    go_meet
                    case rel => exact ⟨_, ((t140 != (wrap32 (t135 + t136)))), (by first | rfl | (simp; done) | (simp [*]; done)), H', ⟨by have := HJ2.out; first | omega | exact Nat.le_refl _⟩, ⟨by (with_reducible repeat (first | refine blk_drewN ?_ _ | refine blk_drew ?_ | refine blk_alloc ?_ _)); exact BK132.out⟩, ⟨by (with_reducible repeat (first | refine blk_drewN ?_ _ | refine blk_drew ?_ | refine blk_alloc ?_ _)); exact BK139.out⟩, ⟨by repeat (first | (with_reducible first | exact HB.out | apply below_alloc | apply pw_below_drewN | apply below_drew1 | refine below_set ?_ GE132.out | refine below_set ?_ GE139.out) | exact HB.out)⟩⟩
                  · rw [if_neg c29] at H
                    have c29b0 : (t137 == a1) = false := beq_eq_false_iff_ne.mpr c29
                    have c29b1 : (t137 != a1) = true := bne_iff_ne.mpr c29
                    have H' := Aside0.mk H
                    clear H
                    have hnb36 := NB139_132.out
                    have hnc36 := NB132_139.out
                    have hcz37_0 : w22.cell? ⟨gb139, 0, none⟩ = some (.int .i32 t135) := (blk_cell BK139.out 0).trans rfl
                    have hcz37_1 : w22.cell? ⟨gb139, 1, none⟩ = some (.int .i32 t136) := (blk_cell BK139.out 1).trans rfl
                    have hcz37_2 : w22.cell? ⟨gb139, 2, none⟩ = some (.int .u8 t137) := (blk_cell BK139.out 2).trans rfl
                    have hfz37_0 := blk_frozen BK139.out 0
                    have hfz37_1 := blk_frozen BK139.out 1
                    have hfz37_2 := blk_frozen BK139.out 2
                    go_wp2_with (first | (go_at_call 16; (with_reducible refine (counts_Check.calls t135 t136 t137 t142 _ A25.out).mono ?_); rintro e w38 ⟨rfl, hb⟩; have n0_ := Aside0.mk (blk_below (g := gb132) (o := .cells #[.int .i32 a0_0, .int .i32 a0_1, .int .u8 a0_2] 23 (0, 0)) (by (with_reducible repeat (first | refine blk_drewN ?_ _ | refine blk_drew ?_ | refine blk_alloc ?_ _)); exact BK132.out) hb); have n1_ := Aside0.mk (blk_below (g := gb139) (o := .cells #[.int .i32 t135, .int .i32 t136, .int .u8 t137] 23 (0, 0)) (by (with_reducible repeat (first | refine blk_drewN ?_ _ | refine blk_drew ?_ | refine blk_alloc ?_ _)); exact BK139.out) hb); have n2_ := Aside0.mk (below_step (by repeat (first | (with_reducible first | exact HB.out | apply below_alloc | apply pw_below_drewN | apply below_drew1 | refine below_set ?_ GE132.out | refine below_set ?_ GE139.out) | exact HB.out)) hb); clear BK132; clear BK139; clear HB; have BK132 := n0_; have BK139 := n1_; have HB := n2_; clear n0_ n1_ n2_; (try clear hb); have hcz39_0 : w38.cell? ⟨gb139, 0, none⟩ = some (.int .i32 t135) := (blk_cell BK139.out 0).trans rfl; have hcz39_1 : w38.cell? ⟨gb139, 1, none⟩ = some (.int .i32 t136) := (blk_cell BK139.out 1).trans rfl; have hcz39_2 : w38.cell? ⟨gb139, 2, none⟩ = some (.int .u8 t137) := (blk_cell BK139.out 2).trans rfl; have hfz39_0 := blk_frozen BK139.out 0; have hfz39_1 := blk_frozen BK139.out 1; have hfz39_2 := blk_frozen BK139.out 2) | (go_at_call 17; (with_reducible refine (bitloftref07_Check.calls kj2 t135 t136 t137 t143 _ A27.out).mono ?_); rintro e w40 ⟨rfl, hb⟩; have n0_ := Aside0.mk (blk_below (g := gb132) (o := .cells #[.int .i32 a0_0, .int .i32 a0_1, .int .u8 a0_2] 23 (0, 0)) (by (with_reducible repeat (first | refine blk_drewN ?_ _ | refine blk_drew ?_ | refine blk_alloc ?_ _)); exact BK132.out) hb); have n1_ := Aside0.mk (blk_below (g := gb139) (o := .cells #[.int .i32 t135, .int .i32 t136, .int .u8 t137] 23 (0, 0)) (by (with_reducible repeat (first | refine blk_drewN ?_ _ | refine blk_drew ?_ | refine blk_alloc ?_ _)); exact BK139.out) hb); have n2_ := Aside0.mk (below_step (by repeat (first | (with_reducible first | exact HB.out | apply below_alloc | apply pw_below_drewN | apply below_drew1 | refine below_set ?_ GE132.out | refine below_set ?_ GE139.out) | exact HB.out)) hb); clear BK132; clear BK139; clear HB; have BK132 := n0_; have BK139 := n1_; have HB := n2_; clear n0_ n1_ n2_; (try clear hb); have hcz41_0 : w40.cell? ⟨gb139, 0, none⟩ = some (.int .i32 t135) := (blk_cell BK139.out 0).trans rfl; have hcz41_1 : w40.cell? ⟨gb139, 1, none⟩ = some (.int .i32 t136) := (blk_cell BK139.out 1).trans rfl; have hcz41_2 : w40.cell? ⟨gb139, 2, none⟩ = some (.int .u8 t137) := (blk_cell BK139.out 2).trans rfl; have hfz41_0 := blk_frozen BK139.out 0; have hfz41_1 := blk_frozen BK139.out 1; have hfz41_2 := blk_frozen BK139.out 2))
                    go_meet
                    case rel => exact ⟨_, (true), (by first | rfl | (simp; done) | (simp [*]; done)), H', ⟨by have := HJ2.out; first | omega | exact Nat.le_refl _⟩, ⟨by (with_reducible repeat (first | refine blk_drewN ?_ _ | refine blk_drew ?_ | refine blk_alloc ?_ _)); exact BK132.out⟩, ⟨by (with_reducible repeat (first | refine blk_drewN ?_ _ | refine blk_drew ?_ | refine blk_alloc ?_ _)); exact BK139.out⟩, ⟨by repeat (first | (with_reducible first | exact HB.out | apply below_alloc | apply pw_below_drewN | apply below_drew1 | refine below_set ?_ GE132.out | refine below_set ?_ GE139.out) | exact HB.out)⟩⟩
                · rw [if_neg c28] at H
                  have c28b0 : (t143 == 0) = false := beq_eq_false_iff_ne.mpr c28
                  have c28b1 : (t143 != 0) = true := bne_iff_ne.mpr c28
                  have H' := Aside0.mk H
                  clear H
                  have hnb42 := NB139_132.out
                  have hnc42 := NB132_139.out
                  have hcz43_0 : w22.cell? ⟨gb139, 0, none⟩ = some (.int .i32 t135) := (blk_cell BK139.out 0).trans rfl
                  have hcz43_1 : w22.cell? ⟨gb139, 1, none⟩ = some (.int .i32 t136) := (blk_cell BK139.out 1).trans rfl
                  have hcz43_2 : w22.cell? ⟨gb139, 2, none⟩ = some (.int .u8 t137) := (blk_cell BK139.out 2).trans rfl
                  have hfz43_0 := blk_frozen BK139.out 0
                  have hfz43_1 := blk_frozen BK139.out 1
                  have hfz43_2 := blk_frozen BK139.out 2
                  go_wp2_with (first | (go_at_call 16; (with_reducible refine (counts_Check.calls t135 t136 t137 t142 _ A25.out).mono ?_); rintro e w44 ⟨rfl, hb⟩; have n0_ := Aside0.mk (blk_below (g := gb132) (o := .cells #[.int .i32 a0_0, .int .i32 a0_1, .int .u8 a0_2] 23 (0, 0)) (by (with_reducible repeat (first | refine blk_drewN ?_ _ | refine blk_drew ?_ | refine blk_alloc ?_ _)); exact BK132.out) hb); have n1_ := Aside0.mk (blk_below (g := gb139) (o := .cells #[.int .i32 t135, .int .i32 t136, .int .u8 t137] 23 (0, 0)) (by (with_reducible repeat (first | refine blk_drewN ?_ _ | refine blk_drew ?_ | refine blk_alloc ?_ _)); exact BK139.out) hb); have n2_ := Aside0.mk (below_step (by repeat (first | (with_reducible first | exact HB.out | apply below_alloc | apply pw_below_drewN | apply below_drew1 | refine below_set ?_ GE132.out | refine below_set ?_ GE139.out) | exact HB.out)) hb); clear BK132; clear BK139; clear HB; have BK132 := n0_; have BK139 := n1_; have HB := n2_; clear n0_ n1_ n2_; (try clear hb); have hcz45_0 : w44.cell? ⟨gb139, 0, none⟩ = some (.int .i32 t135) := (blk_cell BK139.out 0).trans rfl; have hcz45_1 : w44.cell? ⟨gb139, 1, none⟩ = some (.int .i32 t136) := (blk_cell BK139.out 1).trans rfl; have hcz45_2 : w44.cell? ⟨gb139, 2, none⟩ = some (.int .u8 t137) := (blk_cell BK139.out 2).trans rfl; have hfz45_0 := blk_frozen BK139.out 0; have hfz45_1 := blk_frozen BK139.out 1; have hfz45_2 := blk_frozen BK139.out 2) | (go_at_call 17; (with_reducible refine (bitloftref07_Check.calls kj2 t135 t136 t137 t143 _ A27.out).mono ?_); rintro e w46 ⟨rfl, hb⟩; have n0_ := Aside0.mk (blk_below (g := gb132) (o := .cells #[.int .i32 a0_0, .int .i32 a0_1, .int .u8 a0_2] 23 (0, 0)) (by (with_reducible repeat (first | refine blk_drewN ?_ _ | refine blk_drew ?_ | refine blk_alloc ?_ _)); exact BK132.out) hb); have n1_ := Aside0.mk (blk_below (g := gb139) (o := .cells #[.int .i32 t135, .int .i32 t136, .int .u8 t137] 23 (0, 0)) (by (with_reducible repeat (first | refine blk_drewN ?_ _ | refine blk_drew ?_ | refine blk_alloc ?_ _)); exact BK139.out) hb); have n2_ := Aside0.mk (below_step (by repeat (first | (with_reducible first | exact HB.out | apply below_alloc | apply pw_below_drewN | apply below_drew1 | refine below_set ?_ GE132.out | refine below_set ?_ GE139.out) | exact HB.out)) hb); clear BK132; clear BK139; clear HB; have BK132 := n0_; have BK139 := n1_; have HB := n2_; clear n0_ n1_ n2_; (try clear hb)))
                  go_meet
                  case rel => exact ⟨_, (true), (by first | rfl | (simp; done) | (simp [*]; done)), H', ⟨by have := HJ2.out; first | omega | exact Nat.le_refl _⟩, ⟨by (with_reducible repeat (first | refine blk_drewN ?_ _ | refine blk_drew ?_ | refine blk_alloc ?_ _)); exact BK132.out⟩, ⟨by (with_reducible repeat (first | refine blk_drewN ?_ _ | refine blk_drew ?_ | refine blk_alloc ?_ _)); exact BK139.out⟩, ⟨by repeat (first | (with_reducible first | exact HB.out | apply below_alloc | apply pw_below_drewN | apply below_drew1 | refine below_set ?_ GE132.out | refine below_set ?_ GE139.out) | exact HB.out)⟩⟩
              · rw [if_neg c26] at H
                have c26b0 : (t142 == 0) = false := beq_eq_false_iff_ne.mpr c26
                have c26b1 : (t142 != 0) = true := bne_iff_ne.mpr c26
                have H' := Aside0.mk H
                clear H
                have hnb47 := NB139_132.out
                have hnc47 := NB132_139.out
                have hcz48_0 : w22.cell? ⟨gb139, 0, none⟩ = some (.int .i32 t135) := (blk_cell BK139.out 0).trans rfl
                have hcz48_1 : w22.cell? ⟨gb139, 1, none⟩ = some (.int .i32 t136) := (blk_cell BK139.out 1).trans rfl
                have hcz48_2 : w22.cell? ⟨gb139, 2, none⟩ = some (.int .u8 t137) := (blk_cell BK139.out 2).trans rfl
                have hfz48_0 := blk_frozen BK139.out 0
                have hfz48_1 := blk_frozen BK139.out 1
                have hfz48_2 := blk_frozen BK139.out 2
                go_wp2_with (first | (go_at_call 16; (with_reducible refine (counts_Check.calls t135 t136 t137 t142 _ A25.out).mono ?_); rintro e w49 ⟨rfl, hb⟩; have n0_ := Aside0.mk (blk_below (g := gb132) (o := .cells #[.int .i32 a0_0, .int .i32 a0_1, .int .u8 a0_2] 23 (0, 0)) (by (with_reducible repeat (first | refine blk_drewN ?_ _ | refine blk_drew ?_ | refine blk_alloc ?_ _)); exact BK132.out) hb); have n1_ := Aside0.mk (blk_below (g := gb139) (o := .cells #[.int .i32 t135, .int .i32 t136, .int .u8 t137] 23 (0, 0)) (by (with_reducible repeat (first | refine blk_drewN ?_ _ | refine blk_drew ?_ | refine blk_alloc ?_ _)); exact BK139.out) hb); have n2_ := Aside0.mk (below_step (by repeat (first | (with_reducible first | exact HB.out | apply below_alloc | apply pw_below_drewN | apply below_drew1 | refine below_set ?_ GE132.out | refine below_set ?_ GE139.out) | exact HB.out)) hb); clear BK132; clear BK139; clear HB; have BK132 := n0_; have BK139 := n1_; have HB := n2_; clear n0_ n1_ n2_; (try clear hb)))
                go_meet
                case rel => exact ⟨_, (true), (by first | rfl | (simp; done) | (simp [*]; done)), H', ⟨by have := HJ2.out; first | omega | exact Nat.le_refl _⟩, ⟨by (with_reducible repeat (first | refine blk_drewN ?_ _ | refine blk_drew ?_ | refine blk_alloc ?_ _)); exact BK132.out⟩, ⟨by (with_reducible repeat (first | refine blk_drewN ?_ _ | refine blk_drew ?_ | refine blk_alloc ?_ _)); exact BK139.out⟩, ⟨by repeat (first | (with_reducible first | exact HB.out | apply below_alloc | apply pw_below_drewN | apply below_drew1 | refine below_set ?_ GE132.out | refine below_set ?_ GE139.out) | exact HB.out)⟩⟩
            · rw [if_neg c24] at H
              have c24b0 : (t141 == 0) = false := beq_eq_false_iff_ne.mpr c24
              have c24b1 : (t141 != 0) = true := bne_iff_ne.mpr c24
              have H' := Aside0.mk H
              clear H
              go_wp2
              go_meet
              case rel => exact ⟨_, (true), (by first | rfl | (simp; done) | (simp [*]; done)), H', ⟨by have := HJ2.out; first | omega | exact Nat.le_refl _⟩, ⟨by (with_reducible repeat (first | refine blk_drewN ?_ _ | refine blk_drew ?_ | refine blk_alloc ?_ _)); exact BK132.out⟩, ⟨by (with_reducible repeat (first | refine blk_drewN ?_ _ | refine blk_drew ?_ | refine blk_alloc ?_ _)); exact BK139.out⟩, ⟨by repeat (first | (with_reducible first | exact HB.out | apply below_alloc | apply pw_below_drewN | apply below_drew1 | refine below_set ?_ GE132.out | refine below_set ?_ GE139.out) | exact HB.out)⟩⟩
          · rw [if_neg c23] at H
            have c23b0 : (t138 == 0) = false := beq_eq_false_iff_ne.mpr c23
            have c23b1 : (t138 != 0) = true := bne_iff_ne.mpr c23
            (first | rw [c23b0] | (simp only [i64_w, i32_w]; rw [c23b0]) | skip)
            have H' := Aside0.mk H
            clear H
            go_wp2
            go_meet
            case rel => exact ⟨_, (true), (by first | rfl | (simp; done) | (simp [*]; done)), H', ⟨by have := HJ2.out; first | omega | exact Nat.le_refl _⟩, ⟨by (with_reducible repeat (first | refine blk_drewN ?_ _ | refine blk_drew ?_ | refine blk_alloc ?_ _)); exact BK132.out⟩, ⟨by (with_reducible repeat (first | refine blk_drewN ?_ _ | refine blk_drew ?_ | refine blk_alloc ?_ _)); exact BK139.out⟩, ⟨by repeat (first | (with_reducible first | exact HB.out | apply below_alloc | apply pw_below_drewN | apply below_drew1 | refine below_set ?_ GE132.out | refine below_set ?_ GE139.out) | exact HB.out)⟩⟩
        case rest =>
          clear HC16
          try clear c1
          try clear c2
          try clear p2
          try clear c3
          try clear p3
          try clear c4
          try clear c6
          try clear c6b0
          try clear c6b1
          try clear c9
          try clear c10
          try clear c11
          try clear c12
          try clear c17
          try clear c20
          try clear c21
          try clear c23
          try clear c23b0
          try clear c23b1
          try clear c24
          try clear c24b0
          try clear c24b1
          try clear c26
          try clear c26b0
          try clear c26b1
          try clear c28
          try clear c28b0
          try clear c28b1
          try clear c29
          try clear c29b0
          try clear c29b1
          try clear c30
          try clear p32
          try clear c36
          try clear c42
          try clear c47
          try clear hcz17_0
          try clear hcz17_1
          try clear hcz17_2
          try clear hcz21_0
          try clear hcz21_1
          try clear hcz21_2
          try clear hcz31_0
          try clear hcz31_1
          try clear hcz31_2
          try clear hcz33_0
          try clear hcz33_1
          try clear hcz33_2
          try clear hcz35_0
          try clear hcz35_1
          try clear hcz35_2
          try clear hcz37_0
          try clear hcz37_1
          try clear hcz37_2
          try clear hcz39_0
          try clear hcz39_1
          try clear hcz39_2
          try clear hcz41_0
          try clear hcz41_1
          try clear hcz41_2
          try clear hcz43_0
          try clear hcz43_1
          try clear hcz43_2
          try clear hcz45_0
          try clear hcz45_1
          try clear hcz45_2
          try clear hcz48_0
          try clear hcz48_1
          try clear hcz48_2
          try clear hcz7_0
          try clear hcz7_1
          try clear hcz7_2
          try clear hcz9_0
          try clear hcz9_1
          try clear hcz9_2
          try clear hfz17_0
          try clear hfz17_1
          try clear hfz17_2
          try clear hfz21_0
          try clear hfz21_1
          try clear hfz21_2
          try clear hfz31_0
          try clear hfz31_1
          try clear hfz31_2
          try clear hfz33_0
          try clear hfz33_1
          try clear hfz33_2
          try clear hfz35_0
          try clear hfz35_1
          try clear hfz35_2
          try clear hfz37_0
          try clear hfz37_1
          try clear hfz37_2
          try clear hfz39_0
          try clear hfz39_1
          try clear hfz39_2
          try clear hfz41_0
          try clear hfz41_1
          try clear hfz41_2
          try clear hfz43_0
          try clear hfz43_1
          try clear hfz43_2
          try clear hfz45_0
          try clear hfz45_1
          try clear hfz45_2
          try clear hfz48_0
          try clear hfz48_1
          try clear hfz48_2
          try clear hfz7_0
          try clear hfz7_1
          try clear hfz7_2
          try clear hfz9_0
          try clear hfz9_1
          try clear hfz9_2
          try clear p2
          obtain ⟨kq, x58_15, rfl, HA, HJ15, BK132, BK139, HB⟩ := hcut
          cases kq with
          | zero => exact absurd HA.out (by simp [bitloftlaw07_CountsBounds.j1])
          | succ kj15 =>
            have H := HA.out
            clear HA
            simp only [bitloftlaw07_CountsBounds.j1] at H
            by_cases c50 : x58_15 = true
            · subst c50
              have H1 : (some false) = some r := by rw [if_pos rfl] at H; exact H
              clear H
              have H := H1
              clear H1
              obtain rfl := Option.some.inj H
              go_wp2
              go_ret
              exact ⟨by first | rfl | (simp [errW_none, errW_some] <;> rfl) | (simp [*, errW_none, errW_some] <;> rfl), by repeat (first | (with_reducible first | exact HB.out | apply below_alloc | apply pw_below_drewN | apply below_drew1 | refine below_set ?_ GE132.out | refine below_set ?_ GE139.out) | exact HB.out)⟩
            · replace c50 := Bool.eq_false_iff.mpr c50
              subst c50
              have H1 : (if a1 = 0 then (if t135 = (mn (wrap32 (a0_0 + 1)) 12) then (if t136 ≤ a0_1 then (if ((decide (a0_1 ≤ 2)) == (t136 == a0_1)) = true then ((bitloftlaw07_alive.f kj15).bind fun t144 => (bitloftlaw07_CountsBounds.j2 kj15 t144)) else (bitloftlaw07_CountsBounds.j2 kj15 false)) else (bitloftlaw07_CountsBounds.j2 kj15 false)) else (bitloftlaw07_CountsBounds.j2 kj15 false)) else (if t136 = (mn (wrap32 (a0_1 + 1)) 12) then (if t135 ≤ a0_0 then (if ((decide (a0_0 ≤ 2)) == (t135 == a0_0)) = true then ((bitloftlaw07_alive.f kj15).bind fun t145 => (bitloftlaw07_CountsBounds.j3 kj15 t145)) else (bitloftlaw07_CountsBounds.j3 kj15 false)) else (bitloftlaw07_CountsBounds.j3 kj15 false)) else (bitloftlaw07_CountsBounds.j3 kj15 false))) = some r := by rw [if_neg (show ¬ (false = true) by decide)] at H; exact H
              clear H
              have H := H1
              clear H1
              by_cases c51 : a1 = 0
              · rw [if_pos c51] at H
                have c51b0 : (a1 == 0) = true := beq_iff_eq.mpr c51
                have c51b1 : (a1 != 0) = false := bne_eq_false_iff_eq.mpr c51
                clear c51
                have HC52 := Aside0.mk H
                clear H
                go_upto_region 8 with (fail)
                go_cut [4] (fun v4 wc => ∃ (kq : Nat) (x4_51 : Bool), v4 = .bool x4_51 ∧ Aside0 (bitloftlaw07_CountsBounds.j2 kq x4_51 = some r) ∧ Aside0 (kq ≤ kj15) ∧ Aside0 (wc.heap[gb132]? = some (.cells #[.int .i32 a0_0, .int .i32 a0_1, .int .u8 a0_2] 23 (0, 0))) ∧ Aside0 (wc.heap[gb139]? = some (.cells #[.int .i32 t135, .int .i32 t136, .int .u8 t137] 23 (0, 0))) ∧ Aside0 (Below w.heap.size w wc))
                case first =>
                  have H := HC52.out
                  clear HC52
                  obtain ⟨ji53, hji53⟩ : ∃ j_ : Int, (mn (wrap32 (a0_0 + 1)) 12) = j_ := ⟨_, rfl⟩
                  replace H : (if t135 = (ji53) then (if t136 ≤ a0_1 then (if ((decide (a0_1 ≤ 2)) == (t136 == a0_1)) = true then ((bitloftlaw07_alive.f kj15).bind fun t144 => (bitloftlaw07_CountsBounds.j2 kj15 t144)) else (bitloftlaw07_CountsBounds.j2 kj15 false)) else (bitloftlaw07_CountsBounds.j2 kj15 false)) else (bitloftlaw07_CountsBounds.j2 kj15 false)) = some r := by first | (rw [hji53] at H; exact H) | (simp only [hji53] at H ⊢; exact H)
                  have hji53_ : (if 12 < (wrap32 (a0_0 + 1)) then 12 else (wrap32 (a0_0 + 1))) = ji53 := hji53
                  by_cases c54 : t135 = (ji53)
                  · rw [if_pos c54] at H
                    have c54b0 : (t135 == (ji53)) = true := beq_iff_eq.mpr c54
                    have c54b1 : (t135 != (ji53)) = false := bne_eq_false_iff_eq.mpr c54
                    clear c54
                    (first | rw [c54b0] | (simp only [i64_w, i32_w]; rw [c54b0]) | skip)
                    by_cases c55 : t136 ≤ a0_1
                    · rw [if_pos c55] at H
                      have c55b0 : decide (t136 ≤ a0_1) = true := decide_eq_true c55
                      clear c55
                      by_cases c56 : ((decide (a0_1 ≤ 2)) == (t136 == a0_1)) = true
                      · rw [if_pos c56] at H
                        have c56b0 : ((decide (a0_1 ≤ 2)) == (t136 == a0_1)) = true := c56
                        (try (have c56b1 : decide ((decide (a0_1 ≤ 2)) = (t136 == a0_1)) = true := by simpa using c56))
                        (try (have c56b2 : ((decide (a0_1 ≤ 2)) == (t136 == a0_1)) = true := by simpa using c56))
                        clear c56
                        replace H := Option.bind_eq_some_iff.mp H
                        obtain ⟨t144, A570, H⟩ := H
                        replace H : (bitloftlaw07_CountsBounds.j2 kj15 t144) = some r := H
                        have A57 := Aside0.mk A570
                        clear A570
                        have H' := Aside0.mk H
                        clear H
                        have hnb58 := NB139_132.out
                        have hnc58 := NB132_139.out
                        have hcz59_0 : wc.cell? ⟨gb139, 0, none⟩ = some (.int .i32 t135) := (blk_cell BK139.out 0).trans rfl
                        have hcz59_1 : wc.cell? ⟨gb139, 1, none⟩ = some (.int .i32 t136) := (blk_cell BK139.out 1).trans rfl
                        have hcz59_2 : wc.cell? ⟨gb139, 2, none⟩ = some (.int .u8 t137) := (blk_cell BK139.out 2).trans rfl
                        have hfz59_0 := blk_frozen BK139.out 0
                        have hfz59_1 := blk_frozen BK139.out 1
                        have hfz59_2 := blk_frozen BK139.out 2
                        have hcz60_0 : wc.cell? ⟨gb132, 0, none⟩ = some (.int .i32 a0_0) := (blk_cell BK132.out 0).trans rfl
                        have hcz60_1 : wc.cell? ⟨gb132, 1, none⟩ = some (.int .i32 a0_1) := (blk_cell BK132.out 1).trans rfl
                        have hcz60_2 : wc.cell? ⟨gb132, 2, none⟩ = some (.int .u8 a0_2) := (blk_cell BK132.out 2).trans rfl
                        have hfz60_0 := blk_frozen BK132.out 0
                        have hfz60_1 := blk_frozen BK132.out 1
                        have hfz60_2 := blk_frozen BK132.out 2
                        go_wp2_with (first | (go_at_call 21; (with_reducible refine (bitloftlaw07_alive.calls kj15  t144 _ A57.out).mono ?_); rintro e w61 ⟨rfl, hb⟩; have n0_ := Aside0.mk (blk_below (g := gb132) (o := .cells #[.int .i32 a0_0, .int .i32 a0_1, .int .u8 a0_2] 23 (0, 0)) (by (with_reducible repeat (first | refine blk_drewN ?_ _ | refine blk_drew ?_ | refine blk_alloc ?_ _)); exact BK132.out) hb); have n1_ := Aside0.mk (blk_below (g := gb139) (o := .cells #[.int .i32 t135, .int .i32 t136, .int .u8 t137] 23 (0, 0)) (by (with_reducible repeat (first | refine blk_drewN ?_ _ | refine blk_drew ?_ | refine blk_alloc ?_ _)); exact BK139.out) hb); have n2_ := Aside0.mk (below_step (by repeat (first | (with_reducible first | exact HB.out | apply below_alloc | apply pw_below_drewN | apply below_drew1 | refine below_set ?_ GE132.out | refine below_set ?_ GE139.out) | exact HB.out)) hb); clear BK132; clear BK139; clear HB; have BK132 := n0_; have BK139 := n1_; have HB := n2_; clear n0_ n1_ n2_; (try clear hb)))
                        go_meet
                        case rel => exact ⟨_, (t144), (by first | rfl | (simp; done) | (simp [*]; done)), H', ⟨by have := HJ2.out; have := HJ15.out; first | omega | exact Nat.le_refl _⟩, ⟨by (with_reducible repeat (first | refine blk_drewN ?_ _ | refine blk_drew ?_ | refine blk_alloc ?_ _)); exact BK132.out⟩, ⟨by (with_reducible repeat (first | refine blk_drewN ?_ _ | refine blk_drew ?_ | refine blk_alloc ?_ _)); exact BK139.out⟩, ⟨by repeat (first | (with_reducible first | exact HB.out | apply below_alloc | apply pw_below_drewN | apply below_drew1 | refine below_set ?_ GE132.out | refine below_set ?_ GE139.out) | exact HB.out)⟩⟩
                      · rw [if_neg c56] at H
                        have c56b0 : ((decide (a0_1 ≤ 2)) == (t136 == a0_1)) = false := by simpa using c56
                        (try (have c56b1 : decide ((decide (a0_1 ≤ 2)) = (t136 == a0_1)) = false := by simpa using c56))
                        (try (have c56b2 : ((decide (a0_1 ≤ 2)) == (t136 == a0_1)) = false := by simpa using c56))
                        (try (have c56b3 : ¬ ((decide (a0_1 ≤ 2)) = (t136 == a0_1)) := by simpa using c56))
                        clear c56
                        have H' := Aside0.mk H
                        clear H
                        have hnb62 := NB139_132.out
                        have hnc62 := NB132_139.out
                        have hcz63_0 : wc.cell? ⟨gb139, 0, none⟩ = some (.int .i32 t135) := (blk_cell BK139.out 0).trans rfl
                        have hcz63_1 : wc.cell? ⟨gb139, 1, none⟩ = some (.int .i32 t136) := (blk_cell BK139.out 1).trans rfl
                        have hcz63_2 : wc.cell? ⟨gb139, 2, none⟩ = some (.int .u8 t137) := (blk_cell BK139.out 2).trans rfl
                        have hfz63_0 := blk_frozen BK139.out 0
                        have hfz63_1 := blk_frozen BK139.out 1
                        have hfz63_2 := blk_frozen BK139.out 2
                        have hcz64_0 : wc.cell? ⟨gb132, 0, none⟩ = some (.int .i32 a0_0) := (blk_cell BK132.out 0).trans rfl
                        have hcz64_1 : wc.cell? ⟨gb132, 1, none⟩ = some (.int .i32 a0_1) := (blk_cell BK132.out 1).trans rfl
                        have hcz64_2 : wc.cell? ⟨gb132, 2, none⟩ = some (.int .u8 a0_2) := (blk_cell BK132.out 2).trans rfl
                        have hfz64_0 := blk_frozen BK132.out 0
                        have hfz64_1 := blk_frozen BK132.out 1
                        have hfz64_2 := blk_frozen BK132.out 2
                        go_wp2
                        go_meet
                        case rel => exact ⟨_, (false), (by first | rfl | (simp; done) | (simp [*]; done)), H', ⟨by have := HJ2.out; have := HJ15.out; first | omega | exact Nat.le_refl _⟩, ⟨by (with_reducible repeat (first | refine blk_drewN ?_ _ | refine blk_drew ?_ | refine blk_alloc ?_ _)); exact BK132.out⟩, ⟨by (with_reducible repeat (first | refine blk_drewN ?_ _ | refine blk_drew ?_ | refine blk_alloc ?_ _)); exact BK139.out⟩, ⟨by repeat (first | (with_reducible first | exact HB.out | apply below_alloc | apply pw_below_drewN | apply below_drew1 | refine below_set ?_ GE132.out | refine below_set ?_ GE139.out) | exact HB.out)⟩⟩
                    · rw [if_neg c55] at H
                      have c55b0 : decide (t136 ≤ a0_1) = false := decide_eq_false c55
                      clear c55
                      have H' := Aside0.mk H
                      clear H
                      have hnb65 := NB139_132.out
                      have hnc65 := NB132_139.out
                      have hcz66_0 : wc.cell? ⟨gb139, 0, none⟩ = some (.int .i32 t135) := (blk_cell BK139.out 0).trans rfl
                      have hcz66_1 : wc.cell? ⟨gb139, 1, none⟩ = some (.int .i32 t136) := (blk_cell BK139.out 1).trans rfl
                      have hcz66_2 : wc.cell? ⟨gb139, 2, none⟩ = some (.int .u8 t137) := (blk_cell BK139.out 2).trans rfl
                      have hfz66_0 := blk_frozen BK139.out 0
                      have hfz66_1 := blk_frozen BK139.out 1
                      have hfz66_2 := blk_frozen BK139.out 2
                      have hcz67_0 : wc.cell? ⟨gb132, 0, none⟩ = some (.int .i32 a0_0) := (blk_cell BK132.out 0).trans rfl
                      have hcz67_1 : wc.cell? ⟨gb132, 1, none⟩ = some (.int .i32 a0_1) := (blk_cell BK132.out 1).trans rfl
                      have hcz67_2 : wc.cell? ⟨gb132, 2, none⟩ = some (.int .u8 a0_2) := (blk_cell BK132.out 2).trans rfl
                      have hfz67_0 := blk_frozen BK132.out 0
                      have hfz67_1 := blk_frozen BK132.out 1
                      have hfz67_2 := blk_frozen BK132.out 2
                      go_wp2
                      go_meet
                      case rel => exact ⟨_, (false), (by first | rfl | (simp; done) | (simp [*]; done)), H', ⟨by have := HJ2.out; have := HJ15.out; first | omega | exact Nat.le_refl _⟩, ⟨by (with_reducible repeat (first | refine blk_drewN ?_ _ | refine blk_drew ?_ | refine blk_alloc ?_ _)); exact BK132.out⟩, ⟨by (with_reducible repeat (first | refine blk_drewN ?_ _ | refine blk_drew ?_ | refine blk_alloc ?_ _)); exact BK139.out⟩, ⟨by repeat (first | (with_reducible first | exact HB.out | apply below_alloc | apply pw_below_drewN | apply below_drew1 | refine below_set ?_ GE132.out | refine below_set ?_ GE139.out) | exact HB.out)⟩⟩
                  · rw [if_neg c54] at H
                    have c54b0 : (t135 == (ji53)) = false := beq_eq_false_iff_ne.mpr c54
                    have c54b1 : (t135 != (ji53)) = true := bne_iff_ne.mpr c54
                    (first | rw [c54b0] | (simp only [i64_w, i32_w]; rw [c54b0]) | skip)
                    have H' := Aside0.mk H
                    clear H
                    have hnb68 := NB139_132.out
                    have hnc68 := NB132_139.out
                    have hcz69_0 : wc.cell? ⟨gb139, 0, none⟩ = some (.int .i32 t135) := (blk_cell BK139.out 0).trans rfl
                    have hcz69_1 : wc.cell? ⟨gb139, 1, none⟩ = some (.int .i32 t136) := (blk_cell BK139.out 1).trans rfl
                    have hcz69_2 : wc.cell? ⟨gb139, 2, none⟩ = some (.int .u8 t137) := (blk_cell BK139.out 2).trans rfl
                    have hfz69_0 := blk_frozen BK139.out 0
                    have hfz69_1 := blk_frozen BK139.out 1
                    have hfz69_2 := blk_frozen BK139.out 2
                    have hcz70_0 : wc.cell? ⟨gb132, 0, none⟩ = some (.int .i32 a0_0) := (blk_cell BK132.out 0).trans rfl
                    have hcz70_1 : wc.cell? ⟨gb132, 1, none⟩ = some (.int .i32 a0_1) := (blk_cell BK132.out 1).trans rfl
                    have hcz70_2 : wc.cell? ⟨gb132, 2, none⟩ = some (.int .u8 a0_2) := (blk_cell BK132.out 2).trans rfl
                    have hfz70_0 := blk_frozen BK132.out 0
                    have hfz70_1 := blk_frozen BK132.out 1
                    have hfz70_2 := blk_frozen BK132.out 2
                    go_wp2
                    go_meet
                    case rel => exact ⟨_, (false), (by first | rfl | (simp; done) | (simp [*]; done)), H', ⟨by have := HJ2.out; have := HJ15.out; first | omega | exact Nat.le_refl _⟩, ⟨by (with_reducible repeat (first | refine blk_drewN ?_ _ | refine blk_drew ?_ | refine blk_alloc ?_ _)); exact BK132.out⟩, ⟨by (with_reducible repeat (first | refine blk_drewN ?_ _ | refine blk_drew ?_ | refine blk_alloc ?_ _)); exact BK139.out⟩, ⟨by repeat (first | (with_reducible first | exact HB.out | apply below_alloc | apply pw_below_drewN | apply below_drew1 | refine below_set ?_ GE132.out | refine below_set ?_ GE139.out) | exact HB.out)⟩⟩
                case rest =>
                  clear HC52
                  try clear c1
                  try clear c2
                  try clear p2
                  try clear c3
                  try clear p3
                  try clear c4
                  try clear c5
                  try clear c6
                  try clear c6b0
                  try clear c6b1
                  try clear c9
                  try clear c10
                  try clear c11
                  try clear c12
                  try clear c17
                  try clear c20
                  try clear c21
                  try clear c23
                  try clear c23b0
                  try clear c23b1
                  try clear c24
                  try clear c24b0
                  try clear c24b1
                  try clear c26
                  try clear c26b0
                  try clear c26b1
                  try clear c28
                  try clear c28b0
                  try clear c28b1
                  try clear c29
                  try clear c29b0
                  try clear c29b1
                  try clear c30
                  try clear p32
                  try clear c36
                  try clear c42
                  try clear c47
                  try clear c50
                  try clear c51
                  try clear c51b0
                  try clear c51b1
                  try clear c54
                  try clear c54b0
                  try clear c54b1
                  try clear c55
                  try clear c55b0
                  try clear c56
                  try clear c56b0
                  try clear c56b1
                  try clear c56b2
                  try clear c58
                  try clear c62
                  try clear c65
                  try clear c68
                  try clear hcz17_0
                  try clear hcz17_1
                  try clear hcz17_2
                  try clear hcz21_0
                  try clear hcz21_1
                  try clear hcz21_2
                  try clear hcz31_0
                  try clear hcz31_1
                  try clear hcz31_2
                  try clear hcz33_0
                  try clear hcz33_1
                  try clear hcz33_2
                  try clear hcz35_0
                  try clear hcz35_1
                  try clear hcz35_2
                  try clear hcz37_0
                  try clear hcz37_1
                  try clear hcz37_2
                  try clear hcz39_0
                  try clear hcz39_1
                  try clear hcz39_2
                  try clear hcz41_0
                  try clear hcz41_1
                  try clear hcz41_2
                  try clear hcz43_0
                  try clear hcz43_1
                  try clear hcz43_2
                  try clear hcz45_0
                  try clear hcz45_1
                  try clear hcz45_2
                  try clear hcz48_0
                  try clear hcz48_1
                  try clear hcz48_2
                  try clear hcz59_0
                  try clear hcz59_1
                  try clear hcz59_2
                  try clear hcz60_0
                  try clear hcz60_1
                  try clear hcz60_2
                  try clear hcz63_0
                  try clear hcz63_1
                  try clear hcz63_2
                  try clear hcz64_0
                  try clear hcz64_1
                  try clear hcz64_2
                  try clear hcz66_0
                  try clear hcz66_1
                  try clear hcz66_2
                  try clear hcz67_0
                  try clear hcz67_1
                  try clear hcz67_2
                  try clear hcz69_0
                  try clear hcz69_1
                  try clear hcz69_2
                  try clear hcz70_0
                  try clear hcz70_1
                  try clear hcz70_2
                  try clear hcz7_0
                  try clear hcz7_1
                  try clear hcz7_2
                  try clear hcz9_0
                  try clear hcz9_1
                  try clear hcz9_2
                  try clear hfz17_0
                  try clear hfz17_1
                  try clear hfz17_2
                  try clear hfz21_0
                  try clear hfz21_1
                  try clear hfz21_2
                  try clear hfz31_0
                  try clear hfz31_1
                  try clear hfz31_2
                  try clear hfz33_0
                  try clear hfz33_1
                  try clear hfz33_2
                  try clear hfz35_0
                  try clear hfz35_1
                  try clear hfz35_2
                  try clear hfz37_0
                  try clear hfz37_1
                  try clear hfz37_2
                  try clear hfz39_0
                  try clear hfz39_1
                  try clear hfz39_2
                  try clear hfz41_0
                  try clear hfz41_1
                  try clear hfz41_2
                  try clear hfz43_0
                  try clear hfz43_1
                  try clear hfz43_2
                  try clear hfz45_0
                  try clear hfz45_1
                  try clear hfz45_2
                  try clear hfz48_0
                  try clear hfz48_1
                  try clear hfz48_2
                  try clear hfz59_0
                  try clear hfz59_1
                  try clear hfz59_2
                  try clear hfz60_0
                  try clear hfz60_1
                  try clear hfz60_2
                  try clear hfz63_0
                  try clear hfz63_1
                  try clear hfz63_2
                  try clear hfz64_0
                  try clear hfz64_1
                  try clear hfz64_2
                  try clear hfz66_0
                  try clear hfz66_1
                  try clear hfz66_2
                  try clear hfz67_0
                  try clear hfz67_1
                  try clear hfz67_2
                  try clear hfz69_0
                  try clear hfz69_1
                  try clear hfz69_2
                  try clear hfz70_0
                  try clear hfz70_1
                  try clear hfz70_2
                  try clear hfz7_0
                  try clear hfz7_1
                  try clear hfz7_2
                  try clear hfz9_0
                  try clear hfz9_1
                  try clear hfz9_2
                  try clear p2
                  try clear p3
                  try clear p32
                  obtain ⟨kq, x4_51, rfl, HA, HJ51, BK132, BK139, HB⟩ := hcut
                  cases kq with
                  | zero => exact absurd HA.out (by simp [bitloftlaw07_CountsBounds.j2])
                  | succ kj51 =>
                    have H := HA.out
                    clear HA
                    simp only [bitloftlaw07_CountsBounds.j2] at H
                    obtain rfl := Option.some.inj H
                    go_wp2
                    go_ret
                    exact ⟨by first | rfl | (simp [errW_none, errW_some] <;> rfl) | (simp [*, errW_none, errW_some] <;> rfl), by repeat (first | (with_reducible first | exact HB.out | apply below_alloc | apply pw_below_drewN | apply below_drew1 | refine below_set ?_ GE132.out | refine below_set ?_ GE139.out) | exact HB.out)⟩
              · rw [if_neg c51] at H
                have c51b0 : (a1 == 0) = false := beq_eq_false_iff_ne.mpr c51
                have c51b1 : (a1 != 0) = true := bne_iff_ne.mpr c51
                have HC71 := Aside0.mk H
                clear H
                go_upto_region 9 with (fail)
                go_cut [4] (fun v4 wc => ∃ (kq : Nat) (x4_70 : Bool), v4 = .bool x4_70 ∧ Aside0 (bitloftlaw07_CountsBounds.j3 kq x4_70 = some r) ∧ Aside0 (kq ≤ kj15) ∧ Aside0 (wc.heap[gb132]? = some (.cells #[.int .i32 a0_0, .int .i32 a0_1, .int .u8 a0_2] 23 (0, 0))) ∧ Aside0 (wc.heap[gb139]? = some (.cells #[.int .i32 t135, .int .i32 t136, .int .u8 t137] 23 (0, 0))) ∧ Aside0 (Below w.heap.size w wc))
                case first =>
                  have H := HC71.out
                  clear HC71
                  obtain ⟨ji72, hji72⟩ : ∃ j_ : Int, (mn (wrap32 (a0_1 + 1)) 12) = j_ := ⟨_, rfl⟩
                  replace H : (if t136 = (ji72) then (if t135 ≤ a0_0 then (if ((decide (a0_0 ≤ 2)) == (t135 == a0_0)) = true then ((bitloftlaw07_alive.f kj15).bind fun t145 => (bitloftlaw07_CountsBounds.j3 kj15 t145)) else (bitloftlaw07_CountsBounds.j3 kj15 false)) else (bitloftlaw07_CountsBounds.j3 kj15 false)) else (bitloftlaw07_CountsBounds.j3 kj15 false)) = some r := by first | (rw [hji72] at H; exact H) | (simp only [hji72] at H ⊢; exact H)
                  have hji72_ : (if 12 < (wrap32 (a0_1 + 1)) then 12 else (wrap32 (a0_1 + 1))) = ji72 := hji72
                  by_cases c73 : t136 = (ji72)
                  · rw [if_pos c73] at H
                    have c73b0 : (t136 == (ji72)) = true := beq_iff_eq.mpr c73
                    have c73b1 : (t136 != (ji72)) = false := bne_eq_false_iff_eq.mpr c73
                    clear c73
                    (first | rw [c73b0] | (simp only [i64_w, i32_w]; rw [c73b0]) | skip)
                    by_cases c74 : t135 ≤ a0_0
                    · rw [if_pos c74] at H
                      have c74b0 : decide (t135 ≤ a0_0) = true := decide_eq_true c74
                      clear c74
                      by_cases c75 : ((decide (a0_0 ≤ 2)) == (t135 == a0_0)) = true
                      · rw [if_pos c75] at H
                        have c75b0 : ((decide (a0_0 ≤ 2)) == (t135 == a0_0)) = true := c75
                        (try (have c75b1 : decide ((decide (a0_0 ≤ 2)) = (t135 == a0_0)) = true := by simpa using c75))
                        (try (have c75b2 : ((decide (a0_0 ≤ 2)) == (t135 == a0_0)) = true := by simpa using c75))
                        clear c75
                        replace H := Option.bind_eq_some_iff.mp H
                        obtain ⟨t145, A760, H⟩ := H
                        replace H : (bitloftlaw07_CountsBounds.j3 kj15 t145) = some r := H
                        have A76 := Aside0.mk A760
                        clear A760
                        have H' := Aside0.mk H
                        clear H
                        have hnb77 := NB139_132.out
                        have hnc77 := NB132_139.out
                        have hcz78_0 : wc.cell? ⟨gb139, 0, none⟩ = some (.int .i32 t135) := (blk_cell BK139.out 0).trans rfl
                        have hcz78_1 : wc.cell? ⟨gb139, 1, none⟩ = some (.int .i32 t136) := (blk_cell BK139.out 1).trans rfl
                        have hcz78_2 : wc.cell? ⟨gb139, 2, none⟩ = some (.int .u8 t137) := (blk_cell BK139.out 2).trans rfl
                        have hfz78_0 := blk_frozen BK139.out 0
                        have hfz78_1 := blk_frozen BK139.out 1
                        have hfz78_2 := blk_frozen BK139.out 2
                        have hcz79_0 : wc.cell? ⟨gb132, 0, none⟩ = some (.int .i32 a0_0) := (blk_cell BK132.out 0).trans rfl
                        have hcz79_1 : wc.cell? ⟨gb132, 1, none⟩ = some (.int .i32 a0_1) := (blk_cell BK132.out 1).trans rfl
                        have hcz79_2 : wc.cell? ⟨gb132, 2, none⟩ = some (.int .u8 a0_2) := (blk_cell BK132.out 2).trans rfl
                        have hfz79_0 := blk_frozen BK132.out 0
                        have hfz79_1 := blk_frozen BK132.out 1
                        have hfz79_2 := blk_frozen BK132.out 2
                        go_wp2_with (first | (go_at_call 21; (with_reducible refine (bitloftlaw07_alive.calls kj15  t145 _ A76.out).mono ?_); rintro e w80 ⟨rfl, hb⟩; have n0_ := Aside0.mk (blk_below (g := gb132) (o := .cells #[.int .i32 a0_0, .int .i32 a0_1, .int .u8 a0_2] 23 (0, 0)) (by (with_reducible repeat (first | refine blk_drewN ?_ _ | refine blk_drew ?_ | refine blk_alloc ?_ _)); exact BK132.out) hb); have n1_ := Aside0.mk (blk_below (g := gb139) (o := .cells #[.int .i32 t135, .int .i32 t136, .int .u8 t137] 23 (0, 0)) (by (with_reducible repeat (first | refine blk_drewN ?_ _ | refine blk_drew ?_ | refine blk_alloc ?_ _)); exact BK139.out) hb); have n2_ := Aside0.mk (below_step (by repeat (first | (with_reducible first | exact HB.out | apply below_alloc | apply pw_below_drewN | apply below_drew1 | refine below_set ?_ GE132.out | refine below_set ?_ GE139.out) | exact HB.out)) hb); clear BK132; clear BK139; clear HB; have BK132 := n0_; have BK139 := n1_; have HB := n2_; clear n0_ n1_ n2_; (try clear hb)))
                        go_meet
                        case rel => exact ⟨_, (t145), (by first | rfl | (simp; done) | (simp [*]; done)), H', ⟨by have := HJ2.out; have := HJ15.out; first | omega | exact Nat.le_refl _⟩, ⟨by (with_reducible repeat (first | refine blk_drewN ?_ _ | refine blk_drew ?_ | refine blk_alloc ?_ _)); exact BK132.out⟩, ⟨by (with_reducible repeat (first | refine blk_drewN ?_ _ | refine blk_drew ?_ | refine blk_alloc ?_ _)); exact BK139.out⟩, ⟨by repeat (first | (with_reducible first | exact HB.out | apply below_alloc | apply pw_below_drewN | apply below_drew1 | refine below_set ?_ GE132.out | refine below_set ?_ GE139.out) | exact HB.out)⟩⟩
                      · rw [if_neg c75] at H
                        have c75b0 : ((decide (a0_0 ≤ 2)) == (t135 == a0_0)) = false := by simpa using c75
                        (try (have c75b1 : decide ((decide (a0_0 ≤ 2)) = (t135 == a0_0)) = false := by simpa using c75))
                        (try (have c75b2 : ((decide (a0_0 ≤ 2)) == (t135 == a0_0)) = false := by simpa using c75))
                        (try (have c75b3 : ¬ ((decide (a0_0 ≤ 2)) = (t135 == a0_0)) := by simpa using c75))
                        clear c75
                        have H' := Aside0.mk H
                        clear H
                        have hnb81 := NB139_132.out
                        have hnc81 := NB132_139.out
                        have hcz82_0 : wc.cell? ⟨gb139, 0, none⟩ = some (.int .i32 t135) := (blk_cell BK139.out 0).trans rfl
                        have hcz82_1 : wc.cell? ⟨gb139, 1, none⟩ = some (.int .i32 t136) := (blk_cell BK139.out 1).trans rfl
                        have hcz82_2 : wc.cell? ⟨gb139, 2, none⟩ = some (.int .u8 t137) := (blk_cell BK139.out 2).trans rfl
                        have hfz82_0 := blk_frozen BK139.out 0
                        have hfz82_1 := blk_frozen BK139.out 1
                        have hfz82_2 := blk_frozen BK139.out 2
                        have hcz83_0 : wc.cell? ⟨gb132, 0, none⟩ = some (.int .i32 a0_0) := (blk_cell BK132.out 0).trans rfl
                        have hcz83_1 : wc.cell? ⟨gb132, 1, none⟩ = some (.int .i32 a0_1) := (blk_cell BK132.out 1).trans rfl
                        have hcz83_2 : wc.cell? ⟨gb132, 2, none⟩ = some (.int .u8 a0_2) := (blk_cell BK132.out 2).trans rfl
                        have hfz83_0 := blk_frozen BK132.out 0
                        have hfz83_1 := blk_frozen BK132.out 1
                        have hfz83_2 := blk_frozen BK132.out 2
                        go_wp2
                        go_meet
                        case rel => exact ⟨_, (false), (by first | rfl | (simp; done) | (simp [*]; done)), H', ⟨by have := HJ2.out; have := HJ15.out; first | omega | exact Nat.le_refl _⟩, ⟨by (with_reducible repeat (first | refine blk_drewN ?_ _ | refine blk_drew ?_ | refine blk_alloc ?_ _)); exact BK132.out⟩, ⟨by (with_reducible repeat (first | refine blk_drewN ?_ _ | refine blk_drew ?_ | refine blk_alloc ?_ _)); exact BK139.out⟩, ⟨by repeat (first | (with_reducible first | exact HB.out | apply below_alloc | apply pw_below_drewN | apply below_drew1 | refine below_set ?_ GE132.out | refine below_set ?_ GE139.out) | exact HB.out)⟩⟩
                    · rw [if_neg c74] at H
                      have c74b0 : decide (t135 ≤ a0_0) = false := decide_eq_false c74
                      clear c74
                      have H' := Aside0.mk H
                      clear H
                      have hnb84 := NB139_132.out
                      have hnc84 := NB132_139.out
                      have hcz85_0 : wc.cell? ⟨gb139, 0, none⟩ = some (.int .i32 t135) := (blk_cell BK139.out 0).trans rfl
                      have hcz85_1 : wc.cell? ⟨gb139, 1, none⟩ = some (.int .i32 t136) := (blk_cell BK139.out 1).trans rfl
                      have hcz85_2 : wc.cell? ⟨gb139, 2, none⟩ = some (.int .u8 t137) := (blk_cell BK139.out 2).trans rfl
                      have hfz85_0 := blk_frozen BK139.out 0
                      have hfz85_1 := blk_frozen BK139.out 1
                      have hfz85_2 := blk_frozen BK139.out 2
                      have hcz86_0 : wc.cell? ⟨gb132, 0, none⟩ = some (.int .i32 a0_0) := (blk_cell BK132.out 0).trans rfl
                      have hcz86_1 : wc.cell? ⟨gb132, 1, none⟩ = some (.int .i32 a0_1) := (blk_cell BK132.out 1).trans rfl
                      have hcz86_2 : wc.cell? ⟨gb132, 2, none⟩ = some (.int .u8 a0_2) := (blk_cell BK132.out 2).trans rfl
                      have hfz86_0 := blk_frozen BK132.out 0
                      have hfz86_1 := blk_frozen BK132.out 1
                      have hfz86_2 := blk_frozen BK132.out 2
                      go_wp2
                      go_meet
                      case rel => exact ⟨_, (false), (by first | rfl | (simp; done) | (simp [*]; done)), H', ⟨by have := HJ2.out; have := HJ15.out; first | omega | exact Nat.le_refl _⟩, ⟨by (with_reducible repeat (first | refine blk_drewN ?_ _ | refine blk_drew ?_ | refine blk_alloc ?_ _)); exact BK132.out⟩, ⟨by (with_reducible repeat (first | refine blk_drewN ?_ _ | refine blk_drew ?_ | refine blk_alloc ?_ _)); exact BK139.out⟩, ⟨by repeat (first | (with_reducible first | exact HB.out | apply below_alloc | apply pw_below_drewN | apply below_drew1 | refine below_set ?_ GE132.out | refine below_set ?_ GE139.out) | exact HB.out)⟩⟩
                  · rw [if_neg c73] at H
                    have c73b0 : (t136 == (ji72)) = false := beq_eq_false_iff_ne.mpr c73
                    have c73b1 : (t136 != (ji72)) = true := bne_iff_ne.mpr c73
                    (first | rw [c73b0] | (simp only [i64_w, i32_w]; rw [c73b0]) | skip)
                    have H' := Aside0.mk H
                    clear H
                    have hnb87 := NB139_132.out
                    have hnc87 := NB132_139.out
                    have hcz88_0 : wc.cell? ⟨gb139, 0, none⟩ = some (.int .i32 t135) := (blk_cell BK139.out 0).trans rfl
                    have hcz88_1 : wc.cell? ⟨gb139, 1, none⟩ = some (.int .i32 t136) := (blk_cell BK139.out 1).trans rfl
                    have hcz88_2 : wc.cell? ⟨gb139, 2, none⟩ = some (.int .u8 t137) := (blk_cell BK139.out 2).trans rfl
                    have hfz88_0 := blk_frozen BK139.out 0
                    have hfz88_1 := blk_frozen BK139.out 1
                    have hfz88_2 := blk_frozen BK139.out 2
                    have hcz89_0 : wc.cell? ⟨gb132, 0, none⟩ = some (.int .i32 a0_0) := (blk_cell BK132.out 0).trans rfl
                    have hcz89_1 : wc.cell? ⟨gb132, 1, none⟩ = some (.int .i32 a0_1) := (blk_cell BK132.out 1).trans rfl
                    have hcz89_2 : wc.cell? ⟨gb132, 2, none⟩ = some (.int .u8 a0_2) := (blk_cell BK132.out 2).trans rfl
                    have hfz89_0 := blk_frozen BK132.out 0
                    have hfz89_1 := blk_frozen BK132.out 1
                    have hfz89_2 := blk_frozen BK132.out 2
                    go_wp2
                    go_meet
                    case rel => exact ⟨_, (false), (by first | rfl | (simp; done) | (simp [*]; done)), H', ⟨by have := HJ2.out; have := HJ15.out; first | omega | exact Nat.le_refl _⟩, ⟨by (with_reducible repeat (first | refine blk_drewN ?_ _ | refine blk_drew ?_ | refine blk_alloc ?_ _)); exact BK132.out⟩, ⟨by (with_reducible repeat (first | refine blk_drewN ?_ _ | refine blk_drew ?_ | refine blk_alloc ?_ _)); exact BK139.out⟩, ⟨by repeat (first | (with_reducible first | exact HB.out | apply below_alloc | apply pw_below_drewN | apply below_drew1 | refine below_set ?_ GE132.out | refine below_set ?_ GE139.out) | exact HB.out)⟩⟩
                case rest =>
                  clear HC71
                  try clear c1
                  try clear c2
                  try clear p2
                  try clear c3
                  try clear p3
                  try clear c4
                  try clear c5
                  try clear c6
                  try clear c6b0
                  try clear c6b1
                  try clear c7
                  try clear c8
                  try clear c9
                  try clear c10
                  try clear c11
                  try clear c12
                  try clear c17
                  try clear c20
                  try clear c21
                  try clear c23
                  try clear c23b0
                  try clear c23b1
                  try clear c24
                  try clear c24b0
                  try clear c24b1
                  try clear c26
                  try clear c26b0
                  try clear c26b1
                  try clear c28
                  try clear c28b0
                  try clear c28b1
                  try clear c29
                  try clear c29b0
                  try clear c29b1
                  try clear c30
                  try clear p32
                  try clear c36
                  try clear c42
                  try clear c47
                  try clear c50
                  try clear c51
                  try clear c51b0
                  try clear c51b1
                  try clear c54
                  try clear c54b0
                  try clear c54b1
                  try clear c55
                  try clear c55b0
                  try clear c56
                  try clear c56b0
                  try clear c56b1
                  try clear c56b2
                  try clear c58
                  try clear c62
                  try clear c65
                  try clear c68
                  try clear c73
                  try clear c73b0
                  try clear c73b1
                  try clear c74
                  try clear c74b0
                  try clear c75
                  try clear c75b0
                  try clear c75b1
                  try clear c75b2
                  try clear c77
                  try clear c81
                  try clear c84
                  try clear c87
                  try clear hcz17_0
                  try clear hcz17_1
                  try clear hcz17_2
                  try clear hcz21_0
                  try clear hcz21_1
                  try clear hcz21_2
                  try clear hcz31_0
                  try clear hcz31_1
                  try clear hcz31_2
                  try clear hcz33_0
                  try clear hcz33_1
                  try clear hcz33_2
                  try clear hcz35_0
                  try clear hcz35_1
                  try clear hcz35_2
                  try clear hcz37_0
                  try clear hcz37_1
                  try clear hcz37_2
                  try clear hcz39_0
                  try clear hcz39_1
                  try clear hcz39_2
                  try clear hcz41_0
                  try clear hcz41_1
                  try clear hcz41_2
                  try clear hcz43_0
                  try clear hcz43_1
                  try clear hcz43_2
                  try clear hcz45_0
                  try clear hcz45_1
                  try clear hcz45_2
                  try clear hcz48_0
                  try clear hcz48_1
                  try clear hcz48_2
                  try clear hcz59_0
                  try clear hcz59_1
                  try clear hcz59_2
                  try clear hcz60_0
                  try clear hcz60_1
                  try clear hcz60_2
                  try clear hcz63_0
                  try clear hcz63_1
                  try clear hcz63_2
                  try clear hcz64_0
                  try clear hcz64_1
                  try clear hcz64_2
                  try clear hcz66_0
                  try clear hcz66_1
                  try clear hcz66_2
                  try clear hcz67_0
                  try clear hcz67_1
                  try clear hcz67_2
                  try clear hcz69_0
                  try clear hcz69_1
                  try clear hcz69_2
                  try clear hcz70_0
                  try clear hcz70_1
                  try clear hcz70_2
                  try clear hcz78_0
                  try clear hcz78_1
                  try clear hcz78_2
                  try clear hcz79_0
                  try clear hcz79_1
                  try clear hcz79_2
                  try clear hcz7_0
                  try clear hcz7_1
                  try clear hcz7_2
                  try clear hcz82_0
                  try clear hcz82_1
                  try clear hcz82_2
                  try clear hcz83_0
                  try clear hcz83_1
                  try clear hcz83_2
                  try clear hcz85_0
                  try clear hcz85_1
                  try clear hcz85_2
                  try clear hcz86_0
                  try clear hcz86_1
                  try clear hcz86_2
                  try clear hcz88_0
                  try clear hcz88_1
                  try clear hcz88_2
                  try clear hcz89_0
                  try clear hcz89_1
                  try clear hcz89_2
                  try clear hcz9_0
                  try clear hcz9_1
                  try clear hcz9_2
                  try clear hfz17_0
                  try clear hfz17_1
                  try clear hfz17_2
                  try clear hfz21_0
                  try clear hfz21_1
                  try clear hfz21_2
                  try clear hfz31_0
                  try clear hfz31_1
                  try clear hfz31_2
                  try clear hfz33_0
                  try clear hfz33_1
                  try clear hfz33_2
                  try clear hfz35_0
                  try clear hfz35_1
                  try clear hfz35_2
                  try clear hfz37_0
                  try clear hfz37_1
                  try clear hfz37_2
                  try clear hfz39_0
                  try clear hfz39_1
                  try clear hfz39_2
                  try clear hfz41_0
                  try clear hfz41_1
                  try clear hfz41_2
                  try clear hfz43_0
                  try clear hfz43_1
                  try clear hfz43_2
                  try clear hfz45_0
                  try clear hfz45_1
                  try clear hfz45_2
                  try clear hfz48_0
                  try clear hfz48_1
                  try clear hfz48_2
                  try clear hfz59_0
                  try clear hfz59_1
                  try clear hfz59_2
                  try clear hfz60_0
                  try clear hfz60_1
                  try clear hfz60_2
                  try clear hfz63_0
                  try clear hfz63_1
                  try clear hfz63_2
                  try clear hfz64_0
                  try clear hfz64_1
                  try clear hfz64_2
                  try clear hfz66_0
                  try clear hfz66_1
                  try clear hfz66_2
                  try clear hfz67_0
                  try clear hfz67_1
                  try clear hfz67_2
                  try clear hfz69_0
                  try clear hfz69_1
                  try clear hfz69_2
                  try clear hfz70_0
                  try clear hfz70_1
                  try clear hfz70_2
                  try clear hfz78_0
                  try clear hfz78_1
                  try clear hfz78_2
                  try clear hfz79_0
                  try clear hfz79_1
                  try clear hfz79_2
                  try clear hfz7_0
                  try clear hfz7_1
                  try clear hfz7_2
                  try clear hfz82_0
                  try clear hfz82_1
                  try clear hfz82_2
                  try clear hfz83_0
                  try clear hfz83_1
                  try clear hfz83_2
                  try clear hfz85_0
                  try clear hfz85_1
                  try clear hfz85_2
                  try clear hfz86_0
                  try clear hfz86_1
                  try clear hfz86_2
                  try clear hfz88_0
                  try clear hfz88_1
                  try clear hfz88_2
                  try clear hfz89_0
                  try clear hfz89_1
                  try clear hfz89_2
                  try clear hfz9_0
                  try clear hfz9_1
                  try clear hfz9_2
                  try clear p2
                  try clear p3
                  try clear p32
                  obtain ⟨kq, x4_70, rfl, HA, HJ70, BK132, BK139, HB⟩ := hcut
                  cases kq with
                  | zero => exact absurd HA.out (by simp [bitloftlaw07_CountsBounds.j3])
                  | succ kj70 =>
                    have H := HA.out
                    clear HA
                    simp only [bitloftlaw07_CountsBounds.j3] at H
                    obtain rfl := Option.some.inj H
                    go_wp2
                    go_ret
                    exact ⟨by first | rfl | (simp [errW_none, errW_some] <;> rfl) | (simp [*, errW_none, errW_some] <;> rfl), by repeat (first | (with_reducible first | exact HB.out | apply below_alloc | apply pw_below_drewN | apply below_drew1 | refine below_set ?_ GE132.out | refine below_set ?_ GE139.out) | exact HB.out)⟩

/-- The one plain statement of bitloftlaw07_CountsBounds. -/
def bitloftlaw07_CountsBounds.Pure : Prop := ∀ (a0_0 : Int) (a0_1 : Int) (a0_2 : Int) (a1 : Int), (Lit.int .i32 a0_0).wf = true → (Lit.int .i32 a0_1).wf = true → (Lit.int .u8 a0_2).wf = true → (Lit.int .u8 a1).wf = true → ∃ k, bitloftlaw07_CountsBounds.f k a0_0 a0_1 a0_2 a1 = some true

end Go.Proofs.Ytpcjjggeipkehaa.XCountsBounds
