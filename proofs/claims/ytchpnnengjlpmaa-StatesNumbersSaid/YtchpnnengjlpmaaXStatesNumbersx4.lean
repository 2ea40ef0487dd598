-- Laid by a program of this session (wip/mkxprint.py, over the kit's print): Lean checks it.
import Derived.Test.YtchpnnengjlpmaaXStatesNumbersx0
import Derived.Test.YtchpnnengjlpmaaXStatesNumbersx1
import Derived.Test.YtchpnnengjlpmaaXStatesNumbersx2
import Derived.Test.YtchpnnengjlpmaaXStatesNumbersx3
namespace Go.Proofs.Ytchpnnengjlpmaa.XStatesNumbers
open List (setIfInBounds_toArray set_cons_zero set_cons_succ)
open Go.RowKit Go.Proofs.YtchpnnengjlpmaaW.PrintWords Go.Proofs.YtchpnnengjlpmaaW.PrintLast Go.Proofs.YtchpnnengjlpmaaW.PrintMore
attribute [local go_sem] max2_int min2_int max_two min_two max_three min_three max_four min_four   -- for this text's walks alone
set_option linter.unusedVariables false
set_option linter.unusedSimpArgs false

attribute [local go_sem high] eqA30
/-! ### bitloftlaw08_StatesNumbers: function 4 -/
mutual
def bitloftlaw08_StatesNumbers.j0 : Nat → Int → Int → Int → Int → Bool → Int → Int → Int → Int → Int → Int → Option (Bool)
  | 0, _, _, _, _, _, _, _, _, _, _, _ => none
  | k + 1, x5, x6, x7, x8, x34, x136000, x136001, x136002, x137000, x137001, x137002 => if x34 = true then (some false) else (if x6 = 0 then (bitloftlaw08_StatesNumbers.j1 k x5 x7 (x8 != 0) x136000 x136001 x136002 x137000 x137001 x137002) else (bitloftlaw08_StatesNumbers.j1 k x5 x7 true x136000 x136001 x136002 x137000 x137001 x137002))
def bitloftlaw08_StatesNumbers.j1 : Nat → Int → Int → Bool → Int → Int → Int → Int → Int → Int → Option (Bool)
  | 0, _, _, _, _, _, _, _, _, _ => none
  | k + 1, x5, x7, x40, x136000, x136001, x136002, x137000, x137001, x137002 => if x40 = true then ((bitloftlaw08_alive.f k).bind fun t143 => (some t143)) else ((states_Count.f x5).bind fun bt144 => (if bt144.2.2.2 = 0 then (if (bt144.1 == x136000 && (bt144.2.1 == x136001 && (bt144.2.2.1 == x136002))) = true then (if ((x5 == x7) == (x136000 == x137000 && (x136001 == x137001 && (x136002 == x137002)))) = true then ((states_Size.f).bind fun t149 => (if (wrap64 (x5)) < t149 then ((bitloftlaw08_alive.f k).bind fun t150 => (bitloftlaw08_StatesNumbers.j2 k t150)) else (bitloftlaw08_StatesNumbers.j2 k false))) else (bitloftlaw08_StatesNumbers.j2 k false)) else (bitloftlaw08_StatesNumbers.j2 k false)) else (bitloftlaw08_StatesNumbers.j2 k false)))
def bitloftlaw08_StatesNumbers.j2 : Nat → Bool → Option (Bool)
  | 0, _ => none
  | k + 1, x4 => some x4
end
def bitloftlaw08_StatesNumbers.f (k : Nat) (a0_0 : Int) (a0_1 : Int) (a0_2 : Int) (a1_0 : Int) (a1_1 : Int) (a1_2 : Int) : Option (Bool) := (states_Number.f a0_0 a0_1 a0_2).bind fun bt137 => ((states_Number.f a1_0 a1_1 a1_2).bind fun bt139 => ((bitloftref07_Check.f k a0_0 a0_1 a0_2).bind fun t141 => (if ((bt137.2 == 0) != (t141 == 0)) = true then (bitloftlaw08_StatesNumbers.j0 k bt137.1 bt137.2 bt139.1 bt139.2 true a0_0 a0_1 a0_2 a1_0 a1_1 a1_2) else ((bitloftref07_Check.f k a1_0 a1_1 a1_2).bind fun t142 => (bitloftlaw08_StatesNumbers.j0 k bt137.1 bt137.2 bt139.1 bt139.2 ((bt139.2 == 0) != (t142 == 0)) a0_0 a0_1 a0_2 a1_0 a1_1 a1_2)))))
theorem bitloftlaw08_StatesNumbers.mono_l : ∀ k, (∀ y0 y1 y2 y3 y4 y5 y6 y7 y8 y9 y10, LeO (bitloftlaw08_StatesNumbers.j0 k y0 y1 y2 y3 y4 y5 y6 y7 y8 y9 y10) (bitloftlaw08_StatesNumbers.j0 (k + 1) y0 y1 y2 y3 y4 y5 y6 y7 y8 y9 y10)) ∧ (∀ y0 y1 y2 y3 y4 y5 y6 y7 y8, LeO (bitloftlaw08_StatesNumbers.j1 k y0 y1 y2 y3 y4 y5 y6 y7 y8) (bitloftlaw08_StatesNumbers.j1 (k + 1) y0 y1 y2 y3 y4 y5 y6 y7 y8)) ∧ (∀ y0, LeO (bitloftlaw08_StatesNumbers.j2 k y0) (bitloftlaw08_StatesNumbers.j2 (k + 1) y0))
  | 0 => ⟨fun _ _ _ _ _ _ _ _ _ _ _ r h => by simp [bitloftlaw08_StatesNumbers.j0] at h, fun _ _ _ _ _ _ _ _ _ r h => by simp [bitloftlaw08_StatesNumbers.j1] at h, fun _ r h => by simp [bitloftlaw08_StatesNumbers.j2] at h⟩
  | k + 1 => by
    obtain ⟨ih0, ih1, ih2⟩ := bitloftlaw08_StatesNumbers.mono_l k
    refine ⟨?_, ?_, ?_⟩
    · intro y0 y1 y2 y3 y4 y5 y6 y7 y8 y9 y10
      unfold bitloftlaw08_StatesNumbers.j0
      repeat' first
      | (with_reducible exact ih0 _ _ _ _ _ _ _ _ _ _ _)
      | (with_reducible exact ih1 _ _ _ _ _ _ _ _ _)
      | (with_reducible exact ih2 _)
      | (with_reducible exact bitloftlaw08_alive.mono _)
      | (with_reducible exact bitloftref07_Check.mono _ _ _ _)
      | (with_reducible exact LeO.refl _)
      | (with_reducible exact LeO.none _)
      | (with_reducible refine LeO.ite ?_ ?_)
      | (with_reducible refine LeO.bind ?_ (fun _ => ?_))
      | exact ih0 _ _ _ _ _ _ _ _ _ _ _
      | exact ih1 _ _ _ _ _ _ _ _ _
      | exact ih2 _
      | exact bitloftlaw08_alive.mono _
      | exact bitloftref07_Check.mono _ _ _ _
      | exact LeO.none _
      | refine LeO.ite ?_ ?_
      | refine LeO.bind ?_ (fun _ => ?_)
    · intro y0 y1 y2 y3 y4 y5 y6 y7 y8
      unfold bitloftlaw08_StatesNumbers.j1
      repeat' first
      | (with_reducible exact ih0 _ _ _ _ _ _ _ _ _ _ _)
      | (with_reducible exact ih1 _ _ _ _ _ _ _ _ _)
      | (with_reducible exact ih2 _)
      | (with_reducible exact bitloftlaw08_alive.mono _)
      | (with_reducible exact bitloftref07_Check.mono _ _ _ _)
      | (with_reducible exact LeO.refl _)
      | (with_reducible exact LeO.none _)
      | (with_reducible refine LeO.ite ?_ ?_)
      | (with_reducible refine LeO.bind ?_ (fun _ => ?_))
      | exact ih0 _ _ _ _ _ _ _ _ _ _ _
      | exact ih1 _ _ _ _ _ _ _ _ _
      | exact ih2 _
      | exact bitloftlaw08_alive.mono _
      | exact bitloftref07_Check.mono _ _ _ _
      | exact LeO.none _
      | refine LeO.ite ?_ ?_
      | refine LeO.bind ?_ (fun _ => ?_)
    · intro y0
      unfold bitloftlaw08_StatesNumbers.j2
      repeat' first
      | (with_reducible exact ih0 _ _ _ _ _ _ _ _ _ _ _)
      | (with_reducible exact ih1 _ _ _ _ _ _ _ _ _)
      | (with_reducible exact ih2 _)
      | (with_reducible exact bitloftlaw08_alive.mono _)
      | (with_reducible exact bitloftref07_Check.mono _ _ _ _)
      | (with_reducible exact LeO.refl _)
      | (with_reducible exact LeO.none _)
      | (with_reducible refine LeO.ite ?_ ?_)
      | (with_reducible refine LeO.bind ?_ (fun _ => ?_))
      | exact ih0 _ _ _ _ _ _ _ _ _ _ _
      | exact ih1 _ _ _ _ _ _ _ _ _
      | exact ih2 _
      | exact bitloftlaw08_alive.mono _
      | exact bitloftref07_Check.mono _ _ _ _
      | exact LeO.none _
      | refine LeO.ite ?_ ?_
      | refine LeO.bind ?_ (fun _ => ?_)
theorem bitloftlaw08_StatesNumbers.mono : ∀ a0 a1 a2 a3 a4 a5 k, LeO (bitloftlaw08_StatesNumbers.f k a0 a1 a2 a3 a4 a5) (bitloftlaw08_StatesNumbers.f (k + 1) a0 a1 a2 a3 a4 a5) := by
  intro a0 a1 a2 a3 a4 a5 k
  obtain ⟨ih0, ih1, ih2⟩ := bitloftlaw08_StatesNumbers.mono_l k
  unfold bitloftlaw08_StatesNumbers.f
  repeat' first
      | (with_reducible exact ih0 _ _ _ _ _ _ _ _ _ _ _)
      | (with_reducible exact ih1 _ _ _ _ _ _ _ _ _)
      | (with_reducible exact ih2 _)
      | (with_reducible exact bitloftlaw08_alive.mono _)
      | (with_reducible exact bitloftref07_Check.mono _ _ _ _)
      | (with_reducible exact LeO.refl _)
      | (with_reducible exact LeO.none _)
      | (with_reducible refine LeO.ite ?_ ?_)
      | (with_reducible refine LeO.bind ?_ (fun _ => ?_))
      | exact ih0 _ _ _ _ _ _ _ _ _ _ _
      | exact ih1 _ _ _ _ _ _ _ _ _
      | exact ih2 _
      | exact bitloftlaw08_alive.mono _
      | exact bitloftref07_Check.mono _ _ _ _
      | exact LeO.none _
      | refine LeO.ite ?_ ?_
      | refine LeO.bind ?_ (fun _ => ?_)
set_option maxHeartbeats 8000000 in
set_option maxRecDepth 100000 in
theorem bitloftlaw08_StatesNumbers.calls (k : Nat) (a0_0 : Int) (a0_1 : Int) (a0_2 : Int) (a1_0 : Int) (a1_1 : Int) (a1_2 : Int) (r : Bool) (w : World) (h : bitloftlaw08_StatesNumbers.f k a0_0 a0_1 a0_2 a1_0 a1_1 a1_2 = some r) :
    Calls Try.prog 4 #[.agg #[.int .i32 a0_0, .int .i32 a0_1, .int .u8 a0_2], .agg #[.int .i32 a1_0, .int .i32 a1_1, .int .u8 a1_2]] w fun e w' => e = .returned (.bool r) ∧ Below w.heap.size w w' := by
  have hu30 := Try.underlying30
  have HB := Aside0.mk (Below.refl w.heap.size w)
  have H : ((states_Number.f a0_0 a0_1 a0_2).bind fun bt137 => ((states_Number.f a1_0 a1_1 a1_2).bind fun bt139 => ((bitloftref07_Check.f k a0_0 a0_1 a0_2).bind fun t141 => (if ((bt137.2 == 0) != (t141 == 0)) = true then (bitloftlaw08_StatesNumbers.j0 k bt137.1 bt137.2 bt139.1 bt139.2 true a0_0 a0_1 a0_2 a1_0 a1_1 a1_2) else ((bitloftref07_Check.f k a1_0 a1_1 a1_2).bind fun t142 => (bitloftlaw08_StatesNumbers.j0 k bt137.1 bt137.2 bt139.1 bt139.2 ((bt139.2 == 0) != (t142 == 0)) a0_0 a0_1 a0_2 a1_0 a1_1 a1_2)))))) = some r := h
  clear h
  replace H := Option.bind_eq_some_iff.mp H
  obtain ⟨⟨t137, t138⟩, A30, H⟩ := H
  replace H : ((states_Number.f a1_0 a1_1 a1_2).bind fun bt139 => ((bitloftref07_Check.f k a0_0 a0_1 a0_2).bind fun t141 => (if ((t138 == 0) != (t141 == 0)) = true then (bitloftlaw08_StatesNumbers.j0 k t137 t138 bt139.1 bt139.2 true a0_0 a0_1 a0_2 a1_0 a1_1 a1_2) else ((bitloftref07_Check.f k a1_0 a1_1 a1_2).bind fun t142 => (bitloftlaw08_StatesNumbers.j0 k t137 t138 bt139.1 bt139.2 ((bt139.2 == 0) != (t142 == 0)) a0_0 a0_1 a0_2 a1_0 a1_1 a1_2))))) = some r := H
  have A3 := Aside0.mk A30
  clear A30
  replace H := Option.bind_eq_some_iff.mp H
  obtain ⟨⟨t139, t140⟩, A40, H⟩ := H
  replace H : ((bitloftref07_Check.f k a0_0 a0_1 a0_2).bind fun t141 => (if ((t138 == 0) != (t141 == 0)) = true then (bitloftlaw08_StatesNumbers.j0 k t137 t138 t139 t140 true a0_0 a0_1 a0_2 a1_0 a1_1 a1_2) else ((bitloftref07_Check.f k a1_0 a1_1 a1_2).bind fun t142 => (bitloftlaw08_StatesNumbers.j0 k t137 t138 t139 t140 ((t140 == 0) != (t142 == 0)) a0_0 a0_1 a0_2 a1_0 a1_1 a1_2)))) = some r := H
  have A4 := Aside0.mk A40
  clear A40
  have HC5 := Aside0.mk H
  clear H
  go_enter Try.func4, Try.ntmps4
  go_upto_region 3 with (first | ((with_reducible refine gate_dst (N := 2) rfl ?_); refine box_event ?hg (N := 2) ?hd (cs := #[.int .i32 a0_0, .int .i32 a0_1, .int .u8 a0_2]) (t := 30) ?hr ?_; (case hd => rfl); (case hg => rfl); (case hr => first | (go_simp; done) | (go_simp; rfl)); intro gb135 hg w6 hbox hb; have n0_ := Aside0.mk (below_step (by repeat (first | (with_reducible first | exact HB.out | apply below_alloc | apply bN_ | apply below_drew1) | exact HB.out)) hb); have n1_ := Aside0.mk (hbox); have n2_ := Aside0.mk ((by rw [hg]; exact (below_size (by repeat (first | (with_reducible first | exact HB.out | apply below_alloc | apply bN_ | apply below_drew1) | exact HB.out))) : w.heap.size ≤ gb135)); have n3_ := Aside0.mk ((by rw [hg]; exact (below_size (by repeat (first | (with_reducible first | exact HB.out | apply below_alloc | apply bN_ | apply below_drew1) | exact HB.out))) : w.heap.size ≤ gb135)); clear HB; have HB := n0_; have BK135 := n1_; have GW135 := n2_; have GE135 := n3_; clear n0_ n1_ n2_ n3_; clear hb hbox hg) | ((with_reducible refine gate_dst (N := 3) rfl ?_); refine box_event ?hg (N := 3) ?hd (cs := #[.int .i32 a1_0, .int .i32 a1_1, .int .u8 a1_2]) (t := 30) ?hr ?_; (case hd => rfl); (case hg => rfl); (case hr => first | (go_simp; done) | (go_simp; rfl)); intro gb136 hg w7 hbox hb; have n0_ := Aside0.mk (blk_below (g := gb135) (o := .cells #[.int .i32 a0_0, .int .i32 a0_1, .int .u8 a0_2] 30 (0, 0)) (by (with_reducible repeat (first | refine blk_drewN ?_ _ | refine blk_drew ?_ | refine blk_alloc ?_ _)); exact BK135.out) hb); have n1_ := Aside0.mk (below_step (by repeat (first | (with_reducible first | exact HB.out | apply below_alloc | apply bN_ | apply below_drew1 | refine below_set ?_ GE135.out) | exact HB.out)) hb); have n2_ := Aside0.mk (hbox); have n3_ := Aside0.mk ((by rw [hg]; exact (below_size (by repeat (first | (with_reducible first | exact HB.out | apply below_alloc | apply bN_ | apply below_drew1 | refine below_set ?_ GE135.out) | exact HB.out))) : w.heap.size ≤ gb136)); have n4_ := Aside0.mk ((by rw [hg]; exact (below_size (by repeat (first | (with_reducible first | exact HB.out | apply below_alloc | apply bN_ | apply below_drew1 | refine below_set ?_ GE135.out) | exact HB.out))) : w.heap.size ≤ gb136)); have n5_ := Aside0.mk ((by rw [hg]; exact Nat.ne_of_lt (blk_lt (g := gb135) (o := .cells #[.int .i32 a0_0, .int .i32 a0_1, .int .u8 a0_2] 30 (0, 0)) (by (with_reducible repeat (first | refine blk_drewN ?_ _ | refine blk_drew ?_ | refine blk_alloc ?_ _)); exact BK135.out)) : gb135 ≠ gb136)); have n6_ := Aside0.mk ((by rw [hg]; exact Nat.ne_of_gt (blk_lt (g := gb135) (o := .cells #[.int .i32 a0_0, .int .i32 a0_1, .int .u8 a0_2] 30 (0, 0)) (by (with_reducible repeat (first | refine blk_drewN ?_ _ | refine blk_drew ?_ | refine blk_alloc ?_ _)); exact BK135.out)) : gb136 ≠ gb135)); clear BK135; clear HB; have BK135 := n0_; have HB := n1_; have BK136 := n2_; have GW136 := n3_; have GE136 := n4_; have NB135_136 := n5_; have NB136_135 := n6_; clear n0_ n1_ n2_ n3_ n4_ n5_ n6_; clear hb hbox hg; have hnb8 := NB135_136.out; have hnc8 := NB136_135.out; have hcz9_0 : w7.cell? ⟨gb135, 0, none⟩ = some (.int .i32 a0_0) := (blk_cell BK135.out 0).trans rfl; have hcz9_1 : w7.cell? ⟨gb135, 1, none⟩ = some (.int .i32 a0_1) := (blk_cell BK135.out 1).trans rfl; have hcz9_2 : w7.cell? ⟨gb135, 2, none⟩ = some (.int .u8 a0_2) := (blk_cell BK135.out 2).trans rfl; have hfz9_0 := blk_frozen BK135.out 0; have hfz9_1 := blk_frozen BK135.out 1; have hfz9_2 := blk_frozen BK135.out 2) | ((with_reducible refine gate_callee (f := 11) rfl ?_); refine gL_ (some 13) Try.func11 #[.agg #[.int .i32 a0_0, .int .i32 a0_1, .int .u8 a0_2]] ?_; (with_reducible refine (states_Number.calls a0_0 a0_1 a0_2 t137 t138 _ A3.out).mono ?_); rintro e w10 ⟨rfl, hb⟩; refine ⟨_, rfl, ?_⟩; have n0_ := Aside0.mk (blk_below (g := gb135) (o := .cells #[.int .i32 a0_0, .int .i32 a0_1, .int .u8 a0_2] 30 (0, 0)) (by (with_reducible repeat (first | refine blk_drewN ?_ _ | refine blk_drew ?_ | refine blk_alloc ?_ _)); exact BK135.out) hb); have n1_ := Aside0.mk (blk_below (g := gb136) (o := .cells #[.int .i32 a1_0, .int .i32 a1_1, .int .u8 a1_2] 30 (0, 0)) (by (with_reducible repeat (first | refine blk_drewN ?_ _ | refine blk_drew ?_ | refine blk_alloc ?_ _)); exact BK136.out) hb); have n2_ := Aside0.mk (below_step (by repeat (first | (with_reducible first | exact HB.out | apply below_alloc | apply bN_ | apply below_drew1 | refine below_set ?_ GE135.out | refine below_set ?_ GE136.out) | exact HB.out)) hb); clear BK135; clear BK136; clear HB; have BK135 := n0_; have BK136 := n1_; have HB := n2_; clear n0_ n1_ n2_; (try clear hb); have hcz11_0 : w10.cell? ⟨gb136, 0, none⟩ = some (.int .i32 a1_0) := (blk_cell BK136.out 0).trans rfl; have hcz11_1 : w10.cell? ⟨gb136, 1, none⟩ = some (.int .i32 a1_1) := (blk_cell BK136.out 1).trans rfl; have hcz11_2 : w10.cell? ⟨gb136, 2, none⟩ = some (.int .u8 a1_2) := (blk_cell BK136.out 2).trans rfl; have hfz11_0 := blk_frozen BK136.out 0; have hfz11_1 := blk_frozen BK136.out 1; have hfz11_2 := blk_frozen BK136.out 2) | ((with_reducible refine gate_callee (f := 11) rfl ?_); refine gL_ (some 18) Try.func11 #[.agg #[.int .i32 a1_0, .int .i32 a1_1, .int .u8 a1_2]] ?_; (with_reducible refine (states_Number.calls a1_0 a1_1 a1_2 t139 t140 _ A4.out).mono ?_); rintro e w12 ⟨rfl, hb⟩; refine ⟨_, rfl, ?_⟩; have n0_ := Aside0.mk (blk_below (g := gb135) (o := .cells #[.int .i32 a0_0, .int .i32 a0_1, .int .u8 a0_2] 30 (0, 0)) (by (with_reducible repeat (first | refine blk_drewN ?_ _ | refine blk_drew ?_ | refine blk_alloc ?_ _)); exact BK135.out) hb); have n1_ := Aside0.mk (blk_below (g := gb136) (o := .cells #[.int .i32 a1_0, .int .i32 a1_1, .int .u8 a1_2] 30 (0, 0)) (by (with_reducible repeat (first | refine blk_drewN ?_ _ | refine blk_drew ?_ | refine blk_alloc ?_ _)); exact BK136.out) hb); have n2_ := Aside0.mk (below_step (by repeat (first | (with_reducible first | exact HB.out | apply below_alloc | apply bN_ | apply below_drew1 | refine below_set ?_ GE135.out | refine below_set ?_ GE136.out) | exact HB.out)) hb); clear BK135; clear BK136; clear HB; have BK135 := n0_; have BK136 := n1_; have HB := n2_; clear n0_ n1_ n2_; (try clear hb)))
  (try simp only [Act.put, setIfInBounds_toArray, set_cons_zero, set_cons_succ])
  go_cut [34] (fun v34 wc => ∃ (kq : Nat) (x34_4 : Bool), v34 = .bool x34_4 ∧ Aside0 (bitloftlaw08_StatesNumbers.j0 kq t137 t138 t139 t140 x34_4 a0_0 a0_1 a0_2 a1_0 a1_1 a1_2 = some r) ∧ Aside0 (kq ≤ k) ∧ Aside0 (wc.heap[gb135]? = some (.cells #[.int .i32 a0_0, .int .i32 a0_1, .int .u8 a0_2] 30 (0, 0))) ∧ Aside0 (wc.heap[gb136]? = some (.cells #[.int .i32 a1_0, .int .i32 a1_1, .int .u8 a1_2] 30 (0, 0))) ∧ Aside0 (Below w.heap.size w wc))
  case first =>
    have H := HC5.out
    clear HC5
    replace H := Option.bind_eq_some_iff.mp H
    obtain ⟨t141, A130, H⟩ := H
    replace H : (if ((t138 == 0) != (t141 == 0)) = true then (bitloftlaw08_StatesNumbers.j0 k t137 t138 t139 t140 true a0_0 a0_1 a0_2 a1_0 a1_1 a1_2) else ((bitloftref07_Check.f k a1_0 a1_1 a1_2).bind fun t142 => (bitloftlaw08_StatesNumbers.j0 k t137 t138 t139 t140 ((t140 == 0) != (t142 == 0)) a0_0 a0_1 a0_2 a1_0 a1_1 a1_2))) = some r := H
    have A13 := Aside0.mk A130
    clear A130
    by_cases c14 : ((t138 == 0) != (t141 == 0)) = true
    · rw [if_pos c14] at H
      have c14b0 : ((t138 == 0) != (t141 == 0)) = true := c14
      (try (have c14b1 : decide ((t138 == 0) = (t141 == 0)) = false := by simpa using c14))
      (try (have c14b2 : ((t138 == 0) == (t141 == 0)) = false := by simpa using c14))
      (try (have c14b3 : ¬ ((t138 == 0) = (t141 == 0)) := by simpa using c14))
      clear c14
      (first | rw [c14b0] | (simp only [i64_w, i32_w]; rw [c14b0]) | skip)
      have H' := Aside0.mk H
      clear H
      have hnb15 := NB135_136.out
      have hnc15 := NB136_135.out
      have hcz16_0 : w12.cell? ⟨gb135, 0, none⟩ = some (.int .i32 a0_0) := (blk_cell BK135.out 0).trans rfl
      have hcz16_1 : w12.cell? ⟨gb135, 1, none⟩ = some (.int .i32 a0_1) := (blk_cell BK135.out 1).trans rfl
      have hcz16_2 : w12.cell? ⟨gb135, 2, none⟩ = some (.int .u8 a0_2) := (blk_cell BK135.out 2).trans rfl
      have hfz16_0 := blk_frozen BK135.out 0
      have hfz16_1 := blk_frozen BK135.out 1
      have hfz16_2 := blk_frozen BK135.out 2
      go_wp2_with (first | ((with_reducible refine gate_callee (f := 12) rfl ?_); refine gL_ (some 24) Try.func12 #[.agg #[.int .i32 a0_0, .int .i32 a0_1, .int .u8 a0_2]] ?_; (with_reducible refine (bitloftref07_Check.calls k a0_0 a0_1 a0_2 t141 _ A13.out).mono ?_); rintro e w17 ⟨rfl, hb⟩; refine ⟨_, rfl, ?_⟩; have n0_ := Aside0.mk (blk_below (g := gb135) (o := .cells #[.int .i32 a0_0, .int .i32 a0_1, .int .u8 a0_2] 30 (0, 0)) (by (with_reducible repeat (first | refine blk_drewN ?_ _ | refine blk_drew ?_ | refine blk_alloc ?_ _)); exact BK135.out) hb); have n1_ := Aside0.mk (blk_below (g := gb136) (o := .cells #[.int .i32 a1_0, .int .i32 a1_1, .int .u8 a1_2] 30 (0, 0)) (by (with_reducible repeat (first | refine blk_drewN ?_ _ | refine blk_drew ?_ | refine blk_alloc ?_ _)); exact BK136.out) hb); have n2_ := Aside0.mk (below_step (by repeat (first | (with_reducible first | exact HB.out | apply below_alloc | apply bN_ | apply below_drew1 | refine below_set ?_ GE135.out | refine below_set ?_ GE136.out) | exact HB.out)) hb); clear BK135; clear BK136; clear HB; have BK135 := n0_; have BK136 := n1_; have HB := n2_; clear n0_ n1_ n2_; (try clear hb)))
      go_meet
      case rel => exact ⟨_, (true), (by first | rfl | (simp; done) | (simp [*]; done)), H', ⟨by first | omega | exact Nat.le_refl _⟩, ⟨by (with_reducible repeat (first | refine blk_drewN ?_ _ | refine blk_drew ?_ | refine blk_alloc ?_ _)); exact BK135.out⟩, ⟨by (with_reducible repeat (first | refine blk_drewN ?_ _ | refine blk_drew ?_ | refine blk_alloc ?_ _)); exact BK136.out⟩, ⟨by repeat (first | (with_reducible first | exact HB.out | apply below_alloc | apply bN_ | apply below_drew1 | refine below_set ?_ GE135.out | refine below_set ?_ GE136.out) | exact HB.out)⟩⟩
    · rw [if_neg c14] at H
      have c14b0 : ((t138 == 0) != (t141 == 0)) = false := by simpa using c14
      (try (have c14b1 : decide ((t138 == 0) = (t141 == 0)) = true := by simpa using c14))
      (try (have c14b2 : ((t138 == 0) == (t141 == 0)) = true := by simpa using c14))
      clear c14
      (first | rw [c14b0] | (simp only [i64_w, i32_w]; rw [c14b0]) | skip)
      replace H := Option.bind_eq_some_iff.mp H
      obtain ⟨t142, A180, H⟩ := H
      replace H : (bitloftlaw08_StatesNumbers.j0 k t137 t138 t139 t140 ((t140 == 0) != (t142 == 0)) a0_0 a0_1 a0_2 a1_0 a1_1 a1_2) = some r := H
      have A18 := Aside0.mk A180
      clear A180
      have H' := Aside0.mk H
      clear H
      have hnb19 := NB135_136.out
      have hnc19 := NB136_135.out
      have hcz20_0 : w12.cell? ⟨gb135, 0, none⟩ = some (.int .i32 a0_0) := (blk_cell BK135.out 0).trans rfl
      have hcz20_1 : w12.cell? ⟨gb135, 1, none⟩ = some (.int .i32 a0_1) := (blk_cell BK135.out 1).trans rfl
      have hcz20_2 : w12.cell? ⟨gb135, 2, none⟩ = some (.int .u8 a0_2) := (blk_cell BK135.out 2).trans rfl
      have hfz20_0 := blk_frozen BK135.out 0
      have hfz20_1 := blk_frozen BK135.out 1
      have hfz20_2 := blk_frozen BK135.out 2
      go_wp2_with (first | ((with_reducible refine gate_callee (f := 12) rfl ?_); refine gL_ (some 24) Try.func12 #[.agg #[.int .i32 a0_0, .int .i32 a0_1, .int .u8 a0_2]] ?_; (with_reducible refine (bitloftref07_Check.calls k a0_0 a0_1 a0_2 t141 _ A13.out).mono ?_); rintro e w21 ⟨rfl, hb⟩; refine ⟨_, rfl, ?_⟩; have n0_ := Aside0.mk (blk_below (g := gb135) (o := .cells #[.int .i32 a0_0, .int .i32 a0_1, .int .u8 a0_2] 30 (0, 0)) (by (with_reducible repeat (first | refine blk_drewN ?_ _ | refine blk_drew ?_ | refine blk_alloc ?_ _)); exact BK135.out) hb); have n1_ := Aside0.mk (blk_below (g := gb136) (o := .cells #[.int .i32 a1_0, .int .i32 a1_1, .int .u8 a1_2] 30 (0, 0)) (by (with_reducible repeat (first | refine blk_drewN ?_ _ | refine blk_drew ?_ | refine blk_alloc ?_ _)); exact BK136.out) hb); have n2_ := Aside0.mk (below_step (by repeat (first | (with_reducible first | exact HB.out | apply below_alloc | apply bN_ | apply below_drew1 | refine below_set ?_ GE135.out | refine below_set ?_ GE136.out) | exact HB.out)) hb); clear BK135; clear BK136; clear HB; have BK135 := n0_; have BK136 := n1_; have HB := n2_; clear n0_ n1_ n2_; (try clear hb); have hcz22_0 : w21.cell? ⟨gb136, 0, none⟩ = some (.int .i32 a1_0) := (blk_cell BK136.out 0).trans rfl; have hcz22_1 : w21.cell? ⟨gb136, 1, none⟩ = some (.int .i32 a1_1) := (blk_cell BK136.out 1).trans rfl; have hcz22_2 : w21.cell? ⟨gb136, 2, none⟩ = some (.int .u8 a1_2) := (blk_cell BK136.out 2).trans rfl; have hfz22_0 := blk_frozen BK136.out 0; have hfz22_1 := blk_frozen BK136.out 1; have hfz22_2 := blk_frozen BK136.out 2) | (go_at_call 12; (with_reducible refine (bitloftref07_Check.calls k a1_0 a1_1 a1_2 t142 _ A18.out).mono ?_); rintro e w23 ⟨rfl, hb⟩; have n0_ := Aside0.mk (blk_below (g := gb135) (o := .cells #[.int .i32 a0_0, .int .i32 a0_1, .int .u8 a0_2] 30 (0, 0)) (by (with_reducible repeat (first | refine blk_drewN ?_ _ | refine blk_drew ?_ | refine blk_alloc ?_ _)); exact BK135.out) hb); have n1_ := Aside0.mk (blk_below (g := gb136) (o := .cells #[.int .i32 a1_0, .int .i32 a1_1, .int .u8 a1_2] 30 (0, 0)) (by (with_reducible repeat (first | refine blk_drewN ?_ _ | refine blk_drew ?_ | refine blk_alloc ?_ _)); exact BK136.out) hb); have n2_ := Aside0.mk (below_step (by repeat (first | (with_reducible first | exact HB.out | apply below_alloc | apply bN_ | apply below_drew1 | refine below_set ?_ GE135.out | refine below_set ?_ GE136.out) | exact HB.out)) hb); clear BK135; clear BK136; clear HB; have BK135 := n0_; have BK136 := n1_; have HB := n2_; clear n0_ n1_ n2_; (try clear hb)))
      go_meet
      case rel => exact ⟨_, (((t140 == 0) != (t142 == 0))), (by first | rfl | (simp; done) | (simp [*]; done)), H', ⟨by first | omega | exact Nat.le_refl _⟩, ⟨by (with_reducible repeat (first | refine blk_drewN ?_ _ | refine blk_drew ?_ | refine blk_alloc ?_ _)); exact BK135.out⟩, ⟨by (with_reducible repeat (first | refine blk_drewN ?_ _ | refine blk_drew ?_ | refine blk_alloc ?_ _)); exact BK136.out⟩, ⟨by repeat (first | (with_reducible first | exact HB.out | apply below_alloc | apply bN_ | apply below_drew1 | refine below_set ?_ GE135.out | refine below_set ?_ GE136.out) | exact HB.out)⟩⟩
  case rest =>
    clear HC5
    try clear c1
    try clear p2
    try clear c4
    try clear c8
    try clear c11
    try clear c12
    try clear c14
    try clear c14b0
    try clear c14b1
    try clear c14b2
    try clear c15
    try clear c19
    try clear hcz11_0
    try clear hcz11_1
    try clear hcz11_2
    try clear hcz16_0
    try clear hcz16_1
    try clear hcz16_2
    try clear hcz20_0
    try clear hcz20_1
    try clear hcz20_2
    try clear hcz22_0
    try clear hcz22_1
    try clear hcz22_2
    try clear hcz9_0
    try clear hcz9_1
    try clear hcz9_2
    try clear hfz11_0
    try clear hfz11_1
    try clear hfz11_2
    try clear hfz16_0
    try clear hfz16_1
    try clear hfz16_2
    try clear hfz20_0
    try clear hfz20_1
    try clear hfz20_2
    try clear hfz22_0
    try clear hfz22_1
    try clear hfz22_2
    try clear hfz9_0
    try clear hfz9_1
    try clear hfz9_2
    obtain ⟨kq, x34_4, rfl, HA, HJ4, BK135, BK136, HB⟩ := hcut
    cases kq with
    | zero => exact absurd HA.out (by simp [bitloftlaw08_StatesNumbers.j0])
    | succ kj4 =>
      have H := HA.out
      clear HA
      simp only [bitloftlaw08_StatesNumbers.j0] at H
      by_cases c24 : x34_4 = true
      · subst c24
        have H1 : (some false) = some r := by rw [if_pos rfl] at H; exact H
        clear H
        have H := H1
        clear H1
        obtain rfl := Option.some.inj H
        go_wp2
        go_ret
        exact ⟨by first | rfl | (simp [errW_none, errW_some] <;> rfl) | (simp [*, errW_none, errW_some] <;> rfl), by repeat (first | (with_reducible first | exact HB.out | apply below_alloc | apply bN_ | apply below_drew1 | refine below_set ?_ GE135.out | refine below_set ?_ GE136.out) | exact HB.out)⟩
      · replace c24 := Bool.eq_false_iff.mpr c24
        subst c24
        have H1 : (if t138 = 0 then (bitloftlaw08_StatesNumbers.j1 kj4 t137 t139 (t140 != 0) a0_0 a0_1 a0_2 a1_0 a1_1 a1_2) else (bitloftlaw08_StatesNumbers.j1 kj4 t137 t139 true a0_0 a0_1 a0_2 a1_0 a1_1 a1_2)) = some r := by rw [if_neg (show ¬ (false = true) by decide)] at H; exact H
        clear H
        have H := H1
        clear H1
        have HC25 := Aside0.mk H
        clear H
        go_upto_region 5 with (fail)
        go_cut [40] (fun v40 wc => ∃ (kq : Nat) (x40_24 : Bool), v40 = .bool x40_24 ∧ Aside0 (bitloftlaw08_StatesNumbers.j1 kq t137 t139 x40_24 a0_0 a0_1 a0_2 a1_0 a1_1 a1_2 = some r) ∧ Aside0 (kq ≤ kj4) ∧ Aside0 (wc.heap[gb135]? = some (.cells #[.int .i32 a0_0, .int .i32 a0_1, .int .u8 a0_2] 30 (0, 0))) ∧ Aside0 (wc.heap[gb136]? = some (.cells #[.int .i32 a1_0, .int .i32 a1_1, .int .u8 a1_2] 30 (0, 0))) ∧ Aside0 (Below w.heap.size w wc))
        case first =>
          have H := HC25.out
          clear HC25
          by_cases c26 : t138 = 0
          · rw [if_pos c26] at H
            have c26b0 : (t138 == 0) = true := beq_iff_eq.mpr c26
            have c26b1 : (t138 != 0) = false := bne_eq_false_iff_eq.mpr c26
            clear c26
            (first | rw [c26b0] | (simp only [i64_w, i32_w]; rw [c26b0]) | skip)
            have H' := Aside0.mk H
            clear H
            go_wp2
            go_meet
            case rel => exact ⟨_, ((t140 != 0)), (by first | rfl | (simp; done) | (simp [*]; done)), H', ⟨by have := HJ4.out; first | omega | exact Nat.le_refl _⟩, ⟨by (with_reducible repeat (first | refine blk_drewN ?_ _ | refine blk_drew ?_ | refine blk_alloc ?_ _)); exact BK135.out⟩, ⟨by (with_reducible repeat (first | refine blk_drewN ?_ _ | refine blk_drew ?_ | refine blk_alloc ?_ _)); exact BK136.out⟩, ⟨by repeat (first | (with_reducible first | exact HB.out | apply below_alloc | apply bN_ | apply below_drew1 | refine below_set ?_ GE135.out | refine below_set ?_ GE136.out) | exact HB.out)⟩⟩
          · rw [if_neg c26] at H
            have c26b0 : (t138 == 0) = false := beq_eq_false_iff_ne.mpr c26
            have c26b1 : (t138 != 0) = true := bne_iff_ne.mpr c26
            (first | rw [c26b0] | (simp only [i64_w, i32_w]; rw [c26b0]) | skip)
            have H' := Aside0.mk H
            clear H
            go_wp2
            go_meet
            case rel => exact ⟨_, (true), (by first | rfl | (simp; done) | (simp [*]; done)), H', ⟨by have := HJ4.out; first | omega | exact Nat.le_refl _⟩, ⟨by (with_reducible repeat (first | refine blk_drewN ?_ _ | refine blk_drew ?_ | refine blk_alloc ?_ _)); exact BK135.out⟩, ⟨by (with_reducible repeat (first | refine blk_drewN ?_ _ | refine blk_drew ?_ | refine blk_alloc ?_ _)); exact BK136.out⟩, ⟨by repeat (first | (with_reducible first | exact HB.out | apply below_alloc | apply bN_ | apply below_drew1 | refine below_set ?_ GE135.out | refine below_set ?_ GE136.out) | exact HB.out)⟩⟩
        case rest =>
          clear HC25
          try clear c1
          try clear c2
          try clear p2
          try clear c4
          try clear c8
          try clear c11
          try clear c12
          try clear c14
          try clear c14b0
          try clear c14b1
          try clear c14b2
          try clear c15
          try clear c19
          try clear c24
          try clear c26
          try clear c26b0
          try clear c26b1
          try clear hcz11_0
          try clear hcz11_1
          try clear hcz11_2
          try clear hcz16_0
          try clear hcz16_1
          try clear hcz16_2
          try clear hcz20_0
          try clear hcz20_1
          try clear hcz20_2
          try clear hcz22_0
          try clear hcz22_1
          try clear hcz22_2
          try clear hcz9_0
          try clear hcz9_1
          try clear hcz9_2
          try clear hfz11_0
          try clear hfz11_1
          try clear hfz11_2
          try clear hfz16_0
          try clear hfz16_1
          try clear hfz16_2
          try clear hfz20_0
          try clear hfz20_1
          try clear hfz20_2
          try clear hfz22_0
          try clear hfz22_1
          try clear hfz22_2
          try clear hfz9_0
          try clear hfz9_1
          try clear hfz9_2
          try clear p2
          obtain ⟨kq, x40_24, rfl, HA, HJ24, BK135, BK136, HB⟩ := hcut
          cases kq with
          | zero => exact absurd HA.out (by simp [bitloftlaw08_StatesNumbers.j1])
          | succ kj24 =>
            have H := HA.out
            clear HA
            simp only [bitloftlaw08_StatesNumbers.j1] at H
            by_cases c27 : x40_24 = true
            · subst c27
              have H1 : ((bitloftlaw08_alive.f kj24).bind fun t143 => (some t143)) = some r := by rw [if_pos rfl] at H; exact H
              clear H
              have H := H1
              clear H1
              replace H := Option.bind_eq_some_iff.mp H
              obtain ⟨t143, A280, H⟩ := H
              replace H : (some t143) = some r := H
              have A28 := Aside0.mk A280
              clear A280
              obtain rfl := Option.some.inj H
              go_wp2_with (first | ((with_reducible refine gate_callee (f := 13) rfl ?_); refine gL_ (some 41) Try.func13 #[] ?_; (with_reducible refine (bitloftlaw08_alive.calls kj24  t143 _ A28.out).mono ?_); rintro e w29 ⟨rfl, hb⟩; refine ⟨_, rfl, ?_⟩; have n0_ := Aside0.mk (blk_below (g := gb135) (o := .cells #[.int .i32 a0_0, .int .i32 a0_1, .int .u8 a0_2] 30 (0, 0)) (by (with_reducible repeat (first | refine blk_drewN ?_ _ | refine blk_drew ?_ | refine blk_alloc ?_ _)); exact BK135.out) hb); have n1_ := Aside0.mk (blk_below (g := gb136) (o := .cells #[.int .i32 a1_0, .int .i32 a1_1, .int .u8 a1_2] 30 (0, 0)) (by (with_reducible repeat (first | refine blk_drewN ?_ _ | refine blk_drew ?_ | refine blk_alloc ?_ _)); exact BK136.out) hb); have n2_ := Aside0.mk (below_step (by repeat (first | (with_reducible first | exact HB.out | apply below_alloc | apply bN_ | apply below_drew1 | refine below_set ?_ GE135.out | refine below_set ?_ GE136.out) | exact HB.out)) hb); clear BK135; clear BK136; clear HB; have BK135 := n0_; have BK136 := n1_; have HB := n2_; clear n0_ n1_ n2_; (try clear hb)))
              go_ret
              exact ⟨by first | rfl | (simp [errW_none, errW_some] <;> rfl) | (simp [*, errW_none, errW_some] <;> rfl), by repeat (first | (with_reducible first | exact HB.out | apply below_alloc | apply bN_ | apply below_drew1 | refine below_set ?_ GE135.out | refine below_set ?_ GE136.out) | exact HB.out)⟩
            · replace c27 := Bool.eq_false_iff.mpr c27
              subst c27
              have H1 : ((states_Count.f t137).bind fun bt144 => (if bt144.2.2.2 = 0 then (if (bt144.1 == a0_0 && (bt144.2.1 == a0_1 && (bt144.2.2.1 == a0_2))) = true then (if ((t137 == t139) == (a0_0 == a1_0 && (a0_1 == a1_1 && (a0_2 == a1_2)))) = true then ((states_Size.f).bind fun t149 => (if (wrap64 (t137)) < t149 then ((bitloftlaw08_alive.f kj24).bind fun t150 => (bitloftlaw08_StatesNumbers.j2 kj24 t150)) else (bitloftlaw08_StatesNumbers.j2 kj24 false))) else (bitloftlaw08_StatesNumbers.j2 kj24 false)) else (bitloftlaw08_StatesNumbers.j2 kj24 false)) else (bitloftlaw08_StatesNumbers.j2 kj24 false))) = some r := by rw [if_neg (show ¬ (false = true) by decide)] at H; exact H
              clear H
              have H := H1
              clear H1
              replace H := Option.bind_eq_some_iff.mp H
              obtain ⟨⟨t144, t145, t146, t147⟩, A300, H⟩ := H
              replace H : (if t147 = 0 then (if (t144 == a0_0 && (t145 == a0_1 && (t146 == a0_2))) = true then (if ((t137 == t139) == (a0_0 == a1_0 && (a0_1 == a1_1 && (a0_2 == a1_2)))) = true then ((states_Size.f).bind fun t149 => (if (wrap64 (t137)) < t149 then ((bitloftlaw08_alive.f kj24).bind fun t150 => (bitloftlaw08_StatesNumbers.j2 kj24 t150)) else (bitloftlaw08_StatesNumbers.j2 kj24 false))) else (bitloftlaw08_StatesNumbers.j2 kj24 false)) else (bitloftlaw08_StatesNumbers.j2 kj24 false)) else (bitloftlaw08_StatesNumbers.j2 kj24 false)) = some r := H
              have A30 := Aside0.mk A300
              clear A300
              have HC31 := Aside0.mk H
              clear H
              go_upto_region 8 with (first | ((with_reducible refine gate_callee (f := 14) rfl ?_); refine gL_ (some 44) Try.func14 #[.int .u8 t137] ?_; (with_reducible refine (states_Count.calls t137 t144 t145 t146 t147 _ A30.out).mono ?_); rintro e w32 ⟨rfl, hb⟩; refine ⟨_, rfl, ?_⟩; have n0_ := Aside0.mk (blk_below (g := gb135) (o := .cells #[.int .i32 a0_0, .int .i32 a0_1, .int .u8 a0_2] 30 (0, 0)) (by (with_reducible repeat (first | refine blk_drewN ?_ _ | refine blk_drew ?_ | refine blk_alloc ?_ _)); exact BK135.out) hb); have n1_ := Aside0.mk (blk_below (g := gb136) (o := .cells #[.int .i32 a1_0, .int .i32 a1_1, .int .u8 a1_2] 30 (0, 0)) (by (with_reducible repeat (first | refine blk_drewN ?_ _ | refine blk_drew ?_ | refine blk_alloc ?_ _)); exact BK136.out) hb); have n2_ := Aside0.mk (below_step (by repeat (first | (with_reducible first | exact HB.out | apply below_alloc | apply bN_ | apply below_drew1 | refine below_set ?_ GE135.out | refine below_set ?_ GE136.out) | exact HB.out)) hb); clear BK135; clear BK136; clear HB; have BK135 := n0_; have BK136 := n1_; have HB := n2_; clear n0_ n1_ n2_; (try clear hb)) | ((with_reducible refine gate_dst (N := 9) rfl ?_); refine box_event ?hg (N := 9) ?hd (cs := #[.int .i32 0, .int .i32 0, .int .u8 0]) (t := 30) ?hr ?_; (case hd => rfl); (case hg => rfl); (case hr => first | (go_simp; done) | (go_simp; rfl)); intro gb148 hg w33 hbox hb; have n0_ := Aside0.mk (blk_below (g := gb135) (o := .cells #[.int .i32 a0_0, .int .i32 a0_1, .int .u8 a0_2] 30 (0, 0)) (by (with_reducible repeat (first | refine blk_drewN ?_ _ | refine blk_drew ?_ | refine blk_alloc ?_ _)); exact BK135.out) hb); have n1_ := Aside0.mk (blk_below (g := gb136) (o := .cells #[.int .i32 a1_0, .int .i32 a1_1, .int .u8 a1_2] 30 (0, 0)) (by (with_reducible repeat (first | refine blk_drewN ?_ _ | refine blk_drew ?_ | refine blk_alloc ?_ _)); exact BK136.out) hb); have n2_ := Aside0.mk (below_step (by repeat (first | (with_reducible first | exact HB.out | apply below_alloc | apply bN_ | apply below_drew1 | refine below_set ?_ GE135.out | refine below_set ?_ GE136.out) | exact HB.out)) hb); have n3_ := Aside0.mk (hbox); have n4_ := Aside0.mk ((by rw [hg]; exact (below_size (by repeat (first | (with_reducible first | exact HB.out | apply below_alloc | apply bN_ | apply below_drew1 | refine below_set ?_ GE135.out | refine below_set ?_ GE136.out) | exact HB.out))) : w.heap.size ≤ gb148)); have n5_ := Aside0.mk ((by rw [hg]; exact (below_size (by repeat (first | (with_reducible first | exact HB.out | apply below_alloc | apply bN_ | apply below_drew1 | refine below_set ?_ GE135.out | refine below_set ?_ GE136.out) | exact HB.out))) : w.heap.size ≤ gb148)); have n6_ := Aside0.mk ((by rw [hg]; exact Nat.ne_of_lt (blk_lt (g := gb135) (o := .cells #[.int .i32 a0_0, .int .i32 a0_1, .int .u8 a0_2] 30 (0, 0)) (by (with_reducible repeat (first | refine blk_drewN ?_ _ | refine blk_drew ?_ | refine blk_alloc ?_ _)); exact BK135.out)) : gb135 ≠ gb148)); have n7_ := Aside0.mk ((by rw [hg]; exact Nat.ne_of_gt (blk_lt (g := gb135) (o := .cells #[.int .i32 a0_0, .int .i32 a0_1, .int .u8 a0_2] 30 (0, 0)) (by (with_reducible repeat (first | refine blk_drewN ?_ _ | refine blk_drew ?_ | refine blk_alloc ?_ _)); exact BK135.out)) : gb148 ≠ gb135)); have n8_ := Aside0.mk ((by rw [hg]; exact Nat.ne_of_lt (blk_lt (g := gb136) (o := .cells #[.int .i32 a1_0, .int .i32 a1_1, .int .u8 a1_2] 30 (0, 0)) (by (with_reducible repeat (first | refine blk_drewN ?_ _ | refine blk_drew ?_ | refine blk_alloc ?_ _)); exact BK136.out)) : gb136 ≠ gb148)); have n9_ := Aside0.mk ((by rw [hg]; exact Nat.ne_of_gt (blk_lt (g := gb136) (o := .cells #[.int .i32 a1_0, .int .i32 a1_1, .int .u8 a1_2] 30 (0, 0)) (by (with_reducible repeat (first | refine blk_drewN ?_ _ | refine blk_drew ?_ | refine blk_alloc ?_ _)); exact BK136.out)) : gb148 ≠ gb136)); clear BK135; clear BK136; clear HB; have BK135 := n0_; have BK136 := n1_; have HB := n2_; have BK148 := n3_; have GW148 := n4_; have GE148 := n5_; have NB135_148 := n6_; have NB148_135 := n7_; have NB136_148 := n8_; have NB148_136 := n9_; clear n0_ n1_ n2_ n3_ n4_ n5_ n6_ n7_ n8_ n9_; clear hb hbox hg; have hnb34 := NB148_135.out; have hnc34 := NB135_148.out; have hnb35 := NB148_136.out; have hnc35 := NB136_148.out; have hcz36_0 : w33.cell? ⟨gb148, 0, none⟩ = some (.int .i32 0) := (blk_cell BK148.out 0).trans rfl; have hcz36_1 : w33.cell? ⟨gb148, 1, none⟩ = some (.int .i32 0) := (blk_cell BK148.out 1).trans rfl; have hcz36_2 : w33.cell? ⟨gb148, 2, none⟩ = some (.int .u8 0) := (blk_cell BK148.out 2).trans rfl; have hfz36_0 := blk_frozen BK148.out 0; have hfz36_1 := blk_frozen BK148.out 1; have hfz36_2 := blk_frozen BK148.out 2))
              (try simp only [Act.put, setIfInBounds_toArray, set_cons_zero, set_cons_succ])
              go_cut [4] (fun v4 wc => ∃ (kq : Nat) (x4_30 : Bool), v4 = .bool x4_30 ∧ Aside0 (bitloftlaw08_StatesNumbers.j2 kq x4_30 = some r) ∧ Aside0 (kq ≤ kj24) ∧ Aside0 (wc.heap[gb135]? = some (.cells #[.int .i32 a0_0, .int .i32 a0_1, .int .u8 a0_2] 30 (0, 0))) ∧ Aside0 (wc.heap[gb136]? = some (.cells #[.int .i32 a1_0, .int .i32 a1_1, .int .u8 a1_2] 30 (0, 0))) ∧ Aside0 (wc.heap[gb148]? = some (.cells #[.int .i32 t144, .int .i32 t145, .int .u8 t146] 30 (0, 0))) ∧ Aside0 (Below w.heap.size w wc))
              case first =>
                have H := HC31.out
                clear HC31
                by_cases c37 : t147 = 0
                · rw [if_pos c37] at H
                  have c37b0 : (t147 == 0) = true := beq_iff_eq.mpr c37
                  have c37b1 : (t147 != 0) = false := bne_eq_false_iff_eq.mpr c37
                  clear c37
                  (first | rw [c37b0] | (simp only [i64_w, i32_w]; rw [c37b0]) | skip)
                  by_cases c38 : (t144 == a0_0 && (t145 == a0_1 && (t146 == a0_2))) = true
                  · rw [if_pos c38] at H
                    have c38b0 : (t144 == a0_0 && (t145 == a0_1 && (t146 == a0_2))) = true := c38
                    (try (have c38b1 : decide (t144 = a0_0 && (t145 == a0_1 && (t146 == a0_2))) = true := by simpa using c38))
                    (try (have c38b2 : (t144 == a0_0 && (t145 == a0_1 && (t146 == a0_2))) = true := by simpa using c38))
                    clear c38
                    by_cases c39 : ((t137 == t139) == (a0_0 == a1_0 && (a0_1 == a1_1 && (a0_2 == a1_2)))) = true
                    · rw [if_pos c39] at H
                      have c39b0 : ((t137 == t139) == (a0_0 == a1_0 && (a0_1 == a1_1 && (a0_2 == a1_2)))) = true := c39
                      (try (have c39b1 : decide ((t137 == t139) = (a0_0 == a1_0 && (a0_1 == a1_1 && (a0_2 == a1_2)))) = true := by simpa using c39))
                      (try (have c39b2 : ((t137 == t139) == (a0_0 == a1_0 && (a0_1 == a1_1 && (a0_2 == a1_2)))) = true := by simpa using c39))
                      clear c39
                      replace H := Option.bind_eq_some_iff.mp H
                      obtain ⟨t149, A400, H⟩ := H
                      replace H : (if (wrap64 (t137)) < t149 then ((bitloftlaw08_alive.f kj24).bind fun t150 => (bitloftlaw08_StatesNumbers.j2 kj24 t150)) else (bitloftlaw08_StatesNumbers.j2 kj24 false)) = some r := H
                      have A40 := Aside0.mk A400
                      clear A400
                      by_cases c41 : (wrap64 (t137)) < t149
                      · rw [if_pos c41] at H
                        have c41b0 : decide ((wrap64 (t137)) < t149) = true := decide_eq_true c41
                        clear c41
                        replace H := Option.bind_eq_some_iff.mp H
                        obtain ⟨t150, A420, H⟩ := H
                        replace H : (bitloftlaw08_StatesNumbers.j2 kj24 t150) = some r := H
                        have A42 := Aside0.mk A420
                        clear A420
                        have H' := Aside0.mk H
                        clear H
                        have hnb43 := NB148_135.out
                        have hnc43 := NB135_148.out
                        have hnb44 := NB148_136.out
                        have hnc44 := NB136_148.out
                        have hcz45_0 : w33.cell? ⟨gb148, 0, none⟩ = some (.int .i32 0) := (blk_cell BK148.out 0).trans rfl
                        have hcz45_1 : w33.cell? ⟨gb148, 1, none⟩ = some (.int .i32 0) := (blk_cell BK148.out 1).trans rfl
                        have hcz45_2 : w33.cell? ⟨gb148, 2, none⟩ = some (.int .u8 0) := (blk_cell BK148.out 2).trans rfl
                        have hfz45_0 := blk_frozen BK148.out 0
                        have hfz45_1 := blk_frozen BK148.out 1
                        have hfz45_2 := blk_frozen BK148.out 2
                        have hnb46 := NB135_136.out
                        have hnc46 := NB136_135.out
                        have hcz47_0 : w33.cell? ⟨gb135, 0, none⟩ = some (.int .i32 a0_0) := (blk_cell BK135.out 0).trans rfl
                        have hcz47_1 : w33.cell? ⟨gb135, 1, none⟩ = some (.int .i32 a0_1) := (blk_cell BK135.out 1).trans rfl
                        have hcz47_2 : w33.cell? ⟨gb135, 2, none⟩ = some (.int .u8 a0_2) := (blk_cell BK135.out 2).trans rfl
                        have hfz47_0 := blk_frozen BK135.out 0
                        have hfz47_1 := blk_frozen BK135.out 1
                        have hfz47_2 := blk_frozen BK135.out 2
                        have hcz48_0 : w33.cell? ⟨gb136, 0, none⟩ = some (.int .i32 a1_0) := (blk_cell BK136.out 0).trans rfl
                        have hcz48_1 : w33.cell? ⟨gb136, 1, none⟩ = some (.int .i32 a1_1) := (blk_cell BK136.out 1).trans rfl
                        have hcz48_2 : w33.cell? ⟨gb136, 2, none⟩ = some (.int .u8 a1_2) := (blk_cell BK136.out 2).trans rfl
                        have hfz48_0 := blk_frozen BK136.out 0
                        have hfz48_1 := blk_frozen BK136.out 1
                        have hfz48_2 := blk_frozen BK136.out 2
                        go_wp2_with (first | (go_at_call 15; (with_reducible refine (states_Size.calls  t149 _ A40.out).mono ?_); rintro e w' ⟨rfl, ⟨nd, rfl⟩⟩) | (go_at_call 13; (with_reducible refine (bitloftlaw08_alive.calls kj24  t150 _ A42.out).mono ?_); rintro e w49 ⟨rfl, hb⟩; have n0_ := Aside0.mk (blk_below (g := gb135) (o := .cells #[.int .i32 a0_0, .int .i32 a0_1, .int .u8 a0_2] 30 (0, 0)) (by (with_reducible repeat (first | refine blk_drewN ?_ _ | refine blk_drew ?_ | refine blk_alloc ?_ _)); refine blk_far ?_ NB135_148.out _; (with_reducible repeat (first | refine blk_drewN ?_ _ | refine blk_drew ?_ | refine blk_alloc ?_ _)); refine blk_far ?_ NB135_148.out _; (with_reducible repeat (first | refine blk_drewN ?_ _ | refine blk_drew ?_ | refine blk_alloc ?_ _)); refine blk_far ?_ NB135_148.out _; (with_reducible repeat (first | refine blk_drewN ?_ _ | refine blk_drew ?_ | refine blk_alloc ?_ _)); exact BK135.out) hb); have n1_ := Aside0.mk (blk_below (g := gb136) (o := .cells #[.int .i32 a1_0, .int .i32 a1_1, .int .u8 a1_2] 30 (0, 0)) (by (with_reducible repeat (first | refine blk_drewN ?_ _ | refine blk_drew ?_ | refine blk_alloc ?_ _)); refine blk_far ?_ NB136_148.out _; (with_reducible repeat (first | refine blk_drewN ?_ _ | refine blk_drew ?_ | refine blk_alloc ?_ _)); refine blk_far ?_ NB136_148.out _; (with_reducible repeat (first | refine blk_drewN ?_ _ | refine blk_drew ?_ | refine blk_alloc ?_ _)); refine blk_far ?_ NB136_148.out _; (with_reducible repeat (first | refine blk_drewN ?_ _ | refine blk_drew ?_ | refine blk_alloc ?_ _)); exact BK136.out) hb); have n2_ := Aside0.mk (blk_below (g := gb148) (o := .cells #[.int .i32 t144, .int .i32 t145, .int .u8 t146] 30 (0, 0)) (by (with_reducible repeat (first | refine blk_drewN ?_ _ | refine blk_drew ?_ | refine blk_alloc ?_ _)); refine blk_put (cs := #[.int .i32 t144, .int .i32 t145, .int .u8 0]) ?_ 2 _ rfl; (with_reducible repeat (first | refine blk_drewN ?_ _ | refine blk_drew ?_ | refine blk_alloc ?_ _)); refine blk_put (cs := #[.int .i32 t144, .int .i32 0, .int .u8 0]) ?_ 1 _ rfl; (with_reducible repeat (first | refine blk_drewN ?_ _ | refine blk_drew ?_ | refine blk_alloc ?_ _)); refine blk_put (cs := #[.int .i32 0, .int .i32 0, .int .u8 0]) ?_ 0 _ rfl; (with_reducible repeat (first | refine blk_drewN ?_ _ | refine blk_drew ?_ | refine blk_alloc ?_ _)); exact BK148.out) hb); have n3_ := Aside0.mk (below_step (by repeat (first | (with_reducible first | exact HB.out | apply below_alloc | apply bN_ | apply below_drew1 | refine below_set ?_ GE135.out | refine below_set ?_ GE136.out | refine below_set ?_ GE148.out) | exact HB.out)) hb); clear BK135; clear BK136; clear BK148; clear HB; have BK135 := n0_; have BK136 := n1_; have BK148 := n2_; have HB := n3_; clear n0_ n1_ n2_ n3_; (try clear hb)))
                        go_meet
                        case rel => exact ⟨_, (t150), (by first | rfl | (simp; done) | (simp [*]; done)), H', ⟨by have := HJ4.out; have := HJ24.out; first | omega | exact Nat.le_refl _⟩, ⟨by (with_reducible repeat (first | refine blk_drewN ?_ _ | refine blk_drew ?_ | refine blk_alloc ?_ _)); exact BK135.out⟩, ⟨by (with_reducible repeat (first | refine blk_drewN ?_ _ | refine blk_drew ?_ | refine blk_alloc ?_ _)); exact BK136.out⟩, ⟨by (with_reducible repeat (first | refine blk_drewN ?_ _ | refine blk_drew ?_ | refine blk_alloc ?_ _)); exact BK148.out⟩, ⟨by repeat (first | (with_reducible first | exact HB.out | apply below_alloc | apply bN_ | apply below_drew1 | refine below_set ?_ GE135.out | refine below_set ?_ GE136.out | refine below_set ?_ GE148.out) | exact HB.out)⟩⟩
                      · rw [if_neg c41] at H
                        have c41b0 : decide ((wrap64 (t137)) < t149) = false := decide_eq_false c41
                        clear c41
                        have H' := Aside0.mk H
                        clear H
                        have hnb50 := NB148_135.out
                        have hnc50 := NB135_148.out
                        have hnb51 := NB148_136.out
                        have hnc51 := NB136_148.out
                        have hcz52_0 : w33.cell? ⟨gb148, 0, none⟩ = some (.int .i32 0) := (blk_cell BK148.out 0).trans rfl
                        have hcz52_1 : w33.cell? ⟨gb148, 1, none⟩ = some (.int .i32 0) := (blk_cell BK148.out 1).trans rfl
                        have hcz52_2 : w33.cell? ⟨gb148, 2, none⟩ = some (.int .u8 0) := (blk_cell BK148.out 2).trans rfl
                        have hfz52_0 := blk_frozen BK148.out 0
                        have hfz52_1 := blk_frozen BK148.out 1
                        have hfz52_2 := blk_frozen BK148.out 2
                        have hnb53 := NB135_136.out
                        have hnc53 := NB136_135.out
                        have hcz54_0 : w33.cell? ⟨gb135, 0, none⟩ = some (.int .i32 a0_0) := (blk_cell BK135.out 0).trans rfl
                        have hcz54_1 : w33.cell? ⟨gb135, 1, none⟩ = some (.int .i32 a0_1) := (blk_cell BK135.out 1).trans rfl
                        have hcz54_2 : w33.cell? ⟨gb135, 2, none⟩ = some (.int .u8 a0_2) := (blk_cell BK135.out 2).trans rfl
                        have hfz54_0 := blk_frozen BK135.out 0
                        have hfz54_1 := blk_frozen BK135.out 1
                        have hfz54_2 := blk_frozen BK135.out 2
                        have hcz55_0 : w33.cell? ⟨gb136, 0, none⟩ = some (.int .i32 a1_0) := (blk_cell BK136.out 0).trans rfl
                        have hcz55_1 : w33.cell? ⟨gb136, 1, none⟩ = some (.int .i32 a1_1) := (blk_cell BK136.out 1).trans rfl
                        have hcz55_2 : w33.cell? ⟨gb136, 2, none⟩ = some (.int .u8 a1_2) := (blk_cell BK136.out 2).trans rfl
                        have hfz55_0 := blk_frozen BK136.out 0
                        have hfz55_1 := blk_frozen BK136.out 1
                        have hfz55_2 := blk_frozen BK136.out 2
                        go_wp2_with (first | (go_at_call 15; (with_reducible refine (states_Size.calls  t149 _ A40.out).mono ?_); rintro e w' ⟨rfl, ⟨nd, rfl⟩⟩))
                        go_meet
                        case rel => exact ⟨_, (false), (by first | rfl | (simp; done) | (simp [*]; done)), H', ⟨by have := HJ4.out; have := HJ24.out; first | omega | exact Nat.le_refl _⟩, ⟨by (with_reducible repeat (first | refine blk_drewN ?_ _ | refine blk_drew ?_ | refine blk_alloc ?_ _)); refine blk_far ?_ NB135_148.out _; (with_reducible repeat (first | refine blk_drewN ?_ _ | refine blk_drew ?_ | refine blk_alloc ?_ _)); refine blk_far ?_ NB135_148.out _; (with_reducible repeat (first | refine blk_drewN ?_ _ | refine blk_drew ?_ | refine blk_alloc ?_ _)); refine blk_far ?_ NB135_148.out _; (with_reducible repeat (first | refine blk_drewN ?_ _ | refine blk_drew ?_ | refine blk_alloc ?_ _)); exact BK135.out⟩, ⟨by (with_reducible repeat (first | refine blk_drewN ?_ _ | refine blk_drew ?_ | refine blk_alloc ?_ _)); refine blk_far ?_ NB136_148.out _; (with_reducible repeat (first | refine blk_drewN ?_ _ | refine blk_drew ?_ | refine blk_alloc ?_ _)); refine blk_far ?_ NB136_148.out _; (with_reducible repeat (first | refine blk_drewN ?_ _ | refine blk_drew ?_ | refine blk_alloc ?_ _)); refine blk_far ?_ NB136_148.out _; (with_reducible repeat (first | refine blk_drewN ?_ _ | refine blk_drew ?_ | refine blk_alloc ?_ _)); exact BK136.out⟩, ⟨by (with_reducible repeat (first | refine blk_drewN ?_ _ | refine blk_drew ?_ | refine blk_alloc ?_ _)); refine blk_put (cs := #[.int .i32 t144, .int .i32 t145, .int .u8 0]) ?_ 2 _ rfl; (with_reducible repeat (first | refine blk_drewN ?_ _ | refine blk_drew ?_ | refine blk_alloc ?_ _)); refine blk_put (cs := #[.int .i32 t144, .int .i32 0, .int .u8 0]) ?_ 1 _ rfl; (with_reducible repeat (first | refine blk_drewN ?_ _ | refine blk_drew ?_ | refine blk_alloc ?_ _)); refine blk_put (cs := #[.int .i32 0, .int .i32 0, .int .u8 0]) ?_ 0 _ rfl; (with_reducible repeat (first | refine blk_drewN ?_ _ | refine blk_drew ?_ | refine blk_alloc ?_ _)); exact BK148.out⟩, ⟨by repeat (first | (with_reducible first | exact HB.out | apply below_alloc | apply bN_ | apply below_drew1 | refine below_set ?_ GE135.out | refine below_set ?_ GE136.out | refine below_set ?_ GE148.out) | exact HB.out)⟩⟩
                    · rw [if_neg c39] at H
                      have c39b0 : ((t137 == t139) == (a0_0 == a1_0 && (a0_1 == a1_1 && (a0_2 == a1_2)))) = false := by simpa using c39
                      (try (have c39b1 : decide ((t137 == t139) = (a0_0 == a1_0 && (a0_1 == a1_1 && (a0_2 == a1_2)))) = false := by simpa using c39))
                      (try (have c39b2 : ((t137 == t139) == (a0_0 == a1_0 && (a0_1 == a1_1 && (a0_2 == a1_2)))) = false := by simpa using c39))
                      (try (have c39b3 : ¬ ((t137 == t139) = (a0_0 == a1_0 && (a0_1 == a1_1 && (a0_2 == a1_2)))) := by simpa using c39))
                      clear c39
                      have H' := Aside0.mk H
                      clear H
                      have hnb56 := NB148_135.out
                      have hnc56 := NB135_148.out
                      have hnb57 := NB148_136.out
                      have hnc57 := NB136_148.out
                      have hcz58_0 : w33.cell? ⟨gb148, 0, none⟩ = some (.int .i32 0) := (blk_cell BK148.out 0).trans rfl
                      have hcz58_1 : w33.cell? ⟨gb148, 1, none⟩ = some (.int .i32 0) := (blk_cell BK148.out 1).trans rfl
                      have hcz58_2 : w33.cell? ⟨gb148, 2, none⟩ = some (.int .u8 0) := (blk_cell BK148.out 2).trans rfl
                      have hfz58_0 := blk_frozen BK148.out 0
                      have hfz58_1 := blk_frozen BK148.out 1
                      have hfz58_2 := blk_frozen BK148.out 2
                      have hnb59 := NB135_136.out
                      have hnc59 := NB136_135.out
                      have hcz60_0 : w33.cell? ⟨gb135, 0, none⟩ = some (.int .i32 a0_0) := (blk_cell BK135.out 0).trans rfl
                      have hcz60_1 : w33.cell? ⟨gb135, 1, none⟩ = some (.int .i32 a0_1) := (blk_cell BK135.out 1).trans rfl
                      have hcz60_2 : w33.cell? ⟨gb135, 2, none⟩ = some (.int .u8 a0_2) := (blk_cell BK135.out 2).trans rfl
                      have hfz60_0 := blk_frozen BK135.out 0
                      have hfz60_1 := blk_frozen BK135.out 1
                      have hfz60_2 := blk_frozen BK135.out 2
                      have hcz61_0 : w33.cell? ⟨gb136, 0, none⟩ = some (.int .i32 a1_0) := (blk_cell BK136.out 0).trans rfl
                      have hcz61_1 : w33.cell? ⟨gb136, 1, none⟩ = some (.int .i32 a1_1) := (blk_cell BK136.out 1).trans rfl
                      have hcz61_2 : w33.cell? ⟨gb136, 2, none⟩ = some (.int .u8 a1_2) := (blk_cell BK136.out 2).trans rfl
                      have hfz61_0 := blk_frozen BK136.out 0
                      have hfz61_1 := blk_frozen BK136.out 1
                      have hfz61_2 := blk_frozen BK136.out 2
                      go_wp2
                      go_meet
                      case rel => exact ⟨_, (false), (by first | rfl | (simp; done) | (simp [*]; done)), H', ⟨by have := HJ4.out; have := HJ24.out; first | omega | exact Nat.le_refl _⟩, ⟨by (with_reducible repeat (first | refine blk_drewN ?_ _ | refine blk_drew ?_ | refine blk_alloc ?_ _)); refine blk_far ?_ NB135_148.out _; (with_reducible repeat (first | refine blk_drewN ?_ _ | refine blk_drew ?_ | refine blk_alloc ?_ _)); refine blk_far ?_ NB135_148.out _; (with_reducible repeat (first | refine blk_drewN ?_ _ | refine blk_drew ?_ | refine blk_alloc ?_ _)); refine blk_far ?_ NB135_148.out _; (with_reducible repeat (first | refine blk_drewN ?_ _ | refine blk_drew ?_ | refine blk_alloc ?_ _)); exact BK135.out⟩, ⟨by (with_reducible repeat (first | refine blk_drewN ?_ _ | refine blk_drew ?_ | refine blk_alloc ?_ _)); refine blk_far ?_ NB136_148.out _; (with_reducible repeat (first | refine blk_drewN ?_ _ | refine blk_drew ?_ | refine blk_alloc ?_ _)); refine blk_far ?_ NB136_148.out _; (with_reducible repeat (first | refine blk_drewN ?_ _ | refine blk_drew ?_ | refine blk_alloc ?_ _)); refine blk_far ?_ NB136_148.out _; (with_reducible repeat (first | refine blk_drewN ?_ _ | refine blk_drew ?_ | refine blk_alloc ?_ _)); exact BK136.out⟩, ⟨by (with_reducible repeat (first | refine blk_drewN ?_ _ | refine blk_drew ?_ | refine blk_alloc ?_ _)); refine blk_put (cs := #[.int .i32 t144, .int .i32 t145, .int .u8 0]) ?_ 2 _ rfl; (with_reducible repeat (first | refine blk_drewN ?_ _ | refine blk_drew ?_ | refine blk_alloc ?_ _)); refine blk_put (cs := #[.int .i32 t144, .int .i32 0, .int .u8 0]) ?_ 1 _ rfl; (with_reducible repeat (first | refine blk_drewN ?_ _ | refine blk_drew ?_ | refine blk_alloc ?_ _)); refine blk_put (cs := #[.int .i32 0, .int .i32 0, .int .u8 0]) ?_ 0 _ rfl; (with_reducible repeat (first | refine blk_drewN ?_ _ | refine blk_drew ?_ | refine blk_alloc ?_ _)); exact BK148.out⟩, ⟨by repeat (first | (with_reducible first | exact HB.out | apply below_alloc | apply bN_ | apply below_drew1 | refine below_set ?_ GE135.out | refine below_set ?_ GE136.out | refine below_set ?_ GE148.out) | exact HB.out)⟩⟩
                  · rw [if_neg c38] at H
                    have c38b0 : (t144 == a0_0 && (t145 == a0_1 && (t146 == a0_2))) = false := by simpa using c38
                    (try (have c38b1 : decide (t144 = a0_0 && (t145 == a0_1 && (t146 == a0_2))) = false := by simpa using c38))
                    (try (have c38b2 : (t144 == a0_0 && (t145 == a0_1 && (t146 == a0_2))) = false := by simpa using c38))
                    (try (have c38b3 : ¬ (t144 = a0_0 && (t145 == a0_1 && (t146 == a0_2))) := by simpa using c38))
                    clear c38
                    have H' := Aside0.mk H
                    clear H
                    have hnb62 := NB148_135.out
                    have hnc62 := NB135_148.out
                    have hnb63 := NB148_136.out
                    have hnc63 := NB136_148.out
                    have hcz64_0 : w33.cell? ⟨gb148, 0, none⟩ = some (.int .i32 0) := (blk_cell BK148.out 0).trans rfl
                    have hcz64_1 : w33.cell? ⟨gb148, 1, none⟩ = some (.int .i32 0) := (blk_cell BK148.out 1).trans rfl
                    have hcz64_2 : w33.cell? ⟨gb148, 2, none⟩ = some (.int .u8 0) := (blk_cell BK148.out 2).trans rfl
                    have hfz64_0 := blk_frozen BK148.out 0
                    have hfz64_1 := blk_frozen BK148.out 1
                    have hfz64_2 := blk_frozen BK148.out 2
                    have hnb65 := NB135_136.out
                    have hnc65 := NB136_135.out
                    have hcz66_0 : w33.cell? ⟨gb135, 0, none⟩ = some (.int .i32 a0_0) := (blk_cell BK135.out 0).trans rfl
                    have hcz66_1 : w33.cell? ⟨gb135, 1, none⟩ = some (.int .i32 a0_1) := (blk_cell BK135.out 1).trans rfl
                    have hcz66_2 : w33.cell? ⟨gb135, 2, none⟩ = some (.int .u8 a0_2) := (blk_cell BK135.out 2).trans rfl
                    have hfz66_0 := blk_frozen BK135.out 0
                    have hfz66_1 := blk_frozen BK135.out 1
                    have hfz66_2 := blk_frozen BK135.out 2
                    go_wp2
                    go_meet
                    case rel => exact ⟨_, (false), (by first | rfl | (simp; done) | (simp [*]; done)), H', ⟨by have := HJ4.out; have := HJ24.out; first | omega | exact Nat.le_refl _⟩, ⟨by (with_reducible repeat (first | refine blk_drewN ?_ _ | refine blk_drew ?_ | refine blk_alloc ?_ _)); refine blk_far ?_ NB135_148.out _; (with_reducible repeat (first | refine blk_drewN ?_ _ | refine blk_drew ?_ | refine blk_alloc ?_ _)); refine blk_far ?_ NB135_148.out _; (with_reducible repeat (first | refine blk_drewN ?_ _ | refine blk_drew ?_ | refine blk_alloc ?_ _)); refine blk_far ?_ NB135_148.out _; (with_reducible repeat (first | refine blk_drewN ?_ _ | refine blk_drew ?_ | refine blk_alloc ?_ _)); exact BK135.out⟩, ⟨by (with_reducible repeat (first | refine blk_drewN ?_ _ | refine blk_drew ?_ | refine blk_alloc ?_ _)); refine blk_far ?_ NB136_148.out _; (with_reducible repeat (first | refine blk_drewN ?_ _ | refine blk_drew ?_ | refine blk_alloc ?_ _)); refine blk_far ?_ NB136_148.out _; (with_reducible repeat (first | refine blk_drewN ?_ _ | refine blk_drew ?_ | refine blk_alloc ?_ _)); refine blk_far ?_ NB136_148.out _; (with_reducible repeat (first | refine blk_drewN ?_ _ | refine blk_drew ?_ | refine blk_alloc ?_ _)); exact BK136.out⟩, ⟨by (with_reducible repeat (first | refine blk_drewN ?_ _ | refine blk_drew ?_ | refine blk_alloc ?_ _)); refine blk_put (cs := #[.int .i32 t144, .int .i32 t145, .int .u8 0]) ?_ 2 _ rfl; (with_reducible repeat (first | refine blk_drewN ?_ _ | refine blk_drew ?_ | refine blk_alloc ?_ _)); refine blk_put (cs := #[.int .i32 t144, .int .i32 0, .int .u8 0]) ?_ 1 _ rfl; (with_reducible repeat (first | refine blk_drewN ?_ _ | refine blk_drew ?_ | refine blk_alloc ?_ _)); refine blk_put (cs := #[.int .i32 0, .int .i32 0, .int .u8 0]) ?_ 0 _ rfl; (with_reducible repeat (first | refine blk_drewN ?_ _ | refine blk_drew ?_ | refine blk_alloc ?_ _)); exact BK148.out⟩, ⟨by repeat (first | (with_reducible first | exact HB.out | apply below_alloc | apply bN_ | apply below_drew1 | refine below_set ?_ GE135.out | refine below_set ?_ GE136.out | refine below_set ?_ GE148.out) | exact HB.out)⟩⟩
                · rw [if_neg c37] at H
                  have c37b0 : (t147 == 0) = false := beq_eq_false_iff_ne.mpr c37
                  have c37b1 : (t147 != 0) = true := bne_iff_ne.mpr c37
                  (first | rw [c37b0] | (simp only [i64_w, i32_w]; rw [c37b0]) | skip)
                  have H' := Aside0.mk H
                  clear H
                  go_wp2
                  go_meet
                  case rel => exact ⟨_, (false), (by first | rfl | (simp; done) | (simp [*]; done)), H', ⟨by have := HJ4.out; have := HJ24.out; first | omega | exact Nat.le_refl _⟩, ⟨by (with_reducible repeat (first | refine blk_drewN ?_ _ | refine blk_drew ?_ | refine blk_alloc ?_ _)); refine blk_far ?_ NB135_148.out _; (with_reducible repeat (first | refine blk_drewN ?_ _ | refine blk_drew ?_ | refine blk_alloc ?_ _)); refine blk_far ?_ NB135_148.out _; (with_reducible repeat (first | refine blk_drewN ?_ _ | refine blk_drew ?_ | refine blk_alloc ?_ _)); refine blk_far ?_ NB135_148.out _; (with_reducible repeat (first | refine blk_drewN ?_ _ | refine blk_drew ?_ | refine blk_alloc ?_ _)); exact BK135.out⟩, ⟨by (with_reducible repeat (first | refine blk_drewN ?_ _ | refine blk_drew ?_ | refine blk_alloc ?_ _)); refine blk_far ?_ NB136_148.out _; (with_reducible repeat (first | refine blk_drewN ?_ _ | refine blk_drew ?_ | refine blk_alloc ?_ _)); refine blk_far ?_ NB136_148.out _; (with_reducible repeat (first | refine blk_drewN ?_ _ | refine blk_drew ?_ | refine blk_alloc ?_ _)); refine blk_far ?_ NB136_148.out _; (with_reducible repeat (first | refine blk_drewN ?_ _ | refine blk_drew ?_ | refine blk_alloc ?_ _)); exact BK136.out⟩, ⟨by (with_reducible repeat (first | refine blk_drewN ?_ _ | refine blk_drew ?_ | refine blk_alloc ?_ _)); refine blk_put (cs := #[.int .i32 t144, .int .i32 t145, .int .u8 0]) ?_ 2 _ rfl; (with_reducible repeat (first | refine blk_drewN ?_ _ | refine blk_drew ?_ | refine blk_alloc ?_ _)); refine blk_put (cs := #[.int .i32 t144, .int .i32 0, .int .u8 0]) ?_ 1 _ rfl; (with_reducible repeat (first | refine blk_drewN ?_ _ | refine blk_drew ?_ | refine blk_alloc ?_ _)); refine blk_put (cs := #[.int .i32 0, .int .i32 0, .int .u8 0]) ?_ 0 _ rfl; (with_reducible repeat (first | refine blk_drewN ?_ _ | refine blk_drew ?_ | refine blk_alloc ?_ _)); exact BK148.out⟩, ⟨by repeat (first | (with_reducible first | exact HB.out | apply below_alloc | apply bN_ | apply below_drew1 | refine below_set ?_ GE135.out | refine below_set ?_ GE136.out | refine below_set ?_ GE148.out) | exact HB.out)⟩⟩
              case rest =>
                clear HC31
                try clear c1
                try clear c2
                try clear p2
                try clear c3
                try clear c4
                try clear c5
                try clear c6
                try clear p6
                try clear c8
                try clear c11
                try clear c12
                try clear c13
                try clear c14
                try clear c14b0
                try clear c14b1
                try clear c14b2
                try clear c15
                try clear c19
                try clear c24
                try clear c26
                try clear c26b0
                try clear c26b1
                try clear c27
                try clear c34
                try clear c35
                try clear c37
                try clear c37b0
                try clear c37b1
                try clear c38
                try clear c38b0
                try clear c38b1
                try clear c38b2
                try clear c39
                try clear c39b0
                try clear c39b1
                try clear c39b2
                try clear c41
                try clear c41b0
                try clear c43
                try clear c44
                try clear c46
                try clear c50
                try clear c51
                try clear c53
                try clear c56
                try clear c57
                try clear c59
                try clear c62
                try clear c63
                try clear p64
                try clear c65
                try clear hcz11_0
                try clear hcz11_1
                try clear hcz11_2
                try clear hcz16_0
                try clear hcz16_1
                try clear hcz16_2
                try clear hcz20_0
                try clear hcz20_1
                try clear hcz20_2
                try clear hcz22_0
                try clear hcz22_1
                try clear hcz22_2
                try clear hcz36_0
                try clear hcz36_1
                try clear hcz36_2
                try clear hcz45_0
                try clear hcz45_1
                try clear hcz45_2
                try clear hcz47_0
                try clear hcz47_1
                try clear hcz47_2
                try clear hcz48_0
                try clear hcz48_1
                try clear hcz48_2
                try clear hcz52_0
                try clear hcz52_1
                try clear hcz52_2
                try clear hcz54_0
                try clear hcz54_1
                try clear hcz54_2
                try clear hcz55_0
                try clear hcz55_1
                try clear hcz55_2
                try clear hcz58_0
                try clear hcz58_1
                try clear hcz58_2
                try clear hcz60_0
                try clear hcz60_1
                try clear hcz60_2
                try clear hcz61_0
                try clear hcz61_1
                try clear hcz61_2
                try clear hcz64_0
                try clear hcz64_1
                try clear hcz64_2
                try clear hcz66_0
                try clear hcz66_1
                try clear hcz66_2
                try clear hcz9_0
                try clear hcz9_1
                try clear hcz9_2
                try clear hfz11_0
                try clear hfz11_1
                try clear hfz11_2
                try clear hfz16_0
                try clear hfz16_1
                try clear hfz16_2
                try clear hfz20_0
                try clear hfz20_1
                try clear hfz20_2
                try clear hfz22_0
                try clear hfz22_1
                try clear hfz22_2
                try clear hfz36_0
                try clear hfz36_1
                try clear hfz36_2
                try clear hfz45_0
                try clear hfz45_1
                try clear hfz45_2
                try clear hfz47_0
                try clear hfz47_1
                try clear hfz47_2
                try clear hfz48_0
                try clear hfz48_1
                try clear hfz48_2
                try clear hfz52_0
                try clear hfz52_1
                try clear hfz52_2
                try clear hfz54_0
                try clear hfz54_1
                try clear hfz54_2
                try clear hfz55_0
                try clear hfz55_1
                try clear hfz55_2
                try clear hfz58_0
                try clear hfz58_1
                try clear hfz58_2
                try clear hfz60_0
                try clear hfz60_1
                try clear hfz60_2
                try clear hfz61_0
                try clear hfz61_1
                try clear hfz61_2
                try clear hfz64_0
                try clear hfz64_1
                try clear hfz64_2
                try clear hfz66_0
                try clear hfz66_1
                try clear hfz66_2
                try clear hfz9_0
                try clear hfz9_1
                try clear hfz9_2
                try clear p2
                obtain ⟨kq, x4_30, rfl, HA, HJ30, BK135, BK136, BK148, HB⟩ := hcut
                cases kq with
                | zero => exact absurd HA.out (by simp [bitloftlaw08_StatesNumbers.j2])
                | succ kj30 =>
                  have H := HA.out
                  clear HA
                  simp only [bitloftlaw08_StatesNumbers.j2] at H
                  obtain rfl := Option.some.inj H
                  go_wp2
                  go_ret
                  exact ⟨by first | rfl | (simp [errW_none, errW_some] <;> rfl) | (simp [*, errW_none, errW_some] <;> rfl), by repeat (first | (with_reducible first | exact HB.out | apply below_alloc | apply bN_ | apply below_drew1 | refine below_set ?_ GE135.out | refine below_set ?_ GE136.out | refine below_set ?_ GE148.out) | exact HB.out)⟩

/-- The one plain statement of bitloftlaw08_StatesNumbers. -/
def bitloftlaw08_StatesNumbers.Pure : Prop := ∀ (a0_0 : Int) (a0_1 : Int) (a0_2 : Int) (a1_0 : Int) (a1_1 : Int) (a1_2 : Int), (Lit.int .i32 a0_0).wf = true → (Lit.int .i32 a0_1).wf = true → (Lit.int .u8 a0_2).wf = true → (Lit.int .i32 a1_0).wf = true → (Lit.int .i32 a1_1).wf = true → (Lit.int .u8 a1_2).wf = true → ∃ k, bitloftlaw08_StatesNumbers.f k a0_0 a0_1 a0_2 a1_0 a1_1 a1_2 = some true

end Go.Proofs.Ytchpnnengjlpmaa.XStatesNumbers
