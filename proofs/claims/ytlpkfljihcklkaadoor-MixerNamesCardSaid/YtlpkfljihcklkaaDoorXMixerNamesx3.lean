-- Laid by a program of this session (wip/mkxprint.py, over the kit's print): Lean checks it.
import Derived.Test.YtlpkfljihcklkaaDoorXMixerNamesx0
import Derived.Test.YtlpkfljihcklkaaDoorXMixerNamesx1
import Derived.Test.YtlpkfljihcklkaaDoorXMixerNamesx2
namespace Go.Proofs.YtlpkfljihcklkaaDoor.XMixerNames
open List (setIfInBounds_toArray set_cons_zero set_cons_succ)
open Go.RowKit Go.Proofs.YtlpkfljihcklkaaDoorW.PrintWords Go.Proofs.YtlpkfljihcklkaaDoorW.PrintLast Go.Proofs.YtlpkfljihcklkaaDoorW.PrintMore
attribute [local go_sem] max2_int min2_int max_two min_two max_three min_three max_four min_four   -- for this text's walks alone
set_option linter.unusedVariables false
set_option linter.unusedSimpArgs false

/-! ### mixer_Learn: function 18 -/
mutual
def mixer_Learn.j0 : Nat → Int → List Int → Int → Bool → Bool → List (List Int) → Option ((List (List Int)) × Int)
 | 0, _, _, _, _, _, _ => none
 | k + 1, x1, x2, x3, x4, x34, x145000 => if x34 = true then (some (([] : List (List Int)), 2)) else (mixer_Learn.l0 k x1 x2 x3 x4 x145000 (x145000.length : Int) 0 ([] : List (List Int)))
def mixer_Learn.l0 : Nat → Int → List Int → Int → Bool → List (List Int) → Int → Int → List (List Int) → Option ((List (List Int)) × Int)
 | 0, _, _, _, _, _, _, _, _ => none
 | k + 1, x1, x2, x3, x4, x37, x38, x39, x148000 => if x39 < x38 then (if 0 ≤ x39 then (if x39 < (x37.length : Int) then ((slices_Clone_int32_int32.f (rd_L1 x37 x39)).bind fun t149 => (if x148000.length < 5864062014805 then (mixer_Learn.l0 k x1 x2 x3 x4 x37 x38 (wrap64 (x39 + 1)) (x148000 ++ [t149])) else (none))) else (none)) else (none)) else ((mixer_wrong.f x3 x4).bind fun t155 => (mixer_Learn.l1 k x1 (wrap64 ((wrap64 (t155)) * 7)) x2 (x2.length : Int) 0 x148000))
def mixer_Learn.l1 : Nat → Int → Int → List Int → Int → Int → List (List Int) → Option ((List (List Int)) × Int)
 | 0, _, _, _, _, _, _ => none
 | k + 1, x1, x16, x56, x57, x58, x148000 => if x58 < x57 then (if 0 ≤ x58 then (if x58 < (x56.length : Int) then ((fixed_Round.f k (wrap64 ((wrap64 (rd x56 x58)) * x16)) 14).bind fun bt157 => (if 0 ≤ x1 then (if x1 < (x148000.length : Int) then (if x58 < ((rd_L1 x148000 x1).length : Int) then ((fixed_Add.f (rd (rd_L1 x148000 x1) x58) (wrap32 (bt157.1))).bind fun t162 => (mixer_Learn.l1 k x1 x16 x56 x57 (wrap64 (x58 + 1)) (x148000.set (x1 : Int).toNat ((rd_L1 x148000 x1).set (x58 : Int).toNat t162)))) else (none)) else (none)) else (none))) else (none)) else (none)) else (some (x148000, 0))
end
def mixer_Learn.f (k : Nat) (l0_0 : List (List Int)) (a1 : Int) (l2 : List Int) (a3 : Int) (a4 : Bool) : Option ((List (List Int)) × Int) := (mixer_check.f l0_0 a1 l2).bind fun t146 => (if t146 = 0 then (if a3 < 0 then (mixer_Learn.j0 k a1 l2 a3 a4 true l0_0) else (mixer_Learn.j0 k a1 l2 a3 a4 (decide (a3 > 4095)) l0_0)) else (some (([] : List (List Int)), t146)))
theorem mixer_Learn.mono_l : ∀ k, (∀ y0 y1 y2 y3 y4 y5, LeO (mixer_Learn.j0 k y0 y1 y2 y3 y4 y5) (mixer_Learn.j0 (k + 1) y0 y1 y2 y3 y4 y5)) ∧ (∀ y0 y1 y2 y3 y4 y5 y6 y7, LeO (mixer_Learn.l0 k y0 y1 y2 y3 y4 y5 y6 y7) (mixer_Learn.l0 (k + 1) y0 y1 y2 y3 y4 y5 y6 y7)) ∧ (∀ y0 y1 y2 y3 y4 y5, LeO (mixer_Learn.l1 k y0 y1 y2 y3 y4 y5) (mixer_Learn.l1 (k + 1) y0 y1 y2 y3 y4 y5))
 | 0 => ⟨fun _ _ _ _ _ _ r h => by simp [mixer_Learn.j0] at h, fun _ _ _ _ _ _ _ _ r h => by simp [mixer_Learn.l0] at h, fun _ _ _ _ _ _ r h => by simp [mixer_Learn.l1] at h⟩
 | k + 1 => by
  obtain ⟨ih0, ih1, ih2⟩ := mixer_Learn.mono_l k; refine ⟨?_, ?_, ?_⟩
  ·
   intro y0 y1 y2 y3 y4 y5
   unfold mixer_Learn.j0
   repeat' first
   | (with_reducible exact ih0 _ _ _ _ _ _)
   | (with_reducible exact ih1 _ _ _ _ _ _ _ _)
   | (with_reducible exact ih2 _ _ _ _ _ _)
   | (with_reducible exact fixed_Round.mono _ _ _)
   | (with_reducible exact LeO.refl _)
   | (with_reducible exact LeO.none _)
   | (with_reducible refine LeO.ite ?_ ?_)
   | (with_reducible refine LeO.bind ?_ (fun _ => ?_))
   | exact ih0 _ _ _ _ _ _
   | exact ih1 _ _ _ _ _ _ _ _
   | exact ih2 _ _ _ _ _ _
   | exact fixed_Round.mono _ _ _
   | exact LeO.none _
   | refine LeO.ite ?_ ?_
   | refine LeO.bind ?_ (fun _ => ?_)
  ·
   intro y0 y1 y2 y3 y4 y5 y6 y7
   unfold mixer_Learn.l0
   repeat' first
   | (with_reducible exact ih0 _ _ _ _ _ _)
   | (with_reducible exact ih1 _ _ _ _ _ _ _ _)
   | (with_reducible exact ih2 _ _ _ _ _ _)
   | (with_reducible exact fixed_Round.mono _ _ _)
   | (with_reducible exact LeO.refl _)
   | (with_reducible exact LeO.none _)
   | (with_reducible refine LeO.ite ?_ ?_)
   | (with_reducible refine LeO.bind ?_ (fun _ => ?_))
   | exact ih0 _ _ _ _ _ _
   | exact ih1 _ _ _ _ _ _ _ _
   | exact ih2 _ _ _ _ _ _
   | exact fixed_Round.mono _ _ _
   | exact LeO.none _
   | refine LeO.ite ?_ ?_
   | refine LeO.bind ?_ (fun _ => ?_)
  ·
   intro y0 y1 y2 y3 y4 y5
   unfold mixer_Learn.l1
   repeat' first
   | (with_reducible exact ih0 _ _ _ _ _ _)
   | (with_reducible exact ih1 _ _ _ _ _ _ _ _)
   | (with_reducible exact ih2 _ _ _ _ _ _)
   | (with_reducible exact fixed_Round.mono _ _ _)
   | (with_reducible exact LeO.refl _)
   | (with_reducible exact LeO.none _)
   | (with_reducible refine LeO.ite ?_ ?_)
   | (with_reducible refine LeO.bind ?_ (fun _ => ?_))
   | exact ih0 _ _ _ _ _ _
   | exact ih1 _ _ _ _ _ _ _ _
   | exact ih2 _ _ _ _ _ _
   | exact fixed_Round.mono _ _ _
   | exact LeO.none _
   | refine LeO.ite ?_ ?_
   | refine LeO.bind ?_ (fun _ => ?_)
theorem mixer_Learn.mono : ∀ a0 a1 a2 a3 a4 k, LeO (mixer_Learn.f k a0 a1 a2 a3 a4) (mixer_Learn.f (k + 1) a0 a1 a2 a3 a4) := by
 intro a0 a1 a2 a3 a4 k; obtain ⟨ih0, ih1, ih2⟩ := mixer_Learn.mono_l k
 unfold mixer_Learn.f
 repeat' first
   | (with_reducible exact ih0 _ _ _ _ _ _)
   | (with_reducible exact ih1 _ _ _ _ _ _ _ _)
   | (with_reducible exact ih2 _ _ _ _ _ _)
   | (with_reducible exact fixed_Round.mono _ _ _)
   | (with_reducible exact LeO.refl _)
   | (with_reducible exact LeO.none _)
   | (with_reducible refine LeO.ite ?_ ?_)
   | (with_reducible refine LeO.bind ?_ (fun _ => ?_))
   | exact ih0 _ _ _ _ _ _
   | exact ih1 _ _ _ _ _ _ _ _
   | exact ih2 _ _ _ _ _ _
   | exact fixed_Round.mono _ _ _
   | exact LeO.none _
   | refine LeO.ite ?_ ?_
   | refine LeO.bind ?_ (fun _ => ?_)
def mixer_Learn.T10 : Bool × List (List Nat × List Nat) := (true, [([], []), ([0], [0]), ([], []), ([2], [2]), ([3], [3]), ([1, 4, 3], [1, 4]), ([0, 1, 2, 3, 4, 5], []), ([6, 5, 5, 0, 1, 2, 3, 4, 5], [5, 6])])
def mixer_Learn.B10 : List Nat := [0, 1, 0, 4, 12, 31, 63, 127]
theorem mixer_Learn.tab10 : rtab .any (opsOf Tryd.f18 10) = mixer_Learn.T10 := by kernel_rfl
theorem mixer_Learn.bits10 : waitsOk mixer_Learn.T10.2 mixer_Learn.B10 = true := by kernel_rfl
def mixer_Learn.T17 : Bool × List (List Nat × List Nat) := (true, [([], []), ([0], [0]), ([], []), ([1, 2], [1, 2]), ([3], [3]), ([], []), ([], []), ([6], [6]), ([], []), ([7, 8], [7, 8]), ([9], [9]), ([], []), ([10, 11], [10, 11]), ([12], [12]), ([], []), ([14], [14]), ([13, 15], [13, 15]), ([4, 5, 0, 1, 2, 3, 4, 5, 6, 7, 8, 9, 10, 11, 12, 13, 14, 15, 16], [4, 5]), ([17, 16, 16, 0, 1, 2, 3, 4, 5, 6, 7, 8, 9, 10, 11, 12, 13, 14, 15, 16], [16, 17])])
def mixer_Learn.B17 : List Nat := [0, 1, 0, 7, 15, 0, 0, 64, 0, 448, 960, 0, 4032, 8128, 0, 16384, 65472, 131071, 262143]
theorem mixer_Learn.tab17 : rtab .any (opsOf Tryd.f18 17) = mixer_Learn.T17 := by kernel_rfl
theorem mixer_Learn.bits17 : waitsOk mixer_Learn.T17.2 mixer_Learn.B17 = true := by kernel_rfl
set_option maxHeartbeats 8000000 in
set_option maxRecDepth 100000 in
theorem mixer_Learn.calls (k : Nat) (A0_0 : Option Addr) (c0_0 : Nat) (l0_0 : List (List Int)) (a1 : Int) (A2 : Option Addr) (c2 : Nat) (l2 : List Int) (a3 : Int) (a4 : Bool) (r1 : List (List Int)) (r2 : Int) (w : World) (hr0_0 : Kd.C (Kd.slice 21 (Kd.int .i32)) w A0_0 l0_0.length l0_0) (hc0_0 : l0_0.length ≤ c0_0) (hr2 : Kd.C (Kd.int .i32) w A2 l2.length l2) (hc2 : l2.length ≤ c2) (h : mixer_Learn.f k l0_0 a1 l2 a3 a4 = some (r1, r2)) :
  Calls Tryd.prog 18 #[.agg #[.slice A0_0 l0_0.length c0_0], .int .i64 a1, .slice A2 l2.length c2, .int .i32 a3, .bool a4] w fun e w' => ∃ v0_ : Value, e = .returned (.tuple #[.agg #[v0_], .int .i64 r2]) ∧ Kd.S (Kd.slice 21 (Kd.int .i32)) 25 w' w.heap.size (fun _ => True) v0_ r1 ∧ Below w.heap.size w w' := by
 have hu24 := Tryd.underlying24; have HR0_0 := Aside0.mk hr0_0; have HC0_0 := Aside0.mk hc0_0; clear hr0_0 hc0_0; have HR2 := Aside0.mk hr2; have HC2 := Aside0.mk hc2; clear hr2 hc2; have HB := Aside0.mk (Below.refl w.heap.size w); have H : ((mixer_check.f l0_0 a1 l2).bind fun t146 => (if t146 = 0 then (if a3 < 0 then (mixer_Learn.j0 k a1 l2 a3 a4 true l0_0) else (mixer_Learn.j0 k a1 l2 a3 a4 (decide (a3 > 4095)) l0_0)) else (some (([] : List (List Int)), t146)))) = some (r1, r2) := h; clear h; replace H := Option.bind_eq_some_iff.mp H; obtain ⟨t146, A60, H⟩ := H; replace H : (if t146 = 0 then (if a3 < 0 then (mixer_Learn.j0 k a1 l2 a3 a4 true l0_0) else (mixer_Learn.j0 k a1 l2 a3 a4 (decide (a3 > 4095)) l0_0)) else (some (([] : List (List Int)), t146))) = some (r1, r2) := H; have A6 := Aside0.mk A60; clear A60
 by_cases c7 : t146 = 0
 ·
  rw [if_pos c7] at H; have c7b0 : (t146 == 0) = true := beq_iff_eq.mpr c7; have c7b1 : (t146 != 0) = false := bne_eq_false_iff_eq.mpr c7; clear c7; have HC8 := Aside0.mk H; clear H
  go_enter Tryd.func18, Tryd.ntmps18
  go_upto_region 4 with (first | ((with_reducible refine gate_dst (N := 5) rfl ?_); refine box_event ?hg (N := 5) ?hd (cs := #[.slice A0_0 l0_0.length c0_0]) (t := 24) ?hr ?_; (case hd => rfl); (case hg => rfl); (case hr => first | (go_simp; done) | (go_simp; rfl)); intro gb144 hg w9 hbox hb; have n0_ := Aside0.mk (below_step (pH_ HB.out) hb); have n1_ := Aside0.mk (hbox); have n2_ := Aside0.mk ((by rw [hg]; exact (below_size (pH_ HB.out)) : w.heap.size ≤ gb144)); have n3_ := Aside0.mk ((by rw [hg]; exact (below_size (pH_ HB.out)) : w.heap.size ≤ gb144)); clear HB; have HB := n0_; have BK144 := n1_; have GW144 := n2_; have GE144 := n3_; clear n0_ n1_ n2_ n3_; clear hb hbox hg) | ((with_reducible refine gate_dst (N := 10) rfl ?_); refine box_event ?hg (N := 10) ?hd (cs := #[.slice none 0 0]) (t := 24) ?hr ?_; (case hd => rfl); (case hg => rfl); (case hr => first | (go_simp; done) | (go_simp; rfl)); intro gb145 hg w10 hbox hb; have n0_ := Aside0.mk (blk_below (pG_ BK144.out) hb); have n1_ := Aside0.mk (below_step (pH_ HB.out) hb); have n2_ := Aside0.mk (hbox); have n3_ := Aside0.mk ((by rw [hg]; exact (below_size (pH_ HB.out)) : w.heap.size ≤ gb145)); have n4_ := Aside0.mk ((by rw [hg]; exact (below_size (pH_ HB.out)) : w.heap.size ≤ gb145)); have n5_ := Aside0.mk ((by rw [hg]; exact Nat.ne_of_lt (blk_lt (pG_ BK144.out)) : gb144 ≠ gb145)); have n6_ := Aside0.mk ((by rw [hg]; exact Nat.ne_of_gt (blk_lt (pG_ BK144.out)) : gb145 ≠ gb144)); clear BK144; clear HB; have BK144 := n0_; have HB := n1_; have BK145 := n2_; have GW145 := n3_; have GE145 := n4_; have NB144_145 := n5_; have NB145_144 := n6_; clear n0_ n1_ n2_ n3_ n4_ n5_ n6_; clear hb hbox hg; have hnb11 := NB144_145.out; have hnc11 := NB145_144.out; have hcz12_0 : w10.cell? ⟨gb144, 0, none⟩ = some (.slice A0_0 l0_0.length c0_0) := (blk_cell BK144.out 0).trans rfl; have hfz12_0 := blk_frozen BK144.out 0) | ((with_reducible refine gate_callee (f := 25) rfl ?_); refine gL_ (some 24) Tryd.func25 #[.agg #[.slice A0_0 l0_0.length c0_0], .int .i64 a1, .slice A2 l2.length c2] ?_; (with_reducible refine (mixer_check.calls _ _ l0_0 a1 _ _ l2 t146 _ ?side1 ?side2 ?side3 ?side4 A6.out).mono ?_); (case side1 => repeat (first | exact (Kd.C_below HR0_0.out HB.out) | (with_reducible refine Kd.C_alloc ?_ _) | (with_reducible refine Kd.C_drewN ?_ _) | (with_reducible refine Kd.C_drew ?_))); (case side2 => exact HC0_0.out); (case side3 => repeat (first | exact (Kd.C_below HR2.out HB.out) | (with_reducible refine Kd.C_alloc ?_ _) | (with_reducible refine Kd.C_drewN ?_ _) | (with_reducible refine Kd.C_drew ?_))); (case side4 => exact HC2.out); rintro e w13 ⟨rfl, hb⟩; refine ⟨_, rfl, ?_⟩; have n0_ := Aside0.mk (blk_below (pG_ BK144.out) hb); have n1_ := Aside0.mk (blk_below (pG_ BK145.out) hb); have n2_ := Aside0.mk (below_step (pH_ HB.out) hb); clear BK144; clear BK145; clear HB; have BK144 := n0_; have BK145 := n1_; have HB := n2_; clear n0_ n1_ n2_; (try clear hb)))
  (try simp only [Act.put, sA_, sZ_, sS_]); (with_reducible first | refine then_id_ ?_ | (refine wp_tail_ ?_; intro Kt_ hKt_))
  go_cut [34] (fun v34 wc => ∃ (kq : Nat) (x34_7 : Bool), v34 = .bool x34_7 ∧ Aside0 (mixer_Learn.j0 kq a1 l2 a3 a4 x34_7 l0_0 = some (r1, r2)) ∧ Aside0 (kq ≤ k) ∧ Aside0 (wc.heap[gb144]? = some (.cells #[(.slice A0_0 l0_0.length c0_0)] 24 (0, 0))) ∧ Aside0 (wc.heap[gb145]? = some (.cells #[(.slice none 0 0)] 24 (0, 0))) ∧ Aside0 (Below w.heap.size w wc))
  case first =>
   have H := HC8.out; clear HC8
   by_cases c14 : a3 < 0
   ·
    rw [if_pos c14] at H; have c14b0 : decide (a3 < 0) = true := decide_eq_true c14; clear c14; (first | rw [c14b0] | (simp only [i64_w, i32_w]; rw [c14b0]) | skip); have H' := Aside0.mk H; clear H
    go_wp2
    (first | go_meet | (refine Met.intro ?_; go_step; (repeat apply Exists.intro); refine ⟨?rel, ?eqf_⟩; case eqf_ => ((simp only [c14b0, c7b0]) <;> rfl)))
    case rel => exact ⟨_, (true), (by first | rfl | (simp; done) | (simp [*]; done)), H', ⟨by first | omega | exact Nat.le_refl _⟩, ⟨pG_ BK144.out⟩, ⟨pG_ BK145.out⟩, ⟨pH_ HB.out⟩⟩
   ·
    rw [if_neg c14] at H; have c14b0 : decide (a3 < 0) = false := decide_eq_false c14; clear c14; (first | rw [c14b0] | (simp only [i64_w, i32_w]; rw [c14b0]) | skip); have H' := Aside0.mk H; clear H
    go_wp2
    (first | go_meet | (refine Met.intro ?_; go_step; (repeat apply Exists.intro); refine ⟨?rel, ?eqf_⟩; case eqf_ => ((simp only [c14b0, c7b0]) <;> rfl)))
    case rel => exact ⟨_, (decide (a3 > 4095)), (by first | rfl | (simp; done) | (simp [*]; done)), H', ⟨by first | omega | exact Nat.le_refl _⟩, ⟨pG_ BK144.out⟩, ⟨pG_ BK145.out⟩, ⟨pH_ HB.out⟩⟩
  case rest =>
   (try (refine hKt_ _ _ ?_; clear hKt_; clear Kt_)); clear HC8
   try clear c1
   try clear c2
   try clear p2
   try clear c7
   try clear c7b0
   try clear c7b1
   try clear c11
   try clear c14
   try clear c14b0
   try clear hcz12_0
   try clear hfz12_0
   obtain ⟨kq, x34_7, rfl, HA, HJ7, BK144, BK145, HB⟩ := hcut
   cases kq with
   | zero => exact absurd HA.out (by simp [mixer_Learn.j0])
   | succ kj7 =>
    have H := HA.out; clear HA; simp only [mixer_Learn.j0] at H
    by_cases c15 : x34_7 = true
    ·
     subst c15
     have H1 : (some (([] : List (List Int)), 2)) = some (r1, r2) := by rw [if_pos rfl] at H; exact H
     clear H; have H := H1; clear H1; simp only [Option.some.injEq, Prod.mk.injEq] at H; obtain ⟨rfl, rfl⟩ := H; have hnb16 := NB145_144.out; have hnc16 := NB144_145.out; have hcz17_0 : wc.cell? ⟨gb145, 0, none⟩ = some (.slice none 0 0) := (blk_cell BK145.out 0).trans rfl; have hfz17_0 := blk_frozen BK145.out 0
     go_wp2
     refine bodyPost_ret (results_ct rfl _ _ gb145 24 #[.slice none 0 0] (0, 0) _ rfl (by (with_reducible repeat (first | refine blk_drewN ?_ _ | refine blk_drew ?_ | refine blk_alloc ?_ _)); refine blk_put (cs := #[.slice none 0 0]) ?_ 0 _ rfl; (with_reducible repeat (first | refine blk_drewN ?_ _ | refine blk_drew ?_ | refine blk_alloc ?_ _)); exact BK145.out) Tryd.underlying24 rfl (by kernel_rfl)) rfl ?_; exact ⟨_, by first | rfl | (simp [errW_none, errW_some] <;> rfl) | (simp [*, errW_none, errW_some] <;> rfl), by first | exact Kd.S_nil _ _ _ _ _ | exact Kd.N_nil _ _ _ _ _ | exact Kd.V_nil _ _ _ _ _ | exact Kd.Q_nil _ _ _ _ _ | exact Kd.R_nil _ _ _ _ _, pH_ HB.out⟩
    ·
     replace c15 := Bool.eq_false_iff.mpr c15
     subst c15
     have H1 : (mixer_Learn.l0 kj7 a1 l2 a3 a4 l0_0 (l0_0.length : Int) 0 ([] : List (List Int))) = some (r1, r2) := by rw [if_neg (show ¬ (false = true) by decide)] at H; exact H
     clear H; have H := H1; clear H1; have H' := Aside0.mk H; clear H
     go_wp2_with (first | ((with_reducible refine gate_dst (N := 13) rfl ?_); refine box_event ?hg (N := 13) ?hd (cs := #[.slice none 0 0]) (t := 24) ?hr ?_; (case hd => rfl); (case hg => rfl); (case hr => first | (go_simp; done) | (go_simp; rfl)); intro gb147 hg w18 hbox hb; have n0_ := Aside0.mk (blk_below (pG_ BK144.out) hb); have n1_ := Aside0.mk (blk_below (pG_ BK145.out) hb); have n2_ := Aside0.mk (below_step (pH_ HB.out) hb); have n3_ := Aside0.mk (hbox); have n4_ := Aside0.mk ((by rw [hg]; exact (below_size (pH_ HB.out)) : w.heap.size ≤ gb147)); have n5_ := Aside0.mk ((by rw [hg]; exact (below_size (pH_ HB.out)) : w.heap.size ≤ gb147)); have n6_ := Aside0.mk ((by rw [hg]; exact Nat.ne_of_lt (blk_lt (pG_ BK144.out)) : gb144 ≠ gb147)); have n7_ := Aside0.mk ((by rw [hg]; exact Nat.ne_of_gt (blk_lt (pG_ BK144.out)) : gb147 ≠ gb144)); have n8_ := Aside0.mk ((by rw [hg]; exact Nat.ne_of_lt (blk_lt (pG_ BK145.out)) : gb145 ≠ gb147)); have n9_ := Aside0.mk ((by rw [hg]; exact Nat.ne_of_gt (blk_lt (pG_ BK145.out)) : gb147 ≠ gb145)); clear BK144; clear BK145; clear HB; have BK144 := n0_; have BK145 := n1_; have HB := n2_; have BK147 := n3_; have GW147 := n4_; have GE147 := n5_; have NB144_147 := n6_; have NB147_144 := n7_; have NB145_147 := n8_; have NB147_145 := n9_; clear n0_ n1_ n2_ n3_ n4_ n5_ n6_ n7_ n8_ n9_; clear hb hbox hg; have hnb19 := NB144_145.out; have hnc19 := NB145_144.out; have hnb20 := NB144_147.out; have hnc20 := NB147_144.out; have hcz21_0 : w18.cell? ⟨gb144, 0, none⟩ = some (.slice A0_0 l0_0.length c0_0) := (blk_cell BK144.out 0).trans rfl; have hfz21_0 := blk_frozen BK144.out 0))
     go_loopg [39] kj7 (fun kq v39 w' => ∃ (x39_2 : Int) (x148000_2 : List (List Int)) (u148000 : Value), v39 = .int .i64 x39_2 ∧ Aside0 (mixer_Learn.l0 kq a1 l2 a3 a4 l0_0 (l0_0.length : Int) x39_2 x148000_2 = some (r1, r2)) ∧ Aside0 (kq ≤ kj7) ∧ Aside0 (Kd.S (Kd.slice 21 (Kd.int .i32)) 25 w' w.heap.size (fun _ => True) u148000 x148000_2) ∧ Aside0 (w'.heap[gb144]? = some (.cells #[(.slice A0_0 l0_0.length c0_0)] 24 (0, 0))) ∧ Aside0 (w'.heap[gb145]? = some (.cells #[(.slice none 0 0)] 24 (0, 0))) ∧ Aside0 (w'.heap[gb147]? = some (.cells #[u148000] 24 (0, 0))) ∧ Aside0 (Below w.heap.size w w'))
     case atStart => exact ⟨(0), (([] : List (List Int))), (.slice none 0 0), (by first | rfl | (simp; done) | (simp [*]; done)), H', ⟨Nat.le_refl _⟩, ⟨by first | exact Kd.S_nil _ _ _ _ _ | exact Kd.N_nil _ _ _ _ _ | exact Kd.V_nil _ _ _ _ _ | exact Kd.Q_nil _ _ _ _ _ | exact Kd.R_nil _ _ _ _ _⟩, ⟨pG_ BK144.out⟩, ⟨pG_ BK145.out⟩, ⟨pG_ BK147.out⟩, ⟨pH_ HB.out⟩⟩
     case round =>
      clear H'
      try clear c1
      try clear c2
      try clear p2
      try clear c7
      try clear c7b0
      try clear c7b1
      try clear c11
      try clear c14
      try clear c14b0
      try clear c15
      try clear c16
      try clear c18
      try clear c19
      try clear c20
      try clear hcz12_0
      try clear hcz17_0
      try clear hcz21_0
      try clear hfz12_0
      try clear hfz17_0
      try clear hfz21_0
      try clear p2
      obtain ⟨x39_2, x148000_2, u148000, rfl, HA, HK2, HO_148000, BK144, BK145, BK147, HB⟩ := hrel
      cases gk with
      | zero => exact absurd HA.out (by simp [mixer_Learn.l0])
      | succ k2 =>
       have H := HA.out; clear HA; simp only [mixer_Learn.l0] at H
       by_cases c22 : x39_2 < (l0_0.length : Int)
       ·
        rw [if_pos c22] at H; have c22b0 : decide (x39_2 < (l0_0.length : Int)) = true := decide_eq_true c22; clear c22
        by_cases c23 : 0 ≤ x39_2
        ·
         rw [if_pos c23] at H; have c23b0 : decide (0 ≤ x39_2) = true := decide_eq_true c23; clear c23
         by_cases c24 : x39_2 < (l0_0.length : Int)
         ·
          rw [if_pos c24] at H; have c24b0 : decide (x39_2 < (l0_0.length : Int)) = true := decide_eq_true c24; clear c24; replace H := Option.bind_eq_some_iff.mp H; obtain ⟨t149, A250, H⟩ := H; replace H : (if x148000_2.length < 5864062014805 then (mixer_Learn.l0 k2 a1 l2 a3 a4 l0_0 (l0_0.length : Int) (wrap64 (x39_2 + 1)) (x148000_2 ++ [t149])) else (none)) = some (r1, r2) := H; have A25 := Aside0.mk A250; clear A250
          by_cases c26 : x148000_2.length < 5864062014805
          ·
           rw [if_pos c26] at H; have LMc26 := Aside0.mk c26; clear c26; obtain ⟨y152, hy152⟩ : ∃ y_ : List (List Int), y_ = (x148000_2 ++ [t149]) := ⟨_, rfl⟩
           replace H : (mixer_Learn.l0 k2 a1 l2 a3 a4 l0_0 (l0_0.length : Int) (wrap64 (x39_2 + 1)) y152) = some (r1, r2) := by first | (rw [hy152]; with_reducible exact H) | (have H2_ := (Option.bind_some _ _).symm.trans H; rw [hy152]; with_reducible exact H2_) | (have H2_ := (Option.bind_some _ _).symm.trans H; with_reducible exact H2_) | with_reducible exact H | (rw [hy152]; exact H) | exact H
           have Ny152 := Aside0.mk hy152; clear hy152; have H' := Aside0.mk H; clear H; have p148 : 0 ≤ (x39_2 : Int) := of_decide_eq_true (by first | (with_reducible assumption) | assumption); have q148 : x39_2 < (l0_0.length : Int) := of_decide_eq_true (by first | (with_reducible assumption) | assumption); obtain ⟨ad148, A148_0, c148_0, e148, hx148_0, hl148_0, hi148_0⟩ := at_L1 HR0_0.out x39_2 p148 q148
           cases e148
           replace hx148_0 := (HB.out.cell (World.block_lt_of_cell? w _ hx148_0)).trans hx148_0; have HR148_0 := Aside0.mk hi148_0; have HC148_0 := Aside0.mk hl148_0; clear hi148_0 hl148_0; replace p148 := eq_true p148; replace q148 := eq_true q148
           try go_wp2
           have n0_ := Aside0.mk (Kd.S_drew HO_148000.out); have n1_ := Aside0.mk (blk_drew BK144.out); have n2_ := Aside0.mk (blk_drew BK145.out); have n3_ := Aside0.mk (blk_drew BK147.out); have n4_ := Aside0.mk (below_drew1 HB.out); clear HO_148000; clear BK144; clear BK145; clear BK147; clear HB; have HO_148000 := n0_; have BK144 := n1_; have BK145 := n2_; have BK147 := n3_; have HB := n4_; clear n0_ n1_ n2_ n3_ n4_; refine start_ (n := 8) (S := fun w' => w'.cell? ⟨gb147, 0, none⟩ = some (u148000)) (ds := [7]) #[f_, f_, f_, f_, f_, f_, f_, f_] (by kernel_rfl) rfl rfl ((blk_cell BK147.out 0).trans rfl) (fun hHeld => ?_); refine with_tabW mixer_Learn.tab10 mixer_Learn.bits10 (fun HT_ HW_ => ?_)
           generalize wr.drew = w27 at HO_148000 BK144 BK145 BK147 HB hHeld ⊢
           refine pure_ (i := 0) (N := some 43) (v := ?_) (a' := ?_) #[t_, f_, f_, f_, f_, f_, f_, f_] rfl rfl (any_of HT_.out (by kernel_rfl)) (fun _ _ _ h => h) (Or.inl ⟨by rfl, ?_⟩) ?_ ?_; rotate_left
           ·
            intro w'; go_simp
            with_reducible rfl
           rotate_left
           ·
            simp only [Act.put, sA_, sZ_, sS_, i64_w, i32_w]; rfl
           refine pure_ (i := 2) (N := some 45) (v := ?_) (a' := ?_) #[t_, f_, t_, f_, f_, f_, f_, f_] rfl rfl (any_of HT_.out (by kernel_rfl)) (fun _ _ _ h => h) (Or.inl ⟨by rfl, ?_⟩) ?_ ?_; rotate_left
           ·
            intro w'; go_simp
            with_reducible rfl
           rotate_left
           ·
            simp only [Act.put, sA_, sZ_, sS_, i64_w, i32_w]; rfl
           refine take_ (i := 1) (N := some 44) (v := ?_) (a' := ?_) #[t_, t_, t_, f_, f_, f_, f_, f_] rfl rfl (take_ofW HT_.out HW_.out (by kernel_rfl)) (fun _ _ _ h => h) (Or.inl ⟨by rfl, ?_⟩) hHeld ?_ ?_; rotate_left
           ·
            intro w' s0; go_simp
            with_reducible rfl
           rotate_left
           ·
            simp only [Act.put, sA_, sZ_, sS_, i64_w, i32_w]; rfl
           refine one_ (i := 3) (N := some 46) #[t_, t_, t_, t_, f_, f_, f_, f_] rfl rfl (one_of HT_.out (by kernel_rfl)) (by decide) (fun K hK => ?_); refine goes_ Tryd.func33 (by kernel_rfl) rfl #[.slice A148_0 (rd_L1 l0_0 x39_2).length c148_0] (by rfl) rfl rfl (by (try simp only [List.map_toArray, List.map_cons, List.map_nil]); first | done | rfl | (simp only [List.length_drop, List.length_take]; rfl)) ?_
           with_reducible refine (slices_Clone_int32_int32.calls _ _ (rd_L1 l0_0 x39_2) t149 _ ?side1 ?side2 A25.out).mono ?_
           (case side1 => repeat (first | exact (Kd.C_below HR148_0.out HB.out) | (with_reducible refine Kd.C_alloc ?_ _) | (with_reducible refine Kd.C_drewN ?_ _) | (with_reducible refine Kd.C_drew ?_))); (case side2 => exact HC148_0.out)
           rintro e w28 ⟨v150, rfl, ho0, hb⟩
           refine ⟨_, rfl, ?_⟩; have n0_ := Aside0.mk (Kd.S_elder' (by (with_reducible repeat (first | apply Kd.S_alloc | apply Kd.S_drewN | apply Kd.S_drew)); exact HO_148000.out) (Kd.R_base ho0) hb); have n1_ := Aside0.mk (Kd.R_lower ho0 (below_size (pH_ HB.out))); have n2_ := Aside0.mk (blk_below (pG_ BK144.out) hb); have n3_ := Aside0.mk (blk_below (pG_ BK145.out) hb); have n4_ := Aside0.mk (blk_below (pG_ BK147.out) hb); have n5_ := Aside0.mk (below_step (pH_ HB.out) hb); clear HO_148000; clear BK144; clear BK145; clear BK147; clear HB; have HO_148000 := n0_; have HO151 := n1_; have BK144 := n2_; have BK145 := n3_; have BK147 := n4_; have HB := n5_; clear n0_ n1_ n2_ n3_ n4_ n5_; (try clear hb); (try clear hb2); (try clear hk); (try clear hi); (try clear ho0); obtain ⟨Ao30, co30, eo30⟩ := Kd.R_slice HO151.out; (first | subst eo30 | (injection eo30 with f1_ f2_ f3_; have f4_ := f1_.symm; have f5_ := f3_.symm; clear f1_ f2_ f3_; subst f4_; subst f5_)); refine hK.out _ _ ((blk_cell BK147.out 0).trans rfl) (fun hHeld => ?_); clear hK K; refine norm_ (a' := ?_) ?_ ?_; rotate_left
           ·
            show Act.put _ (some 46) _ = _
            simp only [Act.put, sA_, sZ_, sS_, i64_w, i32_w]; rfl
           refine one_ (i := 4) (N := some 47) #[t_, t_, t_, t_, t_, f_, f_, f_] rfl rfl (one_of HT_.out (by kernel_rfl)) (by decide) (fun K hK => ?_); refine value_ (w1 := ?_) (v := ?_) (by rfl) rfl ?_ ?_; rotate_left 2
           ·
            go_simp
            constructor
            ·
             rfl
            ·
             rfl
           refine hK.out _ _ ((blk_cell (blk_alloc BK147.out _) 0).trans rfl) (fun hHeld => ?_); clear hK K; refine norm_ (a' := ?_) ?_ ?_; rotate_left
           ·
            show Act.put _ (some 47) _ = _
            simp only [Act.put, sA_, sZ_, sS_, i64_w, i32_w]; rfl
           refine one_ (i := 5) (N := some 48) #[t_, t_, t_, t_, t_, t_, f_, f_] rfl rfl (one_of HT_.out (by kernel_rfl)) (by decide) (fun K hK => ?_); refine Kd.S_append_step (Kd.slice 21 (Kd.int .i32)) (w0 := w) w.heap.size (by rfl) (.tmp 44) (.tmp 47) 22 25 (.slice none 0 0) 24 rfl Tryd.underlying22 info25 rfl (by decide) (by omega) u148000 x148000_2 t149 [.slice Ao30 t149.length co30] (fun _ => True) (fun k_ => some k_ = (.slice Ao30 t149.length co30 : Value).ownBlock) rfl rfl ?aP (fun k_ hk_ => ((Kd.R_mono (ok' := fun k_ => ((fun _ => True)) k_ ∧ nO_ k_ u148000) (Kd.R_apart' (HO151.out) (Kd.S_typed HO_148000.out) (by decide)) (fun k_ hk => ⟨trivial, hk.2⟩))).1 k_ hk_.symm) ?aF ?aO ?aB ?aS ?aL ?_; (case aP => exact Kd.M_row (Kd.R_mono (Kd.R_tight rfl (Kd.R_mono (ok' := fun k_ => ((fun _ => True)) k_ ∧ nO_ k_ u148000) (Kd.R_apart' (HO151.out) (Kd.S_typed HO_148000.out) (by decide)) (fun k_ hk => ⟨trivial, hk.2⟩))) (fun _ h_ => h_))); (case aB => exact (pH_ HB.out)); (case aF => exact (fun _ _ => trivial)); (case aO => exact (by (with_reducible repeat (first | apply Kd.S_alloc | apply Kd.S_drewN | apply Kd.S_drew)); exact Kd.S_mono HO_148000.out (fun k_ hk => ⟨trivial, fun e_ => hk.2 e_⟩))); (case aS => exact (below_size (pH_ HB.out))); (case aL => have := LMc26.out; omega); intro v153 w29 ho hb hg hat; rw [← Ny152.out] at ho; have n0_ := Aside0.mk (blk_grown (g := gb144) (o := .cells #[.slice (some ad148) l0_0.length c0_0] 24 (0, 0)) (pG_ BK144.out) hg (Kd.S_ne HO_148000.out BK144.out (by decide))); have n1_ := Aside0.mk (blk_grown (g := gb145) (o := .cells #[.slice none 0 0] 24 (0, 0)) (pG_ BK145.out) hg (Kd.S_ne HO_148000.out BK145.out (by decide))); have n2_ := Aside0.mk (blk_grown (g := gb147) (o := .cells #[u148000] 24 (0, 0)) (pG_ BK147.out) hg (Kd.S_ne HO_148000.out BK147.out (by decide))); have n3_ := Aside0.mk (hb); have n4_ := Aside0.mk (ho); clear BK144; clear BK145; clear BK147; clear HB; clear HO_148000; clear HO151; have BK144 := n0_; have BK145 := n1_; have BK147 := n2_; have HB := n3_; have HO154 := n4_; clear n0_ n1_ n2_ n3_ n4_; clear ho hb hg hat; obtain ⟨Ao31, co31, eo31⟩ := Kd.S_slice HO154.out; (first | subst eo31 | (injection eo31 with f1_ f2_ f3_; have f4_ := f1_.symm; have f5_ := f3_.symm; clear f1_ f2_ f3_; subst f4_; subst f5_)); refine hK.out _ _ ((blk_cell BK147.out 0).trans rfl) (fun hHeld => ?_); clear hK K; refine norm_ (a' := ?_) ?_ ?_; rotate_left
           ·
            show Act.put _ (some 48) _ = _
            simp only [Act.put, sA_, sZ_, sS_, i64_w, i32_w]; rfl
           refine pure_ (i := 6) (N := some 49) (v := ?_) (a' := ?_) #[t_, t_, t_, t_, t_, t_, t_, f_] rfl rfl (any_of HT_.out (by kernel_rfl)) (fun _ _ _ h => h) (Or.inl ⟨by rfl, ?_⟩) ?_ ?_; rotate_left
           ·
            intro w'; go_simp
            with_reducible rfl
           rotate_left
           ·
            simp only [Act.put, sA_, sZ_, sS_, i64_w, i32_w]; rfl
           refine last_ (i := 7) (N := none) #[t_, t_, t_, t_, t_, t_, t_, t_] rfl rfl (one_of HT_.out (by kernel_rfl)) (by decide) (fun K hK => ?_); have hs32 : w29.cell? ⟨gb147, 0, none⟩ = some (u148000) := (blk_cell BK147.out 0).trans rfl; have hfs32 := blk_frozen BK147.out 0; have hns32_0 := NB144_147.out; have hns32_1 := NB145_147.out; have hms32_0 := NB147_144.out; have hms32_1 := NB147_145.out; refine skip_ (w1 := ?_) (by rfl) rfl ?_ ?_; rotate_left
           ·
            go_simp; rfl
           refine hK.out _ _ ?_; clear hK K; refine done_ (done_of HT_.out (by kernel_rfl)) ?_
           try go_wp2
           go_roundg k2
           case measure => have := HJ7.out; have := HK2.out; omega
           case rel => exact ⟨(wrap64 (x39_2 + 1)), (y152), (.slice Ao31 y152.length co31), (by first | rfl | (simp; done) | (simp [*]; done)), H', ⟨by have := HJ7.out; have := HK2.out; omega⟩, ⟨by (with_reducible repeat (first | apply Kd.S_alloc | apply Kd.S_drewN | apply Kd.S_drew)); exact Kd.S_mono (Kd.S_far (p := ⟨gb147, 0, none⟩) (Kd.S_types HO154.out BK147.out (by decide)) (fun _ hk => hk.2) (.slice Ao31 y152.length co31)) (fun _ hk => trivial)⟩, ⟨by (with_reducible repeat (first | refine blk_drewN ?_ _ | refine blk_drew ?_ | refine blk_alloc ?_ _)); refine blk_far ?_ NB144_147.out _; (with_reducible repeat (first | refine blk_drewN ?_ _ | refine blk_drew ?_ | refine blk_alloc ?_ _)); exact BK144.out⟩, ⟨by (with_reducible repeat (first | refine blk_drewN ?_ _ | refine blk_drew ?_ | refine blk_alloc ?_ _)); refine blk_far ?_ NB145_147.out _; (with_reducible repeat (first | refine blk_drewN ?_ _ | refine blk_drew ?_ | refine blk_alloc ?_ _)); exact BK145.out⟩, ⟨by (with_reducible repeat (first | refine blk_drewN ?_ _ | refine blk_drew ?_ | refine blk_alloc ?_ _)); refine blk_put (cs := #[u148000]) ?_ 0 _ rfl; (with_reducible repeat (first | refine blk_drewN ?_ _ | refine blk_drew ?_ | refine blk_alloc ?_ _)); exact BK147.out⟩, ⟨pH_ HB.out⟩⟩
          ·
           rw [if_neg c26] at H; exact absurd H (by simp)
         ·
          rw [if_neg c24] at H; exact absurd H (by simp)
        ·
         rw [if_neg c23] at H; exact absurd H (by simp)
       ·
        rw [if_neg c22] at H; have c22b0 : decide (x39_2 < (l0_0.length : Int)) = false := decide_eq_false c22; clear c22; replace H := Option.bind_eq_some_iff.mp H; obtain ⟨t155, A330, H⟩ := H; replace H : (mixer_Learn.l1 k2 a1 (wrap64 ((wrap64 (t155)) * 7)) l2 (l2.length : Int) 0 x148000_2) = some (r1, r2) := H; have A33 := Aside0.mk A330; clear A330; have H' := Aside0.mk H; clear H
        go_wp2_with (first | ((with_reducible refine gate_callee (f := 29) rfl ?_); refine gL_ (some 53) Tryd.func29 #[.int .i32 a3, .bool a4] ?_; (with_reducible refine (mixer_wrong.calls a3 a4 t155 _ A33.out).mono ?_); rintro e w' ⟨rfl, ⟨nd, rfl⟩⟩; refine ⟨_, rfl, ?_⟩))
        go_loopg [58] k2 (fun kq v58 w' => ∃ (x58_3 : Int) (x148000_3 : List (List Int)) (u148000 : Value), v58 = .int .i64 x58_3 ∧ Aside0 (mixer_Learn.l1 kq a1 (wrap64 ((wrap64 (t155)) * 7)) l2 (l2.length : Int) x58_3 x148000_3 = some (r1, r2)) ∧ Aside0 (kq ≤ k2) ∧ Aside0 (Kd.S (Kd.slice 21 (Kd.int .i32)) 25 w' w.heap.size (fun _ => True) u148000 x148000_3) ∧ Aside0 (w'.heap[gb144]? = some (.cells #[(.slice A0_0 l0_0.length c0_0)] 24 (0, 0))) ∧ Aside0 (w'.heap[gb145]? = some (.cells #[(.slice none 0 0)] 24 (0, 0))) ∧ Aside0 (w'.heap[gb147]? = some (.cells #[u148000] 24 (0, 0))) ∧ Aside0 (Below w.heap.size w w'))
        case atStart => exact ⟨(0), (x148000_2), (u148000), (by first | rfl | (simp; done) | (simp [*]; done)), H', ⟨Nat.le_refl _⟩, ⟨by (with_reducible repeat (first | apply Kd.S_alloc | apply Kd.S_drewN | apply Kd.S_drew)); exact HO_148000.out⟩, ⟨pG_ BK144.out⟩, ⟨pG_ BK145.out⟩, ⟨pG_ BK147.out⟩, ⟨pH_ HB.out⟩⟩
        case round =>
         clear H'
         try clear c1
         try clear p1
         try clear q1
         try clear hx1
         try clear c2
         try clear p2
         try clear c3
         try clear p6
         try clear c7
         try clear c7b0
         try clear c7b1
         try clear c11
         try clear c14
         try clear c14b0
         try clear p14
         try clear q14
         try clear hx14
         try clear c15
         try clear c16
         try clear c18
         try clear c19
         try clear c20
         try clear c22
         try clear c22b0
         try clear c23
         try clear c23b0
         try clear c24
         try clear c24b0
         try clear c25
         try clear c26
         try clear c29
         try clear c33
         try clear hcz12_0
         try clear hcz17_0
         try clear hcz21_0
         try clear hfz12_0
         try clear hfz17_0
         try clear hfz21_0
         try clear hx148_0
         try clear p148
         try clear p2
         try clear q148
         obtain ⟨x58_3, x148000_3, u148000, rfl, HA, HK3, HO_148000, BK144, BK145, BK147, HB⟩ := hrel
         cases gk with
         | zero => exact absurd HA.out (by simp [mixer_Learn.l1])
         | succ k3 =>
          have H := HA.out; clear HA; simp only [mixer_Learn.l1] at H
          by_cases c34 : x58_3 < (l2.length : Int)
          ·
           rw [if_pos c34] at H; have c34b0 : decide (x58_3 < (l2.length : Int)) = true := decide_eq_true c34; clear c34
           by_cases c35 : 0 ≤ x58_3
           ·
            rw [if_pos c35] at H; have c35b0 : decide (0 ≤ x58_3) = true := decide_eq_true c35; clear c35
            by_cases c36 : x58_3 < (l2.length : Int)
            ·
             rw [if_pos c36] at H; have c36b0 : decide (x58_3 < (l2.length : Int)) = true := decide_eq_true c36; clear c36; replace H := Option.bind_eq_some_iff.mp H; obtain ⟨⟨t157, t158⟩, A370, H⟩ := H; replace H : (if 0 ≤ a1 then (if a1 < (x148000_3.length : Int) then (if x58_3 < ((rd_L1 x148000_3 a1).length : Int) then ((fixed_Add.f (rd (rd_L1 x148000_3 a1) x58_3) (wrap32 (t157))).bind fun t162 => (mixer_Learn.l1 k3 a1 (wrap64 ((wrap64 (t155)) * 7)) l2 (l2.length : Int) (wrap64 (x58_3 + 1)) (x148000_3.set (a1 : Int).toNat ((rd_L1 x148000_3 a1).set (x58_3 : Int).toNat t162)))) else (none)) else (none)) else (none)) = some (r1, r2) := H; have A37 := Aside0.mk A370; clear A370
             by_cases c38 : 0 ≤ a1
             ·
              rw [if_pos c38] at H; have c38b0 : decide (0 ≤ a1) = true := decide_eq_true c38; clear c38
              by_cases c39 : a1 < (x148000_3.length : Int)
              ·
               rw [if_pos c39] at H; have c39b0 : decide (a1 < (x148000_3.length : Int)) = true := decide_eq_true c39; clear c39
               by_cases c40 : x58_3 < ((rd_L1 x148000_3 a1).length : Int)
               ·
                rw [if_pos c40] at H; have c40b0 : decide (x58_3 < ((rd_L1 x148000_3 a1).length : Int)) = true := decide_eq_true c40; clear c40; replace H := Option.bind_eq_some_iff.mp H; obtain ⟨t162, A410, H⟩ := H; replace H : (mixer_Learn.l1 k3 a1 (wrap64 ((wrap64 (t155)) * 7)) l2 (l2.length : Int) (wrap64 (x58_3 + 1)) (x148000_3.set (a1 : Int).toNat ((rd_L1 x148000_3 a1).set (x58_3 : Int).toNat t162))) = some (r1, r2) := H; have A41 := Aside0.mk A410; clear A410; obtain ⟨y163, hy163⟩ : ∃ y_ : List Int, y_ = ((rd_L1 x148000_3 a1).set (x58_3 : Int).toNat t162) := ⟨_, rfl⟩
                replace H : (mixer_Learn.l1 k3 a1 (wrap64 ((wrap64 (t155)) * 7)) l2 (l2.length : Int) (wrap64 (x58_3 + 1)) (x148000_3.set (a1 : Int).toNat y163)) = some (r1, r2) := by first | (rw [hy163]; with_reducible exact H) | (have H2_ := (Option.bind_some _ _).symm.trans H; rw [hy163]; with_reducible exact H2_) | (have H2_ := (Option.bind_some _ _).symm.trans H; with_reducible exact H2_) | with_reducible exact H | (rw [hy163]; exact H) | exact H
                have Ny163 := Aside0.mk hy163; clear hy163; obtain ⟨y165, hy165⟩ : ∃ y_ : List (List Int), y_ = (x148000_3.set (a1 : Int).toNat y163) := ⟨_, rfl⟩
                replace H : (mixer_Learn.l1 k3 a1 (wrap64 ((wrap64 (t155)) * 7)) l2 (l2.length : Int) (wrap64 (x58_3 + 1)) y165) = some (r1, r2) := by first | (rw [hy165]; with_reducible exact H) | (have H2_ := (Option.bind_some _ _).symm.trans H; rw [hy165]; with_reducible exact H2_) | (have H2_ := (Option.bind_some _ _).symm.trans H; with_reducible exact H2_) | with_reducible exact H | (rw [hy165]; exact H) | exact H
                have Ny165 := Aside0.mk hy165; clear hy165; have H' := Aside0.mk H; clear H; have p156 : 0 ≤ (x58_3 : Int) := of_decide_eq_true (by first | (with_reducible assumption) | assumption); have q156 : x58_3 < (l2.length : Int) := of_decide_eq_true (by first | (with_reducible assumption) | assumption); obtain ⟨ad156, e156, hx156_0⟩ := Kd.at_int HR2.out x58_3 p156 q156
                cases e156
                replace hx156_0 := (HB.out.cell (World.block_lt_of_cell? w _ hx156_0)).trans hx156_0; replace p156 := eq_true p156; replace q156 := eq_true q156
                try go_wp2_with (first | ((with_reducible refine gate_callee (f := 34) rfl ?_); refine gL_ (some 68) Tryd.func34 #[.int .i64 (wrap64 ((wrap64 (rd l2 x58_3)) * (wrap64 ((wrap64 (t155)) * 7)))), .int .i64 14] ?_; (with_reducible refine (fixed_Round.calls k3 (wrap64 ((wrap64 (rd l2 x58_3)) * (wrap64 ((wrap64 (t155)) * 7)))) 14 t157 t158 _ A37.out).mono ?_); rintro e w' ⟨rfl, ⟨nd, rfl⟩⟩; refine ⟨_, rfl, ?_⟩; (try (rw [drewN_self wr]; generalize hq_ : World.drewN wr _ = wr; have n0_ : Aside0 (Kd.S (Kd.slice 21 (Kd.int .i32)) 25 wr w.heap.size (fun _ => True) u148000 x148000_3) := ⟨by rw [← hq_]; exact (by (with_reducible repeat (first | apply Kd.S_alloc | apply Kd.S_drewN | apply Kd.S_drew)); exact HO_148000.out)⟩; have n1_ : Aside0 (wr.heap[gb144]? = some (.cells #[.slice A0_0 l0_0.length c0_0] 24 (0, 0))) := ⟨by rw [← hq_]; exact (pG_ BK144.out)⟩; have n2_ : Aside0 (wr.heap[gb145]? = some (.cells #[.slice none 0 0] 24 (0, 0))) := ⟨by rw [← hq_]; exact (pG_ BK145.out)⟩; have n3_ : Aside0 (wr.heap[gb147]? = some (.cells #[u148000] 24 (0, 0))) := ⟨by rw [← hq_]; exact (pG_ BK147.out)⟩; have n4_ : Aside0 (Below w.heap.size w wr) := ⟨by rw [← hq_]; exact (pH_ HB.out)⟩; clear HO_148000 BK144 BK145 BK147 HB hq_; have HO_148000 := n0_; have BK144 := n1_; have BK145 := n2_; have BK147 := n3_; have HB := n4_; clear n0_ n1_ n2_ n3_ n4_))))
                have n0_ := Aside0.mk (Kd.S_drew HO_148000.out); have n1_ := Aside0.mk (blk_drew BK144.out); have n2_ := Aside0.mk (blk_drew BK145.out); have n3_ := Aside0.mk (blk_drew BK147.out); have n4_ := Aside0.mk (below_drew1 HB.out); clear HO_148000; clear BK144; clear BK145; clear BK147; clear HB; have HO_148000 := n0_; have BK144 := n1_; have BK145 := n2_; have BK147 := n3_; have HB := n4_; clear n0_ n1_ n2_ n3_ n4_; obtain ⟨Ao44, co44, eo44⟩ := Kd.S_slice HO_148000.out; (first | subst eo44 | (injection eo44 with f1_ f2_ f3_; have f4_ := f1_.symm; have f5_ := f3_.symm; clear f1_ f2_ f3_; subst f4_; subst f5_)); have p159 : 0 ≤ (a1 : Int) := of_decide_eq_true (by first | (with_reducible assumption) | assumption); have q159 : a1 < (x148000_3.length : Int) := of_decide_eq_true (by first | (with_reducible assumption) | assumption); obtain ⟨ad159, A159_0, c159_0, e159, hx159_0, hl159_0, hi159_0⟩ := at_L1 (Kd.S_reads' HO_148000.out).2.2 a1 p159 q159
                cases e159
                obtain ⟨ce159, hce159, hMe159, hcc159⟩ := Kd.S_get HO_148000.out [] a1 p159 (by first | exact q159 | exact of_decide_eq_true (by first | (with_reducible assumption) | assumption) | (have e_ := (Kd.S_reads' HO_148000.out).1; omega)); obtain ⟨ve159_0, rfl, ge159_0⟩ := hMe159; have hv159_0 := hcc159 0 _ rfl; rw [Nat.add_zero, show ((Kd.slice 21 (Kd.int .i32))).sz = 1 from rfl, Nat.mul_one] at hv159_0; replace hv159_0 := Option.some.inj (hv159_0.symm.trans hx159_0); rw [hv159_0] at ge159_0; have HL159_0 := Aside0.mk (show Kd.R (Kd.int .i32) 21 _ _ _ _ (rd_L1 x148000_3 a1) from ge159_0); clear hv159_0 ge159_0; have HX159_0 := Aside0.mk hx159_0; clear hcc159 hce159; have HR159_0 := Aside0.mk hi159_0; have HC159_0 := Aside0.mk hl159_0; clear hi159_0 hl159_0; replace p159 := eq_true p159; replace q159 := eq_true q159; have p160 : 0 ≤ (a1 : Int) := of_decide_eq_true (by first | (with_reducible assumption) | assumption); have q160 : a1 < (x148000_3.length : Int) := of_decide_eq_true (by first | (with_reducible assumption) | assumption); obtain ⟨ad160, A160_0, c160_0, e160, hx160_0, hl160_0, hi160_0⟩ := at_L1 (Kd.S_reads' HO_148000.out).2.2 a1 p160 q160; obtain rfl : ad159 = ad160 := (by injection e160); obtain ⟨ce160, hce160, hMe160, hcc160⟩ := Kd.S_get HO_148000.out [] a1 p160 (by first | exact q160 | exact of_decide_eq_true (by first | (with_reducible assumption) | assumption) | (have e_ := (Kd.S_reads' HO_148000.out).1; omega)); obtain ⟨ve160_0, rfl, ge160_0⟩ := hMe160; have hv160_0 := hcc160 0 _ rfl; rw [Nat.add_zero, show ((Kd.slice 21 (Kd.int .i32))).sz = 1 from rfl, Nat.mul_one] at hv160_0; replace hv160_0 := Option.some.inj (hv160_0.symm.trans hx160_0); rw [hv160_0] at ge160_0; have HL160_0 := Aside0.mk (show Kd.R (Kd.int .i32) 21 _ _ _ _ (rd_L1 x148000_3 a1) from ge160_0); clear hv160_0 ge160_0; have HX160_0 := Aside0.mk hx160_0; clear hcc160 hce160; have HR160_0 := Aside0.mk hi160_0; have HC160_0 := Aside0.mk hl160_0; clear hi160_0 hl160_0; replace p160 := eq_true p160; replace q160 := eq_true q160; have ea_ := Option.some.inj (hx159_0.symm.trans hx160_0)
                injection ea_ with ea_ en_ ec_
                subst ea_
                subst ec_
                clear en_; have p161 : 0 ≤ (x58_3 : Int) := of_decide_eq_true (by first | (with_reducible assumption) | assumption); have q161 : x58_3 < ((rd_L1 x148000_3 a1).length : Int) := of_decide_eq_true (by first | (with_reducible assumption) | assumption); obtain ⟨ad161, e161, hx161_0⟩ := Kd.at_int (by repeat (first | (with_reducible exact HR160_0.out) | (with_reducible refine Kd.C_alloc ?_ _) | (with_reducible refine Kd.C_drewN ?_ _) | (with_reducible refine Kd.C_drew ?_) | exact HR160_0.out)) x58_3 p161 q161
                cases e161
                replace p161 := eq_true p161; replace q161 := eq_true q161; refine start_ (n := 19) (S := fun w' => w'.cell? ⟨gb147, 0, none⟩ = some (.slice (some ad159) x148000_3.length co44) ∧ w'.cell? (ad159.add (a1).toNat) = some (.slice (some ad161) (rd_L1 x148000_3 a1).length c159_0) ∧ w'.cell? (ad159.add (a1).toNat) = some (.slice (some ad161) (rd_L1 x148000_3 a1).length c159_0) ∧ w'.cell? (ad161.add (x58_3).toNat) = some (.int .i32 (rd (rd_L1 x148000_3 a1) x58_3))) (ds := [18]) #[f_, f_, f_, f_, f_, f_, f_, f_, f_, f_, f_, f_, f_, f_, f_, f_, f_, f_, f_] (by kernel_rfl) rfl rfl ⟨(blk_cell BK147.out 0).trans rfl, hx159_0, hx160_0, hx161_0⟩ (fun hHeld => ?_); refine with_tabW mixer_Learn.tab17 mixer_Learn.bits17 (fun HT_ HW_ => ?_)
                generalize wr.drew = w43 at HO_148000 BK144 BK145 BK147 HB HL159_0 HL160_0 HR159_0 HR160_0 HX159_0 HX160_0 hx159_0 hx160_0 hx161_0 hHeld ⊢
                refine pure_ (i := 0) (N := some 71) (v := ?_) (a' := ?_) #[t_, f_, f_, f_, f_, f_, f_, f_, f_, f_, f_, f_, f_, f_, f_, f_, f_, f_, f_] rfl rfl (any_of HT_.out (by kernel_rfl)) (fun _ _ _ h => h) (Or.inl ⟨by rfl, ?_⟩) ?_ ?_; rotate_left
                ·
                 intro w'; go_simp
                 with_reducible rfl
                rotate_left
                ·
                 simp only [Act.put, sA_, sZ_, sS_, i64_w, i32_w]; rfl
                refine pure_ (i := 2) (N := some 73) (v := ?_) (a' := ?_) #[t_, f_, t_, f_, f_, f_, f_, f_, f_, f_, f_, f_, f_, f_, f_, f_, f_, f_, f_] rfl rfl (any_of HT_.out (by kernel_rfl)) (fun _ _ _ h => h) (Or.inl ⟨by rfl, ?_⟩) ?_ ?_; rotate_left
                ·
                 intro w'; go_simp
                 with_reducible rfl
                rotate_left
                ·
                 simp only [Act.put, sA_, sZ_, sS_, i64_w, i32_w]; rfl
                refine pure_ (i := 5) (N := some 76) (v := ?_) (a' := ?_) #[t_, f_, t_, f_, f_, t_, f_, f_, f_, f_, f_, f_, f_, f_, f_, f_, f_, f_, f_] rfl rfl (any_of HT_.out (by kernel_rfl)) (fun _ _ _ h => h) (Or.inl ⟨by rfl, ?_⟩) ?_ ?_; rotate_left
                ·
                 intro w'; go_simp
                 with_reducible rfl
                rotate_left
                ·
                 simp only [Act.put, sA_, sZ_, sS_, i64_w, i32_w]; rfl
                refine pure_ (i := 6) (N := some 77) (v := ?_) (a' := ?_) #[t_, f_, t_, f_, f_, t_, t_, f_, f_, f_, f_, f_, f_, f_, f_, f_, f_, f_, f_] rfl rfl (any_of HT_.out (by kernel_rfl)) (fun _ _ _ h => h) (Or.inl ⟨by rfl, ?_⟩) ?_ ?_; rotate_left
                ·
                 intro w'; go_simp
                 with_reducible rfl
                rotate_left
                ·
                 simp only [Act.put, sA_, sZ_, sS_, i64_w, i32_w]; rfl
                refine pure_ (i := 8) (N := some 79) (v := ?_) (a' := ?_) #[t_, f_, t_, f_, f_, t_, t_, f_, t_, f_, f_, f_, f_, f_, f_, f_, f_, f_, f_] rfl rfl (any_of HT_.out (by kernel_rfl)) (fun _ _ _ h => h) (Or.inl ⟨by rfl, ?_⟩) ?_ ?_; rotate_left
                ·
                 intro w'; go_simp
                 with_reducible rfl
                rotate_left
                ·
                 simp only [Act.put, sA_, sZ_, sS_, i64_w, i32_w]; rfl
                refine pure_ (i := 11) (N := some 82) (v := ?_) (a' := ?_) #[t_, f_, t_, f_, f_, t_, t_, f_, t_, f_, f_, t_, f_, f_, f_, f_, f_, f_, f_] rfl rfl (any_of HT_.out (by kernel_rfl)) (fun _ _ _ h => h) (Or.inl ⟨by rfl, ?_⟩) ?_ ?_; rotate_left
                ·
                 intro w'; go_simp
                 with_reducible rfl
                rotate_left
                ·
                 simp only [Act.put, sA_, sZ_, sS_, i64_w, i32_w]; rfl
                refine pure_ (i := 14) (N := some 85) (v := ?_) (a' := ?_) #[t_, f_, t_, f_, f_, t_, t_, f_, t_, f_, f_, t_, f_, f_, t_, f_, f_, f_, f_] rfl rfl (any_of HT_.out (by kernel_rfl)) (fun _ _ _ h => h) (Or.inl ⟨by rfl, ?_⟩) ?_ ?_; rotate_left
                ·
                 intro w'; go_simp
                 with_reducible rfl
                rotate_left
                ·
                 simp only [Act.put, sA_, sZ_, sS_, i64_w, i32_w]; rfl
                refine pure_ (i := 15) (N := some 86) (v := ?_) (a' := ?_) #[t_, f_, t_, f_, f_, t_, t_, f_, t_, f_, f_, t_, f_, f_, t_, t_, f_, f_, f_] rfl rfl (any_of HT_.out (by kernel_rfl)) (fun _ _ _ h => h) (Or.inl ⟨by rfl, ?_⟩) ?_ ?_; rotate_left
                ·
                 intro w'; go_simp
                 with_reducible rfl
                rotate_left
                ·
                 simp only [Act.put, sA_, sZ_, sS_, i64_w, i32_w]; rfl
                refine take_ (i := 1) (N := some 72) (v := ?_) (a' := ?_) #[t_, t_, t_, f_, f_, t_, t_, f_, t_, f_, f_, t_, f_, f_, t_, t_, f_, f_, f_] rfl rfl (take_ofW HT_.out HW_.out (by kernel_rfl)) (fun _ _ _ h => h) (Or.inl ⟨by rfl, ?_⟩) hHeld ?_ ?_; rotate_left
                ·
                 rintro w' ⟨s0, s1, s2, s3⟩
                 go_simp
                 with_reducible rfl
                rotate_left
                ·
                 simp only [Act.put, sA_, sZ_, sS_, i64_w, i32_w]; rfl
                refine pure_ (i := 3) (N := some 74) (v := ?_) (a' := ?_) #[t_, t_, t_, t_, f_, t_, t_, f_, t_, f_, f_, t_, f_, f_, t_, t_, f_, f_, f_] rfl rfl (any_of HT_.out (by kernel_rfl)) (fun _ _ _ h => h) (Or.inl ⟨by rfl, ?_⟩) ?_ ?_; rotate_left
                ·
                 intro w'; go_simp
                 with_reducible rfl
                rotate_left
                ·
                 simp only [Act.put, sA_, sZ_, sS_, i64_w, i32_w]; rfl
                refine take_ (i := 4) (N := some 75) (v := ?_) (a' := ?_) #[t_, t_, t_, t_, t_, t_, t_, f_, t_, f_, f_, t_, f_, f_, t_, t_, f_, f_, f_] rfl rfl (take_ofW HT_.out HW_.out (by kernel_rfl)) (fun _ _ _ h => h) (Or.inl ⟨by rfl, ?_⟩) hHeld ?_ ?_; rotate_left
                ·
                 rintro w' ⟨s0, s1, s2, s3⟩
                 go_simp
                 with_reducible rfl
                rotate_left
                ·
                 simp only [Act.put, sA_, sZ_, sS_, i64_w, i32_w]; rfl
                refine take_ (i := 7) (N := some 78) (v := ?_) (a' := ?_) #[t_, t_, t_, t_, t_, t_, t_, t_, t_, f_, f_, t_, f_, f_, t_, t_, f_, f_, f_] rfl rfl (take_ofW HT_.out HW_.out (by kernel_rfl)) (fun _ _ _ h => h) (Or.inl ⟨by rfl, ?_⟩) hHeld ?_ ?_; rotate_left
                ·
                 rintro w' ⟨s0, s1, s2, s3⟩
                 go_simp
                 with_reducible rfl
                rotate_left
                ·
                 simp only [Act.put, sA_, sZ_, sS_, i64_w, i32_w]; rfl
                refine pure_ (i := 9) (N := some 80) (v := ?_) (a' := ?_) #[t_, t_, t_, t_, t_, t_, t_, t_, t_, t_, f_, t_, f_, f_, t_, t_, f_, f_, f_] rfl rfl (any_of HT_.out (by kernel_rfl)) (fun _ _ _ h => h) (Or.inl ⟨by rfl, ?_⟩) ?_ ?_; rotate_left
                ·
                 intro w'; go_simp
                 with_reducible rfl
                rotate_left
                ·
                 simp only [Act.put, sA_, sZ_, sS_, i64_w, i32_w]; rfl
                refine take_ (i := 10) (N := some 81) (v := ?_) (a' := ?_) #[t_, t_, t_, t_, t_, t_, t_, t_, t_, t_, t_, t_, f_, f_, t_, t_, f_, f_, f_] rfl rfl (take_ofW HT_.out HW_.out (by kernel_rfl)) (fun _ _ _ h => h) (Or.inl ⟨by rfl, ?_⟩) hHeld ?_ ?_; rotate_left
                ·
                 rintro w' ⟨s0, s1, s2, s3⟩
                 go_simp
                 with_reducible rfl
                rotate_left
                ·
                 simp only [Act.put, sA_, sZ_, sS_, i64_w, i32_w]; rfl
                refine pure_ (i := 12) (N := some 83) (v := ?_) (a' := ?_) #[t_, t_, t_, t_, t_, t_, t_, t_, t_, t_, t_, t_, t_, f_, t_, t_, f_, f_, f_] rfl rfl (any_of HT_.out (by kernel_rfl)) (fun _ _ _ h => h) (Or.inl ⟨by rfl, ?_⟩) ?_ ?_; rotate_left
                ·
                 intro w'; go_simp
                 with_reducible rfl
                rotate_left
                ·
                 simp only [Act.put, sA_, sZ_, sS_, i64_w, i32_w]; rfl
                refine take_ (i := 13) (N := some 84) (v := ?_) (a' := ?_) #[t_, t_, t_, t_, t_, t_, t_, t_, t_, t_, t_, t_, t_, t_, t_, t_, f_, f_, f_] rfl rfl (take_ofW HT_.out HW_.out (by kernel_rfl)) (fun _ _ _ h => h) (Or.inl ⟨by rfl, ?_⟩) hHeld ?_ ?_; rotate_left
                ·
                 rintro w' ⟨s0, s1, s2, s3⟩
                 go_simp
                 with_reducible rfl
                rotate_left
                ·
                 simp only [Act.put, sA_, sZ_, sS_, i64_w, i32_w]; rfl
                refine one_ (i := 16) (N := some 87) #[t_, t_, t_, t_, t_, t_, t_, t_, t_, t_, t_, t_, t_, t_, t_, t_, t_, f_, f_] rfl rfl (one_of HT_.out (by kernel_rfl)) (by decide) (fun K hK => ?_); refine goes_ Tryd.func35 (by kernel_rfl) rfl #[.int .i32 (rd (rd_L1 x148000_3 a1) x58_3), .int .i32 (wrap32 (t157))] (by rfl) rfl rfl (by (try simp only [List.map_toArray, List.map_cons, List.map_nil]); first | done | rfl | (simp only [List.length_drop, List.length_take]; rfl)) ?_
                with_reducible refine (fixed_Add.calls (rd (rd_L1 x148000_3 a1) x58_3) (wrap32 (t157)) t162 _ A41.out).mono ?_
                rintro e w45 ⟨rfl, hb⟩
                have HS1_ := (hb.cell (World.block_lt_of_cell? _ _ (hHeld.2.1))).trans (hHeld.2.1); have HS2_ := (hb.cell (World.block_lt_of_cell? _ _ (hHeld.2.2.1))).trans (hHeld.2.2.1); have HS3_ := (hb.cell (World.block_lt_of_cell? _ _ (hHeld.2.2.2))).trans (hHeld.2.2.2); refine ⟨_, rfl, ?_⟩; have n0_ := Aside0.mk (Kd.S_below (by (with_reducible repeat (first | apply Kd.S_alloc | apply Kd.S_drewN | apply Kd.S_drew)); exact HO_148000.out) hb); have n1_ := Aside0.mk (Kd.R_below (by (with_reducible repeat (first | apply rA_ | apply rN_ | apply rD_)); exact HL159_0.out) hb); have n2_ := Aside0.mk (Kd.R_below (by (with_reducible repeat (first | apply rA_ | apply rN_ | apply rD_)); exact HL160_0.out) hb); have n3_ := Aside0.mk (blk_below (pG_ BK144.out) hb); have n4_ := Aside0.mk (blk_below (pG_ BK145.out) hb); have n5_ := Aside0.mk (blk_below (pG_ BK147.out) hb); have n6_ := Aside0.mk (Kd.C_below (by repeat (first | (with_reducible exact HR159_0.out) | (with_reducible refine Kd.C_alloc ?_ _) | (with_reducible refine Kd.C_drewN ?_ _) | (with_reducible refine Kd.C_drew ?_) | exact HR159_0.out)) hb); have n7_ := Aside0.mk (pw_cell_below hb HX159_0.out); have n8_ := Aside0.mk (Kd.C_below (by repeat (first | (with_reducible exact HR160_0.out) | (with_reducible refine Kd.C_alloc ?_ _) | (with_reducible refine Kd.C_drewN ?_ _) | (with_reducible refine Kd.C_drew ?_) | exact HR160_0.out)) hb); have n9_ := Aside0.mk (pw_cell_below hb HX160_0.out); have n10_ := Aside0.mk (below_step (pH_ HB.out) hb); clear HO_148000; clear HL159_0; clear HL160_0; clear BK144; clear BK145; clear BK147; clear HR159_0; clear HX159_0; clear HR160_0; clear HX160_0; clear HB; have HO_148000 := n0_; have HL159_0 := n1_; have HL160_0 := n2_; have BK144 := n3_; have BK145 := n4_; have BK147 := n5_; have HR159_0 := n6_; have HX159_0 := n7_; have HR160_0 := n8_; have HX160_0 := n9_; have HB := n10_; clear n0_ n1_ n2_ n3_ n4_ n5_ n6_ n7_ n8_ n9_ n10_; (try clear hb); (try clear hb2); (try clear hk); (try clear hi); have p42 : 0 ≤ (x58_3 : Int) := of_decide_eq_true (by first | (with_reducible assumption) | assumption); have q42 : (x58_3 : Int) < (((rd_L1 x148000_3 a1).length : Int) : Int) := of_decide_eq_true (by first | (with_reducible assumption) | assumption); obtain ⟨go42, co42, eo42, gb42, gl42, cl42, HG42⟩ := Kd.R_form HL159_0.out (by omega); (first | cases eo42 | (injection eo42 with ea_ en_ ec_; (first | subst ea_ | (injection ea_ with ea_; subst ea_)); subst ec_; clear en_)); have GB42 := Aside0.mk gb42; have GG42 := Aside0.mk HG42; clear gb42 gl42 HG42; (first | simp only [add_plain] at hx161_0 | skip); obtain ⟨hx42_0, hf42_0⟩ := Kd.R_celln 0 HL159_0.out (x58_3 : Int) p42 q42; replace p42 := eq_true p42; replace q42 := eq_true q42; have hq46 : (a1 : Int) < (x148000_3.length : Int) := (by have h_ : (a1 : Int) < ((x148000_3.length : Int) : Int) := of_decide_eq_true (by first | (with_reducible assumption) | assumption); first | exact h_ | (have e_ := (Kd.S_reads' HO_148000.out).1; omega) | simpa only [List.length_set, List.length_set] using h_); obtain ⟨oki46, ce46, hcl46, hM46, hcc46, hok46, hbk46⟩ := Kd.S_borrow HO_148000.out [] (a1 : Int) (of_decide_eq_true (by first | (with_reducible assumption) | assumption)) hq46; obtain ⟨ve46_0, rfl, ge46_0⟩ := hM46; have hv46 := hcc46 0 _ rfl; rw [Nat.add_zero, show ((Kd.slice 21 (Kd.int .i32))).sz = 1 from rfl, Nat.mul_one] at hv46; replace hv46 := Option.some.inj (hv46.symm.trans HX159_0.out)
                subst hv46
                clear hcc46 hcl46; replace ge46_0 := (show Kd.R (Kd.int .i32) 21 _ _ _ _ (rd_L1 x148000_3 a1) from ge46_0); have HP46 := Kd.R_putg ge46_0 (x58_3 : Int) t162; rw [← Ny163.out] at HP46; have HS46 := hbk46 HP46.2 (fun k_ e_ => by injection e_ with e_; subst e_; exact ge46_0.1 _ rfl) (x' := y163) (Kd.M_row HP46.1); rw [← Ny165.out] at HS46; have HQ46 := Aside0.mk HS46; clear HP46 HS46 hbk46 hok46; refine hK.out _ _ ⟨(blk_cell BK147.out 0).trans rfl, HS1_, HS2_, HS3_⟩ (fun hHeld => ?_); clear hK K; refine norm_ (a' := ?_) ?_ ?_; rotate_left
                ·
                 show Act.put _ (some 87) _ = _
                 simp only [Act.put, sA_, sZ_, sS_, i64_w, i32_w]; rfl
                refine pure_ (i := 17) (N := some 88) (v := ?_) (a' := ?_) #[t_, t_, t_, t_, t_, t_, t_, t_, t_, t_, t_, t_, t_, t_, t_, t_, t_, t_, f_] rfl rfl (any_of HT_.out (by kernel_rfl)) (fun _ _ _ h => h) (Or.inl ⟨by rfl, ?_⟩) ?_ ?_; rotate_left
                ·
                 intro w'; go_simp
                 with_reducible rfl
                rotate_left
                ·
                 simp only [Act.put, sA_, sZ_, sS_, i64_w, i32_w]; rfl
                refine last_ (i := 18) (N := none) #[t_, t_, t_, t_, t_, t_, t_, t_, t_, t_, t_, t_, t_, t_, t_, t_, t_, t_, t_] rfl rfl (one_of HT_.out (by kernel_rfl)) (by decide) (fun K hK => ?_); refine skip_ (w1 := ?_) (by rfl) rfl ?_ ?_; rotate_left
                ·
                 go_simp; rfl
                refine hK.out _ _ ?_; clear hK K; refine done_ (done_of HT_.out (by kernel_rfl)) ?_
                try go_wp2
                go_roundg k3
                case measure => have := HJ7.out; have := HK2.out; have := HK3.out; omega
                case rel => exact ⟨(wrap64 (x58_3 + 1)), (y165), (.slice (some ad159) x148000_3.length co44), (by first | rfl | (simp; done) | (simp [*]; done)), H', ⟨by have := HJ7.out; have := HK2.out; have := HK3.out; omega⟩, ⟨by (with_reducible repeat (first | apply Kd.S_alloc | apply Kd.S_drewN | apply Kd.S_drew)); exact HQ46.out⟩, ⟨by (with_reducible repeat (first | refine blk_drewN ?_ _ | refine blk_drew ?_ | refine blk_alloc ?_ _)); refine blk_far ?_ (by have h_ := Kd.R_ne HL159_0.out BK144.out (by decide); intro e_; exact h_ (by rw [e_]; rfl)) _; (with_reducible repeat (first | refine blk_drewN ?_ _ | refine blk_drew ?_ | refine blk_alloc ?_ _)); exact BK144.out⟩, ⟨by (with_reducible repeat (first | refine blk_drewN ?_ _ | refine blk_drew ?_ | refine blk_alloc ?_ _)); refine blk_far ?_ (by have h_ := Kd.R_ne HL159_0.out BK145.out (by decide); intro e_; exact h_ (by rw [e_]; rfl)) _; (with_reducible repeat (first | refine blk_drewN ?_ _ | refine blk_drew ?_ | refine blk_alloc ?_ _)); exact BK145.out⟩, ⟨by (with_reducible repeat (first | refine blk_drewN ?_ _ | refine blk_drew ?_ | refine blk_alloc ?_ _)); refine blk_far ?_ (by have h_ := Kd.R_ne HL159_0.out BK147.out (by decide); intro e_; exact h_ (by rw [e_]; rfl)) _; (with_reducible repeat (first | refine blk_drewN ?_ _ | refine blk_drew ?_ | refine blk_alloc ?_ _)); exact BK147.out⟩, ⟨by repeat (first | (with_reducible first | exact HB.out | apply below_alloc | apply bN_ | apply below_drew1 | refine below_set ?_ GB42.out | refine below_set ?_ GE144.out | refine below_set ?_ GE145.out | refine below_set ?_ GE147.out) | exact HB.out)⟩⟩
               ·
                rw [if_neg c40] at H; exact absurd H (by simp)
              ·
               rw [if_neg c39] at H; exact absurd H (by simp)
             ·
              rw [if_neg c38] at H; exact absurd H (by simp)
            ·
             rw [if_neg c36] at H; exact absurd H (by simp)
           ·
            rw [if_neg c35] at H; exact absurd H (by simp)
          ·
           rw [if_neg c34] at H; have c34b0 : decide (x58_3 < (l2.length : Int)) = false := decide_eq_false c34; clear c34; simp only [Option.some.injEq, Prod.mk.injEq] at H; obtain ⟨rfl, rfl⟩ := H; have hnb48 := NB147_144.out; have hnc48 := NB144_147.out; have hnb49 := NB147_145.out; have hnc49 := NB145_147.out; have hcz50_0 : wr.cell? ⟨gb147, 0, none⟩ = some (u148000) := (blk_cell BK147.out 0).trans rfl; have hfz50_0 := blk_frozen BK147.out 0; obtain ⟨Ao51, co51, eo51⟩ := Kd.S_slice HO_148000.out
           subst eo51
           have hnb52 := NB145_144.out; have hnc52 := NB144_145.out; have hcz53_0 : wr.cell? ⟨gb145, 0, none⟩ = some (.slice none 0 0) := (blk_cell BK145.out 0).trans rfl; have hfz53_0 := blk_frozen BK145.out 0
           go_wp2
           refine bodyPost_ret (results_ct rfl _ _ gb145 24 #[.slice Ao51 x148000_3.length co51] (0, 0) _ rfl (by (with_reducible repeat (first | refine blk_drewN ?_ _ | refine blk_drew ?_ | refine blk_alloc ?_ _)); refine blk_put (cs := #[.slice none 0 0]) ?_ 0 _ rfl; (with_reducible repeat (first | refine blk_drewN ?_ _ | refine blk_drew ?_ | refine blk_alloc ?_ _)); exact BK145.out) Tryd.underlying24 rfl (by kernel_rfl)) rfl ?_; exact ⟨_, by first | rfl | (simp [errW_none, errW_some] <;> rfl) | (simp [*, errW_none, errW_some] <;> rfl), by (with_reducible repeat (first | apply Kd.S_alloc | apply Kd.S_drewN | apply Kd.S_drew)); exact Kd.S_mono (Kd.S_far (p := ⟨gb145, 0, none⟩) (Kd.S_types HO_148000.out BK145.out (by decide)) (fun _ hk => hk.2) (.slice Ao51 x148000_3.length co51)) (fun _ hk => trivial), pH_ HB.out⟩
 ·
  rw [if_neg c7] at H; have c7b0 : (t146 == 0) = false := beq_eq_false_iff_ne.mpr c7; have c7b1 : (t146 != 0) = true := bne_iff_ne.mpr c7; simp only [Option.some.injEq, Prod.mk.injEq] at H; obtain ⟨rfl, rfl⟩ := H
  go_enter Tryd.func18, Tryd.ntmps18
  go_wp2_with (first | ((with_reducible refine gate_dst (N := 5) rfl ?_); refine box_event ?hg (N := 5) ?hd (cs := #[.slice A0_0 l0_0.length c0_0]) (t := 24) ?hr ?_; (case hd => rfl); (case hg => rfl); (case hr => first | (go_simp; done) | (go_simp; rfl)); intro gb144 hg w54 hbox hb; have n0_ := Aside0.mk (below_step (pH_ HB.out) hb); have n1_ := Aside0.mk (hbox); have n2_ := Aside0.mk ((by rw [hg]; exact (below_size (pH_ HB.out)) : w.heap.size ≤ gb144)); have n3_ := Aside0.mk ((by rw [hg]; exact (below_size (pH_ HB.out)) : w.heap.size ≤ gb144)); clear HB; have HB := n0_; have BK144 := n1_; have GW144 := n2_; have GE144 := n3_; clear n0_ n1_ n2_ n3_; clear hb hbox hg) | ((with_reducible refine gate_dst (N := 10) rfl ?_); refine box_event ?hg (N := 10) ?hd (cs := #[.slice none 0 0]) (t := 24) ?hr ?_; (case hd => rfl); (case hg => rfl); (case hr => first | (go_simp; done) | (go_simp; rfl)); intro gb145 hg w55 hbox hb; have n0_ := Aside0.mk (blk_below (pG_ BK144.out) hb); have n1_ := Aside0.mk (below_step (pH_ HB.out) hb); have n2_ := Aside0.mk (hbox); have n3_ := Aside0.mk ((by rw [hg]; exact (below_size (pH_ HB.out)) : w.heap.size ≤ gb145)); have n4_ := Aside0.mk ((by rw [hg]; exact (below_size (pH_ HB.out)) : w.heap.size ≤ gb145)); have n5_ := Aside0.mk ((by rw [hg]; exact Nat.ne_of_lt (blk_lt (pG_ BK144.out)) : gb144 ≠ gb145)); have n6_ := Aside0.mk ((by rw [hg]; exact Nat.ne_of_gt (blk_lt (pG_ BK144.out)) : gb145 ≠ gb144)); clear BK144; clear HB; have BK144 := n0_; have HB := n1_; have BK145 := n2_; have GW145 := n3_; have GE145 := n4_; have NB144_145 := n5_; have NB145_144 := n6_; clear n0_ n1_ n2_ n3_ n4_ n5_ n6_; clear hb hbox hg; have hnb56 := NB144_145.out; have hnc56 := NB145_144.out; have hcz57_0 : w55.cell? ⟨gb144, 0, none⟩ = some (.slice A0_0 l0_0.length c0_0) := (blk_cell BK144.out 0).trans rfl; have hfz57_0 := blk_frozen BK144.out 0) | ((with_reducible refine gate_callee (f := 25) rfl ?_); refine gL_ (some 24) Tryd.func25 #[.agg #[.slice A0_0 l0_0.length c0_0], .int .i64 a1, .slice A2 l2.length c2] ?_; (with_reducible refine (mixer_check.calls _ _ l0_0 a1 _ _ l2 t146 _ ?side1 ?side2 ?side3 ?side4 A6.out).mono ?_); (case side1 => repeat (first | exact (Kd.C_below HR0_0.out HB.out) | (with_reducible refine Kd.C_alloc ?_ _) | (with_reducible refine Kd.C_drewN ?_ _) | (with_reducible refine Kd.C_drew ?_))); (case side2 => exact HC0_0.out); (case side3 => repeat (first | exact (Kd.C_below HR2.out HB.out) | (with_reducible refine Kd.C_alloc ?_ _) | (with_reducible refine Kd.C_drewN ?_ _) | (with_reducible refine Kd.C_drew ?_))); (case side4 => exact HC2.out); rintro e w58 ⟨rfl, hb⟩; refine ⟨_, rfl, ?_⟩; have n0_ := Aside0.mk (blk_below (pG_ BK144.out) hb); have n1_ := Aside0.mk (blk_below (pG_ BK145.out) hb); have n2_ := Aside0.mk (below_step (pH_ HB.out) hb); clear BK144; clear BK145; clear HB; have BK144 := n0_; have BK145 := n1_; have HB := n2_; clear n0_ n1_ n2_; (try clear hb); have hcz59_0 : w58.cell? ⟨gb145, 0, none⟩ = some (.slice none 0 0) := (blk_cell BK145.out 0).trans rfl; have hfz59_0 := blk_frozen BK145.out 0))
  refine bodyPost_ret (results_ct rfl _ _ gb145 24 #[.slice none 0 0] (0, 0) _ rfl (by (with_reducible repeat (first | refine blk_drewN ?_ _ | refine blk_drew ?_ | refine blk_alloc ?_ _)); refine blk_put (cs := #[.slice none 0 0]) ?_ 0 _ rfl; (with_reducible repeat (first | refine blk_drewN ?_ _ | refine blk_drew ?_ | refine blk_alloc ?_ _)); exact BK145.out) Tryd.underlying24 rfl (by kernel_rfl)) rfl ?_; exact ⟨_, by first | rfl | (simp [errW_none, errW_some] <;> rfl) | (simp [*, errW_none, errW_some] <;> rfl), by first | exact Kd.S_nil _ _ _ _ _ | exact Kd.N_nil _ _ _ _ _ | exact Kd.V_nil _ _ _ _ _ | exact Kd.Q_nil _ _ _ _ _ | exact Kd.R_nil _ _ _ _ _, pH_ HB.out⟩

/-! ### bitloftlaw16_given: function 36 -/
def bitloftlaw16_given.f  : Option (List Int) := some (([400, (-100), 0, 0, 0, 0, 0, 256] : List Int))
set_option maxHeartbeats 8000000 in
set_option maxRecDepth 100000 in
theorem bitloftlaw16_given.calls  (r : List Int) (w : World) (h : bitloftlaw16_given.f  = some r) :
  Calls Tryd.prog 36 #[] w fun e w' => ∃ v0_ : Value, e = .returned (v0_) ∧ Kd.R (Kd.int .i32) 21 w' w.heap.size (fun _ => True) v0_ r ∧ Below w.heap.size w w' := by
 have HB := Aside0.mk (Below.refl w.heap.size w); have H : (some (([400, (-100), 0, 0, 0, 0, 0, 256] : List Int))) = some r := h; clear h; obtain ⟨y166, hy166⟩ : ∃ y_ : List Int, y_ = (([400, (-100), 0, 0, 0, 0, 0, 256] : List Int)) := ⟨_, rfl⟩
 replace H : (some y166) = some r := by first | (rw [hy166]; with_reducible exact H) | (have H2_ := (Option.bind_some _ _).symm.trans H; rw [hy166]; with_reducible exact H2_) | (have H2_ := (Option.bind_some _ _).symm.trans H; with_reducible exact H2_) | with_reducible exact H | (rw [hy166]; exact H) | exact H
 have Ny166 := Aside0.mk hy166; clear hy166; obtain rfl := Option.some.inj H
 go_enter Tryd.func36, Tryd.ntmps36
 go_wp2_with (first | ((with_reducible refine gate_dst (N := 1) rfl ?_); refine Kd.R_lit (Kd.int .i32) _ 21 ?hg (N := 1) ?hd (xs := ([400, (-100), 0, 0, 0, 0, 0, 256] : List Int)) (inner := [.int .i32 400, .int .i32 (-100), .int .i32 0, .int .i32 0, .int .i32 0, .int .i32 0, .int .i32 0, .int .i32 256]) (ok := fun _ => True) (okp := fun _ => True) ?hr ?hp (fun _ hk => hk) trivial (Below.refl _ _) (Nat.le_refl _) (by simp) ?_; (case hd => rfl); (case hg => rfl); (case hr => first | (go_simp; done) | (go_simp; rfl)); (case hp => exact (Reps.one (show Kd.M (Kd.int .i32) _ _ _ 400 [.int .i32 400] from rfl) (Reps.one (show Kd.M (Kd.int .i32) _ _ _ (-100) [.int .i32 (-100)] from rfl) (Reps.one (show Kd.M (Kd.int .i32) _ _ _ 0 [.int .i32 0] from rfl) (Reps.one (show Kd.M (Kd.int .i32) _ _ _ 0 [.int .i32 0] from rfl) (Reps.one (show Kd.M (Kd.int .i32) _ _ _ 0 [.int .i32 0] from rfl) (Reps.one (show Kd.M (Kd.int .i32) _ _ _ 0 [.int .i32 0] from rfl) (Reps.one (show Kd.M (Kd.int .i32) _ _ _ 0 [.int .i32 0] from rfl) (Reps.one (show Kd.M (Kd.int .i32) _ _ _ 256 [.int .i32 256] from rfl) (Reps.none _ _)))))))))); intro v167 w1 ho2 hb hg_ hnew_; clear hg_ hnew_; (first | rw [← Ny166.out] at ho2 | (simp only [Int.reduceToNat] at ho2; rw [← Ny166.out] at ho2)); have n0_ := Aside0.mk (Kd.R_lower ho2 (below_size (pH_ HB.out))); have n1_ := Aside0.mk (below_step (pH_ HB.out) hb); clear HB; have HO168 := n0_; have HB := n1_; clear n0_ n1_; clear hb ho2))
 go_ret
 exact ⟨_, by first | rfl | (simp [errW_none, errW_some] <;> rfl) | (simp [*, errW_none, errW_some] <;> rfl), by (with_reducible repeat (first | apply rA_ | apply rN_ | apply rD_)); exact HO168.out, pH_ HB.out⟩

/-! ### bitloftlaw16_alive: function 19 -/
def bitloftlaw16_alive.f (k : Nat)  : Option (Bool) := some true
theorem bitloftlaw16_alive.mono : ∀ k, LeO (bitloftlaw16_alive.f k ) (bitloftlaw16_alive.f (k + 1) ) := by
 intro  k
 unfold bitloftlaw16_alive.f
 repeat' first
   | (with_reducible exact bitloftref16_SameRow.mono _ _ _)
   | (with_reducible exact mixer_Learn.mono _ _ _ _ _ _)
   | (with_reducible exact mixer_Mix.mono _ _ _ _)
   | (with_reducible exact mixer_New.mono _ _ _)
   | (with_reducible exact LeO.refl _)
   | (with_reducible exact LeO.none _)
   | (with_reducible refine LeO.ite ?_ ?_)
   | (with_reducible refine LeO.bind ?_ (fun _ => ?_))
   | exact bitloftref16_SameRow.mono _ _ _
   | exact mixer_Learn.mono _ _ _ _ _ _
   | exact mixer_Mix.mono _ _ _ _
   | exact mixer_New.mono _ _ _
   | exact LeO.none _
   | refine LeO.ite ?_ ?_
   | refine LeO.bind ?_ (fun _ => ?_)
def bitloftlaw16_alive.T2 : Bool × List (List Nat × List Nat) := (true, [([], []), ([], []), ([0, 1, 1], [0, 1]), ([2], [2]), ([3], [3]), ([3], [3]), ([3], [3]), ([4, 2, 0, 1, 2, 3, 4], [4]), ([5, 7, 0, 1, 2, 3, 4, 5, 7], [5]), ([6, 8, 0, 1, 2, 3, 4, 5, 6, 7, 8], [6])])
def bitloftlaw16_alive.B2 : List Nat := [0, 0, 3, 7, 15, 15, 15, 31, 191, 511]
theorem bitloftlaw16_alive.tab2 : rtab .any (opsOf Tryd.f19 2) = bitloftlaw16_alive.T2 := by kernel_rfl
theorem bitloftlaw16_alive.bits2 : waitsOk bitloftlaw16_alive.T2.2 bitloftlaw16_alive.B2 = true := by kernel_rfl
def bitloftlaw16_alive.T4 : Bool × List (List Nat × List Nat) := (true, [([], []), ([], []), ([], []), ([0, 1, 2, 1], [0, 1, 2]), ([3], [3]), ([4], [4]), ([4], [4]), ([], []), ([7, 5, 3, 0, 1, 2, 3, 4, 5, 7], [5, 7]), ([6, 8, 0, 1, 2, 3, 4, 5, 6, 7, 8], [6])])
def bitloftlaw16_alive.B4 : List Nat := [0, 0, 0, 7, 15, 31, 31, 0, 191, 511]
theorem bitloftlaw16_alive.tab4 : rtab .any (opsOf Tryd.f19 4) = bitloftlaw16_alive.T4 := by kernel_rfl
theorem bitloftlaw16_alive.bits4 : waitsOk bitloftlaw16_alive.T4.2 bitloftlaw16_alive.B4 = true := by kernel_rfl
set_option maxHeartbeats 8000000 in
set_option maxRecDepth 100000 in
theorem bitloftlaw16_alive.calls (k : Nat)  (r : Bool) (w : World) (hT : Tab_ w) (h : bitloftlaw16_alive.f k  = some r) :
  Calls Tryd.prog 19 #[] w fun e w' => e = .returned (.bool r) ∧ Below w.heap.size w w' := by
 have hu24 := Tryd.underlying24; have HB := Aside0.mk (Below.refl w.heap.size w); have H : (some true) = some r := h; clear h; have A1 := Aside0.mk (show mixer_New.f 2000 1 16384 = some (([[16384, 16384, 16384, 16384, 16384, 16384, 16384, 16384]] : List (List Int)), 0) by first | kernel_rfl | rfl | decide +kernel); have A2 := Aside0.mk (show bitloftlaw16_given.f = some ([400, -100, 0, 0, 0, 0, 0, 256] : List Int) by first | kernel_rfl | rfl | decide +kernel); have A3 := Aside0.mk (show mixer_Mix.f 2000 ([[16384, 16384, 16384, 16384, 16384, 16384, 16384, 16384]] : List (List Int)) 0 ([400, -100, 0, 0, 0, 0, 0, 256] : List Int) = some (139, 2587, 0) by first | kernel_rfl | rfl | decide +kernel); have A4 := Aside0.mk (show mixer_Wrong.f 2587 true = some (1508, 0) by first | kernel_rfl | rfl | decide +kernel); have A5 := Aside0.mk (show bitloftlaw16_given.f = some ([400, -100, 0, 0, 0, 0, 0, 256] : List Int) by first | kernel_rfl | rfl | decide +kernel); have A6 := Aside0.mk (show mixer_Learn.f 2000 ([[16384, 16384, 16384, 16384, 16384, 16384, 16384, 16384]] : List (List Int)) 0 ([400, -100, 0, 0, 0, 0, 0, 256] : List Int) 2587 true = some (([[16642, 16320, 16384, 16384, 16384, 16384, 16384, 16549]] : List (List Int)), 0) by first | kernel_rfl | rfl | decide +kernel); obtain ⟨y180, hy180⟩ : ∃ y_ : List Int, y_ = (([16642, 16320, 16384, 16384, 16384, 16384, 16384, 16549] : List Int)) := ⟨_, rfl⟩
 replace H : (some true) = some r := by first | (rw [hy180]; with_reducible exact H) | (have H2_ := (Option.bind_some _ _).symm.trans H; rw [hy180]; with_reducible exact H2_) | (have H2_ := (Option.bind_some _ _).symm.trans H; with_reducible exact H2_) | with_reducible exact H | (rw [hy180]; exact H) | exact H
 have Ny180 := Aside0.mk hy180; clear hy180; have A7 := Aside0.mk (show bitloftref16_SameRow.f 2000 (rd_L1 ([[16642, 16320, 16384, 16384, 16384, 16384, 16384, 16549]] : List (List Int)) 0) y180 = some true by (try rw [Ny180.out]); first | kernel_rfl | rfl | decide +kernel); obtain rfl := Option.some.inj H
 go_enter Tryd.func19, Tryd.ntmps19
 try go_wp2_with (first | ((with_reducible refine gate_callee (f := 9) rfl ?_); refine gL_ (some 11) Tryd.func9 #[.int .i64 1, .int .i32 16384] ?_; (with_reducible refine (mixer_New.calls 2000 1 16384 ([[16384, 16384, 16384, 16384, 16384, 16384, 16384, 16384]] : List (List Int)) 0 _ A1.out).mono ?_); rintro e w8 ⟨v169, rfl, ho0, hb⟩; refine ⟨_, rfl, ?_⟩; have n0_ := Aside0.mk (Kd.S_lower ho0 (below_size (pH_ HB.out))); have n1_ := Aside0.mk (below_step (pH_ HB.out) hb); clear HB; have HO170 := n0_; have HB := n1_; clear n0_ n1_; (try clear hb); (try clear ho0)) | ((with_reducible refine gate_dst (N := 1) rfl ?_); (try (refine gate_guard (by rfl) ?_; dsimp only)); refine box_event ?hg (N := 1) ?hd (cs := #[.slice none 0 0]) (t := 24) ?hr ?_; (case hd => rfl); (case hg => rfl); (case hr => first | (go_simp; done) | (go_simp; rfl)); intro gb171 hg w9 hbox hb; have n0_ := Aside0.mk (Kd.S_below (by (with_reducible repeat (first | apply Kd.S_alloc | apply Kd.S_drewN | apply Kd.S_drew)); exact HO170.out) hb); have n1_ := Aside0.mk (below_step (pH_ HB.out) hb); have n2_ := Aside0.mk (hbox); have n3_ := Aside0.mk ((by rw [hg]; exact (below_size (pH_ HB.out)) : w.heap.size ≤ gb171)); have n4_ := Aside0.mk ((by rw [hg]; exact (below_size (pH_ HB.out)) : w.heap.size ≤ gb171)); clear HO170; clear HB; have HO170 := n0_; have HB := n1_; have BK171 := n2_; have GW171 := n3_; have GE171 := n4_; clear n0_ n1_ n2_ n3_ n4_; clear hb hbox hg; obtain ⟨Ao10, co10, eo10⟩ := Kd.S_slice HO170.out; subst eo10; have hcz11_0 : w9.cell? ⟨gb171, 0, none⟩ = some (.slice none 0 0) := (blk_cell BK171.out 0).trans rfl; have hfz11_0 := blk_frozen BK171.out 0))
 have n0_ : Aside0 (Kd.S (Kd.slice 21 (Kd.int .i32)) 25 (w9.setCell ⟨gb171, 0, none⟩ (.slice Ao10 ([[16384, 16384, 16384, 16384, 16384, 16384, 16384, 16384]] : List (List Int)).length co10)) w.heap.size (fun _ => True) (.slice Ao10 ([[16384, 16384, 16384, 16384, 16384, 16384, 16384, 16384]] : List (List Int)).length co10) ([[16384, 16384, 16384, 16384, 16384, 16384, 16384, 16384]] : List (List Int))) := ⟨by (with_reducible repeat (first | apply Kd.S_alloc | apply Kd.S_drewN | apply Kd.S_drew)); exact Kd.S_mono (Kd.S_far (p := ⟨gb171, 0, none⟩) (Kd.S_types HO170.out BK171.out (by decide)) (fun _ hk => by first | exact hk.2 | (have hk_ := hk; simp only [and_assoc, true_and, and_true] at hk_ ⊢; first | exact hk_ | exact hk_.2 | exact hk_.2.2)) (.slice Ao10 ([[16384, 16384, 16384, 16384, 16384, 16384, 16384, 16384]] : List (List Int)).length co10)) (fun _ hk => trivial)⟩; have n1_ : Aside0 ((w9.setCell ⟨gb171, 0, none⟩ (.slice Ao10 ([[16384, 16384, 16384, 16384, 16384, 16384, 16384, 16384]] : List (List Int)).length co10)).heap[gb171]? = some (.cells #[.slice Ao10 ([[16384, 16384, 16384, 16384, 16384, 16384, 16384, 16384]] : List (List Int)).length co10] 24 (0, 0))) := ⟨by (with_reducible repeat (first | refine blk_drewN ?_ _ | refine blk_drew ?_ | refine blk_alloc ?_ _)); refine blk_put (cs := #[.slice none 0 0]) ?_ 0 _ rfl; (with_reducible repeat (first | refine blk_drewN ?_ _ | refine blk_drew ?_ | refine blk_alloc ?_ _)); exact BK171.out⟩; have n2_ : Aside0 (Below w.heap.size w (w9.setCell ⟨gb171, 0, none⟩ (.slice Ao10 ([[16384, 16384, 16384, 16384, 16384, 16384, 16384, 16384]] : List (List Int)).length co10))) := ⟨pH_ HB.out⟩; (try clear HO170); (try clear BK171); (try clear HB)
 generalize (w9.setCell ⟨gb171, 0, none⟩ (.slice Ao10 ([[16384, 16384, 16384, 16384, 16384, 16384, 16384, 16384]] : List (List Int)).length co10)) = w12 at n0_ n1_ n2_ ⊢
 have HO170 := n0_; have BK171 := n1_; have HB := n2_; clear n0_ n1_ n2_; have n0_ := Aside0.mk (Kd.S_drew HO170.out); have n1_ := Aside0.mk (blk_drew BK171.out); have n2_ := Aside0.mk (below_drew1 HB.out); clear HO170; clear BK171; clear HB; have HO170 := n0_; have BK171 := n1_; have HB := n2_; clear n0_ n1_ n2_; refine start_ (n := 10) (S := fun w' => w'.cell? ⟨gb171, 0, none⟩ = some (.slice Ao10 ([[16384, 16384, 16384, 16384, 16384, 16384, 16384, 16384]] : List (List Int)).length co10)) (ds := []) #[f_, f_, f_, f_, f_, f_, f_, f_, f_, f_] (by kernel_rfl) rfl rfl ((blk_cell BK171.out 0).trans rfl) (fun hHeld => ?_); refine with_tabW bitloftlaw16_alive.tab2 bitloftlaw16_alive.bits2 (fun HT_ HW_ => ?_)
 generalize w12.drew = w13 at HO170 BK171 HB hHeld ⊢
 refine take_ (i := 0) (N := some 15) (v := ?_) (a' := ?_) #[t_, f_, f_, f_, f_, f_, f_, f_, f_, f_] rfl rfl (take_ofW HT_.out HW_.out (by kernel_rfl)) (fun _ _ _ h => h) (Or.inl ⟨by rfl, ?_⟩) hHeld ?_ ?_; rotate_left
 ·
  intro w' s0; go_simp
  with_reducible rfl
 rotate_left
 ·
  simp only [Act.put, sA_, sZ_, sS_, i64_w, i32_w]; rfl
 refine one_ (i := 1) (N := some 16) #[t_, t_, f_, f_, f_, f_, f_, f_, f_, f_] rfl rfl (one_of HT_.out (by kernel_rfl)) (by decide) (fun K hK => ?_); refine goes_ Tryd.func36 (by kernel_rfl) rfl #[] (by rfl) rfl rfl (by (try simp only [List.map_toArray, List.map_cons, List.map_nil]); first | done | rfl | (simp only [List.length_drop, List.length_take]; rfl)) ?_
 with_reducible refine (bitloftlaw16_given.calls  ([400, -100, 0, 0, 0, 0, 0, 256] : List Int) _ A2.out).mono ?_
 rintro e w14 ⟨v172, rfl, ho0, hb⟩
 refine ⟨_, rfl, ?_⟩; have n0_ := Aside0.mk (Kd.S_elder' (by (with_reducible repeat (first | apply Kd.S_alloc | apply Kd.S_drewN | apply Kd.S_drew)); exact HO170.out) (Kd.R_base ho0) hb); have n1_ := Aside0.mk (Kd.R_lower ho0 (below_size (pH_ HB.out))); have n2_ := Aside0.mk (blk_below (g := gb171) (o := .cells #[.slice Ao10 ([[16384, 16384, 16384, 16384, 16384, 16384, 16384, 16384]] : List (List Int)).length co10] 24 (0, 0)) (pG_ BK171.out) hb); have n3_ := Aside0.mk (below_step (pH_ HB.out) hb); clear HO170; clear BK171; clear HB; have HO170 := n0_; have HO173 := n1_; have BK171 := n2_; have HB := n3_; clear n0_ n1_ n2_ n3_; (try clear hb); (try clear hb2); (try clear hk); (try clear hi); (try clear ho0); obtain ⟨Ao15, co15, eo15⟩ := Kd.R_slice HO173.out; (first | subst eo15 | (injection eo15 with f1_ f2_ f3_; have f4_ := f1_.symm; have f5_ := f3_.symm; clear f1_ f2_ f3_; subst f4_; subst f5_)); refine hK.out _ _ ((blk_cell BK171.out 0).trans rfl) (fun hHeld => ?_); clear hK K; refine norm_ (a' := ?_) ?_ ?_; rotate_left
 ·
  show Act.put _ (some 16) _ = _
  simp only [Act.put, sA_, sZ_, sS_, i64_w, i32_w]; rfl
 refine one_ (i := 2) (N := some 17) #[t_, t_, t_, f_, f_, f_, f_, f_, f_, f_] rfl rfl (one_of HT_.out (by kernel_rfl)) (by decide) (fun K hK => ?_); refine goes_ Tryd.func11 (by kernel_rfl) rfl #[.agg #[.slice Ao10 ([[16384, 16384, 16384, 16384, 16384, 16384, 16384, 16384]] : List (List Int)).length co10], .int .i64 0, .slice Ao15 ([400, -100, 0, 0, 0, 0, 0, 256] : List Int).length co15] (by rfl) rfl rfl (by (try simp only [List.map_toArray, List.map_cons, List.map_nil]); first | done | rfl | (simp only [List.length_drop, List.length_take]; rfl)) ?_
 with_reducible refine (mixer_Mix.calls 2000 _ _ ([[16384, 16384, 16384, 16384, 16384, 16384, 16384, 16384]] : List (List Int)) 0 _ _ ([400, -100, 0, 0, 0, 0, 0, 256] : List Int) 139 2587 0 _ ?side1 ?side2 ?side3 ?side4 (tab_bel hT (pH_ HB.out)) A3.out).mono ?_
 (case side1 => repeat (first | exact (Kd.S_reads' HO170.out).2.2 | (with_reducible refine Kd.C_alloc ?_ _) | (with_reducible refine Kd.C_drewN ?_ _) | (with_reducible refine Kd.C_drew ?_))); (case side2 => exact (Kd.S_reads' HO170.out).2.1); (case side3 => repeat (first | exact (Kd.R_reads' HO173.out).2.2 | (with_reducible refine Kd.C_alloc ?_ _) | (with_reducible refine Kd.C_drewN ?_ _) | (with_reducible refine Kd.C_drew ?_))); (case side4 => exact (Kd.R_reads' HO173.out).2.1)
 rintro e w16 ⟨rfl, hb⟩
 refine ⟨_, rfl, ?_⟩; have n0_ := Aside0.mk (Kd.S_below (by (with_reducible repeat (first | apply Kd.S_alloc | apply Kd.S_drewN | apply Kd.S_drew)); exact HO170.out) hb); have n1_ := Aside0.mk (Kd.R_below (pL_ HO173.out) hb); have n2_ := Aside0.mk (blk_below (g := gb171) (o := .cells #[.slice Ao10 ([[16384, 16384, 16384, 16384, 16384, 16384, 16384, 16384]] : List (List Int)).length co10] 24 (0, 0)) (pG_ BK171.out) hb); have n3_ := Aside0.mk (below_step (pH_ HB.out) hb); clear HO170; clear HO173; clear BK171; clear HB; have HO170 := n0_; have HO173 := n1_; have BK171 := n2_; have HB := n3_; clear n0_ n1_ n2_ n3_; (try clear hb); (try clear hb2); (try clear hk); (try clear hi); refine hK.out _ _ ((blk_cell BK171.out 0).trans rfl) (fun hHeld => ?_); clear hK K; refine norm_ (a' := ?_) ?_ ?_; rotate_left
 ·
  show Act.put _ (some 17) _ = _
  simp only [Act.put, sA_, sZ_, sS_, i64_w, i32_w]; rfl
 refine pure_ (i := 3) (N := some 14) (v := ?_) (a' := ?_) #[t_, t_, t_, t_, f_, f_, f_, f_, f_, f_] rfl rfl (any_of HT_.out (by kernel_rfl)) (fun _ _ _ h => h) (Or.inl ⟨by rfl, ?_⟩) ?_ ?_; rotate_left
 ·
  intro w'; go_simp
  with_reducible rfl
 rotate_left
 ·
  simp only [Act.put, sA_, sZ_, sS_, i64_w, i32_w]; rfl
 refine pure_ (i := 4) (N := some 18) (v := ?_) (a' := ?_) #[t_, t_, t_, t_, t_, f_, f_, f_, f_, f_] rfl rfl (any_of HT_.out (by kernel_rfl)) (fun _ _ _ h => h) (Or.inl ⟨by rfl, ?_⟩) ?_ ?_; rotate_left
 ·
  intro w'; go_simp
  with_reducible rfl
 rotate_left
 ·
  simp only [Act.put, sA_, sZ_, sS_, i64_w, i32_w]; rfl
 refine pure_ (i := 5) (N := some 19) (v := ?_) (a' := ?_) #[t_, t_, t_, t_, t_, t_, f_, f_, f_, f_] rfl rfl (any_of HT_.out (by kernel_rfl)) (fun _ _ _ h => h) (Or.inl ⟨by rfl, ?_⟩) ?_ ?_; rotate_left
 ·
  intro w'; go_simp
  with_reducible rfl
 rotate_left
 ·
  simp only [Act.put, sA_, sZ_, sS_, i64_w, i32_w]; rfl
 refine pure_ (i := 6) (N := some 20) (v := ?_) (a' := ?_) #[t_, t_, t_, t_, t_, t_, t_, f_, f_, f_] rfl rfl (any_of HT_.out (by kernel_rfl)) (fun _ _ _ h => h) (Or.inl ⟨by rfl, ?_⟩) ?_ ?_; rotate_left
 ·
  intro w'; go_simp
  with_reducible rfl
 rotate_left
 ·
  simp only [Act.put, sA_, sZ_, sS_, i64_w, i32_w]; rfl
 refine pure_ (i := 7) (N := some 3) (v := ?_) (a' := ?_) #[t_, t_, t_, t_, t_, t_, t_, t_, f_, f_] rfl rfl (any_of HT_.out (by kernel_rfl)) (fun _ _ _ h => h) (Or.inl ⟨by rfl, ?_⟩) ?_ ?_; rotate_left
 ·
  intro w'; go_simp
  with_reducible rfl
 rotate_left
 ·
  simp only [Act.put, sA_, sZ_, sS_, i64_w, i32_w]; rfl
 refine pure_ (i := 8) (N := some 4) (v := ?_) (a' := ?_) #[t_, t_, t_, t_, t_, t_, t_, t_, t_, f_] rfl rfl (any_of HT_.out (by kernel_rfl)) (fun _ _ _ h => h) (Or.inl ⟨by rfl, ?_⟩) ?_ ?_; rotate_left
 ·
  intro w'; go_simp
  with_reducible rfl
 rotate_left
 ·
  simp only [Act.put, sA_, sZ_, sS_, i64_w, i32_w]; rfl
 refine pure_ (i := 9) (N := some 5) (v := ?_) (a' := ?_) #[t_, t_, t_, t_, t_, t_, t_, t_, t_, t_] rfl rfl (any_of HT_.out (by kernel_rfl)) (fun _ _ _ h => h) (Or.inl ⟨by rfl, ?_⟩) ?_ ?_; rotate_left
 ·
  intro w'; go_simp
  with_reducible rfl
 rotate_left
 ·
  simp only [Act.put, sA_, sZ_, sS_, i64_w, i32_w]; rfl
 refine done_ (done_of HT_.out (by kernel_rfl)) ?_
 try go_wp2_with (first | ((with_reducible refine gate_callee (f := 13) rfl ?_); refine gL_ (some 23) Tryd.func13 #[.int .i32 2587, .bool true] ?_; (with_reducible refine (mixer_Wrong.calls 2587 true 1508 0 _ A4.out).mono ?_); rintro e w' ⟨rfl, ⟨nd, rfl⟩⟩; refine ⟨_, rfl, ?_⟩; (try (rw [drewN_self w16]; generalize hq_ : World.drewN w16 _ = w16; have n0_ : Aside0 (Kd.S (Kd.slice 21 (Kd.int .i32)) 25 w16 w.heap.size (fun k_ => some k_ ≠ (.slice Ao15 ([400, -100, 0, 0, 0, 0, 0, 256] : List Int).length co15 : Value).ownBlock) (.slice Ao10 ([[16384, 16384, 16384, 16384, 16384, 16384, 16384, 16384]] : List (List Int)).length co10) ([[16384, 16384, 16384, 16384, 16384, 16384, 16384, 16384]] : List (List Int))) := ⟨by rw [← hq_]; exact (by (with_reducible repeat (first | apply Kd.S_alloc | apply Kd.S_drewN | apply Kd.S_drew)); exact Kd.S_mono HO170.out (fun _ hk => by first | exact hk.2 | (have hk_ := hk; simp only [and_assoc, true_and, and_true] at hk_ ⊢; first | exact hk_ | exact hk_.2 | exact hk_.2.2)))⟩; have n1_ : Aside0 (Kd.R (Kd.int .i32) 21 w16 w.heap.size (fun _ => True) (.slice Ao15 ([400, -100, 0, 0, 0, 0, 0, 256] : List Int).length co15) ([400, -100, 0, 0, 0, 0, 0, 256] : List Int)) := ⟨by rw [← hq_]; exact (pL_ HO173.out)⟩; have n2_ : Aside0 (w16.heap[gb171]? = some (.cells #[.slice Ao10 ([[16384, 16384, 16384, 16384, 16384, 16384, 16384, 16384]] : List (List Int)).length co10] 24 (0, 0))) := ⟨by rw [← hq_]; exact (pG_ BK171.out)⟩; have n3_ : Aside0 (Below w.heap.size w w16) := ⟨by rw [← hq_]; exact (pH_ HB.out)⟩; clear HO170 HO173 BK171 HB hq_; have HO170 := n0_; have HO173 := n1_; have BK171 := n2_; have HB := n3_; clear n0_ n1_ n2_ n3_))))
 have n0_ := Aside0.mk (Kd.S_drew HO170.out); have n1_ := Aside0.mk (Kd.R_drew HO173.out); have n2_ := Aside0.mk (blk_drew BK171.out); have n3_ := Aside0.mk (below_drew1 HB.out); clear HO170; clear HO173; clear BK171; clear HB; have HO170 := n0_; have HO173 := n1_; have BK171 := n2_; have HB := n3_; clear n0_ n1_ n2_ n3_; refine start_ (n := 10) (S := fun w' => w'.cell? ⟨gb171, 0, none⟩ = some (.slice Ao10 ([[16384, 16384, 16384, 16384, 16384, 16384, 16384, 16384]] : List (List Int)).length co10)) (ds := []) #[f_, f_, f_, f_, f_, f_, f_, f_, f_, f_] (by kernel_rfl) rfl rfl ((blk_cell BK171.out 0).trans rfl) (fun hHeld => ?_); refine with_tabW bitloftlaw16_alive.tab4 bitloftlaw16_alive.bits4 (fun HT_ HW_ => ?_)
 generalize w16.drew = w17 at HO170 HO173 BK171 HB hHeld ⊢
 refine pure_ (i := 2) (N := some 29) (v := ?_) (a' := ?_) #[f_, f_, t_, f_, f_, f_, f_, f_, f_, f_] rfl rfl (any_of HT_.out (by kernel_rfl)) (fun _ _ _ h => h) (Or.inl ⟨by rfl, ?_⟩) ?_ ?_; rotate_left
 ·
  intro w'; go_simp
  with_reducible rfl
 rotate_left
 ·
  simp only [Act.put, sA_, sZ_, sS_, i64_w, i32_w]; rfl
 refine take_ (i := 0) (N := some 27) (v := ?_) (a' := ?_) #[t_, f_, t_, f_, f_, f_, f_, f_, f_, f_] rfl rfl (take_ofW HT_.out HW_.out (by kernel_rfl)) (fun _ _ _ h => h) (Or.inl ⟨by rfl, ?_⟩) hHeld ?_ ?_; rotate_left
 ·
  intro w' s0; go_simp
  with_reducible rfl
 rotate_left
 ·
  simp only [Act.put, sA_, sZ_, sS_, i64_w, i32_w]; rfl
 refine join_ (σ := Value × Value × Nat) 2 #[t_, t_, t_, t_, t_, t_, t_, t_, f_, f_] (fun s_ => [(28, s_.1), (30, .tuple #[.agg #[s_.2.1], .int .i64 0]), (8, .pointer (some ⟨s_.2.2, 0, none⟩)), (26, .tuple #[.agg #[s_.2.1], .int .i64 0]), (31, .agg #[s_.2.1]), (32, .int .i64 0)]) (fun s_ w' => (w'.cell? ⟨gb171, 0, none⟩ = some (.slice Ao10 ([[16384, 16384, 16384, 16384, 16384, 16384, 16384, 16384]] : List (List Int)).length co10)) ∧ (Kd.S (Kd.slice 21 (Kd.int .i32)) 25 w' w.heap.size (fun k_ => some k_ ≠ (.slice Ao15 ([400, -100, 0, 0, 0, 0, 0, 256] : List Int).length co15 : Value).ownBlock ∧ nO_ k_ s_.1 ∧ nO_ k_ s_.2.1) (.slice Ao10 ([[16384, 16384, 16384, 16384, 16384, 16384, 16384, 16384]] : List (List Int)).length co10) ([[16384, 16384, 16384, 16384, 16384, 16384, 16384, 16384]] : List (List Int))) ∧ (Kd.R (Kd.int .i32) 21 w' w.heap.size (fun k_ => nO_ k_ s_.1) (.slice Ao15 ([400, -100, 0, 0, 0, 0, 0, 256] : List Int).length co15) ([400, -100, 0, 0, 0, 0, 0, 256] : List Int)) ∧ (Kd.R (Kd.int .i32) 21 w' w.heap.size (fun k_ => some k_ ≠ (.slice Ao15 ([400, -100, 0, 0, 0, 0, 0, 256] : List Int).length co15 : Value).ownBlock) s_.1 ([400, -100, 0, 0, 0, 0, 0, 256] : List Int)) ∧ (Kd.S (Kd.slice 21 (Kd.int .i32)) 25 w' w.heap.size (fun k_ => some k_ ≠ (.slice Ao10 ([[16384, 16384, 16384, 16384, 16384, 16384, 16384, 16384]] : List (List Int)).length co10 : Value).ownBlock ∧ some k_ ≠ (.slice Ao15 ([400, -100, 0, 0, 0, 0, 0, 256] : List Int).length co15 : Value).ownBlock ∧ nO_ k_ s_.1) s_.2.1 ([[16642, 16320, 16384, 16384, 16384, 16384, 16384, 16549]] : List (List Int))) ∧ (w'.heap[gb171]? = some (.cells #[.slice Ao10 ([[16384, 16384, 16384, 16384, 16384, 16384, 16384, 16384]] : List (List Int)).length co10] 24 (0, 0))) ∧ (w'.heap[s_.2.2]? = some (.cells #[.slice none 0 0] 24 (0, 0))) ∧ (w.heap.size ≤ s_.2.2) ∧ (w.heap.size ≤ s_.2.2) ∧ (gb171 ≠ s_.2.2) ∧ (s_.2.2 ≠ gb171) ∧ (Below w.heap.size w w')) ?_ ?_; rotate_left
 ·
  intro hCont; refine two_ (i := 1) (j := 7) (Ni := some 28) (Nj := some 8) #[t_, t_, t_, f_, f_, f_, f_, f_, f_, f_] #[t_, f_, t_, f_, f_, f_, f_, t_, f_, f_] rfl rfl rfl rfl (two_of HT_.out (by kernel_rfl)) (by decide) (by decide) (fun K hK => ?_) (fun K hK => ?_)
  ·
   skip
   refine goes_ Tryd.func36 (by kernel_rfl) rfl #[] (by rfl) rfl rfl (by (try simp only [List.map_toArray, List.map_cons, List.map_nil]); first | done | rfl | (simp only [List.length_drop, List.length_take]; rfl)) ?_
   with_reducible refine (bitloftlaw16_given.calls  ([400, -100, 0, 0, 0, 0, 0, 256] : List Int) _ A5.out).mono ?_
   rintro e w18 ⟨v174, rfl, ho0, hb⟩
   refine ⟨_, rfl, ?_⟩; have n0_ := Aside0.mk (Kd.S_elder' (by (with_reducible repeat (first | apply Kd.S_alloc | apply Kd.S_drewN | apply Kd.S_drew)); exact HO170.out) (Kd.R_base ho0) hb); have n1_ := Aside0.mk (Kd.R_elder' (pL_ HO173.out) (Kd.R_base ho0) hb); have n2_ := Aside0.mk (Kd.R_lower (Kd.R_new' ho0 (Kd.R_lt (pL_ HO173.out))) (below_size (pH_ HB.out))); have n3_ := Aside0.mk (blk_below (g := gb171) (o := .cells #[.slice Ao10 ([[16384, 16384, 16384, 16384, 16384, 16384, 16384, 16384]] : List (List Int)).length co10] 24 (0, 0)) (pG_ BK171.out) hb); have n4_ := Aside0.mk (below_step (pH_ HB.out) hb); clear HO170; clear HO173; clear BK171; clear HB; have HO170 := n0_; have HO173 := n1_; have HO175 := n2_; have BK171 := n3_; have HB := n4_; clear n0_ n1_ n2_ n3_ n4_; (try clear hb); (try clear hb2); (try clear hk); (try clear hi); (try clear ho0); obtain ⟨Ao19, co19, eo19⟩ := Kd.R_slice HO175.out; (first | subst eo19 | (injection eo19 with f1_ f2_ f3_; have f4_ := f1_.symm; have f5_ := f3_.symm; clear f1_ f2_ f3_; subst f4_; subst f5_)); refine hK.out _ _ ((blk_cell BK171.out 0).trans rfl) (fun hHeld => ?_); clear hK K; refine norm_ (a' := ?_) ?_ ?_; rotate_left
   ·
    show Act.put _ (some 28) _ = _
    simp only [Act.put, sA_, sZ_, sS_, i64_w, i32_w]; rfl
   refine two_ (i := 3) (j := 7) (Ni := some 30) (Nj := some 8) #[t_, t_, t_, t_, f_, f_, f_, f_, f_, f_] #[t_, t_, t_, f_, f_, f_, f_, t_, f_, f_] rfl rfl rfl rfl (two_of HT_.out (by kernel_rfl)) (by decide) (by decide) (fun K hK => ?_) (fun K hK => ?_)
   ·
    skip
    refine goes_ Tryd.func18 (by kernel_rfl) rfl #[.agg #[.slice Ao10 ([[16384, 16384, 16384, 16384, 16384, 16384, 16384, 16384]] : List (List Int)).length co10], .int .i64 0, .slice Ao19 ([400, -100, 0, 0, 0, 0, 0, 256] : List Int).length co19, .int .i32 2587, .bool true] (by rfl) rfl rfl (by (try simp only [List.map_toArray, List.map_cons, List.map_nil]); first | done | rfl | (simp only [List.length_drop, List.length_take]; rfl)) ?_
    with_reducible refine (mixer_Learn.calls 2000 _ _ ([[16384, 16384, 16384, 16384, 16384, 16384, 16384, 16384]] : List (List Int)) 0 _ _ ([400, -100, 0, 0, 0, 0, 0, 256] : List Int) 2587 true ([[16642, 16320, 16384, 16384, 16384, 16384, 16384, 16549]] : List (List Int)) 0 _ ?side1 ?side2 ?side3 ?side4 A6.out).mono ?_
    (case side1 => repeat (first | exact (Kd.S_reads' HO170.out).2.2 | (with_reducible refine Kd.C_alloc ?_ _) | (with_reducible refine Kd.C_drewN ?_ _) | (with_reducible refine Kd.C_drew ?_))); (case side2 => exact (Kd.S_reads' HO170.out).2.1); (case side3 => repeat (first | exact (Kd.R_reads' HO175.out).2.2 | (with_reducible refine Kd.C_alloc ?_ _) | (with_reducible refine Kd.C_drewN ?_ _) | (with_reducible refine Kd.C_drew ?_))); (case side4 => exact (Kd.R_reads' HO175.out).2.1)
    rintro e w20 ⟨v176, rfl, ho0, hb⟩
    refine ⟨_, rfl, ?_⟩; have n0_ := Aside0.mk (Kd.S_elder' (by (with_reducible repeat (first | apply Kd.S_alloc | apply Kd.S_drewN | apply Kd.S_drew)); exact HO170.out) (Kd.S_base ho0) hb); have n1_ := Aside0.mk (Kd.R_below (pL_ HO173.out) hb); have n2_ := Aside0.mk (Kd.R_below (pL_ HO175.out) hb); have n3_ := Aside0.mk (Kd.S_lower (Kd.S_new' (Kd.S_new' (Kd.S_new' ho0 (Kd.S_lt (by (with_reducible repeat (first | apply Kd.S_alloc | apply Kd.S_drewN | apply Kd.S_drew)); exact HO170.out))) (Kd.R_lt (pL_ HO173.out))) (Kd.R_lt (pL_ HO175.out))) (below_size (pH_ HB.out))); have n4_ := Aside0.mk (blk_below (g := gb171) (o := .cells #[.slice Ao10 ([[16384, 16384, 16384, 16384, 16384, 16384, 16384, 16384]] : List (List Int)).length co10] 24 (0, 0)) (pG_ BK171.out) hb); have n5_ := Aside0.mk (below_step (pH_ HB.out) hb); clear HO170; clear HO173; clear HO175; clear BK171; clear HB; have HO170 := n0_; have HO173 := n1_; have HO175 := n2_; have HO177 := n3_; have BK171 := n4_; have HB := n5_; clear n0_ n1_ n2_ n3_ n4_ n5_; (try clear hb); (try clear hb2); (try clear hk); (try clear hi); (try clear ho0); refine hK.out _ _ ((blk_cell BK171.out 0).trans rfl) (fun hHeld => ?_); clear hK K; refine norm_ (a' := ?_) ?_ ?_; rotate_left
    ·
     show Act.put _ (some 30) _ = _
     simp only [Act.put, sA_, sZ_, sS_, i64_w, i32_w]; rfl
    refine pure_ (i := 4) (N := some 26) (v := ?_) (a' := ?_) #[t_, t_, t_, t_, t_, f_, f_, f_, f_, f_] rfl rfl (any_of HT_.out (by kernel_rfl)) (fun _ _ _ h => h) (Or.inl ⟨by rfl, ?_⟩) ?_ ?_; rotate_left
    ·
     intro w'; go_simp
     with_reducible rfl
    rotate_left
    ·
     simp only [Act.put, sA_, sZ_, sS_, i64_w, i32_w]; rfl
    refine pure_ (i := 5) (N := some 31) (v := ?_) (a' := ?_) #[t_, t_, t_, t_, t_, t_, f_, f_, f_, f_] rfl rfl (any_of HT_.out (by kernel_rfl)) (fun _ _ _ h => h) (Or.inl ⟨by rfl, ?_⟩) ?_ ?_; rotate_left
    ·
     intro w'; go_simp
     with_reducible rfl
    rotate_left
    ·
     simp only [Act.put, sA_, sZ_, sS_, i64_w, i32_w]; rfl
    refine pure_ (i := 6) (N := some 32) (v := ?_) (a' := ?_) #[t_, t_, t_, t_, t_, t_, t_, f_, f_, f_] rfl rfl (any_of HT_.out (by kernel_rfl)) (fun _ _ _ h => h) (Or.inl ⟨by rfl, ?_⟩) ?_ ?_; rotate_left
    ·
     intro w'; go_simp
     with_reducible rfl
    rotate_left
    ·
     simp only [Act.put, sA_, sZ_, sS_, i64_w, i32_w]; rfl
    refine one_ (i := 7) (N := some 8) #[t_, t_, t_, t_, t_, t_, t_, t_, f_, f_] rfl rfl (one_of HT_.out (by kernel_rfl)) (by decide) (fun K hK => ?_); refine box_step ?hg (N := 8) ?hd (cs := #[.slice none 0 0]) (t := 24) ?hr ?_; (case hd => rfl); (case hg => rfl); (case hr => first | (go_simp; done) | (go_simp; rfl)); intro gb178 hg w21 hbox hb; have n0_ := Aside0.mk (Kd.S_below (by (with_reducible repeat (first | apply Kd.S_alloc | apply Kd.S_drewN | apply Kd.S_drew)); exact HO170.out) hb); have n1_ := Aside0.mk (Kd.R_below (pL_ HO173.out) hb); have n2_ := Aside0.mk (Kd.R_below (pL_ HO175.out) hb); have n3_ := Aside0.mk (Kd.S_below (by (with_reducible repeat (first | apply Kd.S_alloc | apply Kd.S_drewN | apply Kd.S_drew)); exact HO177.out) hb); have n4_ := Aside0.mk (blk_below (g := gb171) (o := .cells #[.slice Ao10 ([[16384, 16384, 16384, 16384, 16384, 16384, 16384, 16384]] : List (List Int)).length co10] 24 (0, 0)) (pG_ BK171.out) hb); have n5_ := Aside0.mk (below_step (pH_ HB.out) hb); have n6_ := Aside0.mk (hbox); have n7_ := Aside0.mk ((by rw [hg]; exact (below_size (pH_ HB.out)) : w.heap.size ≤ gb178)); have n8_ := Aside0.mk ((by rw [hg]; exact (below_size (pH_ HB.out)) : w.heap.size ≤ gb178)); have n9_ := Aside0.mk ((by rw [hg]; exact Nat.ne_of_lt (blk_lt (g := gb171) (o := .cells #[.slice Ao10 ([[16384, 16384, 16384, 16384, 16384, 16384, 16384, 16384]] : List (List Int)).length co10] 24 (0, 0)) (pG_ BK171.out)) : gb171 ≠ gb178)); have n10_ := Aside0.mk ((by rw [hg]; exact Nat.ne_of_gt (blk_lt (g := gb171) (o := .cells #[.slice Ao10 ([[16384, 16384, 16384, 16384, 16384, 16384, 16384, 16384]] : List (List Int)).length co10] 24 (0, 0)) (pG_ BK171.out)) : gb178 ≠ gb171)); clear HO170; clear HO173; clear HO175; clear HO177; clear BK171; clear HB; have HO170 := n0_; have HO173 := n1_; have HO175 := n2_; have HO177 := n3_; have BK171 := n4_; have HB := n5_; have BK178 := n6_; have GW178 := n7_; have GE178 := n8_; have NB171_178 := n9_; have NB178_171 := n10_; clear n0_ n1_ n2_ n3_ n4_ n5_ n6_ n7_ n8_ n9_ n10_; clear hb hbox hg; refine hK.out _ _ ((blk_cell BK171.out 0).trans rfl) (fun hHeld => ?_); clear hK K; refine norm_ (a' := ?_) ?_ ?_; rotate_left
    ·
     show Act.put _ (some 8) _ = _
     simp only [Act.put, sA_, sZ_, sS_, i64_w, i32_w]; rfl
    exact norm_ (by simp only [putAll, Act.put, sA_, sZ_, sS_]) (hCont (.slice Ao19 ([400, -100, 0, 0, 0, 0, 0, 256] : List Int).length co19, v176, gb178) _ ⟨hHeld, (by (with_reducible repeat (first | apply Kd.S_alloc | apply Kd.S_drewN | apply Kd.S_drew)); exact Kd.S_mono HO170.out (fun _ hk => by first | exact ⟨hk.1.1.2, ⟨hk.1.2, hk.2⟩⟩ | (have hk_ := hk; simp only [and_assoc, true_and, and_true] at hk_ ⊢; first | exact hk_ | exact hk_.2 | exact hk_.2.2))), (by (with_reducible repeat (first | apply rA_ | apply rN_ | apply rD_)); exact Kd.R_mono HO173.out (fun _ hk => by first | exact hk.2 | (have hk_ := hk; simp only [and_assoc, true_and, and_true] at hk_ ⊢; first | exact hk_ | exact hk_.2 | exact hk_.2.2))), (by (with_reducible repeat (first | apply rA_ | apply rN_ | apply rD_)); exact Kd.R_mono HO175.out (fun _ hk => by first | exact hk.2 | (have hk_ := hk; simp only [and_assoc, true_and, and_true] at hk_ ⊢; first | exact hk_ | exact hk_.2 | exact hk_.2.2))), (by (with_reducible repeat (first | apply Kd.S_alloc | apply Kd.S_drewN | apply Kd.S_drew)); exact Kd.S_mono HO177.out (fun _ hk => by first | exact ⟨hk.1.1.2, ⟨hk.1.2, hk.2⟩⟩ | (have hk_ := hk; simp only [and_assoc, true_and, and_true] at hk_ ⊢; first | exact hk_ | exact hk_.2 | exact hk_.2.2))), (pG_ BK171.out), (pG_ BK178.out), GW178.out, GE178.out, NB171_178.out, NB178_171.out, (pH_ HB.out)⟩)
   ·
    skip
    refine box_step ?hg (N := 8) ?hd (cs := #[.slice none 0 0]) (t := 24) ?hr ?_; (case hd => rfl); (case hg => rfl); (case hr => first | (go_simp; done) | (go_simp; rfl)); intro gb178 hg w19 hbox hb; have n0_ := Aside0.mk (Kd.S_below (by (with_reducible repeat (first | apply Kd.S_alloc | apply Kd.S_drewN | apply Kd.S_drew)); exact HO170.out) hb); have n1_ := Aside0.mk (Kd.R_below (pL_ HO173.out) hb); have n2_ := Aside0.mk (Kd.R_below (pL_ HO175.out) hb); have n3_ := Aside0.mk (blk_below (g := gb171) (o := .cells #[.slice Ao10 ([[16384, 16384, 16384, 16384, 16384, 16384, 16384, 16384]] : List (List Int)).length co10] 24 (0, 0)) (pG_ BK171.out) hb); have n4_ := Aside0.mk (below_step (pH_ HB.out) hb); have n5_ := Aside0.mk (hbox); have n6_ := Aside0.mk ((by rw [hg]; exact (below_size (pH_ HB.out)) : w.heap.size ≤ gb178)); have n7_ := Aside0.mk ((by rw [hg]; exact (below_size (pH_ HB.out)) : w.heap.size ≤ gb178)); have n8_ := Aside0.mk ((by rw [hg]; exact Nat.ne_of_lt (blk_lt (g := gb171) (o := .cells #[.slice Ao10 ([[16384, 16384, 16384, 16384, 16384, 16384, 16384, 16384]] : List (List Int)).length co10] 24 (0, 0)) (pG_ BK171.out)) : gb171 ≠ gb178)); have n9_ := Aside0.mk ((by rw [hg]; exact Nat.ne_of_gt (blk_lt (g := gb171) (o := .cells #[.slice Ao10 ([[16384, 16384, 16384, 16384, 16384, 16384, 16384, 16384]] : List (List Int)).length co10] 24 (0, 0)) (pG_ BK171.out)) : gb178 ≠ gb171)); clear HO170; clear HO173; clear HO175; clear BK171; clear HB; have HO170 := n0_; have HO173 := n1_; have HO175 := n2_; have BK171 := n3_; have HB := n4_; have BK178 := n5_; have GW178 := n6_; have GE178 := n7_; have NB171_178 := n8_; have NB178_171 := n9_; clear n0_ n1_ n2_ n3_ n4_ n5_ n6_ n7_ n8_ n9_; clear hb hbox hg; obtain ⟨Ao20, co20, eo20⟩ := Kd.R_slice HO175.out; (first | subst eo20 | (injection eo20 with f1_ f2_ f3_; have f4_ := f1_.symm; have f5_ := f3_.symm; clear f1_ f2_ f3_; subst f4_; subst f5_)); refine hK.out _ _ ((blk_cell BK171.out 0).trans rfl) (fun hHeld => ?_); clear hK K; refine norm_ (a' := ?_) ?_ ?_; rotate_left
    ·
     show Act.put _ (some 8) _ = _
     simp only [Act.put, sA_, sZ_, sS_, i64_w, i32_w]; rfl
    refine one_ (i := 3) (N := some 30) #[t_, t_, t_, t_, f_, f_, f_, t_, f_, f_] rfl rfl (one_of HT_.out (by kernel_rfl)) (by decide) (fun K hK => ?_); refine goes_ Tryd.func18 (by kernel_rfl) rfl #[.agg #[.slice Ao10 ([[16384, 16384, 16384, 16384, 16384, 16384, 16384, 16384]] : List (List Int)).length co10], .int .i64 0, .slice Ao20 ([400, -100, 0, 0, 0, 0, 0, 256] : List Int).length co20, .int .i32 2587, .bool true] (by rfl) rfl rfl (by (try simp only [List.map_toArray, List.map_cons, List.map_nil]); first | done | rfl | (simp only [List.length_drop, List.length_take]; rfl)) ?_
    with_reducible refine (mixer_Learn.calls 2000 _ _ ([[16384, 16384, 16384, 16384, 16384, 16384, 16384, 16384]] : List (List Int)) 0 _ _ ([400, -100, 0, 0, 0, 0, 0, 256] : List Int) 2587 true ([[16642, 16320, 16384, 16384, 16384, 16384, 16384, 16549]] : List (List Int)) 0 _ ?side1 ?side2 ?side3 ?side4 A6.out).mono ?_
    (case side1 => repeat (first | exact (Kd.S_reads' HO170.out).2.2 | (with_reducible refine Kd.C_alloc ?_ _) | (with_reducible refine Kd.C_drewN ?_ _) | (with_reducible refine Kd.C_drew ?_))); (case side2 => exact (Kd.S_reads' HO170.out).2.1); (case side3 => repeat (first | exact (Kd.R_reads' HO175.out).2.2 | (with_reducible refine Kd.C_alloc ?_ _) | (with_reducible refine Kd.C_drewN ?_ _) | (with_reducible refine Kd.C_drew ?_))); (case side4 => exact (Kd.R_reads' HO175.out).2.1)
    rintro e w21 ⟨v176, rfl, ho0, hb⟩
    refine ⟨_, rfl, ?_⟩; have n0_ := Aside0.mk (Kd.S_elder' (by (with_reducible repeat (first | apply Kd.S_alloc | apply Kd.S_drewN | apply Kd.S_drew)); exact HO170.out) (Kd.S_base ho0) hb); have n1_ := Aside0.mk (Kd.R_below (pL_ HO173.out) hb); have n2_ := Aside0.mk (Kd.R_below (pL_ HO175.out) hb); have n3_ := Aside0.mk (Kd.S_lower (Kd.S_new' (Kd.S_new' (Kd.S_new' ho0 (Kd.S_lt (by (with_reducible repeat (first | apply Kd.S_alloc | apply Kd.S_drewN | apply Kd.S_drew)); exact HO170.out))) (Kd.R_lt (pL_ HO173.out))) (Kd.R_lt (pL_ HO175.out))) (below_size (pH_ HB.out))); have n4_ := Aside0.mk (blk_below (g := gb171) (o := .cells #[.slice Ao10 ([[16384, 16384, 16384, 16384, 16384, 16384, 16384, 16384]] : List (List Int)).length co10] 24 (0, 0)) (pG_ BK171.out) hb); have n5_ := Aside0.mk (blk_below (pG_ BK178.out) hb); have n6_ := Aside0.mk (below_step (pH_ HB.out) hb); clear HO170; clear HO173; clear HO175; clear BK171; clear BK178; clear HB; have HO170 := n0_; have HO173 := n1_; have HO175 := n2_; have HO177 := n3_; have BK171 := n4_; have BK178 := n5_; have HB := n6_; clear n0_ n1_ n2_ n3_ n4_ n5_ n6_; (try clear hb); (try clear hb2); (try clear hk); (try clear hi); (try clear ho0); refine hK.out _ _ ((blk_cell BK171.out 0).trans rfl) (fun hHeld => ?_); clear hK K; refine norm_ (a' := ?_) ?_ ?_; rotate_left
    ·
     show Act.put _ (some 30) _ = _
     simp only [Act.put, sA_, sZ_, sS_, i64_w, i32_w]; rfl
    refine pure_ (i := 4) (N := some 26) (v := ?_) (a' := ?_) #[t_, t_, t_, t_, t_, f_, f_, t_, f_, f_] rfl rfl (any_of HT_.out (by kernel_rfl)) (fun _ _ _ h => h) (Or.inl ⟨by rfl, ?_⟩) ?_ ?_; rotate_left
    ·
     intro w'; go_simp
     with_reducible rfl
    rotate_left
    ·
     simp only [Act.put, sA_, sZ_, sS_, i64_w, i32_w]; rfl
    refine pure_ (i := 5) (N := some 31) (v := ?_) (a' := ?_) #[t_, t_, t_, t_, t_, t_, f_, t_, f_, f_] rfl rfl (any_of HT_.out (by kernel_rfl)) (fun _ _ _ h => h) (Or.inl ⟨by rfl, ?_⟩) ?_ ?_; rotate_left
    ·
     intro w'; go_simp
     with_reducible rfl
    rotate_left
    ·
     simp only [Act.put, sA_, sZ_, sS_, i64_w, i32_w]; rfl
    refine pure_ (i := 6) (N := some 32) (v := ?_) (a' := ?_) #[t_, t_, t_, t_, t_, t_, t_, t_, f_, f_] rfl rfl (any_of HT_.out (by kernel_rfl)) (fun _ _ _ h => h) (Or.inl ⟨by rfl, ?_⟩) ?_ ?_; rotate_left
    ·
     intro w'; go_simp
     with_reducible rfl
    rotate_left
    ·
     simp only [Act.put, sA_, sZ_, sS_, i64_w, i32_w]; rfl
    exact norm_ (by simp only [putAll, Act.put, sA_, sZ_, sS_]) (hCont (.slice Ao20 ([400, -100, 0, 0, 0, 0, 0, 256] : List Int).length co20, v176, gb178) _ ⟨hHeld, (by (with_reducible repeat (first | apply Kd.S_alloc | apply Kd.S_drewN | apply Kd.S_drew)); exact Kd.S_mono HO170.out (fun _ hk => by first | exact ⟨hk.1.1.2, ⟨hk.1.2, hk.2⟩⟩ | (have hk_ := hk; simp only [and_assoc, true_and, and_true] at hk_ ⊢; first | exact hk_ | exact hk_.2 | exact hk_.2.2))), (by (with_reducible repeat (first | apply rA_ | apply rN_ | apply rD_)); exact Kd.R_mono HO173.out (fun _ hk => by first | exact hk.2 | (have hk_ := hk; simp only [and_assoc, true_and, and_true] at hk_ ⊢; first | exact hk_ | exact hk_.2 | exact hk_.2.2))), (by (with_reducible repeat (first | apply rA_ | apply rN_ | apply rD_)); exact Kd.R_mono HO175.out (fun _ hk => by first | exact hk.2 | (have hk_ := hk; simp only [and_assoc, true_and, and_true] at hk_ ⊢; first | exact hk_ | exact hk_.2 | exact hk_.2.2))), (by (with_reducible repeat (first | apply Kd.S_alloc | apply Kd.S_drewN | apply Kd.S_drew)); exact Kd.S_mono HO177.out (fun _ hk => by first | exact ⟨hk.1.1.2, ⟨hk.1.2, hk.2⟩⟩ | (have hk_ := hk; simp only [and_assoc, true_and, and_true] at hk_ ⊢; first | exact hk_ | exact hk_.2 | exact hk_.2.2))), (pG_ BK171.out), (pG_ BK178.out), GW178.out, GE178.out, NB171_178.out, NB178_171.out, (pH_ HB.out)⟩)
  ·
   skip
   refine box_step ?hg (N := 8) ?hd (cs := #[.slice none 0 0]) (t := 24) ?hr ?_; (case hd => rfl); (case hg => rfl); (case hr => first | (go_simp; done) | (go_simp; rfl)); intro gb178 hg w18 hbox hb; have n0_ := Aside0.mk (Kd.S_below (by (with_reducible repeat (first | apply Kd.S_alloc | apply Kd.S_drewN | apply Kd.S_drew)); exact HO170.out) hb); have n1_ := Aside0.mk (Kd.R_below (pL_ HO173.out) hb); have n2_ := Aside0.mk (blk_below (g := gb171) (o := .cells #[.slice Ao10 ([[16384, 16384, 16384, 16384, 16384, 16384, 16384, 16384]] : List (List Int)).length co10] 24 (0, 0)) (pG_ BK171.out) hb); have n3_ := Aside0.mk (below_step (pH_ HB.out) hb); have n4_ := Aside0.mk (hbox); have n5_ := Aside0.mk ((by rw [hg]; exact (below_size (pH_ HB.out)) : w.heap.size ≤ gb178)); have n6_ := Aside0.mk ((by rw [hg]; exact (below_size (pH_ HB.out)) : w.heap.size ≤ gb178)); have n7_ := Aside0.mk ((by rw [hg]; exact Nat.ne_of_lt (blk_lt (g := gb171) (o := .cells #[.slice Ao10 ([[16384, 16384, 16384, 16384, 16384, 16384, 16384, 16384]] : List (List Int)).length co10] 24 (0, 0)) (pG_ BK171.out)) : gb171 ≠ gb178)); have n8_ := Aside0.mk ((by rw [hg]; exact Nat.ne_of_gt (blk_lt (g := gb171) (o := .cells #[.slice Ao10 ([[16384, 16384, 16384, 16384, 16384, 16384, 16384, 16384]] : List (List Int)).length co10] 24 (0, 0)) (pG_ BK171.out)) : gb178 ≠ gb171)); clear HO170; clear HO173; clear BK171; clear HB; have HO170 := n0_; have HO173 := n1_; have BK171 := n2_; have HB := n3_; have BK178 := n4_; have GW178 := n5_; have GE178 := n6_; have NB171_178 := n7_; have NB178_171 := n8_; clear n0_ n1_ n2_ n3_ n4_ n5_ n6_ n7_ n8_; clear hb hbox hg; refine hK.out _ _ ((blk_cell BK171.out 0).trans rfl) (fun hHeld => ?_); clear hK K; refine norm_ (a' := ?_) ?_ ?_; rotate_left
   ·
    show Act.put _ (some 8) _ = _
    simp only [Act.put, sA_, sZ_, sS_, i64_w, i32_w]; rfl
   refine one_ (i := 1) (N := some 28) #[t_, t_, t_, f_, f_, f_, f_, t_, f_, f_] rfl rfl (one_of HT_.out (by kernel_rfl)) (by decide) (fun K hK => ?_); refine goes_ Tryd.func36 (by kernel_rfl) rfl #[] (by rfl) rfl rfl (by (try simp only [List.map_toArray, List.map_cons, List.map_nil]); first | done | rfl | (simp only [List.length_drop, List.length_take]; rfl)) ?_
   with_reducible refine (bitloftlaw16_given.calls  ([400, -100, 0, 0, 0, 0, 0, 256] : List Int) _ A5.out).mono ?_
   rintro e w19 ⟨v174, rfl, ho0, hb⟩
   refine ⟨_, rfl, ?_⟩; have n0_ := Aside0.mk (Kd.S_elder' (by (with_reducible repeat (first | apply Kd.S_alloc | apply Kd.S_drewN | apply Kd.S_drew)); exact HO170.out) (Kd.R_base ho0) hb); have n1_ := Aside0.mk (Kd.R_elder' (pL_ HO173.out) (Kd.R_base ho0) hb); have n2_ := Aside0.mk (Kd.R_lower (Kd.R_new' ho0 (Kd.R_lt (pL_ HO173.out))) (below_size (pH_ HB.out))); have n3_ := Aside0.mk (blk_below (g := gb171) (o := .cells #[.slice Ao10 ([[16384, 16384, 16384, 16384, 16384, 16384, 16384, 16384]] : List (List Int)).length co10] 24 (0, 0)) (pG_ BK171.out) hb); have n4_ := Aside0.mk (blk_below (pG_ BK178.out) hb); have n5_ := Aside0.mk (below_step (pH_ HB.out) hb); clear HO170; clear HO173; clear BK171; clear BK178; clear HB; have HO170 := n0_; have HO173 := n1_; have HO175 := n2_; have BK171 := n3_; have BK178 := n4_; have HB := n5_; clear n0_ n1_ n2_ n3_ n4_ n5_; (try clear hb); (try clear hb2); (try clear hk); (try clear hi); (try clear ho0); obtain ⟨Ao20, co20, eo20⟩ := Kd.R_slice HO175.out; (first | subst eo20 | (injection eo20 with f1_ f2_ f3_; have f4_ := f1_.symm; have f5_ := f3_.symm; clear f1_ f2_ f3_; subst f4_; subst f5_)); refine hK.out _ _ ((blk_cell BK171.out 0).trans rfl) (fun hHeld => ?_); clear hK K; refine norm_ (a' := ?_) ?_ ?_; rotate_left
   ·
    show Act.put _ (some 28) _ = _
    simp only [Act.put, sA_, sZ_, sS_, i64_w, i32_w]; rfl
   refine one_ (i := 3) (N := some 30) #[t_, t_, t_, t_, f_, f_, f_, t_, f_, f_] rfl rfl (one_of HT_.out (by kernel_rfl)) (by decide) (fun K hK => ?_); refine goes_ Tryd.func18 (by kernel_rfl) rfl #[.agg #[.slice Ao10 ([[16384, 16384, 16384, 16384, 16384, 16384, 16384, 16384]] : List (List Int)).length co10], .int .i64 0, .slice Ao20 ([400, -100, 0, 0, 0, 0, 0, 256] : List Int).length co20, .int .i32 2587, .bool true] (by rfl) rfl rfl (by (try simp only [List.map_toArray, List.map_cons, List.map_nil]); first | done | rfl | (simp only [List.length_drop, List.length_take]; rfl)) ?_
   with_reducible refine (mixer_Learn.calls 2000 _ _ ([[16384, 16384, 16384, 16384, 16384, 16384, 16384, 16384]] : List (List Int)) 0 _ _ ([400, -100, 0, 0, 0, 0, 0, 256] : List Int) 2587 true ([[16642, 16320, 16384, 16384, 16384, 16384, 16384, 16549]] : List (List Int)) 0 _ ?side1 ?side2 ?side3 ?side4 A6.out).mono ?_
   (case side1 => repeat (first | exact (Kd.S_reads' HO170.out).2.2 | (with_reducible refine Kd.C_alloc ?_ _) | (with_reducible refine Kd.C_drewN ?_ _) | (with_reducible refine Kd.C_drew ?_))); (case side2 => exact (Kd.S_reads' HO170.out).2.1); (case side3 => repeat (first | exact (Kd.R_reads' HO175.out).2.2 | (with_reducible refine Kd.C_alloc ?_ _) | (with_reducible refine Kd.C_drewN ?_ _) | (with_reducible refine Kd.C_drew ?_))); (case side4 => exact (Kd.R_reads' HO175.out).2.1)
   rintro e w21 ⟨v176, rfl, ho0, hb⟩
   refine ⟨_, rfl, ?_⟩; have n0_ := Aside0.mk (Kd.S_elder' (by (with_reducible repeat (first | apply Kd.S_alloc | apply Kd.S_drewN | apply Kd.S_drew)); exact HO170.out) (Kd.S_base ho0) hb); have n1_ := Aside0.mk (Kd.R_below (pL_ HO173.out) hb); have n2_ := Aside0.mk (Kd.R_below (pL_ HO175.out) hb); have n3_ := Aside0.mk (Kd.S_lower (Kd.S_new' (Kd.S_new' (Kd.S_new' ho0 (Kd.S_lt (by (with_reducible repeat (first | apply Kd.S_alloc | apply Kd.S_drewN | apply Kd.S_drew)); exact HO170.out))) (Kd.R_lt (pL_ HO173.out))) (Kd.R_lt (pL_ HO175.out))) (below_size (pH_ HB.out))); have n4_ := Aside0.mk (blk_below (g := gb171) (o := .cells #[.slice Ao10 ([[16384, 16384, 16384, 16384, 16384, 16384, 16384, 16384]] : List (List Int)).length co10] 24 (0, 0)) (pG_ BK171.out) hb); have n5_ := Aside0.mk (blk_below (pG_ BK178.out) hb); have n6_ := Aside0.mk (below_step (pH_ HB.out) hb); clear HO170; clear HO173; clear HO175; clear BK171; clear BK178; clear HB; have HO170 := n0_; have HO173 := n1_; have HO175 := n2_; have HO177 := n3_; have BK171 := n4_; have BK178 := n5_; have HB := n6_; clear n0_ n1_ n2_ n3_ n4_ n5_ n6_; (try clear hb); (try clear hb2); (try clear hk); (try clear hi); (try clear ho0); refine hK.out _ _ ((blk_cell BK171.out 0).trans rfl) (fun hHeld => ?_); clear hK K; refine norm_ (a' := ?_) ?_ ?_; rotate_left
   ·
    show Act.put _ (some 30) _ = _
    simp only [Act.put, sA_, sZ_, sS_, i64_w, i32_w]; rfl
   refine pure_ (i := 4) (N := some 26) (v := ?_) (a' := ?_) #[t_, t_, t_, t_, t_, f_, f_, t_, f_, f_] rfl rfl (any_of HT_.out (by kernel_rfl)) (fun _ _ _ h => h) (Or.inl ⟨by rfl, ?_⟩) ?_ ?_; rotate_left
   ·
    intro w'; go_simp
    with_reducible rfl
   rotate_left
   ·
    simp only [Act.put, sA_, sZ_, sS_, i64_w, i32_w]; rfl
   refine pure_ (i := 5) (N := some 31) (v := ?_) (a' := ?_) #[t_, t_, t_, t_, t_, t_, f_, t_, f_, f_] rfl rfl (any_of HT_.out (by kernel_rfl)) (fun _ _ _ h => h) (Or.inl ⟨by rfl, ?_⟩) ?_ ?_; rotate_left
   ·
    intro w'; go_simp
    with_reducible rfl
   rotate_left
   ·
    simp only [Act.put, sA_, sZ_, sS_, i64_w, i32_w]; rfl
   refine pure_ (i := 6) (N := some 32) (v := ?_) (a' := ?_) #[t_, t_, t_, t_, t_, t_, t_, t_, f_, f_] rfl rfl (any_of HT_.out (by kernel_rfl)) (fun _ _ _ h => h) (Or.inl ⟨by rfl, ?_⟩) ?_ ?_; rotate_left
   ·
    intro w'; go_simp
    with_reducible rfl
   rotate_left
   ·
    simp only [Act.put, sA_, sZ_, sS_, i64_w, i32_w]; rfl
   exact norm_ (by simp only [putAll, Act.put, sA_, sZ_, sS_]) (hCont (.slice Ao20 ([400, -100, 0, 0, 0, 0, 0, 256] : List Int).length co20, v176, gb178) _ ⟨hHeld, (by (with_reducible repeat (first | apply Kd.S_alloc | apply Kd.S_drewN | apply Kd.S_drew)); exact Kd.S_mono HO170.out (fun _ hk => by first | exact ⟨hk.1.1.2, ⟨hk.1.2, hk.2⟩⟩ | (have hk_ := hk; simp only [and_assoc, true_and, and_true] at hk_ ⊢; first | exact hk_ | exact hk_.2 | exact hk_.2.2))), (by (with_reducible repeat (first | apply rA_ | apply rN_ | apply rD_)); exact Kd.R_mono HO173.out (fun _ hk => by first | exact hk.2 | (have hk_ := hk; simp only [and_assoc, true_and, and_true] at hk_ ⊢; first | exact hk_ | exact hk_.2 | exact hk_.2.2))), (by (with_reducible repeat (first | apply rA_ | apply rN_ | apply rD_)); exact Kd.R_mono HO175.out (fun _ hk => by first | exact hk.2 | (have hk_ := hk; simp only [and_assoc, true_and, and_true] at hk_ ⊢; first | exact hk_ | exact hk_.2 | exact hk_.2.2))), (by (with_reducible repeat (first | apply Kd.S_alloc | apply Kd.S_drewN | apply Kd.S_drew)); exact Kd.S_mono HO177.out (fun _ hk => by first | exact ⟨hk.1.1.2, ⟨hk.1.2, hk.2⟩⟩ | (have hk_ := hk; simp only [and_assoc, true_and, and_true] at hk_ ⊢; first | exact hk_ | exact hk_.2 | exact hk_.2.2))), (pG_ BK171.out), (pG_ BK178.out), GW178.out, GE178.out, NB171_178.out, NB178_171.out, (pH_ HB.out)⟩)
 rintro ⟨v174, v176, gb178⟩ w22 ⟨hS_, h0_, h1_, h2_, h3_, h4_, h5_, h6_, h7_, h8_, h9_, h10_⟩
 have n0_ : Aside0 (Kd.S (Kd.slice 21 (Kd.int .i32)) 25 w22 w.heap.size (fun k_ => some k_ ≠ (.slice Ao15 ([400, -100, 0, 0, 0, 0, 0, 256] : List Int).length co15 : Value).ownBlock ∧ nO_ k_ v174 ∧ nO_ k_ v176) (.slice Ao10 ([[16384, 16384, 16384, 16384, 16384, 16384, 16384, 16384]] : List (List Int)).length co10) ([[16384, 16384, 16384, 16384, 16384, 16384, 16384, 16384]] : List (List Int))) := ⟨h0_⟩; have n1_ : Aside0 (Kd.R (Kd.int .i32) 21 w22 w.heap.size (fun k_ => nO_ k_ v174) (.slice Ao15 ([400, -100, 0, 0, 0, 0, 0, 256] : List Int).length co15) ([400, -100, 0, 0, 0, 0, 0, 256] : List Int)) := ⟨h1_⟩; have n2_ : Aside0 (Kd.R (Kd.int .i32) 21 w22 w.heap.size (fun k_ => some k_ ≠ (.slice Ao15 ([400, -100, 0, 0, 0, 0, 0, 256] : List Int).length co15 : Value).ownBlock) v174 ([400, -100, 0, 0, 0, 0, 0, 256] : List Int)) := ⟨h2_⟩; have n3_ : Aside0 (Kd.S (Kd.slice 21 (Kd.int .i32)) 25 w22 w.heap.size (fun k_ => some k_ ≠ (.slice Ao10 ([[16384, 16384, 16384, 16384, 16384, 16384, 16384, 16384]] : List (List Int)).length co10 : Value).ownBlock ∧ some k_ ≠ (.slice Ao15 ([400, -100, 0, 0, 0, 0, 0, 256] : List Int).length co15 : Value).ownBlock ∧ nO_ k_ v174) v176 ([[16642, 16320, 16384, 16384, 16384, 16384, 16384, 16549]] : List (List Int))) := ⟨h3_⟩; have n4_ : Aside0 (w22.heap[gb171]? = some (.cells #[.slice Ao10 ([[16384, 16384, 16384, 16384, 16384, 16384, 16384, 16384]] : List (List Int)).length co10] 24 (0, 0))) := ⟨h4_⟩; have n5_ : Aside0 (w22.heap[gb178]? = some (.cells #[.slice none 0 0] 24 (0, 0))) := ⟨h5_⟩; have n6_ : Aside0 (w.heap.size ≤ gb178) := ⟨h6_⟩; have n7_ : Aside0 (w.heap.size ≤ gb178) := ⟨h7_⟩; have n8_ : Aside0 (gb171 ≠ gb178) := ⟨h8_⟩; have n9_ : Aside0 (gb178 ≠ gb171) := ⟨h9_⟩; have n10_ : Aside0 (Below w.heap.size w w22) := ⟨h10_⟩; clear HO170; clear HO173; clear BK171; clear HB; clear h0_ h1_ h2_ h3_ h4_ h5_ h6_ h7_ h8_ h9_ h10_; have HO170 := n0_; have HO173 := n1_; have HO175 := n2_; have HO177 := n3_; have BK171 := n4_; have BK178 := n5_; have GW178 := n6_; have GE178 := n7_; have NB171_178 := n8_; have NB178_171 := n9_; have HB := n10_; clear n0_ n1_ n2_ n3_ n4_ n5_ n6_ n7_ n8_ n9_ n10_; have hHeld : w22.cell? ⟨gb171, 0, none⟩ = some (.slice Ao10 ([[16384, 16384, 16384, 16384, 16384, 16384, 16384, 16384]] : List (List Int)).length co10) := hS_; obtain ⟨Ao23, co23, eo23⟩ := Kd.S_slice HO177.out; (first | subst eo23 | (injection eo23 with f1_ f2_ f3_; have f4_ := f1_.symm; have f5_ := f3_.symm; clear f1_ f2_ f3_; subst f4_; subst f5_)); refine norm_ (a' := ?_) ?_ ?_; rotate_left
 ·
  simp only [putAll, Act.put, sA_, sZ_, sS_]; rfl
 refine one_ (i := 8) (N := none) #[t_, t_, t_, t_, t_, t_, t_, t_, t_, f_] rfl rfl (one_of HT_.out (by kernel_rfl)) (by decide) (fun K hK => ?_); have hs24 : w22.cell? ⟨gb178, 0, none⟩ = some (.slice none 0 0) := (blk_cell BK178.out 0).trans rfl; have hfs24 := blk_frozen BK178.out 0; have hns24_0 := NB171_178.out; have hms24_0 := NB178_171.out; refine skip_ (w1 := ?_) (by rfl) rfl ?_ ?_; rotate_left
 ·
  go_simp; rfl
 refine hK.out _ _ (((cell_far (p := ⟨gb178, _, none⟩) NB171_178.out _).trans (hHeld))) (fun hHeld => ?_); clear hK K; refine pure_ (i := 9) (N := some 9) (v := ?_) (a' := ?_) #[t_, t_, t_, t_, t_, t_, t_, t_, t_, t_] rfl rfl (any_of HT_.out (by kernel_rfl)) (fun _ _ _ h => h) (Or.inl ⟨by rfl, ?_⟩) ?_ ?_; rotate_left
 ·
  intro w'; go_simp
  with_reducible rfl
 rotate_left
 ·
  simp only [Act.put, sA_, sZ_, sS_, i64_w, i32_w]; rfl
 refine done_ (done_of HT_.out (by kernel_rfl)) ?_; have n0_ : Aside0 (Kd.S (Kd.slice 21 (Kd.int .i32)) 25 (w22.setCell ⟨gb178, 0, none⟩ (.slice Ao23 ([[16642, 16320, 16384, 16384, 16384, 16384, 16384, 16549]] : List (List Int)).length co23)) w.heap.size (fun k_ => some k_ ≠ (.slice Ao15 ([400, -100, 0, 0, 0, 0, 0, 256] : List Int).length co15 : Value).ownBlock ∧ nO_ k_ v174 ∧ some k_ ≠ (.slice Ao23 ([[16642, 16320, 16384, 16384, 16384, 16384, 16384, 16549]] : List (List Int)).length co23 : Value).ownBlock) (.slice Ao10 ([[16384, 16384, 16384, 16384, 16384, 16384, 16384, 16384]] : List (List Int)).length co10) ([[16384, 16384, 16384, 16384, 16384, 16384, 16384, 16384]] : List (List Int))) := ⟨by (with_reducible repeat (first | apply Kd.S_alloc | apply Kd.S_drewN | apply Kd.S_drew)); exact Kd.S_mono (Kd.S_far (p := ⟨gb178, 0, none⟩) (Kd.S_types HO170.out BK178.out (by decide)) (fun _ hk => by first | exact hk.2 | (have hk_ := hk; simp only [and_assoc, true_and, and_true] at hk_ ⊢; first | exact hk_ | exact hk_.2 | exact hk_.2.2)) (.slice Ao23 ([[16642, 16320, 16384, 16384, 16384, 16384, 16384, 16549]] : List (List Int)).length co23)) (fun _ hk => by first | exact ⟨hk.1.1, ⟨hk.1.2.1, hk.1.2.2⟩⟩ | (have hk_ := hk; simp only [and_assoc, true_and, and_true] at hk_ ⊢; first | exact hk_ | exact hk_.2 | exact hk_.2.2))⟩; have n1_ : Aside0 (Kd.R (Kd.int .i32) 21 (w22.setCell ⟨gb178, 0, none⟩ (.slice Ao23 ([[16642, 16320, 16384, 16384, 16384, 16384, 16384, 16549]] : List (List Int)).length co23)) w.heap.size (fun k_ => nO_ k_ v174) (.slice Ao15 ([400, -100, 0, 0, 0, 0, 0, 256] : List Int).length co15) ([400, -100, 0, 0, 0, 0, 0, 256] : List Int)) := ⟨by (with_reducible repeat (first | apply rA_ | apply rN_ | apply rD_)); exact Kd.R_mono (Kd.R_far (p := ⟨gb178, 0, none⟩) (Kd.R_types HO173.out BK178.out (by decide)) (fun _ hk => by first | exact hk.2 | (have hk_ := hk; simp only [and_assoc, true_and, and_true] at hk_ ⊢; first | exact hk_ | exact hk_.2 | exact hk_.2.2)) (.slice Ao23 ([[16642, 16320, 16384, 16384, 16384, 16384, 16384, 16549]] : List (List Int)).length co23)) (fun _ hk => by first | exact hk.1 | (have hk_ := hk; simp only [and_assoc, true_and, and_true] at hk_ ⊢; first | exact hk_ | exact hk_.2 | exact hk_.2.2))⟩; have n2_ : Aside0 (Kd.R (Kd.int .i32) 21 (w22.setCell ⟨gb178, 0, none⟩ (.slice Ao23 ([[16642, 16320, 16384, 16384, 16384, 16384, 16384, 16549]] : List (List Int)).length co23)) w.heap.size (fun k_ => some k_ ≠ (.slice Ao15 ([400, -100, 0, 0, 0, 0, 0, 256] : List Int).length co15 : Value).ownBlock) v174 ([400, -100, 0, 0, 0, 0, 0, 256] : List Int)) := ⟨by (with_reducible repeat (first | apply rA_ | apply rN_ | apply rD_)); exact Kd.R_mono (Kd.R_far (p := ⟨gb178, 0, none⟩) (Kd.R_types HO175.out BK178.out (by decide)) (fun _ hk => by first | exact hk.2 | (have hk_ := hk; simp only [and_assoc, true_and, and_true] at hk_ ⊢; first | exact hk_ | exact hk_.2 | exact hk_.2.2)) (.slice Ao23 ([[16642, 16320, 16384, 16384, 16384, 16384, 16384, 16549]] : List (List Int)).length co23)) (fun _ hk => by first | exact hk.1 | (have hk_ := hk; simp only [and_assoc, true_and, and_true] at hk_ ⊢; first | exact hk_ | exact hk_.2 | exact hk_.2.2))⟩; have n3_ : Aside0 (Kd.S (Kd.slice 21 (Kd.int .i32)) 25 (w22.setCell ⟨gb178, 0, none⟩ (.slice Ao23 ([[16642, 16320, 16384, 16384, 16384, 16384, 16384, 16549]] : List (List Int)).length co23)) w.heap.size (fun k_ => some k_ ≠ (.slice Ao10 ([[16384, 16384, 16384, 16384, 16384, 16384, 16384, 16384]] : List (List Int)).length co10 : Value).ownBlock ∧ some k_ ≠ (.slice Ao15 ([400, -100, 0, 0, 0, 0, 0, 256] : List Int).length co15 : Value).ownBlock ∧ nO_ k_ v174) (.slice Ao23 ([[16642, 16320, 16384, 16384, 16384, 16384, 16384, 16549]] : List (List Int)).length co23) ([[16642, 16320, 16384, 16384, 16384, 16384, 16384, 16549]] : List (List Int))) := ⟨by (with_reducible repeat (first | apply Kd.S_alloc | apply Kd.S_drewN | apply Kd.S_drew)); exact Kd.S_mono (Kd.S_far (p := ⟨gb178, 0, none⟩) (Kd.S_types HO177.out BK178.out (by decide)) (fun _ hk => by first | exact hk.2 | (have hk_ := hk; simp only [and_assoc, true_and, and_true] at hk_ ⊢; first | exact hk_ | exact hk_.2 | exact hk_.2.2)) (.slice Ao23 ([[16642, 16320, 16384, 16384, 16384, 16384, 16384, 16549]] : List (List Int)).length co23)) (fun _ hk => by first | exact ⟨hk.1.1, ⟨hk.1.2.1, hk.1.2.2⟩⟩ | (have hk_ := hk; simp only [and_assoc, true_and, and_true] at hk_ ⊢; first | exact hk_ | exact hk_.2 | exact hk_.2.2))⟩; have n4_ : Aside0 ((w22.setCell ⟨gb178, 0, none⟩ (.slice Ao23 ([[16642, 16320, 16384, 16384, 16384, 16384, 16384, 16549]] : List (List Int)).length co23)).heap[gb171]? = some (.cells #[.slice Ao10 ([[16384, 16384, 16384, 16384, 16384, 16384, 16384, 16384]] : List (List Int)).length co10] 24 (0, 0))) := ⟨by (with_reducible repeat (first | refine blk_drewN ?_ _ | refine blk_drew ?_ | refine blk_alloc ?_ _)); refine blk_far ?_ NB171_178.out _; (with_reducible repeat (first | refine blk_drewN ?_ _ | refine blk_drew ?_ | refine blk_alloc ?_ _)); exact BK171.out⟩; have n5_ : Aside0 ((w22.setCell ⟨gb178, 0, none⟩ (.slice Ao23 ([[16642, 16320, 16384, 16384, 16384, 16384, 16384, 16549]] : List (List Int)).length co23)).heap[gb178]? = some (.cells #[.slice Ao23 ([[16642, 16320, 16384, 16384, 16384, 16384, 16384, 16549]] : List (List Int)).length co23] 24 (0, 0))) := ⟨by (with_reducible repeat (first | refine blk_drewN ?_ _ | refine blk_drew ?_ | refine blk_alloc ?_ _)); refine blk_put (cs := #[.slice none 0 0]) ?_ 0 _ rfl; (with_reducible repeat (first | refine blk_drewN ?_ _ | refine blk_drew ?_ | refine blk_alloc ?_ _)); exact BK178.out⟩; have n6_ : Aside0 (Below w.heap.size w (w22.setCell ⟨gb178, 0, none⟩ (.slice Ao23 ([[16642, 16320, 16384, 16384, 16384, 16384, 16384, 16549]] : List (List Int)).length co23))) := ⟨pH_ HB.out⟩; (try clear HO170); (try clear HO173); (try clear HO175); (try clear HO177); (try clear BK171); (try clear BK178); (try clear HB)
 generalize (w22.setCell ⟨gb178, 0, none⟩ (.slice Ao23 ([[16642, 16320, 16384, 16384, 16384, 16384, 16384, 16549]] : List (List Int)).length co23)) = w25 at n0_ n1_ n2_ n3_ n4_ n5_ n6_ ⊢
 have HO170 := n0_; have HO173 := n1_; have HO175 := n2_; have HO177 := n3_; have BK171 := n4_; have BK178 := n5_; have HB := n6_; clear n0_ n1_ n2_ n3_ n4_ n5_ n6_; have hnb26 := NB178_171.out; have hnc26 := NB171_178.out; have hcz27_0 : w25.cell? ⟨gb178, 0, none⟩ = some (.slice Ao23 ([[16642, 16320, 16384, 16384, 16384, 16384, 16384, 16549]] : List (List Int)).length co23) := (blk_cell BK178.out 0).trans rfl; have hfz27_0 := blk_frozen BK178.out 0; have p179 : 0 ≤ (0 : Int) := (by omega); have q179 : 0 < (([[16642, 16320, 16384, 16384, 16384, 16384, 16384, 16549]] : List (List Int)).length : Int) := of_decide_eq_true (by first | (with_reducible assumption) | assumption | rfl); obtain ⟨ad179, A179_0, c179_0, e179, hx179_0, hl179_0, hi179_0⟩ := at_L1 (Kd.S_reads' HO177.out).2.2 0 p179 q179
 cases e179
 obtain ⟨ce179, hce179, hMe179, hcc179⟩ := Kd.S_get HO177.out [] 0 p179 (by first | exact q179 | exact of_decide_eq_true (by first | (with_reducible assumption) | assumption | rfl) | (have e_ := (Kd.S_reads' HO177.out).1; omega)); obtain ⟨ve179_0, rfl, ge179_0⟩ := hMe179; have hv179_0 := hcc179 0 _ rfl; rw [Nat.add_zero, show ((Kd.slice 21 (Kd.int .i32))).sz = 1 from rfl, Nat.mul_one] at hv179_0; replace hv179_0 := Option.some.inj (hv179_0.symm.trans hx179_0); rw [hv179_0] at ge179_0; have HL179_0 := Aside0.mk (show Kd.R (Kd.int .i32) 21 _ _ _ _ (rd_L1 ([[16642, 16320, 16384, 16384, 16384, 16384, 16384, 16549]] : List (List Int)) 0) from ge179_0); clear hv179_0 ge179_0; clear hcc179 hce179; have qi179 : (0 < ([[16642, 16320, 16384, 16384, 16384, 16384, 16384, 16549]] : List (List Int)).length) = True := eq_true (by omega); (try rw [show ((0 : Int)).toNat = 0 from rfl] at hx179_0); (try rw [Addr.add_zero'] at hx179_0); have HR179_0 := Aside0.mk hi179_0; have HC179_0 := Aside0.mk hl179_0; clear hi179_0 hl179_0; replace p179 := eq_true p179; replace q179 := eq_true q179
 try go_wp2_with (first | ((with_reducible refine gate_dst (N := 70) rfl ?_); (try (refine gate_guard (by rfl) ?_; dsimp only)); refine Kd.R_lit (Kd.int .i32) _ 21 ?hg (N := 70) ?hd (xs := ([16642, 16320, 16384, 16384, 16384, 16384, 16384, 16549] : List Int)) (inner := [.int .i32 16642, .int .i32 16320, .int .i32 16384, .int .i32 16384, .int .i32 16384, .int .i32 16384, .int .i32 16384, .int .i32 16549]) (ok := fun _ => True) (okp := fun _ => True) ?hr ?hp (fun _ hk => hk) trivial (Below.refl _ _) (Nat.le_refl _) (by simp) ?_; (case hd => rfl); (case hg => rfl); (case hr => first | (go_simp; done) | (go_simp; rfl)); (case hp => exact (Reps.one (show Kd.M (Kd.int .i32) _ _ _ 16642 [.int .i32 16642] from rfl) (Reps.one (show Kd.M (Kd.int .i32) _ _ _ 16320 [.int .i32 16320] from rfl) (Reps.one (show Kd.M (Kd.int .i32) _ _ _ 16384 [.int .i32 16384] from rfl) (Reps.one (show Kd.M (Kd.int .i32) _ _ _ 16384 [.int .i32 16384] from rfl) (Reps.one (show Kd.M (Kd.int .i32) _ _ _ 16384 [.int .i32 16384] from rfl) (Reps.one (show Kd.M (Kd.int .i32) _ _ _ 16384 [.int .i32 16384] from rfl) (Reps.one (show Kd.M (Kd.int .i32) _ _ _ 16384 [.int .i32 16384] from rfl) (Reps.one (show Kd.M (Kd.int .i32) _ _ _ 16549 [.int .i32 16549] from rfl) (Reps.none _ _)))))))))); intro v181 w28 ho29 hb hg_ hnew_; clear hg_ hnew_; (first | rw [← Ny180.out] at ho29 | (simp only [Int.reduceToNat] at ho29; rw [← Ny180.out] at ho29)); have n0_ := Aside0.mk (Kd.S_elder' (by (with_reducible repeat (first | apply Kd.S_alloc | apply Kd.S_drewN | apply Kd.S_drew)); exact HO170.out) (Kd.R_base ho29) hb); have n1_ := Aside0.mk (Kd.R_elder' (pL_ HO173.out) (Kd.R_base ho29) hb); have n2_ := Aside0.mk (Kd.R_elder' (pL_ HO175.out) (Kd.R_base ho29) hb); have n3_ := Aside0.mk (Kd.S_elder' (by (with_reducible repeat (first | apply Kd.S_alloc | apply Kd.S_drewN | apply Kd.S_drew)); exact HO177.out) (Kd.R_base ho29) hb); have n4_ := Aside0.mk (Kd.R_elder' (by (with_reducible repeat (first | apply rA_ | apply rN_ | apply rD_)); exact HL179_0.out) (Kd.R_base ho29) hb); have n5_ := Aside0.mk (Kd.R_lower (Kd.R_new' (Kd.R_new' (Kd.R_new' ho29 (Kd.R_lt (pL_ HO173.out))) (Kd.R_lt (pL_ HO175.out))) (Kd.R_lt (by (with_reducible repeat (first | apply rA_ | apply rN_ | apply rD_)); exact HL179_0.out))) (below_size (pH_ HB.out))); have n6_ := Aside0.mk (blk_below (g := gb171) (o := .cells #[.slice Ao10 ([[16384, 16384, 16384, 16384, 16384, 16384, 16384, 16384]] : List (List Int)).length co10] 24 (0, 0)) (pG_ BK171.out) hb); have n7_ := Aside0.mk (blk_below (g := gb178) (o := .cells #[.slice (some ad179) ([[16642, 16320, 16384, 16384, 16384, 16384, 16384, 16549]] : List (List Int)).length co23] 24 (0, 0)) (pG_ BK178.out) hb); have n8_ := Aside0.mk (Kd.C_below (by repeat (first | (with_reducible exact HR179_0.out) | (with_reducible refine Kd.C_alloc ?_ _) | (with_reducible refine Kd.C_drewN ?_ _) | (with_reducible refine Kd.C_drew ?_) | exact HR179_0.out)) hb); have n9_ := Aside0.mk (below_step (pH_ HB.out) hb); clear HO170; clear HO173; clear HO175; clear HO177; clear HL179_0; clear BK171; clear BK178; clear HR179_0; clear HB; have HO170 := n0_; have HO173 := n1_; have HO175 := n2_; have HO177 := n3_; have HL179_0 := n4_; have HO182 := n5_; have BK171 := n6_; have BK178 := n7_; have HR179_0 := n8_; have HB := n9_; clear n0_ n1_ n2_ n3_ n4_ n5_ n6_ n7_ n8_ n9_; clear hb ho29; obtain ⟨Ao30, co30, eo30⟩ := Kd.R_slice HO182.out; subst eo30) | (go_at_call 22; (with_reducible refine (bitloftref16_SameRow.calls 2000 _ _ (rd_L1 ([[16642, 16320, 16384, 16384, 16384, 16384, 16384, 16549]] : List (List Int)) 0) _ _ y180 true _ ?side1 ?side2 ?side3 ?side4 A7.out).mono ?_); (case side1 => repeat (first | exact (by repeat (first | (with_reducible exact HR179_0.out) | (with_reducible refine Kd.C_alloc ?_ _) | (with_reducible refine Kd.C_drewN ?_ _) | (with_reducible refine Kd.C_drew ?_) | exact HR179_0.out)) | (with_reducible refine Kd.C_alloc ?_ _) | (with_reducible refine Kd.C_drewN ?_ _) | (with_reducible refine Kd.C_drew ?_))); (case side2 => exact HC179_0.out); (case side3 => repeat (first | exact (Kd.R_reads' HO182.out).2.2 | (with_reducible refine Kd.C_alloc ?_ _) | (with_reducible refine Kd.C_drewN ?_ _) | (with_reducible refine Kd.C_drew ?_))); (case side4 => exact (Kd.R_reads' HO182.out).2.1); rintro e w' ⟨rfl, ⟨nd, rfl⟩⟩))
 go_ret
 exact ⟨by first | rfl | (simp [errW_none, errW_some] <;> rfl) | (simp [*, errW_none, errW_some] <;> rfl), pH_ HB.out⟩

end Go.Proofs.YtlpkfljihcklkaaDoor.XMixerNames
