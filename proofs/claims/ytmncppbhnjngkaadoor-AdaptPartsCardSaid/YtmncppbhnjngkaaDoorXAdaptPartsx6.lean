-- Laid by a program of this session (wip/mkxprint.py, over the kit's print): Lean checks it.
import Derived.Test.YtmncppbhnjngkaaDoorXAdaptPartsx0
import Derived.Test.YtmncppbhnjngkaaDoorXAdaptPartsx2
import Derived.Test.YtmncppbhnjngkaaDoorXAdaptPartsx3
import Derived.Test.YtmncppbhnjngkaaDoorXAdaptPartsx4
import Derived.Test.YtmncppbhnjngkaaDoorXAdaptPartsx5
namespace Go.Proofs.YtmncppbhnjngkaaDoor.XAdaptParts
open List (setIfInBounds_toArray set_cons_zero set_cons_succ)
open Go.RowKit Go.Proofs.YtmncppbhnjngkaaDoorW.PrintWords Go.Proofs.YtmncppbhnjngkaaDoorW.PrintLast Go.Proofs.YtmncppbhnjngkaaDoorW.PrintMore
attribute [local go_sem] max2_int min2_int max_two min_two max_three min_three max_four min_four   -- for this text's walks alone
set_option linter.unusedVariables false
set_option linter.unusedSimpArgs false

/-! ### adapt_Run: function 24 -/
mutual
def adapt_Run.j0 : Nat → Int → List Int → Int → List Int → List Int → Option (Int × List Int × List Int × Int × Int)
 | 0, _, _, _, _, _ => none
 | k + 1, x1, x2, x257000, x257001, x257002 => (adapt_twin.f x257000 x257001 x257002).bind fun bt260 => (adapt_Run.l0 k x1 x2 (x2.length : Int) 0 bt260.1 bt260.2.1 bt260.2.2)
def adapt_Run.l0 : Nat → Int → List Int → Int → Int → Int → List Int → List Int → Option (Int × List Int × List Int × Int × Int)
 | 0, _, _, _, _, _, _, _ => none
 | k + 1, x1, x39, x40, x41, x268000, x268001, x268002 => if x41 < x40 then (if 0 ≤ x41 then (if x41 < (x39.length : Int) then ((adapt_change.f k x268000 x268001 x268002 x1 (rd x39 x41)).bind fun bt269 => (if bt269.1 = 0 then ((states_Next.f k x1 (rd x39 x41)).bind fun bt272 => (adapt_Run.l0 k bt272.1 x39 x40 (wrap64 (x41 + 1)) x268000 bt269.2.1 bt269.2.2)) else (some (0, ([] : List Int), ([] : List Int), 0, bt269.1)))) else (none)) else (none)) else (some (x268000, x268001, x268002, x1, 0))
end
def adapt_Run.f (k : Nat) (a0_0 : Int) (l0_1 : List Int) (l0_2 : List Int) (a1 : Int) (l2 : List Int) : Option (Int × List Int × List Int × Int × Int) := (adapt_at.f k a0_0 l0_1 l0_2 a1).bind fun t258 => (if t258 = 0 then (if (l2.length : Int) > 20000 then (some (0, ([] : List Int), ([] : List Int), 0, 4)) else (if (l2.length : Int) > 0 then ((slices_Max_uint8_uint8.f k l2).bind fun t259 => (if t259 > 1 then (some (0, ([] : List Int), ([] : List Int), 0, 2)) else (adapt_Run.j0 k a1 l2 a0_0 l0_1 l0_2))) else (adapt_Run.j0 k a1 l2 a0_0 l0_1 l0_2))) else (some (0, ([] : List Int), ([] : List Int), 0, t258)))
theorem adapt_Run.mono_l : ∀ k, (∀ y0 y1 y2 y3 y4, LeO (adapt_Run.j0 k y0 y1 y2 y3 y4) (adapt_Run.j0 (k + 1) y0 y1 y2 y3 y4)) ∧ (∀ y0 y1 y2 y3 y4 y5 y6, LeO (adapt_Run.l0 k y0 y1 y2 y3 y4 y5 y6) (adapt_Run.l0 (k + 1) y0 y1 y2 y3 y4 y5 y6))
 | 0 => ⟨fun _ _ _ _ _ r h => by simp [adapt_Run.j0] at h, fun _ _ _ _ _ _ _ r h => by simp [adapt_Run.l0] at h⟩
 | k + 1 => by
  obtain ⟨ih0, ih1⟩ := adapt_Run.mono_l k; refine ⟨?_, ?_⟩
  ·
   intro y0 y1 y2 y3 y4
   unfold adapt_Run.j0
   repeat' first
   | (with_reducible exact ih0 _ _ _ _ _)
   | (with_reducible exact ih1 _ _ _ _ _ _ _)
   | (with_reducible exact adapt_at.mono _ _ _ _ _)
   | (with_reducible exact adapt_change.mono _ _ _ _ _ _)
   | (with_reducible exact slices_Max_uint8_uint8.mono _ _)
   | (with_reducible exact states_Next.mono _ _ _)
   | (with_reducible exact LeO.refl _)
   | (with_reducible exact LeO.none _)
   | (with_reducible refine LeO.ite ?_ ?_)
   | (with_reducible refine LeO.bind ?_ (fun _ => ?_))
   | exact ih0 _ _ _ _ _
   | exact ih1 _ _ _ _ _ _ _
   | exact adapt_at.mono _ _ _ _ _
   | exact adapt_change.mono _ _ _ _ _ _
   | exact slices_Max_uint8_uint8.mono _ _
   | exact states_Next.mono _ _ _
   | exact LeO.none _
   | refine LeO.ite ?_ ?_
   | refine LeO.bind ?_ (fun _ => ?_)
  ·
   intro y0 y1 y2 y3 y4 y5 y6
   unfold adapt_Run.l0
   repeat' first
   | (with_reducible exact ih0 _ _ _ _ _)
   | (with_reducible exact ih1 _ _ _ _ _ _ _)
   | (with_reducible exact adapt_at.mono _ _ _ _ _)
   | (with_reducible exact adapt_change.mono _ _ _ _ _ _)
   | (with_reducible exact slices_Max_uint8_uint8.mono _ _)
   | (with_reducible exact states_Next.mono _ _ _)
   | (with_reducible exact LeO.refl _)
   | (with_reducible exact LeO.none _)
   | (with_reducible refine LeO.ite ?_ ?_)
   | (with_reducible refine LeO.bind ?_ (fun _ => ?_))
   | exact ih0 _ _ _ _ _
   | exact ih1 _ _ _ _ _ _ _
   | exact adapt_at.mono _ _ _ _ _
   | exact adapt_change.mono _ _ _ _ _ _
   | exact slices_Max_uint8_uint8.mono _ _
   | exact states_Next.mono _ _ _
   | exact LeO.none _
   | refine LeO.ite ?_ ?_
   | refine LeO.bind ?_ (fun _ => ?_)
theorem adapt_Run.mono : ∀ a0 a1 a2 a3 a4 k, LeO (adapt_Run.f k a0 a1 a2 a3 a4) (adapt_Run.f (k + 1) a0 a1 a2 a3 a4) := by
 intro a0 a1 a2 a3 a4 k; obtain ⟨ih0, ih1⟩ := adapt_Run.mono_l k
 unfold adapt_Run.f
 repeat' first
   | (with_reducible exact ih0 _ _ _ _ _)
   | (with_reducible exact ih1 _ _ _ _ _ _ _)
   | (with_reducible exact adapt_at.mono _ _ _ _ _)
   | (with_reducible exact adapt_change.mono _ _ _ _ _ _)
   | (with_reducible exact slices_Max_uint8_uint8.mono _ _)
   | (with_reducible exact states_Next.mono _ _ _)
   | (with_reducible exact LeO.refl _)
   | (with_reducible exact LeO.none _)
   | (with_reducible refine LeO.ite ?_ ?_)
   | (with_reducible refine LeO.bind ?_ (fun _ => ?_))
   | exact ih0 _ _ _ _ _
   | exact ih1 _ _ _ _ _ _ _
   | exact adapt_at.mono _ _ _ _ _
   | exact adapt_change.mono _ _ _ _ _ _
   | exact slices_Max_uint8_uint8.mono _ _
   | exact states_Next.mono _ _ _
   | exact LeO.none _
   | refine LeO.ite ?_ ?_
   | refine LeO.bind ?_ (fun _ => ?_)
set_option maxHeartbeats 8000000 in
set_option maxRecDepth 100000 in
theorem adapt_Run.calls (k : Nat) (a0_0 : Int) (A0_1 : Option Addr) (c0_1 : Nat) (l0_1 : List Int) (A0_2 : Option Addr) (c0_2 : Nat) (l0_2 : List Int) (a1 : Int) (A2 : Option Addr) (c2 : Nat) (l2 : List Int) (r1 : Int) (r2 : List Int) (r3 : List Int) (r4 : Int) (r5 : Int) (w : World) (hr0_1 : Kd.C (Kd.int .i32) w A0_1 l0_1.length l0_1) (hc0_1 : l0_1.length ≤ c0_1) (hr0_2 : Kd.C (Kd.int .i32) w A0_2 l0_2.length l0_2) (hc0_2 : l0_2.length ≤ c0_2) (hr2 : Kd.C (Kd.int .u8) w A2 l2.length l2) (hc2 : l2.length ≤ c2) (hT : Tab_ w) (h : adapt_Run.f k a0_0 l0_1 l0_2 a1 l2 = some (r1, r2, r3, r4, r5)) :
  Calls Tryd.prog 24 #[.agg #[.int .i32 a0_0, .slice A0_1 l0_1.length c0_1, .slice A0_2 l0_2.length c0_2], .int .u8 a1, .slice A2 l2.length c2] w fun e w' => ∃ v1_ v2_ : Value, e = .returned (.tuple #[.agg #[.int .i32 r1, v1_, v2_], .int .u8 r4, .int .i64 r5]) ∧ Kd.R (Kd.int .i32) 21 w' w.heap.size (fun k_ => nO_ k_ v2_) v1_ r2 ∧ Kd.R (Kd.int .i32) 21 w' w.heap.size (fun k_ => nO_ k_ v1_) v2_ r3 ∧ Below w.heap.size w w' := by
 have hu24 := Tryd.underlying24; have HR0_1 := Aside0.mk hr0_1; have HC0_1 := Aside0.mk hc0_1; clear hr0_1 hc0_1; have HR0_2 := Aside0.mk hr0_2; have HC0_2 := Aside0.mk hc0_2; clear hr0_2 hc0_2; have HR2 := Aside0.mk hr2; have HC2 := Aside0.mk hc2; clear hr2 hc2; have HB := Aside0.mk (Below.refl w.heap.size w); have H : ((adapt_at.f k a0_0 l0_1 l0_2 a1).bind fun t258 => (if t258 = 0 then (if (l2.length : Int) > 20000 then (some (0, ([] : List Int), ([] : List Int), 0, 4)) else (if (l2.length : Int) > 0 then ((slices_Max_uint8_uint8.f k l2).bind fun t259 => (if t259 > 1 then (some (0, ([] : List Int), ([] : List Int), 0, 2)) else (adapt_Run.j0 k a1 l2 a0_0 l0_1 l0_2))) else (adapt_Run.j0 k a1 l2 a0_0 l0_1 l0_2))) else (some (0, ([] : List Int), ([] : List Int), 0, t258)))) = some (r1, r2, r3, r4, r5) := h; clear h; replace H := Option.bind_eq_some_iff.mp H; obtain ⟨t258, A40, H⟩ := H; replace H : (if t258 = 0 then (if (l2.length : Int) > 20000 then (some (0, ([] : List Int), ([] : List Int), 0, 4)) else (if (l2.length : Int) > 0 then ((slices_Max_uint8_uint8.f k l2).bind fun t259 => (if t259 > 1 then (some (0, ([] : List Int), ([] : List Int), 0, 2)) else (adapt_Run.j0 k a1 l2 a0_0 l0_1 l0_2))) else (adapt_Run.j0 k a1 l2 a0_0 l0_1 l0_2))) else (some (0, ([] : List Int), ([] : List Int), 0, t258))) = some (r1, r2, r3, r4, r5) := H; have A4 := Aside0.mk A40; clear A40; have HC5 := Aside0.mk H; clear H
 go_enter Tryd.func24, Tryd.ntmps24
 go_upto_block 0 with (first | ((with_reducible refine gate_dst (N := 3) rfl ?_); refine box_event ?hg (N := 3) ?hd (cs := #[.int .i32 a0_0, .slice A0_1 l0_1.length c0_1, .slice A0_2 l0_2.length c0_2]) (t := 24) ?hr ?_; (case hd => rfl); (case hg => rfl); (case hr => first | (go_simp; done) | (go_simp; rfl)); intro gb256 hg w6 hbox hb; have n0_ := Aside0.mk (below_step (pH_ HB.out) hb); have n1_ := Aside0.mk (hbox); have n2_ := Aside0.mk ((by rw [hg]; exact (below_size (pH_ HB.out)) : w.heap.size ≤ gb256)); have n3_ := Aside0.mk ((by rw [hg]; exact (below_size (pH_ HB.out)) : w.heap.size ≤ gb256)); clear HB; have HB := n0_; have BK256 := n1_; have GW256 := n2_; have GE256 := n3_; clear n0_ n1_ n2_ n3_; clear hb hbox hg) | ((with_reducible refine gate_dst (N := 6) rfl ?_); refine box_event ?hg (N := 6) ?hd (cs := #[.int .i32 0, .slice none 0 0, .slice none 0 0]) (t := 24) ?hr ?_; (case hd => rfl); (case hg => rfl); (case hr => first | (go_simp; done) | (go_simp; rfl)); intro gb257 hg w7 hbox hb; have n0_ := Aside0.mk (blk_below (pG_ BK256.out) hb); have n1_ := Aside0.mk (below_step (pH_ HB.out) hb); have n2_ := Aside0.mk (hbox); have n3_ := Aside0.mk ((by rw [hg]; exact (below_size (pH_ HB.out)) : w.heap.size ≤ gb257)); have n4_ := Aside0.mk ((by rw [hg]; exact (below_size (pH_ HB.out)) : w.heap.size ≤ gb257)); have n5_ := Aside0.mk ((by rw [hg]; exact Nat.ne_of_lt (blk_lt (pG_ BK256.out)) : gb256 ≠ gb257)); have n6_ := Aside0.mk ((by rw [hg]; exact Nat.ne_of_gt (blk_lt (pG_ BK256.out)) : gb257 ≠ gb256)); clear BK256; clear HB; have BK256 := n0_; have HB := n1_; have BK257 := n2_; have GW257 := n3_; have GE257 := n4_; have NB256_257 := n5_; have NB257_256 := n6_; clear n0_ n1_ n2_ n3_ n4_ n5_ n6_; clear hb hbox hg; have hnb8 := NB256_257.out; have hnc8 := NB257_256.out; have hcz9_0 : w7.cell? ⟨gb256, 0, none⟩ = some (.int .i32 a0_0) := (blk_cell BK256.out 0).trans rfl; have hcz9_1 : w7.cell? ⟨gb256, 1, none⟩ = some (.slice A0_1 l0_1.length c0_1) := (blk_cell BK256.out 1).trans rfl; have hcz9_2 : w7.cell? ⟨gb256, 2, none⟩ = some (.slice A0_2 l0_2.length c0_2) := (blk_cell BK256.out 2).trans rfl; have hfz9_0 := blk_frozen BK256.out 0; have hfz9_1 := blk_frozen BK256.out 1; have hfz9_2 := blk_frozen BK256.out 2) | ((with_reducible refine gate_callee (f := 30) rfl ?_); refine gL_ (some 16) Tryd.func30 #[.agg #[.int .i32 a0_0, .slice A0_1 l0_1.length c0_1, .slice A0_2 l0_2.length c0_2], .int .u8 a1] ?_; (with_reducible refine (adapt_at.calls k a0_0 _ _ l0_1 _ _ l0_2 a1 t258 _ ?side1 ?side2 ?side3 ?side4 (tab_bel hT (pH_ HB.out)) A4.out).mono ?_); (case side1 => repeat (first | exact (Kd.C_below HR0_1.out HB.out) | (with_reducible refine Kd.C_alloc ?_ _) | (with_reducible refine Kd.C_drewN ?_ _) | (with_reducible refine Kd.C_drew ?_))); (case side2 => exact HC0_1.out); (case side3 => repeat (first | exact (Kd.C_below HR0_2.out HB.out) | (with_reducible refine Kd.C_alloc ?_ _) | (with_reducible refine Kd.C_drewN ?_ _) | (with_reducible refine Kd.C_drew ?_))); (case side4 => exact HC0_2.out); rintro e w10 ⟨rfl, hb⟩; refine ⟨_, rfl, ?_⟩; have n0_ := Aside0.mk (blk_below (pG_ BK256.out) hb); have n1_ := Aside0.mk (blk_below (pG_ BK257.out) hb); have n2_ := Aside0.mk (below_step (pH_ HB.out) hb); clear BK256; clear BK257; clear HB; have BK256 := n0_; have BK257 := n1_; have HB := n2_; clear n0_ n1_ n2_; (try clear hb); (try clear hb2); (try clear hk); (try clear hi)))
 (try simp only [Act.put, sA_, sZ_, sS_]); (with_reducible first | refine then_id_ ?_ | (refine wp_tail_ ?_; intro Kt_ hKt_))
 go_cut [] (fun wc => ∃ (kq : Nat) (x258000_4 : Int), Aside0 (adapt_Run.j0 kq a1 l2 a0_0 l0_1 l0_2 = some (r1, r2, r3, r4, r5)) ∧ Aside0 (kq ≤ k) ∧ Aside0 (wc.heap[gb256]? = some (.cells #[.int .i32 a0_0, (.slice A0_1 l0_1.length c0_1), (.slice A0_2 l0_2.length c0_2)] 24 (0, 0))) ∧ Aside0 (wc.heap[gb257]? = some (.cells #[.int .i32 x258000_4, (.slice none 0 0), (.slice none 0 0)] 24 (0, 0))) ∧ Aside0 (Below w.heap.size w wc))
 case first =>
  have H := HC5.out; clear HC5
  by_cases c11 : t258 = 0
  ·
   rw [if_pos c11] at H; have c11b0 : (t258 == 0) = true := beq_iff_eq.mpr c11; have c11b1 : (t258 != 0) = false := bne_eq_false_iff_eq.mpr c11; clear c11; (first | rw [c11b0] | (simp only [i64_w, i32_w]; rw [c11b0]) | skip)
   by_cases c12 : (l2.length : Int) > 20000
   ·
    rw [if_pos c12] at H; have c12b0 : decide (20000 < (l2.length : Int)) = true := decide_eq_true c12; have c12b1 : decide (20000 < l2.length) = true := decide_eq_true (by omega); clear c12; simp only [Option.some.injEq, Prod.mk.injEq] at H; obtain ⟨rfl, rfl, rfl, rfl, rfl⟩ := H; have hnb13 := NB257_256.out; have hnc13 := NB256_257.out; have hcz14_0 : w10.cell? ⟨gb257, 0, none⟩ = some (.int .i32 0) := (blk_cell BK257.out 0).trans rfl; have hcz14_1 : w10.cell? ⟨gb257, 1, none⟩ = some (.slice none 0 0) := (blk_cell BK257.out 1).trans rfl; have hcz14_2 : w10.cell? ⟨gb257, 2, none⟩ = some (.slice none 0 0) := (blk_cell BK257.out 2).trans rfl; have hfz14_0 := blk_frozen BK257.out 0; have hfz14_1 := blk_frozen BK257.out 1; have hfz14_2 := blk_frozen BK257.out 2
    go_wp2
    refine bodyPost_ret (results_ctt rfl _ _ gb257 24 #[.int .i32 0, .slice none 0 0, .slice none 0 0] (0, 0) _ rfl (by (with_reducible repeat (first | refine blk_drewN ?_ _ | refine blk_drew ?_ | refine blk_alloc ?_ _)); refine blk_put (cs := #[.int .i32 0, .slice none 0 0, .slice none 0 0]) ?_ 2 _ rfl; (with_reducible repeat (first | refine blk_drewN ?_ _ | refine blk_drew ?_ | refine blk_alloc ?_ _)); refine blk_put (cs := #[.int .i32 0, .slice none 0 0, .slice none 0 0]) ?_ 1 _ rfl; (with_reducible repeat (first | refine blk_drewN ?_ _ | refine blk_drew ?_ | refine blk_alloc ?_ _)); refine blk_put (cs := #[.int .i32 0, .slice none 0 0, .slice none 0 0]) ?_ 0 _ rfl; (with_reducible repeat (first | refine blk_drewN ?_ _ | refine blk_drew ?_ | refine blk_alloc ?_ _)); exact BK257.out) Tryd.underlying24 rfl (by kernel_rfl)) rfl ?_; exact ⟨_, _, by first | rfl | (simp [errW_none, errW_some] <;> rfl) | (simp [*, errW_none, errW_some] <;> rfl), by first | exact Kd.R_nil _ _ _ _ _ | exact Kd.N_nil _ _ _ _ _ | exact Kd.V_nil _ _ _ _ _ | exact Kd.Q_nil _ _ _ _ _ | exact Kd.S_nil _ _ _ _ _, by first | exact Kd.R_nil _ _ _ _ _ | exact Kd.N_nil _ _ _ _ _ | exact Kd.V_nil _ _ _ _ _ | exact Kd.Q_nil _ _ _ _ _ | exact Kd.S_nil _ _ _ _ _, pH_ HB.out⟩
   ·
    rw [if_neg c12] at H; have c12b0 : decide (20000 < (l2.length : Int)) = false := decide_eq_false c12; have c12b1 : decide (20000 < l2.length) = false := decide_eq_false (by omega); clear c12
    by_cases c15 : (l2.length : Int) > 0
    ·
     rw [if_pos c15] at H; have c15b0 : decide (0 < (l2.length : Int)) = true := decide_eq_true c15; have c15b1 : decide (0 < l2.length) = true := decide_eq_true (by omega); clear c15; replace H := Option.bind_eq_some_iff.mp H; obtain ⟨t259, A160, H⟩ := H; replace H : (if t259 > 1 then (some (0, ([] : List Int), ([] : List Int), 0, 2)) else (adapt_Run.j0 k a1 l2 a0_0 l0_1 l0_2)) = some (r1, r2, r3, r4, r5) := H; have A16 := Aside0.mk A160; clear A160
     by_cases c17 : t259 > 1
     ·
      rw [if_pos c17] at H; have c17b0 : decide (1 < t259) = true := decide_eq_true c17; clear c17; simp only [Option.some.injEq, Prod.mk.injEq] at H; obtain ⟨rfl, rfl, rfl, rfl, rfl⟩ := H
      go_wp2_with (first | (go_at_call 39; (with_reducible refine (slices_Max_uint8_uint8.calls k _ _ l2 t259 _ ?side1 ?side2 A16.out).mono ?_); (case side1 => repeat (first | exact (Kd.C_below HR2.out HB.out) | (with_reducible refine Kd.C_alloc ?_ _) | (with_reducible refine Kd.C_drewN ?_ _) | (with_reducible refine Kd.C_drew ?_))); (case side2 => exact HC2.out); rintro e w18 ⟨rfl, hb⟩; have n0_ := Aside0.mk (blk_below (pG_ BK256.out) hb); have n1_ := Aside0.mk (blk_below (pG_ BK257.out) hb); have n2_ := Aside0.mk (below_step (pH_ HB.out) hb); clear BK256; clear BK257; clear HB; have BK256 := n0_; have BK257 := n1_; have HB := n2_; clear n0_ n1_ n2_; (try clear hb); (try clear hb2); (try clear hk); (try clear hi); have hnb19 := NB257_256.out; have hnc19 := NB256_257.out; have hcz20_0 : w18.cell? ⟨gb257, 0, none⟩ = some (.int .i32 0) := (blk_cell BK257.out 0).trans rfl; have hcz20_1 : w18.cell? ⟨gb257, 1, none⟩ = some (.slice none 0 0) := (blk_cell BK257.out 1).trans rfl; have hcz20_2 : w18.cell? ⟨gb257, 2, none⟩ = some (.slice none 0 0) := (blk_cell BK257.out 2).trans rfl; have hfz20_0 := blk_frozen BK257.out 0; have hfz20_1 := blk_frozen BK257.out 1; have hfz20_2 := blk_frozen BK257.out 2))
      refine bodyPost_ret (results_ctt rfl _ _ gb257 24 #[.int .i32 0, .slice none 0 0, .slice none 0 0] (0, 0) _ rfl (by (with_reducible repeat (first | refine blk_drewN ?_ _ | refine blk_drew ?_ | refine blk_alloc ?_ _)); refine blk_put (cs := #[.int .i32 0, .slice none 0 0, .slice none 0 0]) ?_ 2 _ rfl; (with_reducible repeat (first | refine blk_drewN ?_ _ | refine blk_drew ?_ | refine blk_alloc ?_ _)); refine blk_put (cs := #[.int .i32 0, .slice none 0 0, .slice none 0 0]) ?_ 1 _ rfl; (with_reducible repeat (first | refine blk_drewN ?_ _ | refine blk_drew ?_ | refine blk_alloc ?_ _)); refine blk_put (cs := #[.int .i32 0, .slice none 0 0, .slice none 0 0]) ?_ 0 _ rfl; (with_reducible repeat (first | refine blk_drewN ?_ _ | refine blk_drew ?_ | refine blk_alloc ?_ _)); exact BK257.out) Tryd.underlying24 rfl (by kernel_rfl)) rfl ?_; exact ⟨_, _, by first | rfl | (simp [errW_none, errW_some] <;> rfl) | (simp [*, errW_none, errW_some] <;> rfl), by first | exact Kd.R_nil _ _ _ _ _ | exact Kd.N_nil _ _ _ _ _ | exact Kd.V_nil _ _ _ _ _ | exact Kd.Q_nil _ _ _ _ _ | exact Kd.S_nil _ _ _ _ _, by first | exact Kd.R_nil _ _ _ _ _ | exact Kd.N_nil _ _ _ _ _ | exact Kd.V_nil _ _ _ _ _ | exact Kd.Q_nil _ _ _ _ _ | exact Kd.S_nil _ _ _ _ _, pH_ HB.out⟩
     ·
      rw [if_neg c17] at H; have c17b0 : decide (1 < t259) = false := decide_eq_false c17; clear c17; have H' := Aside0.mk H; clear H
      go_wp2_with (first | (go_at_call 39; (with_reducible refine (slices_Max_uint8_uint8.calls k _ _ l2 t259 _ ?side1 ?side2 A16.out).mono ?_); (case side1 => repeat (first | exact (Kd.C_below HR2.out HB.out) | (with_reducible refine Kd.C_alloc ?_ _) | (with_reducible refine Kd.C_drewN ?_ _) | (with_reducible refine Kd.C_drew ?_))); (case side2 => exact HC2.out); rintro e w21 ⟨rfl, hb⟩; have n0_ := Aside0.mk (blk_below (pG_ BK256.out) hb); have n1_ := Aside0.mk (blk_below (pG_ BK257.out) hb); have n2_ := Aside0.mk (below_step (pH_ HB.out) hb); clear BK256; clear BK257; clear HB; have BK256 := n0_; have BK257 := n1_; have HB := n2_; clear n0_ n1_ n2_; (try clear hb); (try clear hb2); (try clear hk); (try clear hi)))
      (first | go_meet | (refine Met.intro ?_; go_step; (repeat apply Exists.intro); refine ⟨?rel, ?eqf_⟩; case eqf_ => ((simp only [c17b0, c15b0, c12b0, c11b0]) <;> rfl)))
      case rel => exact ⟨_, (0), H', ⟨by first | omega | exact Nat.le_refl _⟩, ⟨pG_ BK256.out⟩, ⟨pG_ BK257.out⟩, ⟨pH_ HB.out⟩⟩
    ·
     rw [if_neg c15] at H; have c15b0 : decide (0 < (l2.length : Int)) = false := decide_eq_false c15; have c15b1 : decide (0 < l2.length) = false := decide_eq_false (by omega); clear c15; have H' := Aside0.mk H; clear H
     go_wp2
     (first | go_meet | (refine Met.intro ?_; go_step; (repeat apply Exists.intro); refine ⟨?rel, ?eqf_⟩; case eqf_ => ((simp only [c15b0, c12b0, c11b0]) <;> rfl)))
     case rel => exact ⟨_, (0), H', ⟨by first | omega | exact Nat.le_refl _⟩, ⟨pG_ BK256.out⟩, ⟨pG_ BK257.out⟩, ⟨pH_ HB.out⟩⟩
  ·
   rw [if_neg c11] at H; have c11b0 : (t258 == 0) = false := beq_eq_false_iff_ne.mpr c11; have c11b1 : (t258 != 0) = true := bne_iff_ne.mpr c11; (first | rw [c11b0] | (simp only [i64_w, i32_w]; rw [c11b0]) | skip); simp only [Option.some.injEq, Prod.mk.injEq] at H; obtain ⟨rfl, rfl, rfl, rfl, rfl⟩ := H; have hnb22 := NB257_256.out; have hnc22 := NB256_257.out; have hcz23_0 : w10.cell? ⟨gb257, 0, none⟩ = some (.int .i32 0) := (blk_cell BK257.out 0).trans rfl; have hcz23_1 : w10.cell? ⟨gb257, 1, none⟩ = some (.slice none 0 0) := (blk_cell BK257.out 1).trans rfl; have hcz23_2 : w10.cell? ⟨gb257, 2, none⟩ = some (.slice none 0 0) := (blk_cell BK257.out 2).trans rfl; have hfz23_0 := blk_frozen BK257.out 0; have hfz23_1 := blk_frozen BK257.out 1; have hfz23_2 := blk_frozen BK257.out 2
   go_wp2
   refine bodyPost_ret (results_ctt rfl _ _ gb257 24 #[.int .i32 0, .slice none 0 0, .slice none 0 0] (0, 0) _ rfl (by (with_reducible repeat (first | refine blk_drewN ?_ _ | refine blk_drew ?_ | refine blk_alloc ?_ _)); refine blk_put (cs := #[.int .i32 0, .slice none 0 0, .slice none 0 0]) ?_ 2 _ rfl; (with_reducible repeat (first | refine blk_drewN ?_ _ | refine blk_drew ?_ | refine blk_alloc ?_ _)); refine blk_put (cs := #[.int .i32 0, .slice none 0 0, .slice none 0 0]) ?_ 1 _ rfl; (with_reducible repeat (first | refine blk_drewN ?_ _ | refine blk_drew ?_ | refine blk_alloc ?_ _)); refine blk_put (cs := #[.int .i32 0, .slice none 0 0, .slice none 0 0]) ?_ 0 _ rfl; (with_reducible repeat (first | refine blk_drewN ?_ _ | refine blk_drew ?_ | refine blk_alloc ?_ _)); exact BK257.out) Tryd.underlying24 rfl (by kernel_rfl)) rfl ?_; exact ⟨_, _, by first | rfl | (simp [errW_none, errW_some] <;> rfl) | (simp [*, errW_none, errW_some] <;> rfl), by first | exact Kd.R_nil _ _ _ _ _ | exact Kd.N_nil _ _ _ _ _ | exact Kd.V_nil _ _ _ _ _ | exact Kd.Q_nil _ _ _ _ _ | exact Kd.S_nil _ _ _ _ _, by first | exact Kd.R_nil _ _ _ _ _ | exact Kd.N_nil _ _ _ _ _ | exact Kd.V_nil _ _ _ _ _ | exact Kd.Q_nil _ _ _ _ _ | exact Kd.S_nil _ _ _ _ _, pH_ HB.out⟩
 case rest =>
  (try (refine hKt_ _ _ ?_; clear hKt_; clear Kt_)); clear HC5
  try clear c1
  try clear c2
  try clear p2
  try clear c3
  try clear c8
  try clear c11
  try clear c11b0
  try clear c11b1
  try clear c12
  try clear c12b0
  try clear c12b1
  try clear c13
  try clear c15
  try clear c15b0
  try clear c15b1
  try clear c17
  try clear c17b0
  try clear c19
  try clear c22
  try clear hcz14_0
  try clear hcz14_1
  try clear hcz14_2
  try clear hcz20_0
  try clear hcz20_1
  try clear hcz20_2
  try clear hcz23_0
  try clear hcz23_1
  try clear hcz23_2
  try clear hcz9_0
  try clear hcz9_1
  try clear hcz9_2
  try clear hfz14_0
  try clear hfz14_1
  try clear hfz14_2
  try clear hfz20_0
  try clear hfz20_1
  try clear hfz20_2
  try clear hfz23_0
  try clear hfz23_1
  try clear hfz23_2
  try clear hfz9_0
  try clear hfz9_1
  try clear hfz9_2
  obtain ⟨kq, x258000_4, HA, HJ4, BK256, BK257, HB⟩ := hcut
  cases kq with
  | zero => exact absurd HA.out (by simp [adapt_Run.j0])
  | succ kj4 =>
   have H := HA.out; clear HA; simp only [adapt_Run.j0] at H; replace H := Option.bind_eq_some_iff.mp H; obtain ⟨⟨t260, t261, t264⟩, A240, H⟩ := H; replace H : (adapt_Run.l0 kj4 a1 l2 (l2.length : Int) 0 t260 t261 t264) = some (r1, r2, r3, r4, r5) := H; have A24 := Aside0.mk A240; clear A240; have H' := Aside0.mk H; clear H; have hnb25 := NB256_257.out; have hnc25 := NB257_256.out; have hcz26_0 : wc.cell? ⟨gb256, 0, none⟩ = some (.int .i32 a0_0) := (blk_cell BK256.out 0).trans rfl; have hcz26_1 : wc.cell? ⟨gb256, 1, none⟩ = some (.slice A0_1 l0_1.length c0_1) := (blk_cell BK256.out 1).trans rfl; have hcz26_2 : wc.cell? ⟨gb256, 2, none⟩ = some (.slice A0_2 l0_2.length c0_2) := (blk_cell BK256.out 2).trans rfl; have hfz26_0 := blk_frozen BK256.out 0; have hfz26_1 := blk_frozen BK256.out 1; have hfz26_2 := blk_frozen BK256.out 2
   go_wp2_with (first | ((with_reducible refine gate_callee (f := 32) rfl ?_); refine gL_ (some 38) Tryd.func32 #[.agg #[.int .i32 a0_0, .slice A0_1 l0_1.length c0_1, .slice A0_2 l0_2.length c0_2]] ?_; (with_reducible refine (adapt_twin.calls a0_0 _ _ l0_1 _ _ l0_2 t260 t261 t264 _ ?side1 ?side2 ?side3 ?side4 A24.out).mono ?_); (case side1 => repeat (first | exact (Kd.C_below HR0_1.out HB.out) | (with_reducible refine Kd.C_alloc ?_ _) | (with_reducible refine Kd.C_drewN ?_ _) | (with_reducible refine Kd.C_drew ?_))); (case side2 => exact HC0_1.out); (case side3 => repeat (first | exact (Kd.C_below HR0_2.out HB.out) | (with_reducible refine Kd.C_alloc ?_ _) | (with_reducible refine Kd.C_drewN ?_ _) | (with_reducible refine Kd.C_drew ?_))); (case side4 => exact HC0_2.out); rintro e w27 ⟨v262, v265, rfl, ho0, ho1, hb⟩; refine ⟨_, rfl, ?_⟩; have n0_ := Aside0.mk (Kd.R_lower ho0 (below_size (pH_ HB.out))); have n1_ := Aside0.mk (Kd.R_lower ho1 (below_size (pH_ HB.out))); have n2_ := Aside0.mk (blk_below (pG_ BK256.out) hb); have n3_ := Aside0.mk (blk_below (pG_ BK257.out) hb); have n4_ := Aside0.mk (below_step (pH_ HB.out) hb); clear BK256; clear BK257; clear HB; have HO263 := n0_; have HO266 := n1_; have BK256 := n2_; have BK257 := n3_; have HB := n4_; clear n0_ n1_ n2_ n3_ n4_; (try clear hb); (try clear hb2); (try clear hk); (try clear hi); (try clear ho0); (try clear ho1)) | ((with_reducible refine gate_dst (N := 10) rfl ?_); refine box_event ?hg (N := 10) ?hd (cs := #[.int .i32 0, .slice none 0 0, .slice none 0 0]) (t := 24) ?hr ?_; (case hd => rfl); (case hg => rfl); (case hr => first | (go_simp; done) | (go_simp; rfl)); intro gb267 hg w28 hbox hb; have n0_ := Aside0.mk (Kd.R_below (pL_ HO263.out) hb); have n1_ := Aside0.mk (Kd.R_below (pL_ HO266.out) hb); have n2_ := Aside0.mk (blk_below (pG_ BK256.out) hb); have n3_ := Aside0.mk (blk_below (pG_ BK257.out) hb); have n4_ := Aside0.mk (below_step (pH_ HB.out) hb); have n5_ := Aside0.mk (hbox); have n6_ := Aside0.mk ((by rw [hg]; exact (below_size (pH_ HB.out)) : w.heap.size ≤ gb267)); have n7_ := Aside0.mk ((by rw [hg]; exact (below_size (pH_ HB.out)) : w.heap.size ≤ gb267)); have n8_ := Aside0.mk ((by rw [hg]; exact Nat.ne_of_lt (blk_lt (pG_ BK256.out)) : gb256 ≠ gb267)); have n9_ := Aside0.mk ((by rw [hg]; exact Nat.ne_of_gt (blk_lt (pG_ BK256.out)) : gb267 ≠ gb256)); have n10_ := Aside0.mk ((by rw [hg]; exact Nat.ne_of_lt (blk_lt (pG_ BK257.out)) : gb257 ≠ gb267)); have n11_ := Aside0.mk ((by rw [hg]; exact Nat.ne_of_gt (blk_lt (pG_ BK257.out)) : gb267 ≠ gb257)); clear HO263; clear HO266; clear BK256; clear BK257; clear HB; have HO263 := n0_; have HO266 := n1_; have BK256 := n2_; have BK257 := n3_; have HB := n4_; have BK267 := n5_; have GW267 := n6_; have GE267 := n7_; have NB256_267 := n8_; have NB267_256 := n9_; have NB257_267 := n10_; have NB267_257 := n11_; clear n0_ n1_ n2_ n3_ n4_ n5_ n6_ n7_ n8_ n9_ n10_ n11_; clear hb hbox hg; have hnb29 := NB267_256.out; have hnc29 := NB256_267.out; have hnb30 := NB267_257.out; have hnc30 := NB257_267.out; have hcz31_0 : w28.cell? ⟨gb267, 0, none⟩ = some (.int .i32 0) := (blk_cell BK267.out 0).trans rfl; have hcz31_1 : w28.cell? ⟨gb267, 1, none⟩ = some (.slice none 0 0) := (blk_cell BK267.out 1).trans rfl; have hcz31_2 : w28.cell? ⟨gb267, 2, none⟩ = some (.slice none 0 0) := (blk_cell BK267.out 2).trans rfl; have hfz31_0 := blk_frozen BK267.out 0; have hfz31_1 := blk_frozen BK267.out 1; have hfz31_2 := blk_frozen BK267.out 2; obtain ⟨Ao32, co32, eo32⟩ := Kd.R_slice HO263.out; subst eo32; obtain ⟨Ao33, co33, eo33⟩ := Kd.R_slice HO266.out; subst eo33))
   go_loopg [1, 41] kj4 (fun kq v1 v41 w' => ∃ (x1_2 : Int) (x41_2 : Int) (x258000_2 : Int) (x268001_2 : List Int) (x268002_2 : List Int) (u268001 : Value) (u268002 : Value), v1 = .int .u8 x1_2 ∧ v41 = .int .i64 x41_2 ∧ Aside0 (adapt_Run.l0 kq x1_2 l2 (l2.length : Int) x41_2 t260 x268001_2 x268002_2 = some (r1, r2, r3, r4, r5)) ∧ Aside0 (kq ≤ kj4) ∧ Aside0 (Kd.R (Kd.int .i32) 21 w' w.heap.size (fun k_ => nO_ k_ u268002) u268001 x268001_2) ∧ Aside0 (Kd.R (Kd.int .i32) 21 w' w.heap.size (fun k_ => nO_ k_ u268001) u268002 x268002_2) ∧ Aside0 (w'.heap[gb256]? = some (.cells #[.int .i32 a0_0, (.slice A0_1 l0_1.length c0_1), (.slice A0_2 l0_2.length c0_2)] 24 (0, 0))) ∧ Aside0 (w'.heap[gb257]? = some (.cells #[.int .i32 x258000_2, (.slice none 0 0), (.slice none 0 0)] 24 (0, 0))) ∧ Aside0 (w'.heap[gb267]? = some (.cells #[.int .i32 t260, u268001, u268002] 24 (0, 0))) ∧ Aside0 (Below w.heap.size w w'))
   case atStart => exact ⟨(a1), (0), (x258000_4), (t261), (t264), (.slice Ao32 t261.length co32), (.slice Ao33 t264.length co33), (by first | rfl | (simp; done) | (simp [*]; done)), (by first | rfl | (simp; done) | (simp [*]; done)), H', ⟨Nat.le_refl _⟩, ⟨by (with_reducible repeat (first | apply rA_ | apply rN_ | apply rD_)); exact Kd.R_mono (Kd.R_far (p := ⟨gb267, 2, none⟩) (Kd.R_far (p := ⟨gb267, 1, none⟩) (Kd.R_far (p := ⟨gb267, 0, none⟩) (Kd.R_types HO263.out BK267.out (by decide)) (fun _ hk => hk.2) (.int .i32 t260)) (fun _ hk => hk.2) (.slice Ao32 t261.length co32)) (fun _ hk => hk.2) (.slice Ao33 t264.length co33)) (fun _ hk => hk.1)⟩, ⟨by (with_reducible repeat (first | apply rA_ | apply rN_ | apply rD_)); exact Kd.R_mono (Kd.R_far (p := ⟨gb267, 2, none⟩) (Kd.R_far (p := ⟨gb267, 1, none⟩) (Kd.R_far (p := ⟨gb267, 0, none⟩) (Kd.R_types HO266.out BK267.out (by decide)) (fun _ hk => hk.2) (.int .i32 t260)) (fun _ hk => hk.2) (.slice Ao32 t261.length co32)) (fun _ hk => hk.2) (.slice Ao33 t264.length co33)) (fun _ hk => hk.1)⟩, ⟨by (with_reducible repeat (first | refine blk_drewN ?_ _ | refine blk_drew ?_ | refine blk_alloc ?_ _)); refine blk_far ?_ NB256_267.out _; (with_reducible repeat (first | refine blk_drewN ?_ _ | refine blk_drew ?_ | refine blk_alloc ?_ _)); refine blk_far ?_ NB256_267.out _; (with_reducible repeat (first | refine blk_drewN ?_ _ | refine blk_drew ?_ | refine blk_alloc ?_ _)); refine blk_far ?_ NB256_267.out _; (with_reducible repeat (first | refine blk_drewN ?_ _ | refine blk_drew ?_ | refine blk_alloc ?_ _)); exact BK256.out⟩, ⟨by (with_reducible repeat (first | refine blk_drewN ?_ _ | refine blk_drew ?_ | refine blk_alloc ?_ _)); refine blk_far ?_ NB257_267.out _; (with_reducible repeat (first | refine blk_drewN ?_ _ | refine blk_drew ?_ | refine blk_alloc ?_ _)); refine blk_far ?_ NB257_267.out _; (with_reducible repeat (first | refine blk_drewN ?_ _ | refine blk_drew ?_ | refine blk_alloc ?_ _)); refine blk_far ?_ NB257_267.out _; (with_reducible repeat (first | refine blk_drewN ?_ _ | refine blk_drew ?_ | refine blk_alloc ?_ _)); exact BK257.out⟩, ⟨by (with_reducible repeat (first | refine blk_drewN ?_ _ | refine blk_drew ?_ | refine blk_alloc ?_ _)); refine blk_put (cs := #[.int .i32 t260, .slice Ao32 t261.length co32, .slice none 0 0]) ?_ 2 _ rfl; (with_reducible repeat (first | refine blk_drewN ?_ _ | refine blk_drew ?_ | refine blk_alloc ?_ _)); refine blk_put (cs := #[.int .i32 t260, .slice none 0 0, .slice none 0 0]) ?_ 1 _ rfl; (with_reducible repeat (first | refine blk_drewN ?_ _ | refine blk_drew ?_ | refine blk_alloc ?_ _)); refine blk_put (cs := #[.int .i32 0, .slice none 0 0, .slice none 0 0]) ?_ 0 _ rfl; (with_reducible repeat (first | refine blk_drewN ?_ _ | refine blk_drew ?_ | refine blk_alloc ?_ _)); exact BK267.out⟩, ⟨pH_ HB.out⟩⟩
   case round =>
    clear H'
    try clear c1
    try clear c2
    try clear p2
    try clear c3
    try clear c8
    try clear c11
    try clear c11b0
    try clear c11b1
    try clear c12
    try clear c12b0
    try clear c12b1
    try clear c13
    try clear c15
    try clear c15b0
    try clear c15b1
    try clear c17
    try clear c17b0
    try clear c19
    try clear c22
    try clear c24
    try clear c25
    try clear c29
    try clear c30
    try clear c32
    try clear hcz14_0
    try clear hcz14_1
    try clear hcz14_2
    try clear hcz20_0
    try clear hcz20_1
    try clear hcz20_2
    try clear hcz23_0
    try clear hcz23_1
    try clear hcz23_2
    try clear hcz26_0
    try clear hcz26_1
    try clear hcz26_2
    try clear hcz31_0
    try clear hcz31_1
    try clear hcz31_2
    try clear hcz9_0
    try clear hcz9_1
    try clear hcz9_2
    try clear hfz14_0
    try clear hfz14_1
    try clear hfz14_2
    try clear hfz20_0
    try clear hfz20_1
    try clear hfz20_2
    try clear hfz23_0
    try clear hfz23_1
    try clear hfz23_2
    try clear hfz26_0
    try clear hfz26_1
    try clear hfz26_2
    try clear hfz31_0
    try clear hfz31_1
    try clear hfz31_2
    try clear hfz9_0
    try clear hfz9_1
    try clear hfz9_2
    try clear p2
    obtain ⟨x1_2, x41_2, x258000_2, x268001_2, x268002_2, u268001, u268002, rfl, rfl, HA, HK2, HO_268001, HO_268002, BK256, BK257, BK267, HB⟩ := hrel
    cases gk with
    | zero => exact absurd HA.out (by simp [adapt_Run.l0])
    | succ k2 =>
     have H := HA.out; clear HA; simp only [adapt_Run.l0] at H
     by_cases c34 : x41_2 < (l2.length : Int)
     ·
      rw [if_pos c34] at H; have c34b0 : decide (x41_2 < (l2.length : Int)) = true := decide_eq_true c34; clear c34
      by_cases c35 : 0 ≤ x41_2
      ·
       rw [if_pos c35] at H; have c35b0 : decide (0 ≤ x41_2) = true := decide_eq_true c35; clear c35
       by_cases c36 : x41_2 < (l2.length : Int)
       ·
        rw [if_pos c36] at H; have c36b0 : decide (x41_2 < (l2.length : Int)) = true := decide_eq_true c36; clear c36; replace H := Option.bind_eq_some_iff.mp H; obtain ⟨⟨t269, t270, t271⟩, A370, H⟩ := H; replace H : (if t269 = 0 then ((states_Next.f k2 x1_2 (rd l2 x41_2)).bind fun bt272 => (adapt_Run.l0 k2 bt272.1 l2 (l2.length : Int) (wrap64 (x41_2 + 1)) t260 t270 t271)) else (some (0, ([] : List Int), ([] : List Int), 0, t269))) = some (r1, r2, r3, r4, r5) := H; have A37 := Aside0.mk A370; clear A370
        by_cases c38 : t269 = 0
        ·
         rw [if_pos c38] at H; have c38b0 : (t269 == 0) = true := beq_iff_eq.mpr c38; have c38b1 : (t269 != 0) = false := bne_eq_false_iff_eq.mpr c38; clear c38; replace H := Option.bind_eq_some_iff.mp H; obtain ⟨⟨t272, t273⟩, A390, H⟩ := H; replace H : (adapt_Run.l0 k2 t272 l2 (l2.length : Int) (wrap64 (x41_2 + 1)) t260 t270 t271) = some (r1, r2, r3, r4, r5) := H; have A39 := Aside0.mk A390; clear A390; have H' := Aside0.mk H; clear H; have p268 : 0 ≤ (x41_2 : Int) := of_decide_eq_true (by first | (with_reducible assumption) | assumption); have q268 : x41_2 < (l2.length : Int) := of_decide_eq_true (by first | (with_reducible assumption) | assumption); obtain ⟨ad268, e268, hx268_0⟩ := Kd.at_int HR2.out x41_2 p268 q268
         cases e268
         replace hx268_0 := (HB.out.cell (World.block_lt_of_cell? w _ hx268_0)).trans hx268_0; replace p268 := eq_true p268; replace q268 := eq_true q268; have hnb40 := NB267_256.out; have hnc40 := NB256_267.out; have hnb41 := NB267_257.out; have hnc41 := NB257_267.out; have hcz42_0 : wr.cell? ⟨gb267, 0, none⟩ = some (.int .i32 t260) := (blk_cell BK267.out 0).trans rfl; have hcz42_1 : wr.cell? ⟨gb267, 1, none⟩ = some (u268001) := (blk_cell BK267.out 1).trans rfl; have hcz42_2 : wr.cell? ⟨gb267, 2, none⟩ = some (u268002) := (blk_cell BK267.out 2).trans rfl; have hfz42_0 := blk_frozen BK267.out 0; have hfz42_1 := blk_frozen BK267.out 1; have hfz42_2 := blk_frozen BK267.out 2; obtain ⟨Ao43, co43, eo43⟩ := Kd.R_slice HO_268001.out
         subst eo43
         obtain ⟨Ao44, co44, eo44⟩ := Kd.R_slice HO_268002.out
         subst eo44
         go_wp2_with (first | ((with_reducible refine gate_callee (f := 33) rfl ?_); refine gL_ (some 48) Tryd.func33 #[.agg #[.int .i32 t260, .slice Ao43 x268001_2.length co43, .slice Ao44 x268002_2.length co44], .int .u8 x1_2, .int .u8 (rd l2 x41_2)] ?_; (with_reducible refine (adapt_change.calls k2 t260 (fun k_ => some k_ = (.slice Ao43 x268001_2.length co43 : Value).ownBlock) (.slice Ao43 x268001_2.length co43) x268001_2 (fun k_ => some k_ = (.slice Ao44 x268002_2.length co44 : Value).ownBlock) (.slice Ao44 x268002_2.length co44) x268002_2 x1_2 (rd l2 x41_2) t269 t270 t271 w _ ?side1 ?side2 ?side3 ?side4 ?side5 hT A37.out).mono ?_); (case side1 => repeat (first | (with_reducible first | exact HB.out | apply below_alloc | apply bN_ | apply below_drew1 | refine below_set ?_ GE256.out | refine below_set ?_ GE257.out | refine below_set ?_ GE267.out) | exact HB.out)); (case side2 => exact Kd.R_tight rfl HO_268001.out); (case side3 => exact fun k_ e_ => (HO_268001.out.1 k_ e_.symm)); (case side4 => exact Kd.R_tight rfl HO_268002.out); (case side5 => exact fun k_ e_ => (HO_268002.out.1 k_ e_.symm)); rintro e w45 ⟨rfl, hy0, hy1, hb, hkp⟩; refine ⟨_, rfl, ?_⟩; have n0_ := Aside0.mk (Kd.R_reok rfl hy0 (fun k_ e_ => HO_268001.out.1 k_ e_)); have n1_ := Aside0.mk (Kd.R_reok rfl hy1 (fun k_ e_ => HO_268002.out.1 k_ e_)); have n2_ := Aside0.mk (blk_kept (pG_ BK256.out) hkp (fun hs_ => Or.elim hs_ (fun e_ => (fun e_ => (Kd.R_ne HO_268001.out BK256.out (by decide)) e_) e_) (fun e_ => (fun e_ => (Kd.R_ne HO_268002.out BK256.out (by decide)) e_) e_))); have n3_ := Aside0.mk (blk_kept (pG_ BK257.out) hkp (fun hs_ => Or.elim hs_ (fun e_ => (fun e_ => (Kd.R_ne HO_268001.out BK257.out (by decide)) e_) e_) (fun e_ => (fun e_ => (Kd.R_ne HO_268002.out BK257.out (by decide)) e_) e_))); have n4_ := Aside0.mk (blk_kept (pG_ BK267.out) hkp (fun hs_ => Or.elim hs_ (fun e_ => (fun e_ => (Kd.R_ne HO_268001.out BK267.out (by decide)) e_) e_) (fun e_ => (fun e_ => (Kd.R_ne HO_268002.out BK267.out (by decide)) e_) e_))); have n5_ := Aside0.mk (hb); clear HO_268001; clear HO_268002; clear BK256; clear BK257; clear BK267; clear HB; have HO_268001 := n0_; have HO_268002 := n1_; have BK256 := n2_; have BK257 := n3_; have BK267 := n4_; have HB := n5_; clear n0_ n1_ n2_ n3_ n4_ n5_; (try clear hb); (try clear hkp); (try clear hy0); (try clear hy1)) | ((with_reducible refine gate_callee (f := 27) rfl ?_); refine gL_ (some 56) Tryd.func27 #[.int .u8 x1_2, .int .u8 (rd l2 x41_2)] ?_; (with_reducible refine (states_Next.calls k2 x1_2 (rd l2 x41_2) t272 t273 _ A39.out).mono ?_); rintro e w46 ⟨rfl, hb⟩; refine ⟨_, rfl, ?_⟩; have n0_ := Aside0.mk (Kd.R_below (pL_ HO_268001.out) hb); have n1_ := Aside0.mk (Kd.R_below (pL_ HO_268002.out) hb); have n2_ := Aside0.mk (blk_below (pG_ BK256.out) hb); have n3_ := Aside0.mk (blk_below (pG_ BK257.out) hb); have n4_ := Aside0.mk (blk_below (pG_ BK267.out) hb); have n5_ := Aside0.mk (below_step (pH_ HB.out) hb); clear HO_268001; clear HO_268002; clear BK256; clear BK257; clear BK267; clear HB; have HO_268001 := n0_; have HO_268002 := n1_; have BK256 := n2_; have BK257 := n3_; have BK267 := n4_; have HB := n5_; clear n0_ n1_ n2_ n3_ n4_ n5_; (try clear hb); (try clear hb2); (try clear hk); (try clear hi)))
         go_roundg k2
         case measure => have := HJ4.out; have := HK2.out; omega
         case rel => exact ⟨(t272), (wrap64 (x41_2 + 1)), (x258000_2), (t270), (t271), (.slice Ao43 x268001_2.length co43), (.slice Ao44 x268002_2.length co44), (by first | rfl | (simp; done) | (simp [*]; done)), (by first | rfl | (simp; done) | (simp [*]; done)), H', ⟨by have := HJ4.out; have := HK2.out; omega⟩, ⟨pL_ HO_268001.out⟩, ⟨pL_ HO_268002.out⟩, ⟨pG_ BK256.out⟩, ⟨pG_ BK257.out⟩, ⟨pG_ BK267.out⟩, ⟨pH_ HB.out⟩⟩
        ·
         rw [if_neg c38] at H; have c38b0 : (t269 == 0) = false := beq_eq_false_iff_ne.mpr c38; have c38b1 : (t269 != 0) = true := bne_iff_ne.mpr c38; simp only [Option.some.injEq, Prod.mk.injEq] at H; obtain ⟨rfl, rfl, rfl, rfl, rfl⟩ := H; have p268 : 0 ≤ (x41_2 : Int) := of_decide_eq_true (by first | (with_reducible assumption) | assumption); have q268 : x41_2 < (l2.length : Int) := of_decide_eq_true (by first | (with_reducible assumption) | assumption); obtain ⟨ad268, e268, hx268_0⟩ := Kd.at_int HR2.out x41_2 p268 q268
         cases e268
         replace hx268_0 := (HB.out.cell (World.block_lt_of_cell? w _ hx268_0)).trans hx268_0; replace p268 := eq_true p268; replace q268 := eq_true q268; have hnb47 := NB267_256.out; have hnc47 := NB256_267.out; have hnb48 := NB267_257.out; have hnc48 := NB257_267.out; have hcz49_0 : wr.cell? ⟨gb267, 0, none⟩ = some (.int .i32 t260) := (blk_cell BK267.out 0).trans rfl; have hcz49_1 : wr.cell? ⟨gb267, 1, none⟩ = some (u268001) := (blk_cell BK267.out 1).trans rfl; have hcz49_2 : wr.cell? ⟨gb267, 2, none⟩ = some (u268002) := (blk_cell BK267.out 2).trans rfl; have hfz49_0 := blk_frozen BK267.out 0; have hfz49_1 := blk_frozen BK267.out 1; have hfz49_2 := blk_frozen BK267.out 2; obtain ⟨Ao50, co50, eo50⟩ := Kd.R_slice HO_268001.out
         subst eo50
         obtain ⟨Ao51, co51, eo51⟩ := Kd.R_slice HO_268002.out
         subst eo51
         go_wp2_with (first | ((with_reducible refine gate_callee (f := 33) rfl ?_); refine gL_ (some 48) Tryd.func33 #[.agg #[.int .i32 t260, .slice Ao50 x268001_2.length co50, .slice Ao51 x268002_2.length co51], .int .u8 x1_2, .int .u8 (rd l2 x41_2)] ?_; (with_reducible refine (adapt_change.calls k2 t260 (fun k_ => some k_ = (.slice Ao50 x268001_2.length co50 : Value).ownBlock) (.slice Ao50 x268001_2.length co50) x268001_2 (fun k_ => some k_ = (.slice Ao51 x268002_2.length co51 : Value).ownBlock) (.slice Ao51 x268002_2.length co51) x268002_2 x1_2 (rd l2 x41_2) t269 t270 t271 w _ ?side1 ?side2 ?side3 ?side4 ?side5 hT A37.out).mono ?_); (case side1 => repeat (first | (with_reducible first | exact HB.out | apply below_alloc | apply bN_ | apply below_drew1 | refine below_set ?_ GE256.out | refine below_set ?_ GE257.out | refine below_set ?_ GE267.out) | exact HB.out)); (case side2 => exact Kd.R_tight rfl HO_268001.out); (case side3 => exact fun k_ e_ => (HO_268001.out.1 k_ e_.symm)); (case side4 => exact Kd.R_tight rfl HO_268002.out); (case side5 => exact fun k_ e_ => (HO_268002.out.1 k_ e_.symm)); rintro e w52 ⟨rfl, hy0, hy1, hb, hkp⟩; refine ⟨_, rfl, ?_⟩; have n0_ := Aside0.mk (Kd.R_reok rfl hy0 (fun k_ e_ => HO_268001.out.1 k_ e_)); have n1_ := Aside0.mk (Kd.R_reok rfl hy1 (fun k_ e_ => HO_268002.out.1 k_ e_)); have n2_ := Aside0.mk (blk_kept (pG_ BK256.out) hkp (fun hs_ => Or.elim hs_ (fun e_ => (fun e_ => (Kd.R_ne HO_268001.out BK256.out (by decide)) e_) e_) (fun e_ => (fun e_ => (Kd.R_ne HO_268002.out BK256.out (by decide)) e_) e_))); have n3_ := Aside0.mk (blk_kept (pG_ BK257.out) hkp (fun hs_ => Or.elim hs_ (fun e_ => (fun e_ => (Kd.R_ne HO_268001.out BK257.out (by decide)) e_) e_) (fun e_ => (fun e_ => (Kd.R_ne HO_268002.out BK257.out (by decide)) e_) e_))); have n4_ := Aside0.mk (blk_kept (pG_ BK267.out) hkp (fun hs_ => Or.elim hs_ (fun e_ => (fun e_ => (Kd.R_ne HO_268001.out BK267.out (by decide)) e_) e_) (fun e_ => (fun e_ => (Kd.R_ne HO_268002.out BK267.out (by decide)) e_) e_))); have n5_ := Aside0.mk (hb); clear HO_268001; clear HO_268002; clear BK256; clear BK257; clear BK267; clear HB; have HO_268001 := n0_; have HO_268002 := n1_; have BK256 := n2_; have BK257 := n3_; have BK267 := n4_; have HB := n5_; clear n0_ n1_ n2_ n3_ n4_ n5_; (try clear hb); (try clear hkp); (try clear hy0); (try clear hy1); have hnb53 := NB257_256.out; have hnc53 := NB256_257.out; have hcz54_0 : w52.cell? ⟨gb257, 0, none⟩ = some (.int .i32 x258000_2) := (blk_cell BK257.out 0).trans rfl; have hcz54_1 : w52.cell? ⟨gb257, 1, none⟩ = some (.slice none 0 0) := (blk_cell BK257.out 1).trans rfl; have hcz54_2 : w52.cell? ⟨gb257, 2, none⟩ = some (.slice none 0 0) := (blk_cell BK257.out 2).trans rfl; have hfz54_0 := blk_frozen BK257.out 0; have hfz54_1 := blk_frozen BK257.out 1; have hfz54_2 := blk_frozen BK257.out 2))
         refine bodyPost_ret (results_ctt rfl _ _ gb257 24 #[.int .i32 0, .slice none 0 0, .slice none 0 0] (0, 0) _ rfl (by (with_reducible repeat (first | refine blk_drewN ?_ _ | refine blk_drew ?_ | refine blk_alloc ?_ _)); refine blk_put (cs := #[.int .i32 0, .slice none 0 0, .slice none 0 0]) ?_ 2 _ rfl; (with_reducible repeat (first | refine blk_drewN ?_ _ | refine blk_drew ?_ | refine blk_alloc ?_ _)); refine blk_put (cs := #[.int .i32 0, .slice none 0 0, .slice none 0 0]) ?_ 1 _ rfl; (with_reducible repeat (first | refine blk_drewN ?_ _ | refine blk_drew ?_ | refine blk_alloc ?_ _)); refine blk_put (cs := #[.int .i32 x258000_2, .slice none 0 0, .slice none 0 0]) ?_ 0 _ rfl; (with_reducible repeat (first | refine blk_drewN ?_ _ | refine blk_drew ?_ | refine blk_alloc ?_ _)); exact BK257.out) Tryd.underlying24 rfl (by kernel_rfl)) rfl ?_; exact ⟨_, _, by first | rfl | (simp [errW_none, errW_some] <;> rfl) | (simp [*, errW_none, errW_some] <;> rfl), by first | exact Kd.R_nil _ _ _ _ _ | exact Kd.N_nil _ _ _ _ _ | exact Kd.V_nil _ _ _ _ _ | exact Kd.Q_nil _ _ _ _ _ | exact Kd.S_nil _ _ _ _ _, by first | exact Kd.R_nil _ _ _ _ _ | exact Kd.N_nil _ _ _ _ _ | exact Kd.V_nil _ _ _ _ _ | exact Kd.Q_nil _ _ _ _ _ | exact Kd.S_nil _ _ _ _ _, pH_ HB.out⟩
       ·
        rw [if_neg c36] at H; exact absurd H (by simp)
      ·
       rw [if_neg c35] at H; exact absurd H (by simp)
     ·
      rw [if_neg c34] at H; have c34b0 : decide (x41_2 < (l2.length : Int)) = false := decide_eq_false c34; clear c34; simp only [Option.some.injEq, Prod.mk.injEq] at H; obtain ⟨rfl, rfl, rfl, rfl, rfl⟩ := H; have hnb55 := NB267_256.out; have hnc55 := NB256_267.out; have hnb56 := NB267_257.out; have hnc56 := NB257_267.out; have hcz57_0 : wr.cell? ⟨gb267, 0, none⟩ = some (.int .i32 t260) := (blk_cell BK267.out 0).trans rfl; have hcz57_1 : wr.cell? ⟨gb267, 1, none⟩ = some (u268001) := (blk_cell BK267.out 1).trans rfl; have hcz57_2 : wr.cell? ⟨gb267, 2, none⟩ = some (u268002) := (blk_cell BK267.out 2).trans rfl; have hfz57_0 := blk_frozen BK267.out 0; have hfz57_1 := blk_frozen BK267.out 1; have hfz57_2 := blk_frozen BK267.out 2; have hnb58 := NB257_256.out; have hnc58 := NB256_257.out; have hcz59_0 : wr.cell? ⟨gb257, 0, none⟩ = some (.int .i32 x258000_2) := (blk_cell BK257.out 0).trans rfl; have hcz59_1 : wr.cell? ⟨gb257, 1, none⟩ = some (.slice none 0 0) := (blk_cell BK257.out 1).trans rfl; have hcz59_2 : wr.cell? ⟨gb257, 2, none⟩ = some (.slice none 0 0) := (blk_cell BK257.out 2).trans rfl; have hfz59_0 := blk_frozen BK257.out 0; have hfz59_1 := blk_frozen BK257.out 1; have hfz59_2 := blk_frozen BK257.out 2; obtain ⟨Ao60, co60, eo60⟩ := Kd.R_slice HO_268001.out
      subst eo60
      obtain ⟨Ao61, co61, eo61⟩ := Kd.R_slice HO_268002.out
      subst eo61
      go_wp2
      refine bodyPost_ret (results_ctt rfl _ _ gb257 24 #[.int .i32 t260, .slice Ao60 x268001_2.length co60, .slice Ao61 x268002_2.length co61] (0, 0) _ rfl (by (with_reducible repeat (first | refine blk_drewN ?_ _ | refine blk_drew ?_ | refine blk_alloc ?_ _)); refine blk_put (cs := #[.int .i32 t260, .slice Ao60 x268001_2.length co60, .slice none 0 0]) ?_ 2 _ rfl; (with_reducible repeat (first | refine blk_drewN ?_ _ | refine blk_drew ?_ | refine blk_alloc ?_ _)); refine blk_put (cs := #[.int .i32 t260, .slice none 0 0, .slice none 0 0]) ?_ 1 _ rfl; (with_reducible repeat (first | refine blk_drewN ?_ _ | refine blk_drew ?_ | refine blk_alloc ?_ _)); refine blk_put (cs := #[.int .i32 x258000_2, .slice none 0 0, .slice none 0 0]) ?_ 0 _ rfl; (with_reducible repeat (first | refine blk_drewN ?_ _ | refine blk_drew ?_ | refine blk_alloc ?_ _)); exact BK257.out) Tryd.underlying24 rfl (by kernel_rfl)) rfl ?_; exact ⟨_, _, by first | rfl | (simp [errW_none, errW_some] <;> rfl) | (simp [*, errW_none, errW_some] <;> rfl), by (with_reducible repeat (first | apply rA_ | apply rN_ | apply rD_)); exact Kd.R_mono (Kd.R_far (p := ⟨gb257, 2, none⟩) (Kd.R_far (p := ⟨gb257, 1, none⟩) (Kd.R_far (p := ⟨gb257, 0, none⟩) (Kd.R_types HO_268001.out BK257.out (by decide)) (fun _ hk => hk.2) (.int .i32 t260)) (fun _ hk => hk.2) (.slice Ao60 x268001_2.length co60)) (fun _ hk => hk.2) (.slice Ao61 x268002_2.length co61)) (fun _ hk => hk.1), by (with_reducible repeat (first | apply rA_ | apply rN_ | apply rD_)); exact Kd.R_mono (Kd.R_far (p := ⟨gb257, 2, none⟩) (Kd.R_far (p := ⟨gb257, 1, none⟩) (Kd.R_far (p := ⟨gb257, 0, none⟩) (Kd.R_types HO_268002.out BK257.out (by decide)) (fun _ hk => hk.2) (.int .i32 t260)) (fun _ hk => hk.2) (.slice Ao60 x268001_2.length co60)) (fun _ hk => hk.2) (.slice Ao61 x268002_2.length co61)) (fun _ hk => hk.1), pH_ HB.out⟩

end Go.Proofs.YtmncppbhnjngkaaDoor.XAdaptParts
