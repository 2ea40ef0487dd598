-- Laid by a program of this session (wip/mkxprint.py, over the kit's print): Lean checks it.
import Derived.Test.YtmncppbhnjngkaaDoorXAdaptNamesx0
import Derived.Test.YtmncppbhnjngkaaDoorXAdaptNamesx2
import Derived.Test.YtmncppbhnjngkaaDoorXAdaptNamesx3
import Derived.Test.YtmncppbhnjngkaaDoorXAdaptNamesx4
namespace Go.Proofs.YtmncppbhnjngkaaDoor.XAdaptNames
open List (setIfInBounds_toArray set_cons_zero set_cons_succ)
open Go.RowKit Go.Proofs.YtmncppbhnjngkaaDoorW.PrintWords Go.Proofs.YtmncppbhnjngkaaDoorW.PrintLast Go.Proofs.YtmncppbhnjngkaaDoorW.PrintMore
attribute [local go_sem] max2_int min2_int max_two min_two max_three min_three max_four min_four   -- for this text's walks alone
set_option linter.unusedVariables false
set_option linter.unusedSimpArgs false

/-! ### states_Next: function 27 -/
def states_Next.f (k : Nat) (a0 : Int) (a1 : Int) : Option (Int × Int) := (states_Run.f k a0 (([a1] : List Int))).bind fun bt245 => (some (bt245.1, bt245.2))
theorem states_Next.mono : ∀ a0 a1 k, LeO (states_Next.f k a0 a1) (states_Next.f (k + 1) a0 a1) := by
 intro a0 a1 k
 unfold states_Next.f
 repeat' first
   | (with_reducible exact states_Run.mono _ _ _)
   | (with_reducible exact LeO.refl _)
   | (with_reducible exact LeO.none _)
   | (with_reducible refine LeO.ite ?_ ?_)
   | (with_reducible refine LeO.bind ?_ (fun _ => ?_))
   | exact states_Run.mono _ _ _
   | exact LeO.none _
   | refine LeO.ite ?_ ?_
   | refine LeO.bind ?_ (fun _ => ?_)
set_option maxHeartbeats 8000000 in
set_option maxRecDepth 100000 in
theorem states_Next.calls (k : Nat) (a0 : Int) (a1 : Int) (r1 : Int) (r2 : Int) (w : World) (h : states_Next.f k a0 a1 = some (r1, r2)) :
  Calls Tryd.prog 27 #[.int .u8 a0, .int .u8 a1] w fun e w' => e = .returned (.tuple #[.int .u8 r1, .int .i64 r2]) ∧ Below w.heap.size w w' := by
 have HB := Aside0.mk (Below.refl w.heap.size w); have H : ((states_Run.f k a0 (([a1] : List Int))).bind fun bt245 => (some (bt245.1, bt245.2))) = some (r1, r2) := h; clear h; obtain ⟨y242, hy242⟩ : ∃ y_ : List Int, y_ = (([a1] : List Int)) := ⟨_, rfl⟩
 replace H : ((states_Run.f k a0 y242).bind fun bt245 => (some (bt245.1, bt245.2))) = some (r1, r2) := by first | (rw [hy242]; with_reducible exact H) | (have H2_ := (Option.bind_some _ _).symm.trans H; rw [hy242]; with_reducible exact H2_) | (have H2_ := (Option.bind_some _ _).symm.trans H; with_reducible exact H2_) | with_reducible exact H | (rw [hy242]; exact H) | exact H
 have Ny242 := Aside0.mk hy242; clear hy242; replace H := Option.bind_eq_some_iff.mp H; obtain ⟨⟨t245, t246⟩, A30, H⟩ := H; replace H : (some (t245, t246)) = some (r1, r2) := H; have A3 := Aside0.mk A30; clear A30; simp only [Option.some.injEq, Prod.mk.injEq] at H; obtain ⟨rfl, rfl⟩ := H
 go_enter Tryd.func27, Tryd.ntmps27
 go_wp2_with (first | ((with_reducible refine gate_dst (N := 8) rfl ?_); refine Kd.R_lit (Kd.int .u8) _ 5 ?hg (N := 8) ?hd (xs := ([a1] : List Int)) (inner := [.int .u8 a1]) (ok := fun _ => True) (okp := fun _ => True) ?hr ?hp (fun _ hk => hk) trivial (Below.refl _ _) (Nat.le_refl _) (by simp) ?_; (case hd => rfl); (case hg => rfl); (case hr => first | (go_simp; done) | (go_simp; rfl)); (case hp => exact (Reps.one (show Kd.M (Kd.int .u8) _ _ _ a1 [.int .u8 a1] from rfl) (Reps.none _ _))); intro v243 w4 ho5 hb hg_ hnew_; clear hg_ hnew_; (first | rw [← Ny242.out] at ho5 | (simp only [Int.reduceToNat] at ho5; rw [← Ny242.out] at ho5)); have n0_ := Aside0.mk (Kd.R_lower ho5 (below_size (pH_ HB.out))); have n1_ := Aside0.mk (below_step (pH_ HB.out) hb); clear HB; have HO244 := n0_; have HB := n1_; clear n0_ n1_; clear hb ho5; obtain ⟨Ao6, co6, eo6⟩ := Kd.R_slice HO244.out; subst eo6) | ((with_reducible refine gate_callee (f := 26) rfl ?_); refine gL_ (some 9) Tryd.func26 #[.int .u8 a0, .slice Ao6 y242.length co6] ?_; (with_reducible refine (states_Run.calls k a0 _ _ y242 t245 t246 _ ?side1 ?side2 A3.out).mono ?_); (case side1 => repeat (first | exact (Kd.R_reads' HO244.out).2.2 | (with_reducible refine Kd.C_alloc ?_ _) | (with_reducible refine Kd.C_drewN ?_ _) | (with_reducible refine Kd.C_drew ?_))); (case side2 => exact (Kd.R_reads' HO244.out).2.1); rintro e w7 ⟨rfl, hb⟩; refine ⟨_, rfl, ?_⟩; have n0_ := Aside0.mk (Kd.R_below (pL_ HO244.out) hb); have n1_ := Aside0.mk (below_step (pH_ HB.out) hb); clear HO244; clear HB; have HO244 := n0_; have HB := n1_; clear n0_ n1_; (try clear hb)))
 go_ret2
 exact ⟨by first | rfl | (simp [errW_none, errW_some] <;> rfl) | (simp [*, errW_none, errW_some] <;> rfl), pH_ HB.out⟩

/-! ### adapt_Run: function 24 -/
mutual
def adapt_Run.j0 : Nat → Int → List Int → Int → List Int → List Int → Option (Int × List Int × List Int × Int × Int)
 | 0, _, _, _, _, _ => none
 | k + 1, x1, x2, x248000, x248001, x248002 => (adapt_twin.f x248000 x248001 x248002).bind fun bt251 => (adapt_Run.l0 k x1 x2 (x2.length : Int) 0 bt251.1 bt251.2.1 bt251.2.2)
def adapt_Run.l0 : Nat → Int → List Int → Int → Int → Int → List Int → List Int → Option (Int × List Int × List Int × Int × Int)
 | 0, _, _, _, _, _, _, _ => none
 | k + 1, x1, x39, x40, x41, x259000, x259001, x259002 => if x41 < x40 then (if 0 ≤ x41 then (if x41 < (x39.length : Int) then ((adapt_change.f k x259000 x259001 x259002 x1 (rd x39 x41)).bind fun bt260 => (if bt260.1 = 0 then ((states_Next.f k x1 (rd x39 x41)).bind fun bt263 => (adapt_Run.l0 k bt263.1 x39 x40 (wrap64 (x41 + 1)) x259000 bt260.2.1 bt260.2.2)) else (some (0, ([] : List Int), ([] : List Int), 0, bt260.1)))) else (none)) else (none)) else (some (x259000, x259001, x259002, x1, 0))
end
def adapt_Run.f (k : Nat) (a0_0 : Int) (l0_1 : List Int) (l0_2 : List Int) (a1 : Int) (l2 : List Int) : Option (Int × List Int × List Int × Int × Int) := (adapt_at.f k a0_0 l0_1 l0_2 a1).bind fun t249 => (if t249 = 0 then (if (l2.length : Int) > 20000 then (some (0, ([] : List Int), ([] : List Int), 0, 4)) else (if (l2.length : Int) > 0 then ((slices_Max_uint8_uint8.f k l2).bind fun t250 => (if t250 > 1 then (some (0, ([] : List Int), ([] : List Int), 0, 2)) else (adapt_Run.j0 k a1 l2 a0_0 l0_1 l0_2))) else (adapt_Run.j0 k a1 l2 a0_0 l0_1 l0_2))) else (some (0, ([] : List Int), ([] : List Int), 0, t249)))
theorem adapt_Run.mono_l : ∀ k, (∀ y0 y1 y2 y3 y4, LeO (adapt_Run.j0 k y0 y1 y2 y3 y4) (adapt_Run.j0 (k + 1) y0 y1 y2 y3 y4)) ∧ (∀ y0 y1 y2 y3 y4 y5 y6, LeO (adapt_Run.l0 k y0 y1 y2 y3 y4 y5 y6) (adapt_Run.l0 (k + 1) y0 y1 y2 y3 y4 y5 y6))
 | 0 => ⟨fun _ _ _ _ _ r h => by simp [adapt_Run.j0] at h, fun _ _ _ _ _ _ _ r h => by simp [adapt_Run.l0] at h⟩
 | k + 1 => by
  obtain ⟨ih0, ih1⟩ := adapt_Run.mono_l k; refine ⟨?_, ?_⟩
  ·
   intro y0 y1 y2 y3 y4
   unfold adapt_Run.j0
   repeat' first
   | (with_reducible exact ih0 _ _ _ _ _)
   | (with_reducible exact ih1 _ _ _ _ _ _ _)
   | (with_reducible exact adapt_at.mono _ _ _ _ _)
   | (with_reducible exact adapt_change.mono _ _ _ _ _ _)
   | (with_reducible exact slices_Max_uint8_uint8.mono _ _)
   | (with_reducible exact states_Next.mono _ _ _)
   | (with_reducible exact LeO.refl _)
   | (with_reducible exact LeO.none _)
   | (with_reducible refine LeO.ite ?_ ?_)
   | (with_reducible refine LeO.bind ?_ (fun _ => ?_))
   | exact ih0 _ _ _ _ _
   | exact ih1 _ _ _ _ _ _ _
   | exact adapt_at.mono _ _ _ _ _
   | exact adapt_change.mono _ _ _ _ _ _
   | exact slices_Max_uint8_uint8.mono _ _
   | exact states_Next.mono _ _ _
   | exact LeO.none _
   | refine LeO.ite ?_ ?_
   | refine LeO.bind ?_ (fun _ => ?_)
  ·
   intro y0 y1 y2 y3 y4 y5 y6
   unfold adapt_Run.l0
   repeat' first
   | (with_reducible exact ih0 _ _ _ _ _)
   | (with_reducible exact ih1 _ _ _ _ _ _ _)
   | (with_reducible exact adapt_at.mono _ _ _ _ _)
   | (with_reducible exact adapt_change.mono _ _ _ _ _ _)
   | (with_reducible exact slices_Max_uint8_uint8.mono _ _)
   | (with_reducible exact states_Next.mono _ _ _)
   | (with_reducible exact LeO.refl _)
   | (with_reducible exact LeO.none _)
   | (with_reducible refine LeO.ite ?_ ?_)
   | (with_reducible refine LeO.bind ?_ (fun _ => ?_))
   | exact ih0 _ _ _ _ _
   | exact ih1 _ _ _ _ _ _ _
   | exact adapt_at.mono _ _ _ _ _
   | exact adapt_change.mono _ _ _ _ _ _
   | exact slices_Max_uint8_uint8.mono _ _
   | exact states_Next.mono _ _ _
   | exact LeO.none _
   | refine LeO.ite ?_ ?_
   | refine LeO.bind ?_ (fun _ => ?_)
theorem adapt_Run.mono : ∀ a0 a1 a2 a3 a4 k, LeO (adapt_Run.f k a0 a1 a2 a3 a4) (adapt_Run.f (k + 1) a0 a1 a2 a3 a4) := by
 intro a0 a1 a2 a3 a4 k; obtain ⟨ih0, ih1⟩ := adapt_Run.mono_l k
 unfold adapt_Run.f
 repeat' first
   | (with_reducible exact ih0 _ _ _ _ _)
   | (with_reducible exact ih1 _ _ _ _ _ _ _)
   | (with_reducible exact adapt_at.mono _ _ _ _ _)
   | (with_reducible exact adapt_change.mono _ _ _ _ _ _)
   | (with_reducible exact slices_Max_uint8_uint8.mono _ _)
   | (with_reducible exact states_Next.mono _ _ _)
   | (with_reducible exact LeO.refl _)
   | (with_reducible exact LeO.none _)
   | (with_reducible refine LeO.ite ?_ ?_)
   | (with_reducible refine LeO.bind ?_ (fun _ => ?_))
   | exact ih0 _ _ _ _ _
   | exact ih1 _ _ _ _ _ _ _
   | exact adapt_at.mono _ _ _ _ _
   | exact adapt_change.mono _ _ _ _ _ _
   | exact slices_Max_uint8_uint8.mono _ _
   | exact states_Next.mono _ _ _
   | exact LeO.none _
   | refine LeO.ite ?_ ?_
   | refine LeO.bind ?_ (fun _ => ?_)
set_option maxHeartbeats 8000000 in
set_option maxRecDepth 100000 in
theorem adapt_Run.calls (k : Nat) (a0_0 : Int) (A0_1 : Option Addr) (c0_1 : Nat) (l0_1 : List Int) (A0_2 : Option Addr) (c0_2 : Nat) (l0_2 : List Int) (a1 : Int) (A2 : Option Addr) (c2 : Nat) (l2 : List Int) (r1 : Int) (r2 : List Int) (r3 : List Int) (r4 : Int) (r5 : Int) (w : World) (hr0_1 : Kd.C (Kd.int .i32) w A0_1 l0_1.length l0_1) (hc0_1 : l0_1.length ≤ c0_1) (hr0_2 : Kd.C (Kd.int .i32) w A0_2 l0_2.length l0_2) (hc0_2 : l0_2.length ≤ c0_2) (hr2 : Kd.C (Kd.int .u8) w A2 l2.length l2) (hc2 : l2.length ≤ c2) (hT : Tab_ w) (h : adapt_Run.f k a0_0 l0_1 l0_2 a1 l2 = some (r1, r2, r3, r4, r5)) :
  Calls Tryd.prog 24 #[.agg #[.int .i32 a0_0, .slice A0_1 l0_1.length c0_1, .slice A0_2 l0_2.length c0_2], .int .u8 a1, .slice A2 l2.length c2] w fun e w' => ∃ v1_ v2_ : Value, e = .returned (.tuple #[.agg #[.int .i32 r1, v1_, v2_], .int .u8 r4, .int .i64 r5]) ∧ Kd.R (Kd.int .i32) 21 w' w.heap.size (fun k_ => nO_ k_ v2_) v1_ r2 ∧ Kd.R (Kd.int .i32) 21 w' w.heap.size (fun k_ => nO_ k_ v1_) v2_ r3 ∧ Below w.heap.size w w' := by
 have hu24 := Tryd.underlying24; have HR0_1 := Aside0.mk hr0_1; have HC0_1 := Aside0.mk hc0_1; clear hr0_1 hc0_1; have HR0_2 := Aside0.mk hr0_2; have HC0_2 := Aside0.mk hc0_2; clear hr0_2 hc0_2; have HR2 := Aside0.mk hr2; have HC2 := Aside0.mk hc2; clear hr2 hc2; have HB := Aside0.mk (Below.refl w.heap.size w); have H : ((adapt_at.f k a0_0 l0_1 l0_2 a1).bind fun t249 => (if t249 = 0 then (if (l2.length : Int) > 20000 then (some (0, ([] : List Int), ([] : List Int), 0, 4)) else (if (l2.length : Int) > 0 then ((slices_Max_uint8_uint8.f k l2).bind fun t250 => (if t250 > 1 then (some (0, ([] : List Int), ([] : List Int), 0, 2)) else (adapt_Run.j0 k a1 l2 a0_0 l0_1 l0_2))) else (adapt_Run.j0 k a1 l2 a0_0 l0_1 l0_2))) else (some (0, ([] : List Int), ([] : List Int), 0, t249)))) = some (r1, r2, r3, r4, r5) := h; clear h; replace H := Option.bind_eq_some_iff.mp H; obtain ⟨t249, A40, H⟩ := H; replace H : (if t249 = 0 then (if (l2.length : Int) > 20000 then (some (0, ([] : List Int), ([] : List Int), 0, 4)) else (if (l2.length : Int) > 0 then ((slices_Max_uint8_uint8.f k l2).bind fun t250 => (if t250 > 1 then (some (0, ([] : List Int), ([] : List Int), 0, 2)) else (adapt_Run.j0 k a1 l2 a0_0 l0_1 l0_2))) else (adapt_Run.j0 k a1 l2 a0_0 l0_1 l0_2))) else (some (0, ([] : List Int), ([] : List Int), 0, t249))) = some (r1, r2, r3, r4, r5) := H; have A4 := Aside0.mk A40; clear A40; have HC5 := Aside0.mk H; clear H
 go_enter Tryd.func24, Tryd.ntmps24
 go_upto_block 0 with (first | ((with_reducible refine gate_dst (N := 3) rfl ?_); refine box_event ?hg (N := 3) ?hd (cs := #[.int .i32 a0_0, .slice A0_1 l0_1.length c0_1, .slice A0_2 l0_2.length c0_2]) (t := 24) ?hr ?_; (case hd => rfl); (case hg => rfl); (case hr => first | (go_simp; done) | (go_simp; rfl)); intro gb247 hg w6 hbox hb; have n0_ := Aside0.mk (below_step (pH_ HB.out) hb); have n1_ := Aside0.mk (hbox); have n2_ := Aside0.mk ((by rw [hg]; exact (below_size (pH_ HB.out)) : w.heap.size ≤ gb247)); have n3_ := Aside0.mk ((by rw [hg]; exact (below_size (pH_ HB.out)) : w.heap.size ≤ gb247)); clear HB; have HB := n0_; have BK247 := n1_; have GW247 := n2_; have GE247 := n3_; clear n0_ n1_ n2_ n3_; clear hb hbox hg) | ((with_reducible refine gate_dst (N := 6) rfl ?_); refine box_event ?hg (N := 6) ?hd (cs := #[.int .i32 0, .slice none 0 0, .slice none 0 0]) (t := 24) ?hr ?_; (case hd => rfl); (case hg => rfl); (case hr => first | (go_simp; done) | (go_simp; rfl)); intro gb248 hg w7 hbox hb; have n0_ := Aside0.mk (blk_below (pG_ BK247.out) hb); have n1_ := Aside0.mk (below_step (pH_ HB.out) hb); have n2_ := Aside0.mk (hbox); have n3_ := Aside0.mk ((by rw [hg]; exact (below_size (pH_ HB.out)) : w.heap.size ≤ gb248)); have n4_ := Aside0.mk ((by rw [hg]; exact (below_size (pH_ HB.out)) : w.heap.size ≤ gb248)); have n5_ := Aside0.mk ((by rw [hg]; exact Nat.ne_of_lt (blk_lt (pG_ BK247.out)) : gb247 ≠ gb248)); have n6_ := Aside0.mk ((by rw [hg]; exact Nat.ne_of_gt (blk_lt (pG_ BK247.out)) : gb248 ≠ gb247)); clear BK247; clear HB; have BK247 := n0_; have HB := n1_; have BK248 := n2_; have GW248 := n3_; have GE248 := n4_; have NB247_248 := n5_; have NB248_247 := n6_; clear n0_ n1_ n2_ n3_ n4_ n5_ n6_; clear hb hbox hg; have hnb8 := NB247_248.out; have hnc8 := NB248_247.out; have hcz9_0 : w7.cell? ⟨gb247, 0, none⟩ = some (.int .i32 a0_0) := (blk_cell BK247.out 0).trans rfl; have hcz9_1 : w7.cell? ⟨gb247, 1, none⟩ = some (.slice A0_1 l0_1.length c0_1) := (blk_cell BK247.out 1).trans rfl; have hcz9_2 : w7.cell? ⟨gb247, 2, none⟩ = some (.slice A0_2 l0_2.length c0_2) := (blk_cell BK247.out 2).trans rfl; have hfz9_0 := blk_frozen BK247.out 0; have hfz9_1 := blk_frozen BK247.out 1; have hfz9_2 := blk_frozen BK247.out 2) | ((with_reducible refine gate_callee (f := 30) rfl ?_); refine gL_ (some 16) Tryd.func30 #[.agg #[.int .i32 a0_0, .slice A0_1 l0_1.length c0_1, .slice A0_2 l0_2.length c0_2], .int .u8 a1] ?_; (with_reducible refine (adapt_at.calls k a0_0 _ _ l0_1 _ _ l0_2 a1 t249 _ ?side1 ?side2 ?side3 ?side4 (tab_bel hT (pH_ HB.out)) A4.out).mono ?_); (case side1 => repeat (first | exact (Kd.C_below HR0_1.out HB.out) | (with_reducible refine Kd.C_alloc ?_ _) | (with_reducible refine Kd.C_drewN ?_ _) | (with_reducible refine Kd.C_drew ?_))); (case side2 => exact HC0_1.out); (case side3 => repeat (first | exact (Kd.C_below HR0_2.out HB.out) | (with_reducible refine Kd.C_alloc ?_ _) | (with_reducible refine Kd.C_drewN ?_ _) | (with_reducible refine Kd.C_drew ?_))); (case side4 => exact HC0_2.out); rintro e w10 ⟨rfl, hb⟩; refine ⟨_, rfl, ?_⟩; have n0_ := Aside0.mk (blk_below (pG_ BK247.out) hb); have n1_ := Aside0.mk (blk_below (pG_ BK248.out) hb); have n2_ := Aside0.mk (below_step (pH_ HB.out) hb); clear BK247; clear BK248; clear HB; have BK247 := n0_; have BK248 := n1_; have HB := n2_; clear n0_ n1_ n2_; (try clear hb); (try clear hb2); (try clear hk); (try clear hi)))
 (try simp only [Act.put, sA_, sZ_, sS_]); (with_reducible first | refine then_id_ ?_ | (refine wp_tail_ ?_; intro Kt_ hKt_))
 go_cut [] (fun wc => ∃ (kq : Nat) (x249000_4 : Int), Aside0 (adapt_Run.j0 kq a1 l2 a0_0 l0_1 l0_2 = some (r1, r2, r3, r4, r5)) ∧ Aside0 (kq ≤ k) ∧ Aside0 (wc.heap[gb247]? = some (.cells #[.int .i32 a0_0, (.slice A0_1 l0_1.length c0_1), (.slice A0_2 l0_2.length c0_2)] 24 (0, 0))) ∧ Aside0 (wc.heap[gb248]? = some (.cells #[.int .i32 x249000_4, (.slice none 0 0), (.slice none 0 0)] 24 (0, 0))) ∧ Aside0 (Below w.heap.size w wc))
 case first =>
  have H := HC5.out; clear HC5
  by_cases c11 : t249 = 0
  ·
   rw [if_pos c11] at H; have c11b0 : (t249 == 0) = true := beq_iff_eq.mpr c11; have c11b1 : (t249 != 0) = false := bne_eq_false_iff_eq.mpr c11; clear c11; (first | rw [c11b0] | (simp only [i64_w, i32_w]; rw [c11b0]) | skip)
   by_cases c12 : (l2.length : Int) > 20000
   ·
    rw [if_pos c12] at H; have c12b0 : decide (20000 < (l2.length : Int)) = true := decide_eq_true c12; have c12b1 : decide (20000 < l2.length) = true := decide_eq_true (by omega); clear c12; simp only [Option.some.injEq, Prod.mk.injEq] at H; obtain ⟨rfl, rfl, rfl, rfl, rfl⟩ := H; have hnb13 := NB248_247.out; have hnc13 := NB247_248.out; have hcz14_0 : w10.cell? ⟨gb248, 0, none⟩ = some (.int .i32 0) := (blk_cell BK248.out 0).trans rfl; have hcz14_1 : w10.cell? ⟨gb248, 1, none⟩ = some (.slice none 0 0) := (blk_cell BK248.out 1).trans rfl; have hcz14_2 : w10.cell? ⟨gb248, 2, none⟩ = some (.slice none 0 0) := (blk_cell BK248.out 2).trans rfl; have hfz14_0 := blk_frozen BK248.out 0; have hfz14_1 := blk_frozen BK248.out 1; have hfz14_2 := blk_frozen BK248.out 2
    go_wp2
    refine bodyPost_ret (results_ctt rfl _ _ gb248 24 #[.int .i32 0, .slice none 0 0, .slice none 0 0] (0, 0) _ rfl (by (with_reducible repeat (first | refine blk_drewN ?_ _ | refine blk_drew ?_ | refine blk_alloc ?_ _)); refine blk_put (cs := #[.int .i32 0, .slice none 0 0, .slice none 0 0]) ?_ 2 _ rfl; (with_reducible repeat (first | refine blk_drewN ?_ _ | refine blk_drew ?_ | refine blk_alloc ?_ _)); refine blk_put (cs := #[.int .i32 0, .slice none 0 0, .slice none 0 0]) ?_ 1 _ rfl; (with_reducible repeat (first | refine blk_drewN ?_ _ | refine blk_drew ?_ | refine blk_alloc ?_ _)); refine blk_put (cs := #[.int .i32 0, .slice none 0 0, .slice none 0 0]) ?_ 0 _ rfl; (with_reducible repeat (first | refine blk_drewN ?_ _ | refine blk_drew ?_ | refine blk_alloc ?_ _)); exact BK248.out) Tryd.underlying24 rfl (by kernel_rfl)) rfl ?_; exact ⟨_, _, by first | rfl | (simp [errW_none, errW_some] <;> rfl) | (simp [*, errW_none, errW_some] <;> rfl), by first | exact Kd.R_nil _ _ _ _ _ | exact Kd.N_nil _ _ _ _ _ | exact Kd.V_nil _ _ _ _ _ | exact Kd.Q_nil _ _ _ _ _ | exact Kd.S_nil _ _ _ _ _, by first | exact Kd.R_nil _ _ _ _ _ | exact Kd.N_nil _ _ _ _ _ | exact Kd.V_nil _ _ _ _ _ | exact Kd.Q_nil _ _ _ _ _ | exact Kd.S_nil _ _ _ _ _, pH_ HB.out⟩
   ·
    rw [if_neg c12] at H; have c12b0 : decide (20000 < (l2.length : Int)) = false := decide_eq_false c12; have c12b1 : decide (20000 < l2.length) = false := decide_eq_false (by omega); clear c12
    by_cases c15 : (l2.length : Int) > 0
    ·
     rw [if_pos c15] at H; have c15b0 : decide (0 < (l2.length : Int)) = true := decide_eq_true c15; have c15b1 : decide (0 < l2.length) = true := decide_eq_true (by omega); clear c15; replace H := Option.bind_eq_some_iff.mp H; obtain ⟨t250, A160, H⟩ := H; replace H : (if t250 > 1 then (some (0, ([] : List Int), ([] : List Int), 0, 2)) else (adapt_Run.j0 k a1 l2 a0_0 l0_1 l0_2)) = some (r1, r2, r3, r4, r5) := H; have A16 := Aside0.mk A160; clear A160
     by_cases c17 : t250 > 1
     ·
      rw [if_pos c17] at H; have c17b0 : decide (1 < t250) = true := decide_eq_true c17; clear c17; simp only [Option.some.injEq, Prod.mk.injEq] at H; obtain ⟨rfl, rfl, rfl, rfl, rfl⟩ := H
      go_wp2_with (first | (go_at_call 39; (with_reducible refine (slices_Max_uint8_uint8.calls k _ _ l2 t250 _ ?side1 ?side2 A16.out).mono ?_); (case side1 => repeat (first | exact (Kd.C_below HR2.out HB.out) | (with_reducible refine Kd.C_alloc ?_ _) | (with_reducible refine Kd.C_drewN ?_ _) | (with_reducible refine Kd.C_drew ?_))); (case side2 => exact HC2.out); rintro e w18 ⟨rfl, hb⟩; have n0_ := Aside0.mk (blk_below (pG_ BK247.out) hb); have n1_ := Aside0.mk (blk_below (pG_ BK248.out) hb); have n2_ := Aside0.mk (below_step (pH_ HB.out) hb); clear BK247; clear BK248; clear HB; have BK247 := n0_; have BK248 := n1_; have HB := n2_; clear n0_ n1_ n2_; (try clear hb); (try clear hb2); (try clear hk); (try clear hi); have hnb19 := NB248_247.out; have hnc19 := NB247_248.out; have hcz20_0 : w18.cell? ⟨gb248, 0, none⟩ = some (.int .i32 0) := (blk_cell BK248.out 0).trans rfl; have hcz20_1 : w18.cell? ⟨gb248, 1, none⟩ = some (.slice none 0 0) := (blk_cell BK248.out 1).trans rfl; have hcz20_2 : w18.cell? ⟨gb248, 2, none⟩ = some (.slice none 0 0) := (blk_cell BK248.out 2).trans rfl; have hfz20_0 := blk_frozen BK248.out 0; have hfz20_1 := blk_frozen BK248.out 1; have hfz20_2 := blk_frozen BK248.out 2))
      refine bodyPost_ret (results_ctt rfl _ _ gb248 24 #[.int .i32 0, .slice none 0 0, .slice none 0 0] (0, 0) _ rfl (by (with_reducible repeat (first | refine blk_drewN ?_ _ | refine blk_drew ?_ | refine blk_alloc ?_ _)); refine blk_put (cs := #[.int .i32 0, .slice none 0 0, .slice none 0 0]) ?_ 2 _ rfl; (with_reducible repeat (first | refine blk_drewN ?_ _ | refine blk_drew ?_ | refine blk_alloc ?_ _)); refine blk_put (cs := #[.int .i32 0, .slice none 0 0, .slice none 0 0]) ?_ 1 _ rfl; (with_reducible repeat (first | refine blk_drewN ?_ _ | refine blk_drew ?_ | refine blk_alloc ?_ _)); refine blk_put (cs := #[.int .i32 0, .slice none 0 0, .slice none 0 0]) ?_ 0 _ rfl; (with_reducible repeat (first | refine blk_drewN ?_ _ | refine blk_drew ?_ | refine blk_alloc ?_ _)); exact BK248.out) Tryd.underlying24 rfl (by kernel_rfl)) rfl ?_; exact ⟨_, _, by first | rfl | (simp [errW_none, errW_some] <;> rfl) | (simp [*, errW_none, errW_some] <;> rfl), by first | exact Kd.R_nil _ _ _ _ _ | exact Kd.N_nil _ _ _ _ _ | exact Kd.V_nil _ _ _ _ _ | exact Kd.Q_nil _ _ _ _ _ | exact Kd.S_nil _ _ _ _ _, by first | exact Kd.R_nil _ _ _ _ _ | exact Kd.N_nil _ _ _ _ _ | exact Kd.V_nil _ _ _ _ _ | exact Kd.Q_nil _ _ _ _ _ | exact Kd.S_nil _ _ _ _ _, pH_ HB.out⟩
     ·
      rw [if_neg c17] at H; have c17b0 : decide (1 < t250) = false := decide_eq_false c17; clear c17; have H' := Aside0.mk H; clear H
      go_wp2_with (first | (go_at_call 39; (with_reducible refine (slices_Max_uint8_uint8.calls k _ _ l2 t250 _ ?side1 ?side2 A16.out).mono ?_); (case side1 => repeat (first | exact (Kd.C_below HR2.out HB.out) | (with_reducible refine Kd.C_alloc ?_ _) | (with_reducible refine Kd.C_drewN ?_ _) | (with_reducible refine Kd.C_drew ?_))); (case side2 => exact HC2.out); rintro e w21 ⟨rfl, hb⟩; have n0_ := Aside0.mk (blk_below (pG_ BK247.out) hb); have n1_ := Aside0.mk (blk_below (pG_ BK248.out) hb); have n2_ := Aside0.mk (below_step (pH_ HB.out) hb); clear BK247; clear BK248; clear HB; have BK247 := n0_; have BK248 := n1_; have HB := n2_; clear n0_ n1_ n2_; (try clear hb); (try clear hb2); (try clear hk); (try clear hi)))
      (first | go_meet | (refine Met.intro ?_; go_step; (repeat apply Exists.intro); refine ⟨?rel, ?eqf_⟩; case eqf_ => ((simp only [c17b0, c15b0, c12b0, c11b0]) <;> rfl)))
      case rel => exact ⟨_, (0), H', ⟨by first | omega | exact Nat.le_refl _⟩, ⟨pG_ BK247.out⟩, ⟨pG_ BK248.out⟩, ⟨pH_ HB.out⟩⟩
    ·
     rw [if_neg c15] at H; have c15b0 : decide (0 < (l2.length : Int)) = false := decide_eq_false c15; have c15b1 : decide (0 < l2.length) = false := decide_eq_false (by omega); clear c15; have H' := Aside0.mk H; clear H
     go_wp2
     (first | go_meet | (refine Met.intro ?_; go_step; (repeat apply Exists.intro); refine ⟨?rel, ?eqf_⟩; case eqf_ => ((simp only [c15b0, c12b0, c11b0]) <;> rfl)))
     case rel => exact ⟨_, (0), H', ⟨by first | omega | exact Nat.le_refl _⟩, ⟨pG_ BK247.out⟩, ⟨pG_ BK248.out⟩, ⟨pH_ HB.out⟩⟩
  ·
   rw [if_neg c11] at H; have c11b0 : (t249 == 0) = false := beq_eq_false_iff_ne.mpr c11; have c11b1 : (t249 != 0) = true := bne_iff_ne.mpr c11; (first | rw [c11b0] | (simp only [i64_w, i32_w]; rw [c11b0]) | skip); simp only [Option.some.injEq, Prod.mk.injEq] at H; obtain ⟨rfl, rfl, rfl, rfl, rfl⟩ := H; have hnb22 := NB248_247.out; have hnc22 := NB247_248.out; have hcz23_0 : w10.cell? ⟨gb248, 0, none⟩ = some (.int .i32 0) := (blk_cell BK248.out 0).trans rfl; have hcz23_1 : w10.cell? ⟨gb248, 1, none⟩ = some (.slice none 0 0) := (blk_cell BK248.out 1).trans rfl; have hcz23_2 : w10.cell? ⟨gb248, 2, none⟩ = some (.slice none 0 0) := (blk_cell BK248.out 2).trans rfl; have hfz23_0 := blk_frozen BK248.out 0; have hfz23_1 := blk_frozen BK248.out 1; have hfz23_2 := blk_frozen BK248.out 2
   go_wp2
   refine bodyPost_ret (results_ctt rfl _ _ gb248 24 #[.int .i32 0, .slice none 0 0, .slice none 0 0] (0, 0) _ rfl (by (with_reducible repeat (first | refine blk_drewN ?_ _ | refine blk_drew ?_ | refine blk_alloc ?_ _)); refine blk_put (cs := #[.int .i32 0, .slice none 0 0, .slice none 0 0]) ?_ 2 _ rfl; (with_reducible repeat (first | refine blk_drewN ?_ _ | refine blk_drew ?_ | refine blk_alloc ?_ _)); refine blk_put (cs := #[.int .i32 0, .slice none 0 0, .slice none 0 0]) ?_ 1 _ rfl; (with_reducible repeat (first | refine blk_drewN ?_ _ | refine blk_drew ?_ | refine blk_alloc ?_ _)); refine blk_put (cs := #[.int .i32 0, .slice none 0 0, .slice none 0 0]) ?_ 0 _ rfl; (with_reducible repeat (first | refine blk_drewN ?_ _ | refine blk_drew ?_ | refine blk_alloc ?_ _)); exact BK248.out) Tryd.underlying24 rfl (by kernel_rfl)) rfl ?_; exact ⟨_, _, by first | rfl | (simp [errW_none, errW_some] <;> rfl) | (simp [*, errW_none, errW_some] <;> rfl), by first | exact Kd.R_nil _ _ _ _ _ | exact Kd.N_nil _ _ _ _ _ | exact Kd.V_nil _ _ _ _ _ | exact Kd.Q_nil _ _ _ _ _ | exact Kd.S_nil _ _ _ _ _, by first | exact Kd.R_nil _ _ _ _ _ | exact Kd.N_nil _ _ _ _ _ | exact Kd.V_nil _ _ _ _ _ | exact Kd.Q_nil _ _ _ _ _ | exact Kd.S_nil _ _ _ _ _, pH_ HB.out⟩
 case rest =>
  (try (refine hKt_ _ _ ?_; clear hKt_; clear Kt_)); clear HC5
  try clear c1
  try clear c2
  try clear p2
  try clear c3
  try clear c8
  try clear c11
  try clear c11b0
  try clear c11b1
  try clear c12
  try clear c12b0
  try clear c12b1
  try clear c13
  try clear c15
  try clear c15b0
  try clear c15b1
  try clear c17
  try clear c17b0
  try clear c19
  try clear c22
  try clear hcz14_0
  try clear hcz14_1
  try clear hcz14_2
  try clear hcz20_0
  try clear hcz20_1
  try clear hcz20_2
  try clear hcz23_0
  try clear hcz23_1
  try clear hcz23_2
  try clear hcz9_0
  try clear hcz9_1
  try clear hcz9_2
  try clear hfz14_0
  try clear hfz14_1
  try clear hfz14_2
  try clear hfz20_0
  try clear hfz20_1
  try clear hfz20_2
  try clear hfz23_0
  try clear hfz23_1
  try clear hfz23_2
  try clear hfz9_0
  try clear hfz9_1
  try clear hfz9_2
  obtain ⟨kq, x249000_4, HA, HJ4, BK247, BK248, HB⟩ := hcut
  cases kq with
  | zero => exact absurd HA.out (by simp [adapt_Run.j0])
  | succ kj4 =>
   have H := HA.out; clear HA; simp only [adapt_Run.j0] at H; replace H := Option.bind_eq_some_iff.mp H; obtain ⟨⟨t251, t252, t255⟩, A240, H⟩ := H; replace H : (adapt_Run.l0 kj4 a1 l2 (l2.length : Int) 0 t251 t252 t255) = some (r1, r2, r3, r4, r5) := H; have A24 := Aside0.mk A240; clear A240; have H' := Aside0.mk H; clear H; have hnb25 := NB247_248.out; have hnc25 := NB248_247.out; have hcz26_0 : wc.cell? ⟨gb247, 0, none⟩ = some (.int .i32 a0_0) := (blk_cell BK247.out 0).trans rfl; have hcz26_1 : wc.cell? ⟨gb247, 1, none⟩ = some (.slice A0_1 l0_1.length c0_1) := (blk_cell BK247.out 1).trans rfl; have hcz26_2 : wc.cell? ⟨gb247, 2, none⟩ = some (.slice A0_2 l0_2.length c0_2) := (blk_cell BK247.out 2).trans rfl; have hfz26_0 := blk_frozen BK247.out 0; have hfz26_1 := blk_frozen BK247.out 1; have hfz26_2 := blk_frozen BK247.out 2
   go_wp2_with (first | ((with_reducible refine gate_callee (f := 32) rfl ?_); refine gL_ (some 38) Tryd.func32 #[.agg #[.int .i32 a0_0, .slice A0_1 l0_1.length c0_1, .slice A0_2 l0_2.length c0_2]] ?_; (with_reducible refine (adapt_twin.calls a0_0 _ _ l0_1 _ _ l0_2 t251 t252 t255 _ ?side1 ?side2 ?side3 ?side4 A24.out).mono ?_); (case side1 => repeat (first | exact (Kd.C_below HR0_1.out HB.out) | (with_reducible refine Kd.C_alloc ?_ _) | (with_reducible refine Kd.C_drewN ?_ _) | (with_reducible refine Kd.C_drew ?_))); (case side2 => exact HC0_1.out); (case side3 => repeat (first | exact (Kd.C_below HR0_2.out HB.out) | (with_reducible refine Kd.C_alloc ?_ _) | (with_reducible refine Kd.C_drewN ?_ _) | (with_reducible refine Kd.C_drew ?_))); (case side4 => exact HC0_2.out); rintro e w27 ⟨v253, v256, rfl, ho0, ho1, hb⟩; refine ⟨_, rfl, ?_⟩; have n0_ := Aside0.mk (Kd.R_lower ho0 (below_size (pH_ HB.out))); have n1_ := Aside0.mk (Kd.R_lower ho1 (below_size (pH_ HB.out))); have n2_ := Aside0.mk (blk_below (pG_ BK247.out) hb); have n3_ := Aside0.mk (blk_below (pG_ BK248.out) hb); have n4_ := Aside0.mk (below_step (pH_ HB.out) hb); clear BK247; clear BK248; clear HB; have HO254 := n0_; have HO257 := n1_; have BK247 := n2_; have BK248 := n3_; have HB := n4_; clear n0_ n1_ n2_ n3_ n4_; (try clear hb); (try clear hb2); (try clear hk); (try clear hi); (try clear ho0); (try clear ho1)) | ((with_reducible refine gate_dst (N := 10) rfl ?_); refine box_event ?hg (N := 10) ?hd (cs := #[.int .i32 0, .slice none 0 0, .slice none 0 0]) (t := 24) ?hr ?_; (case hd => rfl); (case hg => rfl); (case hr => first | (go_simp; done) | (go_simp; rfl)); intro gb258 hg w28 hbox hb; have n0_ := Aside0.mk (Kd.R_below (pL_ HO254.out) hb); have n1_ := Aside0.mk (Kd.R_below (pL_ HO257.out) hb); have n2_ := Aside0.mk (blk_below (pG_ BK247.out) hb); have n3_ := Aside0.mk (blk_below (pG_ BK248.out) hb); have n4_ := Aside0.mk (below_step (pH_ HB.out) hb); have n5_ := Aside0.mk (hbox); have n6_ := Aside0.mk ((by rw [hg]; exact (below_size (pH_ HB.out)) : w.heap.size ≤ gb258)); have n7_ := Aside0.mk ((by rw [hg]; exact (below_size (pH_ HB.out)) : w.heap.size ≤ gb258)); have n8_ := Aside0.mk ((by rw [hg]; exact Nat.ne_of_lt (blk_lt (pG_ BK247.out)) : gb247 ≠ gb258)); have n9_ := Aside0.mk ((by rw [hg]; exact Nat.ne_of_gt (blk_lt (pG_ BK247.out)) : gb258 ≠ gb247)); have n10_ := Aside0.mk ((by rw [hg]; exact Nat.ne_of_lt (blk_lt (pG_ BK248.out)) : gb248 ≠ gb258)); have n11_ := Aside0.mk ((by rw [hg]; exact Nat.ne_of_gt (blk_lt (pG_ BK248.out)) : gb258 ≠ gb248)); clear HO254; clear HO257; clear BK247; clear BK248; clear HB; have HO254 := n0_; have HO257 := n1_; have BK247 := n2_; have BK248 := n3_; have HB := n4_; have BK258 := n5_; have GW258 := n6_; have GE258 := n7_; have NB247_258 := n8_; have NB258_247 := n9_; have NB248_258 := n10_; have NB258_248 := n11_; clear n0_ n1_ n2_ n3_ n4_ n5_ n6_ n7_ n8_ n9_ n10_ n11_; clear hb hbox hg; have hnb29 := NB258_247.out; have hnc29 := NB247_258.out; have hnb30 := NB258_248.out; have hnc30 := NB248_258.out; have hcz31_0 : w28.cell? ⟨gb258, 0, none⟩ = some (.int .i32 0) := (blk_cell BK258.out 0).trans rfl; have hcz31_1 : w28.cell? ⟨gb258, 1, none⟩ = some (.slice none 0 0) := (blk_cell BK258.out 1).trans rfl; have hcz31_2 : w28.cell? ⟨gb258, 2, none⟩ = some (.slice none 0 0) := (blk_cell BK258.out 2).trans rfl; have hfz31_0 := blk_frozen BK258.out 0; have hfz31_1 := blk_frozen BK258.out 1; have hfz31_2 := blk_frozen BK258.out 2; obtain ⟨Ao32, co32, eo32⟩ := Kd.R_slice HO254.out; subst eo32; obtain ⟨Ao33, co33, eo33⟩ := Kd.R_slice HO257.out; subst eo33))
   go_loopg [1, 41] kj4 (fun kq v1 v41 w' => ∃ (x1_2 : Int) (x41_2 : Int) (x249000_2 : Int) (x259001_2 : List Int) (x259002_2 : List Int) (u259001 : Value) (u259002 : Value), v1 = .int .u8 x1_2 ∧ v41 = .int .i64 x41_2 ∧ Aside0 (adapt_Run.l0 kq x1_2 l2 (l2.length : Int) x41_2 t251 x259001_2 x259002_2 = some (r1, r2, r3, r4, r5)) ∧ Aside0 (kq ≤ kj4) ∧ Aside0 (Kd.R (Kd.int .i32) 21 w' w.heap.size (fun k_ => nO_ k_ u259002) u259001 x259001_2) ∧ Aside0 (Kd.R (Kd.int .i32) 21 w' w.heap.size (fun k_ => nO_ k_ u259001) u259002 x259002_2) ∧ Aside0 (w'.heap[gb247]? = some (.cells #[.int .i32 a0_0, (.slice A0_1 l0_1.length c0_1), (.slice A0_2 l0_2.length c0_2)] 24 (0, 0))) ∧ Aside0 (w'.heap[gb248]? = some (.cells #[.int .i32 x249000_2, (.slice none 0 0), (.slice none 0 0)] 24 (0, 0))) ∧ Aside0 (w'.heap[gb258]? = some (.cells #[.int .i32 t251, u259001, u259002] 24 (0, 0))) ∧ Aside0 (Below w.heap.size w w'))
   case atStart => exact ⟨(a1), (0), (x249000_4), (t252), (t255), (.slice Ao32 t252.length co32), (.slice Ao33 t255.length co33), (by first | rfl | (simp; done) | (simp [*]; done)), (by first | rfl | (simp; done) | (simp [*]; done)), H', ⟨Nat.le_refl _⟩, ⟨by (with_reducible repeat (first | apply rA_ | apply rN_ | apply rD_)); exact Kd.R_mono (Kd.R_far (p := ⟨gb258, 2, none⟩) (Kd.R_far (p := ⟨gb258, 1, none⟩) (Kd.R_far (p := ⟨gb258, 0, none⟩) (Kd.R_types HO254.out BK258.out (by decide)) (fun _ hk => hk.2) (.int .i32 t251)) (fun _ hk => hk.2) (.slice Ao32 t252.length co32)) (fun _ hk => hk.2) (.slice Ao33 t255.length co33)) (fun _ hk => hk.1)⟩, ⟨by (with_reducible repeat (first | apply rA_ | apply rN_ | apply rD_)); exact Kd.R_mono (Kd.R_far (p := ⟨gb258, 2, none⟩) (Kd.R_far (p := ⟨gb258, 1, none⟩) (Kd.R_far (p := ⟨gb258, 0, none⟩) (Kd.R_types HO257.out BK258.out (by decide)) (fun _ hk => hk.2) (.int .i32 t251)) (fun _ hk => hk.2) (.slice Ao32 t252.length co32)) (fun _ hk => hk.2) (.slice Ao33 t255.length co33)) (fun _ hk => hk.1)⟩, ⟨by (with_reducible repeat (first | refine blk_drewN ?_ _ | refine blk_drew ?_ | refine blk_alloc ?_ _)); refine blk_far ?_ NB247_258.out _; (with_reducible repeat (first | refine blk_drewN ?_ _ | refine blk_drew ?_ | refine blk_alloc ?_ _)); refine blk_far ?_ NB247_258.out _; (with_reducible repeat (first | refine blk_drewN ?_ _ | refine blk_drew ?_ | refine blk_alloc ?_ _)); refine blk_far ?_ NB247_258.out _; (with_reducible repeat (first | refine blk_drewN ?_ _ | refine blk_drew ?_ | refine blk_alloc ?_ _)); exact BK247.out⟩, ⟨by (with_reducible repeat (first | refine blk_drewN ?_ _ | refine blk_drew ?_ | refine blk_alloc ?_ _)); refine blk_far ?_ NB248_258.out _; (with_reducible repeat (first | refine blk_drewN ?_ _ | refine blk_drew ?_ | refine blk_alloc ?_ _)); refine blk_far ?_ NB248_258.out _; (with_reducible repeat (first | refine blk_drewN ?_ _ | refine blk_drew ?_ | refine blk_alloc ?_ _)); refine blk_far ?_ NB248_258.out _; (with_reducible repeat (first | refine blk_drewN ?_ _ | refine blk_drew ?_ | refine blk_alloc ?_ _)); exact BK248.out⟩, ⟨by (with_reducible repeat (first | refine blk_drewN ?_ _ | refine blk_drew ?_ | refine blk_alloc ?_ _)); refine blk_put (cs := #[.int .i32 t251, .slice Ao32 t252.length co32, .slice none 0 0]) ?_ 2 _ rfl; (with_reducible repeat (first | refine blk_drewN ?_ _ | refine blk_drew ?_ | refine blk_alloc ?_ _)); refine blk_put (cs := #[.int .i32 t251, .slice none 0 0, .slice none 0 0]) ?_ 1 _ rfl; (with_reducible repeat (first | refine blk_drewN ?_ _ | refine blk_drew ?_ | refine blk_alloc ?_ _)); refine blk_put (cs := #[.int .i32 0, .slice none 0 0, .slice none 0 0]) ?_ 0 _ rfl; (with_reducible repeat (first | refine blk_drewN ?_ _ | refine blk_drew ?_ | refine blk_alloc ?_ _)); exact BK258.out⟩, ⟨pH_ HB.out⟩⟩
   case round =>
    clear H'
    try clear c1
    try clear c2
    try clear p2
    try clear c3
    try clear c8
    try clear c11
    try clear c11b0
    try clear c11b1
    try clear c12
    try clear c12b0
    try clear c12b1
    try clear c13
    try clear c15
    try clear c15b0
    try clear c15b1
    try clear c17
    try clear c17b0
    try clear c19
    try clear c22
    try clear c24
    try clear c25
    try clear c29
    try clear c30
    try clear c32
    try clear hcz14_0
    try clear hcz14_1
    try clear hcz14_2
    try clear hcz20_0
    try clear hcz20_1
    try clear hcz20_2
    try clear hcz23_0
    try clear hcz23_1
    try clear hcz23_2
    try clear hcz26_0
    try clear hcz26_1
    try clear hcz26_2
    try clear hcz31_0
    try clear hcz31_1
    try clear hcz31_2
    try clear hcz9_0
    try clear hcz9_1
    try clear hcz9_2
    try clear hfz14_0
    try clear hfz14_1
    try clear hfz14_2
    try clear hfz20_0
    try clear hfz20_1
    try clear hfz20_2
    try clear hfz23_0
    try clear hfz23_1
    try clear hfz23_2
    try clear hfz26_0
    try clear hfz26_1
    try clear hfz26_2
    try clear hfz31_0
    try clear hfz31_1
    try clear hfz31_2
    try clear hfz9_0
    try clear hfz9_1
    try clear hfz9_2
    try clear p2
    obtain ⟨x1_2, x41_2, x249000_2, x259001_2, x259002_2, u259001, u259002, rfl, rfl, HA, HK2, HO_259001, HO_259002, BK247, BK248, BK258, HB⟩ := hrel
    cases gk with
    | zero => exact absurd HA.out (by simp [adapt_Run.l0])
    | succ k2 =>
     have H := HA.out; clear HA; simp only [adapt_Run.l0] at H
     by_cases c34 : x41_2 < (l2.length : Int)
     ·
      rw [if_pos c34] at H; have c34b0 : decide (x41_2 < (l2.length : Int)) = true := decide_eq_true c34; clear c34
      by_cases c35 : 0 ≤ x41_2
      ·
       rw [if_pos c35] at H; have c35b0 : decide (0 ≤ x41_2) = true := decide_eq_true c35; clear c35
       by_cases c36 : x41_2 < (l2.length : Int)
       ·
        rw [if_pos c36] at H; have c36b0 : decide (x41_2 < (l2.length : Int)) = true := decide_eq_true c36; clear c36; replace H := Option.bind_eq_some_iff.mp H; obtain ⟨⟨t260, t261, t262⟩, A370, H⟩ := H; replace H : (if t260 = 0 then ((states_Next.f k2 x1_2 (rd l2 x41_2)).bind fun bt263 => (adapt_Run.l0 k2 bt263.1 l2 (l2.length : Int) (wrap64 (x41_2 + 1)) t251 t261 t262)) else (some (0, ([] : List Int), ([] : List Int), 0, t260))) = some (r1, r2, r3, r4, r5) := H; have A37 := Aside0.mk A370; clear A370
        by_cases c38 : t260 = 0
        ·
         rw [if_pos c38] at H; have c38b0 : (t260 == 0) = true := beq_iff_eq.mpr c38; have c38b1 : (t260 != 0) = false := bne_eq_false_iff_eq.mpr c38; clear c38; replace H := Option.bind_eq_some_iff.mp H; obtain ⟨⟨t263, t264⟩, A390, H⟩ := H; replace H : (adapt_Run.l0 k2 t263 l2 (l2.length : Int) (wrap64 (x41_2 + 1)) t251 t261 t262) = some (r1, r2, r3, r4, r5) := H; have A39 := Aside0.mk A390; clear A390; have H' := Aside0.mk H; clear H; have p259 : 0 ≤ (x41_2 : Int) := of_decide_eq_true (by first | (with_reducible assumption) | assumption); have q259 : x41_2 < (l2.length : Int) := of_decide_eq_true (by first | (with_reducible assumption) | assumption); obtain ⟨ad259, e259, hx259_0⟩ := Kd.at_int HR2.out x41_2 p259 q259
         cases e259
         replace hx259_0 := (HB.out.cell (World.block_lt_of_cell? w _ hx259_0)).trans hx259_0; replace p259 := eq_true p259; replace q259 := eq_true q259; have hnb40 := NB258_247.out; have hnc40 := NB247_258.out; have hnb41 := NB258_248.out; have hnc41 := NB248_258.out; have hcz42_0 : wr.cell? ⟨gb258, 0, none⟩ = some (.int .i32 t251) := (blk_cell BK258.out 0).trans rfl; have hcz42_1 : wr.cell? ⟨gb258, 1, none⟩ = some (u259001) := (blk_cell BK258.out 1).trans rfl; have hcz42_2 : wr.cell? ⟨gb258, 2, none⟩ = some (u259002) := (blk_cell BK258.out 2).trans rfl; have hfz42_0 := blk_frozen BK258.out 0; have hfz42_1 := blk_frozen BK258.out 1; have hfz42_2 := blk_frozen BK258.out 2; obtain ⟨Ao43, co43, eo43⟩ := Kd.R_slice HO_259001.out
         subst eo43
         obtain ⟨Ao44, co44, eo44⟩ := Kd.R_slice HO_259002.out
         subst eo44
         go_wp2_with (first | ((with_reducible refine gate_callee (f := 33) rfl ?_); refine gL_ (some 48) Tryd.func33 #[.agg #[.int .i32 t251, .slice Ao43 x259001_2.length co43, .slice Ao44 x259002_2.length co44], .int .u8 x1_2, .int .u8 (rd l2 x41_2)] ?_; (with_reducible refine (adapt_change.calls k2 t251 (fun k_ => some k_ = (.slice Ao43 x259001_2.length co43 : Value).ownBlock) (.slice Ao43 x259001_2.length co43) x259001_2 (fun k_ => some k_ = (.slice Ao44 x259002_2.length co44 : Value).ownBlock) (.slice Ao44 x259002_2.length co44) x259002_2 x1_2 (rd l2 x41_2) t260 t261 t262 w _ ?side1 ?side2 ?side3 ?side4 ?side5 hT A37.out).mono ?_); (case side1 => repeat (first | (with_reducible first | exact HB.out | apply below_alloc | apply bN_ | apply below_drew1 | refine below_set ?_ GE247.out | refine below_set ?_ GE248.out | refine below_set ?_ GE258.out) | exact HB.out)); (case side2 => exact Kd.R_tight rfl HO_259001.out); (case side3 => exact fun k_ e_ => (HO_259001.out.1 k_ e_.symm)); (case side4 => exact Kd.R_tight rfl HO_259002.out); (case side5 => exact fun k_ e_ => (HO_259002.out.1 k_ e_.symm)); rintro e w45 ⟨rfl, hy0, hy1, hb, hkp⟩; refine ⟨_, rfl, ?_⟩; have n0_ := Aside0.mk (Kd.R_reok rfl hy0 (fun k_ e_ => HO_259001.out.1 k_ e_)); have n1_ := Aside0.mk (Kd.R_reok rfl hy1 (fun k_ e_ => HO_259002.out.1 k_ e_)); have n2_ := Aside0.mk (blk_kept (pG_ BK247.out) hkp (fun hs_ => Or.elim hs_ (fun e_ => (fun e_ => (Kd.R_ne HO_259001.out BK247.out (by decide)) e_) e_) (fun e_ => (fun e_ => (Kd.R_ne HO_259002.out BK247.out (by decide)) e_) e_))); have n3_ := Aside0.mk (blk_kept (pG_ BK248.out) hkp (fun hs_ => Or.elim hs_ (fun e_ => (fun e_ => (Kd.R_ne HO_259001.out BK248.out (by decide)) e_) e_) (fun e_ => (fun e_ => (Kd.R_ne HO_259002.out BK248.out (by decide)) e_) e_))); have n4_ := Aside0.mk (blk_kept (pG_ BK258.out) hkp (fun hs_ => Or.elim hs_ (fun e_ => (fun e_ => (Kd.R_ne HO_259001.out BK258.out (by decide)) e_) e_) (fun e_ => (fun e_ => (Kd.R_ne HO_259002.out BK258.out (by decide)) e_) e_))); have n5_ := Aside0.mk (hb); clear HO_259001; clear HO_259002; clear BK247; clear BK248; clear BK258; clear HB; have HO_259001 := n0_; have HO_259002 := n1_; have BK247 := n2_; have BK248 := n3_; have BK258 := n4_; have HB := n5_; clear n0_ n1_ n2_ n3_ n4_ n5_; (try clear hb); (try clear hkp); (try clear hy0); (try clear hy1)) | ((with_reducible refine gate_callee (f := 27) rfl ?_); refine gL_ (some 56) Tryd.func27 #[.int .u8 x1_2, .int .u8 (rd l2 x41_2)] ?_; (with_reducible refine (states_Next.calls k2 x1_2 (rd l2 x41_2) t263 t264 _ A39.out).mono ?_); rintro e w46 ⟨rfl, hb⟩; refine ⟨_, rfl, ?_⟩; have n0_ := Aside0.mk (Kd.R_below (pL_ HO_259001.out) hb); have n1_ := Aside0.mk (Kd.R_below (pL_ HO_259002.out) hb); have n2_ := Aside0.mk (blk_below (pG_ BK247.out) hb); have n3_ := Aside0.mk (blk_below (pG_ BK248.out) hb); have n4_ := Aside0.mk (blk_below (pG_ BK258.out) hb); have n5_ := Aside0.mk (below_step (pH_ HB.out) hb); clear HO_259001; clear HO_259002; clear BK247; clear BK248; clear BK258; clear HB; have HO_259001 := n0_; have HO_259002 := n1_; have BK247 := n2_; have BK248 := n3_; have BK258 := n4_; have HB := n5_; clear n0_ n1_ n2_ n3_ n4_ n5_; (try clear hb); (try clear hb2); (try clear hk); (try clear hi)))
         go_roundg k2
         case measure => have := HJ4.out; have := HK2.out; omega
         case rel => exact ⟨(t263), (wrap64 (x41_2 + 1)), (x249000_2), (t261), (t262), (.slice Ao43 x259001_2.length co43), (.slice Ao44 x259002_2.length co44), (by first | rfl | (simp; done) | (simp [*]; done)), (by first | rfl | (simp; done) | (simp [*]; done)), H', ⟨by have := HJ4.out; have := HK2.out; omega⟩, ⟨pL_ HO_259001.out⟩, ⟨pL_ HO_259002.out⟩, ⟨pG_ BK247.out⟩, ⟨pG_ BK248.out⟩, ⟨pG_ BK258.out⟩, ⟨pH_ HB.out⟩⟩
        ·
         rw [if_neg c38] at H; have c38b0 : (t260 == 0) = false := beq_eq_false_iff_ne.mpr c38; have c38b1 : (t260 != 0) = true := bne_iff_ne.mpr c38; simp only [Option.some.injEq, Prod.mk.injEq] at H; obtain ⟨rfl, rfl, rfl, rfl, rfl⟩ := H; have p259 : 0 ≤ (x41_2 : Int) := of_decide_eq_true (by first | (with_reducible assumption) | assumption); have q259 : x41_2 < (l2.length : Int) := of_decide_eq_true (by first | (with_reducible assumption) | assumption); obtain ⟨ad259, e259, hx259_0⟩ := Kd.at_int HR2.out x41_2 p259 q259
         cases e259
         replace hx259_0 := (HB.out.cell (World.block_lt_of_cell? w _ hx259_0)).trans hx259_0; replace p259 := eq_true p259; replace q259 := eq_true q259; have hnb47 := NB258_247.out; have hnc47 := NB247_258.out; have hnb48 := NB258_248.out; have hnc48 := NB248_258.out; have hcz49_0 : wr.cell? ⟨gb258, 0, none⟩ = some (.int .i32 t251) := (blk_cell BK258.out 0).trans rfl; have hcz49_1 : wr.cell? ⟨gb258, 1, none⟩ = some (u259001) := (blk_cell BK258.out 1).trans rfl; have hcz49_2 : wr.cell? ⟨gb258, 2, none⟩ = some (u259002) := (blk_cell BK258.out 2).trans rfl; have hfz49_0 := blk_frozen BK258.out 0; have hfz49_1 := blk_frozen BK258.out 1; have hfz49_2 := blk_frozen BK258.out 2; obtain ⟨Ao50, co50, eo50⟩ := Kd.R_slice HO_259001.out
         subst eo50
         obtain ⟨Ao51, co51, eo51⟩ := Kd.R_slice HO_259002.out
         subst eo51
         go_wp2_with (first | ((with_reducible refine gate_callee (f := 33) rfl ?_); refine gL_ (some 48) Tryd.func33 #[.agg #[.int .i32 t251, .slice Ao50 x259001_2.length co50, .slice Ao51 x259002_2.length co51], .int .u8 x1_2, .int .u8 (rd l2 x41_2)] ?_; (with_reducible refine (adapt_change.calls k2 t251 (fun k_ => some k_ = (.slice Ao50 x259001_2.length co50 : Value).ownBlock) (.slice Ao50 x259001_2.length co50) x259001_2 (fun k_ => some k_ = (.slice Ao51 x259002_2.length co51 : Value).ownBlock) (.slice Ao51 x259002_2.length co51) x259002_2 x1_2 (rd l2 x41_2) t260 t261 t262 w _ ?side1 ?side2 ?side3 ?side4 ?side5 hT A37.out).mono ?_); (case side1 => repeat (first | (with_reducible first | exact HB.out | apply below_alloc | apply bN_ | apply below_drew1 | refine below_set ?_ GE247.out | refine below_set ?_ GE248.out | refine below_set ?_ GE258.out) | exact HB.out)); (case side2 => exact Kd.R_tight rfl HO_259001.out); (case side3 => exact fun k_ e_ => (HO_259001.out.1 k_ e_.symm)); (case side4 => exact Kd.R_tight rfl HO_259002.out); (case side5 => exact fun k_ e_ => (HO_259002.out.1 k_ e_.symm)); rintro e w52 ⟨rfl, hy0, hy1, hb, hkp⟩; refine ⟨_, rfl, ?_⟩; have n0_ := Aside0.mk (Kd.R_reok rfl hy0 (fun k_ e_ => HO_259001.out.1 k_ e_)); have n1_ := Aside0.mk (Kd.R_reok rfl hy1 (fun k_ e_ => HO_259002.out.1 k_ e_)); have n2_ := Aside0.mk (blk_kept (pG_ BK247.out) hkp (fun hs_ => Or.elim hs_ (fun e_ => (fun e_ => (Kd.R_ne HO_259001.out BK247.out (by decide)) e_) e_) (fun e_ => (fun e_ => (Kd.R_ne HO_259002.out BK247.out (by decide)) e_) e_))); have n3_ := Aside0.mk (blk_kept (pG_ BK248.out) hkp (fun hs_ => Or.elim hs_ (fun e_ => (fun e_ => (Kd.R_ne HO_259001.out BK248.out (by decide)) e_) e_) (fun e_ => (fun e_ => (Kd.R_ne HO_259002.out BK248.out (by decide)) e_) e_))); have n4_ := Aside0.mk (blk_kept (pG_ BK258.out) hkp (fun hs_ => Or.elim hs_ (fun e_ => (fun e_ => (Kd.R_ne HO_259001.out BK258.out (by decide)) e_) e_) (fun e_ => (fun e_ => (Kd.R_ne HO_259002.out BK258.out (by decide)) e_) e_))); have n5_ := Aside0.mk (hb); clear HO_259001; clear HO_259002; clear BK247; clear BK248; clear BK258; clear HB; have HO_259001 := n0_; have HO_259002 := n1_; have BK247 := n2_; have BK248 := n3_; have BK258 := n4_; have HB := n5_; clear n0_ n1_ n2_ n3_ n4_ n5_; (try clear hb); (try clear hkp); (try clear hy0); (try clear hy1); have hnb53 := NB248_247.out; have hnc53 := NB247_248.out; have hcz54_0 : w52.cell? ⟨gb248, 0, none⟩ = some (.int .i32 x249000_2) := (blk_cell BK248.out 0).trans rfl; have hcz54_1 : w52.cell? ⟨gb248, 1, none⟩ = some (.slice none 0 0) := (blk_cell BK248.out 1).trans rfl; have hcz54_2 : w52.cell? ⟨gb248, 2, none⟩ = some (.slice none 0 0) := (blk_cell BK248.out 2).trans rfl; have hfz54_0 := blk_frozen BK248.out 0; have hfz54_1 := blk_frozen BK248.out 1; have hfz54_2 := blk_frozen BK248.out 2))
         refine bodyPost_ret (results_ctt rfl _ _ gb248 24 #[.int .i32 0, .slice none 0 0, .slice none 0 0] (0, 0) _ rfl (by (with_reducible repeat (first | refine blk_drewN ?_ _ | refine blk_drew ?_ | refine blk_alloc ?_ _)); refine blk_put (cs := #[.int .i32 0, .slice none 0 0, .slice none 0 0]) ?_ 2 _ rfl; (with_reducible repeat (first | refine blk_drewN ?_ _ | refine blk_drew ?_ | refine blk_alloc ?_ _)); refine blk_put (cs := #[.int .i32 0, .slice none 0 0, .slice none 0 0]) ?_ 1 _ rfl; (with_reducible repeat (first | refine blk_drewN ?_ _ | refine blk_drew ?_ | refine blk_alloc ?_ _)); refine blk_put (cs := #[.int .i32 x249000_2, .slice none 0 0, .slice none 0 0]) ?_ 0 _ rfl; (with_reducible repeat (first | refine blk_drewN ?_ _ | refine blk_drew ?_ | refine blk_alloc ?_ _)); exact BK248.out) Tryd.underlying24 rfl (by kernel_rfl)) rfl ?_; exact ⟨_, _, by first | rfl | (simp [errW_none, errW_some] <;> rfl) | (simp [*, errW_none, errW_some] <;> rfl), by first | exact Kd.R_nil _ _ _ _ _ | exact Kd.N_nil _ _ _ _ _ | exact Kd.V_nil _ _ _ _ _ | exact Kd.Q_nil _ _ _ _ _ | exact Kd.S_nil _ _ _ _ _, by first | exact Kd.R_nil _ _ _ _ _ | exact Kd.N_nil _ _ _ _ _ | exact Kd.V_nil _ _ _ _ _ | exact Kd.Q_nil _ _ _ _ _ | exact Kd.S_nil _ _ _ _ _, pH_ HB.out⟩
       ·
        rw [if_neg c36] at H; exact absurd H (by simp)
      ·
       rw [if_neg c35] at H; exact absurd H (by simp)
     ·
      rw [if_neg c34] at H; have c34b0 : decide (x41_2 < (l2.length : Int)) = false := decide_eq_false c34; clear c34; simp only [Option.some.injEq, Prod.mk.injEq] at H; obtain ⟨rfl, rfl, rfl, rfl, rfl⟩ := H; have hnb55 := NB258_247.out; have hnc55 := NB247_258.out; have hnb56 := NB258_248.out; have hnc56 := NB248_258.out; have hcz57_0 : wr.cell? ⟨gb258, 0, none⟩ = some (.int .i32 t251) := (blk_cell BK258.out 0).trans rfl; have hcz57_1 : wr.cell? ⟨gb258, 1, none⟩ = some (u259001) := (blk_cell BK258.out 1).trans rfl; have hcz57_2 : wr.cell? ⟨gb258, 2, none⟩ = some (u259002) := (blk_cell BK258.out 2).trans rfl; have hfz57_0 := blk_frozen BK258.out 0; have hfz57_1 := blk_frozen BK258.out 1; have hfz57_2 := blk_frozen BK258.out 2; have hnb58 := NB248_247.out; have hnc58 := NB247_248.out; have hcz59_0 : wr.cell? ⟨gb248, 0, none⟩ = some (.int .i32 x249000_2) := (blk_cell BK248.out 0).trans rfl; have hcz59_1 : wr.cell? ⟨gb248, 1, none⟩ = some (.slice none 0 0) := (blk_cell BK248.out 1).trans rfl; have hcz59_2 : wr.cell? ⟨gb248, 2, none⟩ = some (.slice none 0 0) := (blk_cell BK248.out 2).trans rfl; have hfz59_0 := blk_frozen BK248.out 0; have hfz59_1 := blk_frozen BK248.out 1; have hfz59_2 := blk_frozen BK248.out 2; obtain ⟨Ao60, co60, eo60⟩ := Kd.R_slice HO_259001.out
      subst eo60
      obtain ⟨Ao61, co61, eo61⟩ := Kd.R_slice HO_259002.out
      subst eo61
      go_wp2
      refine bodyPost_ret (results_ctt rfl _ _ gb248 24 #[.int .i32 t251, .slice Ao60 x259001_2.length co60, .slice Ao61 x259002_2.length co61] (0, 0) _ rfl (by (with_reducible repeat (first | refine blk_drewN ?_ _ | refine blk_drew ?_ | refine blk_alloc ?_ _)); refine blk_put (cs := #[.int .i32 t251, .slice Ao60 x259001_2.length co60, .slice none 0 0]) ?_ 2 _ rfl; (with_reducible repeat (first | refine blk_drewN ?_ _ | refine blk_drew ?_ | refine blk_alloc ?_ _)); refine blk_put (cs := #[.int .i32 t251, .slice none 0 0, .slice none 0 0]) ?_ 1 _ rfl; (with_reducible repeat (first | refine blk_drewN ?_ _ | refine blk_drew ?_ | refine blk_alloc ?_ _)); refine blk_put (cs := #[.int .i32 x249000_2, .slice none 0 0, .slice none 0 0]) ?_ 0 _ rfl; (with_reducible repeat (first | refine blk_drewN ?_ _ | refine blk_drew ?_ | refine blk_alloc ?_ _)); exact BK248.out) Tryd.underlying24 rfl (by kernel_rfl)) rfl ?_; exact ⟨_, _, by first | rfl | (simp [errW_none, errW_some] <;> rfl) | (simp [*, errW_none, errW_some] <;> rfl), by (with_reducible repeat (first | apply rA_ | apply rN_ | apply rD_)); exact Kd.R_mono (Kd.R_far (p := ⟨gb248, 2, none⟩) (Kd.R_far (p := ⟨gb248, 1, none⟩) (Kd.R_far (p := ⟨gb248, 0, none⟩) (Kd.R_types HO_259001.out BK248.out (by decide)) (fun _ hk => hk.2) (.int .i32 t251)) (fun _ hk => hk.2) (.slice Ao60 x259001_2.length co60)) (fun _ hk => hk.2) (.slice Ao61 x259002_2.length co61)) (fun _ hk => hk.1), by (with_reducible repeat (first | apply rA_ | apply rN_ | apply rD_)); exact Kd.R_mono (Kd.R_far (p := ⟨gb248, 2, none⟩) (Kd.R_far (p := ⟨gb248, 1, none⟩) (Kd.R_far (p := ⟨gb248, 0, none⟩) (Kd.R_types HO_259002.out BK248.out (by decide)) (fun _ hk => hk.2) (.int .i32 t251)) (fun _ hk => hk.2) (.slice Ao60 x259001_2.length co60)) (fun _ hk => hk.2) (.slice Ao61 x259002_2.length co61)) (fun _ hk => hk.1), pH_ HB.out⟩

end Go.Proofs.YtmncppbhnjngkaaDoor.XAdaptNames
