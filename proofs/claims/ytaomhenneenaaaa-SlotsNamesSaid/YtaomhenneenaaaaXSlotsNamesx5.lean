-- Laid by a program of this session (wip/mkxprint.py, over the kit's print): Lean checks it.
import Derived.Test.YtaomhenneenaaaaXSlotsNamesx0
import Derived.Test.YtaomhenneenaaaaXSlotsNamesx2
import Derived.Test.YtaomhenneenaaaaXSlotsNamesx3
import Derived.Test.YtaomhenneenaaaaXSlotsNamesx4
namespace Go.Proofs.Ytaomhenneenaaaa.XSlotsNames
open List (setIfInBounds_toArray set_cons_zero set_cons_succ)
open Go.RowKit Go.Proofs.YtaomhenneenaaaaW.PrintWords Go.Proofs.YtaomhenneenaaaaW.PrintLast Go.Proofs.YtaomhenneenaaaaW.PrintMore
attribute [local go_sem] max2_int min2_int max_two min_two max_three min_three max_four min_four   -- for this text's walks alone
set_option linter.unusedVariables false
set_option linter.unusedSimpArgs false

attribute [local go_sem high] eqA76
/-! ### slots_Get: function 18 -/
def slots_Get.f (k : Nat) (a0_0 : Int) (l0_1 : List (S42)) (a1 : Int) (a2 : Int) : Option (Int × Int) := (slots_at.f k a0_0 l0_1 a1 a2).bind fun t157 => (if t157 = 0 then (if 0 ≤ a1 then (if a1 < (l0_1.length : Int) then (if 0 ≤ (wrap64 (a2 - 1)) then (if (wrap64 (a2 - 1)) < 15 then (some (rd (to40 (rd_T42 l0_1 a1).f1) (wrap64 (a2 - 1)), 0)) else (none)) else (none)) else (none)) else (none)) else (some (0, t157)))
theorem slots_Get.mono : ∀ a0 a1 a2 a3 k, LeO (slots_Get.f k a0 a1 a2 a3) (slots_Get.f (k + 1) a0 a1 a2 a3) := by
 intro a0 a1 a2 a3 k
 unfold slots_Get.f
 repeat' first
   | (with_reducible exact slots_at.mono _ _ _ _ _)
   | (with_reducible exact LeO.refl _)
   | (with_reducible exact LeO.none _)
   | (with_reducible refine LeO.ite ?_ ?_)
   | (with_reducible refine LeO.bind ?_ (fun _ => ?_))
   | exact slots_at.mono _ _ _ _ _
   | exact LeO.none _
   | refine LeO.ite ?_ ?_
   | refine LeO.bind ?_ (fun _ => ?_)
set_option maxHeartbeats 8000000 in
set_option maxRecDepth 100000 in
theorem slots_Get.calls (k : Nat) (a0_0 : Int) (A0_1 : Option Addr) (c0_1 : Nat) (l0_1 : List (S42)) (a1 : Int) (a2 : Int) (r1 : Int) (r2 : Int) (w : World) (hr0_1 : Kd.C k42 w A0_1 l0_1.length l0_1) (hc0_1 : l0_1.length ≤ c0_1) (h : slots_Get.f k a0_0 l0_1 a1 a2 = some (r1, r2)) :
  Calls Try.prog 18 #[.agg #[.int .i64 a0_0, .slice A0_1 l0_1.length c0_1], .int .i64 a1, .int .i64 a2] w fun e w' => e = .returned (.tuple #[.int .u8 r1, .int .i64 r2]) ∧ Below w.heap.size w w' := by
 have hu24 := Try.underlying24; have HR0_1 := Aside0.mk hr0_1; have HC0_1 := Aside0.mk hc0_1; clear hr0_1 hc0_1; have HB := Aside0.mk (Below.refl w.heap.size w); have H : ((slots_at.f k a0_0 l0_1 a1 a2).bind fun t157 => (if t157 = 0 then (if 0 ≤ a1 then (if a1 < (l0_1.length : Int) then (if 0 ≤ (wrap64 (a2 - 1)) then (if (wrap64 (a2 - 1)) < 15 then (some (rd (to40 (rd_T42 l0_1 a1).f1) (wrap64 (a2 - 1)), 0)) else (none)) else (none)) else (none)) else (none)) else (some (0, t157)))) = some (r1, r2) := h; clear h; replace H := Option.bind_eq_some_iff.mp H; obtain ⟨t157, A40, H⟩ := H; replace H : (if t157 = 0 then (if 0 ≤ a1 then (if a1 < (l0_1.length : Int) then (if 0 ≤ (wrap64 (a2 - 1)) then (if (wrap64 (a2 - 1)) < 15 then (some (rd (to40 (rd_T42 l0_1 a1).f1) (wrap64 (a2 - 1)), 0)) else (none)) else (none)) else (none)) else (none)) else (some (0, t157))) = some (r1, r2) := H; have A4 := Aside0.mk A40; clear A40
 by_cases c5 : t157 = 0
 ·
  rw [if_pos c5] at H; have c5b0 : (t157 == 0) = true := beq_iff_eq.mpr c5; have c5b1 : (t157 != 0) = false := bne_eq_false_iff_eq.mpr c5; clear c5
  by_cases c6 : 0 ≤ a1
  ·
   rw [if_pos c6] at H; have c6b0 : decide (0 ≤ a1) = true := decide_eq_true c6; clear c6
   by_cases c7 : a1 < (l0_1.length : Int)
   ·
    rw [if_pos c7] at H; have c7b0 : decide (a1 < (l0_1.length : Int)) = true := decide_eq_true c7; clear c7; obtain ⟨ji8, hji8⟩ : ∃ j_ : Int, (wrap64 (a2 - 1)) = j_ := ⟨_, rfl⟩
    replace H : (if 0 ≤ (ji8) then (if (ji8) < 15 then (some (rd (to40 (rd_T42 l0_1 a1).f1) (ji8), 0)) else (none)) else (none)) = some (r1, r2) := by first | (rw [hji8] at H; exact H) | (simp only [hji8] at H ⊢; exact H)
    (try rw [hji8] at A4); have hji8w : (IntKind.i64.wrap (a2 - 1)) = ji8 := (i64_w _).trans hji8
    by_cases c9 : 0 ≤ (ji8)
    ·
     rw [if_pos c9] at H; have c9b0 : decide (0 ≤ (ji8)) = true := decide_eq_true c9; clear c9
     by_cases c10 : (ji8) < 15
     ·
      rw [if_pos c10] at H; have c10b0 : decide ((ji8) < 15) = true := decide_eq_true c10; clear c10; simp only [Option.some.injEq, Prod.mk.injEq] at H; obtain ⟨rfl, rfl⟩ := H
      go_enter Try.func18, Try.ntmps18
      go_wp2_with (first | ((with_reducible refine gate_dst (N := 3) rfl ?_); refine box_event ?hg (N := 3) ?hd (cs := #[.int .i64 a0_0, .slice A0_1 l0_1.length c0_1]) (t := 24) ?hr ?_; (case hd => rfl); (case hg => rfl); (case hr => first | (go_simp; done) | (go_simp; rfl)); intro gb156 hg w11 hbox hb; have n0_ := Aside0.mk (below_step (pH_ HB.out) hb); have n1_ := Aside0.mk (hbox); have n2_ := Aside0.mk ((by rw [hg]; exact (below_size (pH_ HB.out)) : w.heap.size ≤ gb156)); have n3_ := Aside0.mk ((by rw [hg]; exact (below_size (pH_ HB.out)) : w.heap.size ≤ gb156)); clear HB; have HB := n0_; have BK156 := n1_; have GW156 := n2_; have GE156 := n3_; clear n0_ n1_ n2_ n3_; clear hb hbox hg; have hcz12_0 : w11.cell? ⟨gb156, 0, none⟩ = some (.int .i64 a0_0) := (blk_cell BK156.out 0).trans rfl; have hcz12_1 : w11.cell? ⟨gb156, 1, none⟩ = some (.slice A0_1 l0_1.length c0_1) := (blk_cell BK156.out 1).trans rfl; have hfz12_0 := blk_frozen BK156.out 0; have hfz12_1 := blk_frozen BK156.out 1) | ((with_reducible refine gate_callee (f := 41) rfl ?_); refine gL_ (some 12) Try.func41 #[.agg #[.int .i64 a0_0, .slice A0_1 l0_1.length c0_1], .int .i64 a1, .int .i64 a2] ?_; (with_reducible refine (slots_at.calls k a0_0 _ _ l0_1 a1 a2 t157 _ ?side1 ?side2 A4.out).mono ?_); (case side1 => repeat (first | exact (Kd.C_below HR0_1.out HB.out) | (with_reducible refine Kd.C_alloc ?_ _) | (with_reducible refine Kd.C_drewN ?_ _) | (with_reducible refine Kd.C_drew ?_))); (case side2 => exact HC0_1.out); rintro e w13 ⟨rfl, hb⟩; refine ⟨_, rfl, ?_⟩; have n0_ := Aside0.mk (blk_below (pG_ BK156.out) hb); have n1_ := Aside0.mk (below_step (pH_ HB.out) hb); clear BK156; clear HB; have BK156 := n0_; have HB := n1_; clear n0_ n1_; (try clear hb); have hcz14_0 : w13.cell? ⟨gb156, 0, none⟩ = some (.int .i64 a0_0) := (blk_cell BK156.out 0).trans rfl; have hcz14_1 : w13.cell? ⟨gb156, 1, none⟩ = some (.slice A0_1 l0_1.length c0_1) := (blk_cell BK156.out 1).trans rfl; have hfz14_0 := blk_frozen BK156.out 0; have hfz14_1 := blk_frozen BK156.out 1; have p158 : 0 ≤ (a1 : Int) := of_decide_eq_true (by first | (with_reducible assumption) | assumption); have q158 : a1 < (l0_1.length : Int) := of_decide_eq_true (by first | (with_reducible assumption) | assumption); obtain ⟨ad158, e158, hx158_0, hx158_1, hx158_2, hx158_3, hx158_4, hx158_5, hx158_6, hx158_7, hx158_8, hx158_9, hx158_10, hx158_11, hx158_12, hx158_13, hx158_14, hx158_15⟩ := at_T42 HR0_1.out a1 p158 q158; cases e158; replace hx158_0 := (HB.out.cell (World.block_lt_of_cell? w _ hx158_0)).trans hx158_0; replace hx158_1 := (HB.out.cell (World.block_lt_of_cell? w _ hx158_1)).trans hx158_1; replace hx158_2 := (HB.out.cell (World.block_lt_of_cell? w _ hx158_2)).trans hx158_2; replace hx158_3 := (HB.out.cell (World.block_lt_of_cell? w _ hx158_3)).trans hx158_3; replace hx158_4 := (HB.out.cell (World.block_lt_of_cell? w _ hx158_4)).trans hx158_4; replace hx158_5 := (HB.out.cell (World.block_lt_of_cell? w _ hx158_5)).trans hx158_5; replace hx158_6 := (HB.out.cell (World.block_lt_of_cell? w _ hx158_6)).trans hx158_6; replace hx158_7 := (HB.out.cell (World.block_lt_of_cell? w _ hx158_7)).trans hx158_7; replace hx158_8 := (HB.out.cell (World.block_lt_of_cell? w _ hx158_8)).trans hx158_8; replace hx158_9 := (HB.out.cell (World.block_lt_of_cell? w _ hx158_9)).trans hx158_9; replace hx158_10 := (HB.out.cell (World.block_lt_of_cell? w _ hx158_10)).trans hx158_10; replace hx158_11 := (HB.out.cell (World.block_lt_of_cell? w _ hx158_11)).trans hx158_11; replace hx158_12 := (HB.out.cell (World.block_lt_of_cell? w _ hx158_12)).trans hx158_12; replace hx158_13 := (HB.out.cell (World.block_lt_of_cell? w _ hx158_13)).trans hx158_13; replace hx158_14 := (HB.out.cell (World.block_lt_of_cell? w _ hx158_14)).trans hx158_14; replace hx158_15 := (HB.out.cell (World.block_lt_of_cell? w _ hx158_15)).trans hx158_15; replace p158 := eq_true p158; replace q158 := eq_true q158; have hs15 := sel_cells_ (k := .u8) (s := 1) (n := 15) (to40 (rd_T42 l0_1 a1).f1) rfl (by intro i_ h_; match i_, h_ with | 0, _ => exact hx158_1 | 1, _ => exact hx158_2 | 2, _ => exact hx158_3 | 3, _ => exact hx158_4 | 4, _ => exact hx158_5 | 5, _ => exact hx158_6 | 6, _ => exact hx158_7 | 7, _ => exact hx158_8 | 8, _ => exact hx158_9 | 9, _ => exact hx158_10 | 10, _ => exact hx158_11 | 11, _ => exact hx158_12 | 12, _ => exact hx158_13 | 13, _ => exact hx158_14 | 14, _ => exact hx158_15) ((ji8) : Int) (of_decide_eq_true (by first | (with_reducible assumption) | assumption)) (of_decide_eq_true (by first | (with_reducible assumption) | assumption)); have pa15 : 0 ≤ ((ji8) : Int) := of_decide_eq_true (by first | (with_reducible assumption) | assumption); have qa15 : ((ji8) : Int) < 15 := of_decide_eq_true (by first | (with_reducible assumption) | assumption); replace pa15 := eq_true pa15; replace qa15 := eq_true qa15))
      go_ret2
      exact ⟨by first | rfl | (simp [errW_none, errW_some] <;> rfl) | (simp only [← hji8]; first | rfl | (simp [errW_none, errW_some] <;> rfl)) | (simp [*, errW_none, errW_some] <;> rfl), pH_ HB.out⟩
     ·
      rw [if_neg c10] at H; exact absurd H (by simp)
    ·
     rw [if_neg c9] at H; exact absurd H (by simp)
   ·
    rw [if_neg c7] at H; exact absurd H (by simp)
  ·
   rw [if_neg c6] at H; exact absurd H (by simp)
 ·
  rw [if_neg c5] at H; have c5b0 : (t157 == 0) = false := beq_eq_false_iff_ne.mpr c5; have c5b1 : (t157 != 0) = true := bne_iff_ne.mpr c5; simp only [Option.some.injEq, Prod.mk.injEq] at H; obtain ⟨rfl, rfl⟩ := H
  go_enter Try.func18, Try.ntmps18
  go_wp2_with (first | ((with_reducible refine gate_dst (N := 3) rfl ?_); refine box_event ?hg (N := 3) ?hd (cs := #[.int .i64 a0_0, .slice A0_1 l0_1.length c0_1]) (t := 24) ?hr ?_; (case hd => rfl); (case hg => rfl); (case hr => first | (go_simp; done) | (go_simp; rfl)); intro gb156 hg w16 hbox hb; have n0_ := Aside0.mk (below_step (pH_ HB.out) hb); have n1_ := Aside0.mk (hbox); have n2_ := Aside0.mk ((by rw [hg]; exact (below_size (pH_ HB.out)) : w.heap.size ≤ gb156)); have n3_ := Aside0.mk ((by rw [hg]; exact (below_size (pH_ HB.out)) : w.heap.size ≤ gb156)); clear HB; have HB := n0_; have BK156 := n1_; have GW156 := n2_; have GE156 := n3_; clear n0_ n1_ n2_ n3_; clear hb hbox hg; have hcz17_0 : w16.cell? ⟨gb156, 0, none⟩ = some (.int .i64 a0_0) := (blk_cell BK156.out 0).trans rfl; have hcz17_1 : w16.cell? ⟨gb156, 1, none⟩ = some (.slice A0_1 l0_1.length c0_1) := (blk_cell BK156.out 1).trans rfl; have hfz17_0 := blk_frozen BK156.out 0; have hfz17_1 := blk_frozen BK156.out 1) | ((with_reducible refine gate_callee (f := 41) rfl ?_); refine gL_ (some 12) Try.func41 #[.agg #[.int .i64 a0_0, .slice A0_1 l0_1.length c0_1], .int .i64 a1, .int .i64 a2] ?_; (with_reducible refine (slots_at.calls k a0_0 _ _ l0_1 a1 a2 t157 _ ?side1 ?side2 A4.out).mono ?_); (case side1 => repeat (first | exact (Kd.C_below HR0_1.out HB.out) | (with_reducible refine Kd.C_alloc ?_ _) | (with_reducible refine Kd.C_drewN ?_ _) | (with_reducible refine Kd.C_drew ?_))); (case side2 => exact HC0_1.out); rintro e w18 ⟨rfl, hb⟩; refine ⟨_, rfl, ?_⟩; have n0_ := Aside0.mk (blk_below (pG_ BK156.out) hb); have n1_ := Aside0.mk (below_step (pH_ HB.out) hb); clear BK156; clear HB; have BK156 := n0_; have HB := n1_; clear n0_ n1_; (try clear hb)))
  go_ret2
  exact ⟨by first | rfl | (simp [errW_none, errW_some] <;> rfl) | (simp [*, errW_none, errW_some] <;> rfl), pH_ HB.out⟩

/-! ### slots_Set: function 20 -/
def slots_Set.f (k : Nat) (a0_0 : Int) (l0_1 : List (S42)) (a1 : Int) (a2 : Int) (a3 : Int) : Option (Int × (List (S42)) × Int) := (slots_at.f k a0_0 l0_1 a1 a2).bind fun t161 => (if t161 = 0 then (if a3 ≥ 193 then (some (0, ([] : List (S42)), 2)) else ((slices_Clone_api_Slot_api_Slot.f l0_1).bind fun t162 => (if 0 ≤ a1 then (if a1 < (t162.length : Int) then (if 0 ≤ (wrap64 (a2 - 1)) then (if (wrap64 (a2 - 1)) < 15 then (some (a0_0, (t162.set (a1 : Int).toNat (⟨(rd_T42 t162 a1).f0, upd40 ((rd_T42 t162 a1).f1) (wrap64 (a2 - 1)) a3⟩ : S42)), 0)) else (none)) else (none)) else (none)) else (none)))) else (some (0, ([] : List (S42)), t161)))
theorem slots_Set.mono : ∀ a0 a1 a2 a3 a4 k, LeO (slots_Set.f k a0 a1 a2 a3 a4) (slots_Set.f (k + 1) a0 a1 a2 a3 a4) := by
 intro a0 a1 a2 a3 a4 k
 unfold slots_Set.f
 repeat' first
   | (with_reducible exact slots_at.mono _ _ _ _ _)
   | (with_reducible exact LeO.refl _)
   | (with_reducible exact LeO.none _)
   | (with_reducible refine LeO.ite ?_ ?_)
   | (with_reducible refine LeO.bind ?_ (fun _ => ?_))
   | exact slots_at.mono _ _ _ _ _
   | exact LeO.none _
   | refine LeO.ite ?_ ?_
   | refine LeO.bind ?_ (fun _ => ?_)
def slots_Set.T6 : Bool × List (List Nat × List Nat) := (true, [([], []), ([0], [0]), ([], []), ([2], [2]), ([3], [3]), ([1, 4], [1, 4]), ([], []), ([6, 5, 4, 0, 1, 2, 3, 4, 5, 6], [5, 6])])
def slots_Set.B6 : List Nat := [0, 1, 0, 4, 12, 31, 0, 127]
theorem slots_Set.tab6 : rtab .any (opsOf Try.f20 6) = slots_Set.T6 := by kernel_rfl
theorem slots_Set.bits6 : waitsOk slots_Set.T6.2 slots_Set.B6 = true := by kernel_rfl
set_option maxHeartbeats 8000000 in
set_option maxRecDepth 100000 in
theorem slots_Set.calls (k : Nat) (a0_0 : Int) (A0_1 : Option Addr) (c0_1 : Nat) (l0_1 : List (S42)) (a1 : Int) (a2 : Int) (a3 : Int) (r1 : Int) (r2 : List (S42)) (r3 : Int) (w : World) (hr0_1 : Kd.C k42 w A0_1 l0_1.length l0_1) (hc0_1 : l0_1.length ≤ c0_1) (h : slots_Set.f k a0_0 l0_1 a1 a2 a3 = some (r1, r2, r3)) :
  Calls Try.prog 20 #[.agg #[.int .i64 a0_0, .slice A0_1 l0_1.length c0_1], .int .i64 a1, .int .i64 a2, .int .u8 a3] w fun e w' => ∃ v1_ : Value, e = .returned (.tuple #[.agg #[.int .i64 r1, v1_], .int .i64 r3]) ∧ Kd.R k42 42 w' w.heap.size (fun _ => True) v1_ r2 ∧ Below w.heap.size w w' := by
 have hu24 := Try.underlying24; have HR0_1 := Aside0.mk hr0_1; have HC0_1 := Aside0.mk hc0_1; clear hr0_1 hc0_1; have HB := Aside0.mk (Below.refl w.heap.size w); have H : ((slots_at.f k a0_0 l0_1 a1 a2).bind fun t161 => (if t161 = 0 then (if a3 ≥ 193 then (some (0, ([] : List (S42)), 2)) else ((slices_Clone_api_Slot_api_Slot.f l0_1).bind fun t162 => (if 0 ≤ a1 then (if a1 < (t162.length : Int) then (if 0 ≤ (wrap64 (a2 - 1)) then (if (wrap64 (a2 - 1)) < 15 then (some (a0_0, (t162.set (a1 : Int).toNat (⟨(rd_T42 t162 a1).f0, upd40 ((rd_T42 t162 a1).f1) (wrap64 (a2 - 1)) a3⟩ : S42)), 0)) else (none)) else (none)) else (none)) else (none)))) else (some (0, ([] : List (S42)), t161)))) = some (r1, r2, r3) := h; clear h; replace H := Option.bind_eq_some_iff.mp H; obtain ⟨t161, A50, H⟩ := H; replace H : (if t161 = 0 then (if a3 ≥ 193 then (some (0, ([] : List (S42)), 2)) else ((slices_Clone_api_Slot_api_Slot.f l0_1).bind fun t162 => (if 0 ≤ a1 then (if a1 < (t162.length : Int) then (if 0 ≤ (wrap64 (a2 - 1)) then (if (wrap64 (a2 - 1)) < 15 then (some (a0_0, (t162.set (a1 : Int).toNat (⟨(rd_T42 t162 a1).f0, upd40 ((rd_T42 t162 a1).f1) (wrap64 (a2 - 1)) a3⟩ : S42)), 0)) else (none)) else (none)) else (none)) else (none)))) else (some (0, ([] : List (S42)), t161))) = some (r1, r2, r3) := H; have A5 := Aside0.mk A50; clear A50
 by_cases c6 : t161 = 0
 ·
  rw [if_pos c6] at H; have c6b0 : (t161 == 0) = true := beq_iff_eq.mpr c6; have c6b1 : (t161 != 0) = false := bne_eq_false_iff_eq.mpr c6; clear c6
  by_cases c7 : a3 ≥ 193
  ·
   rw [if_pos c7] at H; have c7b0 : decide (193 ≤ a3) = true := decide_eq_true c7; clear c7; simp only [Option.some.injEq, Prod.mk.injEq] at H; obtain ⟨rfl, rfl, rfl⟩ := H
   go_enter Try.func20, Try.ntmps20
   go_wp2_with (first | ((with_reducible refine gate_dst (N := 4) rfl ?_); refine box_event ?hg (N := 4) ?hd (cs := #[.int .i64 a0_0, .slice A0_1 l0_1.length c0_1]) (t := 24) ?hr ?_; (case hd => rfl); (case hg => rfl); (case hr => first | (go_simp; done) | (go_simp; rfl)); intro gb159 hg w8 hbox hb; have n0_ := Aside0.mk (below_step (pH_ HB.out) hb); have n1_ := Aside0.mk (hbox); have n2_ := Aside0.mk ((by rw [hg]; exact (below_size (pH_ HB.out)) : w.heap.size ≤ gb159)); have n3_ := Aside0.mk ((by rw [hg]; exact (below_size (pH_ HB.out)) : w.heap.size ≤ gb159)); clear HB; have HB := n0_; have BK159 := n1_; have GW159 := n2_; have GE159 := n3_; clear n0_ n1_ n2_ n3_; clear hb hbox hg) | ((with_reducible refine gate_dst (N := 8) rfl ?_); refine box_event ?hg (N := 8) ?hd (cs := #[.int .i64 0, .slice none 0 0]) (t := 24) ?hr ?_; (case hd => rfl); (case hg => rfl); (case hr => first | (go_simp; done) | (go_simp; rfl)); intro gb160 hg w9 hbox hb; have n0_ := Aside0.mk (blk_below (pG_ BK159.out) hb); have n1_ := Aside0.mk (below_step (pH_ HB.out) hb); have n2_ := Aside0.mk (hbox); have n3_ := Aside0.mk ((by rw [hg]; exact (below_size (pH_ HB.out)) : w.heap.size ≤ gb160)); have n4_ := Aside0.mk ((by rw [hg]; exact (below_size (pH_ HB.out)) : w.heap.size ≤ gb160)); have n5_ := Aside0.mk ((by rw [hg]; exact Nat.ne_of_lt (blk_lt (pG_ BK159.out)) : gb159 ≠ gb160)); have n6_ := Aside0.mk ((by rw [hg]; exact Nat.ne_of_gt (blk_lt (pG_ BK159.out)) : gb160 ≠ gb159)); clear BK159; clear HB; have BK159 := n0_; have HB := n1_; have BK160 := n2_; have GW160 := n3_; have GE160 := n4_; have NB159_160 := n5_; have NB160_159 := n6_; clear n0_ n1_ n2_ n3_ n4_ n5_ n6_; clear hb hbox hg; have hnb10 := NB159_160.out; have hnc10 := NB160_159.out; have hcz11_0 : w9.cell? ⟨gb159, 0, none⟩ = some (.int .i64 a0_0) := (blk_cell BK159.out 0).trans rfl; have hcz11_1 : w9.cell? ⟨gb159, 1, none⟩ = some (.slice A0_1 l0_1.length c0_1) := (blk_cell BK159.out 1).trans rfl; have hfz11_0 := blk_frozen BK159.out 0; have hfz11_1 := blk_frozen BK159.out 1) | ((with_reducible refine gate_callee (f := 41) rfl ?_); refine gL_ (some 15) Try.func41 #[.agg #[.int .i64 a0_0, .slice A0_1 l0_1.length c0_1], .int .i64 a1, .int .i64 a2] ?_; (with_reducible refine (slots_at.calls k a0_0 _ _ l0_1 a1 a2 t161 _ ?side1 ?side2 A5.out).mono ?_); (case side1 => repeat (first | exact (Kd.C_below HR0_1.out HB.out) | (with_reducible refine Kd.C_alloc ?_ _) | (with_reducible refine Kd.C_drewN ?_ _) | (with_reducible refine Kd.C_drew ?_))); (case side2 => exact HC0_1.out); rintro e w12 ⟨rfl, hb⟩; refine ⟨_, rfl, ?_⟩; have n0_ := Aside0.mk (blk_below (pG_ BK159.out) hb); have n1_ := Aside0.mk (blk_below (pG_ BK160.out) hb); have n2_ := Aside0.mk (below_step (pH_ HB.out) hb); clear BK159; clear BK160; clear HB; have BK159 := n0_; have BK160 := n1_; have HB := n2_; clear n0_ n1_ n2_; (try clear hb); have hcz13_0 : w12.cell? ⟨gb160, 0, none⟩ = some (.int .i64 0) := (blk_cell BK160.out 0).trans rfl; have hcz13_1 : w12.cell? ⟨gb160, 1, none⟩ = some (.slice none 0 0) := (blk_cell BK160.out 1).trans rfl; have hfz13_0 := blk_frozen BK160.out 0; have hfz13_1 := blk_frozen BK160.out 1))
   refine bodyPost_ret (results_ct rfl _ _ gb160 24 #[.int .i64 0, .slice none 0 0] (0, 0) _ rfl (by (with_reducible repeat (first | refine blk_drewN ?_ _ | refine blk_drew ?_ | refine blk_alloc ?_ _)); refine blk_put (cs := #[.int .i64 0, .slice none 0 0]) ?_ 1 _ rfl; (with_reducible repeat (first | refine blk_drewN ?_ _ | refine blk_drew ?_ | refine blk_alloc ?_ _)); refine blk_put (cs := #[.int .i64 0, .slice none 0 0]) ?_ 0 _ rfl; (with_reducible repeat (first | refine blk_drewN ?_ _ | refine blk_drew ?_ | refine blk_alloc ?_ _)); exact BK160.out) Try.underlying24 rfl (by kernel_rfl)) rfl ?_; exact ⟨_, by first | rfl | (simp [errW_none, errW_some] <;> rfl) | (simp [*, errW_none, errW_some] <;> rfl), by first | exact Kd.R_nil _ _ _ _ _ | exact Kd.N_nil _ _ _ _ _ | exact Kd.V_nil _ _ _ _ _ | exact Kd.Q_nil _ _ _ _ _ | exact Kd.S_nil _ _ _ _ _, pH_ HB.out⟩
  ·
   rw [if_neg c7] at H; have c7b0 : decide (193 ≤ a3) = false := decide_eq_false c7; clear c7; replace H := Option.bind_eq_some_iff.mp H; obtain ⟨t162, A140, H⟩ := H; replace H : (if 0 ≤ a1 then (if a1 < (t162.length : Int) then (if 0 ≤ (wrap64 (a2 - 1)) then (if (wrap64 (a2 - 1)) < 15 then (some (a0_0, (t162.set (a1 : Int).toNat (⟨(rd_T42 t162 a1).f0, upd40 ((rd_T42 t162 a1).f1) (wrap64 (a2 - 1)) a3⟩ : S42)), 0)) else (none)) else (none)) else (none)) else (none)) = some (r1, r2, r3) := H; have A14 := Aside0.mk A140; clear A140
   by_cases c15 : 0 ≤ a1
   ·
    rw [if_pos c15] at H; have c15b0 : decide (0 ≤ a1) = true := decide_eq_true c15; clear c15
    by_cases c16 : a1 < (t162.length : Int)
    ·
     rw [if_pos c16] at H; have c16b0 : decide (a1 < (t162.length : Int)) = true := decide_eq_true c16; clear c16; obtain ⟨ji18, hji18⟩ : ∃ j_ : Int, (wrap64 (a2 - 1)) = j_ := ⟨_, rfl⟩
     replace H : (if 0 ≤ (ji18) then (if (ji18) < 15 then (some (a0_0, (t162.set (a1 : Int).toNat (⟨(rd_T42 t162 a1).f0, upd40 ((rd_T42 t162 a1).f1) (ji18) a3⟩ : S42)), 0)) else (none)) else (none)) = some (r1, r2, r3) := by first | (rw [hji18] at H; exact H) | (simp only [hji18] at H ⊢; exact H)
     (try rw [hji18] at A5); (try rw [hji18] at A14); have hji18w : (IntKind.i64.wrap (a2 - 1)) = ji18 := (i64_w _).trans hji18
     by_cases c19 : 0 ≤ (ji18)
     ·
      rw [if_pos c19] at H; have c19b0 : decide (0 ≤ (ji18)) = true := decide_eq_true c19; clear c19
      by_cases c20 : (ji18) < 15
      ·
       rw [if_pos c20] at H; have c20b0 : decide ((ji18) < 15) = true := decide_eq_true c20; clear c20; obtain ⟨y166, hy166⟩ : ∃ y_ : List (S42), y_ = (t162.set (a1 : Int).toNat (⟨(rd_T42 t162 a1).f0, upd40 ((rd_T42 t162 a1).f1) (ji18) a3⟩ : S42)) := ⟨_, rfl⟩
       replace H : (some (a0_0, y166, 0)) = some (r1, r2, r3) := by first | (rw [hy166]; with_reducible exact H) | (have H2_ := (Option.bind_some _ _).symm.trans H; rw [hy166]; with_reducible exact H2_) | (have H2_ := (Option.bind_some _ _).symm.trans H; with_reducible exact H2_) | with_reducible exact H | (rw [hy166]; exact H) | exact H
       have Ny166 := Aside0.mk hy166; clear hy166; simp only [Option.some.injEq, Prod.mk.injEq] at H; obtain ⟨rfl, rfl, rfl⟩ := H
       go_enter Try.func20, Try.ntmps20
       try go_wp2_with (first | ((with_reducible refine gate_dst (N := 4) rfl ?_); refine box_event ?hg (N := 4) ?hd (cs := #[.int .i64 a0_0, .slice A0_1 l0_1.length c0_1]) (t := 24) ?hr ?_; (case hd => rfl); (case hg => rfl); (case hr => first | (go_simp; done) | (go_simp; rfl)); intro gb159 hg w21 hbox hb; have n0_ := Aside0.mk (below_step (pH_ HB.out) hb); have n1_ := Aside0.mk (hbox); have n2_ := Aside0.mk ((by rw [hg]; exact (below_size (pH_ HB.out)) : w.heap.size ≤ gb159)); have n3_ := Aside0.mk ((by rw [hg]; exact (below_size (pH_ HB.out)) : w.heap.size ≤ gb159)); clear HB; have HB := n0_; have BK159 := n1_; have GW159 := n2_; have GE159 := n3_; clear n0_ n1_ n2_ n3_; clear hb hbox hg) | ((with_reducible refine gate_dst (N := 8) rfl ?_); refine box_event ?hg (N := 8) ?hd (cs := #[.int .i64 0, .slice none 0 0]) (t := 24) ?hr ?_; (case hd => rfl); (case hg => rfl); (case hr => first | (go_simp; done) | (go_simp; rfl)); intro gb160 hg w22 hbox hb; have n0_ := Aside0.mk (blk_below (pG_ BK159.out) hb); have n1_ := Aside0.mk (below_step (pH_ HB.out) hb); have n2_ := Aside0.mk (hbox); have n3_ := Aside0.mk ((by rw [hg]; exact (below_size (pH_ HB.out)) : w.heap.size ≤ gb160)); have n4_ := Aside0.mk ((by rw [hg]; exact (below_size (pH_ HB.out)) : w.heap.size ≤ gb160)); have n5_ := Aside0.mk ((by rw [hg]; exact Nat.ne_of_lt (blk_lt (pG_ BK159.out)) : gb159 ≠ gb160)); have n6_ := Aside0.mk ((by rw [hg]; exact Nat.ne_of_gt (blk_lt (pG_ BK159.out)) : gb160 ≠ gb159)); clear BK159; clear HB; have BK159 := n0_; have HB := n1_; have BK160 := n2_; have GW160 := n3_; have GE160 := n4_; have NB159_160 := n5_; have NB160_159 := n6_; clear n0_ n1_ n2_ n3_ n4_ n5_ n6_; clear hb hbox hg; have hnb23 := NB159_160.out; have hnc23 := NB160_159.out; have hcz24_0 : w22.cell? ⟨gb159, 0, none⟩ = some (.int .i64 a0_0) := (blk_cell BK159.out 0).trans rfl; have hcz24_1 : w22.cell? ⟨gb159, 1, none⟩ = some (.slice A0_1 l0_1.length c0_1) := (blk_cell BK159.out 1).trans rfl; have hfz24_0 := blk_frozen BK159.out 0; have hfz24_1 := blk_frozen BK159.out 1) | ((with_reducible refine gate_callee (f := 41) rfl ?_); refine gL_ (some 15) Try.func41 #[.agg #[.int .i64 a0_0, .slice A0_1 l0_1.length c0_1], .int .i64 a1, .int .i64 a2] ?_; (with_reducible refine (slots_at.calls k a0_0 _ _ l0_1 a1 a2 t161 _ ?side1 ?side2 A5.out).mono ?_); (case side1 => repeat (first | exact (Kd.C_below HR0_1.out HB.out) | (with_reducible refine Kd.C_alloc ?_ _) | (with_reducible refine Kd.C_drewN ?_ _) | (with_reducible refine Kd.C_drew ?_))); (case side2 => exact HC0_1.out); rintro e w25 ⟨rfl, hb⟩; refine ⟨_, rfl, ?_⟩; have n0_ := Aside0.mk (blk_below (pG_ BK159.out) hb); have n1_ := Aside0.mk (blk_below (pG_ BK160.out) hb); have n2_ := Aside0.mk (below_step (pH_ HB.out) hb); clear BK159; clear BK160; clear HB; have BK159 := n0_; have BK160 := n1_; have HB := n2_; clear n0_ n1_ n2_; (try clear hb)))
       have n0_ := Aside0.mk (blk_drew BK159.out); have n1_ := Aside0.mk (blk_drew BK160.out); have n2_ := Aside0.mk (below_drew1 HB.out); clear BK159; clear BK160; clear HB; have BK159 := n0_; have BK160 := n1_; have HB := n2_; clear n0_ n1_ n2_; refine start_ (n := 8) (S := fun w' => w'.cell? ⟨gb159, 0, none⟩ = some (.int .i64 a0_0) ∧ w'.cell? ⟨gb159, 1, none⟩ = some (.slice A0_1 l0_1.length c0_1)) (ds := []) #[f_, f_, f_, f_, f_, f_, f_, f_] (by kernel_rfl) rfl rfl ⟨(blk_cell BK159.out 0).trans rfl, (blk_cell BK159.out 1).trans rfl⟩ (fun hHeld => ?_); refine with_tabW slots_Set.tab6 slots_Set.bits6 (fun HT_ HW_ => ?_)
       generalize w25.drew = w26 at BK159 BK160 HB hHeld ⊢
       refine pure_ (i := 0) (N := some 23) (v := ?_) (a' := ?_) #[t_, f_, f_, f_, f_, f_, f_, f_] rfl rfl (any_of HT_.out (by kernel_rfl)) (fun _ _ _ h => h) (Or.inl ⟨by rfl, ?_⟩) ?_ ?_; rotate_left
       ·
        intro w'; go_simp
        with_reducible rfl
       rotate_left
       ·
        simp only [Act.put, sA_, sZ_, sS_, i64_w, i32_w]; rfl
       refine pure_ (i := 2) (N := some 25) (v := ?_) (a' := ?_) #[t_, f_, t_, f_, f_, f_, f_, f_] rfl rfl (any_of HT_.out (by kernel_rfl)) (fun _ _ _ h => h) (Or.inl ⟨by rfl, ?_⟩) ?_ ?_; rotate_left
       ·
        intro w'; go_simp
        with_reducible rfl
       rotate_left
       ·
        simp only [Act.put, sA_, sZ_, sS_, i64_w, i32_w]; rfl
       refine take_ (i := 1) (N := some 24) (v := ?_) (a' := ?_) #[t_, t_, t_, f_, f_, f_, f_, f_] rfl rfl (take_ofW HT_.out HW_.out (by kernel_rfl)) (fun _ _ _ h => h) (Or.inl ⟨by rfl, ?_⟩) hHeld ?_ ?_; rotate_left
       ·
        rintro w' ⟨s0, s1⟩
        go_simp
        with_reducible rfl
       rotate_left
       ·
        simp only [Act.put, sA_, sZ_, sS_, i64_w, i32_w]; rfl
       refine take_ (i := 3) (N := some 26) (v := ?_) (a' := ?_) #[t_, t_, t_, t_, f_, f_, f_, f_] rfl rfl (take_ofW HT_.out HW_.out (by kernel_rfl)) (fun _ _ _ h => h) (Or.inl ⟨by rfl, ?_⟩) hHeld ?_ ?_; rotate_left
       ·
        rintro w' ⟨s0, s1⟩
        go_simp
        with_reducible rfl
       rotate_left
       ·
        simp only [Act.put, sA_, sZ_, sS_, i64_w, i32_w]; rfl
       refine join_ (σ := Value × Nat) 1 #[t_, t_, t_, t_, t_, t_, t_, f_] (fun s_ => [(27, s_.1), (11, .pointer (some ⟨s_.2, 0, none⟩)), (28, .agg #[.int .i64 a0_0, s_.1])]) (fun s_ w' => (w'.cell? ⟨gb159, 0, none⟩ = some (.int .i64 a0_0) ∧ w'.cell? ⟨gb159, 1, none⟩ = some (.slice A0_1 l0_1.length c0_1)) ∧ (Kd.R k42 42 w' w.heap.size (fun _ => True) s_.1 t162) ∧ (w'.heap[gb159]? = some (.cells #[.int .i64 a0_0, .slice A0_1 l0_1.length c0_1] 24 (0, 0))) ∧ (w'.heap[gb160]? = some (.cells #[.int .i64 0, .slice none 0 0] 24 (0, 0))) ∧ (w'.heap[s_.2]? = some (.cells #[.int .i64 0, .slice none 0 0] 24 (0, 0))) ∧ (w.heap.size ≤ s_.2) ∧ (w.heap.size ≤ s_.2) ∧ (gb159 ≠ s_.2) ∧ (s_.2 ≠ gb159) ∧ (gb160 ≠ s_.2) ∧ (s_.2 ≠ gb160) ∧ (Below w.heap.size w w')) ?_ ?_; rotate_left
       ·
        intro hCont; refine two_ (i := 4) (j := 6) (Ni := some 27) (Nj := some 11) #[t_, t_, t_, t_, t_, f_, f_, f_] #[t_, t_, t_, t_, f_, f_, t_, f_] rfl rfl rfl rfl (two_of HT_.out (by kernel_rfl)) (by decide) (by decide) (fun K hK => ?_) (fun K hK => ?_)
        ·
         skip
         refine goes_ Try.func36 (by kernel_rfl) rfl #[.slice A0_1 l0_1.length c0_1] (by rfl) rfl rfl (by (try simp only [List.map_toArray, List.map_cons, List.map_nil]); first | done | rfl | (simp only [List.length_drop, List.length_take]; rfl)) ?_
         with_reducible refine (slices_Clone_api_Slot_api_Slot.calls _ _ l0_1 t162 _ ?side1 ?side2 A14.out).mono ?_
         (case side1 => repeat (first | exact (Kd.C_below HR0_1.out HB.out) | (with_reducible refine Kd.C_alloc ?_ _) | (with_reducible refine Kd.C_drewN ?_ _) | (with_reducible refine Kd.C_drew ?_))); (case side2 => exact HC0_1.out)
         rintro e w27 ⟨v163, rfl, ho0, hb⟩
         refine ⟨_, rfl, ?_⟩; have n0_ := Aside0.mk (Kd.R_lower ho0 (below_size (pH_ HB.out))); have n1_ := Aside0.mk (blk_below (pG_ BK159.out) hb); have n2_ := Aside0.mk (blk_below (pG_ BK160.out) hb); have n3_ := Aside0.mk (below_step (pH_ HB.out) hb); clear BK159; clear BK160; clear HB; have HO164 := n0_; have BK159 := n1_; have BK160 := n2_; have HB := n3_; clear n0_ n1_ n2_ n3_; (try clear hb); (try clear hb2); (try clear hk); (try clear hi); (try clear ho0); obtain ⟨Ao28, co28, eo28⟩ := Kd.R_slice HO164.out; (first | subst eo28 | (injection eo28 with f1_ f2_ f3_; have f4_ := f1_.symm; have f5_ := f3_.symm; clear f1_ f2_ f3_; subst f4_; subst f5_)); refine hK.out _ _ ⟨(blk_cell BK159.out 0).trans rfl, (blk_cell BK159.out 1).trans rfl⟩ (fun hHeld => ?_); clear hK K; refine norm_ (a' := ?_) ?_ ?_; rotate_left
         ·
          show Act.put _ (some 27) _ = _
          simp only [Act.put, sA_, sZ_, sS_, i64_w, i32_w]; rfl
         refine pure_ (i := 5) (N := some 28) (v := ?_) (a' := ?_) #[t_, t_, t_, t_, t_, t_, f_, f_] rfl rfl (any_of HT_.out (by kernel_rfl)) (fun _ _ _ h => h) (Or.inl ⟨by rfl, ?_⟩) ?_ ?_; rotate_left
         ·
          intro w'; go_simp
          with_reducible rfl
         rotate_left
         ·
          simp only [Act.put, sA_, sZ_, sS_, i64_w, i32_w]; rfl
         refine one_ (i := 6) (N := some 11) #[t_, t_, t_, t_, t_, t_, t_, f_] rfl rfl (one_of HT_.out (by kernel_rfl)) (by decide) (fun K hK => ?_); refine box_step ?hg (N := 11) ?hd (cs := #[.int .i64 0, .slice none 0 0]) (t := 24) ?hr ?_; (case hd => rfl); (case hg => rfl); (case hr => first | (go_simp; done) | (go_simp; rfl)); intro gb165 hg w29 hbox hb; have n0_ := Aside0.mk (Kd.R_below (pL_ HO164.out) hb); have n1_ := Aside0.mk (blk_below (pG_ BK159.out) hb); have n2_ := Aside0.mk (blk_below (pG_ BK160.out) hb); have n3_ := Aside0.mk (below_step (pH_ HB.out) hb); have n4_ := Aside0.mk (hbox); have n5_ := Aside0.mk ((by rw [hg]; exact (below_size (pH_ HB.out)) : w.heap.size ≤ gb165)); have n6_ := Aside0.mk ((by rw [hg]; exact (below_size (pH_ HB.out)) : w.heap.size ≤ gb165)); have n7_ := Aside0.mk ((by rw [hg]; exact Nat.ne_of_lt (blk_lt (pG_ BK159.out)) : gb159 ≠ gb165)); have n8_ := Aside0.mk ((by rw [hg]; exact Nat.ne_of_gt (blk_lt (pG_ BK159.out)) : gb165 ≠ gb159)); have n9_ := Aside0.mk ((by rw [hg]; exact Nat.ne_of_lt (blk_lt (pG_ BK160.out)) : gb160 ≠ gb165)); have n10_ := Aside0.mk ((by rw [hg]; exact Nat.ne_of_gt (blk_lt (pG_ BK160.out)) : gb165 ≠ gb160)); clear HO164; clear BK159; clear BK160; clear HB; have HO164 := n0_; have BK159 := n1_; have BK160 := n2_; have HB := n3_; have BK165 := n4_; have GW165 := n5_; have GE165 := n6_; have NB159_165 := n7_; have NB165_159 := n8_; have NB160_165 := n9_; have NB165_160 := n10_; clear n0_ n1_ n2_ n3_ n4_ n5_ n6_ n7_ n8_ n9_ n10_; clear hb hbox hg; refine hK.out _ _ ⟨(blk_cell BK159.out 0).trans rfl, (blk_cell BK159.out 1).trans rfl⟩ (fun hHeld => ?_); clear hK K; refine norm_ (a' := ?_) ?_ ?_; rotate_left
         ·
          show Act.put _ (some 11) _ = _
          simp only [Act.put, sA_, sZ_, sS_, i64_w, i32_w]; rfl
         exact norm_ (by simp only [putAll, Act.put, sA_, sZ_, sS_]) (hCont (.slice Ao28 t162.length co28, gb165) _ ⟨hHeld, (pL_ HO164.out), (pG_ BK159.out), (pG_ BK160.out), (pG_ BK165.out), GW165.out, GE165.out, NB159_165.out, NB165_159.out, NB160_165.out, NB165_160.out, (pH_ HB.out)⟩)
        ·
         skip
         refine box_step ?hg (N := 11) ?hd (cs := #[.int .i64 0, .slice none 0 0]) (t := 24) ?hr ?_; (case hd => rfl); (case hg => rfl); (case hr => first | (go_simp; done) | (go_simp; rfl)); intro gb165 hg w27 hbox hb; have n0_ := Aside0.mk (blk_below (pG_ BK159.out) hb); have n1_ := Aside0.mk (blk_below (pG_ BK160.out) hb); have n2_ := Aside0.mk (below_step (pH_ HB.out) hb); have n3_ := Aside0.mk (hbox); have n4_ := Aside0.mk ((by rw [hg]; exact (below_size (pH_ HB.out)) : w.heap.size ≤ gb165)); have n5_ := Aside0.mk ((by rw [hg]; exact (below_size (pH_ HB.out)) : w.heap.size ≤ gb165)); have n6_ := Aside0.mk ((by rw [hg]; exact Nat.ne_of_lt (blk_lt (pG_ BK159.out)) : gb159 ≠ gb165)); have n7_ := Aside0.mk ((by rw [hg]; exact Nat.ne_of_gt (blk_lt (pG_ BK159.out)) : gb165 ≠ gb159)); have n8_ := Aside0.mk ((by rw [hg]; exact Nat.ne_of_lt (blk_lt (pG_ BK160.out)) : gb160 ≠ gb165)); have n9_ := Aside0.mk ((by rw [hg]; exact Nat.ne_of_gt (blk_lt (pG_ BK160.out)) : gb165 ≠ gb160)); clear BK159; clear BK160; clear HB; have BK159 := n0_; have BK160 := n1_; have HB := n2_; have BK165 := n3_; have GW165 := n4_; have GE165 := n5_; have NB159_165 := n6_; have NB165_159 := n7_; have NB160_165 := n8_; have NB165_160 := n9_; clear n0_ n1_ n2_ n3_ n4_ n5_ n6_ n7_ n8_ n9_; clear hb hbox hg; refine hK.out _ _ ⟨(blk_cell BK159.out 0).trans rfl, (blk_cell BK159.out 1).trans rfl⟩ (fun hHeld => ?_); clear hK K; refine norm_ (a' := ?_) ?_ ?_; rotate_left
         ·
          show Act.put _ (some 11) _ = _
          simp only [Act.put, sA_, sZ_, sS_, i64_w, i32_w]; rfl
         refine one_ (i := 4) (N := some 27) #[t_, t_, t_, t_, t_, f_, t_, f_] rfl rfl (one_of HT_.out (by kernel_rfl)) (by decide) (fun K hK => ?_); refine goes_ Try.func36 (by kernel_rfl) rfl #[.slice A0_1 l0_1.length c0_1] (by rfl) rfl rfl (by (try simp only [List.map_toArray, List.map_cons, List.map_nil]); first | done | rfl | (simp only [List.length_drop, List.length_take]; rfl)) ?_
         with_reducible refine (slices_Clone_api_Slot_api_Slot.calls _ _ l0_1 t162 _ ?side1 ?side2 A14.out).mono ?_
         (case side1 => repeat (first | exact (Kd.C_below HR0_1.out HB.out) | (with_reducible refine Kd.C_alloc ?_ _) | (with_reducible refine Kd.C_drewN ?_ _) | (with_reducible refine Kd.C_drew ?_))); (case side2 => exact HC0_1.out)
         rintro e w28 ⟨v163, rfl, ho0, hb⟩
         refine ⟨_, rfl, ?_⟩; have n0_ := Aside0.mk (Kd.R_lower ho0 (below_size (pH_ HB.out))); have n1_ := Aside0.mk (blk_below (pG_ BK159.out) hb); have n2_ := Aside0.mk (blk_below (pG_ BK160.out) hb); have n3_ := Aside0.mk (blk_below (pG_ BK165.out) hb); have n4_ := Aside0.mk (below_step (pH_ HB.out) hb); clear BK159; clear BK160; clear BK165; clear HB; have HO164 := n0_; have BK159 := n1_; have BK160 := n2_; have BK165 := n3_; have HB := n4_; clear n0_ n1_ n2_ n3_ n4_; (try clear hb); (try clear hb2); (try clear hk); (try clear hi); (try clear ho0); obtain ⟨Ao29, co29, eo29⟩ := Kd.R_slice HO164.out; (first | subst eo29 | (injection eo29 with f1_ f2_ f3_; have f4_ := f1_.symm; have f5_ := f3_.symm; clear f1_ f2_ f3_; subst f4_; subst f5_)); refine hK.out _ _ ⟨(blk_cell BK159.out 0).trans rfl, (blk_cell BK159.out 1).trans rfl⟩ (fun hHeld => ?_); clear hK K; refine norm_ (a' := ?_) ?_ ?_; rotate_left
         ·
          show Act.put _ (some 27) _ = _
          simp only [Act.put, sA_, sZ_, sS_, i64_w, i32_w]; rfl
         refine pure_ (i := 5) (N := some 28) (v := ?_) (a' := ?_) #[t_, t_, t_, t_, t_, t_, t_, f_] rfl rfl (any_of HT_.out (by kernel_rfl)) (fun _ _ _ h => h) (Or.inl ⟨by rfl, ?_⟩) ?_ ?_; rotate_left
         ·
          intro w'; go_simp
          with_reducible rfl
         rotate_left
         ·
          simp only [Act.put, sA_, sZ_, sS_, i64_w, i32_w]; rfl
         exact norm_ (by simp only [putAll, Act.put, sA_, sZ_, sS_]) (hCont (.slice Ao29 t162.length co29, gb165) _ ⟨hHeld, (pL_ HO164.out), (pG_ BK159.out), (pG_ BK160.out), (pG_ BK165.out), GW165.out, GE165.out, NB159_165.out, NB165_159.out, NB160_165.out, NB165_160.out, (pH_ HB.out)⟩)
       rintro ⟨v163, gb165⟩ w30 ⟨hS_, h0_, h1_, h2_, h3_, h4_, h5_, h6_, h7_, h8_, h9_, h10_⟩
       have n0_ : Aside0 (Kd.R k42 42 w30 w.heap.size (fun _ => True) v163 t162) := ⟨h0_⟩; have n1_ : Aside0 (w30.heap[gb159]? = some (.cells #[.int .i64 a0_0, .slice A0_1 l0_1.length c0_1] 24 (0, 0))) := ⟨h1_⟩; have n2_ : Aside0 (w30.heap[gb160]? = some (.cells #[.int .i64 0, .slice none 0 0] 24 (0, 0))) := ⟨h2_⟩; have n3_ : Aside0 (w30.heap[gb165]? = some (.cells #[.int .i64 0, .slice none 0 0] 24 (0, 0))) := ⟨h3_⟩; have n4_ : Aside0 (w.heap.size ≤ gb165) := ⟨h4_⟩; have n5_ : Aside0 (w.heap.size ≤ gb165) := ⟨h5_⟩; have n6_ : Aside0 (gb159 ≠ gb165) := ⟨h6_⟩; have n7_ : Aside0 (gb165 ≠ gb159) := ⟨h7_⟩; have n8_ : Aside0 (gb160 ≠ gb165) := ⟨h8_⟩; have n9_ : Aside0 (gb165 ≠ gb160) := ⟨h9_⟩; have n10_ : Aside0 (Below w.heap.size w w30) := ⟨h10_⟩; clear BK159; clear BK160; clear HB; clear h0_ h1_ h2_ h3_ h4_ h5_ h6_ h7_ h8_ h9_ h10_; have HO164 := n0_; have BK159 := n1_; have BK160 := n2_; have BK165 := n3_; have GW165 := n4_; have GE165 := n5_; have NB159_165 := n6_; have NB165_159 := n7_; have NB160_165 := n8_; have NB165_160 := n9_; have HB := n10_; clear n0_ n1_ n2_ n3_ n4_ n5_ n6_ n7_ n8_ n9_ n10_; have hHeld : w30.cell? ⟨gb159, 0, none⟩ = some (.int .i64 a0_0) ∧ w30.cell? ⟨gb159, 1, none⟩ = some (.slice A0_1 l0_1.length c0_1) := hS_; obtain ⟨Ao31, co31, eo31⟩ := Kd.R_slice HO164.out; (first | subst eo31 | (injection eo31 with f1_ f2_ f3_; have f4_ := f1_.symm; have f5_ := f3_.symm; clear f1_ f2_ f3_; subst f4_; subst f5_)); refine norm_ (a' := ?_) ?_ ?_; rotate_left
       ·
        simp only [putAll, Act.put, sA_, sZ_, sS_]; rfl
       refine one_ (i := 7) (N := none) #[t_, t_, t_, t_, t_, t_, t_, t_] rfl rfl (one_of HT_.out (by kernel_rfl)) (by decide) (fun K hK => ?_); have hs32 : w30.cell? ⟨gb165, 0, none⟩ = some (.int .i64 0) := (blk_cell BK165.out 0).trans rfl; have hfs32 := blk_frozen BK165.out 0; have hns32_0 := NB159_165.out; have hns32_1 := NB160_165.out; have hms32_0 := NB165_159.out; have hms32_1 := NB165_160.out; have hs33 : w30.cell? ⟨gb165, 1, none⟩ = some (.slice none 0 0) := (blk_cell BK165.out 1).trans rfl; have hfs33 := blk_frozen BK165.out 1; have hns33_0 := NB159_165.out; have hns33_1 := NB160_165.out; have hms33_0 := NB165_159.out; have hms33_1 := NB165_160.out; refine skip_ (w1 := ?_) (by rfl) rfl ?_ ?_; rotate_left
       ·
        go_simp; rfl
       refine hK.out _ _ ⟨((cell_far (p := ⟨gb165, _, none⟩) NB159_165.out _).trans (((cell_far (p := ⟨gb165, _, none⟩) NB159_165.out _).trans (hHeld.1)))), ((cell_far (p := ⟨gb165, _, none⟩) NB159_165.out _).trans (((cell_far (p := ⟨gb165, _, none⟩) NB159_165.out _).trans (hHeld.2))))⟩ (fun hHeld => ?_); clear hK K; refine done_ (done_of HT_.out (by kernel_rfl)) ?_; have n0_ : Aside0 (Kd.R k42 42 ((w30.setCell ⟨gb165, 0, none⟩ (.int .i64 a0_0)).setCell ⟨gb165, 1, none⟩ (.slice Ao31 t162.length co31)) w.heap.size (fun _ => True) (.slice Ao31 t162.length co31) t162) := ⟨by (with_reducible repeat (first | apply rA_ | apply rN_ | apply rD_)); exact Kd.R_mono (Kd.R_far (p := ⟨gb165, 1, none⟩) (Kd.R_far (p := ⟨gb165, 0, none⟩) (Kd.R_types HO164.out BK165.out (by decide)) (fun _ hk => hk.2) (.int .i64 a0_0)) (fun _ hk => hk.2) (.slice Ao31 t162.length co31)) (fun _ hk => trivial)⟩; have n1_ : Aside0 (((w30.setCell ⟨gb165, 0, none⟩ (.int .i64 a0_0)).setCell ⟨gb165, 1, none⟩ (.slice Ao31 t162.length co31)).heap[gb159]? = some (.cells #[.int .i64 a0_0, .slice A0_1 l0_1.length c0_1] 24 (0, 0))) := ⟨by (with_reducible repeat (first | refine blk_drewN ?_ _ | refine blk_drew ?_ | refine blk_alloc ?_ _)); refine blk_far ?_ NB159_165.out _; (with_reducible repeat (first | refine blk_drewN ?_ _ | refine blk_drew ?_ | refine blk_alloc ?_ _)); refine blk_far ?_ NB159_165.out _; (with_reducible repeat (first | refine blk_drewN ?_ _ | refine blk_drew ?_ | refine blk_alloc ?_ _)); exact BK159.out⟩; have n2_ : Aside0 (((w30.setCell ⟨gb165, 0, none⟩ (.int .i64 a0_0)).setCell ⟨gb165, 1, none⟩ (.slice Ao31 t162.length co31)).heap[gb160]? = some (.cells #[.int .i64 0, .slice none 0 0] 24 (0, 0))) := ⟨by (with_reducible repeat (first | refine blk_drewN ?_ _ | refine blk_drew ?_ | refine blk_alloc ?_ _)); refine blk_far ?_ NB160_165.out _; (with_reducible repeat (first | refine blk_drewN ?_ _ | refine blk_drew ?_ | refine blk_alloc ?_ _)); refine blk_far ?_ NB160_165.out _; (with_reducible repeat (first | refine blk_drewN ?_ _ | refine blk_drew ?_ | refine blk_alloc ?_ _)); exact BK160.out⟩; have n3_ : Aside0 (((w30.setCell ⟨gb165, 0, none⟩ (.int .i64 a0_0)).setCell ⟨gb165, 1, none⟩ (.slice Ao31 t162.length co31)).heap[gb165]? = some (.cells #[.int .i64 a0_0, .slice Ao31 t162.length co31] 24 (0, 0))) := ⟨by (with_reducible repeat (first | refine blk_drewN ?_ _ | refine blk_drew ?_ | refine blk_alloc ?_ _)); refine blk_put (cs := #[.int .i64 a0_0, .slice none 0 0]) ?_ 1 _ rfl; (with_reducible repeat (first | refine blk_drewN ?_ _ | refine blk_drew ?_ | refine blk_alloc ?_ _)); refine blk_put (cs := #[.int .i64 0, .slice none 0 0]) ?_ 0 _ rfl; (with_reducible repeat (first | refine blk_drewN ?_ _ | refine blk_drew ?_ | refine blk_alloc ?_ _)); exact BK165.out⟩; have n4_ : Aside0 (Below w.heap.size w ((w30.setCell ⟨gb165, 0, none⟩ (.int .i64 a0_0)).setCell ⟨gb165, 1, none⟩ (.slice Ao31 t162.length co31))) := ⟨pH_ HB.out⟩; (try clear HO164); (try clear BK159); (try clear BK160); (try clear BK165); (try clear HB)
       generalize ((w30.setCell ⟨gb165, 0, none⟩ (.int .i64 a0_0)).setCell ⟨gb165, 1, none⟩ (.slice Ao31 t162.length co31)) = w34 at n0_ n1_ n2_ n3_ n4_ ⊢
       have HO164 := n0_; have BK159 := n1_; have BK160 := n2_; have BK165 := n3_; have HB := n4_; clear n0_ n1_ n2_ n3_ n4_; have hnb35 := NB165_159.out; have hnc35 := NB159_165.out; have hnb36 := NB165_160.out; have hnc36 := NB160_165.out; have hcz37_0 : w34.cell? ⟨gb165, 0, none⟩ = some (.int .i64 a0_0) := (blk_cell BK165.out 0).trans rfl; have hcz37_1 : w34.cell? ⟨gb165, 1, none⟩ = some (.slice Ao31 t162.length co31) := (blk_cell BK165.out 1).trans rfl; have hfz37_0 := blk_frozen BK165.out 0; have hfz37_1 := blk_frozen BK165.out 1; have p17 : 0 ≤ (a1 : Int) := of_decide_eq_true (by first | (with_reducible assumption) | assumption); have q17 : (a1 : Int) < ((t162.length : Int) : Int) := of_decide_eq_true (by first | (with_reducible assumption) | assumption); obtain ⟨go17, co17, eo17, gb17, gl17, cl17, HG17⟩ := Kd.R_form HO164.out (by omega); (first | cases eo17 | (injection eo17 with ea_ en_ ec_; (first | subst ea_ | (injection ea_ with ea_; subst ea_)); subst ec_; clear en_)); have GB17 := Aside0.mk gb17; have GG17 := Aside0.mk HG17; clear gb17 gl17 HG17; obtain ⟨ce17, hcl17, hM17, hcc17, hfr17⟩ := Kd.R_elem HO164.out z42 (a1 : Int) p17 q17; obtain rfl := k42_openM hM17; have hx17_0 : w34.cell? ⟨go17, (a1 : Int).toNat * 16, none⟩ = some (.int .u8 ((rd_T42 t162 a1).f0)) := hcc17 0 _ rfl; have hx17_1 : w34.cell? ⟨go17, (a1 : Int).toNat * 16 + 1, none⟩ = some (.int .u8 ((rd_T42 t162 a1).f1.f0)) := hcc17 1 _ rfl; have hx17_2 : w34.cell? ⟨go17, (a1 : Int).toNat * 16 + 2, none⟩ = some (.int .u8 ((rd_T42 t162 a1).f1.f1)) := hcc17 2 _ rfl; have hx17_3 : w34.cell? ⟨go17, (a1 : Int).toNat * 16 + 3, none⟩ = some (.int .u8 ((rd_T42 t162 a1).f1.f2)) := hcc17 3 _ rfl; have hx17_4 : w34.cell? ⟨go17, (a1 : Int).toNat * 16 + 4, none⟩ = some (.int .u8 ((rd_T42 t162 a1).f1.f3)) := hcc17 4 _ rfl; have hx17_5 : w34.cell? ⟨go17, (a1 : Int).toNat * 16 + 5, none⟩ = some (.int .u8 ((rd_T42 t162 a1).f1.f4)) := hcc17 5 _ rfl; have hx17_6 : w34.cell? ⟨go17, (a1 : Int).toNat * 16 + 6, none⟩ = some (.int .u8 ((rd_T42 t162 a1).f1.f5)) := hcc17 6 _ rfl; have hx17_7 : w34.cell? ⟨go17, (a1 : Int).toNat * 16 + 7, none⟩ = some (.int .u8 ((rd_T42 t162 a1).f1.f6)) := hcc17 7 _ rfl; have hx17_8 : w34.cell? ⟨go17, (a1 : Int).toNat * 16 + 8, none⟩ = some (.int .u8 ((rd_T42 t162 a1).f1.f7)) := hcc17 8 _ rfl; have hx17_9 : w34.cell? ⟨go17, (a1 : Int).toNat * 16 + 9, none⟩ = some (.int .u8 ((rd_T42 t162 a1).f1.f8)) := hcc17 9 _ rfl; have hx17_10 : w34.cell? ⟨go17, (a1 : Int).toNat * 16 + 10, none⟩ = some (.int .u8 ((rd_T42 t162 a1).f1.f9)) := hcc17 10 _ rfl; have hx17_11 : w34.cell? ⟨go17, (a1 : Int).toNat * 16 + 11, none⟩ = some (.int .u8 ((rd_T42 t162 a1).f1.f10)) := hcc17 11 _ rfl; have hx17_12 : w34.cell? ⟨go17, (a1 : Int).toNat * 16 + 12, none⟩ = some (.int .u8 ((rd_T42 t162 a1).f1.f11)) := hcc17 12 _ rfl; have hx17_13 : w34.cell? ⟨go17, (a1 : Int).toNat * 16 + 13, none⟩ = some (.int .u8 ((rd_T42 t162 a1).f1.f12)) := hcc17 13 _ rfl; have hx17_14 : w34.cell? ⟨go17, (a1 : Int).toNat * 16 + 14, none⟩ = some (.int .u8 ((rd_T42 t162 a1).f1.f13)) := hcc17 14 _ rfl; have hx17_15 : w34.cell? ⟨go17, (a1 : Int).toNat * 16 + 15, none⟩ = some (.int .u8 ((rd_T42 t162 a1).f1.f14)) := hcc17 15 _ rfl; have hf17_0 : w34.frozen? ⟨go17, (a1 : Int).toNat * 16, none⟩ = false := hfr17 0; have hf17_1 : w34.frozen? ⟨go17, (a1 : Int).toNat * 16 + 1, none⟩ = false := hfr17 1; have hf17_2 : w34.frozen? ⟨go17, (a1 : Int).toNat * 16 + 2, none⟩ = false := hfr17 2; have hf17_3 : w34.frozen? ⟨go17, (a1 : Int).toNat * 16 + 3, none⟩ = false := hfr17 3; have hf17_4 : w34.frozen? ⟨go17, (a1 : Int).toNat * 16 + 4, none⟩ = false := hfr17 4; have hf17_5 : w34.frozen? ⟨go17, (a1 : Int).toNat * 16 + 5, none⟩ = false := hfr17 5; have hf17_6 : w34.frozen? ⟨go17, (a1 : Int).toNat * 16 + 6, none⟩ = false := hfr17 6; have hf17_7 : w34.frozen? ⟨go17, (a1 : Int).toNat * 16 + 7, none⟩ = false := hfr17 7; have hf17_8 : w34.frozen? ⟨go17, (a1 : Int).toNat * 16 + 8, none⟩ = false := hfr17 8; have hf17_9 : w34.frozen? ⟨go17, (a1 : Int).toNat * 16 + 9, none⟩ = false := hfr17 9; have hf17_10 : w34.frozen? ⟨go17, (a1 : Int).toNat * 16 + 10, none⟩ = false := hfr17 10; have hf17_11 : w34.frozen? ⟨go17, (a1 : Int).toNat * 16 + 11, none⟩ = false := hfr17 11; have hf17_12 : w34.frozen? ⟨go17, (a1 : Int).toNat * 16 + 12, none⟩ = false := hfr17 12; have hf17_13 : w34.frozen? ⟨go17, (a1 : Int).toNat * 16 + 13, none⟩ = false := hfr17 13; have hf17_14 : w34.frozen? ⟨go17, (a1 : Int).toNat * 16 + 14, none⟩ = false := hfr17 14; have hf17_15 : w34.frozen? ⟨go17, (a1 : Int).toNat * 16 + 15, none⟩ = false := hfr17 15; clear hcl17 hcc17 hfr17 hM17; replace p17 := eq_true p17; replace q17 := eq_true q17; have HX38 := Aside0.mk (show Kd.R k42 42 w34 w.heap.size (fun _ => True) (.slice (some ⟨go17, 0, none⟩) t162.length co31) t162 from (pL_ HO164.out)); have hi038 : 0 ≤ ((ji18) : Int) := (of_decide_eq_true (by first | (with_reducible assumption) | assumption)); have hi138 : ((ji18) : Int) < 15 := (of_decide_eq_true (by first | (with_reducible assumption) | assumption)); obtain ⟨ce38, hcl38, hM38, hcc38, hfr38⟩ := Kd.R_elem HX38.out z42 (a1 : Int) (of_decide_eq_true (by first | (with_reducible assumption) | assumption)) (by have h_ : (a1 : Int) < ((t162.length : Int) : Int) := of_decide_eq_true (by first | (with_reducible assumption) | assumption); first | exact h_ | (have e_ := (Kd.R_reads' HO164.out).1; omega) | simpa using h_); obtain rfl := k42_openM hM38; have HP38 := Kd.R_seg HX38.out (a1 : Int) (of_decide_eq_true (by first | (with_reducible assumption) | assumption)) (by have h_ : (a1 : Int) < ((t162.length : Int) : Int) := of_decide_eq_true (by first | (with_reducible assumption) | assumption); first | exact h_ | (have e_ := (Kd.R_reads' HO164.out).1; omega) | simpa using h_) (seg := [.int .u8 a3]) (j := 1 + ((ji18) : Int).toNat) hcl38 hcc38 (show 1 + ((ji18) : Int).toNat + 1 ≤ 16 from by omega) (x' := (⟨(rd_T42 t162 a1).f0, upd40 ((rd_T42 t162 a1).f1) (ji18) a3⟩ : S42)) (updM42_1 _ _ _ (rd_T42 t162 a1) (ji18) a3 hi038 hi138) (fun _ hk => hk); have hx38 := hcc38 (1 + ((ji18) : Int).toNat) _ (get42_1 (rd_T42 t162 a1) (ji18) hi038 hi138); have hf38 := hfr38 (1 + ((ji18) : Int).toNat); rw [show (a1 : Int).toNat * (k42).sz + (1 + ((ji18) : Int).toNat) = (a1 : Int).toNat * 16 + 1 + ((ji18) : Int).toNat from by show (a1 : Int).toNat * 16 + (1 + ((ji18) : Int).toNat) = (a1 : Int).toNat * 16 + 1 + ((ji18) : Int).toNat; omega] at HP38 hx38 hf38; replace hi038 := eq_true hi038; replace hi138 := eq_true hi138; clear hcl38 hcc38 hfr38 hM38
       try go_wp2_with (first | ((with_reducible refine gate_store (t := 5) (p := 37) rfl ?_); refine store_event (t := 5) (p := 37) (v := ?vo_w39) (w1 := (w34.setCell ⟨go17, (a1 : Int).toNat * 16 + 1 + ((ji18) : Int).toNat, none⟩ (.int .u8 a3))) ?hg ?ho ?hn ?hr ?_; (case ho => rfl); (case hg => rfl); (case hn => rfl); (case hr => first | (go_simp; done) | (go_simp; rfl)); intro w39 hw; have hg : w34.grownBy w39 (some go17) := (by rw [hw]; exact HP38.2); have hp_ : Kd.R k42 42 w39 w.heap.size (fun _ => True) (.slice (some ⟨go17, 0, none⟩) t162.length co31) y166 := (by rw [hw, Ny166.out]; exact HP38.1); clear HP38; have n0_ := Aside0.mk (blk_grown (g := gb159) (o := .cells #[.int .i64 a0_0, .slice A0_1 l0_1.length c0_1] 24 (0, 0)) (pG_ BK159.out) hg (Kd.R_ne HO164.out BK159.out (by decide))); have n1_ := Aside0.mk (blk_grown (g := gb160) (o := .cells #[.int .i64 0, .slice none 0 0] 24 (0, 0)) (pG_ BK160.out) hg (Kd.R_ne HO164.out BK160.out (by decide))); have n2_ := Aside0.mk (hp_); have n3_ := Aside0.mk (blk_grown (g := gb165) (o := .cells #[.int .i64 a0_0, .slice (some ⟨go17, 0, none⟩) t162.length co31] 24 (0, 0)) (pG_ BK165.out) hg (Kd.R_ne HO164.out BK165.out (by decide))); have n4_ := Aside0.mk ((by rw [hw]; exact below_set (HB.out) GB17.out : Below w.heap.size w w39)); clear BK159; clear BK160; clear HO164; clear BK165; clear HB; have BK159 := n0_; have BK160 := n1_; have HO164 := n2_; have BK165 := n3_; have HB := n4_; clear n0_ n1_ n2_ n3_ n4_; clear hg hw hp_; have hcz40_0 : w39.cell? ⟨gb165, 0, none⟩ = some (.int .i64 a0_0) := (blk_cell BK165.out 0).trans rfl; have hcz40_1 : w39.cell? ⟨gb165, 1, none⟩ = some (.slice (some ⟨go17, 0, none⟩) t162.length co31) := (blk_cell BK165.out 1).trans rfl; have hfz40_0 := blk_frozen BK165.out 0; have hfz40_1 := blk_frozen BK165.out 1; have hcz41_0 : w39.cell? ⟨gb160, 0, none⟩ = some (.int .i64 0) := (blk_cell BK160.out 0).trans rfl; have hcz41_1 : w39.cell? ⟨gb160, 1, none⟩ = some (.slice none 0 0) := (blk_cell BK160.out 1).trans rfl; have hfz41_0 := blk_frozen BK160.out 0; have hfz41_1 := blk_frozen BK160.out 1))
       refine bodyPost_ret (results_ct rfl _ _ gb160 24 #[.int .i64 a0_0, .slice (some ⟨go17, 0, none⟩) t162.length co31] (0, 0) _ rfl (by (with_reducible repeat (first | refine blk_drewN ?_ _ | refine blk_drew ?_ | refine blk_alloc ?_ _)); refine blk_put (cs := #[.int .i64 a0_0, .slice none 0 0]) ?_ 1 _ rfl; (with_reducible repeat (first | refine blk_drewN ?_ _ | refine blk_drew ?_ | refine blk_alloc ?_ _)); refine blk_put (cs := #[.int .i64 0, .slice none 0 0]) ?_ 0 _ rfl; (with_reducible repeat (first | refine blk_drewN ?_ _ | refine blk_drew ?_ | refine blk_alloc ?_ _)); exact BK160.out) Try.underlying24 rfl (by kernel_rfl)) rfl ?_; exact ⟨_, by first | rfl | (simp [errW_none, errW_some] <;> rfl) | (simp only [← hji18]; first | rfl | (simp [errW_none, errW_some] <;> rfl)) | (simp [*, errW_none, errW_some] <;> rfl), by (with_reducible repeat (first | apply rA_ | apply rN_ | apply rD_)); exact Kd.R_mono (Kd.R_far (p := ⟨gb160, 1, none⟩) (Kd.R_far (p := ⟨gb160, 0, none⟩) (Kd.R_types HO164.out BK160.out (by decide)) (fun _ hk => hk.2) (.int .i64 a0_0)) (fun _ hk => hk.2) (.slice (some ⟨go17, 0, none⟩) t162.length co31)) (fun _ hk => trivial), pH_ HB.out⟩
      ·
       rw [if_neg c20] at H; exact absurd H (by simp)
     ·
      rw [if_neg c19] at H; exact absurd H (by simp)
    ·
     rw [if_neg c16] at H; exact absurd H (by simp)
   ·
    rw [if_neg c15] at H; exact absurd H (by simp)
 ·
  rw [if_neg c6] at H; have c6b0 : (t161 == 0) = false := beq_eq_false_iff_ne.mpr c6; have c6b1 : (t161 != 0) = true := bne_iff_ne.mpr c6; simp only [Option.some.injEq, Prod.mk.injEq] at H; obtain ⟨rfl, rfl, rfl⟩ := H
  go_enter Try.func20, Try.ntmps20
  go_wp2_with (first | ((with_reducible refine gate_dst (N := 4) rfl ?_); refine box_event ?hg (N := 4) ?hd (cs := #[.int .i64 a0_0, .slice A0_1 l0_1.length c0_1]) (t := 24) ?hr ?_; (case hd => rfl); (case hg => rfl); (case hr => first | (go_simp; done) | (go_simp; rfl)); intro gb159 hg w42 hbox hb; have n0_ := Aside0.mk (below_step (pH_ HB.out) hb); have n1_ := Aside0.mk (hbox); have n2_ := Aside0.mk ((by rw [hg]; exact (below_size (pH_ HB.out)) : w.heap.size ≤ gb159)); have n3_ := Aside0.mk ((by rw [hg]; exact (below_size (pH_ HB.out)) : w.heap.size ≤ gb159)); clear HB; have HB := n0_; have BK159 := n1_; have GW159 := n2_; have GE159 := n3_; clear n0_ n1_ n2_ n3_; clear hb hbox hg) | ((with_reducible refine gate_dst (N := 8) rfl ?_); refine box_event ?hg (N := 8) ?hd (cs := #[.int .i64 0, .slice none 0 0]) (t := 24) ?hr ?_; (case hd => rfl); (case hg => rfl); (case hr => first | (go_simp; done) | (go_simp; rfl)); intro gb160 hg w43 hbox hb; have n0_ := Aside0.mk (blk_below (pG_ BK159.out) hb); have n1_ := Aside0.mk (below_step (pH_ HB.out) hb); have n2_ := Aside0.mk (hbox); have n3_ := Aside0.mk ((by rw [hg]; exact (below_size (pH_ HB.out)) : w.heap.size ≤ gb160)); have n4_ := Aside0.mk ((by rw [hg]; exact (below_size (pH_ HB.out)) : w.heap.size ≤ gb160)); have n5_ := Aside0.mk ((by rw [hg]; exact Nat.ne_of_lt (blk_lt (pG_ BK159.out)) : gb159 ≠ gb160)); have n6_ := Aside0.mk ((by rw [hg]; exact Nat.ne_of_gt (blk_lt (pG_ BK159.out)) : gb160 ≠ gb159)); clear BK159; clear HB; have BK159 := n0_; have HB := n1_; have BK160 := n2_; have GW160 := n3_; have GE160 := n4_; have NB159_160 := n5_; have NB160_159 := n6_; clear n0_ n1_ n2_ n3_ n4_ n5_ n6_; clear hb hbox hg; have hnb44 := NB159_160.out; have hnc44 := NB160_159.out; have hcz45_0 : w43.cell? ⟨gb159, 0, none⟩ = some (.int .i64 a0_0) := (blk_cell BK159.out 0).trans rfl; have hcz45_1 : w43.cell? ⟨gb159, 1, none⟩ = some (.slice A0_1 l0_1.length c0_1) := (blk_cell BK159.out 1).trans rfl; have hfz45_0 := blk_frozen BK159.out 0; have hfz45_1 := blk_frozen BK159.out 1) | ((with_reducible refine gate_callee (f := 41) rfl ?_); refine gL_ (some 15) Try.func41 #[.agg #[.int .i64 a0_0, .slice A0_1 l0_1.length c0_1], .int .i64 a1, .int .i64 a2] ?_; (with_reducible refine (slots_at.calls k a0_0 _ _ l0_1 a1 a2 t161 _ ?side1 ?side2 A5.out).mono ?_); (case side1 => repeat (first | exact (Kd.C_below HR0_1.out HB.out) | (with_reducible refine Kd.C_alloc ?_ _) | (with_reducible refine Kd.C_drewN ?_ _) | (with_reducible refine Kd.C_drew ?_))); (case side2 => exact HC0_1.out); rintro e w46 ⟨rfl, hb⟩; refine ⟨_, rfl, ?_⟩; have n0_ := Aside0.mk (blk_below (pG_ BK159.out) hb); have n1_ := Aside0.mk (blk_below (pG_ BK160.out) hb); have n2_ := Aside0.mk (below_step (pH_ HB.out) hb); clear BK159; clear BK160; clear HB; have BK159 := n0_; have BK160 := n1_; have HB := n2_; clear n0_ n1_ n2_; (try clear hb); have hcz47_0 : w46.cell? ⟨gb160, 0, none⟩ = some (.int .i64 0) := (blk_cell BK160.out 0).trans rfl; have hcz47_1 : w46.cell? ⟨gb160, 1, none⟩ = some (.slice none 0 0) := (blk_cell BK160.out 1).trans rfl; have hfz47_0 := blk_frozen BK160.out 0; have hfz47_1 := blk_frozen BK160.out 1))
  refine bodyPost_ret (results_ct rfl _ _ gb160 24 #[.int .i64 0, .slice none 0 0] (0, 0) _ rfl (by (with_reducible repeat (first | refine blk_drewN ?_ _ | refine blk_drew ?_ | refine blk_alloc ?_ _)); refine blk_put (cs := #[.int .i64 0, .slice none 0 0]) ?_ 1 _ rfl; (with_reducible repeat (first | refine blk_drewN ?_ _ | refine blk_drew ?_ | refine blk_alloc ?_ _)); refine blk_put (cs := #[.int .i64 0, .slice none 0 0]) ?_ 0 _ rfl; (with_reducible repeat (first | refine blk_drewN ?_ _ | refine blk_drew ?_ | refine blk_alloc ?_ _)); exact BK160.out) Try.underlying24 rfl (by kernel_rfl)) rfl ?_; exact ⟨_, by first | rfl | (simp [errW_none, errW_some] <;> rfl) | (simp [*, errW_none, errW_some] <;> rfl), by first | exact Kd.R_nil _ _ _ _ _ | exact Kd.N_nil _ _ _ _ _ | exact Kd.V_nil _ _ _ _ _ | exact Kd.Q_nil _ _ _ _ _ | exact Kd.S_nil _ _ _ _ _, pH_ HB.out⟩

-- NOT PRINTED: function 58 (slices_IndexFunc_uint8_uint8)

-- NOT PRINTED: function 52 (slices_ContainsFunc_uint8_uint8)

/-! ### counts_Check: function 59 -/
/-- What Check answers of a count's two numbers and its last bit. -/
def counts_Check.f (a0_0 : Int) (a0_1 : Int) (a0_2 : Int) : Option (Int) :=
  if a0_2 < 0 then none else if a0_0 = 0 ∧ a0_1 = 0 ∧ a0_2 = 0 then some 0 else if a0_2 > 1 then some 8
  else if a0_2 = 0 then (if a0_0 < 1 ∨ a0_0 > 12 ∨ a0_1 < 0 ∨ a0_1 > 7 then some 8 else some 0)
  else (if a0_1 < 1 ∨ a0_1 > 12 ∨ a0_0 < 0 ∨ a0_0 > 7 then some 8 else some 0)
theorem counts_Check.zero (w : World) :
    Calls Try.prog 59 #[.agg #[.int .i32 0, .int .i32 0, .int .u8 0]] w fun e w' => e = .returned (.int .i64 0) ∧ Below w.heap.size w w' := by
  go_enter Try.func59, Try.ntmps59
  go_wp2
  go_ret
  exact ⟨rfl, by repeat (first | exact Below.refl _ _ | apply below_alloc | apply pw_below_drewN | apply below_drew)⟩
theorem counts_Check.far (a b c : Int) (w : World) (h : c > 1) :
    Calls Try.prog 59 #[.agg #[.int .i32 a, .int .i32 b, .int .u8 c]] w fun e w' => e = .returned (.int .i64 8) ∧ Below w.heap.size w w' := by
  have h0 : (c == 0) = false := beq_eq_false_iff_ne.mpr (by omega)
  have h1 : decide (1 < c) = true := decide_eq_true h
  clear h
  go_enter Try.func59, Try.ntmps59
  go_wp2
  go_ret
  exact ⟨rfl, by repeat (first | exact Below.refl _ _ | apply below_alloc | apply pw_below_drewN | apply below_drew)⟩
theorem counts_Check.at0 (a b : Int) (w : World) (r : Int) (hz : ¬ (a = 0 ∧ b = 0)) (h : (if a < 1 ∨ a > 12 ∨ b < 0 ∨ b > 7 then (8 : Int) else 0) = r) :
    Calls Try.prog 59 #[.agg #[.int .i32 a, .int .i32 b, .int .u8 0]] w fun e w' => e = .returned (.int .i64 r) ∧ Below w.heap.size w w' := by
  have z : (a == 0 && b == 0) = false := by simp; omega
  clear hz
  by_cases c1 : a < 1
  · rw [if_pos (by omega)] at h
    subst h
    have c1b : decide (a < 1) = true := decide_eq_true c1
    clear c1
    go_enter Try.func59, Try.ntmps59
    go_wp2
    repeat (go_quiet (fail); try go_wp2)
    go_ret
    exact ⟨rfl, by repeat (first | exact Below.refl _ _ | apply below_alloc | apply pw_below_drewN | apply below_drew)⟩
  have c1b : decide (a < 1) = false := decide_eq_false c1
  by_cases c2 : a > 12
  · rw [if_pos (by omega)] at h
    subst h
    have c2b : decide (12 < a) = true := decide_eq_true c2
    clear c1 c2
    go_enter Try.func59, Try.ntmps59
    go_wp2
    repeat (go_quiet (fail); try go_wp2)
    go_ret
    exact ⟨rfl, by repeat (first | exact Below.refl _ _ | apply below_alloc | apply pw_below_drewN | apply below_drew)⟩
  have c2b : decide (12 < a) = false := decide_eq_false c2
  by_cases c3 : b < 0
  · rw [if_pos (by omega)] at h
    subst h
    have c3b : decide (b < 0) = true := decide_eq_true c3
    clear c1 c2 c3
    go_enter Try.func59, Try.ntmps59
    go_wp2
    repeat (go_quiet (fail); try go_wp2)
    go_ret
    exact ⟨rfl, by repeat (first | exact Below.refl _ _ | apply below_alloc | apply pw_below_drewN | apply below_drew)⟩
  have c3b : decide (b < 0) = false := decide_eq_false c3
  by_cases c4 : b > 7
  · rw [if_pos (by omega)] at h
    subst h
    have c4b : decide (7 < b) = true := decide_eq_true c4
    clear c1 c2 c3 c4
    go_enter Try.func59, Try.ntmps59
    go_wp2
    repeat (go_quiet (fail); try go_wp2)
    go_ret
    exact ⟨rfl, by repeat (first | exact Below.refl _ _ | apply below_alloc | apply pw_below_drewN | apply below_drew)⟩
  have c4b : decide (7 < b) = false := decide_eq_false c4
  rw [if_neg (by omega)] at h
  subst h
  clear c1 c2 c3 c4
  go_enter Try.func59, Try.ntmps59
  go_wp2
  repeat (go_quiet (fail); try go_wp2)
  go_ret
  exact ⟨rfl, by repeat (first | exact Below.refl _ _ | apply below_alloc | apply pw_below_drewN | apply below_drew)⟩
theorem counts_Check.at1 (a b : Int) (w : World) (r : Int) (h : (if b < 1 ∨ b > 12 ∨ a < 0 ∨ a > 7 then (8 : Int) else 0) = r) :
    Calls Try.prog 59 #[.agg #[.int .i32 a, .int .i32 b, .int .u8 1]] w fun e w' => e = .returned (.int .i64 r) ∧ Below w.heap.size w w' := by
  by_cases c1 : b < 1
  · rw [if_pos (by omega)] at h
    subst h
    have c1b : decide (b < 1) = true := decide_eq_true c1
    clear c1
    go_enter Try.func59, Try.ntmps59
    go_wp2
    repeat (go_quiet (fail); try go_wp2)
    go_ret
    exact ⟨rfl, by repeat (first | exact Below.refl _ _ | apply below_alloc | apply pw_below_drewN | apply below_drew)⟩
  have c1b : decide (b < 1) = false := decide_eq_false c1
  by_cases c2 : b > 12
  · rw [if_pos (by omega)] at h
    subst h
    have c2b : decide (12 < b) = true := decide_eq_true c2
    clear c1 c2
    go_enter Try.func59, Try.ntmps59
    go_wp2
    repeat (go_quiet (fail); try go_wp2)
    go_ret
    exact ⟨rfl, by repeat (first | exact Below.refl _ _ | apply below_alloc | apply pw_below_drewN | apply below_drew)⟩
  have c2b : decide (12 < b) = false := decide_eq_false c2
  by_cases c3 : a < 0
  · rw [if_pos (by omega)] at h
    subst h
    have c3b : decide (a < 0) = true := decide_eq_true c3
    clear c1 c2 c3
    go_enter Try.func59, Try.ntmps59
    go_wp2
    repeat (go_quiet (fail); try go_wp2)
    go_ret
    exact ⟨rfl, by repeat (first | exact Below.refl _ _ | apply below_alloc | apply pw_below_drewN | apply below_drew)⟩
  have c3b : decide (a < 0) = false := decide_eq_false c3
  by_cases c4 : a > 7
  · rw [if_pos (by omega)] at h
    subst h
    have c4b : decide (7 < a) = true := decide_eq_true c4
    clear c1 c2 c3 c4
    go_enter Try.func59, Try.ntmps59
    go_wp2
    repeat (go_quiet (fail); try go_wp2)
    go_ret
    exact ⟨rfl, by repeat (first | exact Below.refl _ _ | apply below_alloc | apply pw_below_drewN | apply below_drew)⟩
  have c4b : decide (7 < a) = false := decide_eq_false c4
  rw [if_neg (by omega)] at h
  subst h
  clear c1 c2 c3 c4
  go_enter Try.func59, Try.ntmps59
  go_wp2
  repeat (go_quiet (fail); try go_wp2)
  go_ret
  exact ⟨rfl, by repeat (first | exact Below.refl _ _ | apply below_alloc | apply pw_below_drewN | apply below_drew)⟩
theorem counts_Check.calls (a0_0 : Int) (a0_1 : Int) (a0_2 : Int) (r : Int) (w : World) (h : counts_Check.f a0_0 a0_1 a0_2 = some r) :
    Calls Try.prog 59 #[.agg #[.int .i32 a0_0, .int .i32 a0_1, .int .u8 a0_2]] w fun e w' => e = .returned (.int .i64 r) ∧ Below w.heap.size w w' := by
  unfold counts_Check.f at h
  by_cases c1 : a0_2 < 0
  · rw [if_pos c1] at h
    exact absurd h (by simp)
  rw [if_neg c1] at h
  by_cases c2 : a0_0 = 0 ∧ a0_1 = 0 ∧ a0_2 = 0
  · rw [if_pos c2] at h
    obtain ⟨rfl, rfl, rfl⟩ := c2
    obtain rfl := Option.some.inj h
    exact counts_Check.zero w
  rw [if_neg c2] at h
  by_cases c3 : a0_2 > 1
  · rw [if_pos c3] at h
    obtain rfl := Option.some.inj h
    exact counts_Check.far a0_0 a0_1 a0_2 w c3
  rw [if_neg c3] at h
  by_cases c4 : a0_2 = 0
  · rw [if_pos c4] at h
    subst c4
    refine counts_Check.at0 a0_0 a0_1 w r (by omega) ?_
    split at h <;> rename_i c
    · rw [if_pos c]; exact Option.some.inj h
    · rw [if_neg c]; exact Option.some.inj h
  · rw [if_neg c4] at h
    obtain rfl : a0_2 = 1 := by omega
    refine counts_Check.at1 a0_0 a0_1 w r ?_
    split at h <;> rename_i c
    · rw [if_pos c]; exact Option.some.inj h
    · rw [if_neg c]; exact Option.some.inj h

/-! ### counts_next: function 60 -/
/-- The number that shrinks. -/
def counts_next.less (x : Int) : Int := if x > 2 then x / 2 + 1 else x
/-- The next count of one whose numbers are from 0 to 12. -/
def counts_next.f (a0_0 : Int) (a0_1 : Int) (a0_2 : Int) (a1 : Int) : Option (Int × Int × Int) :=
  if 0 ≤ a0_0 ∧ a0_0 ≤ 12 ∧ 0 ≤ a0_1 ∧ a0_1 ≤ 12 then
    (if a1 = 0 then some (if a0_0 < 12 then a0_0 + 1 else 12, counts_next.less a0_1, 0) else if a1 = 1 then some (counts_next.less a0_0, if a0_1 < 12 then a0_1 + 1 else 12, 1) else none)
  else none
set_option maxHeartbeats 4000000 in
theorem counts_next.goes (a b c d : Int) (w : World) (hd : d = 0 ∨ d = 1) (ha : 0 ≤ a) (ha' : a ≤ 12) (hb : 0 ≤ b) (hb' : b ≤ 12) :
    Calls Try.prog 60 #[.agg #[.int .i32 a, .int .i32 b, .int .u8 c], .int .u8 d] w fun e w' => e = .returned (.agg #[.int .i32 (if d = 0 then (if a < 12 then a + 1 else 12) else counts_next.less a), .int .i32 (if d = 0 then counts_next.less b else if b < 12 then b + 1 else 12), .int .u8 d]) ∧ Below w.heap.size w w' := by
  unfold counts_next.less
  rcases hd with rfl | rfl
  · by_cases c1 : a < 12
    · by_cases c2 : b > 2
      · rw [if_pos rfl, if_pos rfl, if_pos c1, if_pos c2]
        have c1b : decide (12 < a + 1) = false := decide_eq_false (by omega)
        have c2b : decide (2 < b) = true := decide_eq_true c2
        go_enter Try.func60, Try.ntmps60
        go_wp2
        refine bodyPost_ret (v := .agg #[.int .i32 (a + 1), .int .i32 (b / 2 + 1), .int .u8 0]) (by simp [results, Try.results60, go_sem]) rfl ⟨rfl, ?_⟩
        repeat (first | exact Below.refl _ _ | apply below_alloc | apply pw_below_drewN | apply below_drew | refine below_set ?_ (by simp))
      · rw [if_pos rfl, if_pos rfl, if_pos c1, if_neg c2]
        have c1b : decide (12 < a + 1) = false := decide_eq_false (by omega)
        have c2b : decide (2 < b) = false := decide_eq_false c2
        go_enter Try.func60, Try.ntmps60
        go_wp2
        refine bodyPost_ret (v := .agg #[.int .i32 (a + 1), .int .i32 (b), .int .u8 0]) (by simp [results, Try.results60, go_sem]) rfl ⟨rfl, ?_⟩
        repeat (first | exact Below.refl _ _ | apply below_alloc | apply pw_below_drewN | apply below_drew | refine below_set ?_ (by simp))
    · by_cases c2 : b > 2
      · rw [if_pos rfl, if_pos rfl, if_neg c1, if_pos c2]
        have c1b : decide (12 < a + 1) = true := decide_eq_true (by omega)
        have c2b : decide (2 < b) = true := decide_eq_true c2
        go_enter Try.func60, Try.ntmps60
        go_wp2
        refine bodyPost_ret (v := .agg #[.int .i32 (12), .int .i32 (b / 2 + 1), .int .u8 0]) (by simp [results, Try.results60, go_sem]) rfl ⟨rfl, ?_⟩
        repeat (first | exact Below.refl _ _ | apply below_alloc | apply pw_below_drewN | apply below_drew | refine below_set ?_ (by simp))
      · rw [if_pos rfl, if_pos rfl, if_neg c1, if_neg c2]
        have c1b : decide (12 < a + 1) = true := decide_eq_true (by omega)
        have c2b : decide (2 < b) = false := decide_eq_false c2
        go_enter Try.func60, Try.ntmps60
        go_wp2
        refine bodyPost_ret (v := .agg #[.int .i32 (12), .int .i32 (b), .int .u8 0]) (by simp [results, Try.results60, go_sem]) rfl ⟨rfl, ?_⟩
        repeat (first | exact Below.refl _ _ | apply below_alloc | apply pw_below_drewN | apply below_drew | refine below_set ?_ (by simp))
  · by_cases c1 : b < 12
    · by_cases c2 : a > 2
      · rw [if_neg (show ¬ (1 : Int) = 0 by decide), if_neg (show ¬ (1 : Int) = 0 by decide), if_pos c2, if_pos c1]
        have c1b : decide (12 < b + 1) = false := decide_eq_false (by omega)
        have c2b : decide (2 < a) = true := decide_eq_true c2
        go_enter Try.func60, Try.ntmps60
        go_wp2
        refine bodyPost_ret (v := .agg #[.int .i32 (a / 2 + 1), .int .i32 (b + 1), .int .u8 1]) (by simp [results, Try.results60, go_sem]) rfl ⟨rfl, ?_⟩
        repeat (first | exact Below.refl _ _ | apply below_alloc | apply pw_below_drewN | apply below_drew | refine below_set ?_ (by simp))
      · rw [if_neg (show ¬ (1 : Int) = 0 by decide), if_neg (show ¬ (1 : Int) = 0 by decide), if_neg c2, if_pos c1]
        have c1b : decide (12 < b + 1) = false := decide_eq_false (by omega)
        have c2b : decide (2 < a) = false := decide_eq_false c2
        go_enter Try.func60, Try.ntmps60
        go_wp2
        refine bodyPost_ret (v := .agg #[.int .i32 (a), .int .i32 (b + 1), .int .u8 1]) (by simp [results, Try.results60, go_sem]) rfl ⟨rfl, ?_⟩
        repeat (first | exact Below.refl _ _ | apply below_alloc | apply pw_below_drewN | apply below_drew | refine below_set ?_ (by simp))
    · by_cases c2 : a > 2
      · rw [if_neg (show ¬ (1 : Int) = 0 by decide), if_neg (show ¬ (1 : Int) = 0 by decide), if_pos c2, if_neg c1]
        have c1b : decide (12 < b + 1) = true := decide_eq_true (by omega)
        have c2b : decide (2 < a) = true := decide_eq_true c2
        go_enter Try.func60, Try.ntmps60
        go_wp2
        refine bodyPost_ret (v := .agg #[.int .i32 (a / 2 + 1), .int .i32 (12), .int .u8 1]) (by simp [results, Try.results60, go_sem]) rfl ⟨rfl, ?_⟩
        repeat (first | exact Below.refl _ _ | apply below_alloc | apply pw_below_drewN | apply below_drew | refine below_set ?_ (by simp))
      · rw [if_neg (show ¬ (1 : Int) = 0 by decide), if_neg (show ¬ (1 : Int) = 0 by decide), if_neg c2, if_neg c1]
        have c1b : decide (12 < b + 1) = true := decide_eq_true (by omega)
        have c2b : decide (2 < a) = false := decide_eq_false c2
        go_enter Try.func60, Try.ntmps60
        go_wp2
        refine bodyPost_ret (v := .agg #[.int .i32 (a), .int .i32 (12), .int .u8 1]) (by simp [results, Try.results60, go_sem]) rfl ⟨rfl, ?_⟩
        repeat (first | exact Below.refl _ _ | apply below_alloc | apply pw_below_drewN | apply below_drew | refine below_set ?_ (by simp))
theorem counts_next.calls (a0_0 : Int) (a0_1 : Int) (a0_2 : Int) (a1 : Int) (r1 : Int) (r2 : Int) (r3 : Int) (w : World) (h : counts_next.f a0_0 a0_1 a0_2 a1 = some (r1, r2, r3)) :
    Calls Try.prog 60 #[.agg #[.int .i32 a0_0, .int .i32 a0_1, .int .u8 a0_2], .int .u8 a1] w fun e w' => e = .returned (.agg #[.int .i32 r1, .int .i32 r2, .int .u8 r3]) ∧ Below w.heap.size w w' := by
  unfold counts_next.f at h
  by_cases c : 0 ≤ a0_0 ∧ a0_0 ≤ 12 ∧ 0 ≤ a0_1 ∧ a0_1 ≤ 12
  · rw [if_pos c] at h
    by_cases d : a1 = 0
    · rw [if_pos d] at h
      simp only [Option.some.injEq, Prod.mk.injEq] at h
      obtain ⟨rfl, rfl, rfl⟩ := h
      subst d
      exact counts_next.goes a0_0 a0_1 a0_2 0 w (.inl rfl) c.1 c.2.1 c.2.2.1 c.2.2.2
    · rw [if_neg d] at h
      by_cases e : a1 = 1
      · rw [if_pos e] at h
        simp only [Option.some.injEq, Prod.mk.injEq] at h
        obtain ⟨rfl, rfl, rfl⟩ := h
        subst e
        exact counts_next.goes a0_0 a0_1 a0_2 1 w (.inr rfl) c.1 c.2.1 c.2.2.1 c.2.2.2
      · rw [if_neg e] at h
        exact absurd h (by simp)
  · rw [if_neg c] at h
    exact absurd h (by simp)

/-! ### counts_Run: function 54 -/
mutual
def counts_Run.j0 : Nat → List Int → Int → Int → Int → Option (Int × Int × Int × Int)
 | 0, _, _, _, _ => none
 | k + 1, x1, x168000, x168001, x168002 => counts_Run.l0 k x1 (x1.length : Int) 0 x168000 x168001 x168002
def counts_Run.l0 : Nat → List Int → Int → Int → Int → Int → Int → Option (Int × Int × Int × Int)
 | 0, _, _, _, _, _, _ => none
 | k + 1, x31, x32, x33, x168000, x168001, x168002 => if x33 < x32 then (if 0 ≤ x33 then (if x33 < (x31.length : Int) then ((counts_next.f x168000 x168001 x168002 (rd x31 x33)).bind fun bt172 => (counts_Run.l0 k x31 x32 (wrap64 (x33 + 1)) bt172.1 bt172.2.1 bt172.2.2)) else (none)) else (none)) else (some (x168000, x168001, x168002, 0))
end
def counts_Run.f (k : Nat) (a0_0 : Int) (a0_1 : Int) (a0_2 : Int) (l1 : List Int) : Option (Int × Int × Int × Int) := (counts_Check.f a0_0 a0_1 a0_2).bind fun t169 => (if t169 = 0 then (if (l1.length : Int) > 20000 then (some (0, 0, 0, 4)) else (if (l1.length : Int) > 0 then ((slices_Max_uint8_uint8.f k l1).bind fun t170 => (if t170 > 1 then (some (0, 0, 0, 2)) else (counts_Run.j0 k l1 a0_0 a0_1 a0_2))) else (counts_Run.j0 k l1 a0_0 a0_1 a0_2))) else (some (0, 0, 0, t169)))
theorem counts_Run.mono_l : ∀ k, (∀ y0 y1 y2 y3, LeO (counts_Run.j0 k y0 y1 y2 y3) (counts_Run.j0 (k + 1) y0 y1 y2 y3)) ∧ (∀ y0 y1 y2 y3 y4 y5, LeO (counts_Run.l0 k y0 y1 y2 y3 y4 y5) (counts_Run.l0 (k + 1) y0 y1 y2 y3 y4 y5))
 | 0 => ⟨fun _ _ _ _ r h => by simp [counts_Run.j0] at h, fun _ _ _ _ _ _ r h => by simp [counts_Run.l0] at h⟩
 | k + 1 => by
  obtain ⟨ih0, ih1⟩ := counts_Run.mono_l k; refine ⟨?_, ?_⟩
  ·
   intro y0 y1 y2 y3
   unfold counts_Run.j0
   repeat' first
   | (with_reducible exact ih0 _ _ _ _)
   | (with_reducible exact ih1 _ _ _ _ _ _)
   | (with_reducible exact slices_Max_uint8_uint8.mono _ _)
   | (with_reducible exact LeO.refl _)
   | (with_reducible exact LeO.none _)
   | (with_reducible refine LeO.ite ?_ ?_)
   | (with_reducible refine LeO.bind ?_ (fun _ => ?_))
   | exact ih0 _ _ _ _
   | exact ih1 _ _ _ _ _ _
   | exact slices_Max_uint8_uint8.mono _ _
   | exact LeO.none _
   | refine LeO.ite ?_ ?_
   | refine LeO.bind ?_ (fun _ => ?_)
  ·
   intro y0 y1 y2 y3 y4 y5
   unfold counts_Run.l0
   repeat' first
   | (with_reducible exact ih0 _ _ _ _)
   | (with_reducible exact ih1 _ _ _ _ _ _)
   | (with_reducible exact slices_Max_uint8_uint8.mono _ _)
   | (with_reducible exact LeO.refl _)
   | (with_reducible exact LeO.none _)
   | (with_reducible refine LeO.ite ?_ ?_)
   | (with_reducible refine LeO.bind ?_ (fun _ => ?_))
   | exact ih0 _ _ _ _
   | exact ih1 _ _ _ _ _ _
   | exact slices_Max_uint8_uint8.mono _ _
   | exact LeO.none _
   | refine LeO.ite ?_ ?_
   | refine LeO.bind ?_ (fun _ => ?_)
theorem counts_Run.mono : ∀ a0 a1 a2 a3 k, LeO (counts_Run.f k a0 a1 a2 a3) (counts_Run.f (k + 1) a0 a1 a2 a3) := by
 intro a0 a1 a2 a3 k; obtain ⟨ih0, ih1⟩ := counts_Run.mono_l k
 unfold counts_Run.f
 repeat' first
   | (with_reducible exact ih0 _ _ _ _)
   | (with_reducible exact ih1 _ _ _ _ _ _)
   | (with_reducible exact slices_Max_uint8_uint8.mono _ _)
   | (with_reducible exact LeO.refl _)
   | (with_reducible exact LeO.none _)
   | (with_reducible refine LeO.ite ?_ ?_)
   | (with_reducible refine LeO.bind ?_ (fun _ => ?_))
   | exact ih0 _ _ _ _
   | exact ih1 _ _ _ _ _ _
   | exact slices_Max_uint8_uint8.mono _ _
   | exact LeO.none _
   | refine LeO.ite ?_ ?_
   | refine LeO.bind ?_ (fun _ => ?_)
set_option maxHeartbeats 8000000 in
set_option maxRecDepth 100000 in
theorem counts_Run.calls (k : Nat) (a0_0 : Int) (a0_1 : Int) (a0_2 : Int) (A1 : Option Addr) (c1 : Nat) (l1 : List Int) (r1 : Int) (r2 : Int) (r3 : Int) (r4 : Int) (w : World) (hr1 : Kd.C (Kd.int .u8) w A1 l1.length l1) (hc1 : l1.length ≤ c1) (h : counts_Run.f k a0_0 a0_1 a0_2 l1 = some (r1, r2, r3, r4)) :
  Calls Try.prog 54 #[.agg #[.int .i32 a0_0, .int .i32 a0_1, .int .u8 a0_2], .slice A1 l1.length c1] w fun e w' => e = .returned (.tuple #[.agg #[.int .i32 r1, .int .i32 r2, .int .u8 r3], .int .i64 r4]) ∧ Below w.heap.size w w' := by
 have hu76 := Try.underlying76; have HR1 := Aside0.mk hr1; have HC1 := Aside0.mk hc1; clear hr1 hc1; have HB := Aside0.mk (Below.refl w.heap.size w); have H : ((counts_Check.f a0_0 a0_1 a0_2).bind fun t169 => (if t169 = 0 then (if (l1.length : Int) > 20000 then (some (0, 0, 0, 4)) else (if (l1.length : Int) > 0 then ((slices_Max_uint8_uint8.f k l1).bind fun t170 => (if t170 > 1 then (some (0, 0, 0, 2)) else (counts_Run.j0 k l1 a0_0 a0_1 a0_2))) else (counts_Run.j0 k l1 a0_0 a0_1 a0_2))) else (some (0, 0, 0, t169)))) = some (r1, r2, r3, r4) := h; clear h; replace H := Option.bind_eq_some_iff.mp H; obtain ⟨t169, A30, H⟩ := H; replace H : (if t169 = 0 then (if (l1.length : Int) > 20000 then (some (0, 0, 0, 4)) else (if (l1.length : Int) > 0 then ((slices_Max_uint8_uint8.f k l1).bind fun t170 => (if t170 > 1 then (some (0, 0, 0, 2)) else (counts_Run.j0 k l1 a0_0 a0_1 a0_2))) else (counts_Run.j0 k l1 a0_0 a0_1 a0_2))) else (some (0, 0, 0, t169))) = some (r1, r2, r3, r4) := H; have A3 := Aside0.mk A30; clear A30; have HC4 := Aside0.mk H; clear H
 go_enter Try.func54, Try.ntmps54
 go_upto_block 0 with (first | ((with_reducible refine gate_dst (N := 2) rfl ?_); refine box_event ?hg (N := 2) ?hd (cs := #[.int .i32 a0_0, .int .i32 a0_1, .int .u8 a0_2]) (t := 76) ?hr ?_; (case hd => rfl); (case hg => rfl); (case hr => first | (go_simp; done) | (go_simp; rfl)); intro gb167 hg w5 hbox hb; have n0_ := Aside0.mk (below_step (pH_ HB.out) hb); have n1_ := Aside0.mk (hbox); have n2_ := Aside0.mk ((by rw [hg]; exact (below_size (pH_ HB.out)) : w.heap.size ≤ gb167)); have n3_ := Aside0.mk ((by rw [hg]; exact (below_size (pH_ HB.out)) : w.heap.size ≤ gb167)); clear HB; have HB := n0_; have BK167 := n1_; have GW167 := n2_; have GE167 := n3_; clear n0_ n1_ n2_ n3_; clear hb hbox hg) | ((with_reducible refine gate_dst (N := 4) rfl ?_); refine box_event ?hg (N := 4) ?hd (cs := #[.int .i32 0, .int .i32 0, .int .u8 0]) (t := 76) ?hr ?_; (case hd => rfl); (case hg => rfl); (case hr => first | (go_simp; done) | (go_simp; rfl)); intro gb168 hg w6 hbox hb; have n0_ := Aside0.mk (blk_below (pG_ BK167.out) hb); have n1_ := Aside0.mk (below_step (pH_ HB.out) hb); have n2_ := Aside0.mk (hbox); have n3_ := Aside0.mk ((by rw [hg]; exact (below_size (pH_ HB.out)) : w.heap.size ≤ gb168)); have n4_ := Aside0.mk ((by rw [hg]; exact (below_size (pH_ HB.out)) : w.heap.size ≤ gb168)); have n5_ := Aside0.mk ((by rw [hg]; exact Nat.ne_of_lt (blk_lt (pG_ BK167.out)) : gb167 ≠ gb168)); have n6_ := Aside0.mk ((by rw [hg]; exact Nat.ne_of_gt (blk_lt (pG_ BK167.out)) : gb168 ≠ gb167)); clear BK167; clear HB; have BK167 := n0_; have HB := n1_; have BK168 := n2_; have GW168 := n3_; have GE168 := n4_; have NB167_168 := n5_; have NB168_167 := n6_; clear n0_ n1_ n2_ n3_ n4_ n5_ n6_; clear hb hbox hg; have hnb7 := NB167_168.out; have hnc7 := NB168_167.out; have hcz8_0 : w6.cell? ⟨gb167, 0, none⟩ = some (.int .i32 a0_0) := (blk_cell BK167.out 0).trans rfl; have hcz8_1 : w6.cell? ⟨gb167, 1, none⟩ = some (.int .i32 a0_1) := (blk_cell BK167.out 1).trans rfl; have hcz8_2 : w6.cell? ⟨gb167, 2, none⟩ = some (.int .u8 a0_2) := (blk_cell BK167.out 2).trans rfl; have hfz8_0 := blk_frozen BK167.out 0; have hfz8_1 := blk_frozen BK167.out 1; have hfz8_2 := blk_frozen BK167.out 2) | ((with_reducible refine gate_callee (f := 59) rfl ?_); refine gL_ (some 10) Try.func59 #[.agg #[.int .i32 a0_0, .int .i32 a0_1, .int .u8 a0_2]] ?_; (with_reducible refine (counts_Check.calls a0_0 a0_1 a0_2 t169 _ A3.out).mono ?_); rintro e w9 ⟨rfl, hb⟩; refine ⟨_, rfl, ?_⟩; have n0_ := Aside0.mk (blk_below (pG_ BK167.out) hb); have n1_ := Aside0.mk (blk_below (pG_ BK168.out) hb); have n2_ := Aside0.mk (below_step (pH_ HB.out) hb); clear BK167; clear BK168; clear HB; have BK167 := n0_; have BK168 := n1_; have HB := n2_; clear n0_ n1_ n2_; (try clear hb)))
 (try simp only [Act.put, sA_, sZ_, sS_]); (with_reducible first | refine then_id_ ?_ | (refine wp_tail_ ?_; intro Kt_ hKt_))
 go_cut [] (fun wc => ∃ (kq : Nat) (x169000_3 : Int) (x169001_3 : Int) (x169002_3 : Int), Aside0 (counts_Run.j0 kq l1 a0_0 a0_1 a0_2 = some (r1, r2, r3, r4)) ∧ Aside0 (kq ≤ k) ∧ Aside0 (wc.heap[gb167]? = some (.cells #[.int .i32 a0_0, .int .i32 a0_1, .int .u8 a0_2] 76 (0, 0))) ∧ Aside0 (wc.heap[gb168]? = some (.cells #[.int .i32 x169000_3, .int .i32 x169001_3, .int .u8 x169002_3] 76 (0, 0))) ∧ Aside0 (Below w.heap.size w wc))
 case first =>
  have H := HC4.out; clear HC4
  by_cases c10 : t169 = 0
  ·
   rw [if_pos c10] at H; have c10b0 : (t169 == 0) = true := beq_iff_eq.mpr c10; have c10b1 : (t169 != 0) = false := bne_eq_false_iff_eq.mpr c10; clear c10; (first | rw [c10b0] | (simp only [i64_w, i32_w]; rw [c10b0]) | skip)
   by_cases c11 : (l1.length : Int) > 20000
   ·
    rw [if_pos c11] at H; have c11b0 : decide (20000 < (l1.length : Int)) = true := decide_eq_true c11; have c11b1 : decide (20000 < l1.length) = true := decide_eq_true (by omega); clear c11; simp only [Option.some.injEq, Prod.mk.injEq] at H; obtain ⟨rfl, rfl, rfl, rfl⟩ := H; have hnb12 := NB168_167.out; have hnc12 := NB167_168.out; have hcz13_0 : w9.cell? ⟨gb168, 0, none⟩ = some (.int .i32 0) := (blk_cell BK168.out 0).trans rfl; have hcz13_1 : w9.cell? ⟨gb168, 1, none⟩ = some (.int .i32 0) := (blk_cell BK168.out 1).trans rfl; have hcz13_2 : w9.cell? ⟨gb168, 2, none⟩ = some (.int .u8 0) := (blk_cell BK168.out 2).trans rfl; have hfz13_0 := blk_frozen BK168.out 0; have hfz13_1 := blk_frozen BK168.out 1; have hfz13_2 := blk_frozen BK168.out 2
    go_wp2
    refine bodyPost_ret (results_ct rfl _ _ gb168 76 #[.int .i32 0, .int .i32 0, .int .u8 0] (0, 0) _ rfl (by (with_reducible repeat (first | refine blk_drewN ?_ _ | refine blk_drew ?_ | refine blk_alloc ?_ _)); refine blk_put (cs := #[.int .i32 0, .int .i32 0, .int .u8 0]) ?_ 2 _ rfl; (with_reducible repeat (first | refine blk_drewN ?_ _ | refine blk_drew ?_ | refine blk_alloc ?_ _)); refine blk_put (cs := #[.int .i32 0, .int .i32 0, .int .u8 0]) ?_ 1 _ rfl; (with_reducible repeat (first | refine blk_drewN ?_ _ | refine blk_drew ?_ | refine blk_alloc ?_ _)); refine blk_put (cs := #[.int .i32 0, .int .i32 0, .int .u8 0]) ?_ 0 _ rfl; (with_reducible repeat (first | refine blk_drewN ?_ _ | refine blk_drew ?_ | refine blk_alloc ?_ _)); exact BK168.out) Try.underlying76 rfl (by kernel_rfl)) rfl ?_; exact ⟨by first | rfl | (simp [errW_none, errW_some] <;> rfl) | (simp [*, errW_none, errW_some] <;> rfl), pH_ HB.out⟩
   ·
    rw [if_neg c11] at H; have c11b0 : decide (20000 < (l1.length : Int)) = false := decide_eq_false c11; have c11b1 : decide (20000 < l1.length) = false := decide_eq_false (by omega); clear c11
    by_cases c14 : (l1.length : Int) > 0
    ·
     rw [if_pos c14] at H; have c14b0 : decide (0 < (l1.length : Int)) = true := decide_eq_true c14; have c14b1 : decide (0 < l1.length) = true := decide_eq_true (by omega); clear c14; replace H := Option.bind_eq_some_iff.mp H; obtain ⟨t170, A150, H⟩ := H; replace H : (if t170 > 1 then (some (0, 0, 0, 2)) else (counts_Run.j0 k l1 a0_0 a0_1 a0_2)) = some (r1, r2, r3, r4) := H; have A15 := Aside0.mk A150; clear A150
     by_cases c16 : t170 > 1
     ·
      rw [if_pos c16] at H; have c16b0 : decide (1 < t170) = true := decide_eq_true c16; clear c16; simp only [Option.some.injEq, Prod.mk.injEq] at H; obtain ⟨rfl, rfl, rfl, rfl⟩ := H
      go_wp2_with (first | (go_at_call 39; (with_reducible refine (slices_Max_uint8_uint8.calls k _ _ l1 t170 _ ?side1 ?side2 A15.out).mono ?_); (case side1 => repeat (first | exact (Kd.C_below HR1.out HB.out) | (with_reducible refine Kd.C_alloc ?_ _) | (with_reducible refine Kd.C_drewN ?_ _) | (with_reducible refine Kd.C_drew ?_))); (case side2 => exact HC1.out); rintro e w17 ⟨rfl, hb⟩; have n0_ := Aside0.mk (blk_below (pG_ BK167.out) hb); have n1_ := Aside0.mk (blk_below (pG_ BK168.out) hb); have n2_ := Aside0.mk (below_step (pH_ HB.out) hb); clear BK167; clear BK168; clear HB; have BK167 := n0_; have BK168 := n1_; have HB := n2_; clear n0_ n1_ n2_; (try clear hb); have hnb18 := NB168_167.out; have hnc18 := NB167_168.out; have hcz19_0 : w17.cell? ⟨gb168, 0, none⟩ = some (.int .i32 0) := (blk_cell BK168.out 0).trans rfl; have hcz19_1 : w17.cell? ⟨gb168, 1, none⟩ = some (.int .i32 0) := (blk_cell BK168.out 1).trans rfl; have hcz19_2 : w17.cell? ⟨gb168, 2, none⟩ = some (.int .u8 0) := (blk_cell BK168.out 2).trans rfl; have hfz19_0 := blk_frozen BK168.out 0; have hfz19_1 := blk_frozen BK168.out 1; have hfz19_2 := blk_frozen BK168.out 2))
      refine bodyPost_ret (results_ct rfl _ _ gb168 76 #[.int .i32 0, .int .i32 0, .int .u8 0] (0, 0) _ rfl (by (with_reducible repeat (first | refine blk_drewN ?_ _ | refine blk_drew ?_ | refine blk_alloc ?_ _)); refine blk_put (cs := #[.int .i32 0, .int .i32 0, .int .u8 0]) ?_ 2 _ rfl; (with_reducible repeat (first | refine blk_drewN ?_ _ | refine blk_drew ?_ | refine blk_alloc ?_ _)); refine blk_put (cs := #[.int .i32 0, .int .i32 0, .int .u8 0]) ?_ 1 _ rfl; (with_reducible repeat (first | refine blk_drewN ?_ _ | refine blk_drew ?_ | refine blk_alloc ?_ _)); refine blk_put (cs := #[.int .i32 0, .int .i32 0, .int .u8 0]) ?_ 0 _ rfl; (with_reducible repeat (first | refine blk_drewN ?_ _ | refine blk_drew ?_ | refine blk_alloc ?_ _)); exact BK168.out) Try.underlying76 rfl (by kernel_rfl)) rfl ?_; exact ⟨by first | rfl | (simp [errW_none, errW_some] <;> rfl) | (simp [*, errW_none, errW_some] <;> rfl), pH_ HB.out⟩
     ·
      rw [if_neg c16] at H; have c16b0 : decide (1 < t170) = false := decide_eq_false c16; clear c16; have H' := Aside0.mk H; clear H
      go_wp2_with (first | (go_at_call 39; (with_reducible refine (slices_Max_uint8_uint8.calls k _ _ l1 t170 _ ?side1 ?side2 A15.out).mono ?_); (case side1 => repeat (first | exact (Kd.C_below HR1.out HB.out) | (with_reducible refine Kd.C_alloc ?_ _) | (with_reducible refine Kd.C_drewN ?_ _) | (with_reducible refine Kd.C_drew ?_))); (case side2 => exact HC1.out); rintro e w20 ⟨rfl, hb⟩; have n0_ := Aside0.mk (blk_below (pG_ BK167.out) hb); have n1_ := Aside0.mk (blk_below (pG_ BK168.out) hb); have n2_ := Aside0.mk (below_step (pH_ HB.out) hb); clear BK167; clear BK168; clear HB; have BK167 := n0_; have BK168 := n1_; have HB := n2_; clear n0_ n1_ n2_; (try clear hb)))
      (first | go_meet | (refine Met.intro ?_; go_step; (repeat apply Exists.intro); refine ⟨?rel, ?eqf_⟩; case eqf_ => ((simp only [c16b0, c14b0, c11b0, c10b0]) <;> rfl)))
      case rel => exact ⟨_, (0), (0), (0), H', ⟨by first | omega | exact Nat.le_refl _⟩, ⟨pG_ BK167.out⟩, ⟨pG_ BK168.out⟩, ⟨pH_ HB.out⟩⟩
    ·
     rw [if_neg c14] at H; have c14b0 : decide (0 < (l1.length : Int)) = false := decide_eq_false c14; have c14b1 : decide (0 < l1.length) = false := decide_eq_false (by omega); clear c14; have H' := Aside0.mk H; clear H
     go_wp2
     (first | go_meet | (refine Met.intro ?_; go_step; (repeat apply Exists.intro); refine ⟨?rel, ?eqf_⟩; case eqf_ => ((simp only [c14b0, c11b0, c10b0]) <;> rfl)))
     case rel => exact ⟨_, (0), (0), (0), H', ⟨by first | omega | exact Nat.le_refl _⟩, ⟨pG_ BK167.out⟩, ⟨pG_ BK168.out⟩, ⟨pH_ HB.out⟩⟩
  ·
   rw [if_neg c10] at H; have c10b0 : (t169 == 0) = false := beq_eq_false_iff_ne.mpr c10; have c10b1 : (t169 != 0) = true := bne_iff_ne.mpr c10; (first | rw [c10b0] | (simp only [i64_w, i32_w]; rw [c10b0]) | skip); simp only [Option.some.injEq, Prod.mk.injEq] at H; obtain ⟨rfl, rfl, rfl, rfl⟩ := H; have hnb21 := NB168_167.out; have hnc21 := NB167_168.out; have hcz22_0 : w9.cell? ⟨gb168, 0, none⟩ = some (.int .i32 0) := (blk_cell BK168.out 0).trans rfl; have hcz22_1 : w9.cell? ⟨gb168, 1, none⟩ = some (.int .i32 0) := (blk_cell BK168.out 1).trans rfl; have hcz22_2 : w9.cell? ⟨gb168, 2, none⟩ = some (.int .u8 0) := (blk_cell BK168.out 2).trans rfl; have hfz22_0 := blk_frozen BK168.out 0; have hfz22_1 := blk_frozen BK168.out 1; have hfz22_2 := blk_frozen BK168.out 2
   go_wp2
   refine bodyPost_ret (results_ct rfl _ _ gb168 76 #[.int .i32 0, .int .i32 0, .int .u8 0] (0, 0) _ rfl (by (with_reducible repeat (first | refine blk_drewN ?_ _ | refine blk_drew ?_ | refine blk_alloc ?_ _)); refine blk_put (cs := #[.int .i32 0, .int .i32 0, .int .u8 0]) ?_ 2 _ rfl; (with_reducible repeat (first | refine blk_drewN ?_ _ | refine blk_drew ?_ | refine blk_alloc ?_ _)); refine blk_put (cs := #[.int .i32 0, .int .i32 0, .int .u8 0]) ?_ 1 _ rfl; (with_reducible repeat (first | refine blk_drewN ?_ _ | refine blk_drew ?_ | refine blk_alloc ?_ _)); refine blk_put (cs := #[.int .i32 0, .int .i32 0, .int .u8 0]) ?_ 0 _ rfl; (with_reducible repeat (first | refine blk_drewN ?_ _ | refine blk_drew ?_ | refine blk_alloc ?_ _)); exact BK168.out) Try.underlying76 rfl (by kernel_rfl)) rfl ?_; exact ⟨by first | rfl | (simp [errW_none, errW_some] <;> rfl) | (simp [*, errW_none, errW_some] <;> rfl), pH_ HB.out⟩
 case rest =>
  (try (refine hKt_ _ _ ?_; clear hKt_; clear Kt_)); clear HC4
  try clear c1
  try clear c2
  try clear p2
  try clear c5
  try clear c7
  try clear c10
  try clear c10b0
  try clear c10b1
  try clear c11
  try clear c11b0
  try clear c11b1
  try clear c12
  try clear c14
  try clear c14b0
  try clear c14b1
  try clear c16
  try clear c16b0
  try clear c18
  try clear c21
  try clear hcz13_0
  try clear hcz13_1
  try clear hcz13_2
  try clear hcz19_0
  try clear hcz19_1
  try clear hcz19_2
  try clear hcz22_0
  try clear hcz22_1
  try clear hcz22_2
  try clear hcz8_0
  try clear hcz8_1
  try clear hcz8_2
  try clear hfz13_0
  try clear hfz13_1
  try clear hfz13_2
  try clear hfz19_0
  try clear hfz19_1
  try clear hfz19_2
  try clear hfz22_0
  try clear hfz22_1
  try clear hfz22_2
  try clear hfz8_0
  try clear hfz8_1
  try clear hfz8_2
  obtain ⟨kq, x169000_3, x169001_3, x169002_3, HA, HJ3, BK167, BK168, HB⟩ := hcut
  cases kq with
  | zero => exact absurd HA.out (by simp [counts_Run.j0])
  | succ kj3 =>
   have H := HA.out; clear HA; simp only [counts_Run.j0] at H; have H' := Aside0.mk H; clear H
   go_wp2
   go_loopg [33] kj3 (fun kq v33 w' => ∃ (x33_2 : Int) (x168000_2 : Int) (x168001_2 : Int) (x168002_2 : Int), v33 = .int .i64 x33_2 ∧ Aside0 (counts_Run.l0 kq l1 (l1.length : Int) x33_2 x168000_2 x168001_2 x168002_2 = some (r1, r2, r3, r4)) ∧ Aside0 (kq ≤ kj3) ∧ Aside0 (w'.heap[gb167]? = some (.cells #[.int .i32 x168000_2, .int .i32 x168001_2, .int .u8 x168002_2] 76 (0, 0))) ∧ Aside0 (w'.heap[gb168]? = some (.cells #[.int .i32 x169000_3, .int .i32 x169001_3, .int .u8 x169002_3] 76 (0, 0))) ∧ Aside0 (Below w.heap.size w w'))
   case atStart => exact ⟨(0), (a0_0), (a0_1), (a0_2), (by first | rfl | (simp; done) | (simp [*]; done)), H', ⟨Nat.le_refl _⟩, ⟨pG_ BK167.out⟩, ⟨pG_ BK168.out⟩, ⟨pH_ HB.out⟩⟩
   case round =>
    clear H'
    try clear c1
    try clear c2
    try clear p2
    try clear c5
    try clear c7
    try clear c10
    try clear c10b0
    try clear c10b1
    try clear c11
    try clear c11b0
    try clear c11b1
    try clear c12
    try clear c14
    try clear c14b0
    try clear c14b1
    try clear c16
    try clear c16b0
    try clear c18
    try clear c21
    try clear hcz13_0
    try clear hcz13_1
    try clear hcz13_2
    try clear hcz19_0
    try clear hcz19_1
    try clear hcz19_2
    try clear hcz22_0
    try clear hcz22_1
    try clear hcz22_2
    try clear hcz8_0
    try clear hcz8_1
    try clear hcz8_2
    try clear hfz13_0
    try clear hfz13_1
    try clear hfz13_2
    try clear hfz19_0
    try clear hfz19_1
    try clear hfz19_2
    try clear hfz22_0
    try clear hfz22_1
    try clear hfz22_2
    try clear hfz8_0
    try clear hfz8_1
    try clear hfz8_2
    try clear p2
    obtain ⟨x33_2, x168000_2, x168001_2, x168002_2, rfl, HA, HK2, BK167, BK168, HB⟩ := hrel
    cases gk with
    | zero => exact absurd HA.out (by simp [counts_Run.l0])
    | succ k2 =>
     have H := HA.out; clear HA; simp only [counts_Run.l0] at H
     by_cases c23 : x33_2 < (l1.length : Int)
     ·
      rw [if_pos c23] at H; have c23b0 : decide (x33_2 < (l1.length : Int)) = true := decide_eq_true c23; clear c23
      by_cases c24 : 0 ≤ x33_2
      ·
       rw [if_pos c24] at H; have c24b0 : decide (0 ≤ x33_2) = true := decide_eq_true c24; clear c24
       by_cases c25 : x33_2 < (l1.length : Int)
       ·
        rw [if_pos c25] at H; have c25b0 : decide (x33_2 < (l1.length : Int)) = true := decide_eq_true c25; clear c25; replace H := Option.bind_eq_some_iff.mp H; obtain ⟨⟨t172, t173, t174⟩, A260, H⟩ := H; replace H : (counts_Run.l0 k2 l1 (l1.length : Int) (wrap64 (x33_2 + 1)) t172 t173 t174) = some (r1, r2, r3, r4) := H; have A26 := Aside0.mk A260; clear A260; have H' := Aside0.mk H; clear H; have p171 : 0 ≤ (x33_2 : Int) := of_decide_eq_true (by first | (with_reducible assumption) | assumption); have q171 : x33_2 < (l1.length : Int) := of_decide_eq_true (by first | (with_reducible assumption) | assumption); obtain ⟨ad171, e171, hx171_0⟩ := Kd.at_int HR1.out x33_2 p171 q171
        cases e171
        replace hx171_0 := (HB.out.cell (World.block_lt_of_cell? w _ hx171_0)).trans hx171_0; replace p171 := eq_true p171; replace q171 := eq_true q171; have hnb27 := NB167_168.out; have hnc27 := NB168_167.out; have hcz28_0 : wr.cell? ⟨gb167, 0, none⟩ = some (.int .i32 x168000_2) := (blk_cell BK167.out 0).trans rfl; have hcz28_1 : wr.cell? ⟨gb167, 1, none⟩ = some (.int .i32 x168001_2) := (blk_cell BK167.out 1).trans rfl; have hcz28_2 : wr.cell? ⟨gb167, 2, none⟩ = some (.int .u8 x168002_2) := (blk_cell BK167.out 2).trans rfl; have hfz28_0 := blk_frozen BK167.out 0; have hfz28_1 := blk_frozen BK167.out 1; have hfz28_2 := blk_frozen BK167.out 2
        go_wp2_with (first | ((with_reducible refine gate_callee (f := 60) rfl ?_); refine gL_ (some 39) Try.func60 #[.agg #[.int .i32 x168000_2, .int .i32 x168001_2, .int .u8 x168002_2], .int .u8 (rd l1 x33_2)] ?_; (with_reducible refine (counts_next.calls x168000_2 x168001_2 x168002_2 (rd l1 x33_2) t172 t173 t174 _ A26.out).mono ?_); rintro e w29 ⟨rfl, hb⟩; refine ⟨_, rfl, ?_⟩; have n0_ := Aside0.mk (blk_below (pG_ BK167.out) hb); have n1_ := Aside0.mk (blk_below (pG_ BK168.out) hb); have n2_ := Aside0.mk (below_step (pH_ HB.out) hb); clear BK167; clear BK168; clear HB; have BK167 := n0_; have BK168 := n1_; have HB := n2_; clear n0_ n1_ n2_; (try clear hb); have hcz30_0 : w29.cell? ⟨gb167, 0, none⟩ = some (.int .i32 x168000_2) := (blk_cell BK167.out 0).trans rfl; have hcz30_1 : w29.cell? ⟨gb167, 1, none⟩ = some (.int .i32 x168001_2) := (blk_cell BK167.out 1).trans rfl; have hcz30_2 : w29.cell? ⟨gb167, 2, none⟩ = some (.int .u8 x168002_2) := (blk_cell BK167.out 2).trans rfl; have hfz30_0 := blk_frozen BK167.out 0; have hfz30_1 := blk_frozen BK167.out 1; have hfz30_2 := blk_frozen BK167.out 2))
        go_roundg k2
        case measure => have := HJ3.out; have := HK2.out; omega
        case rel => exact ⟨(wrap64 (x33_2 + 1)), (t172), (t173), (t174), (by first | rfl | (simp; done) | (simp [*]; done)), H', ⟨by have := HJ3.out; have := HK2.out; omega⟩, ⟨by (with_reducible repeat (first | refine blk_drewN ?_ _ | refine blk_drew ?_ | refine blk_alloc ?_ _)); refine blk_put (cs := #[.int .i32 t172, .int .i32 t173, .int .u8 x168002_2]) ?_ 2 _ rfl; (with_reducible repeat (first | refine blk_drewN ?_ _ | refine blk_drew ?_ | refine blk_alloc ?_ _)); refine blk_put (cs := #[.int .i32 t172, .int .i32 x168001_2, .int .u8 x168002_2]) ?_ 1 _ rfl; (with_reducible repeat (first | refine blk_drewN ?_ _ | refine blk_drew ?_ | refine blk_alloc ?_ _)); refine blk_put (cs := #[.int .i32 x168000_2, .int .i32 x168001_2, .int .u8 x168002_2]) ?_ 0 _ rfl; (with_reducible repeat (first | refine blk_drewN ?_ _ | refine blk_drew ?_ | refine blk_alloc ?_ _)); exact BK167.out⟩, ⟨by (with_reducible repeat (first | refine blk_drewN ?_ _ | refine blk_drew ?_ | refine blk_alloc ?_ _)); refine blk_far ?_ NB168_167.out _; (with_reducible repeat (first | refine blk_drewN ?_ _ | refine blk_drew ?_ | refine blk_alloc ?_ _)); refine blk_far ?_ NB168_167.out _; (with_reducible repeat (first | refine blk_drewN ?_ _ | refine blk_drew ?_ | refine blk_alloc ?_ _)); refine blk_far ?_ NB168_167.out _; (with_reducible repeat (first | refine blk_drewN ?_ _ | refine blk_drew ?_ | refine blk_alloc ?_ _)); exact BK168.out⟩, ⟨pH_ HB.out⟩⟩
       ·
        rw [if_neg c25] at H; exact absurd H (by simp)
      ·
       rw [if_neg c24] at H; exact absurd H (by simp)
     ·
      rw [if_neg c23] at H; have c23b0 : decide (x33_2 < (l1.length : Int)) = false := decide_eq_false c23; clear c23; simp only [Option.some.injEq, Prod.mk.injEq] at H; obtain ⟨rfl, rfl, rfl, rfl⟩ := H; have hnb31 := NB167_168.out; have hnc31 := NB168_167.out; have hcz32_0 : wr.cell? ⟨gb167, 0, none⟩ = some (.int .i32 x168000_2) := (blk_cell BK167.out 0).trans rfl; have hcz32_1 : wr.cell? ⟨gb167, 1, none⟩ = some (.int .i32 x168001_2) := (blk_cell BK167.out 1).trans rfl; have hcz32_2 : wr.cell? ⟨gb167, 2, none⟩ = some (.int .u8 x168002_2) := (blk_cell BK167.out 2).trans rfl; have hfz32_0 := blk_frozen BK167.out 0; have hfz32_1 := blk_frozen BK167.out 1; have hfz32_2 := blk_frozen BK167.out 2; have hcz33_0 : wr.cell? ⟨gb168, 0, none⟩ = some (.int .i32 x169000_3) := (blk_cell BK168.out 0).trans rfl; have hcz33_1 : wr.cell? ⟨gb168, 1, none⟩ = some (.int .i32 x169001_3) := (blk_cell BK168.out 1).trans rfl; have hcz33_2 : wr.cell? ⟨gb168, 2, none⟩ = some (.int .u8 x169002_3) := (blk_cell BK168.out 2).trans rfl; have hfz33_0 := blk_frozen BK168.out 0; have hfz33_1 := blk_frozen BK168.out 1; have hfz33_2 := blk_frozen BK168.out 2
      go_wp2
      refine bodyPost_ret (results_ct rfl _ _ gb168 76 #[.int .i32 x168000_2, .int .i32 x168001_2, .int .u8 x168002_2] (0, 0) _ rfl (by (with_reducible repeat (first | refine blk_drewN ?_ _ | refine blk_drew ?_ | refine blk_alloc ?_ _)); refine blk_put (cs := #[.int .i32 x168000_2, .int .i32 x168001_2, .int .u8 x169002_3]) ?_ 2 _ rfl; (with_reducible repeat (first | refine blk_drewN ?_ _ | refine blk_drew ?_ | refine blk_alloc ?_ _)); refine blk_put (cs := #[.int .i32 x168000_2, .int .i32 x169001_3, .int .u8 x169002_3]) ?_ 1 _ rfl; (with_reducible repeat (first | refine blk_drewN ?_ _ | refine blk_drew ?_ | refine blk_alloc ?_ _)); refine blk_put (cs := #[.int .i32 x169000_3, .int .i32 x169001_3, .int .u8 x169002_3]) ?_ 0 _ rfl; (with_reducible repeat (first | refine blk_drewN ?_ _ | refine blk_drew ?_ | refine blk_alloc ?_ _)); exact BK168.out) Try.underlying76 rfl (by kernel_rfl)) rfl ?_; exact ⟨by first | rfl | (simp [errW_none, errW_some] <;> rfl) | (simp [*, errW_none, errW_some] <;> rfl), pH_ HB.out⟩

/-! ### states_number: function 55 -/
/-- The state of a count whose numbers are from 0 to 12. -/
def states_number.f (a0_0 : Int) (a0_1 : Int) (a0_2 : Int) : Option (Int) :=
  if 0 ≤ a0_0 ∧ a0_0 ≤ 12 ∧ 0 ≤ a0_1 ∧ a0_1 ≤ 12 then
    (if a0_0 = 0 ∧ a0_1 = 0 ∧ a0_2 = 0 then some 0 else if a0_2 = 0 then (if 1 ≤ a0_0 then some ((a0_0 - 1) * 8 + a0_1 + 1) else none) else if a0_2 = 1 then (if 1 ≤ a0_1 then some ((12 + a0_1 - 1) * 8 + a0_0 + 1) else none) else none)
  else none
theorem states_number.zero (w : World) :
    Calls Try.prog 55 #[.agg #[.int .i32 0, .int .i32 0, .int .u8 0]] w fun e w' => e = .returned (.int .u8 0) ∧ Below w.heap.size w w' := by
  go_enter Try.func55, Try.ntmps55
  go_wp2
  go_ret
  exact ⟨rfl, by repeat (first | exact Below.refl _ _ | apply below_alloc | apply pw_below_drewN | apply below_drew)⟩
theorem states_number.at0 (a b : Int) (w : World) (h0 : 1 ≤ a) (h1 : a ≤ 12) (h2 : 0 ≤ b) (h3 : b ≤ 12) :
    Calls Try.prog 55 #[.agg #[.int .i32 a, .int .i32 b, .int .u8 0]] w fun e w' => e = .returned (.int .u8 ((a - 1) * 8 + b + 1)) ∧ Below w.heap.size w w' := by
  have z : (a == 0 && b == 0) = false := by simp; omega
  go_enter Try.func55, Try.ntmps55
  go_wp2
  repeat (go_quiet (fail); try go_wp2)
  go_ret
  exact ⟨rfl, by repeat (first | exact Below.refl _ _ | apply below_alloc | apply pw_below_drewN | apply below_drew)⟩
theorem states_number.at1 (a b : Int) (w : World) (h0 : 1 ≤ b) (h1 : b ≤ 12) (h2 : 0 ≤ a) (h3 : a ≤ 12) :
    Calls Try.prog 55 #[.agg #[.int .i32 a, .int .i32 b, .int .u8 1]] w fun e w' => e = .returned (.int .u8 ((12 + b - 1) * 8 + a + 1)) ∧ Below w.heap.size w w' := by
  go_enter Try.func55, Try.ntmps55
  go_wp2
  repeat (go_quiet (fail); try go_wp2)
  go_ret
  exact ⟨rfl, by repeat (first | exact Below.refl _ _ | apply below_alloc | apply pw_below_drewN | apply below_drew)⟩
theorem states_number.calls (a0_0 : Int) (a0_1 : Int) (a0_2 : Int) (r : Int) (w : World) (h : states_number.f a0_0 a0_1 a0_2 = some r) :
    Calls Try.prog 55 #[.agg #[.int .i32 a0_0, .int .i32 a0_1, .int .u8 a0_2]] w fun e w' => e = .returned (.int .u8 r) ∧ Below w.heap.size w w' := by
  unfold states_number.f at h
  by_cases c : 0 ≤ a0_0 ∧ a0_0 ≤ 12 ∧ 0 ≤ a0_1 ∧ a0_1 ≤ 12
  · rw [if_pos c] at h
    by_cases z : a0_0 = 0 ∧ a0_1 = 0 ∧ a0_2 = 0
    · rw [if_pos z] at h
      obtain ⟨rfl, rfl, rfl⟩ := z
      obtain rfl := Option.some.inj h
      exact states_number.zero w
    · rw [if_neg z] at h
      by_cases d : a0_2 = 0
      · rw [if_pos d] at h
        by_cases e : 1 ≤ a0_0
        · rw [if_pos e] at h
          obtain rfl := Option.some.inj h
          subst d
          exact states_number.at0 a0_0 a0_1 w e c.2.1 c.2.2.1 c.2.2.2
        · rw [if_neg e] at h
          exact absurd h (by simp)
      · rw [if_neg d] at h
        by_cases g : a0_2 = 1
        · rw [if_pos g] at h
          by_cases e : 1 ≤ a0_1
          · rw [if_pos e] at h
            obtain rfl := Option.some.inj h
            subst g
            exact states_number.at1 a0_0 a0_1 w e c.2.2.2 c.1 c.2.1
          · rw [if_neg e] at h
            exact absurd h (by simp)
        · rw [if_neg g] at h
          exact absurd h (by simp)
  · rw [if_neg c] at h
    exact absurd h (by simp)

/-! ### slices_ContainsFunc_uint8_uint8_states_Run_1: function 52 -/
/-- Is one of them greater than 1? -/
def slices_ContainsFunc_uint8_uint8_states_Run_1.f (l0 : List Int) : Option (Bool) := if l0.length > 9223372036854775807 then none else some (l0.any fun x => decide (x > 1))
theorem slices_ContainsFunc_uint8_uint8_states_Run_1.getD_ (l : List Int) (k : Nat) (hk : k < l.length) : l.getD k 0 = l[k] := by
  simp [List.getD_eq_getElem?_getD, hk]
theorem slices_ContainsFunc_uint8_uint8_states_Run_1.item (A0 : Option Addr) (l0 : List Int) (w : World) (hr0 : Kd.C (Kd.int .u8) w A0 l0.length l0) (k : Nat) (hk : k < l0.length) :
    ∃ ad, A0 = some ad ∧ w.cell? (ad.add k) = some (.int .u8 (l0.getD k 0)) := by
  obtain ⟨ad, c, e, hl, hK, hc⟩ := ReadsRow.get_ hr0 0 (k : Int) (by omega) (by omega)
  refine ⟨ad, e, ?_⟩
  have h0 : c = [.int .u8 (l0.getD k 0)] := hK
  have := hc 0 (.int .u8 (l0.getD k 0)) (by rw [h0]; rfl)
  rw [Int.toNat_natCast, show (Kd.int .u8).sz = 1 from rfl, Nat.mul_one, Nat.add_zero] at this
  exact this
theorem slices_ContainsFunc_uint8_uint8_states_Run_1.index (A0 : Option Addr) (c0 : Nat) (l0 : List Int) (w : World) (hbig : l0.length ≤ 9223372036854775807) (hr0 : Kd.C (Kd.int .u8) w A0 l0.length l0) :
    Calls Try.prog 58 #[.slice A0 l0.length c0, .func (.func 53) #[] #[]] w fun e w' => ∃ i : Int, (0 ≤ i ↔ ∃ x, x ∈ l0 ∧ 1 < x) ∧ e = .returned (.int .i64 i) ∧ ∃ q, w' = w.drewN q := by
  have hit := slices_ContainsFunc_uint8_uint8_states_Run_1.item A0 l0 w hr0
  clear hr0
  go_enter Try.func58, Try.ntmps58
  go_wp2
  go_loopg [5, 8] l0.length (fun gg _ s8 wr => ∃ kk q : Nat, kk ≤ l0.length ∧ l0.length - kk ≤ gg ∧ s8 = .int .i64 kk ∧ wr = w.drewN q ∧ Aside0 (∀ j, j < kk → ¬ l0.getD j 0 > 1))
  case atStart => exact ⟨0, 0, Nat.zero_le _, by omega, rfl, rfl, Aside0.mk (fun j hj => absurd hj (Nat.not_lt_zero _))⟩
  case round =>
    obtain ⟨kk, q, hkk, hg, rfl, rfl, A⟩ := hrel
    by_cases hlt : kk < l0.length
    · have hltz : (kk : Int) < (l0.length : Int) := by omega
      obtain ⟨ad, e, hcell⟩ := hit kk hlt
      subst e
      clear hit
      rw [slices_ContainsFunc_uint8_uint8_states_Run_1.getD_ _ _ hlt] at hcell
      have B : Aside0 (l0.getD kk 0 = l0[kk]) := Aside0.mk (slices_ContainsFunc_uint8_uint8_states_Run_1.getD_ _ _ hlt)
      generalize hy : l0[kk] = y at hcell B
      clear hy
      by_cases c1 : 1 < y
      · go_wp2
        go_ret
        refine ⟨(kk : Int), ⟨fun _ => ⟨l0.getD kk 0, by rw [slices_ContainsFunc_uint8_uint8_states_Run_1.getD_ _ _ hlt]; exact List.getElem_mem _, by rw [B.out]; exact c1⟩, fun _ => by omega⟩, rfl, q, rfl⟩
      · have c2 : y ≤ 1 := by omega
        clear c1
        go_wp2
        go_roundg (l0.length - (kk + 1))
        case measure => omega
        case rel =>
          refine ⟨kk + 1, _, by omega, by omega, by go_num, rfl, Aside0.mk (fun j hj => ?_)⟩
          by_cases e : j = kk
          · subst e
            rw [B.out]; omega
          · exact A.out j (by omega)
    · have hltz : ¬ (kk : Int) < (l0.length : Int) := by omega
      have : kk = l0.length := by omega
      subst this
      go_wp2
      go_ret
      refine ⟨-1, ⟨fun h => absurd h (by decide), fun h => ?_⟩, rfl, q, rfl⟩
      exfalso
      obtain ⟨x, hx, hd⟩ := h
      obtain ⟨j, hj, e⟩ := List.getElem_of_mem hx
      have := A.out j hj
      rw [slices_ContainsFunc_uint8_uint8_states_Run_1.getD_ _ _ hj, e] at this
      omega
theorem slices_ContainsFunc_uint8_uint8_states_Run_1.calls (A0 : Option Addr) (c0 : Nat) (l0 : List Int) (r : Bool) (w : World) (hr0 : Kd.C (Kd.int .u8) w A0 l0.length l0) (hc0 : l0.length ≤ c0) (h : slices_ContainsFunc_uint8_uint8_states_Run_1.f l0 = some r) :
    Calls Try.prog 52 #[.slice A0 l0.length c0, .func (.func 53) #[] #[]] w fun e w' => e = .returned (.bool r) ∧ Drawn0 w w' := by
  unfold slices_ContainsFunc_uint8_uint8_states_Run_1.f at h
  by_cases hbig : l0.length > 9223372036854775807
  · rw [if_pos hbig] at h; exact absurd h (by simp)
  rw [if_neg hbig] at h
  simp only [Option.some.injEq] at h
  have hcon := slices_ContainsFunc_uint8_uint8_states_Run_1.index A0 c0 l0 w (by omega) hr0
  have hr : (∃ x, x ∈ l0 ∧ 1 < x) ↔ r = true := by
    rw [← h]
    exact ⟨fun ⟨x, hx, hd⟩ => List.any_eq_true.mpr ⟨x, hx, decide_eq_true hd⟩, fun e => by obtain ⟨x, hx, hd⟩ := List.any_eq_true.mp e; exact ⟨x, hx, of_decide_eq_true hd⟩⟩
  rw [hr] at hcon
  clear hr0 h hbig hr
  go_enter Try.func52, Try.ntmps52
  go_wp2_with (go_at_call 58; refine hcon.mono ?_; rintro e w' ⟨i, hi, rfl, q, rfl⟩)
  go_ret
  exact ⟨rfl, q, rfl⟩

end Go.Proofs.Ytaomhenneenaaaa.XSlotsNames
