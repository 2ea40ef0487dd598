-- Laid by a program of this session (wip/mkxprint.py, over the kit's print): Lean checks it.
import Derived.Test.YtaomhenneenaaaaXSlotsNamesx0
namespace Go.Proofs.Ytaomhenneenaaaa.XSlotsNames
open List (setIfInBounds_toArray set_cons_zero set_cons_succ)
open Go.RowKit Go.Proofs.YtaomhenneenaaaaW.PrintWords Go.Proofs.YtaomhenneenaaaaW.PrintLast Go.Proofs.YtaomhenneenaaaaW.PrintMore
attribute [local go_sem] max2_int min2_int max_two min_two max_three min_three max_four min_four   -- for this text's walks alone
set_option linter.unusedVariables false
set_option linter.unusedSimpArgs false

/-! ### bitloftref11_Twin: function 10 -/
def bitloftref11_Twin.f (a0_0 : Int) (l0_1 : List (S42)) : Option (Int × (List (S42))) := (some (([] : List (S42)) : List (S42))).bind fun y103 => (if y103.length + l0_1.length < 8796093022208 then (some (a0_0, (y103 ++ l0_1))) else (none))
def bitloftref11_Twin.T1 : Bool × List (List Nat × List Nat) := (true, [([], []), ([0], [0]), ([], []), ([], []), ([3], [3]), ([2, 4], [2, 4]), ([1, 5], [1, 5]), ([6, 5, 0, 1, 2, 3, 4, 5, 6], [6])])
def bitloftref11_Twin.B1 : List Nat := [0, 1, 0, 0, 8, 28, 63, 127]
theorem bitloftref11_Twin.tab1 : rtab .any (opsOf Try.f10 1) = bitloftref11_Twin.T1 := by kernel_rfl
theorem bitloftref11_Twin.bits1 : waitsOk bitloftref11_Twin.T1.2 bitloftref11_Twin.B1 = true := by kernel_rfl
set_option maxHeartbeats 8000000 in
set_option maxRecDepth 100000 in
theorem bitloftref11_Twin.calls (a0_0 : Int) (A0_1 : Option Addr) (c0_1 : Nat) (l0_1 : List (S42)) (r1 : Int) (r2 : List (S42)) (w : World) (hr0_1 : Kd.C k42 w A0_1 l0_1.length l0_1) (hc0_1 : l0_1.length ≤ c0_1) (h : bitloftref11_Twin.f a0_0 l0_1 = some (r1, r2)) :
  Calls Try.prog 10 #[.agg #[.int .i64 a0_0, .slice A0_1 l0_1.length c0_1]] w fun e w' => ∃ v1_ : Value, e = .returned (.agg #[.int .i64 r1, v1_]) ∧ Kd.R k42 42 w' w.heap.size (fun _ => True) v1_ r2 ∧ Below w.heap.size w w' := by
 have hu24 := Try.underlying24; have HR0_1 := Aside0.mk hr0_1; have HC0_1 := Aside0.mk hc0_1; clear hr0_1 hc0_1; have HB := Aside0.mk (Below.refl w.heap.size w); have H : ((some (([] : List (S42)) : List (S42))).bind fun y103 => (if y103.length + l0_1.length < 8796093022208 then (some (a0_0, (y103 ++ l0_1))) else (none))) = some (r1, r2) := h; clear h; obtain ⟨y103, hy103⟩ : ∃ y_ : List (S42), y_ = (([] : List (S42))) := ⟨_, rfl⟩
 replace H : (if y103.length + l0_1.length < 8796093022208 then (some (a0_0, (y103 ++ l0_1))) else (none)) = some (r1, r2) := by first | (rw [hy103]; with_reducible exact H) | (have H2_ := (Option.bind_some _ _).symm.trans H; rw [hy103]; with_reducible exact H2_) | (have H2_ := (Option.bind_some _ _).symm.trans H; with_reducible exact H2_) | with_reducible exact H | (rw [hy103]; exact H) | exact H
 have Ny103 := Aside0.mk hy103; clear hy103
 by_cases c2 : y103.length + l0_1.length < 8796093022208
 ·
  rw [if_pos c2] at H; have LMc2 := Aside0.mk c2; clear c2; obtain ⟨y106, hy106⟩ : ∃ y_ : List (S42), y_ = (y103 ++ l0_1) := ⟨_, rfl⟩
  replace H : (some (a0_0, y106)) = some (r1, r2) := by first | (rw [hy106]; with_reducible exact H) | (have H2_ := (Option.bind_some _ _).symm.trans H; rw [hy106]; with_reducible exact H2_) | (have H2_ := (Option.bind_some _ _).symm.trans H; with_reducible exact H2_) | with_reducible exact H | (rw [hy106]; exact H) | exact H
  have Ny106 := Aside0.mk hy106; clear hy106; simp only [Option.some.injEq, Prod.mk.injEq] at H; obtain ⟨rfl, rfl⟩ := H
  go_enter Try.func10, Try.ntmps10
  try go_wp2_with (first | ((with_reducible refine gate_dst (N := 1) rfl ?_); refine box_event ?hg (N := 1) ?hd (cs := #[.int .i64 a0_0, .slice A0_1 l0_1.length c0_1]) (t := 24) ?hr ?_; (case hd => rfl); (case hg => rfl); (case hr => first | (go_simp; done) | (go_simp; rfl)); intro gb101 hg w3 hbox hb; have n0_ := Aside0.mk (below_step (pH_ HB.out) hb); have n1_ := Aside0.mk (hbox); have n2_ := Aside0.mk ((by rw [hg]; exact (below_size (pH_ HB.out)) : w.heap.size ≤ gb101)); have n3_ := Aside0.mk ((by rw [hg]; exact (below_size (pH_ HB.out)) : w.heap.size ≤ gb101)); clear HB; have HB := n0_; have BK101 := n1_; have GW101 := n2_; have GE101 := n3_; clear n0_ n1_ n2_ n3_; clear hb hbox hg) | ((with_reducible refine gate_dst (N := 2) rfl ?_); refine box_event ?hg (N := 2) ?hd (cs := #[.int .i64 0, .slice none 0 0]) (t := 24) ?hr ?_; (case hd => rfl); (case hg => rfl); (case hr => first | (go_simp; done) | (go_simp; rfl)); intro gb102 hg w4 hbox hb; have n0_ := Aside0.mk (blk_below (pG_ BK101.out) hb); have n1_ := Aside0.mk (below_step (pH_ HB.out) hb); have n2_ := Aside0.mk (hbox); have n3_ := Aside0.mk ((by rw [hg]; exact (below_size (pH_ HB.out)) : w.heap.size ≤ gb102)); have n4_ := Aside0.mk ((by rw [hg]; exact (below_size (pH_ HB.out)) : w.heap.size ≤ gb102)); have n5_ := Aside0.mk ((by rw [hg]; exact Nat.ne_of_lt (blk_lt (pG_ BK101.out)) : gb101 ≠ gb102)); have n6_ := Aside0.mk ((by rw [hg]; exact Nat.ne_of_gt (blk_lt (pG_ BK101.out)) : gb102 ≠ gb101)); clear BK101; clear HB; have BK101 := n0_; have HB := n1_; have BK102 := n2_; have GW102 := n3_; have GE102 := n4_; have NB101_102 := n5_; have NB102_101 := n6_; clear n0_ n1_ n2_ n3_ n4_ n5_ n6_; clear hb hbox hg))
  have n0_ := Aside0.mk (blk_drew BK101.out); have n1_ := Aside0.mk (blk_drew BK102.out); have n2_ := Aside0.mk (below_drew1 HB.out); clear BK101; clear BK102; clear HB; have BK101 := n0_; have BK102 := n1_; have HB := n2_; clear n0_ n1_ n2_; refine start_ (n := 8) (S := fun w' => w'.cell? ⟨gb101, 0, none⟩ = some (.int .i64 a0_0) ∧ w'.cell? ⟨gb101, 1, none⟩ = some (.slice A0_1 l0_1.length c0_1)) (ds := []) #[f_, f_, f_, f_, f_, f_, f_, f_] (by kernel_rfl) rfl rfl ⟨(blk_cell BK101.out 0).trans rfl, (blk_cell BK101.out 1).trans rfl⟩ (fun hHeld => ?_); refine with_tabW bitloftref11_Twin.tab1 bitloftref11_Twin.bits1 (fun HT_ HW_ => ?_)
  generalize w4.drew = w5 at BK101 BK102 HB hHeld ⊢
  refine pure_ (i := 0) (N := some 3) (v := ?_) (a' := ?_) #[t_, f_, f_, f_, f_, f_, f_, f_] rfl rfl (any_of HT_.out (by kernel_rfl)) (fun _ _ _ h => h) (Or.inl ⟨by rfl, ?_⟩) ?_ ?_; rotate_left
  ·
   intro w'; go_simp
   with_reducible rfl
  rotate_left
  ·
   simp only [Act.put, sA_, sZ_, sS_, i64_w, i32_w]; rfl
  refine pure_ (i := 3) (N := some 6) (v := ?_) (a' := ?_) #[t_, f_, f_, t_, f_, f_, f_, f_] rfl rfl (any_of HT_.out (by kernel_rfl)) (fun _ _ _ h => h) (Or.inl ⟨by rfl, ?_⟩) ?_ ?_; rotate_left
  ·
   intro w'; go_simp
   with_reducible rfl
  rotate_left
  ·
   simp only [Act.put, sA_, sZ_, sS_, i64_w, i32_w]; rfl
  refine take_ (i := 1) (N := some 4) (v := ?_) (a' := ?_) #[t_, t_, f_, t_, f_, f_, f_, f_] rfl rfl (take_ofW HT_.out HW_.out (by kernel_rfl)) (fun _ _ _ h => h) (Or.inl ⟨by rfl, ?_⟩) hHeld ?_ ?_; rotate_left
  ·
   rintro w' ⟨s0, s1⟩
   go_simp
   with_reducible rfl
  rotate_left
  ·
   simp only [Act.put, sA_, sZ_, sS_, i64_w, i32_w]; rfl
  refine take_ (i := 4) (N := some 7) (v := ?_) (a' := ?_) #[t_, t_, f_, t_, t_, f_, f_, f_] rfl rfl (take_ofW HT_.out HW_.out (by kernel_rfl)) (fun _ _ _ h => h) (Or.inl ⟨by rfl, ?_⟩) hHeld ?_ ?_; rotate_left
  ·
   rintro w' ⟨s0, s1⟩
   go_simp
   with_reducible rfl
  rotate_left
  ·
   simp only [Act.put, sA_, sZ_, sS_, i64_w, i32_w]; rfl
  refine one_ (i := 2) (N := some 5) #[t_, t_, t_, t_, t_, f_, f_, f_] rfl rfl (one_of HT_.out (by kernel_rfl)) (by decide) (fun K hK => ?_); refine Kd.R_lit_step k42 _ 42 ?hg (N := 5) ?hd (xs := ([] : List (S42))) (inner := []) (ok := fun _ => True) (okp := fun _ => True) ?hr ?hp (fun _ hk => hk) trivial (Below.refl _ _) (Nat.le_refl _) (by simp) ?_; (case hd => rfl); (case hg => rfl); (case hr => first | (go_simp; done) | (go_simp; rfl)); (case hp => exact (Reps.none _ _)); intro v104 w6 ho7 hb hg_ hnew_; clear hg_ hnew_; (first | rw [← Ny103.out] at ho7 | (simp only [Int.reduceToNat] at ho7; rw [← Ny103.out] at ho7)); have n0_ := Aside0.mk (Kd.R_lower ho7 (below_size (pH_ HB.out))); have n1_ := Aside0.mk (blk_below (pG_ BK101.out) hb); have n2_ := Aside0.mk (blk_below (pG_ BK102.out) hb); have n3_ := Aside0.mk (below_step (pH_ HB.out) hb); clear BK101; clear BK102; clear HB; have HO105 := n0_; have BK101 := n1_; have BK102 := n2_; have HB := n3_; clear n0_ n1_ n2_ n3_; clear hb ho7; refine hK.out _ _ ⟨(blk_cell BK101.out 0).trans rfl, (blk_cell BK101.out 1).trans rfl⟩ (fun hHeld => ?_); clear hK K; refine norm_ (a' := ?_) ?_ ?_; rotate_left
  ·
   show Act.put _ (some 5) _ = _
   simp only [Act.put, sA_, sZ_, sS_, i64_w, i32_w]; rfl
  refine one_ (i := 5) (N := some 8) #[t_, t_, t_, t_, t_, t_, f_, f_] rfl rfl (one_of HT_.out (by kernel_rfl)) (by decide) (fun K hK => ?_); refine Kd.R_append_rows_step k42 (w0 := w) w.heap.size (by rfl) (.tmp 5) (.tmp 7) 22 42 (.agg #[(.int .u8 0), (.int .u8 0), (.int .u8 0), (.int .u8 0), (.int .u8 0), (.int .u8 0), (.int .u8 0), (.int .u8 0), (.int .u8 0), (.int .u8 0), (.int .u8 0), (.int .u8 0), (.int .u8 0), (.int .u8 0), (.int .u8 0), (.int .u8 0)]) 16 rfl Try.underlying22 info42 rfl (by decide) (by omega) v104 y103 l0_1 _ _ _ (fun _ => True) (fun _ => False) rfl rfl ?aO ?aR (fun _ _ h => h) (fun _ h => h.elim) ?aF ?aB ?aS ?aL ?_; (case aR => repeat (first | exact (Kd.C_below HR0_1.out HB.out) | (with_reducible refine Kd.C_alloc ?_ _) | (with_reducible refine Kd.C_drewN ?_ _) | (with_reducible refine Kd.C_drew ?_))); (case aB => exact (pH_ HB.out)); (case aF => exact (fun _ _ => trivial)); (case aO => exact (pL_ HO105.out)); (case aS => exact (below_size (pH_ HB.out))); (case aL => have := LMc2.out; omega); intro v107 w8 ho hb hg hat; rw [← Ny106.out] at ho; have n0_ := Aside0.mk (blk_grown (g := gb101) (o := .cells #[.int .i64 a0_0, .slice A0_1 l0_1.length c0_1] 24 (0, 0)) (pG_ BK101.out) hg (Kd.R_ne HO105.out BK101.out (by decide))); have n1_ := Aside0.mk (blk_grown (g := gb102) (o := .cells #[.int .i64 0, .slice none 0 0] 24 (0, 0)) (pG_ BK102.out) hg (Kd.R_ne HO105.out BK102.out (by decide))); have n2_ := Aside0.mk (hb); have n3_ := Aside0.mk (ho); clear BK101; clear BK102; clear HB; clear HO105; have BK101 := n0_; have BK102 := n1_; have HB := n2_; have HO108 := n3_; clear n0_ n1_ n2_ n3_; clear ho hb hg hat; obtain ⟨Ao9, co9, eo9⟩ := Kd.R_slice HO108.out; (first | subst eo9 | (injection eo9 with f1_ f2_ f3_; have f4_ := f1_.symm; have f5_ := f3_.symm; clear f1_ f2_ f3_; subst f4_; subst f5_)); refine hK.out _ _ ⟨(blk_cell BK101.out 0).trans rfl, (blk_cell BK101.out 1).trans rfl⟩ (fun hHeld => ?_); clear hK K; refine norm_ (a' := ?_) ?_ ?_; rotate_left
  ·
   show Act.put _ (some 8) _ = _
   simp only [Act.put, sA_, sZ_, sS_, i64_w, i32_w]; rfl
  refine pure_ (i := 6) (N := some 9) (v := ?_) (a' := ?_) #[t_, t_, t_, t_, t_, t_, t_, f_] rfl rfl (any_of HT_.out (by kernel_rfl)) (fun _ _ _ h => h) (Or.inl ⟨by rfl, ?_⟩) ?_ ?_; rotate_left
  ·
   intro w'; go_simp
   with_reducible rfl
  rotate_left
  ·
   simp only [Act.put, sA_, sZ_, sS_, i64_w, i32_w]; rfl
  refine one_ (i := 7) (N := none) #[t_, t_, t_, t_, t_, t_, t_, t_] rfl rfl (one_of HT_.out (by kernel_rfl)) (by decide) (fun K hK => ?_); have hs10 : w8.cell? ⟨gb102, 0, none⟩ = some (.int .i64 0) := (blk_cell BK102.out 0).trans rfl; have hfs10 := blk_frozen BK102.out 0; have hns10_0 := NB101_102.out; have hms10_0 := NB102_101.out; have hs11 : w8.cell? ⟨gb102, 1, none⟩ = some (.slice none 0 0) := (blk_cell BK102.out 1).trans rfl; have hfs11 := blk_frozen BK102.out 1; have hns11_0 := NB101_102.out; have hms11_0 := NB102_101.out; refine skip_ (w1 := ?_) (by rfl) rfl ?_ ?_; rotate_left
  ·
   go_simp; rfl
  refine hK.out _ _ ⟨((cell_far (p := ⟨gb102, _, none⟩) NB101_102.out _).trans (((cell_far (p := ⟨gb102, _, none⟩) NB101_102.out _).trans (hHeld.1)))), ((cell_far (p := ⟨gb102, _, none⟩) NB101_102.out _).trans (((cell_far (p := ⟨gb102, _, none⟩) NB101_102.out _).trans (hHeld.2))))⟩ (fun hHeld => ?_); clear hK K; refine done_ (done_of HT_.out (by kernel_rfl)) ?_
  try go_wp2
  refine bodyPost_ret (results_cell_row rfl _ _ gb102 24 #[.int .i64 a0_0, .slice Ao9 y106.length co9] (0, 0) _ rfl (by (with_reducible repeat (first | refine blk_drewN ?_ _ | refine blk_drew ?_ | refine blk_alloc ?_ _)); refine blk_put (cs := #[.int .i64 a0_0, .slice none 0 0]) ?_ 1 _ rfl; (with_reducible repeat (first | refine blk_drewN ?_ _ | refine blk_drew ?_ | refine blk_alloc ?_ _)); refine blk_put (cs := #[.int .i64 0, .slice none 0 0]) ?_ 0 _ rfl; (with_reducible repeat (first | refine blk_drewN ?_ _ | refine blk_drew ?_ | refine blk_alloc ?_ _)); exact BK102.out) Try.underlying24 rfl (by kernel_rfl)) rfl ?_; exact ⟨_, by first | rfl | (simp [errW_none, errW_some] <;> rfl) | (simp [*, errW_none, errW_some] <;> rfl), by (with_reducible repeat (first | apply rA_ | apply rN_ | apply rD_)); exact Kd.R_mono (Kd.R_far (p := ⟨gb102, 1, none⟩) (Kd.R_far (p := ⟨gb102, 0, none⟩) (Kd.R_types HO108.out BK102.out (by decide)) (fun _ hk => hk.2) (.int .i64 a0_0)) (fun _ hk => hk.2) (.slice Ao9 y106.length co9)) (fun _ hk => trivial), pH_ HB.out⟩
 ·
  rw [if_neg c2] at H; exact absurd H (by simp)

/-! ### slots_size: function 33 -/
def slots_size.f (a0 : Int) : Option (Int) := if 0 ≤ a0 then (some (shl .i64 16 a0)) else (none)
set_option maxHeartbeats 8000000 in
set_option maxRecDepth 100000 in
theorem slots_size.calls (a0 : Int) (r : Int) (w : World) (h : slots_size.f a0 = some r) :
    Calls Try.prog 33 #[.int .i64 a0] w fun e w' => e = .returned (.int .i64 r) ∧ Drawn0 w w' := by
  have H : (if 0 ≤ a0 then (some (shl .i64 16 a0)) else (none)) = some r := h
  clear h
  by_cases c2 : 0 ≤ a0
  · rw [if_pos c2] at H
    have c2b0 := eq_true c2
    have c2b1 : decide (0 ≤ a0) = true := decide_eq_true c2
    clear c2
    obtain ⟨ji3, hji3⟩ : ∃ j_ : Int, (shl .i64 16 a0) = j_ := ⟨_, rfl⟩
    replace H : (some ji3) = some r := by first | (rw [hji3] at H; exact H) | (simp only [hji3] at H ⊢; exact H)
    have hji3_ : (IntKind.i64.wrap (16 * 2 ^ min a0.toNat 64)) = ji3 := hji3
    have hji3z : a0 ≤ 64 → (IntKind.i64.wrap (16 * 2 ^ a0.toNat)) = ji3 := shl_small hji3
    have hji3y : (wrap64 (16 * 2 ^ min a0.toNat 64)) = ji3 := (i64_w _).symm.trans hji3_
    have hji3x : a0 ≤ 64 → (wrap64 (16 * 2 ^ a0.toNat)) = ji3 := fun h_ => (i64_w _).symm.trans (hji3z h_)
    obtain rfl := Option.some.inj H
    go_enter Try.func33, Try.ntmps33
    go_wp2
    go_ret
    exact ⟨by first | rfl | (simp; done) | (simp only [← hji3] <;> (first | rfl | simp)) | (simp [*]; done), by repeat (first | exact Drawn0.refl _ | apply Drawn0.step)⟩
  · rw [if_neg c2] at H
    exact absurd H (by simp)

/-! ### slots_New: function 11 -/
def slots_New.f (a0 : Int) : Option (Int × (List (S42)) × Int) := if a0 < 0 then (some (0, ([] : List (S42)), 2)) else (if a0 > 7 then (some (0, ([] : List (S42)), 2)) else ((slots_size.f a0).bind fun t110 => (if 0 ≤ t110 then (if (t110 : Int).toNat ≤ 17592186044416 then (some (a0, (List.replicate (t110 : Int).toNat z42), 0)) else (none)) else (none))))
set_option maxHeartbeats 8000000 in
set_option maxRecDepth 100000 in
theorem slots_New.calls (a0 : Int) (r1 : Int) (r2 : List (S42)) (r3 : Int) (w : World) (h : slots_New.f a0 = some (r1, r2, r3)) :
  Calls Try.prog 11 #[.int .i64 a0] w fun e w' => ∃ v1_ : Value, e = .returned (.tuple #[.agg #[.int .i64 r1, v1_], .int .i64 r3]) ∧ Kd.R k42 42 w' w.heap.size (fun _ => True) v1_ r2 ∧ Below w.heap.size w w' := by
 have hu24 := Try.underlying24; have HB := Aside0.mk (Below.refl w.heap.size w); have H : (if a0 < 0 then (some (0, ([] : List (S42)), 2)) else (if a0 > 7 then (some (0, ([] : List (S42)), 2)) else ((slots_size.f a0).bind fun t110 => (if 0 ≤ t110 then (if (t110 : Int).toNat ≤ 17592186044416 then (some (a0, (List.replicate (t110 : Int).toNat z42), 0)) else (none)) else (none))))) = some (r1, r2, r3) := h; clear h
 by_cases c2 : a0 < 0
 ·
  rw [if_pos c2] at H; have c2b0 : decide (a0 < 0) = true := decide_eq_true c2; clear c2; simp only [Option.some.injEq, Prod.mk.injEq] at H; obtain ⟨rfl, rfl, rfl⟩ := H
  go_enter Try.func11, Try.ntmps11
  go_wp2_with (first | ((with_reducible refine gate_dst (N := 2) rfl ?_); refine box_event ?hg (N := 2) ?hd (cs := #[.int .i64 0, .slice none 0 0]) (t := 24) ?hr ?_; (case hd => rfl); (case hg => rfl); (case hr => first | (go_simp; done) | (go_simp; rfl)); intro gb109 hg w3 hbox hb; have n0_ := Aside0.mk (below_step (pH_ HB.out) hb); have n1_ := Aside0.mk (hbox); have n2_ := Aside0.mk ((by rw [hg]; exact (below_size (pH_ HB.out)) : w.heap.size ≤ gb109)); have n3_ := Aside0.mk ((by rw [hg]; exact (below_size (pH_ HB.out)) : w.heap.size ≤ gb109)); clear HB; have HB := n0_; have BK109 := n1_; have GW109 := n2_; have GE109 := n3_; clear n0_ n1_ n2_ n3_; clear hb hbox hg; have hcz4_0 : w3.cell? ⟨gb109, 0, none⟩ = some (.int .i64 0) := (blk_cell BK109.out 0).trans rfl; have hcz4_1 : w3.cell? ⟨gb109, 1, none⟩ = some (.slice none 0 0) := (blk_cell BK109.out 1).trans rfl; have hfz4_0 := blk_frozen BK109.out 0; have hfz4_1 := blk_frozen BK109.out 1))
  refine bodyPost_ret (results_ct rfl _ _ gb109 24 #[.int .i64 0, .slice none 0 0] (0, 0) _ rfl (by (with_reducible repeat (first | refine blk_drewN ?_ _ | refine blk_drew ?_ | refine blk_alloc ?_ _)); refine blk_put (cs := #[.int .i64 0, .slice none 0 0]) ?_ 1 _ rfl; (with_reducible repeat (first | refine blk_drewN ?_ _ | refine blk_drew ?_ | refine blk_alloc ?_ _)); refine blk_put (cs := #[.int .i64 0, .slice none 0 0]) ?_ 0 _ rfl; (with_reducible repeat (first | refine blk_drewN ?_ _ | refine blk_drew ?_ | refine blk_alloc ?_ _)); exact BK109.out) Try.underlying24 rfl (by kernel_rfl)) rfl ?_; exact ⟨_, by first | rfl | (simp [errW_none, errW_some] <;> rfl) | (simp [*, errW_none, errW_some] <;> rfl), by first | exact Kd.R_nil _ _ _ _ _ | exact Kd.N_nil _ _ _ _ _ | exact Kd.V_nil _ _ _ _ _ | exact Kd.Q_nil _ _ _ _ _ | exact Kd.S_nil _ _ _ _ _, pH_ HB.out⟩
 ·
  rw [if_neg c2] at H; have c2b0 : decide (a0 < 0) = false := decide_eq_false c2; clear c2
  by_cases c5 : a0 > 7
  ·
   rw [if_pos c5] at H; have c5b0 : decide (7 < a0) = true := decide_eq_true c5; clear c5; simp only [Option.some.injEq, Prod.mk.injEq] at H; obtain ⟨rfl, rfl, rfl⟩ := H
   go_enter Try.func11, Try.ntmps11
   go_wp2_with (first | ((with_reducible refine gate_dst (N := 2) rfl ?_); refine box_event ?hg (N := 2) ?hd (cs := #[.int .i64 0, .slice none 0 0]) (t := 24) ?hr ?_; (case hd => rfl); (case hg => rfl); (case hr => first | (go_simp; done) | (go_simp; rfl)); intro gb109 hg w6 hbox hb; have n0_ := Aside0.mk (below_step (pH_ HB.out) hb); have n1_ := Aside0.mk (hbox); have n2_ := Aside0.mk ((by rw [hg]; exact (below_size (pH_ HB.out)) : w.heap.size ≤ gb109)); have n3_ := Aside0.mk ((by rw [hg]; exact (below_size (pH_ HB.out)) : w.heap.size ≤ gb109)); clear HB; have HB := n0_; have BK109 := n1_; have GW109 := n2_; have GE109 := n3_; clear n0_ n1_ n2_ n3_; clear hb hbox hg; have hcz7_0 : w6.cell? ⟨gb109, 0, none⟩ = some (.int .i64 0) := (blk_cell BK109.out 0).trans rfl; have hcz7_1 : w6.cell? ⟨gb109, 1, none⟩ = some (.slice none 0 0) := (blk_cell BK109.out 1).trans rfl; have hfz7_0 := blk_frozen BK109.out 0; have hfz7_1 := blk_frozen BK109.out 1))
   refine bodyPost_ret (results_ct rfl _ _ gb109 24 #[.int .i64 0, .slice none 0 0] (0, 0) _ rfl (by (with_reducible repeat (first | refine blk_drewN ?_ _ | refine blk_drew ?_ | refine blk_alloc ?_ _)); refine blk_put (cs := #[.int .i64 0, .slice none 0 0]) ?_ 1 _ rfl; (with_reducible repeat (first | refine blk_drewN ?_ _ | refine blk_drew ?_ | refine blk_alloc ?_ _)); refine blk_put (cs := #[.int .i64 0, .slice none 0 0]) ?_ 0 _ rfl; (with_reducible repeat (first | refine blk_drewN ?_ _ | refine blk_drew ?_ | refine blk_alloc ?_ _)); exact BK109.out) Try.underlying24 rfl (by kernel_rfl)) rfl ?_; exact ⟨_, by first | rfl | (simp [errW_none, errW_some] <;> rfl) | (simp [*, errW_none, errW_some] <;> rfl), by first | exact Kd.R_nil _ _ _ _ _ | exact Kd.N_nil _ _ _ _ _ | exact Kd.V_nil _ _ _ _ _ | exact Kd.Q_nil _ _ _ _ _ | exact Kd.S_nil _ _ _ _ _, pH_ HB.out⟩
  ·
   rw [if_neg c5] at H; have c5b0 : decide (7 < a0) = false := decide_eq_false c5; clear c5; replace H := Option.bind_eq_some_iff.mp H; obtain ⟨t110, A80, H⟩ := H; replace H : (if 0 ≤ t110 then (if (t110 : Int).toNat ≤ 17592186044416 then (some (a0, (List.replicate (t110 : Int).toNat z42), 0)) else (none)) else (none)) = some (r1, r2, r3) := H; have A8 := Aside0.mk A80; clear A80
   by_cases c9 : 0 ≤ t110
   ·
    rw [if_pos c9] at H; have c9b0 := eq_true c9; have c9b1 : decide (0 ≤ t110) = true := decide_eq_true c9; clear c9
    by_cases c10 : (t110 : Int).toNat ≤ 17592186044416
    ·
     rw [if_pos c10] at H; have c10b0 := eq_true c10; have c10b1 : decide ((t110 : Int).toNat ≤ 17592186044416) = true := decide_eq_true c10; clear c10; obtain ⟨y111, hy111⟩ : ∃ y_ : List (S42), y_ = (List.replicate (t110 : Int).toNat z42) := ⟨_, rfl⟩
     replace H : (some (a0, y111, 0)) = some (r1, r2, r3) := by first | (rw [hy111]; with_reducible exact H) | (have H2_ := (Option.bind_some _ _).symm.trans H; rw [hy111]; with_reducible exact H2_) | (have H2_ := (Option.bind_some _ _).symm.trans H; with_reducible exact H2_) | with_reducible exact H | (rw [hy111]; exact H) | exact H
     have Ny111 := Aside0.mk hy111; clear hy111; simp only [Option.some.injEq, Prod.mk.injEq] at H; obtain ⟨rfl, rfl, rfl⟩ := H
     go_enter Try.func11, Try.ntmps11
     go_wp2_with (first | ((with_reducible refine gate_dst (N := 2) rfl ?_); refine box_event ?hg (N := 2) ?hd (cs := #[.int .i64 0, .slice none 0 0]) (t := 24) ?hr ?_; (case hd => rfl); (case hg => rfl); (case hr => first | (go_simp; done) | (go_simp; rfl)); intro gb109 hg w11 hbox hb; have n0_ := Aside0.mk (below_step (pH_ HB.out) hb); have n1_ := Aside0.mk (hbox); have n2_ := Aside0.mk ((by rw [hg]; exact (below_size (pH_ HB.out)) : w.heap.size ≤ gb109)); have n3_ := Aside0.mk ((by rw [hg]; exact (below_size (pH_ HB.out)) : w.heap.size ≤ gb109)); clear HB; have HB := n0_; have BK109 := n1_; have GW109 := n2_; have GE109 := n3_; clear n0_ n1_ n2_ n3_; clear hb hbox hg) | ((with_reducible refine gate_callee (f := 33) rfl ?_); refine gL_ (some 13) Try.func33 #[.int .i64 a0] ?_; (with_reducible refine (slots_size.calls a0 t110 _ A8.out).mono ?_); rintro e w' ⟨rfl, ⟨nd, rfl⟩⟩; refine ⟨_, rfl, ?_⟩; (try (rw [drewN_self w11]; generalize hq_ : World.drewN w11 _ = w11; have n0_ : Aside0 (w11.heap[gb109]? = some (.cells #[.int .i64 0, .slice none 0 0] 24 (0, 0))) := ⟨by rw [← hq_]; exact (pG_ BK109.out)⟩; have n1_ : Aside0 (Below w.heap.size w w11) := ⟨by rw [← hq_]; exact (pH_ HB.out)⟩; clear BK109 HB hq_; have BK109 := n0_; have HB := n1_; clear n0_ n1_))) | ((with_reducible refine gate_dst (N := 14) rfl ?_); refine Kd.R_make k42 _ 42 rfl (N := 14) rfl 22 _ _ rfl t110 rfl rfl Try.underlying22 (.agg #[(.int .u8 0), (.int .u8 0), (.int .u8 0), (.int .u8 0), (.int .u8 0), (.int .u8 0), (.int .u8 0), (.int .u8 0), (.int .u8 0), (.int .u8 0), (.int .u8 0), (.int .u8 0), (.int .u8 0), (.int .u8 0), (.int .u8 0), (.int .u8 0)]) 16 info42 rfl (by decide) (by omega) z42 (ok := fun _ => True) (okp := fun _ => True) (k42_mkM _ _ _ z42 ) (fun _ hk => hk) trivial (of_decide_eq_true (by first | (with_reducible assumption) | assumption)) (Nat.le_trans (Nat.mul_le_mul_right _ (of_decide_eq_true (by first | (with_reducible assumption) | assumption) : t110.toNat ≤ 17592186044416)) (by omega)) (Below.refl _ _) (Nat.le_refl _) ?_; intro v112 w12 ho13 hb hg_ hnew_; clear hg_ hnew_; (first | rw [← Ny111.out] at ho13 | (simp only [Int.reduceToNat] at ho13; rw [← Ny111.out] at ho13)); have n0_ := Aside0.mk (Kd.R_lower ho13 (below_size (pH_ HB.out))); have n1_ := Aside0.mk (blk_below (pG_ BK109.out) hb); have n2_ := Aside0.mk (below_step (pH_ HB.out) hb); clear BK109; clear HB; have HO113 := n0_; have BK109 := n1_; have HB := n2_; clear n0_ n1_ n2_; clear hb ho13; obtain ⟨Ao14, co14, eo14⟩ := Kd.R_slice HO113.out; subst eo14; have hcz15_0 : w12.cell? ⟨gb109, 0, none⟩ = some (.int .i64 0) := (blk_cell BK109.out 0).trans rfl; have hcz15_1 : w12.cell? ⟨gb109, 1, none⟩ = some (.slice none 0 0) := (blk_cell BK109.out 1).trans rfl; have hfz15_0 := blk_frozen BK109.out 0; have hfz15_1 := blk_frozen BK109.out 1))
     refine bodyPost_ret (results_ct rfl _ _ gb109 24 #[.int .i64 a0, .slice Ao14 y111.length co14] (0, 0) _ rfl (by (with_reducible repeat (first | refine blk_drewN ?_ _ | refine blk_drew ?_ | refine blk_alloc ?_ _)); refine blk_put (cs := #[.int .i64 a0, .slice none 0 0]) ?_ 1 _ rfl; (with_reducible repeat (first | refine blk_drewN ?_ _ | refine blk_drew ?_ | refine blk_alloc ?_ _)); refine blk_put (cs := #[.int .i64 0, .slice none 0 0]) ?_ 0 _ rfl; (with_reducible repeat (first | refine blk_drewN ?_ _ | refine blk_drew ?_ | refine blk_alloc ?_ _)); exact BK109.out) Try.underlying24 rfl (by kernel_rfl)) rfl ?_; exact ⟨_, by first | rfl | (simp [errW_none, errW_some] <;> rfl) | (simp [*, errW_none, errW_some] <;> rfl), by (with_reducible repeat (first | apply rA_ | apply rN_ | apply rD_)); exact Kd.R_mono (Kd.R_far (p := ⟨gb109, 1, none⟩) (Kd.R_far (p := ⟨gb109, 0, none⟩) (Kd.R_types HO113.out BK109.out (by decide)) (fun _ hk => hk.2) (.int .i64 a0)) (fun _ hk => hk.2) (.slice Ao14 y111.length co14)) (fun _ hk => trivial), pH_ HB.out⟩
    ·
     rw [if_neg c10] at H; exact absurd H (by simp)
   ·
    rw [if_neg c9] at H; exact absurd H (by simp)

/-! ### slices_Max_uint8_uint8: function 39 -/
def slices_Max_uint8_uint8.l0 : Nat → List Int → Int → Int → Option (Int)
 | 0, _, _, _ => none
 | k + 1, x0, x3, x4 => if x4 < (x0.length : Int) then (if 0 ≤ x4 then (slices_Max_uint8_uint8.l0 k x0 (mx x3 (rd x0 x4)) (wrap64 (x4 + 1))) else (none)) else (some x3)
def slices_Max_uint8_uint8.f (k : Nat) (l0 : List Int) : Option (Int) := if (l0.length : Int) < 1 then (none) else (if 0 < (l0.length : Int) then (slices_Max_uint8_uint8.l0 k l0 (rd l0 0) 1) else (none))
theorem slices_Max_uint8_uint8.mono_l : ∀ k, (∀ y0 y1 y2, LeO (slices_Max_uint8_uint8.l0 k y0 y1 y2) (slices_Max_uint8_uint8.l0 (k + 1) y0 y1 y2))
 | 0 => fun _ _ _ r h => by simp [slices_Max_uint8_uint8.l0] at h
 | k + 1 => by
  have ih0 := slices_Max_uint8_uint8.mono_l k
  ·
   intro y0 y1 y2
   unfold slices_Max_uint8_uint8.l0
   repeat' first
   | (with_reducible exact ih0 _ _ _)
   | (with_reducible exact LeO.refl _)
   | (with_reducible exact LeO.none _)
   | (with_reducible refine LeO.ite ?_ ?_)
   | (with_reducible refine LeO.bind ?_ (fun _ => ?_))
   | exact ih0 _ _ _
   | exact LeO.none _
   | refine LeO.ite ?_ ?_
   | refine LeO.bind ?_ (fun _ => ?_)
theorem slices_Max_uint8_uint8.mono : ∀ a0 k, LeO (slices_Max_uint8_uint8.f k a0) (slices_Max_uint8_uint8.f (k + 1) a0) := by
 intro a0 k; have ih0 := slices_Max_uint8_uint8.mono_l k
 unfold slices_Max_uint8_uint8.f
 repeat' first
   | (with_reducible exact ih0 _ _ _)
   | (with_reducible exact LeO.refl _)
   | (with_reducible exact LeO.none _)
   | (with_reducible refine LeO.ite ?_ ?_)
   | (with_reducible refine LeO.bind ?_ (fun _ => ?_))
   | exact ih0 _ _ _
   | exact LeO.none _
   | refine LeO.ite ?_ ?_
   | refine LeO.bind ?_ (fun _ => ?_)
set_option maxHeartbeats 8000000 in
set_option maxRecDepth 100000 in
theorem slices_Max_uint8_uint8.calls (k : Nat) (A0 : Option Addr) (c0 : Nat) (l0 : List Int) (r : Int) (w : World) (hr0 : Kd.C (Kd.int .u8) w A0 l0.length l0) (hc0 : l0.length ≤ c0) (h : slices_Max_uint8_uint8.f k l0 = some r) :
  Calls Try.prog 39 #[.slice A0 l0.length c0] w fun e w' => e = .returned (.int .u8 r) ∧ Below w.heap.size w w' := by
 have HR0 := Aside0.mk hr0; have HC0 := Aside0.mk hc0; clear hr0 hc0; have HB := Aside0.mk (Below.refl w.heap.size w); have H : (if (l0.length : Int) < 1 then (none) else (if 0 < (l0.length : Int) then (slices_Max_uint8_uint8.l0 k l0 (rd l0 0) 1) else (none))) = some r := h; clear h
 by_cases c2 : (l0.length : Int) < 1
 ·
  rw [if_pos c2] at H; exact absurd H (by simp)
 ·
  rw [if_neg c2] at H; have c2b0 : decide ((l0.length : Int) < 1) = false := decide_eq_false c2; have c2b1 : decide (l0.length < 1) = false := decide_eq_false (by omega); clear c2
  by_cases c3 : 0 < (l0.length : Int)
  ·
   rw [if_pos c3] at H; have c3b0 : decide (0 < (l0.length : Int)) = true := decide_eq_true c3; have c3b1 : decide (0 < l0.length) = true := decide_eq_true (by omega); clear c3; have H' := Aside0.mk H; clear H; have p114 : 0 ≤ (0 : Int) := (by omega); have q114 : 0 < (l0.length : Int) := of_decide_eq_true (by first | (with_reducible assumption) | assumption); obtain ⟨ad114, e114, hx114_0⟩ := Kd.at_int HR0.out 0 p114 q114
   cases e114
   have qi114 : (0 < l0.length) = True := eq_true (by omega); (try rw [show ((0 : Int)).toNat = 0 from rfl] at hx114_0); (try rw [Addr.add_zero'] at hx114_0); replace p114 := eq_true p114; replace q114 := eq_true q114
   go_enter Try.func39, Try.ntmps39
   go_wp2
   go_loopg [3, 4] k (fun kq v3 v4 w' => ∃ (x3_1 : Int) (x4_1 : Int), v3 = .int .u8 x3_1 ∧ v4 = .int .i64 x4_1 ∧ Aside0 (slices_Max_uint8_uint8.l0 kq l0 x3_1 x4_1 = some r) ∧ Aside0 (kq ≤ k) ∧ Aside0 (Below w.heap.size w w'))
   case atStart => exact ⟨(rd l0 0), (1), (by first | rfl | (simp; done) | (simp [*]; done)), (by first | rfl | (simp; done) | (simp [*]; done)), H', ⟨Nat.le_refl _⟩, ⟨pH_ HB.out⟩⟩
   case round =>
    clear H'
    try clear p1
    try clear q1
    try clear hx1
    try clear qi1
    try clear c2
    try clear c2b0
    try clear c2b1
    try clear p2
    try clear c3
    try clear c3b0
    try clear c3b1
    try clear hx114_0
    try clear p114
    try clear q114
    obtain ⟨x3_1, x4_1, rfl, rfl, HA, HK1, HB⟩ := hrel
    cases gk with
    | zero => exact absurd HA.out (by simp [slices_Max_uint8_uint8.l0])
    | succ k1 =>
     have H := HA.out; clear HA; simp only [slices_Max_uint8_uint8.l0] at H
     by_cases c4 : x4_1 < (l0.length : Int)
     ·
      rw [if_pos c4] at H; have c4b0 : decide (x4_1 < (l0.length : Int)) = true := decide_eq_true c4; clear c4
      by_cases c5 : 0 ≤ x4_1
      ·
       rw [if_pos c5] at H; have c5b0 : decide (0 ≤ x4_1) = true := decide_eq_true c5; clear c5; obtain ⟨ji6, hji6⟩ : ∃ j_ : Int, (mx x3_1 (rd l0 x4_1)) = j_ := ⟨_, rfl⟩
       replace H : (slices_Max_uint8_uint8.l0 k1 l0 ji6 (wrap64 (x4_1 + 1))) = some r := by first | (rw [hji6] at H; exact H) | (simp only [hji6] at H ⊢; exact H)
       have hji6_ : (if x3_1 < (rd l0 x4_1) then (rd l0 x4_1) else x3_1) = ji6 := hji6; have H' := Aside0.mk H; clear H; have p115 : 0 ≤ (x4_1 : Int) := of_decide_eq_true (by first | (with_reducible assumption) | assumption); have q115 : x4_1 < (l0.length : Int) := of_decide_eq_true (by first | (with_reducible assumption) | assumption); obtain ⟨ad115, e115, hx115_0⟩ := Kd.at_int HR0.out x4_1 p115 q115; obtain rfl : ad114 = ad115 := (by injection e115); replace hx115_0 := (HB.out.cell (World.block_lt_of_cell? w _ hx115_0)).trans hx115_0; replace p115 := eq_true p115; replace q115 := eq_true q115
       go_wp2
       go_roundg k1
       case measure => have := HK1.out; omega
       case rel => exact ⟨(ji6), (wrap64 (x4_1 + 1)), (by first | rfl | (simp; done) | (simp only [← hji6] <;> (first | rfl | simp)) | (simp [*]; done)), (by first | rfl | (simp; done) | (simp [*]; done)), H', ⟨by have := HK1.out; omega⟩, ⟨pH_ HB.out⟩⟩
      ·
       rw [if_neg c5] at H; exact absurd H (by simp)
     ·
      rw [if_neg c4] at H; have c4b0 : decide (x4_1 < (l0.length : Int)) = false := decide_eq_false c4; clear c4; obtain rfl := Option.some.inj H
      go_wp2
      go_ret
      exact ⟨by first | rfl | (simp [errW_none, errW_some] <;> rfl) | (simp [*, errW_none, errW_some] <;> rfl), pH_ HB.out⟩
  ·
   rw [if_neg c3] at H; exact absurd H (by simp)

/-! ### slots_Check: function 16 -/
mutual
def slots_Check.j0 : Nat → Bool → Int → List (S42) → Option (Int)
 | 0, _, _, _ => none
 | k + 1, x21, x117000, x117001 => if x21 = true then (some 8) else (slots_Check.l0 k x117001 (x117001.length : Int) 0)
def slots_Check.l0 : Nat → List (S42) → Int → Int → Option (Int)
 | 0, _, _, _ => none
 | k + 1, x23, x24, x25 => if x25 < x24 then (if 0 ≤ x25 then (if x25 < (x23.length : Int) then ((slices_Max_uint8_uint8.f k ([(rd_T42 x23 x25).f1.f0, (rd_T42 x23 x25).f1.f1, (rd_T42 x23 x25).f1.f2, (rd_T42 x23 x25).f1.f3, (rd_T42 x23 x25).f1.f4, (rd_T42 x23 x25).f1.f5, (rd_T42 x23 x25).f1.f6, (rd_T42 x23 x25).f1.f7, (rd_T42 x23 x25).f1.f8, (rd_T42 x23 x25).f1.f9, (rd_T42 x23 x25).f1.f10, (rd_T42 x23 x25).f1.f11, (rd_T42 x23 x25).f1.f12, (rd_T42 x23 x25).f1.f13, (rd_T42 x23 x25).f1.f14])).bind fun t124 => (if t124 ≥ 193 then (some 8) else (slots_Check.l0 k x23 x24 (wrap64 (x25 + 1))))) else (none)) else (none)) else (some 0)
end
def slots_Check.f (k : Nat) (a0_0 : Int) (l0_1 : List (S42)) : Option (Int) := if a0_0 < 0 then (slots_Check.j0 k true a0_0 l0_1) else (if a0_0 > 7 then (slots_Check.j0 k true a0_0 l0_1) else ((slots_size.f a0_0).bind fun t117 => (slots_Check.j0 k ((l0_1.length : Int) != t117) a0_0 l0_1)))
theorem slots_Check.mono_l : ∀ k, (∀ y0 y1 y2, LeO (slots_Check.j0 k y0 y1 y2) (slots_Check.j0 (k + 1) y0 y1 y2)) ∧ (∀ y0 y1 y2, LeO (slots_Check.l0 k y0 y1 y2) (slots_Check.l0 (k + 1) y0 y1 y2))
 | 0 => ⟨fun _ _ _ r h => by simp [slots_Check.j0] at h, fun _ _ _ r h => by simp [slots_Check.l0] at h⟩
 | k + 1 => by
  obtain ⟨ih0, ih1⟩ := slots_Check.mono_l k; refine ⟨?_, ?_⟩
  ·
   intro y0 y1 y2
   unfold slots_Check.j0
   repeat' first
   | (with_reducible exact ih0 _ _ _)
   | (with_reducible exact ih1 _ _ _)
   | (with_reducible exact slices_Max_uint8_uint8.mono _ _)
   | (with_reducible exact LeO.refl _)
   | (with_reducible exact LeO.none _)
   | (with_reducible refine LeO.ite ?_ ?_)
   | (with_reducible refine LeO.bind ?_ (fun _ => ?_))
   | exact ih0 _ _ _
   | exact ih1 _ _ _
   | exact slices_Max_uint8_uint8.mono _ _
   | exact LeO.none _
   | refine LeO.ite ?_ ?_
   | refine LeO.bind ?_ (fun _ => ?_)
  ·
   intro y0 y1 y2
   unfold slots_Check.l0
   repeat' first
   | (with_reducible exact ih0 _ _ _)
   | (with_reducible exact ih1 _ _ _)
   | (with_reducible exact slices_Max_uint8_uint8.mono _ _)
   | (with_reducible exact LeO.refl _)
   | (with_reducible exact LeO.none _)
   | (with_reducible refine LeO.ite ?_ ?_)
   | (with_reducible refine LeO.bind ?_ (fun _ => ?_))
   | exact ih0 _ _ _
   | exact ih1 _ _ _
   | exact slices_Max_uint8_uint8.mono _ _
   | exact LeO.none _
   | refine LeO.ite ?_ ?_
   | refine LeO.bind ?_ (fun _ => ?_)
theorem slots_Check.mono : ∀ a0 a1 k, LeO (slots_Check.f k a0 a1) (slots_Check.f (k + 1) a0 a1) := by
 intro a0 a1 k; obtain ⟨ih0, ih1⟩ := slots_Check.mono_l k
 unfold slots_Check.f
 repeat' first
   | (with_reducible exact ih0 _ _ _)
   | (with_reducible exact ih1 _ _ _)
   | (with_reducible exact slices_Max_uint8_uint8.mono _ _)
   | (with_reducible exact LeO.refl _)
   | (with_reducible exact LeO.none _)
   | (with_reducible refine LeO.ite ?_ ?_)
   | (with_reducible refine LeO.bind ?_ (fun _ => ?_))
   | exact ih0 _ _ _
   | exact ih1 _ _ _
   | exact slices_Max_uint8_uint8.mono _ _
   | exact LeO.none _
   | refine LeO.ite ?_ ?_
   | refine LeO.bind ?_ (fun _ => ?_)
set_option maxHeartbeats 8000000 in
set_option maxRecDepth 100000 in
theorem slots_Check.calls (k : Nat) (a0_0 : Int) (A0_1 : Option Addr) (c0_1 : Nat) (l0_1 : List (S42)) (r : Int) (w : World) (hr0_1 : Kd.C k42 w A0_1 l0_1.length l0_1) (hc0_1 : l0_1.length ≤ c0_1) (h : slots_Check.f k a0_0 l0_1 = some r) :
  Calls Try.prog 16 #[.agg #[.int .i64 a0_0, .slice A0_1 l0_1.length c0_1]] w fun e w' => e = .returned (.int .i64 r) ∧ Below w.heap.size w w' := by
 have hu24 := Try.underlying24; have hu42 := Try.underlying42; have HR0_1 := Aside0.mk hr0_1; have HC0_1 := Aside0.mk hc0_1; clear hr0_1 hc0_1; have HB := Aside0.mk (Below.refl w.heap.size w); have H : (if a0_0 < 0 then (slots_Check.j0 k true a0_0 l0_1) else (if a0_0 > 7 then (slots_Check.j0 k true a0_0 l0_1) else ((slots_size.f a0_0).bind fun t117 => (slots_Check.j0 k ((l0_1.length : Int) != t117) a0_0 l0_1)))) = some r := h; clear h; have HC2 := Aside0.mk H; clear H
 go_enter Try.func16, Try.ntmps16
 go_upto_region 1 with (first | ((with_reducible refine gate_dst (N := 1) rfl ?_); (try (refine gate_guard (by rfl) ?_; dsimp only)); refine box_event ?hg (N := 1) ?hd (cs := #[.int .i64 a0_0, .slice A0_1 l0_1.length c0_1]) (t := 24) ?hr ?_; (case hd => rfl); (case hg => rfl); (case hr => first | (go_simp; done) | (go_simp; rfl)); intro gb116 hg w3 hbox hb; have n0_ := Aside0.mk (below_step (pH_ HB.out) hb); have n1_ := Aside0.mk (hbox); have n2_ := Aside0.mk ((by rw [hg]; exact (below_size (pH_ HB.out)) : w.heap.size ≤ gb116)); have n3_ := Aside0.mk ((by rw [hg]; exact (below_size (pH_ HB.out)) : w.heap.size ≤ gb116)); clear HB; have HB := n0_; have BK116 := n1_; have GW116 := n2_; have GE116 := n3_; clear n0_ n1_ n2_ n3_; clear hb hbox hg))
 repeat (go_quiet (first | ((with_reducible refine gate_dst (N := 1) rfl ?_); (try (refine gate_guard (by rfl) ?_; dsimp only)); refine box_event ?hg (N := 1) ?hd (cs := #[.int .i64 a0_0, .slice A0_1 l0_1.length c0_1]) (t := 24) ?hr ?_; (case hd => rfl); (case hg => rfl); (case hr => first | (go_simp; done) | (go_simp; rfl)); intro gb116 hg w3 hbox hb; have n0_ := Aside0.mk (below_step (pH_ HB.out) hb); have n1_ := Aside0.mk (hbox); have n2_ := Aside0.mk ((by rw [hg]; exact (below_size (pH_ HB.out)) : w.heap.size ≤ gb116)); have n3_ := Aside0.mk ((by rw [hg]; exact (below_size (pH_ HB.out)) : w.heap.size ≤ gb116)); clear HB; have HB := n0_; have BK116 := n1_; have GW116 := n2_; have GE116 := n3_; clear n0_ n1_ n2_ n3_; clear hb hbox hg)); go_upto_region 1 with (first | ((with_reducible refine gate_dst (N := 1) rfl ?_); (try (refine gate_guard (by rfl) ?_; dsimp only)); refine box_event ?hg (N := 1) ?hd (cs := #[.int .i64 a0_0, .slice A0_1 l0_1.length c0_1]) (t := 24) ?hr ?_; (case hd => rfl); (case hg => rfl); (case hr => first | (go_simp; done) | (go_simp; rfl)); intro gb116 hg w3 hbox hb; have n0_ := Aside0.mk (below_step (pH_ HB.out) hb); have n1_ := Aside0.mk (hbox); have n2_ := Aside0.mk ((by rw [hg]; exact (below_size (pH_ HB.out)) : w.heap.size ≤ gb116)); have n3_ := Aside0.mk ((by rw [hg]; exact (below_size (pH_ HB.out)) : w.heap.size ≤ gb116)); clear HB; have HB := n0_; have BK116 := n1_; have GW116 := n2_; have GE116 := n3_; clear n0_ n1_ n2_ n3_; clear hb hbox hg)))
 (try simp only [Act.put, sA_, sZ_, sS_]); (with_reducible first | refine then_id_ ?_ | (refine wp_tail_ ?_; intro Kt_ hKt_))
 go_cut [21] (fun v21 wc => ∃ (kq : Nat) (x21_1 : Bool), v21 = .bool x21_1 ∧ Aside0 (slots_Check.j0 kq x21_1 a0_0 l0_1 = some r) ∧ Aside0 (kq ≤ k) ∧ Aside0 (wc.heap[gb116]? = some (.cells #[.int .i64 a0_0, (.slice A0_1 l0_1.length c0_1)] 24 (0, 0))) ∧ Aside0 (Below w.heap.size w wc))
 case first =>
  have H := HC2.out; clear HC2
  by_cases c4 : a0_0 < 0
  ·
   rw [if_pos c4] at H; have c4b0 : decide (a0_0 < 0) = true := decide_eq_true c4; clear c4; (first | rw [c4b0] | (simp only [i64_w, i32_w]; rw [c4b0]) | skip); have H' := Aside0.mk H; clear H; have hcz5_0 : w3.cell? ⟨gb116, 0, none⟩ = some (.int .i64 a0_0) := (blk_cell BK116.out 0).trans rfl; have hcz5_1 : w3.cell? ⟨gb116, 1, none⟩ = some (.slice A0_1 l0_1.length c0_1) := (blk_cell BK116.out 1).trans rfl; have hfz5_0 := blk_frozen BK116.out 0; have hfz5_1 := blk_frozen BK116.out 1
   go_wp2
   repeat (go_quiet (fail); try go_wp2)
   (first | go_meet | (refine Met.intro ?_; go_step; (repeat apply Exists.intro); refine ⟨?rel, ?eqf_⟩; case eqf_ => ((simp only [c4b0]) <;> rfl)))
   case rel => exact ⟨_, (true), (by first | rfl | (simp; done) | (simp [*]; done)), H', ⟨by first | omega | exact Nat.le_refl _⟩, ⟨pG_ BK116.out⟩, ⟨pH_ HB.out⟩⟩
  ·
   rw [if_neg c4] at H; have c4b0 : decide (a0_0 < 0) = false := decide_eq_false c4; clear c4; (first | rw [c4b0] | (simp only [i64_w, i32_w]; rw [c4b0]) | skip)
   by_cases c6 : a0_0 > 7
   ·
    rw [if_pos c6] at H; have c6b0 : decide (7 < a0_0) = true := decide_eq_true c6; clear c6; have H' := Aside0.mk H; clear H; have hcz7_0 : w3.cell? ⟨gb116, 0, none⟩ = some (.int .i64 a0_0) := (blk_cell BK116.out 0).trans rfl; have hcz7_1 : w3.cell? ⟨gb116, 1, none⟩ = some (.slice A0_1 l0_1.length c0_1) := (blk_cell BK116.out 1).trans rfl; have hfz7_0 := blk_frozen BK116.out 0; have hfz7_1 := blk_frozen BK116.out 1
    go_wp2
    repeat (go_quiet (fail); try go_wp2)
    (first | go_meet | (refine Met.intro ?_; go_step; (repeat apply Exists.intro); refine ⟨?rel, ?eqf_⟩; case eqf_ => ((simp only [c6b0, c4b0]) <;> rfl)))
    case rel => exact ⟨_, (true), (by first | rfl | (simp; done) | (simp [*]; done)), H', ⟨by first | omega | exact Nat.le_refl _⟩, ⟨pG_ BK116.out⟩, ⟨pH_ HB.out⟩⟩
   ·
    rw [if_neg c6] at H; have c6b0 : decide (7 < a0_0) = false := decide_eq_false c6; clear c6; replace H := Option.bind_eq_some_iff.mp H; obtain ⟨t117, A80, H⟩ := H; replace H : (slots_Check.j0 k ((l0_1.length : Int) != t117) a0_0 l0_1) = some r := H; have A8 := Aside0.mk A80; clear A80; have H' := Aside0.mk H; clear H; have hcz9_0 : w3.cell? ⟨gb116, 0, none⟩ = some (.int .i64 a0_0) := (blk_cell BK116.out 0).trans rfl; have hcz9_1 : w3.cell? ⟨gb116, 1, none⟩ = some (.slice A0_1 l0_1.length c0_1) := (blk_cell BK116.out 1).trans rfl; have hfz9_0 := blk_frozen BK116.out 0; have hfz9_1 := blk_frozen BK116.out 1
    go_wp2_with (first | (go_at_call 33; (with_reducible refine (slots_size.calls a0_0 t117 _ A8.out).mono ?_); rintro e w' ⟨rfl, ⟨nd, rfl⟩⟩; (try first | exact ⟨rfl, _, World.drewN_drewN _ _ _⟩ | exact ⟨rfl, _, Eq.trans (World.drewN_drewN _ _ _) (congrArg (World.drewN _) (Nat.add_assoc _ _ _))⟩)))
    repeat (go_quiet (first | (go_at_call 33; (with_reducible refine (slots_size.calls a0_0 t117 _ A8.out).mono ?_); rintro e w' ⟨rfl, ⟨nd, rfl⟩⟩; (try first | exact ⟨rfl, _, World.drewN_drewN _ _ _⟩ | exact ⟨rfl, _, Eq.trans (World.drewN_drewN _ _ _) (congrArg (World.drewN _) (Nat.add_assoc _ _ _))⟩))); try go_wp2_with (first | (go_at_call 33; (with_reducible refine (slots_size.calls a0_0 t117 _ A8.out).mono ?_); rintro e w' ⟨rfl, ⟨nd, rfl⟩⟩; (try first | exact ⟨rfl, _, World.drewN_drewN _ _ _⟩ | exact ⟨rfl, _, Eq.trans (World.drewN_drewN _ _ _) (congrArg (World.drewN _) (Nat.add_assoc _ _ _))⟩))))
    (first | go_meet | (refine Met.intro ?_; go_step; (repeat apply Exists.intro); refine ⟨?rel, ?eqf_⟩; case eqf_ => ((simp only [c6b0, c4b0]) <;> rfl)))
    case rel => exact ⟨_, (((l0_1.length : Int) != t117)), (by first | rfl | (simp; done) | (simp [*]; done)), H', ⟨by first | omega | exact Nat.le_refl _⟩, ⟨pG_ BK116.out⟩, ⟨pH_ HB.out⟩⟩
 case rest =>
  (try (refine hKt_ _ _ ?_; clear hKt_; clear Kt_)); clear HC2
  try clear c1
  try clear p2
  try clear c4
  try clear c4b0
  try clear c6
  try clear c6b0
  try clear hcz5_0
  try clear hcz5_1
  try clear hcz7_0
  try clear hcz7_1
  try clear hcz9_0
  try clear hcz9_1
  try clear hfz5_0
  try clear hfz5_1
  try clear hfz7_0
  try clear hfz7_1
  try clear hfz9_0
  try clear hfz9_1
  obtain ⟨kq, x21_1, rfl, HA, HJ1, BK116, HB⟩ := hcut
  cases kq with
  | zero => exact absurd HA.out (by simp [slots_Check.j0])
  | succ kj1 =>
   have H := HA.out; clear HA; simp only [slots_Check.j0] at H
   by_cases c10 : x21_1 = true
   ·
    subst c10
    have H1 : (some 8) = some r := by rw [if_pos rfl] at H; exact H
    clear H; have H := H1; clear H1; obtain rfl := Option.some.inj H
    go_wp2
    repeat (go_quiet (fail); try go_wp2)
    go_ret
    exact ⟨by first | rfl | (simp [errW_none, errW_some] <;> rfl) | (simp [*, errW_none, errW_some] <;> rfl), pH_ HB.out⟩
   ·
    replace c10 := Bool.eq_false_iff.mpr c10
    subst c10
    have H1 : (slots_Check.l0 kj1 l0_1 (l0_1.length : Int) 0) = some r := by rw [if_neg (show ¬ (false = true) by decide)] at H; exact H
    clear H; have H := H1; clear H1; have H' := Aside0.mk H; clear H; have hcz11_0 : wc.cell? ⟨gb116, 0, none⟩ = some (.int .i64 a0_0) := (blk_cell BK116.out 0).trans rfl; have hcz11_1 : wc.cell? ⟨gb116, 1, none⟩ = some (.slice A0_1 l0_1.length c0_1) := (blk_cell BK116.out 1).trans rfl; have hfz11_0 := blk_frozen BK116.out 0; have hfz11_1 := blk_frozen BK116.out 1
    go_wp2
    repeat (go_quiet (fail); try go_wp2)
    go_loopg [25] kj1 (fun kq v25 w' => ∃ (x25_2 : Int), v25 = .int .i64 x25_2 ∧ Aside0 (slots_Check.l0 kq l0_1 (l0_1.length : Int) x25_2 = some r) ∧ Aside0 (kq ≤ kj1) ∧ Aside0 (w'.heap[gb116]? = some (.cells #[.int .i64 a0_0, (.slice A0_1 l0_1.length c0_1)] 24 (0, 0))) ∧ Aside0 (Below w.heap.size w w'))
    case atStart => exact ⟨(0), (by first | rfl | (simp; done) | (simp [*]; done)), H', ⟨Nat.le_refl _⟩, ⟨pG_ BK116.out⟩, ⟨pH_ HB.out⟩⟩
    case round =>
     clear H'
     try clear c1
     try clear p2
     try clear c4
     try clear c4b0
     try clear c6
     try clear c6b0
     try clear c10
     try clear hcz11_0
     try clear hcz11_1
     try clear hcz5_0
     try clear hcz5_1
     try clear hcz7_0
     try clear hcz7_1
     try clear hcz9_0
     try clear hcz9_1
     try clear hfz11_0
     try clear hfz11_1
     try clear hfz5_0
     try clear hfz5_1
     try clear hfz7_0
     try clear hfz7_1
     try clear hfz9_0
     try clear hfz9_1
     try clear p2
     obtain ⟨x25_2, rfl, HA, HK2, BK116, HB⟩ := hrel
     cases gk with
     | zero => exact absurd HA.out (by simp [slots_Check.l0])
     | succ k2 =>
      have H := HA.out; clear HA; simp only [slots_Check.l0] at H
      by_cases c12 : x25_2 < (l0_1.length : Int)
      ·
       rw [if_pos c12] at H; have c12b0 : decide (x25_2 < (l0_1.length : Int)) = true := decide_eq_true c12; clear c12
       by_cases c13 : 0 ≤ x25_2
       ·
        rw [if_pos c13] at H; have c13b0 : decide (0 ≤ x25_2) = true := decide_eq_true c13; clear c13
        by_cases c14 : x25_2 < (l0_1.length : Int)
        ·
         rw [if_pos c14] at H; have c14b0 : decide (x25_2 < (l0_1.length : Int)) = true := decide_eq_true c14; clear c14; obtain ⟨y120, hy120⟩ : ∃ y_ : List Int, y_ = ([(rd_T42 l0_1 x25_2).f1.f0, (rd_T42 l0_1 x25_2).f1.f1, (rd_T42 l0_1 x25_2).f1.f2, (rd_T42 l0_1 x25_2).f1.f3, (rd_T42 l0_1 x25_2).f1.f4, (rd_T42 l0_1 x25_2).f1.f5, (rd_T42 l0_1 x25_2).f1.f6, (rd_T42 l0_1 x25_2).f1.f7, (rd_T42 l0_1 x25_2).f1.f8, (rd_T42 l0_1 x25_2).f1.f9, (rd_T42 l0_1 x25_2).f1.f10, (rd_T42 l0_1 x25_2).f1.f11, (rd_T42 l0_1 x25_2).f1.f12, (rd_T42 l0_1 x25_2).f1.f13, (rd_T42 l0_1 x25_2).f1.f14]) := ⟨_, rfl⟩
         replace H : ((slices_Max_uint8_uint8.f k2 y120).bind fun t124 => (if t124 ≥ 193 then (some 8) else (slots_Check.l0 k2 l0_1 (l0_1.length : Int) (wrap64 (x25_2 + 1))))) = some r := by first | (rw [hy120]; with_reducible exact H) | (have H2_ := (Option.bind_some _ _).symm.trans H; rw [hy120]; with_reducible exact H2_) | (have H2_ := (Option.bind_some _ _).symm.trans H; with_reducible exact H2_) | with_reducible exact H | (rw [hy120]; exact H) | exact H
         have Ny120 := Aside0.mk hy120; clear hy120; replace H := Option.bind_eq_some_iff.mp H; obtain ⟨t124, A150, H⟩ := H; replace H : (if t124 ≥ 193 then (some 8) else (slots_Check.l0 k2 l0_1 (l0_1.length : Int) (wrap64 (x25_2 + 1)))) = some r := H; have A15 := Aside0.mk A150; clear A150
         by_cases c16 : t124 ≥ 193
         ·
          rw [if_pos c16] at H; have c16b0 : decide (193 ≤ t124) = true := decide_eq_true c16; clear c16; obtain rfl := Option.some.inj H; have p118 : 0 ≤ (x25_2 : Int) := of_decide_eq_true (by first | (with_reducible assumption) | assumption); have q118 : x25_2 < (l0_1.length : Int) := of_decide_eq_true (by first | (with_reducible assumption) | assumption); obtain ⟨ad118, e118, hx118_0, hx118_1, hx118_2, hx118_3, hx118_4, hx118_5, hx118_6, hx118_7, hx118_8, hx118_9, hx118_10, hx118_11, hx118_12, hx118_13, hx118_14, hx118_15⟩ := at_T42 HR0_1.out x25_2 p118 q118
          cases e118
          replace hx118_0 := (HB.out.cell (World.block_lt_of_cell? w _ hx118_0)).trans hx118_0; replace hx118_1 := (HB.out.cell (World.block_lt_of_cell? w _ hx118_1)).trans hx118_1; replace hx118_2 := (HB.out.cell (World.block_lt_of_cell? w _ hx118_2)).trans hx118_2; replace hx118_3 := (HB.out.cell (World.block_lt_of_cell? w _ hx118_3)).trans hx118_3; replace hx118_4 := (HB.out.cell (World.block_lt_of_cell? w _ hx118_4)).trans hx118_4; replace hx118_5 := (HB.out.cell (World.block_lt_of_cell? w _ hx118_5)).trans hx118_5; replace hx118_6 := (HB.out.cell (World.block_lt_of_cell? w _ hx118_6)).trans hx118_6; replace hx118_7 := (HB.out.cell (World.block_lt_of_cell? w _ hx118_7)).trans hx118_7; replace hx118_8 := (HB.out.cell (World.block_lt_of_cell? w _ hx118_8)).trans hx118_8; replace hx118_9 := (HB.out.cell (World.block_lt_of_cell? w _ hx118_9)).trans hx118_9; replace hx118_10 := (HB.out.cell (World.block_lt_of_cell? w _ hx118_10)).trans hx118_10; replace hx118_11 := (HB.out.cell (World.block_lt_of_cell? w _ hx118_11)).trans hx118_11; replace hx118_12 := (HB.out.cell (World.block_lt_of_cell? w _ hx118_12)).trans hx118_12; replace hx118_13 := (HB.out.cell (World.block_lt_of_cell? w _ hx118_13)).trans hx118_13; replace hx118_14 := (HB.out.cell (World.block_lt_of_cell? w _ hx118_14)).trans hx118_14; replace hx118_15 := (HB.out.cell (World.block_lt_of_cell? w _ hx118_15)).trans hx118_15; replace p118 := eq_true p118; replace q118 := eq_true q118
          go_wp2_with (first | ((with_reducible refine gate_dst (N := 4) rfl ?_); (try (refine gate_guard (by rfl) ?_; dsimp only)); refine box_event ?hg (N := 4) ?hd (cs := #[.int .u8 0, .int .u8 0, .int .u8 0, .int .u8 0, .int .u8 0, .int .u8 0, .int .u8 0, .int .u8 0, .int .u8 0, .int .u8 0, .int .u8 0, .int .u8 0, .int .u8 0, .int .u8 0, .int .u8 0, .int .u8 0]) (t := 42) ?hr ?_; (case hd => rfl); (case hg => rfl); (case hr => first | (go_simp; done) | (go_simp; rfl)); intro gb119 hg w17 hbox hb; have n0_ := Aside0.mk (blk_below (pG_ BK116.out) hb); have n1_ := Aside0.mk (below_step (pH_ HB.out) hb); have n2_ := Aside0.mk (hbox); have n3_ := Aside0.mk ((by rw [hg]; exact (below_size (pH_ HB.out)) : w.heap.size ≤ gb119)); have n4_ := Aside0.mk ((by rw [hg]; exact (below_size (pH_ HB.out)) : w.heap.size ≤ gb119)); have n5_ := Aside0.mk ((by rw [hg]; exact Nat.ne_of_lt (blk_lt (pG_ BK116.out)) : gb116 ≠ gb119)); have n6_ := Aside0.mk ((by rw [hg]; exact Nat.ne_of_gt (blk_lt (pG_ BK116.out)) : gb119 ≠ gb116)); clear BK116; clear HB; have BK116 := n0_; have HB := n1_; have BK119 := n2_; have GW119 := n3_; have GE119 := n4_; have NB116_119 := n5_; have NB119_116 := n6_; clear n0_ n1_ n2_ n3_ n4_ n5_ n6_; clear hb hbox hg) | ((with_reducible refine gate_store (t := 42) (p := 4) rfl ?_); (try (rw [drewN_self w17]; generalize hq_ : World.drewN w17 _ = w17; have n0_ := Aside0.mk (blk_at hq_ BK116.out); have n1_ := Aside0.mk (blk_at hq_ BK119.out); have n2_ := Aside0.mk (below_at hq_ HB.out); clear hq_ BK116 BK119 HB; have BK116 := n0_; have BK119 := n1_; have HB := n2_; clear n0_ n1_ n2_)); refine wstore_event (t := 42) (p := 4) (v := ?vo_w18) (cs := #[.int .u8 ((rd_T42 l0_1 x25_2).f0), .int .u8 ((rd_T42 l0_1 x25_2).f1.f0), .int .u8 ((rd_T42 l0_1 x25_2).f1.f1), .int .u8 ((rd_T42 l0_1 x25_2).f1.f2), .int .u8 ((rd_T42 l0_1 x25_2).f1.f3), .int .u8 ((rd_T42 l0_1 x25_2).f1.f4), .int .u8 ((rd_T42 l0_1 x25_2).f1.f5), .int .u8 ((rd_T42 l0_1 x25_2).f1.f6), .int .u8 ((rd_T42 l0_1 x25_2).f1.f7), .int .u8 ((rd_T42 l0_1 x25_2).f1.f8), .int .u8 ((rd_T42 l0_1 x25_2).f1.f9), .int .u8 ((rd_T42 l0_1 x25_2).f1.f10), .int .u8 ((rd_T42 l0_1 x25_2).f1.f11), .int .u8 ((rd_T42 l0_1 x25_2).f1.f12), .int .u8 ((rd_T42 l0_1 x25_2).f1.f13), .int .u8 ((rd_T42 l0_1 x25_2).f1.f14)]) ?hg ?ho ?hn ?hx ?hy BK119.out (by kernel_rfl) (by rfl) (by rfl) ?_; (case ho => rfl); (case hg => rfl); (case hn => rfl); (case hx => first | rfl | (go_simp; done) | (go_simp; rfl)); (case hy => first | rfl | (go_simp; done) | (go_simp; rfl)); intro w18 hbox hg; have n0_ := Aside0.mk (blk_grown (g := gb116) (o := .cells #[.int .i64 a0_0, .slice (some ad118) l0_1.length c0_1] 24 (0, 0)) (pG_ BK116.out) hg (fun e_ => NB116_119.out (Option.some.inj e_))); have n1_ := Aside0.mk (hbox); have n2_ := Aside0.mk (pw_below_grown (pH_ HB.out) _ ((below_size (pH_ HB.out))) hg (fun k_ e_ => by injection e_ with e_; subst e_; exact GE119.out)); clear BK116; clear BK119; clear HB; have BK116 := n0_; have BK119 := n1_; have HB := n2_; clear n0_ n1_ n2_; clear hg hbox; have hnb19 := NB119_116.out; have hnc19 := NB116_119.out; have hcz20_0 : w18.cell? ⟨gb119, 0, none⟩ = some (.int .u8 ((rd_T42 l0_1 x25_2).f0)) := (blk_cell BK119.out 0).trans rfl; have hcz20_1 : w18.cell? ⟨gb119, 1, none⟩ = some (.int .u8 ((rd_T42 l0_1 x25_2).f1.f0)) := (blk_cell BK119.out 1).trans rfl; have hcz20_2 : w18.cell? ⟨gb119, 2, none⟩ = some (.int .u8 ((rd_T42 l0_1 x25_2).f1.f1)) := (blk_cell BK119.out 2).trans rfl; have hcz20_3 : w18.cell? ⟨gb119, 3, none⟩ = some (.int .u8 ((rd_T42 l0_1 x25_2).f1.f2)) := (blk_cell BK119.out 3).trans rfl; have hcz20_4 : w18.cell? ⟨gb119, 4, none⟩ = some (.int .u8 ((rd_T42 l0_1 x25_2).f1.f3)) := (blk_cell BK119.out 4).trans rfl; have hcz20_5 : w18.cell? ⟨gb119, 5, none⟩ = some (.int .u8 ((rd_T42 l0_1 x25_2).f1.f4)) := (blk_cell BK119.out 5).trans rfl; have hcz20_6 : w18.cell? ⟨gb119, 6, none⟩ = some (.int .u8 ((rd_T42 l0_1 x25_2).f1.f5)) := (blk_cell BK119.out 6).trans rfl; have hcz20_7 : w18.cell? ⟨gb119, 7, none⟩ = some (.int .u8 ((rd_T42 l0_1 x25_2).f1.f6)) := (blk_cell BK119.out 7).trans rfl; have hcz20_8 : w18.cell? ⟨gb119, 8, none⟩ = some (.int .u8 ((rd_T42 l0_1 x25_2).f1.f7)) := (blk_cell BK119.out 8).trans rfl; have hcz20_9 : w18.cell? ⟨gb119, 9, none⟩ = some (.int .u8 ((rd_T42 l0_1 x25_2).f1.f8)) := (blk_cell BK119.out 9).trans rfl; have hcz20_10 : w18.cell? ⟨gb119, 10, none⟩ = some (.int .u8 ((rd_T42 l0_1 x25_2).f1.f9)) := (blk_cell BK119.out 10).trans rfl; have hcz20_11 : w18.cell? ⟨gb119, 11, none⟩ = some (.int .u8 ((rd_T42 l0_1 x25_2).f1.f10)) := (blk_cell BK119.out 11).trans rfl; have hcz20_12 : w18.cell? ⟨gb119, 12, none⟩ = some (.int .u8 ((rd_T42 l0_1 x25_2).f1.f11)) := (blk_cell BK119.out 12).trans rfl; have hcz20_13 : w18.cell? ⟨gb119, 13, none⟩ = some (.int .u8 ((rd_T42 l0_1 x25_2).f1.f12)) := (blk_cell BK119.out 13).trans rfl; have hcz20_14 : w18.cell? ⟨gb119, 14, none⟩ = some (.int .u8 ((rd_T42 l0_1 x25_2).f1.f13)) := (blk_cell BK119.out 14).trans rfl; have hcz20_15 : w18.cell? ⟨gb119, 15, none⟩ = some (.int .u8 ((rd_T42 l0_1 x25_2).f1.f14)) := (blk_cell BK119.out 15).trans rfl; have hfz20_0 := blk_frozen BK119.out 0; have hfz20_1 := blk_frozen BK119.out 1; have hfz20_2 := blk_frozen BK119.out 2; have hfz20_3 := blk_frozen BK119.out 3; have hfz20_4 := blk_frozen BK119.out 4; have hfz20_5 := blk_frozen BK119.out 5; have hfz20_6 := blk_frozen BK119.out 6; have hfz20_7 := blk_frozen BK119.out 7; have hfz20_8 := blk_frozen BK119.out 8; have hfz20_9 := blk_frozen BK119.out 9; have hfz20_10 := blk_frozen BK119.out 10; have hfz20_11 := blk_frozen BK119.out 11; have hfz20_12 := blk_frozen BK119.out 12; have hfz20_13 := blk_frozen BK119.out 13; have hfz20_14 := blk_frozen BK119.out 14; have hfz20_15 := blk_frozen BK119.out 15; have hy21 : y120.length = 15 := (by rw [Ny120.out]; rfl); obtain ⟨i021, hi021, _, hsz21, _⟩ := info_parts info5; have hcut21 := fun (W : World) => slice_arr_ (P := Try.prog) Try.underlying40 hi021 hsz21 gb119 1 y120 hy21 W; have hC21 := arr_C_ (k := .u8) BK119.out 1 y120 (by rw [hy21]; decide) (fun j_ h_ => by have e_ := Ny120.out; rw [e_] at h_ ⊢; match j_, h_ with | 0, _ => rfl | 1, _ => rfl | 2, _ => rfl | 3, _ => rfl | 4, _ => rfl | 5, _ => rfl | 6, _ => rfl | 7, _ => rfl | 8, _ => rfl | 9, _ => rfl | 10, _ => rfl | 11, _ => rfl | 12, _ => rfl | 13, _ => rfl | 14, _ => rfl); have HR123 := Aside0.mk hC21; have HC123 := Aside0.mk (Nat.le_refl y120.length); have KY21 := Aside0.mk hy21; clear hC21 hy21 hi021 hsz21) | (go_at_call 39; (with_reducible refine (slices_Max_uint8_uint8.calls k2 _ _ y120 t124 _ ?side1 ?side2 A15.out).mono ?_); (case side1 => repeat (first | exact (by repeat (first | (with_reducible exact HR123.out) | (with_reducible refine Kd.C_alloc ?_ _) | (with_reducible refine Kd.C_drewN ?_ _) | (with_reducible refine Kd.C_drew ?_) | exact HR123.out)) | (with_reducible refine Kd.C_alloc ?_ _) | (with_reducible refine Kd.C_drewN ?_ _) | (with_reducible refine Kd.C_drew ?_))); (case side2 => exact HC123.out); rintro e w22 ⟨rfl, hb⟩; have n0_ := Aside0.mk (blk_below (pG_ BK116.out) hb); have n1_ := Aside0.mk (blk_below (pG_ BK119.out) hb); have n2_ := Aside0.mk (Kd.C_below (by repeat (first | (with_reducible exact HR123.out) | (with_reducible refine Kd.C_alloc ?_ _) | (with_reducible refine Kd.C_drewN ?_ _) | (with_reducible refine Kd.C_drew ?_) | exact HR123.out)) hb); have n3_ := Aside0.mk (below_step (pH_ HB.out) hb); clear BK116; clear BK119; clear HR123; clear HB; have BK116 := n0_; have BK119 := n1_; have HR123 := n2_; have HB := n3_; clear n0_ n1_ n2_ n3_; (try clear hb)))
          repeat (go_quiet (first | ((with_reducible refine gate_dst (N := 4) rfl ?_); (try (refine gate_guard (by rfl) ?_; dsimp only)); refine box_event ?hg (N := 4) ?hd (cs := #[.int .u8 0, .int .u8 0, .int .u8 0, .int .u8 0, .int .u8 0, .int .u8 0, .int .u8 0, .int .u8 0, .int .u8 0, .int .u8 0, .int .u8 0, .int .u8 0, .int .u8 0, .int .u8 0, .int .u8 0, .int .u8 0]) (t := 42) ?hr ?_; (case hd => rfl); (case hg => rfl); (case hr => first | (go_simp; done) | (go_simp; rfl)); intro gb119 hg w17 hbox hb; have n0_ := Aside0.mk (blk_below (pG_ BK116.out) hb); have n1_ := Aside0.mk (below_step (pH_ HB.out) hb); have n2_ := Aside0.mk (hbox); have n3_ := Aside0.mk ((by rw [hg]; exact (below_size (pH_ HB.out)) : w.heap.size ≤ gb119)); have n4_ := Aside0.mk ((by rw [hg]; exact (below_size (pH_ HB.out)) : w.heap.size ≤ gb119)); have n5_ := Aside0.mk ((by rw [hg]; exact Nat.ne_of_lt (blk_lt (pG_ BK116.out)) : gb116 ≠ gb119)); have n6_ := Aside0.mk ((by rw [hg]; exact Nat.ne_of_gt (blk_lt (pG_ BK116.out)) : gb119 ≠ gb116)); clear BK116; clear HB; have BK116 := n0_; have HB := n1_; have BK119 := n2_; have GW119 := n3_; have GE119 := n4_; have NB116_119 := n5_; have NB119_116 := n6_; clear n0_ n1_ n2_ n3_ n4_ n5_ n6_; clear hb hbox hg) | ((with_reducible refine gate_store (t := 42) (p := 4) rfl ?_); (try (rw [drewN_self w17]; generalize hq_ : World.drewN w17 _ = w17; have n0_ := Aside0.mk (blk_at hq_ BK116.out); have n1_ := Aside0.mk (blk_at hq_ BK119.out); have n2_ := Aside0.mk (below_at hq_ HB.out); clear hq_ BK116 BK119 HB; have BK116 := n0_; have BK119 := n1_; have HB := n2_; clear n0_ n1_ n2_)); refine wstore_event (t := 42) (p := 4) (v := ?vo_w18) (cs := #[.int .u8 ((rd_T42 l0_1 x25_2).f0), .int .u8 ((rd_T42 l0_1 x25_2).f1.f0), .int .u8 ((rd_T42 l0_1 x25_2).f1.f1), .int .u8 ((rd_T42 l0_1 x25_2).f1.f2), .int .u8 ((rd_T42 l0_1 x25_2).f1.f3), .int .u8 ((rd_T42 l0_1 x25_2).f1.f4), .int .u8 ((rd_T42 l0_1 x25_2).f1.f5), .int .u8 ((rd_T42 l0_1 x25_2).f1.f6), .int .u8 ((rd_T42 l0_1 x25_2).f1.f7), .int .u8 ((rd_T42 l0_1 x25_2).f1.f8), .int .u8 ((rd_T42 l0_1 x25_2).f1.f9), .int .u8 ((rd_T42 l0_1 x25_2).f1.f10), .int .u8 ((rd_T42 l0_1 x25_2).f1.f11), .int .u8 ((rd_T42 l0_1 x25_2).f1.f12), .int .u8 ((rd_T42 l0_1 x25_2).f1.f13), .int .u8 ((rd_T42 l0_1 x25_2).f1.f14)]) ?hg ?ho ?hn ?hx ?hy BK119.out (by kernel_rfl) (by rfl) (by rfl) ?_; (case ho => rfl); (case hg => rfl); (case hn => rfl); (case hx => first | rfl | (go_simp; done) | (go_simp; rfl)); (case hy => first | rfl | (go_simp; done) | (go_simp; rfl)); intro w18 hbox hg; have n0_ := Aside0.mk (blk_grown (g := gb116) (o := .cells #[.int .i64 a0_0, .slice (some ad118) l0_1.length c0_1] 24 (0, 0)) (pG_ BK116.out) hg (fun e_ => NB116_119.out (Option.some.inj e_))); have n1_ := Aside0.mk (hbox); have n2_ := Aside0.mk (pw_below_grown (pH_ HB.out) _ ((below_size (pH_ HB.out))) hg (fun k_ e_ => by injection e_ with e_; subst e_; exact GE119.out)); clear BK116; clear BK119; clear HB; have BK116 := n0_; have BK119 := n1_; have HB := n2_; clear n0_ n1_ n2_; clear hg hbox; have hnb19 := NB119_116.out; have hnc19 := NB116_119.out; have hcz20_0 : w18.cell? ⟨gb119, 0, none⟩ = some (.int .u8 ((rd_T42 l0_1 x25_2).f0)) := (blk_cell BK119.out 0).trans rfl; have hcz20_1 : w18.cell? ⟨gb119, 1, none⟩ = some (.int .u8 ((rd_T42 l0_1 x25_2).f1.f0)) := (blk_cell BK119.out 1).trans rfl; have hcz20_2 : w18.cell? ⟨gb119, 2, none⟩ = some (.int .u8 ((rd_T42 l0_1 x25_2).f1.f1)) := (blk_cell BK119.out 2).trans rfl; have hcz20_3 : w18.cell? ⟨gb119, 3, none⟩ = some (.int .u8 ((rd_T42 l0_1 x25_2).f1.f2)) := (blk_cell BK119.out 3).trans rfl; have hcz20_4 : w18.cell? ⟨gb119, 4, none⟩ = some (.int .u8 ((rd_T42 l0_1 x25_2).f1.f3)) := (blk_cell BK119.out 4).trans rfl; have hcz20_5 : w18.cell? ⟨gb119, 5, none⟩ = some (.int .u8 ((rd_T42 l0_1 x25_2).f1.f4)) := (blk_cell BK119.out 5).trans rfl; have hcz20_6 : w18.cell? ⟨gb119, 6, none⟩ = some (.int .u8 ((rd_T42 l0_1 x25_2).f1.f5)) := (blk_cell BK119.out 6).trans rfl; have hcz20_7 : w18.cell? ⟨gb119, 7, none⟩ = some (.int .u8 ((rd_T42 l0_1 x25_2).f1.f6)) := (blk_cell BK119.out 7).trans rfl; have hcz20_8 : w18.cell? ⟨gb119, 8, none⟩ = some (.int .u8 ((rd_T42 l0_1 x25_2).f1.f7)) := (blk_cell BK119.out 8).trans rfl; have hcz20_9 : w18.cell? ⟨gb119, 9, none⟩ = some (.int .u8 ((rd_T42 l0_1 x25_2).f1.f8)) := (blk_cell BK119.out 9).trans rfl; have hcz20_10 : w18.cell? ⟨gb119, 10, none⟩ = some (.int .u8 ((rd_T42 l0_1 x25_2).f1.f9)) := (blk_cell BK119.out 10).trans rfl; have hcz20_11 : w18.cell? ⟨gb119, 11, none⟩ = some (.int .u8 ((rd_T42 l0_1 x25_2).f1.f10)) := (blk_cell BK119.out 11).trans rfl; have hcz20_12 : w18.cell? ⟨gb119, 12, none⟩ = some (.int .u8 ((rd_T42 l0_1 x25_2).f1.f11)) := (blk_cell BK119.out 12).trans rfl; have hcz20_13 : w18.cell? ⟨gb119, 13, none⟩ = some (.int .u8 ((rd_T42 l0_1 x25_2).f1.f12)) := (blk_cell BK119.out 13).trans rfl; have hcz20_14 : w18.cell? ⟨gb119, 14, none⟩ = some (.int .u8 ((rd_T42 l0_1 x25_2).f1.f13)) := (blk_cell BK119.out 14).trans rfl; have hcz20_15 : w18.cell? ⟨gb119, 15, none⟩ = some (.int .u8 ((rd_T42 l0_1 x25_2).f1.f14)) := (blk_cell BK119.out 15).trans rfl; have hfz20_0 := blk_frozen BK119.out 0; have hfz20_1 := blk_frozen BK119.out 1; have hfz20_2 := blk_frozen BK119.out 2; have hfz20_3 := blk_frozen BK119.out 3; have hfz20_4 := blk_frozen BK119.out 4; have hfz20_5 := blk_frozen BK119.out 5; have hfz20_6 := blk_frozen BK119.out 6; have hfz20_7 := blk_frozen BK119.out 7; have hfz20_8 := blk_frozen BK119.out 8; have hfz20_9 := blk_frozen BK119.out 9; have hfz20_10 := blk_frozen BK119.out 10; have hfz20_11 := blk_frozen BK119.out 11; have hfz20_12 := blk_frozen BK119.out 12; have hfz20_13 := blk_frozen BK119.out 13; have hfz20_14 := blk_frozen BK119.out 14; have hfz20_15 := blk_frozen BK119.out 15; have hy21 : y120.length = 15 := (by rw [Ny120.out]; rfl); obtain ⟨i021, hi021, _, hsz21, _⟩ := info_parts info5; have hcut21 := fun (W : World) => slice_arr_ (P := Try.prog) Try.underlying40 hi021 hsz21 gb119 1 y120 hy21 W; have hC21 := arr_C_ (k := .u8) BK119.out 1 y120 (by rw [hy21]; decide) (fun j_ h_ => by have e_ := Ny120.out; rw [e_] at h_ ⊢; match j_, h_ with | 0, _ => rfl | 1, _ => rfl | 2, _ => rfl | 3, _ => rfl | 4, _ => rfl | 5, _ => rfl | 6, _ => rfl | 7, _ => rfl | 8, _ => rfl | 9, _ => rfl | 10, _ => rfl | 11, _ => rfl | 12, _ => rfl | 13, _ => rfl | 14, _ => rfl); have HR123 := Aside0.mk hC21; have HC123 := Aside0.mk (Nat.le_refl y120.length); have KY21 := Aside0.mk hy21; clear hC21 hy21 hi021 hsz21) | (go_at_call 39; (with_reducible refine (slices_Max_uint8_uint8.calls k2 _ _ y120 t124 _ ?side1 ?side2 A15.out).mono ?_); (case side1 => repeat (first | exact (by repeat (first | (with_reducible exact HR123.out) | (with_reducible refine Kd.C_alloc ?_ _) | (with_reducible refine Kd.C_drewN ?_ _) | (with_reducible refine Kd.C_drew ?_) | exact HR123.out)) | (with_reducible refine Kd.C_alloc ?_ _) | (with_reducible refine Kd.C_drewN ?_ _) | (with_reducible refine Kd.C_drew ?_))); (case side2 => exact HC123.out); rintro e w22 ⟨rfl, hb⟩; have n0_ := Aside0.mk (blk_below (pG_ BK116.out) hb); have n1_ := Aside0.mk (blk_below (pG_ BK119.out) hb); have n2_ := Aside0.mk (Kd.C_below (by repeat (first | (with_reducible exact HR123.out) | (with_reducible refine Kd.C_alloc ?_ _) | (with_reducible refine Kd.C_drewN ?_ _) | (with_reducible refine Kd.C_drew ?_) | exact HR123.out)) hb); have n3_ := Aside0.mk (below_step (pH_ HB.out) hb); clear BK116; clear BK119; clear HR123; clear HB; have BK116 := n0_; have BK119 := n1_; have HR123 := n2_; have HB := n3_; clear n0_ n1_ n2_ n3_; (try clear hb))); try go_wp2_with (first | ((with_reducible refine gate_dst (N := 4) rfl ?_); (try (refine gate_guard (by rfl) ?_; dsimp only)); refine box_event ?hg (N := 4) ?hd (cs := #[.int .u8 0, .int .u8 0, .int .u8 0, .int .u8 0, .int .u8 0, .int .u8 0, .int .u8 0, .int .u8 0, .int .u8 0, .int .u8 0, .int .u8 0, .int .u8 0, .int .u8 0, .int .u8 0, .int .u8 0, .int .u8 0]) (t := 42) ?hr ?_; (case hd => rfl); (case hg => rfl); (case hr => first | (go_simp; done) | (go_simp; rfl)); intro gb119 hg w17 hbox hb; have n0_ := Aside0.mk (blk_below (pG_ BK116.out) hb); have n1_ := Aside0.mk (below_step (pH_ HB.out) hb); have n2_ := Aside0.mk (hbox); have n3_ := Aside0.mk ((by rw [hg]; exact (below_size (pH_ HB.out)) : w.heap.size ≤ gb119)); have n4_ := Aside0.mk ((by rw [hg]; exact (below_size (pH_ HB.out)) : w.heap.size ≤ gb119)); have n5_ := Aside0.mk ((by rw [hg]; exact Nat.ne_of_lt (blk_lt (pG_ BK116.out)) : gb116 ≠ gb119)); have n6_ := Aside0.mk ((by rw [hg]; exact Nat.ne_of_gt (blk_lt (pG_ BK116.out)) : gb119 ≠ gb116)); clear BK116; clear HB; have BK116 := n0_; have HB := n1_; have BK119 := n2_; have GW119 := n3_; have GE119 := n4_; have NB116_119 := n5_; have NB119_116 := n6_; clear n0_ n1_ n2_ n3_ n4_ n5_ n6_; clear hb hbox hg) | ((with_reducible refine gate_store (t := 42) (p := 4) rfl ?_); (try (rw [drewN_self w17]; generalize hq_ : World.drewN w17 _ = w17; have n0_ := Aside0.mk (blk_at hq_ BK116.out); have n1_ := Aside0.mk (blk_at hq_ BK119.out); have n2_ := Aside0.mk (below_at hq_ HB.out); clear hq_ BK116 BK119 HB; have BK116 := n0_; have BK119 := n1_; have HB := n2_; clear n0_ n1_ n2_)); refine wstore_event (t := 42) (p := 4) (v := ?vo_w18) (cs := #[.int .u8 ((rd_T42 l0_1 x25_2).f0), .int .u8 ((rd_T42 l0_1 x25_2).f1.f0), .int .u8 ((rd_T42 l0_1 x25_2).f1.f1), .int .u8 ((rd_T42 l0_1 x25_2).f1.f2), .int .u8 ((rd_T42 l0_1 x25_2).f1.f3), .int .u8 ((rd_T42 l0_1 x25_2).f1.f4), .int .u8 ((rd_T42 l0_1 x25_2).f1.f5), .int .u8 ((rd_T42 l0_1 x25_2).f1.f6), .int .u8 ((rd_T42 l0_1 x25_2).f1.f7), .int .u8 ((rd_T42 l0_1 x25_2).f1.f8), .int .u8 ((rd_T42 l0_1 x25_2).f1.f9), .int .u8 ((rd_T42 l0_1 x25_2).f1.f10), .int .u8 ((rd_T42 l0_1 x25_2).f1.f11), .int .u8 ((rd_T42 l0_1 x25_2).f1.f12), .int .u8 ((rd_T42 l0_1 x25_2).f1.f13), .int .u8 ((rd_T42 l0_1 x25_2).f1.f14)]) ?hg ?ho ?hn ?hx ?hy BK119.out (by kernel_rfl) (by rfl) (by rfl) ?_; (case ho => rfl); (case hg => rfl); (case hn => rfl); (case hx => first | rfl | (go_simp; done) | (go_simp; rfl)); (case hy => first | rfl | (go_simp; done) | (go_simp; rfl)); intro w18 hbox hg; have n0_ := Aside0.mk (blk_grown (g := gb116) (o := .cells #[.int .i64 a0_0, .slice (some ad118) l0_1.length c0_1] 24 (0, 0)) (pG_ BK116.out) hg (fun e_ => NB116_119.out (Option.some.inj e_))); have n1_ := Aside0.mk (hbox); have n2_ := Aside0.mk (pw_below_grown (pH_ HB.out) _ ((below_size (pH_ HB.out))) hg (fun k_ e_ => by injection e_ with e_; subst e_; exact GE119.out)); clear BK116; clear BK119; clear HB; have BK116 := n0_; have BK119 := n1_; have HB := n2_; clear n0_ n1_ n2_; clear hg hbox; have hnb19 := NB119_116.out; have hnc19 := NB116_119.out; have hcz20_0 : w18.cell? ⟨gb119, 0, none⟩ = some (.int .u8 ((rd_T42 l0_1 x25_2).f0)) := (blk_cell BK119.out 0).trans rfl; have hcz20_1 : w18.cell? ⟨gb119, 1, none⟩ = some (.int .u8 ((rd_T42 l0_1 x25_2).f1.f0)) := (blk_cell BK119.out 1).trans rfl; have hcz20_2 : w18.cell? ⟨gb119, 2, none⟩ = some (.int .u8 ((rd_T42 l0_1 x25_2).f1.f1)) := (blk_cell BK119.out 2).trans rfl; have hcz20_3 : w18.cell? ⟨gb119, 3, none⟩ = some (.int .u8 ((rd_T42 l0_1 x25_2).f1.f2)) := (blk_cell BK119.out 3).trans rfl; have hcz20_4 : w18.cell? ⟨gb119, 4, none⟩ = some (.int .u8 ((rd_T42 l0_1 x25_2).f1.f3)) := (blk_cell BK119.out 4).trans rfl; have hcz20_5 : w18.cell? ⟨gb119, 5, none⟩ = some (.int .u8 ((rd_T42 l0_1 x25_2).f1.f4)) := (blk_cell BK119.out 5).trans rfl; have hcz20_6 : w18.cell? ⟨gb119, 6, none⟩ = some (.int .u8 ((rd_T42 l0_1 x25_2).f1.f5)) := (blk_cell BK119.out 6).trans rfl; have hcz20_7 : w18.cell? ⟨gb119, 7, none⟩ = some (.int .u8 ((rd_T42 l0_1 x25_2).f1.f6)) := (blk_cell BK119.out 7).trans rfl; have hcz20_8 : w18.cell? ⟨gb119, 8, none⟩ = some (.int .u8 ((rd_T42 l0_1 x25_2).f1.f7)) := (blk_cell BK119.out 8).trans rfl; have hcz20_9 : w18.cell? ⟨gb119, 9, none⟩ = some (.int .u8 ((rd_T42 l0_1 x25_2).f1.f8)) := (blk_cell BK119.out 9).trans rfl; have hcz20_10 : w18.cell? ⟨gb119, 10, none⟩ = some (.int .u8 ((rd_T42 l0_1 x25_2).f1.f9)) := (blk_cell BK119.out 10).trans rfl; have hcz20_11 : w18.cell? ⟨gb119, 11, none⟩ = some (.int .u8 ((rd_T42 l0_1 x25_2).f1.f10)) := (blk_cell BK119.out 11).trans rfl; have hcz20_12 : w18.cell? ⟨gb119, 12, none⟩ = some (.int .u8 ((rd_T42 l0_1 x25_2).f1.f11)) := (blk_cell BK119.out 12).trans rfl; have hcz20_13 : w18.cell? ⟨gb119, 13, none⟩ = some (.int .u8 ((rd_T42 l0_1 x25_2).f1.f12)) := (blk_cell BK119.out 13).trans rfl; have hcz20_14 : w18.cell? ⟨gb119, 14, none⟩ = some (.int .u8 ((rd_T42 l0_1 x25_2).f1.f13)) := (blk_cell BK119.out 14).trans rfl; have hcz20_15 : w18.cell? ⟨gb119, 15, none⟩ = some (.int .u8 ((rd_T42 l0_1 x25_2).f1.f14)) := (blk_cell BK119.out 15).trans rfl; have hfz20_0 := blk_frozen BK119.out 0; have hfz20_1 := blk_frozen BK119.out 1; have hfz20_2 := blk_frozen BK119.out 2; have hfz20_3 := blk_frozen BK119.out 3; have hfz20_4 := blk_frozen BK119.out 4; have hfz20_5 := blk_frozen BK119.out 5; have hfz20_6 := blk_frozen BK119.out 6; have hfz20_7 := blk_frozen BK119.out 7; have hfz20_8 := blk_frozen BK119.out 8; have hfz20_9 := blk_frozen BK119.out 9; have hfz20_10 := blk_frozen BK119.out 10; have hfz20_11 := blk_frozen BK119.out 11; have hfz20_12 := blk_frozen BK119.out 12; have hfz20_13 := blk_frozen BK119.out 13; have hfz20_14 := blk_frozen BK119.out 14; have hfz20_15 := blk_frozen BK119.out 15; have hy21 : y120.length = 15 := (by rw [Ny120.out]; rfl); obtain ⟨i021, hi021, _, hsz21, _⟩ := info_parts info5; have hcut21 := fun (W : World) => slice_arr_ (P := Try.prog) Try.underlying40 hi021 hsz21 gb119 1 y120 hy21 W; have hC21 := arr_C_ (k := .u8) BK119.out 1 y120 (by rw [hy21]; decide) (fun j_ h_ => by have e_ := Ny120.out; rw [e_] at h_ ⊢; match j_, h_ with | 0, _ => rfl | 1, _ => rfl | 2, _ => rfl | 3, _ => rfl | 4, _ => rfl | 5, _ => rfl | 6, _ => rfl | 7, _ => rfl | 8, _ => rfl | 9, _ => rfl | 10, _ => rfl | 11, _ => rfl | 12, _ => rfl | 13, _ => rfl | 14, _ => rfl); have HR123 := Aside0.mk hC21; have HC123 := Aside0.mk (Nat.le_refl y120.length); have KY21 := Aside0.mk hy21; clear hC21 hy21 hi021 hsz21) | (go_at_call 39; (with_reducible refine (slices_Max_uint8_uint8.calls k2 _ _ y120 t124 _ ?side1 ?side2 A15.out).mono ?_); (case side1 => repeat (first | exact (by repeat (first | (with_reducible exact HR123.out) | (with_reducible refine Kd.C_alloc ?_ _) | (with_reducible refine Kd.C_drewN ?_ _) | (with_reducible refine Kd.C_drew ?_) | exact HR123.out)) | (with_reducible refine Kd.C_alloc ?_ _) | (with_reducible refine Kd.C_drewN ?_ _) | (with_reducible refine Kd.C_drew ?_))); (case side2 => exact HC123.out); rintro e w22 ⟨rfl, hb⟩; have n0_ := Aside0.mk (blk_below (pG_ BK116.out) hb); have n1_ := Aside0.mk (blk_below (pG_ BK119.out) hb); have n2_ := Aside0.mk (Kd.C_below (by repeat (first | (with_reducible exact HR123.out) | (with_reducible refine Kd.C_alloc ?_ _) | (with_reducible refine Kd.C_drewN ?_ _) | (with_reducible refine Kd.C_drew ?_) | exact HR123.out)) hb); have n3_ := Aside0.mk (below_step (pH_ HB.out) hb); clear BK116; clear BK119; clear HR123; clear HB; have BK116 := n0_; have BK119 := n1_; have HR123 := n2_; have HB := n3_; clear n0_ n1_ n2_ n3_; (try clear hb))))
          go_ret
          exact ⟨by first | rfl | (simp [errW_none, errW_some] <;> rfl) | (simp [*, errW_none, errW_some] <;> rfl), pH_ HB.out⟩
         ·
          rw [if_neg c16] at H; have c16b0 : decide (193 ≤ t124) = false := decide_eq_false c16; clear c16; have H' := Aside0.mk H; clear H; have p118 : 0 ≤ (x25_2 : Int) := of_decide_eq_true (by first | (with_reducible assumption) | assumption); have q118 : x25_2 < (l0_1.length : Int) := of_decide_eq_true (by first | (with_reducible assumption) | assumption); obtain ⟨ad118, e118, hx118_0, hx118_1, hx118_2, hx118_3, hx118_4, hx118_5, hx118_6, hx118_7, hx118_8, hx118_9, hx118_10, hx118_11, hx118_12, hx118_13, hx118_14, hx118_15⟩ := at_T42 HR0_1.out x25_2 p118 q118
          cases e118
          replace hx118_0 := (HB.out.cell (World.block_lt_of_cell? w _ hx118_0)).trans hx118_0; replace hx118_1 := (HB.out.cell (World.block_lt_of_cell? w _ hx118_1)).trans hx118_1; replace hx118_2 := (HB.out.cell (World.block_lt_of_cell? w _ hx118_2)).trans hx118_2; replace hx118_3 := (HB.out.cell (World.block_lt_of_cell? w _ hx118_3)).trans hx118_3; replace hx118_4 := (HB.out.cell (World.block_lt_of_cell? w _ hx118_4)).trans hx118_4; replace hx118_5 := (HB.out.cell (World.block_lt_of_cell? w _ hx118_5)).trans hx118_5; replace hx118_6 := (HB.out.cell (World.block_lt_of_cell? w _ hx118_6)).trans hx118_6; replace hx118_7 := (HB.out.cell (World.block_lt_of_cell? w _ hx118_7)).trans hx118_7; replace hx118_8 := (HB.out.cell (World.block_lt_of_cell? w _ hx118_8)).trans hx118_8; replace hx118_9 := (HB.out.cell (World.block_lt_of_cell? w _ hx118_9)).trans hx118_9; replace hx118_10 := (HB.out.cell (World.block_lt_of_cell? w _ hx118_10)).trans hx118_10; replace hx118_11 := (HB.out.cell (World.block_lt_of_cell? w _ hx118_11)).trans hx118_11; replace hx118_12 := (HB.out.cell (World.block_lt_of_cell? w _ hx118_12)).trans hx118_12; replace hx118_13 := (HB.out.cell (World.block_lt_of_cell? w _ hx118_13)).trans hx118_13; replace hx118_14 := (HB.out.cell (World.block_lt_of_cell? w _ hx118_14)).trans hx118_14; replace hx118_15 := (HB.out.cell (World.block_lt_of_cell? w _ hx118_15)).trans hx118_15; replace p118 := eq_true p118; replace q118 := eq_true q118
          go_wp2_with (first | ((with_reducible refine gate_dst (N := 4) rfl ?_); (try (refine gate_guard (by rfl) ?_; dsimp only)); refine box_event ?hg (N := 4) ?hd (cs := #[.int .u8 0, .int .u8 0, .int .u8 0, .int .u8 0, .int .u8 0, .int .u8 0, .int .u8 0, .int .u8 0, .int .u8 0, .int .u8 0, .int .u8 0, .int .u8 0, .int .u8 0, .int .u8 0, .int .u8 0, .int .u8 0]) (t := 42) ?hr ?_; (case hd => rfl); (case hg => rfl); (case hr => first | (go_simp; done) | (go_simp; rfl)); intro gb119 hg w23 hbox hb; have n0_ := Aside0.mk (blk_below (pG_ BK116.out) hb); have n1_ := Aside0.mk (below_step (pH_ HB.out) hb); have n2_ := Aside0.mk (hbox); have n3_ := Aside0.mk ((by rw [hg]; exact (below_size (pH_ HB.out)) : w.heap.size ≤ gb119)); have n4_ := Aside0.mk ((by rw [hg]; exact (below_size (pH_ HB.out)) : w.heap.size ≤ gb119)); have n5_ := Aside0.mk ((by rw [hg]; exact Nat.ne_of_lt (blk_lt (pG_ BK116.out)) : gb116 ≠ gb119)); have n6_ := Aside0.mk ((by rw [hg]; exact Nat.ne_of_gt (blk_lt (pG_ BK116.out)) : gb119 ≠ gb116)); clear BK116; clear HB; have BK116 := n0_; have HB := n1_; have BK119 := n2_; have GW119 := n3_; have GE119 := n4_; have NB116_119 := n5_; have NB119_116 := n6_; clear n0_ n1_ n2_ n3_ n4_ n5_ n6_; clear hb hbox hg) | ((with_reducible refine gate_store (t := 42) (p := 4) rfl ?_); (try (rw [drewN_self w23]; generalize hq_ : World.drewN w23 _ = w23; have n0_ := Aside0.mk (blk_at hq_ BK116.out); have n1_ := Aside0.mk (blk_at hq_ BK119.out); have n2_ := Aside0.mk (below_at hq_ HB.out); clear hq_ BK116 BK119 HB; have BK116 := n0_; have BK119 := n1_; have HB := n2_; clear n0_ n1_ n2_)); refine wstore_event (t := 42) (p := 4) (v := ?vo_w24) (cs := #[.int .u8 ((rd_T42 l0_1 x25_2).f0), .int .u8 ((rd_T42 l0_1 x25_2).f1.f0), .int .u8 ((rd_T42 l0_1 x25_2).f1.f1), .int .u8 ((rd_T42 l0_1 x25_2).f1.f2), .int .u8 ((rd_T42 l0_1 x25_2).f1.f3), .int .u8 ((rd_T42 l0_1 x25_2).f1.f4), .int .u8 ((rd_T42 l0_1 x25_2).f1.f5), .int .u8 ((rd_T42 l0_1 x25_2).f1.f6), .int .u8 ((rd_T42 l0_1 x25_2).f1.f7), .int .u8 ((rd_T42 l0_1 x25_2).f1.f8), .int .u8 ((rd_T42 l0_1 x25_2).f1.f9), .int .u8 ((rd_T42 l0_1 x25_2).f1.f10), .int .u8 ((rd_T42 l0_1 x25_2).f1.f11), .int .u8 ((rd_T42 l0_1 x25_2).f1.f12), .int .u8 ((rd_T42 l0_1 x25_2).f1.f13), .int .u8 ((rd_T42 l0_1 x25_2).f1.f14)]) ?hg ?ho ?hn ?hx ?hy BK119.out (by kernel_rfl) (by rfl) (by rfl) ?_; (case ho => rfl); (case hg => rfl); (case hn => rfl); (case hx => first | rfl | (go_simp; done) | (go_simp; rfl)); (case hy => first | rfl | (go_simp; done) | (go_simp; rfl)); intro w24 hbox hg; have n0_ := Aside0.mk (blk_grown (g := gb116) (o := .cells #[.int .i64 a0_0, .slice (some ad118) l0_1.length c0_1] 24 (0, 0)) (pG_ BK116.out) hg (fun e_ => NB116_119.out (Option.some.inj e_))); have n1_ := Aside0.mk (hbox); have n2_ := Aside0.mk (pw_below_grown (pH_ HB.out) _ ((below_size (pH_ HB.out))) hg (fun k_ e_ => by injection e_ with e_; subst e_; exact GE119.out)); clear BK116; clear BK119; clear HB; have BK116 := n0_; have BK119 := n1_; have HB := n2_; clear n0_ n1_ n2_; clear hg hbox; have hnb25 := NB119_116.out; have hnc25 := NB116_119.out; have hcz26_0 : w24.cell? ⟨gb119, 0, none⟩ = some (.int .u8 ((rd_T42 l0_1 x25_2).f0)) := (blk_cell BK119.out 0).trans rfl; have hcz26_1 : w24.cell? ⟨gb119, 1, none⟩ = some (.int .u8 ((rd_T42 l0_1 x25_2).f1.f0)) := (blk_cell BK119.out 1).trans rfl; have hcz26_2 : w24.cell? ⟨gb119, 2, none⟩ = some (.int .u8 ((rd_T42 l0_1 x25_2).f1.f1)) := (blk_cell BK119.out 2).trans rfl; have hcz26_3 : w24.cell? ⟨gb119, 3, none⟩ = some (.int .u8 ((rd_T42 l0_1 x25_2).f1.f2)) := (blk_cell BK119.out 3).trans rfl; have hcz26_4 : w24.cell? ⟨gb119, 4, none⟩ = some (.int .u8 ((rd_T42 l0_1 x25_2).f1.f3)) := (blk_cell BK119.out 4).trans rfl; have hcz26_5 : w24.cell? ⟨gb119, 5, none⟩ = some (.int .u8 ((rd_T42 l0_1 x25_2).f1.f4)) := (blk_cell BK119.out 5).trans rfl; have hcz26_6 : w24.cell? ⟨gb119, 6, none⟩ = some (.int .u8 ((rd_T42 l0_1 x25_2).f1.f5)) := (blk_cell BK119.out 6).trans rfl; have hcz26_7 : w24.cell? ⟨gb119, 7, none⟩ = some (.int .u8 ((rd_T42 l0_1 x25_2).f1.f6)) := (blk_cell BK119.out 7).trans rfl; have hcz26_8 : w24.cell? ⟨gb119, 8, none⟩ = some (.int .u8 ((rd_T42 l0_1 x25_2).f1.f7)) := (blk_cell BK119.out 8).trans rfl; have hcz26_9 : w24.cell? ⟨gb119, 9, none⟩ = some (.int .u8 ((rd_T42 l0_1 x25_2).f1.f8)) := (blk_cell BK119.out 9).trans rfl; have hcz26_10 : w24.cell? ⟨gb119, 10, none⟩ = some (.int .u8 ((rd_T42 l0_1 x25_2).f1.f9)) := (blk_cell BK119.out 10).trans rfl; have hcz26_11 : w24.cell? ⟨gb119, 11, none⟩ = some (.int .u8 ((rd_T42 l0_1 x25_2).f1.f10)) := (blk_cell BK119.out 11).trans rfl; have hcz26_12 : w24.cell? ⟨gb119, 12, none⟩ = some (.int .u8 ((rd_T42 l0_1 x25_2).f1.f11)) := (blk_cell BK119.out 12).trans rfl; have hcz26_13 : w24.cell? ⟨gb119, 13, none⟩ = some (.int .u8 ((rd_T42 l0_1 x25_2).f1.f12)) := (blk_cell BK119.out 13).trans rfl; have hcz26_14 : w24.cell? ⟨gb119, 14, none⟩ = some (.int .u8 ((rd_T42 l0_1 x25_2).f1.f13)) := (blk_cell BK119.out 14).trans rfl; have hcz26_15 : w24.cell? ⟨gb119, 15, none⟩ = some (.int .u8 ((rd_T42 l0_1 x25_2).f1.f14)) := (blk_cell BK119.out 15).trans rfl; have hfz26_0 := blk_frozen BK119.out 0; have hfz26_1 := blk_frozen BK119.out 1; have hfz26_2 := blk_frozen BK119.out 2; have hfz26_3 := blk_frozen BK119.out 3; have hfz26_4 := blk_frozen BK119.out 4; have hfz26_5 := blk_frozen BK119.out 5; have hfz26_6 := blk_frozen BK119.out 6; have hfz26_7 := blk_frozen BK119.out 7; have hfz26_8 := blk_frozen BK119.out 8; have hfz26_9 := blk_frozen BK119.out 9; have hfz26_10 := blk_frozen BK119.out 10; have hfz26_11 := blk_frozen BK119.out 11; have hfz26_12 := blk_frozen BK119.out 12; have hfz26_13 := blk_frozen BK119.out 13; have hfz26_14 := blk_frozen BK119.out 14; have hfz26_15 := blk_frozen BK119.out 15; have hy27 : y120.length = 15 := (by rw [Ny120.out]; rfl); obtain ⟨i027, hi027, _, hsz27, _⟩ := info_parts info5; have hcut27 := fun (W : World) => slice_arr_ (P := Try.prog) Try.underlying40 hi027 hsz27 gb119 1 y120 hy27 W; have hC27 := arr_C_ (k := .u8) BK119.out 1 y120 (by rw [hy27]; decide) (fun j_ h_ => by have e_ := Ny120.out; rw [e_] at h_ ⊢; match j_, h_ with | 0, _ => rfl | 1, _ => rfl | 2, _ => rfl | 3, _ => rfl | 4, _ => rfl | 5, _ => rfl | 6, _ => rfl | 7, _ => rfl | 8, _ => rfl | 9, _ => rfl | 10, _ => rfl | 11, _ => rfl | 12, _ => rfl | 13, _ => rfl | 14, _ => rfl); have HR123 := Aside0.mk hC27; have HC123 := Aside0.mk (Nat.le_refl y120.length); have KY27 := Aside0.mk hy27; clear hC27 hy27 hi027 hsz27) | (go_at_call 39; (with_reducible refine (slices_Max_uint8_uint8.calls k2 _ _ y120 t124 _ ?side1 ?side2 A15.out).mono ?_); (case side1 => repeat (first | exact (by repeat (first | (with_reducible exact HR123.out) | (with_reducible refine Kd.C_alloc ?_ _) | (with_reducible refine Kd.C_drewN ?_ _) | (with_reducible refine Kd.C_drew ?_) | exact HR123.out)) | (with_reducible refine Kd.C_alloc ?_ _) | (with_reducible refine Kd.C_drewN ?_ _) | (with_reducible refine Kd.C_drew ?_))); (case side2 => exact HC123.out); rintro e w28 ⟨rfl, hb⟩; have n0_ := Aside0.mk (blk_below (pG_ BK116.out) hb); have n1_ := Aside0.mk (blk_below (pG_ BK119.out) hb); have n2_ := Aside0.mk (Kd.C_below (by repeat (first | (with_reducible exact HR123.out) | (with_reducible refine Kd.C_alloc ?_ _) | (with_reducible refine Kd.C_drewN ?_ _) | (with_reducible refine Kd.C_drew ?_) | exact HR123.out)) hb); have n3_ := Aside0.mk (below_step (pH_ HB.out) hb); clear BK116; clear BK119; clear HR123; clear HB; have BK116 := n0_; have BK119 := n1_; have HR123 := n2_; have HB := n3_; clear n0_ n1_ n2_ n3_; (try clear hb)))
          repeat (go_quiet (first | ((with_reducible refine gate_dst (N := 4) rfl ?_); (try (refine gate_guard (by rfl) ?_; dsimp only)); refine box_event ?hg (N := 4) ?hd (cs := #[.int .u8 0, .int .u8 0, .int .u8 0, .int .u8 0, .int .u8 0, .int .u8 0, .int .u8 0, .int .u8 0, .int .u8 0, .int .u8 0, .int .u8 0, .int .u8 0, .int .u8 0, .int .u8 0, .int .u8 0, .int .u8 0]) (t := 42) ?hr ?_; (case hd => rfl); (case hg => rfl); (case hr => first | (go_simp; done) | (go_simp; rfl)); intro gb119 hg w23 hbox hb; have n0_ := Aside0.mk (blk_below (pG_ BK116.out) hb); have n1_ := Aside0.mk (below_step (pH_ HB.out) hb); have n2_ := Aside0.mk (hbox); have n3_ := Aside0.mk ((by rw [hg]; exact (below_size (pH_ HB.out)) : w.heap.size ≤ gb119)); have n4_ := Aside0.mk ((by rw [hg]; exact (below_size (pH_ HB.out)) : w.heap.size ≤ gb119)); have n5_ := Aside0.mk ((by rw [hg]; exact Nat.ne_of_lt (blk_lt (pG_ BK116.out)) : gb116 ≠ gb119)); have n6_ := Aside0.mk ((by rw [hg]; exact Nat.ne_of_gt (blk_lt (pG_ BK116.out)) : gb119 ≠ gb116)); clear BK116; clear HB; have BK116 := n0_; have HB := n1_; have BK119 := n2_; have GW119 := n3_; have GE119 := n4_; have NB116_119 := n5_; have NB119_116 := n6_; clear n0_ n1_ n2_ n3_ n4_ n5_ n6_; clear hb hbox hg) | ((with_reducible refine gate_store (t := 42) (p := 4) rfl ?_); (try (rw [drewN_self w23]; generalize hq_ : World.drewN w23 _ = w23; have n0_ := Aside0.mk (blk_at hq_ BK116.out); have n1_ := Aside0.mk (blk_at hq_ BK119.out); have n2_ := Aside0.mk (below_at hq_ HB.out); clear hq_ BK116 BK119 HB; have BK116 := n0_; have BK119 := n1_; have HB := n2_; clear n0_ n1_ n2_)); refine wstore_event (t := 42) (p := 4) (v := ?vo_w24) (cs := #[.int .u8 ((rd_T42 l0_1 x25_2).f0), .int .u8 ((rd_T42 l0_1 x25_2).f1.f0), .int .u8 ((rd_T42 l0_1 x25_2).f1.f1), .int .u8 ((rd_T42 l0_1 x25_2).f1.f2), .int .u8 ((rd_T42 l0_1 x25_2).f1.f3), .int .u8 ((rd_T42 l0_1 x25_2).f1.f4), .int .u8 ((rd_T42 l0_1 x25_2).f1.f5), .int .u8 ((rd_T42 l0_1 x25_2).f1.f6), .int .u8 ((rd_T42 l0_1 x25_2).f1.f7), .int .u8 ((rd_T42 l0_1 x25_2).f1.f8), .int .u8 ((rd_T42 l0_1 x25_2).f1.f9), .int .u8 ((rd_T42 l0_1 x25_2).f1.f10), .int .u8 ((rd_T42 l0_1 x25_2).f1.f11), .int .u8 ((rd_T42 l0_1 x25_2).f1.f12), .int .u8 ((rd_T42 l0_1 x25_2).f1.f13), .int .u8 ((rd_T42 l0_1 x25_2).f1.f14)]) ?hg ?ho ?hn ?hx ?hy BK119.out (by kernel_rfl) (by rfl) (by rfl) ?_; (case ho => rfl); (case hg => rfl); (case hn => rfl); (case hx => first | rfl | (go_simp; done) | (go_simp; rfl)); (case hy => first | rfl | (go_simp; done) | (go_simp; rfl)); intro w24 hbox hg; have n0_ := Aside0.mk (blk_grown (g := gb116) (o := .cells #[.int .i64 a0_0, .slice (some ad118) l0_1.length c0_1] 24 (0, 0)) (pG_ BK116.out) hg (fun e_ => NB116_119.out (Option.some.inj e_))); have n1_ := Aside0.mk (hbox); have n2_ := Aside0.mk (pw_below_grown (pH_ HB.out) _ ((below_size (pH_ HB.out))) hg (fun k_ e_ => by injection e_ with e_; subst e_; exact GE119.out)); clear BK116; clear BK119; clear HB; have BK116 := n0_; have BK119 := n1_; have HB := n2_; clear n0_ n1_ n2_; clear hg hbox; have hnb25 := NB119_116.out; have hnc25 := NB116_119.out; have hcz26_0 : w24.cell? ⟨gb119, 0, none⟩ = some (.int .u8 ((rd_T42 l0_1 x25_2).f0)) := (blk_cell BK119.out 0).trans rfl; have hcz26_1 : w24.cell? ⟨gb119, 1, none⟩ = some (.int .u8 ((rd_T42 l0_1 x25_2).f1.f0)) := (blk_cell BK119.out 1).trans rfl; have hcz26_2 : w24.cell? ⟨gb119, 2, none⟩ = some (.int .u8 ((rd_T42 l0_1 x25_2).f1.f1)) := (blk_cell BK119.out 2).trans rfl; have hcz26_3 : w24.cell? ⟨gb119, 3, none⟩ = some (.int .u8 ((rd_T42 l0_1 x25_2).f1.f2)) := (blk_cell BK119.out 3).trans rfl; have hcz26_4 : w24.cell? ⟨gb119, 4, none⟩ = some (.int .u8 ((rd_T42 l0_1 x25_2).f1.f3)) := (blk_cell BK119.out 4).trans rfl; have hcz26_5 : w24.cell? ⟨gb119, 5, none⟩ = some (.int .u8 ((rd_T42 l0_1 x25_2).f1.f4)) := (blk_cell BK119.out 5).trans rfl; have hcz26_6 : w24.cell? ⟨gb119, 6, none⟩ = some (.int .u8 ((rd_T42 l0_1 x25_2).f1.f5)) := (blk_cell BK119.out 6).trans rfl; have hcz26_7 : w24.cell? ⟨gb119, 7, none⟩ = some (.int .u8 ((rd_T42 l0_1 x25_2).f1.f6)) := (blk_cell BK119.out 7).trans rfl; have hcz26_8 : w24.cell? ⟨gb119, 8, none⟩ = some (.int .u8 ((rd_T42 l0_1 x25_2).f1.f7)) := (blk_cell BK119.out 8).trans rfl; have hcz26_9 : w24.cell? ⟨gb119, 9, none⟩ = some (.int .u8 ((rd_T42 l0_1 x25_2).f1.f8)) := (blk_cell BK119.out 9).trans rfl; have hcz26_10 : w24.cell? ⟨gb119, 10, none⟩ = some (.int .u8 ((rd_T42 l0_1 x25_2).f1.f9)) := (blk_cell BK119.out 10).trans rfl; have hcz26_11 : w24.cell? ⟨gb119, 11, none⟩ = some (.int .u8 ((rd_T42 l0_1 x25_2).f1.f10)) := (blk_cell BK119.out 11).trans rfl; have hcz26_12 : w24.cell? ⟨gb119, 12, none⟩ = some (.int .u8 ((rd_T42 l0_1 x25_2).f1.f11)) := (blk_cell BK119.out 12).trans rfl; have hcz26_13 : w24.cell? ⟨gb119, 13, none⟩ = some (.int .u8 ((rd_T42 l0_1 x25_2).f1.f12)) := (blk_cell BK119.out 13).trans rfl; have hcz26_14 : w24.cell? ⟨gb119, 14, none⟩ = some (.int .u8 ((rd_T42 l0_1 x25_2).f1.f13)) := (blk_cell BK119.out 14).trans rfl; have hcz26_15 : w24.cell? ⟨gb119, 15, none⟩ = some (.int .u8 ((rd_T42 l0_1 x25_2).f1.f14)) := (blk_cell BK119.out 15).trans rfl; have hfz26_0 := blk_frozen BK119.out 0; have hfz26_1 := blk_frozen BK119.out 1; have hfz26_2 := blk_frozen BK119.out 2; have hfz26_3 := blk_frozen BK119.out 3; have hfz26_4 := blk_frozen BK119.out 4; have hfz26_5 := blk_frozen BK119.out 5; have hfz26_6 := blk_frozen BK119.out 6; have hfz26_7 := blk_frozen BK119.out 7; have hfz26_8 := blk_frozen BK119.out 8; have hfz26_9 := blk_frozen BK119.out 9; have hfz26_10 := blk_frozen BK119.out 10; have hfz26_11 := blk_frozen BK119.out 11; have hfz26_12 := blk_frozen BK119.out 12; have hfz26_13 := blk_frozen BK119.out 13; have hfz26_14 := blk_frozen BK119.out 14; have hfz26_15 := blk_frozen BK119.out 15; have hy27 : y120.length = 15 := (by rw [Ny120.out]; rfl); obtain ⟨i027, hi027, _, hsz27, _⟩ := info_parts info5; have hcut27 := fun (W : World) => slice_arr_ (P := Try.prog) Try.underlying40 hi027 hsz27 gb119 1 y120 hy27 W; have hC27 := arr_C_ (k := .u8) BK119.out 1 y120 (by rw [hy27]; decide) (fun j_ h_ => by have e_ := Ny120.out; rw [e_] at h_ ⊢; match j_, h_ with | 0, _ => rfl | 1, _ => rfl | 2, _ => rfl | 3, _ => rfl | 4, _ => rfl | 5, _ => rfl | 6, _ => rfl | 7, _ => rfl | 8, _ => rfl | 9, _ => rfl | 10, _ => rfl | 11, _ => rfl | 12, _ => rfl | 13, _ => rfl | 14, _ => rfl); have HR123 := Aside0.mk hC27; have HC123 := Aside0.mk (Nat.le_refl y120.length); have KY27 := Aside0.mk hy27; clear hC27 hy27 hi027 hsz27) | (go_at_call 39; (with_reducible refine (slices_Max_uint8_uint8.calls k2 _ _ y120 t124 _ ?side1 ?side2 A15.out).mono ?_); (case side1 => repeat (first | exact (by repeat (first | (with_reducible exact HR123.out) | (with_reducible refine Kd.C_alloc ?_ _) | (with_reducible refine Kd.C_drewN ?_ _) | (with_reducible refine Kd.C_drew ?_) | exact HR123.out)) | (with_reducible refine Kd.C_alloc ?_ _) | (with_reducible refine Kd.C_drewN ?_ _) | (with_reducible refine Kd.C_drew ?_))); (case side2 => exact HC123.out); rintro e w28 ⟨rfl, hb⟩; have n0_ := Aside0.mk (blk_below (pG_ BK116.out) hb); have n1_ := Aside0.mk (blk_below (pG_ BK119.out) hb); have n2_ := Aside0.mk (Kd.C_below (by repeat (first | (with_reducible exact HR123.out) | (with_reducible refine Kd.C_alloc ?_ _) | (with_reducible refine Kd.C_drewN ?_ _) | (with_reducible refine Kd.C_drew ?_) | exact HR123.out)) hb); have n3_ := Aside0.mk (below_step (pH_ HB.out) hb); clear BK116; clear BK119; clear HR123; clear HB; have BK116 := n0_; have BK119 := n1_; have HR123 := n2_; have HB := n3_; clear n0_ n1_ n2_ n3_; (try clear hb))); try go_wp2_with (first | ((with_reducible refine gate_dst (N := 4) rfl ?_); (try (refine gate_guard (by rfl) ?_; dsimp only)); refine box_event ?hg (N := 4) ?hd (cs := #[.int .u8 0, .int .u8 0, .int .u8 0, .int .u8 0, .int .u8 0, .int .u8 0, .int .u8 0, .int .u8 0, .int .u8 0, .int .u8 0, .int .u8 0, .int .u8 0, .int .u8 0, .int .u8 0, .int .u8 0, .int .u8 0]) (t := 42) ?hr ?_; (case hd => rfl); (case hg => rfl); (case hr => first | (go_simp; done) | (go_simp; rfl)); intro gb119 hg w23 hbox hb; have n0_ := Aside0.mk (blk_below (pG_ BK116.out) hb); have n1_ := Aside0.mk (below_step (pH_ HB.out) hb); have n2_ := Aside0.mk (hbox); have n3_ := Aside0.mk ((by rw [hg]; exact (below_size (pH_ HB.out)) : w.heap.size ≤ gb119)); have n4_ := Aside0.mk ((by rw [hg]; exact (below_size (pH_ HB.out)) : w.heap.size ≤ gb119)); have n5_ := Aside0.mk ((by rw [hg]; exact Nat.ne_of_lt (blk_lt (pG_ BK116.out)) : gb116 ≠ gb119)); have n6_ := Aside0.mk ((by rw [hg]; exact Nat.ne_of_gt (blk_lt (pG_ BK116.out)) : gb119 ≠ gb116)); clear BK116; clear HB; have BK116 := n0_; have HB := n1_; have BK119 := n2_; have GW119 := n3_; have GE119 := n4_; have NB116_119 := n5_; have NB119_116 := n6_; clear n0_ n1_ n2_ n3_ n4_ n5_ n6_; clear hb hbox hg) | ((with_reducible refine gate_store (t := 42) (p := 4) rfl ?_); (try (rw [drewN_self w23]; generalize hq_ : World.drewN w23 _ = w23; have n0_ := Aside0.mk (blk_at hq_ BK116.out); have n1_ := Aside0.mk (blk_at hq_ BK119.out); have n2_ := Aside0.mk (below_at hq_ HB.out); clear hq_ BK116 BK119 HB; have BK116 := n0_; have BK119 := n1_; have HB := n2_; clear n0_ n1_ n2_)); refine wstore_event (t := 42) (p := 4) (v := ?vo_w24) (cs := #[.int .u8 ((rd_T42 l0_1 x25_2).f0), .int .u8 ((rd_T42 l0_1 x25_2).f1.f0), .int .u8 ((rd_T42 l0_1 x25_2).f1.f1), .int .u8 ((rd_T42 l0_1 x25_2).f1.f2), .int .u8 ((rd_T42 l0_1 x25_2).f1.f3), .int .u8 ((rd_T42 l0_1 x25_2).f1.f4), .int .u8 ((rd_T42 l0_1 x25_2).f1.f5), .int .u8 ((rd_T42 l0_1 x25_2).f1.f6), .int .u8 ((rd_T42 l0_1 x25_2).f1.f7), .int .u8 ((rd_T42 l0_1 x25_2).f1.f8), .int .u8 ((rd_T42 l0_1 x25_2).f1.f9), .int .u8 ((rd_T42 l0_1 x25_2).f1.f10), .int .u8 ((rd_T42 l0_1 x25_2).f1.f11), .int .u8 ((rd_T42 l0_1 x25_2).f1.f12), .int .u8 ((rd_T42 l0_1 x25_2).f1.f13), .int .u8 ((rd_T42 l0_1 x25_2).f1.f14)]) ?hg ?ho ?hn ?hx ?hy BK119.out (by kernel_rfl) (by rfl) (by rfl) ?_; (case ho => rfl); (case hg => rfl); (case hn => rfl); (case hx => first | rfl | (go_simp; done) | (go_simp; rfl)); (case hy => first | rfl | (go_simp; done) | (go_simp; rfl)); intro w24 hbox hg; have n0_ := Aside0.mk (blk_grown (g := gb116) (o := .cells #[.int .i64 a0_0, .slice (some ad118) l0_1.length c0_1] 24 (0, 0)) (pG_ BK116.out) hg (fun e_ => NB116_119.out (Option.some.inj e_))); have n1_ := Aside0.mk (hbox); have n2_ := Aside0.mk (pw_below_grown (pH_ HB.out) _ ((below_size (pH_ HB.out))) hg (fun k_ e_ => by injection e_ with e_; subst e_; exact GE119.out)); clear BK116; clear BK119; clear HB; have BK116 := n0_; have BK119 := n1_; have HB := n2_; clear n0_ n1_ n2_; clear hg hbox; have hnb25 := NB119_116.out; have hnc25 := NB116_119.out; have hcz26_0 : w24.cell? ⟨gb119, 0, none⟩ = some (.int .u8 ((rd_T42 l0_1 x25_2).f0)) := (blk_cell BK119.out 0).trans rfl; have hcz26_1 : w24.cell? ⟨gb119, 1, none⟩ = some (.int .u8 ((rd_T42 l0_1 x25_2).f1.f0)) := (blk_cell BK119.out 1).trans rfl; have hcz26_2 : w24.cell? ⟨gb119, 2, none⟩ = some (.int .u8 ((rd_T42 l0_1 x25_2).f1.f1)) := (blk_cell BK119.out 2).trans rfl; have hcz26_3 : w24.cell? ⟨gb119, 3, none⟩ = some (.int .u8 ((rd_T42 l0_1 x25_2).f1.f2)) := (blk_cell BK119.out 3).trans rfl; have hcz26_4 : w24.cell? ⟨gb119, 4, none⟩ = some (.int .u8 ((rd_T42 l0_1 x25_2).f1.f3)) := (blk_cell BK119.out 4).trans rfl; have hcz26_5 : w24.cell? ⟨gb119, 5, none⟩ = some (.int .u8 ((rd_T42 l0_1 x25_2).f1.f4)) := (blk_cell BK119.out 5).trans rfl; have hcz26_6 : w24.cell? ⟨gb119, 6, none⟩ = some (.int .u8 ((rd_T42 l0_1 x25_2).f1.f5)) := (blk_cell BK119.out 6).trans rfl; have hcz26_7 : w24.cell? ⟨gb119, 7, none⟩ = some (.int .u8 ((rd_T42 l0_1 x25_2).f1.f6)) := (blk_cell BK119.out 7).trans rfl; have hcz26_8 : w24.cell? ⟨gb119, 8, none⟩ = some (.int .u8 ((rd_T42 l0_1 x25_2).f1.f7)) := (blk_cell BK119.out 8).trans rfl; have hcz26_9 : w24.cell? ⟨gb119, 9, none⟩ = some (.int .u8 ((rd_T42 l0_1 x25_2).f1.f8)) := (blk_cell BK119.out 9).trans rfl; have hcz26_10 : w24.cell? ⟨gb119, 10, none⟩ = some (.int .u8 ((rd_T42 l0_1 x25_2).f1.f9)) := (blk_cell BK119.out 10).trans rfl; have hcz26_11 : w24.cell? ⟨gb119, 11, none⟩ = some (.int .u8 ((rd_T42 l0_1 x25_2).f1.f10)) := (blk_cell BK119.out 11).trans rfl; have hcz26_12 : w24.cell? ⟨gb119, 12, none⟩ = some (.int .u8 ((rd_T42 l0_1 x25_2).f1.f11)) := (blk_cell BK119.out 12).trans rfl; have hcz26_13 : w24.cell? ⟨gb119, 13, none⟩ = some (.int .u8 ((rd_T42 l0_1 x25_2).f1.f12)) := (blk_cell BK119.out 13).trans rfl; have hcz26_14 : w24.cell? ⟨gb119, 14, none⟩ = some (.int .u8 ((rd_T42 l0_1 x25_2).f1.f13)) := (blk_cell BK119.out 14).trans rfl; have hcz26_15 : w24.cell? ⟨gb119, 15, none⟩ = some (.int .u8 ((rd_T42 l0_1 x25_2).f1.f14)) := (blk_cell BK119.out 15).trans rfl; have hfz26_0 := blk_frozen BK119.out 0; have hfz26_1 := blk_frozen BK119.out 1; have hfz26_2 := blk_frozen BK119.out 2; have hfz26_3 := blk_frozen BK119.out 3; have hfz26_4 := blk_frozen BK119.out 4; have hfz26_5 := blk_frozen BK119.out 5; have hfz26_6 := blk_frozen BK119.out 6; have hfz26_7 := blk_frozen BK119.out 7; have hfz26_8 := blk_frozen BK119.out 8; have hfz26_9 := blk_frozen BK119.out 9; have hfz26_10 := blk_frozen BK119.out 10; have hfz26_11 := blk_frozen BK119.out 11; have hfz26_12 := blk_frozen BK119.out 12; have hfz26_13 := blk_frozen BK119.out 13; have hfz26_14 := blk_frozen BK119.out 14; have hfz26_15 := blk_frozen BK119.out 15; have hy27 : y120.length = 15 := (by rw [Ny120.out]; rfl); obtain ⟨i027, hi027, _, hsz27, _⟩ := info_parts info5; have hcut27 := fun (W : World) => slice_arr_ (P := Try.prog) Try.underlying40 hi027 hsz27 gb119 1 y120 hy27 W; have hC27 := arr_C_ (k := .u8) BK119.out 1 y120 (by rw [hy27]; decide) (fun j_ h_ => by have e_ := Ny120.out; rw [e_] at h_ ⊢; match j_, h_ with | 0, _ => rfl | 1, _ => rfl | 2, _ => rfl | 3, _ => rfl | 4, _ => rfl | 5, _ => rfl | 6, _ => rfl | 7, _ => rfl | 8, _ => rfl | 9, _ => rfl | 10, _ => rfl | 11, _ => rfl | 12, _ => rfl | 13, _ => rfl | 14, _ => rfl); have HR123 := Aside0.mk hC27; have HC123 := Aside0.mk (Nat.le_refl y120.length); have KY27 := Aside0.mk hy27; clear hC27 hy27 hi027 hsz27) | (go_at_call 39; (with_reducible refine (slices_Max_uint8_uint8.calls k2 _ _ y120 t124 _ ?side1 ?side2 A15.out).mono ?_); (case side1 => repeat (first | exact (by repeat (first | (with_reducible exact HR123.out) | (with_reducible refine Kd.C_alloc ?_ _) | (with_reducible refine Kd.C_drewN ?_ _) | (with_reducible refine Kd.C_drew ?_) | exact HR123.out)) | (with_reducible refine Kd.C_alloc ?_ _) | (with_reducible refine Kd.C_drewN ?_ _) | (with_reducible refine Kd.C_drew ?_))); (case side2 => exact HC123.out); rintro e w28 ⟨rfl, hb⟩; have n0_ := Aside0.mk (blk_below (pG_ BK116.out) hb); have n1_ := Aside0.mk (blk_below (pG_ BK119.out) hb); have n2_ := Aside0.mk (Kd.C_below (by repeat (first | (with_reducible exact HR123.out) | (with_reducible refine Kd.C_alloc ?_ _) | (with_reducible refine Kd.C_drewN ?_ _) | (with_reducible refine Kd.C_drew ?_) | exact HR123.out)) hb); have n3_ := Aside0.mk (below_step (pH_ HB.out) hb); clear BK116; clear BK119; clear HR123; clear HB; have BK116 := n0_; have BK119 := n1_; have HR123 := n2_; have HB := n3_; clear n0_ n1_ n2_ n3_; (try clear hb))))
          go_roundg k2
          case measure => have := HJ1.out; have := HK2.out; omega
          case rel => exact ⟨(wrap64 (x25_2 + 1)), (by first | rfl | (simp; done) | (simp [*]; done)), H', ⟨by have := HJ1.out; have := HK2.out; omega⟩, ⟨pG_ BK116.out⟩, ⟨pH_ HB.out⟩⟩
        ·
         rw [if_neg c14] at H; exact absurd H (by simp)
       ·
        rw [if_neg c13] at H; exact absurd H (by simp)
      ·
       rw [if_neg c12] at H; have c12b0 : decide (x25_2 < (l0_1.length : Int)) = false := decide_eq_false c12; clear c12; obtain rfl := Option.some.inj H
       go_wp2
       repeat (go_quiet (fail); try go_wp2)
       go_ret
       exact ⟨by first | rfl | (simp [errW_none, errW_some] <;> rfl) | (simp [*, errW_none, errW_some] <;> rfl), pH_ HB.out⟩

/-! ### hashes_Place: function 26 -/
def hashes_Place.f (a0 : Int) (a1 : Int) : Option (Int × Int) := if a1 < 1 then (some (0, 2)) else (if a1 > 1048576 then (some (0, 2)) else (if (Go.bits .and .i64 a1 (wrap64 (a1 - 1))) = 0 then (some (Go.bits .and .i64 (wrap64 (a0)) (wrap64 (a1 - 1)), 0)) else (some (0, 2))))
set_option maxHeartbeats 8000000 in
set_option maxRecDepth 100000 in
theorem hashes_Place.calls (a0 : Int) (a1 : Int) (r1 : Int) (r2 : Int) (w : World) (h : hashes_Place.f a0 a1 = some (r1, r2)) :
  Calls Try.prog 26 #[.int .u32 a0, .int .i64 a1] w fun e w' => e = .returned (.tuple #[.int .i64 r1, .int .i64 r2]) ∧ Drawn0 w w' := by
 have H : (if a1 < 1 then (some (0, 2)) else (if a1 > 1048576 then (some (0, 2)) else (if (Go.bits .and .i64 a1 (wrap64 (a1 - 1))) = 0 then (some (Go.bits .and .i64 (wrap64 (a0)) (wrap64 (a1 - 1)), 0)) else (some (0, 2))))) = some (r1, r2) := h; clear h
 by_cases c3 : a1 < 1
 ·
  rw [if_pos c3] at H; have c3b0 : decide (a1 < 1) = true := decide_eq_true c3; clear c3; simp only [Option.some.injEq, Prod.mk.injEq] at H; obtain ⟨rfl, rfl⟩ := H
  go_enter Try.func26, Try.ntmps26
  go_wp2
  go_ret2
  exact ⟨by first | rfl | (simp; done) | (simp [*]; done), by repeat (first | exact Drawn0.refl _ | apply Drawn0.step)⟩
 ·
  rw [if_neg c3] at H; have c3b0 : decide (a1 < 1) = false := decide_eq_false c3; clear c3
  by_cases c4 : a1 > 1048576
  ·
   rw [if_pos c4] at H; have c4b0 : decide (1048576 < a1) = true := decide_eq_true c4; clear c4; simp only [Option.some.injEq, Prod.mk.injEq] at H; obtain ⟨rfl, rfl⟩ := H
   go_enter Try.func26, Try.ntmps26
   go_wp2
   go_ret2
   exact ⟨by first | rfl | (simp; done) | (simp [*]; done), by repeat (first | exact Drawn0.refl _ | apply Drawn0.step)⟩
  ·
   rw [if_neg c4] at H; have c4b0 : decide (1048576 < a1) = false := decide_eq_false c4; clear c4
   by_cases c5 : (Go.bits .and .i64 a1 (wrap64 (a1 - 1))) = 0
   ·
    rw [if_pos c5] at H; have c5b0 : ((Go.bits .and .i64 a1 (wrap64 (a1 - 1))) == 0) = true := beq_iff_eq.mpr c5; have c5b1 : ((Go.bits .and .i64 a1 (wrap64 (a1 - 1))) != 0) = false := bne_eq_false_iff_eq.mpr c5; clear c5; simp only [Option.some.injEq, Prod.mk.injEq] at H; obtain ⟨rfl, rfl⟩ := H
    go_enter Try.func26, Try.ntmps26
    go_wp2
    go_ret2
    exact ⟨by first | rfl | (simp; done) | (simp [*]; done), by repeat (first | exact Drawn0.refl _ | apply Drawn0.step)⟩
   ·
    rw [if_neg c5] at H; have c5b0 : ((Go.bits .and .i64 a1 (wrap64 (a1 - 1))) == 0) = false := beq_eq_false_iff_ne.mpr c5; have c5b1 : ((Go.bits .and .i64 a1 (wrap64 (a1 - 1))) != 0) = true := bne_iff_ne.mpr c5; simp only [Option.some.injEq, Prod.mk.injEq] at H; obtain ⟨rfl, rfl⟩ := H
    go_enter Try.func26, Try.ntmps26
    go_wp2
    go_ret2
    exact ⟨by first | rfl | (simp; done) | (simp [*]; done), by repeat (first | exact Drawn0.refl _ | apply Drawn0.step)⟩

/-! ### hashes_Check: function 27 -/
def hashes_Check.f (a0 : Int) : Option (Int) := some ((a0 / 16777216) % 256)
set_option maxHeartbeats 8000000 in
set_option maxRecDepth 100000 in
theorem hashes_Check.calls (a0 : Int) (r : Int) (w : World) (h : hashes_Check.f a0 = some r) :
    Calls Try.prog 27 #[.int .u32 a0] w fun e w' => e = .returned (.int .u8 r) ∧ Drawn0 w w' := by
  have H : (some ((a0 / 16777216) % 256)) = some r := h
  clear h
  obtain rfl := Option.some.inj H
  go_enter Try.func27, Try.ntmps27
  go_wp2
  go_ret
  exact ⟨by first | rfl | (simp; done) | (simp [*]; done), by repeat (first | exact Drawn0.refl _ | apply Drawn0.step)⟩

/-! ### slices_Clone_api_Slot_api_Slot: function 36 -/
/-- A row's copy. -/
def slices_Clone_api_Slot_api_Slot.f (l0 : List (S42)) : Option (List (S42)) := if l0.length < 8796093022208 then some l0 else none
theorem slices_Clone_api_Slot_api_Slot.calls (A0 : Option Addr) (c0 : Nat) (l0 : List (S42)) (r : List (S42)) (w : World) (hr0 : Kd.C k42 w A0 l0.length l0) (hc0 : l0.length ≤ c0) (h : slices_Clone_api_Slot_api_Slot.f l0 = some r) :
    Calls Try.prog 36 #[.slice A0 l0.length c0] w fun e w' => ∃ v0_ : Value, e = .returned v0_ ∧ Kd.R k42 42 w' w.heap.size (fun _ => True) v0_ r ∧ Below w.heap.size w w' := by
  unfold slices_Clone_api_Slot_api_Slot.f at h
  by_cases hl : l0.length < 8796093022208
  case neg => rw [if_neg hl] at h; exact absurd h (by simp)
  rw [if_pos hl] at h
  obtain rfl := Option.some.inj h
  clear h
  have HB := Aside0.mk (Below.refl w.heap.size w)
  rcases A0 with _ | ad
  · have h0 : l0 = [] := by
      rcases Nat.eq_zero_or_pos l0.length with h | h
      · exact List.eq_nil_of_length_eq_zero h
      · obtain ⟨ad, e, _⟩ := hr0.2.2 h
        cases e
    subst h0
    clear hr0 hl hc0
    have hq := fun (n c : Nat) (W : World) => eql_nil_ (P := Try.prog) Try.underlying22 none n c W
    go_enter Try.func36, Try.ntmps36
    go_wp2
    go_ret
    exact ⟨_, rfl, Kd.R_nil _ _ _ _ _, HB.out⟩
  · have HR0 := Aside0.mk hr0
    have HL := Aside0.mk hl
    clear hr0 hl hc0
    have hq := fun (n c : Nat) (W : World) => eql_nil_ (P := Try.prog) Try.underlying22 (some ad) n c W
    go_enter Try.func36, Try.ntmps36
    go_wp2_with (first | ((with_reducible refine gate_dst (N := 5) rfl ?_); refine Kd.R_lit k42 _ 42 ?hg (N := 5) ?hd (xs := ([] : List (S42))) (inner := []) (ok := fun _ => True) (okp := fun _ => True) ?hr ?hp (fun _ hk => hk) trivial (Below.refl _ _) (Nat.le_refl _) (by simp) ?_; (case hd => rfl); (case hg => rfl); (case hr => first | (go_simp; done) | (go_simp; rfl)); (case hp => exact (Reps.none _ _)); intro v5 w5 ho hb hg_ hnew_; have HO := Aside0.mk ho; have HB5 := Aside0.mk hb; clear ho hb hg_ hnew_) | (at_builtin; refine Kd.R_append_rows k42 (w0 := w) w.heap.size (by rfl) (.tmp 5) (.tmp 6) 22 42 (.agg #[(.int .u8 0), (.int .u8 0), (.int .u8 0), (.int .u8 0), (.int .u8 0), (.int .u8 0), (.int .u8 0), (.int .u8 0), (.int .u8 0), (.int .u8 0), (.int .u8 0), (.int .u8 0), (.int .u8 0), (.int .u8 0), (.int .u8 0), (.int .u8 0)]) 16 rfl Try.underlying22 info42 rfl (by decide) (by omega) v5 ([] : List (S42)) l0 _ _ _ (fun _ => True) (fun _ => False) rfl rfl ?aO ?aR (fun _ _ h => h) (fun _ h => h.elim) ?aF ?aB ?aS ?aL ?_; (case aO => exact HO.out); (case aR => exact Kd.C_below HR0.out HB5.out); (case aF => exact fun _ _ => trivial); (case aB => exact HB5.out); (case aS => exact below_size HB5.out); (case aL => have := HL.out; simp; omega); intro v7 w7 ho hb hg hat; have HO7 := Aside0.mk ho; have HB7 := Aside0.mk hb; clear ho hb hg hat))
    go_ret
    exact ⟨_, rfl, HO7.out, HB7.out⟩

/-! ### states_Size: function 51 -/
def states_Size.f  : Option (Int) := some 193
set_option maxHeartbeats 8000000 in
set_option maxRecDepth 100000 in
theorem states_Size.calls  (r : Int) (w : World) (h : states_Size.f  = some r) :
    Calls Try.prog 51 #[] w fun e w' => e = .returned (.int .i64 r) ∧ Drawn0 w w' := by
  have H : (some 193) = some r := h
  clear h
  obtain rfl := Option.some.inj H
  go_enter Try.func51, Try.ntmps51
  go_wp2
  go_ret
  exact ⟨by first | rfl | (simp; done) | (simp [*]; done), by repeat (first | exact Drawn0.refl _ | apply Drawn0.step)⟩

/-! ### states_Count: function 44 -/
/-- The count of a state, and the error. -/
def states_Count.f (a0 : Int) : Option (Int × Int × Int × Int) :=
  if a0 < 0 ∨ a0 > 255 then none else if a0 ≥ 193 then some (0, 0, 0, 2) else if a0 = 0 then some (0, 0, 0, 0)
  else if a0 ≤ 96 then some ((a0 - 1) / 8 % 12 + 1, (a0 - 1) % 8, 0, 0) else some ((a0 - 1) % 8, (a0 - 1) / 8 % 12 + 1, 1, 0)
theorem states_Count.far (s : Int) (w : World) (h0 : s ≥ 193) (h1 : s ≤ 255) :
    Calls Try.prog 44 #[.int .u8 s] w fun e w' => e = .returned (.tuple #[.agg #[.int .i32 0, .int .i32 0, .int .u8 0], .int .i64 2]) ∧ Below w.heap.size w w' := by
  go_enter Try.func44, Try.ntmps44
  go_wp2
  refine bodyPost_ret (v := .tuple #[.agg #[.int .i32 0, .int .i32 0, .int .u8 0], .int .i64 2]) (by simp [results, Try.results44, go_sem]) rfl ⟨rfl, ?_⟩
  repeat (first | exact Below.refl _ _ | apply below_alloc | apply pw_below_drewN | apply below_drew | refine below_set ?_ (by simp))
theorem states_Count.zero (w : World) :
    Calls Try.prog 44 #[.int .u8 0] w fun e w' => e = .returned (.tuple #[.agg #[.int .i32 0, .int .i32 0, .int .u8 0], .int .i64 0]) ∧ Below w.heap.size w w' := by
  go_enter Try.func44, Try.ntmps44
  go_wp2
  refine bodyPost_ret (v := .tuple #[.agg #[.int .i32 0, .int .i32 0, .int .u8 0], .int .i64 0]) (by simp [results, Try.results44, go_sem]) rfl ⟨rfl, ?_⟩
  repeat (first | exact Below.refl _ _ | apply below_alloc | apply pw_below_drewN | apply below_drew | refine below_set ?_ (by simp))
theorem states_Count.low (s : Int) (w : World) (h0 : 1 ≤ s) (h1 : s ≤ 96) :
    Calls Try.prog 44 #[.int .u8 s] w fun e w' => e = .returned (.tuple #[.agg #[.int .i32 ((s - 1) / 8 % 12 + 1), .int .i32 ((s - 1) % 8), .int .u8 0], .int .i64 0]) ∧ Below w.heap.size w w' := by
  have e1 : (s - 1) / 8 / 12 = 0 := by omega
  have e3 : (s == 0) = false := beq_eq_false_iff_ne.mpr (by omega)
  go_enter Try.func44, Try.ntmps44
  go_wp2
  refine bodyPost_ret (v := .tuple #[.agg #[.int .i32 ((s - 1) / 8 % 12 + 1), .int .i32 ((s - 1) % 8), .int .u8 0], .int .i64 0]) (by simp [results, Try.results44, go_sem]) rfl ⟨rfl, ?_⟩
  repeat (first | exact Below.refl _ _ | apply below_alloc | apply pw_below_drewN | apply below_drew | refine below_set ?_ (by simp))
theorem states_Count.high (s : Int) (w : World) (h0 : 97 ≤ s) (h1 : s ≤ 192) :
    Calls Try.prog 44 #[.int .u8 s] w fun e w' => e = .returned (.tuple #[.agg #[.int .i32 ((s - 1) % 8), .int .i32 ((s - 1) / 8 % 12 + 1), .int .u8 1], .int .i64 0]) ∧ Below w.heap.size w w' := by
  have e1 : (s - 1) / 8 / 12 = 1 := by omega
  have e3 : (s == 0) = false := beq_eq_false_iff_ne.mpr (by omega)
  go_enter Try.func44, Try.ntmps44
  go_wp2
  refine bodyPost_ret (v := .tuple #[.agg #[.int .i32 ((s - 1) % 8), .int .i32 ((s - 1) / 8 % 12 + 1), .int .u8 1], .int .i64 0]) (by simp [results, Try.results44, go_sem]) rfl ⟨rfl, ?_⟩
  repeat (first | exact Below.refl _ _ | apply below_alloc | apply pw_below_drewN | apply below_drew | refine below_set ?_ (by simp))
theorem states_Count.calls (a0 : Int) (r1 : Int) (r2 : Int) (r3 : Int) (r4 : Int) (w : World) (h : states_Count.f a0 = some (r1, r2, r3, r4)) :
    Calls Try.prog 44 #[.int .u8 a0] w fun e w' => e = .returned (.tuple #[.agg #[.int .i32 r1, .int .i32 r2, .int .u8 r3], .int .i64 r4]) ∧ Below w.heap.size w w' := by
  unfold states_Count.f at h
  by_cases c1 : a0 < 0 ∨ a0 > 255
  · rw [if_pos c1] at h
    exact absurd h (by simp)
  rw [if_neg c1] at h
  by_cases c2 : a0 ≥ 193
  · rw [if_pos c2] at h
    simp only [Option.some.injEq, Prod.mk.injEq] at h
    obtain ⟨rfl, rfl, rfl, rfl⟩ := h
    exact states_Count.far a0 w c2 (by omega)
  rw [if_neg c2] at h
  by_cases c3 : a0 = 0
  · rw [if_pos c3] at h
    simp only [Option.some.injEq, Prod.mk.injEq] at h
    obtain ⟨rfl, rfl, rfl, rfl⟩ := h
    subst c3
    exact states_Count.zero w
  rw [if_neg c3] at h
  by_cases c4 : a0 ≤ 96
  · rw [if_pos c4] at h
    simp only [Option.some.injEq, Prod.mk.injEq] at h
    obtain ⟨rfl, rfl, rfl, rfl⟩ := h
    exact states_Count.low a0 w (by omega) c4
  · rw [if_neg c4] at h
    simp only [Option.some.injEq, Prod.mk.injEq] at h
    obtain ⟨rfl, rfl, rfl, rfl⟩ := h
    exact states_Count.high a0 w (by omega) (by omega)

/-! ### states_Total: function 29 -/
def states_Total.f (a0 : Int) : Option (Int × Int) := (states_Count.f a0).bind fun bt125 => (some (wrap32 (bt125.1 + bt125.2.1), bt125.2.2.2))
set_option maxHeartbeats 8000000 in
set_option maxRecDepth 100000 in
theorem states_Total.calls (a0 : Int) (r1 : Int) (r2 : Int) (w : World) (h : states_Total.f a0 = some (r1, r2)) :
  Calls Try.prog 29 #[.int .u8 a0] w fun e w' => e = .returned (.tuple #[.int .i32 r1, .int .i64 r2]) ∧ Below w.heap.size w w' := by
 have hu76 := Try.underlying76; have HB := Aside0.mk (Below.refl w.heap.size w); have H : ((states_Count.f a0).bind fun bt125 => (some (wrap32 (bt125.1 + bt125.2.1), bt125.2.2.2))) = some (r1, r2) := h; clear h; replace H := Option.bind_eq_some_iff.mp H; obtain ⟨⟨t125, t126, t127, t128⟩, A20, H⟩ := H; replace H : (some (wrap32 (t125 + t126), t128)) = some (r1, r2) := H; have A2 := Aside0.mk A20; clear A20; simp only [Option.some.injEq, Prod.mk.injEq] at H; obtain ⟨rfl, rfl⟩ := H
 go_enter Try.func29, Try.ntmps29
 go_wp2_with (first | ((with_reducible refine gate_callee (f := 44) rfl ?_); refine gL_ (some 8) Try.func44 #[.int .u8 a0] ?_; (with_reducible refine (states_Count.calls a0 t125 t126 t127 t128 _ A2.out).mono ?_); rintro e w3 ⟨rfl, hb⟩; refine ⟨_, rfl, ?_⟩; have n0_ := Aside0.mk (below_step (pH_ HB.out) hb); clear HB; have HB := n0_; clear n0_; (try clear hb)) | ((with_reducible refine gate_dst (N := 4) rfl ?_); refine box_event ?hg (N := 4) ?hd (cs := #[.int .i32 0, .int .i32 0, .int .u8 0]) (t := 76) ?hr ?_; (case hd => rfl); (case hg => rfl); (case hr => first | (go_simp; done) | (go_simp; rfl)); intro gb129 hg w4 hbox hb; have n0_ := Aside0.mk (below_step (pH_ HB.out) hb); have n1_ := Aside0.mk (hbox); have n2_ := Aside0.mk ((by rw [hg]; exact (below_size (pH_ HB.out)) : w.heap.size ≤ gb129)); have n3_ := Aside0.mk ((by rw [hg]; exact (below_size (pH_ HB.out)) : w.heap.size ≤ gb129)); clear HB; have HB := n0_; have BK129 := n1_; have GW129 := n2_; have GE129 := n3_; clear n0_ n1_ n2_ n3_; clear hb hbox hg; have hcz5_0 : w4.cell? ⟨gb129, 0, none⟩ = some (.int .i32 0) := (blk_cell BK129.out 0).trans rfl; have hcz5_1 : w4.cell? ⟨gb129, 1, none⟩ = some (.int .i32 0) := (blk_cell BK129.out 1).trans rfl; have hcz5_2 : w4.cell? ⟨gb129, 2, none⟩ = some (.int .u8 0) := (blk_cell BK129.out 2).trans rfl; have hfz5_0 := blk_frozen BK129.out 0; have hfz5_1 := blk_frozen BK129.out 1; have hfz5_2 := blk_frozen BK129.out 2))
 go_ret2
 exact ⟨by first | rfl | (simp [errW_none, errW_some] <;> rfl) | (simp [*, errW_none, errW_some] <;> rfl), pH_ HB.out⟩

/-! ### slots_priority: function 37 -/
def slots_priority.f (a0_0 : Int) (a0_1 : Int) (a0_2 : Int) (a0_3 : Int) (a0_4 : Int) (a0_5 : Int) (a0_6 : Int) (a0_7 : Int) (a0_8 : Int) (a0_9 : Int) (a0_10 : Int) (a0_11 : Int) (a0_12 : Int) (a0_13 : Int) (a0_14 : Int) (a0_15 : Int) : Option (Int) := (states_Total.f a0_1).bind fun bt131 => (some bt131.1)
set_option maxHeartbeats 8000000 in
set_option maxRecDepth 100000 in
theorem slots_priority.calls (a0_0 : Int) (a0_1 : Int) (a0_2 : Int) (a0_3 : Int) (a0_4 : Int) (a0_5 : Int) (a0_6 : Int) (a0_7 : Int) (a0_8 : Int) (a0_9 : Int) (a0_10 : Int) (a0_11 : Int) (a0_12 : Int) (a0_13 : Int) (a0_14 : Int) (a0_15 : Int) (r : Int) (w : World) (h : slots_priority.f a0_0 a0_1 a0_2 a0_3 a0_4 a0_5 a0_6 a0_7 a0_8 a0_9 a0_10 a0_11 a0_12 a0_13 a0_14 a0_15 = some r) :
  Calls Try.prog 37 #[.agg #[.int .u8 a0_0, .int .u8 a0_1, .int .u8 a0_2, .int .u8 a0_3, .int .u8 a0_4, .int .u8 a0_5, .int .u8 a0_6, .int .u8 a0_7, .int .u8 a0_8, .int .u8 a0_9, .int .u8 a0_10, .int .u8 a0_11, .int .u8 a0_12, .int .u8 a0_13, .int .u8 a0_14, .int .u8 a0_15]] w fun e w' => e = .returned (.int .i32 r) ∧ Below w.heap.size w w' := by
 have hu42 := Try.underlying42; have HB := Aside0.mk (Below.refl w.heap.size w); have H : ((states_Total.f a0_1).bind fun bt131 => (some bt131.1)) = some r := h; clear h; replace H := Option.bind_eq_some_iff.mp H; obtain ⟨⟨t131, t132⟩, A20, H⟩ := H; replace H : (some t131) = some r := H; have A2 := Aside0.mk A20; clear A20; obtain rfl := Option.some.inj H
 go_enter Try.func37, Try.ntmps37
 go_wp2_with (first | ((with_reducible refine gate_dst (N := 1) rfl ?_); refine box_event ?hg (N := 1) ?hd (cs := #[.int .u8 a0_0, .int .u8 a0_1, .int .u8 a0_2, .int .u8 a0_3, .int .u8 a0_4, .int .u8 a0_5, .int .u8 a0_6, .int .u8 a0_7, .int .u8 a0_8, .int .u8 a0_9, .int .u8 a0_10, .int .u8 a0_11, .int .u8 a0_12, .int .u8 a0_13, .int .u8 a0_14, .int .u8 a0_15]) (t := 42) ?hr ?_; (case hd => rfl); (case hg => rfl); (case hr => first | (go_simp; done) | (go_simp; rfl)); intro gb130 hg w3 hbox hb; have n0_ := Aside0.mk (below_step (pH_ HB.out) hb); have n1_ := Aside0.mk (hbox); have n2_ := Aside0.mk ((by rw [hg]; exact (below_size (pH_ HB.out)) : w.heap.size ≤ gb130)); have n3_ := Aside0.mk ((by rw [hg]; exact (below_size (pH_ HB.out)) : w.heap.size ≤ gb130)); clear HB; have HB := n0_; have BK130 := n1_; have GW130 := n2_; have GE130 := n3_; clear n0_ n1_ n2_ n3_; clear hb hbox hg; have hcz4_0 : w3.cell? ⟨gb130, 0, none⟩ = some (.int .u8 a0_0) := (blk_cell BK130.out 0).trans rfl; have hcz4_1 : w3.cell? ⟨gb130, 1, none⟩ = some (.int .u8 a0_1) := (blk_cell BK130.out 1).trans rfl; have hcz4_2 : w3.cell? ⟨gb130, 2, none⟩ = some (.int .u8 a0_2) := (blk_cell BK130.out 2).trans rfl; have hcz4_3 : w3.cell? ⟨gb130, 3, none⟩ = some (.int .u8 a0_3) := (blk_cell BK130.out 3).trans rfl; have hcz4_4 : w3.cell? ⟨gb130, 4, none⟩ = some (.int .u8 a0_4) := (blk_cell BK130.out 4).trans rfl; have hcz4_5 : w3.cell? ⟨gb130, 5, none⟩ = some (.int .u8 a0_5) := (blk_cell BK130.out 5).trans rfl; have hcz4_6 : w3.cell? ⟨gb130, 6, none⟩ = some (.int .u8 a0_6) := (blk_cell BK130.out 6).trans rfl; have hcz4_7 : w3.cell? ⟨gb130, 7, none⟩ = some (.int .u8 a0_7) := (blk_cell BK130.out 7).trans rfl; have hcz4_8 : w3.cell? ⟨gb130, 8, none⟩ = some (.int .u8 a0_8) := (blk_cell BK130.out 8).trans rfl; have hcz4_9 : w3.cell? ⟨gb130, 9, none⟩ = some (.int .u8 a0_9) := (blk_cell BK130.out 9).trans rfl; have hcz4_10 : w3.cell? ⟨gb130, 10, none⟩ = some (.int .u8 a0_10) := (blk_cell BK130.out 10).trans rfl; have hcz4_11 : w3.cell? ⟨gb130, 11, none⟩ = some (.int .u8 a0_11) := (blk_cell BK130.out 11).trans rfl; have hcz4_12 : w3.cell? ⟨gb130, 12, none⟩ = some (.int .u8 a0_12) := (blk_cell BK130.out 12).trans rfl; have hcz4_13 : w3.cell? ⟨gb130, 13, none⟩ = some (.int .u8 a0_13) := (blk_cell BK130.out 13).trans rfl; have hcz4_14 : w3.cell? ⟨gb130, 14, none⟩ = some (.int .u8 a0_14) := (blk_cell BK130.out 14).trans rfl; have hcz4_15 : w3.cell? ⟨gb130, 15, none⟩ = some (.int .u8 a0_15) := (blk_cell BK130.out 15).trans rfl; have hfz4_0 := blk_frozen BK130.out 0; have hfz4_1 := blk_frozen BK130.out 1; have hfz4_2 := blk_frozen BK130.out 2; have hfz4_3 := blk_frozen BK130.out 3; have hfz4_4 := blk_frozen BK130.out 4; have hfz4_5 := blk_frozen BK130.out 5; have hfz4_6 := blk_frozen BK130.out 6; have hfz4_7 := blk_frozen BK130.out 7; have hfz4_8 := blk_frozen BK130.out 8; have hfz4_9 := blk_frozen BK130.out 9; have hfz4_10 := blk_frozen BK130.out 10; have hfz4_11 := blk_frozen BK130.out 11; have hfz4_12 := blk_frozen BK130.out 12; have hfz4_13 := blk_frozen BK130.out 13; have hfz4_14 := blk_frozen BK130.out 14; have hfz4_15 := blk_frozen BK130.out 15) | ((with_reducible refine gate_callee (f := 29) rfl ?_); refine gL_ (some 9) Try.func29 #[.int .u8 a0_1] ?_; (with_reducible refine (states_Total.calls a0_1 t131 t132 _ A2.out).mono ?_); rintro e w5 ⟨rfl, hb⟩; refine ⟨_, rfl, ?_⟩; have n0_ := Aside0.mk (blk_below (pG_ BK130.out) hb); have n1_ := Aside0.mk (below_step (pH_ HB.out) hb); clear BK130; clear HB; have BK130 := n0_; have HB := n1_; clear n0_ n1_; (try clear hb)))
 go_ret
 exact ⟨by first | rfl | (simp [errW_none, errW_some] <;> rfl) | (simp [*, errW_none, errW_some] <;> rfl), pH_ HB.out⟩

end Go.Proofs.Ytaomhenneenaaaa.XSlotsNames
