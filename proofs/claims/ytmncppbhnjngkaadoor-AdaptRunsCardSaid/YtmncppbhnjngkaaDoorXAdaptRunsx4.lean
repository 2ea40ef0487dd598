-- Laid by a program of this session (wip/mkxprint.py, over the kit's print): Lean checks it.
import Derived.Test.YtmncppbhnjngkaaDoorXAdaptRunsx0
import Derived.Test.YtmncppbhnjngkaaDoorXAdaptRunsx2
import Derived.Test.YtmncppbhnjngkaaDoorXAdaptRunsx3
namespace Go.Proofs.YtmncppbhnjngkaaDoor.XAdaptRuns
open List (setIfInBounds_toArray set_cons_zero set_cons_succ)
open Go.RowKit Go.Proofs.YtmncppbhnjngkaaDoorW.PrintWords Go.Proofs.YtmncppbhnjngkaaDoorW.PrintLast Go.Proofs.YtmncppbhnjngkaaDoorW.PrintMore
attribute [local go_sem] max2_int min2_int max_two min_two max_three min_three max_four min_four   -- for this text's walks alone
set_option linter.unusedVariables false
set_option linter.unusedSimpArgs false

/-! ### adapt_twin: function 32 -/
def adapt_twin.f (a0_0 : Int) (l0_1 : List Int) (l0_2 : List Int) : Option (Int × List Int × List Int) := (slices_Clone_int32_int32.f l0_1).bind fun t161 => ((slices_Clone_int32_int32.f l0_2).bind fun t164 => (some (a0_0, t161, t164)))
def adapt_twin.T1 : Bool × List (List Nat × List Nat) := (true, [([], []), ([0], [0]), ([1], [1]), ([], []), ([3], [3]), ([4, 2], [4]), ([0, 1, 2, 3, 4], []), ([6, 2, 5, 0, 1, 2, 3, 4], [2, 6]), ([0, 1, 2, 3, 4, 5, 6, 7], []), ([8, 5, 7, 0, 1, 2, 3, 4, 5, 6, 7], [5, 8])])
def adapt_twin.B1 : List Nat := [0, 1, 3, 0, 8, 31, 31, 127, 255, 511]
theorem adapt_twin.tab1 : rtab .any (opsOf Tryd.f32 1) = adapt_twin.T1 := by kernel_rfl
theorem adapt_twin.bits1 : waitsOk adapt_twin.T1.2 adapt_twin.B1 = true := by kernel_rfl
set_option maxHeartbeats 8000000 in
set_option maxRecDepth 100000 in
theorem adapt_twin.calls (a0_0 : Int) (A0_1 : Option Addr) (c0_1 : Nat) (l0_1 : List Int) (A0_2 : Option Addr) (c0_2 : Nat) (l0_2 : List Int) (r1 : Int) (r2 : List Int) (r3 : List Int) (w : World) (hr0_1 : Kd.C (Kd.int .i32) w A0_1 l0_1.length l0_1) (hc0_1 : l0_1.length ≤ c0_1) (hr0_2 : Kd.C (Kd.int .i32) w A0_2 l0_2.length l0_2) (hc0_2 : l0_2.length ≤ c0_2) (h : adapt_twin.f a0_0 l0_1 l0_2 = some (r1, r2, r3)) :
  Calls Tryd.prog 32 #[.agg #[.int .i32 a0_0, .slice A0_1 l0_1.length c0_1, .slice A0_2 l0_2.length c0_2]] w fun e w' => ∃ v1_ v2_ : Value, e = .returned (.agg #[.int .i32 r1, v1_, v2_]) ∧ Kd.R (Kd.int .i32) 21 w' w.heap.size (fun k_ => nO_ k_ v2_) v1_ r2 ∧ Kd.R (Kd.int .i32) 21 w' w.heap.size (fun k_ => nO_ k_ v1_) v2_ r3 ∧ Below w.heap.size w w' := by
 have hu24 := Tryd.underlying24; have HR0_1 := Aside0.mk hr0_1; have HC0_1 := Aside0.mk hc0_1; clear hr0_1 hc0_1; have HR0_2 := Aside0.mk hr0_2; have HC0_2 := Aside0.mk hc0_2; clear hr0_2 hc0_2; have HB := Aside0.mk (Below.refl w.heap.size w); have H : ((slices_Clone_int32_int32.f l0_1).bind fun t161 => ((slices_Clone_int32_int32.f l0_2).bind fun t164 => (some (a0_0, t161, t164)))) = some (r1, r2, r3) := h; clear h; replace H := Option.bind_eq_some_iff.mp H; obtain ⟨t161, A20, H⟩ := H; replace H : ((slices_Clone_int32_int32.f l0_2).bind fun t164 => (some (a0_0, t161, t164))) = some (r1, r2, r3) := H; have A2 := Aside0.mk A20; clear A20; replace H := Option.bind_eq_some_iff.mp H; obtain ⟨t164, A30, H⟩ := H; replace H : (some (a0_0, t161, t164)) = some (r1, r2, r3) := H; have A3 := Aside0.mk A30; clear A30; simp only [Option.some.injEq, Prod.mk.injEq] at H; obtain ⟨rfl, rfl, rfl⟩ := H
 go_enter Tryd.func32, Tryd.ntmps32
 try go_wp2_with (first | ((with_reducible refine gate_dst (N := 1) rfl ?_); refine box_event ?hg (N := 1) ?hd (cs := #[.int .i32 a0_0, .slice A0_1 l0_1.length c0_1, .slice A0_2 l0_2.length c0_2]) (t := 24) ?hr ?_; (case hd => rfl); (case hg => rfl); (case hr => first | (go_simp; done) | (go_simp; rfl)); intro gb159 hg w4 hbox hb; have n0_ := Aside0.mk (below_step (pH_ HB.out) hb); have n1_ := Aside0.mk (hbox); have n2_ := Aside0.mk ((by rw [hg]; exact (below_size (pH_ HB.out)) : w.heap.size ≤ gb159)); have n3_ := Aside0.mk ((by rw [hg]; exact (below_size (pH_ HB.out)) : w.heap.size ≤ gb159)); clear HB; have HB := n0_; have BK159 := n1_; have GW159 := n2_; have GE159 := n3_; clear n0_ n1_ n2_ n3_; clear hb hbox hg) | ((with_reducible refine gate_dst (N := 2) rfl ?_); refine box_event ?hg (N := 2) ?hd (cs := #[.int .i32 0, .slice none 0 0, .slice none 0 0]) (t := 24) ?hr ?_; (case hd => rfl); (case hg => rfl); (case hr => first | (go_simp; done) | (go_simp; rfl)); intro gb160 hg w5 hbox hb; have n0_ := Aside0.mk (blk_below (pG_ BK159.out) hb); have n1_ := Aside0.mk (below_step (pH_ HB.out) hb); have n2_ := Aside0.mk (hbox); have n3_ := Aside0.mk ((by rw [hg]; exact (below_size (pH_ HB.out)) : w.heap.size ≤ gb160)); have n4_ := Aside0.mk ((by rw [hg]; exact (below_size (pH_ HB.out)) : w.heap.size ≤ gb160)); have n5_ := Aside0.mk ((by rw [hg]; exact Nat.ne_of_lt (blk_lt (pG_ BK159.out)) : gb159 ≠ gb160)); have n6_ := Aside0.mk ((by rw [hg]; exact Nat.ne_of_gt (blk_lt (pG_ BK159.out)) : gb160 ≠ gb159)); clear BK159; clear HB; have BK159 := n0_; have HB := n1_; have BK160 := n2_; have GW160 := n3_; have GE160 := n4_; have NB159_160 := n5_; have NB160_159 := n6_; clear n0_ n1_ n2_ n3_ n4_ n5_ n6_; clear hb hbox hg))
 have n0_ := Aside0.mk (blk_drew BK159.out); have n1_ := Aside0.mk (blk_drew BK160.out); have n2_ := Aside0.mk (below_drew1 HB.out); clear BK159; clear BK160; clear HB; have BK159 := n0_; have BK160 := n1_; have HB := n2_; clear n0_ n1_ n2_; refine start_ (n := 10) (S := fun w' => w'.cell? ⟨gb159, 0, none⟩ = some (.int .i32 a0_0) ∧ w'.cell? ⟨gb159, 1, none⟩ = some (.slice A0_1 l0_1.length c0_1) ∧ w'.cell? ⟨gb159, 2, none⟩ = some (.slice A0_2 l0_2.length c0_2)) (ds := [7, 9]) #[f_, f_, f_, f_, f_, f_, f_, f_, f_, f_] (by kernel_rfl) rfl rfl ⟨(blk_cell BK159.out 0).trans rfl, (blk_cell BK159.out 1).trans rfl, (blk_cell BK159.out 2).trans rfl⟩ (fun hHeld => ?_); refine with_tabW adapt_twin.tab1 adapt_twin.bits1 (fun HT_ HW_ => ?_)
 generalize w5.drew = w6 at BK159 BK160 HB hHeld ⊢
 refine pure_ (i := 0) (N := some 3) (v := ?_) (a' := ?_) #[t_, f_, f_, f_, f_, f_, f_, f_, f_, f_] rfl rfl (any_of HT_.out (by kernel_rfl)) (fun _ _ _ h => h) (Or.inl ⟨by rfl, ?_⟩) ?_ ?_; rotate_left
 ·
  intro w'; go_simp
  with_reducible rfl
 rotate_left
 ·
  simp only [Act.put, sA_, sZ_, sS_, i64_w, i32_w]; rfl
 refine pure_ (i := 3) (N := some 6) (v := ?_) (a' := ?_) #[t_, f_, f_, t_, f_, f_, f_, f_, f_, f_] rfl rfl (any_of HT_.out (by kernel_rfl)) (fun _ _ _ h => h) (Or.inl ⟨by rfl, ?_⟩) ?_ ?_; rotate_left
 ·
  intro w'; go_simp
  with_reducible rfl
 rotate_left
 ·
  simp only [Act.put, sA_, sZ_, sS_, i64_w, i32_w]; rfl
 refine take_ (i := 1) (N := some 4) (v := ?_) (a' := ?_) #[t_, t_, f_, t_, f_, f_, f_, f_, f_, f_] rfl rfl (take_ofW HT_.out HW_.out (by kernel_rfl)) (fun _ _ _ h => h) (Or.inl ⟨by rfl, ?_⟩) hHeld ?_ ?_; rotate_left
 ·
  rintro w' ⟨s0, s1, s2⟩
  go_simp
  with_reducible rfl
 rotate_left
 ·
  simp only [Act.put, sA_, sZ_, sS_, i64_w, i32_w]; rfl
 refine take_ (i := 4) (N := some 7) (v := ?_) (a' := ?_) #[t_, t_, f_, t_, t_, f_, f_, f_, f_, f_] rfl rfl (take_ofW HT_.out HW_.out (by kernel_rfl)) (fun _ _ _ h => h) (Or.inl ⟨by rfl, ?_⟩) hHeld ?_ ?_; rotate_left
 ·
  rintro w' ⟨s0, s1, s2⟩
  go_simp
  with_reducible rfl
 rotate_left
 ·
  simp only [Act.put, sA_, sZ_, sS_, i64_w, i32_w]; rfl
 refine one_ (i := 2) (N := some 5) #[t_, t_, t_, t_, t_, f_, f_, f_, f_, f_] rfl rfl (one_of HT_.out (by kernel_rfl)) (by decide) (fun K hK => ?_); refine goes_ Tryd.func48 (by kernel_rfl) rfl #[.slice A0_1 l0_1.length c0_1] (by rfl) rfl rfl (by (try simp only [List.map_toArray, List.map_cons, List.map_nil]); first | done | rfl | (simp only [List.length_drop, List.length_take]; rfl)) ?_
 with_reducible refine (slices_Clone_int32_int32.calls _ _ l0_1 t161 _ ?side1 ?side2 A2.out).mono ?_
 (case side1 => repeat (first | exact (Kd.C_below HR0_1.out HB.out) | (with_reducible refine Kd.C_alloc ?_ _) | (with_reducible refine Kd.C_drewN ?_ _) | (with_reducible refine Kd.C_drew ?_))); (case side2 => exact HC0_1.out)
 rintro e w7 ⟨v162, rfl, ho0, hb⟩
 refine ⟨_, rfl, ?_⟩; have n0_ := Aside0.mk (Kd.R_lower ho0 (below_size (pH_ HB.out))); have n1_ := Aside0.mk (blk_below (pG_ BK159.out) hb); have n2_ := Aside0.mk (blk_below (pG_ BK160.out) hb); have n3_ := Aside0.mk (below_step (pH_ HB.out) hb); clear BK159; clear BK160; clear HB; have HO163 := n0_; have BK159 := n1_; have BK160 := n2_; have HB := n3_; clear n0_ n1_ n2_ n3_; (try clear hb); (try clear hb2); (try clear hk); (try clear hi); (try clear ho0); refine hK.out _ _ ⟨(blk_cell BK159.out 0).trans rfl, (blk_cell BK159.out 1).trans rfl, (blk_cell BK159.out 2).trans rfl⟩ (fun hHeld => ?_); clear hK K; refine norm_ (a' := ?_) ?_ ?_; rotate_left
 ·
  show Act.put _ (some 5) _ = _
  simp only [Act.put, sA_, sZ_, sS_, i64_w, i32_w]; rfl
 refine pure_ (i := 6) (N := some 9) (v := ?_) (a' := ?_) #[t_, t_, t_, t_, t_, f_, t_, f_, f_, f_] rfl rfl (any_of HT_.out (by kernel_rfl)) (fun _ _ _ h => h) (Or.inl ⟨by rfl, ?_⟩) ?_ ?_; rotate_left
 ·
  intro w'; go_simp
  with_reducible rfl
 rotate_left
 ·
  simp only [Act.put, sA_, sZ_, sS_, i64_w, i32_w]; rfl
 refine one_ (i := 5) (N := some 8) #[t_, t_, t_, t_, t_, t_, t_, f_, f_, f_] rfl rfl (one_of HT_.out (by kernel_rfl)) (by decide) (fun K hK => ?_); refine goes_ Tryd.func48 (by kernel_rfl) rfl #[.slice A0_2 l0_2.length c0_2] (by rfl) rfl rfl (by (try simp only [List.map_toArray, List.map_cons, List.map_nil]); first | done | rfl | (simp only [List.length_drop, List.length_take]; rfl)) ?_
 with_reducible refine (slices_Clone_int32_int32.calls _ _ l0_2 t164 _ ?side1 ?side2 A3.out).mono ?_
 (case side1 => repeat (first | exact (Kd.C_below HR0_2.out HB.out) | (with_reducible refine Kd.C_alloc ?_ _) | (with_reducible refine Kd.C_drewN ?_ _) | (with_reducible refine Kd.C_drew ?_))); (case side2 => exact HC0_2.out)
 rintro e w8 ⟨v165, rfl, ho0, hb⟩
 refine ⟨_, rfl, ?_⟩; have n0_ := Aside0.mk (Kd.R_elder' (pL_ HO163.out) (Kd.R_base ho0) hb); have n1_ := Aside0.mk (Kd.R_lower (Kd.R_new' ho0 (Kd.R_lt (pL_ HO163.out))) (below_size (pH_ HB.out))); have n2_ := Aside0.mk (blk_below (pG_ BK159.out) hb); have n3_ := Aside0.mk (blk_below (pG_ BK160.out) hb); have n4_ := Aside0.mk (below_step (pH_ HB.out) hb); clear HO163; clear BK159; clear BK160; clear HB; have HO163 := n0_; have HO166 := n1_; have BK159 := n2_; have BK160 := n3_; have HB := n4_; clear n0_ n1_ n2_ n3_ n4_; (try clear hb); (try clear hb2); (try clear hk); (try clear hi); (try clear ho0); obtain ⟨Ao9, co9, eo9⟩ := Kd.R_slice HO163.out; (first | subst eo9 | (injection eo9 with f1_ f2_ f3_; have f4_ := f1_.symm; have f5_ := f3_.symm; clear f1_ f2_ f3_; subst f4_; subst f5_)); obtain ⟨Ao11, co11, eo11⟩ := Kd.R_slice HO166.out; (first | subst eo11 | (injection eo11 with f1_ f2_ f3_; have f4_ := f1_.symm; have f5_ := f3_.symm; clear f1_ f2_ f3_; subst f4_; subst f5_)); refine hK.out _ _ ⟨(blk_cell BK159.out 0).trans rfl, (blk_cell BK159.out 1).trans rfl, (blk_cell BK159.out 2).trans rfl⟩ (fun hHeld => ?_); clear hK K; refine norm_ (a' := ?_) ?_ ?_; rotate_left
 ·
  show Act.put _ (some 8) _ = _
  simp only [Act.put, sA_, sZ_, sS_, i64_w, i32_w]; rfl
 refine last_ (i := 7) (N := none) #[t_, t_, t_, t_, t_, t_, t_, t_, f_, f_] rfl rfl (one_of HT_.out (by kernel_rfl)) (by decide) (fun K hK => ?_); have hs10 : w8.cell? ⟨gb159, 1, none⟩ = some (.slice A0_1 l0_1.length c0_1) := (blk_cell BK159.out 1).trans rfl; have hfs10 := blk_frozen BK159.out 1; have hns10_1 := NB160_159.out; have hms10_1 := NB159_160.out; refine skip_ (w1 := ?_) (by rfl) rfl ?_ ?_; rotate_left
 ·
  go_simp; rfl
 refine hK.out _ _ ?_; clear hK K; refine pure_ (i := 8) (N := some 10) (v := ?_) (a' := ?_) #[t_, t_, t_, t_, t_, t_, t_, t_, t_, f_] rfl rfl (any_of HT_.out (by kernel_rfl)) (fun _ _ _ h => h) (Or.inl ⟨by rfl, ?_⟩) ?_ ?_; rotate_left
 ·
  intro w'; go_simp
  with_reducible rfl
 rotate_left
 ·
  simp only [Act.put, sA_, sZ_, sS_, i64_w, i32_w]; rfl
 refine last_ (i := 9) (N := none) #[t_, t_, t_, t_, t_, t_, t_, t_, t_, t_] rfl rfl (one_of HT_.out (by kernel_rfl)) (by decide) (fun K hK => ?_); have hs12 : w8.cell? ⟨gb159, 2, none⟩ = some (.slice A0_2 l0_2.length c0_2) := (blk_cell BK159.out 2).trans rfl; have hfs12 := blk_frozen BK159.out 2; have hns12_1 := NB160_159.out; have hms12_1 := NB159_160.out; refine skip_ (w1 := ?_) (by rfl) rfl ?_ ?_; rotate_left
 ·
  go_simp; rfl
 refine hK.out _ _ ?_; clear hK K; refine done_ (done_of HT_.out (by kernel_rfl)) ?_; have hnb13 := NB159_160.out; have hnc13 := NB160_159.out; have hcz14_0 : w8.cell? ⟨gb159, 0, none⟩ = some (.int .i32 a0_0) := (blk_cell BK159.out 0).trans rfl; have hcz14_1 : w8.cell? ⟨gb159, 1, none⟩ = some (.slice A0_1 l0_1.length c0_1) := (blk_cell BK159.out 1).trans rfl; have hcz14_2 : w8.cell? ⟨gb159, 2, none⟩ = some (.slice A0_2 l0_2.length c0_2) := (blk_cell BK159.out 2).trans rfl; have hfz14_0 := blk_frozen BK159.out 0; have hfz14_1 := blk_frozen BK159.out 1; have hfz14_2 := blk_frozen BK159.out 2; have hcz15_0 : w8.cell? ⟨gb160, 0, none⟩ = some (.int .i32 0) := (blk_cell BK160.out 0).trans rfl; have hcz15_1 : w8.cell? ⟨gb160, 1, none⟩ = some (.slice none 0 0) := (blk_cell BK160.out 1).trans rfl; have hcz15_2 : w8.cell? ⟨gb160, 2, none⟩ = some (.slice none 0 0) := (blk_cell BK160.out 2).trans rfl; have hfz15_0 := blk_frozen BK160.out 0; have hfz15_1 := blk_frozen BK160.out 1; have hfz15_2 := blk_frozen BK160.out 2
 try go_wp2
 refine bodyPost_ret (results_cell_row rfl _ _ gb160 24 #[.int .i32 a0_0, .slice Ao9 t161.length co9, .slice Ao11 t164.length co11] (0, 0) _ rfl (by (with_reducible repeat (first | refine blk_drewN ?_ _ | refine blk_drew ?_ | refine blk_alloc ?_ _)); refine blk_put (cs := #[.int .i32 a0_0, .slice Ao9 t161.length co9, .slice none 0 0]) ?_ 2 _ rfl; (with_reducible repeat (first | refine blk_drewN ?_ _ | refine blk_drew ?_ | refine blk_alloc ?_ _)); refine blk_put (cs := #[.int .i32 a0_0, .slice none 0 0, .slice none 0 0]) ?_ 1 _ rfl; (with_reducible repeat (first | refine blk_drewN ?_ _ | refine blk_drew ?_ | refine blk_alloc ?_ _)); refine blk_put (cs := #[.int .i32 0, .slice none 0 0, .slice none 0 0]) ?_ 0 _ rfl; (with_reducible repeat (first | refine blk_drewN ?_ _ | refine blk_drew ?_ | refine blk_alloc ?_ _)); refine blk_far ?_ NB160_159.out _; (with_reducible repeat (first | refine blk_drewN ?_ _ | refine blk_drew ?_ | refine blk_alloc ?_ _)); refine blk_far ?_ NB160_159.out _; (with_reducible repeat (first | refine blk_drewN ?_ _ | refine blk_drew ?_ | refine blk_alloc ?_ _)); exact BK160.out) Tryd.underlying24 rfl (by kernel_rfl)) rfl ?_; exact ⟨_, _, by first | rfl | (simp [errW_none, errW_some] <;> rfl) | (simp [*, errW_none, errW_some] <;> rfl), by (with_reducible repeat (first | apply rA_ | apply rN_ | apply rD_)); exact Kd.R_mono (Kd.R_far (p := ⟨gb160, 2, none⟩) (Kd.R_far (p := ⟨gb160, 1, none⟩) (Kd.R_far (p := ⟨gb160, 0, none⟩) (Kd.R_far (p := ⟨gb159, 2, none⟩) (Kd.R_far (p := ⟨gb159, 1, none⟩) (Kd.R_types (Kd.R_types HO163.out BK159.out (by decide)) BK160.out (by decide)) (fun _ hk => hk.1.2) (.slice Ao9 t161.length co9)) (fun _ hk => hk.1.2) (.slice Ao11 t164.length co11)) (fun _ hk => hk.2) (.int .i32 a0_0)) (fun _ hk => hk.2) (.slice Ao9 t161.length co9)) (fun _ hk => hk.2) (.slice Ao11 t164.length co11)) (fun _ hk => hk.1.1.2), by (with_reducible repeat (first | apply rA_ | apply rN_ | apply rD_)); exact Kd.R_mono (Kd.R_far (p := ⟨gb160, 2, none⟩) (Kd.R_far (p := ⟨gb160, 1, none⟩) (Kd.R_far (p := ⟨gb160, 0, none⟩) (Kd.R_far (p := ⟨gb159, 2, none⟩) (Kd.R_far (p := ⟨gb159, 1, none⟩) (Kd.R_types (Kd.R_types HO166.out BK159.out (by decide)) BK160.out (by decide)) (fun _ hk => hk.1.2) (.slice Ao9 t161.length co9)) (fun _ hk => hk.1.2) (.slice Ao11 t164.length co11)) (fun _ hk => hk.2) (.int .i32 a0_0)) (fun _ hk => hk.2) (.slice Ao9 t161.length co9)) (fun _ hk => hk.2) (.slice Ao11 t164.length co11)) (fun _ hk => hk.1.1.2), pH_ HB.out⟩

/-! ### recip_Of: function 66 -/
def recip_Of.f (a0 : Int) : Option (Int × Int) := if a0 < 1 then (some (0, 2)) else (if a0 > 1024 then (some (0, 2)) else (if a0 = 0 then (none) else (some (wrap32 (Int.tdiv (65536 : Int) a0), 0))))
set_option maxHeartbeats 8000000 in
set_option maxRecDepth 100000 in
theorem recip_Of.calls (a0 : Int) (r1 : Int) (r2 : Int) (w : World) (h : recip_Of.f a0 = some (r1, r2)) :
  Calls Tryd.prog 66 #[.int .i32 a0] w fun e w' => e = .returned (.tuple #[.int .i32 r1, .int .i64 r2]) ∧ Drawn0 w w' := by
 have H : (if a0 < 1 then (some (0, 2)) else (if a0 > 1024 then (some (0, 2)) else (if a0 = 0 then (none) else (some (wrap32 (Int.tdiv (65536 : Int) a0), 0))))) = some (r1, r2) := h; clear h
 by_cases c2 : a0 < 1
 ·
  rw [if_pos c2] at H; have c2b0 : decide (a0 < 1) = true := decide_eq_true c2; clear c2; simp only [Option.some.injEq, Prod.mk.injEq] at H; obtain ⟨rfl, rfl⟩ := H
  go_enter Tryd.func66, Tryd.ntmps66
  go_wp2
  go_ret2
  exact ⟨by first | rfl | (simp; done) | (simp [*]; done), by repeat (first | exact Drawn0.refl _ | apply Drawn0.step)⟩
 ·
  rw [if_neg c2] at H; have c2b0 : decide (a0 < 1) = false := decide_eq_false c2; clear c2
  by_cases c3 : a0 > 1024
  ·
   rw [if_pos c3] at H; have c3b0 : decide (1024 < a0) = true := decide_eq_true c3; clear c3; simp only [Option.some.injEq, Prod.mk.injEq] at H; obtain ⟨rfl, rfl⟩ := H
   go_enter Tryd.func66, Tryd.ntmps66
   go_wp2
   go_ret2
   exact ⟨by first | rfl | (simp; done) | (simp [*]; done), by repeat (first | exact Drawn0.refl _ | apply Drawn0.step)⟩
  ·
   rw [if_neg c3] at H; have c3b0 : decide (1024 < a0) = false := decide_eq_false c3; clear c3
   by_cases c4 : a0 = 0
   ·
    rw [if_pos c4] at H; exact absurd H (by simp)
   ·
    rw [if_neg c4] at H; have c4b0 : (a0 == 0) = false := beq_eq_false_iff_ne.mpr c4; have c4b1 : (a0 != 0) = true := bne_iff_ne.mpr c4; simp only [Option.some.injEq, Prod.mk.injEq] at H; obtain ⟨rfl, rfl⟩ := H
    go_enter Tryd.func66, Tryd.ntmps66
    go_wp2
    go_ret2
    exact ⟨by first | rfl | (simp; done) | (simp [*]; done), by repeat (first | exact Drawn0.refl _ | apply Drawn0.step)⟩

/-! ### recip_Div: function 62 -/
def recip_Div.f (a0 : Int) (a1 : Int) : Option (Int × Int) := (recip_Of.f a1).bind fun bt167 => (if bt167.2 = 0 then (some (wrap32 ((wrap64 ((wrap64 (a0)) * (wrap64 (bt167.1)))) / 65536), 0)) else (some (0, bt167.2)))
set_option maxHeartbeats 8000000 in
set_option maxRecDepth 100000 in
theorem recip_Div.calls (a0 : Int) (a1 : Int) (r1 : Int) (r2 : Int) (w : World) (h : recip_Div.f a0 a1 = some (r1, r2)) :
  Calls Tryd.prog 62 #[.int .i32 a0, .int .i32 a1] w fun e w' => e = .returned (.tuple #[.int .i32 r1, .int .i64 r2]) ∧ Drawn0 w w' := by
 have H : ((recip_Of.f a1).bind fun bt167 => (if bt167.2 = 0 then (some (wrap32 ((wrap64 ((wrap64 (a0)) * (wrap64 (bt167.1)))) / 65536), 0)) else (some (0, bt167.2)))) = some (r1, r2) := h; clear h; replace H := Option.bind_eq_some_iff.mp H; obtain ⟨⟨t167, t168⟩, A30, H⟩ := H; replace H : (if t168 = 0 then (some (wrap32 ((wrap64 ((wrap64 (a0)) * (wrap64 (t167)))) / 65536), 0)) else (some (0, t168))) = some (r1, r2) := H; have A3 := Aside0.mk A30; clear A30
 by_cases c4 : t168 = 0
 ·
  rw [if_pos c4] at H; have c4b0 : (t168 == 0) = true := beq_iff_eq.mpr c4; have c4b1 : (t168 != 0) = false := bne_eq_false_iff_eq.mpr c4; clear c4; simp only [Option.some.injEq, Prod.mk.injEq] at H; obtain ⟨rfl, rfl⟩ := H
  go_enter Tryd.func62, Tryd.ntmps62
  go_wp2_with (first | ((with_reducible refine gate_callee (f := 66) rfl ?_); refine gL_ (some 10) Tryd.func66 #[.int .i32 a1] ?_; (with_reducible refine (recip_Of.calls a1 t167 t168 _ A3.out).mono ?_); rintro e w' ⟨rfl, ⟨nd, rfl⟩⟩; refine ⟨_, rfl, ?_⟩))
  go_ret2
  exact ⟨by first | rfl | (simp; done) | (simp [*]; done), by repeat (first | exact Drawn0.refl _ | apply Drawn0.step)⟩
 ·
  rw [if_neg c4] at H; have c4b0 : (t168 == 0) = false := beq_eq_false_iff_ne.mpr c4; have c4b1 : (t168 != 0) = true := bne_iff_ne.mpr c4; simp only [Option.some.injEq, Prod.mk.injEq] at H; obtain ⟨rfl, rfl⟩ := H
  go_enter Tryd.func62, Tryd.ntmps62
  go_wp2_with (first | ((with_reducible refine gate_callee (f := 66) rfl ?_); refine gL_ (some 10) Tryd.func66 #[.int .i32 a1] ?_; (with_reducible refine (recip_Of.calls a1 t167 t168 _ A3.out).mono ?_); rintro e w' ⟨rfl, ⟨nd, rfl⟩⟩; refine ⟨_, rfl, ?_⟩))
  go_ret2
  exact ⟨by first | rfl | (simp; done) | (simp [*]; done), by repeat (first | exact Drawn0.refl _ | apply Drawn0.step)⟩

/-! ### recip_Step: function 49 -/
def recip_Step.j0 : Nat → Int → Int → Int → Bool → Option (Int × Int)
 | 0, _, _, _, _ => none
 | k + 1, x0, x1, x2, x19 => if x19 = true then (some (0, 2)) else ((recip_Div.f (wrap32 (x1 - x0)) x2).bind fun bt169 => (if bt169.2 = 0 then (some (wrap32 (x0 + bt169.1), 0)) else (some (0, bt169.2))))
def recip_Step.f (k : Nat) (a0 : Int) (a1 : Int) (a2 : Int) : Option (Int × Int) := if (mn a0 a1) < 0 then (recip_Step.j0 k a0 a1 a2 true) else (recip_Step.j0 k a0 a1 a2 (decide ((mx a0 a1) ≥ 65536)))
theorem recip_Step.mono_l : ∀ k, (∀ y0 y1 y2 y3, LeO (recip_Step.j0 k y0 y1 y2 y3) (recip_Step.j0 (k + 1) y0 y1 y2 y3))
 | 0 => fun _ _ _ _ r h => by simp [recip_Step.j0] at h
 | k + 1 => by
  have ih0 := recip_Step.mono_l k
  ·
   intro y0 y1 y2 y3
   unfold recip_Step.j0
   repeat' first
   | (with_reducible exact ih0 _ _ _ _)
   | (with_reducible exact LeO.refl _)
   | (with_reducible exact LeO.none _)
   | (with_reducible refine LeO.ite ?_ ?_)
   | (with_reducible refine LeO.bind ?_ (fun _ => ?_))
   | exact ih0 _ _ _ _
   | exact LeO.none _
   | refine LeO.ite ?_ ?_
   | refine LeO.bind ?_ (fun _ => ?_)
theorem recip_Step.mono : ∀ a0 a1 a2 k, LeO (recip_Step.f k a0 a1 a2) (recip_Step.f (k + 1) a0 a1 a2) := by
 intro a0 a1 a2 k; have ih0 := recip_Step.mono_l k
 unfold recip_Step.f
 repeat' first
   | (with_reducible exact ih0 _ _ _ _)
   | (with_reducible exact LeO.refl _)
   | (with_reducible exact LeO.none _)
   | (with_reducible refine LeO.ite ?_ ?_)
   | (with_reducible refine LeO.bind ?_ (fun _ => ?_))
   | exact ih0 _ _ _ _
   | exact LeO.none _
   | refine LeO.ite ?_ ?_
   | refine LeO.bind ?_ (fun _ => ?_)
set_option maxHeartbeats 8000000 in
set_option maxRecDepth 100000 in
theorem recip_Step.calls (k : Nat) (a0 : Int) (a1 : Int) (a2 : Int) (r1 : Int) (r2 : Int) (w : World) (h : recip_Step.f k a0 a1 a2 = some (r1, r2)) :
  Calls Tryd.prog 49 #[.int .i32 a0, .int .i32 a1, .int .i32 a2] w fun e w' => e = .returned (.tuple #[.int .i32 r1, .int .i64 r2]) ∧ Below w.heap.size w w' := by
 have HB := Aside0.mk (Below.refl w.heap.size w); have H : (if (mn a0 a1) < 0 then (recip_Step.j0 k a0 a1 a2 true) else (recip_Step.j0 k a0 a1 a2 (decide ((mx a0 a1) ≥ 65536)))) = some (r1, r2) := h; clear h; have HC4 := Aside0.mk H; clear H
 go_enter Tryd.func49, Tryd.ntmps49
 go_upto_region 1 with (fail)
 (with_reducible first | refine then_id_ ?_ | (refine wp_tail_ ?_; intro Kt_ hKt_))
 go_cut [19] (fun v19 wc => ∃ (kq : Nat) (x19_3 : Bool), v19 = .bool x19_3 ∧ Aside0 (recip_Step.j0 kq a0 a1 a2 x19_3 = some (r1, r2)) ∧ Aside0 (kq ≤ k) ∧ Aside0 (Below w.heap.size w wc))
 case first =>
  have H := HC4.out; clear HC4; obtain ⟨ji5, hji5⟩ : ∃ j_ : Int, (mn a0 a1) = j_ := ⟨_, rfl⟩
  replace H : (if (ji5) < 0 then (recip_Step.j0 k a0 a1 a2 true) else (recip_Step.j0 k a0 a1 a2 (decide ((mx a0 a1) ≥ 65536)))) = some (r1, r2) := by first | (rw [hji5] at H; exact H) | (simp only [hji5] at H ⊢; exact H)
  have hji5_ : (if a1 < a0 then a1 else a0) = ji5 := hji5
  by_cases c6 : (ji5) < 0
  ·
   rw [if_pos c6] at H; have c6b0 : decide ((ji5) < 0) = true := decide_eq_true c6; clear c6; (first | rw [c6b0] | (simp only [i64_w, i32_w]; rw [c6b0]) | skip); have H' := Aside0.mk H; clear H
   go_wp2
   (first | go_meet | (refine Met.intro ?_; go_step; (repeat apply Exists.intro); refine ⟨?rel, ?eqf_⟩; case eqf_ => ((simp only [c6b0]) <;> rfl)))
   case rel => exact ⟨_, (true), (by first | rfl | (simp; done) | (simp [*]; done)), H', ⟨by first | omega | exact Nat.le_refl _⟩, ⟨pH_ HB.out⟩⟩
  ·
   rw [if_neg c6] at H; have c6b0 : decide ((ji5) < 0) = false := decide_eq_false c6; clear c6; (first | rw [c6b0] | (simp only [i64_w, i32_w]; rw [c6b0]) | skip); obtain ⟨ji7, hji7⟩ : ∃ j_ : Int, (mx a0 a1) = j_ := ⟨_, rfl⟩
   replace H : (recip_Step.j0 k a0 a1 a2 (decide ((ji7) ≥ 65536))) = some (r1, r2) := by first | (rw [hji7] at H; exact H) | (simp only [hji7] at H ⊢; exact H)
   have hji7_ : (if a0 < a1 then a1 else a0) = ji7 := hji7; have H' := Aside0.mk H; clear H
   go_wp2
   (first | go_meet | (refine Met.intro ?_; go_step; (repeat apply Exists.intro); refine ⟨?rel, ?eqf_⟩; case eqf_ => ((simp only [c6b0]) <;> rfl)))
   case rel => exact ⟨_, (decide ((ji7) ≥ 65536)), (by first | rfl | (simp; done) | (simp only [← hji7] <;> (first | rfl | simp)) | (simp [*]; done)), H', ⟨by first | omega | exact Nat.le_refl _⟩, ⟨pH_ HB.out⟩⟩
 case rest =>
  (try (refine hKt_ _ _ ?_; clear hKt_; clear Kt_)); clear HC4
  try clear p2
  try clear c4
  try clear c6
  try clear c6b0
  obtain ⟨kq, x19_3, rfl, HA, HJ3, HB⟩ := hcut
  cases kq with
  | zero => exact absurd HA.out (by simp [recip_Step.j0])
  | succ kj3 =>
   have H := HA.out; clear HA; simp only [recip_Step.j0] at H
   by_cases c8 : x19_3 = true
   ·
    subst c8
    have H1 : (some (0, 2)) = some (r1, r2) := by rw [if_pos rfl] at H; exact H
    clear H; have H := H1; clear H1; simp only [Option.some.injEq, Prod.mk.injEq] at H; obtain ⟨rfl, rfl⟩ := H
    go_wp2
    go_ret2
    exact ⟨by first | rfl | (simp [errW_none, errW_some] <;> rfl) | (simp [*, errW_none, errW_some] <;> rfl), pH_ HB.out⟩
   ·
    replace c8 := Bool.eq_false_iff.mpr c8
    subst c8
    have H1 : ((recip_Div.f (wrap32 (a1 - a0)) a2).bind fun bt169 => (if bt169.2 = 0 then (some (wrap32 (a0 + bt169.1), 0)) else (some (0, bt169.2)))) = some (r1, r2) := by rw [if_neg (show ¬ (false = true) by decide)] at H; exact H
    clear H; have H := H1; clear H1; replace H := Option.bind_eq_some_iff.mp H; obtain ⟨⟨t169, t170⟩, A90, H⟩ := H; replace H : (if t170 = 0 then (some (wrap32 (a0 + t169), 0)) else (some (0, t170))) = some (r1, r2) := H; have A9 := Aside0.mk A90; clear A90
    by_cases c10 : t170 = 0
    ·
     rw [if_pos c10] at H; have c10b0 : (t170 == 0) = true := beq_iff_eq.mpr c10; have c10b1 : (t170 != 0) = false := bne_eq_false_iff_eq.mpr c10; clear c10; simp only [Option.some.injEq, Prod.mk.injEq] at H; obtain ⟨rfl, rfl⟩ := H
     go_wp2_with (first | ((with_reducible refine gate_callee (f := 62) rfl ?_); refine gL_ (some 25) Tryd.func62 #[.int .i32 (wrap32 (a1 - a0)), .int .i32 a2] ?_; (with_reducible refine (recip_Div.calls (wrap32 (a1 - a0)) a2 t169 t170 _ A9.out).mono ?_); rintro e w' ⟨rfl, ⟨nd, rfl⟩⟩; refine ⟨_, rfl, ?_⟩))
     go_ret2
     exact ⟨by first | rfl | (simp [errW_none, errW_some] <;> rfl) | (simp [*, errW_none, errW_some] <;> rfl), pH_ HB.out⟩
    ·
     rw [if_neg c10] at H; have c10b0 : (t170 == 0) = false := beq_eq_false_iff_ne.mpr c10; have c10b1 : (t170 != 0) = true := bne_iff_ne.mpr c10; simp only [Option.some.injEq, Prod.mk.injEq] at H; obtain ⟨rfl, rfl⟩ := H
     go_wp2_with (first | ((with_reducible refine gate_callee (f := 62) rfl ?_); refine gL_ (some 25) Tryd.func62 #[.int .i32 (wrap32 (a1 - a0)), .int .i32 a2] ?_; (with_reducible refine (recip_Div.calls (wrap32 (a1 - a0)) a2 t169 t170 _ A9.out).mono ?_); rintro e w' ⟨rfl, ⟨nd, rfl⟩⟩; refine ⟨_, rfl, ?_⟩))
     go_ret2
     exact ⟨by first | rfl | (simp [errW_none, errW_some] <;> rfl) | (simp [*, errW_none, errW_some] <;> rfl), pH_ HB.out⟩

/-! ### adapt_change: function 33 -/
def adapt_change.f (k : Nat) (a0_0 : Int) (l0_1 : List Int) (l0_2 : List Int) (a1 : Int) (a2 : Int) : Option (Int × List Int × List Int) := if 0 ≤ a1 then (if a1 < (l0_2.length : Int) then (if a1 < (l0_1.length : Int) then (if 0 ≤ a2 then (if a2 < 2 then ((recip_Step.f k (rd l0_1 a1) (rd tgRow a2) (wrap32 ((mn (wrap32 ((rd l0_2 a1) + 1)) a0_0) + 1))).bind fun bt174 => (some (bt174.2, (l0_1.set (a1 : Int).toNat bt174.1), (l0_2.set (a1 : Int).toNat (mn (wrap32 ((rd l0_2 a1) + 1)) a0_0))))) else (none)) else (none)) else (none)) else (none)) else (none)
theorem adapt_change.mono : ∀ a0 a1 a2 a3 a4 k, LeO (adapt_change.f k a0 a1 a2 a3 a4) (adapt_change.f (k + 1) a0 a1 a2 a3 a4) := by
 intro a0 a1 a2 a3 a4 k
 unfold adapt_change.f
 repeat' first
   | (with_reducible exact recip_Step.mono _ _ _ _)
   | (with_reducible exact LeO.refl _)
   | (with_reducible exact LeO.none _)
   | (with_reducible refine LeO.ite ?_ ?_)
   | (with_reducible refine LeO.bind ?_ (fun _ => ?_))
   | exact recip_Step.mono _ _ _ _
   | exact LeO.none _
   | refine LeO.ite ?_ ?_
   | refine LeO.bind ?_ (fun _ => ?_)
def adapt_change.T1 : Bool × List (List Nat × List Nat) := (true, [([], []), ([0], [0]), ([], []), ([1, 2], [1, 2]), ([3], [3]), ([4], [4]), ([], []), ([6], [6]), ([5, 7], [5, 7]), ([8, 0, 1, 2, 3, 4, 5, 6, 7, 8], [8])])
def adapt_change.B1 : List Nat := [0, 1, 0, 7, 15, 31, 0, 64, 255, 511]
theorem adapt_change.tab1 : rtab .any (opsOf Tryd.f33 1) = adapt_change.T1 := by kernel_rfl
theorem adapt_change.bits1 : waitsOk adapt_change.T1.2 adapt_change.B1 = true := by kernel_rfl
def adapt_change.T2 : Bool × List (List Nat × List Nat) := (true, [([], []), ([0], [0]), ([], []), ([1, 2], [1, 2]), ([3], [3]), ([], []), ([5], [5]), ([6], [6]), ([], []), ([8], [8]), ([4, 7, 9], [4, 7, 9]), ([10], [10]), ([11], [11]), ([11], [11]), ([12, 10, 0, 1, 2, 3, 4, 5, 6, 7, 8, 9, 10, 11, 12], [12]), ([13, 14, 0, 1, 2, 3, 4, 5, 6, 7, 8, 9, 10, 11, 12, 13, 14], [13])])
def adapt_change.B2 : List Nat := [0, 1, 0, 7, 15, 0, 32, 96, 0, 256, 1023, 2047, 4095, 4095, 8191, 32767]
theorem adapt_change.tab2 : rtab .any (opsOf Tryd.f33 2) = adapt_change.T2 := by kernel_rfl
theorem adapt_change.bits2 : waitsOk adapt_change.T2.2 adapt_change.B2 = true := by kernel_rfl
def adapt_change.T3 : Bool × List (List Nat × List Nat) := (true, [([], []), ([0], [0]), ([], []), ([], []), ([3], [3]), ([], []), ([], []), ([], []), ([1, 2, 0, 1, 2, 6], [1, 2]), ([8, 6, 0, 1, 2, 6], [6, 8]), ([4, 5, 0, 1, 2, 3, 4, 5, 6, 7, 8, 9], [4, 5]), ([10, 7, 9, 0, 1, 2, 3, 4, 5, 6, 7, 8, 9], [7, 10])])
def adapt_change.B3 : List Nat := [0, 1, 0, 0, 8, 0, 0, 0, 71, 327, 1023, 2047]
theorem adapt_change.tab3 : rtab .any (opsOf Tryd.f33 3) = adapt_change.T3 := by kernel_rfl
theorem adapt_change.bits3 : waitsOk adapt_change.T3.2 adapt_change.B3 = true := by kernel_rfl
set_option maxHeartbeats 8000000 in
set_option maxRecDepth 100000 in
theorem adapt_change.calls (k : Nat) (a0_0 : Int) (P0_1_ : Nat → Prop) (u9000_ : Value) (l0_1 : List Int) (P0_2_ : Nat → Prop) (u9001_ : Value) (l0_2 : List Int) (a1 : Int) (a2 : Int) (r1 : Int) (r2 : List Int) (r3 : List Int) (w0 w : World) (hB : Below w0.heap.size w0 w) (ho0_1 : Kd.R (Kd.int .i32) 21 w w0.heap.size P0_1_ u9000_ l0_1) (hp0_1_0_2 : ∀ k_, P0_1_ k_ → ¬ P0_2_ k_) (ho0_2 : Kd.R (Kd.int .i32) 21 w w0.heap.size P0_2_ u9001_ l0_2) (hp0_2_0_1 : ∀ k_, P0_2_ k_ → ¬ P0_1_ k_) (hT : Tab_ w0) (h : adapt_change.f k a0_0 l0_1 l0_2 a1 a2 = some (r1, r2, r3)) :
  Calls Tryd.prog 33 #[.agg #[.int .i32 a0_0, u9000_, u9001_], .int .u8 a1, .int .u8 a2] w fun e w' => e = .returned (.int .i64 r1) ∧ Kd.R (Kd.int .i32) 21 w' w0.heap.size (fun k_ => ((P0_1_ k_ ∨ P0_2_ k_) ∨ w.heap.size ≤ k_)) u9000_ r2 ∧ Kd.R (Kd.int .i32) 21 w' w0.heap.size (fun k_ => ((P0_1_ k_ ∨ P0_2_ k_) ∨ w.heap.size ≤ k_)) u9001_ r3 ∧ Below w0.heap.size w0 w' ∧ Kept w w' (fun k_ => P0_1_ k_ ∨ P0_2_ k_) := by
 have hu24 := Tryd.underlying24; have HO0_1 := Aside0.mk (show Kd.R (Kd.int .i32) 21 w w0.heap.size (fun k_ => ((P0_1_ k_ ∨ P0_2_ k_) ∨ w.heap.size ≤ k_) ∧ nO_ k_ u9001_) u9000_ l0_1 from Kd.R_mono ho0_1 (fun k_ hk => ⟨(.inl (.inl hk)), fun e_ => hp0_1_0_2 k_ hk (ho0_2.1 k_ e_.symm)⟩)); have HO0_2 := Aside0.mk (show Kd.R (Kd.int .i32) 21 w w0.heap.size (fun k_ => ((P0_1_ k_ ∨ P0_2_ k_) ∨ w.heap.size ≤ k_) ∧ nO_ k_ u9000_) u9001_ l0_2 from Kd.R_mono ho0_2 (fun k_ hk => ⟨(.inl (.inr hk)), fun e_ => hp0_2_0_1 k_ hk (ho0_1.1 k_ e_.symm)⟩)); have HK := Aside0.mk (Kept.refl w (fun k_ => P0_1_ k_ ∨ P0_2_ k_)); have HW0 := Aside0.mk hB.size; have HB := Aside0.mk hB; clear hB; have H : (if 0 ≤ a1 then (if a1 < (l0_2.length : Int) then (if a1 < (l0_1.length : Int) then (if 0 ≤ a2 then (if a2 < 2 then ((recip_Step.f k (rd l0_1 a1) (rd tgRow a2) (wrap32 ((mn (wrap32 ((rd l0_2 a1) + 1)) a0_0) + 1))).bind fun bt174 => (some (bt174.2, (l0_1.set (a1 : Int).toNat bt174.1), (l0_2.set (a1 : Int).toNat (mn (wrap32 ((rd l0_2 a1) + 1)) a0_0))))) else (none)) else (none)) else (none)) else (none)) else (none)) = some (r1, r2, r3) := h; clear h
 by_cases c4 : 0 ≤ a1
 ·
  rw [if_pos c4] at H; have c4b0 : decide (0 ≤ a1) = true := decide_eq_true c4; clear c4
  by_cases c5 : a1 < (l0_2.length : Int)
  ·
   rw [if_pos c5] at H; have c5b0 : decide (a1 < (l0_2.length : Int)) = true := decide_eq_true c5; clear c5; obtain ⟨ji6, hji6⟩ : ∃ j_ : Int, (mn (wrap32 ((rd l0_2 a1) + 1)) a0_0) = j_ := ⟨_, rfl⟩
   replace H : (if a1 < (l0_1.length : Int) then (if 0 ≤ a2 then (if a2 < 2 then ((recip_Step.f k (rd l0_1 a1) (rd tgRow a2) (wrap32 ((ji6) + 1))).bind fun bt174 => (some (bt174.2, (l0_1.set (a1 : Int).toNat bt174.1), (l0_2.set (a1 : Int).toNat (ji6))))) else (none)) else (none)) else (none)) = some (r1, r2, r3) := by first | (rw [hji6] at H; exact H) | (simp only [hji6] at H ⊢; exact H)
   have hji6_ : (if a0_0 < (wrap32 ((rd l0_2 a1) + 1)) then a0_0 else (wrap32 ((rd l0_2 a1) + 1))) = ji6 := hji6
   by_cases c7 : a1 < (l0_1.length : Int)
   ·
    rw [if_pos c7] at H; have c7b0 : decide (a1 < (l0_1.length : Int)) = true := decide_eq_true c7; clear c7
    by_cases c8 : 0 ≤ a2
    ·
     rw [if_pos c8] at H; have c8b0 : decide (0 ≤ a2) = true := decide_eq_true c8; clear c8
     by_cases c9 : a2 < 2
     ·
      rw [if_pos c9] at H; have c9b0 : decide (a2 < 2) = true := decide_eq_true c9; clear c9; replace H := Option.bind_eq_some_iff.mp H; obtain ⟨⟨t174, t175⟩, A100, H⟩ := H; replace H : (some (t175, (l0_1.set (a1 : Int).toNat t174), (l0_2.set (a1 : Int).toNat (ji6)))) = some (r1, r2, r3) := H; have A10 := Aside0.mk A100; clear A100; obtain ⟨y176, hy176⟩ : ∃ y_ : List Int, y_ = (l0_1.set (a1 : Int).toNat t174) := ⟨_, rfl⟩
      replace H : (some (t175, y176, (l0_2.set (a1 : Int).toNat (ji6)))) = some (r1, r2, r3) := by first | (rw [hy176]; with_reducible exact H) | (have H2_ := (Option.bind_some _ _).symm.trans H; rw [hy176]; with_reducible exact H2_) | (have H2_ := (Option.bind_some _ _).symm.trans H; with_reducible exact H2_) | with_reducible exact H | (rw [hy176]; exact H) | exact H
      have Ny176 := Aside0.mk hy176; clear hy176; obtain ⟨y177, hy177⟩ : ∃ y_ : List Int, y_ = (l0_2.set (a1 : Int).toNat (ji6)) := ⟨_, rfl⟩
      replace H : (some (t175, y176, y177)) = some (r1, r2, r3) := by first | (rw [hy177]; with_reducible exact H) | (have H2_ := (Option.bind_some _ _).symm.trans H; rw [hy177]; with_reducible exact H2_) | (have H2_ := (Option.bind_some _ _).symm.trans H; with_reducible exact H2_) | with_reducible exact H | (rw [hy177]; exact H) | exact H
      have Ny177 := Aside0.mk hy177; clear hy177; simp only [Option.some.injEq, Prod.mk.injEq] at H; obtain ⟨rfl, rfl, rfl⟩ := H; obtain ⟨Ao13, co13, eo13⟩ := Kd.R_slice HO0_1.out
      subst eo13
      obtain ⟨Ao14, co14, eo14⟩ := Kd.R_slice HO0_2.out
      subst eo14
      go_enter Tryd.func33, Tryd.ntmps33
      try go_wp2_with (first | ((with_reducible refine gate_dst (N := 3) rfl ?_); refine box_event ?hg (N := 3) ?hd (cs := #[.int .i32 a0_0, .slice Ao13 l0_1.length co13, .slice Ao14 l0_2.length co14]) (t := 24) ?hr ?_; (case hd => rfl); (case hg => rfl); (case hr => first | (go_simp; done) | (go_simp; rfl)); intro gb171 hg w15 hbox hb; have n0_ := Aside0.mk (Kd.R_below (pL_ HO0_1.out) hb); have n1_ := Aside0.mk (Kd.R_below (pL_ HO0_2.out) hb); have n2_ := Aside0.mk (Kept.below (S := (fun k_ => P0_1_ k_ ∨ P0_2_ k_)) (by repeat (first | (with_reducible first | exact HK.out | apply Kept.alloc | apply Kept.drewN | apply Kept.drew) | exact HK.out)) hb); have n3_ := Aside0.mk (below_step (pH_ HB.out) hb); have n4_ := Aside0.mk (hbox); have n5_ := Aside0.mk ((by rw [hg]; exact (by first | exact HK.out.1 | exact (show Kept w _ (fun k_ => P0_1_ k_ ∨ P0_2_ k_) from by repeat (first | (with_reducible first | exact HK.out | apply Kept.alloc | apply Kept.drewN | apply Kept.drew) | exact HK.out)).1) : w.heap.size ≤ gb171)); have n6_ := Aside0.mk ((by rw [hg]; exact (below_size (pH_ HB.out)) : w0.heap.size ≤ gb171)); clear HO0_1; clear HO0_2; clear HK; clear HB; have HO0_1 := n0_; have HO0_2 := n1_; have HK := n2_; have HB := n3_; have BK171 := n4_; have GW171 := n5_; have GE171 := n6_; clear n0_ n1_ n2_ n3_ n4_ n5_ n6_; clear hb hbox hg))
      have n0_ := Aside0.mk (Kd.R_drew HO0_1.out); have n1_ := Aside0.mk (Kd.R_drew HO0_2.out); have n2_ := Aside0.mk (blk_drew BK171.out); have n3_ := Aside0.mk (Kept.drew HK.out); have n4_ := Aside0.mk (below_drew1 HB.out); clear HO0_1; clear HO0_2; clear BK171; clear HK; clear HB; have HO0_1 := n0_; have HO0_2 := n1_; have BK171 := n2_; have HK := n3_; have HB := n4_; clear n0_ n1_ n2_ n3_ n4_; have p172 : 0 ≤ (a1 : Int) := of_decide_eq_true (by first | (with_reducible assumption) | assumption); have q172 : a1 < (l0_2.length : Int) := of_decide_eq_true (by first | (with_reducible assumption) | assumption); obtain ⟨ad172, e172, hx172_0⟩ := Kd.at_int (Kd.R_reads' HO0_2.out).2.2 a1 p172 q172
      cases e172
      replace p172 := eq_true p172; replace q172 := eq_true q172; refine start_ (n := 10) (S := fun w' => w'.cell? ⟨gb171, 0, none⟩ = some (.int .i32 a0_0) ∧ w'.cell? ⟨gb171, 1, none⟩ = some (.slice Ao13 l0_1.length co13) ∧ w'.cell? ⟨gb171, 2, none⟩ = some (.slice (some ad172) l0_2.length co14) ∧ w'.cell? (ad172.add (a1).toNat) = some (.int .i32 (rd l0_2 a1))) (ds := []) #[f_, f_, f_, f_, f_, f_, f_, f_, f_, f_] (by kernel_rfl) rfl rfl ⟨(blk_cell BK171.out 0).trans rfl, (blk_cell BK171.out 1).trans rfl, (blk_cell BK171.out 2).trans rfl, hx172_0⟩ (fun hHeld => ?_); refine with_tabW adapt_change.tab1 adapt_change.bits1 (fun HT_ HW_ => ?_)
      generalize w15.drew = w16 at HO0_1 HO0_2 BK171 HK HB hx172_0 hHeld ⊢
      refine pure_ (i := 0) (N := some 10) (v := ?_) (a' := ?_) #[t_, f_, f_, f_, f_, f_, f_, f_, f_, f_] rfl rfl (any_of HT_.out (by kernel_rfl)) (fun _ _ _ h => h) (Or.inl ⟨by rfl, ?_⟩) ?_ ?_; rotate_left
      ·
       intro w'; go_simp
       with_reducible rfl
      rotate_left
      ·
       simp only [Act.put, sA_, sZ_, sS_, i64_w, i32_w]; rfl
      refine pure_ (i := 2) (N := some 12) (v := ?_) (a' := ?_) #[t_, f_, t_, f_, f_, f_, f_, f_, f_, f_] rfl rfl (any_of HT_.out (by kernel_rfl)) (fun _ _ _ h => h) (Or.inl ⟨by rfl, ?_⟩) ?_ ?_; rotate_left
      ·
       intro w'; go_simp
       with_reducible rfl
      rotate_left
      ·
       simp only [Act.put, sA_, sZ_, sS_, i64_w, i32_w]; rfl
      refine pure_ (i := 6) (N := some 16) (v := ?_) (a' := ?_) #[t_, f_, t_, f_, f_, f_, t_, f_, f_, f_] rfl rfl (any_of HT_.out (by kernel_rfl)) (fun _ _ _ h => h) (Or.inl ⟨by rfl, ?_⟩) ?_ ?_; rotate_left
      ·
       intro w'; go_simp
       with_reducible rfl
      rotate_left
      ·
       simp only [Act.put, sA_, sZ_, sS_, i64_w, i32_w]; rfl
      refine take_ (i := 1) (N := some 11) (v := ?_) (a' := ?_) #[t_, t_, t_, f_, f_, f_, t_, f_, f_, f_] rfl rfl (take_ofW HT_.out HW_.out (by kernel_rfl)) (fun _ _ _ h => h) (Or.inl ⟨by rfl, ?_⟩) hHeld ?_ ?_; rotate_left
      ·
       rintro w' ⟨s0, s1, s2, s3⟩
       go_simp
       with_reducible rfl
      rotate_left
      ·
       simp only [Act.put, sA_, sZ_, sS_, i64_w, i32_w]; rfl
      refine pure_ (i := 3) (N := some 13) (v := ?_) (a' := ?_) #[t_, t_, t_, t_, f_, f_, t_, f_, f_, f_] rfl rfl (any_of HT_.out (by kernel_rfl)) (fun _ _ _ h => h) (Or.inl ⟨by rfl, ?_⟩) ?_ ?_; rotate_left
      ·
       intro w'; go_simp
       with_reducible rfl
      rotate_left
      ·
       simp only [Act.put, sA_, sZ_, sS_, i64_w, i32_w]; rfl
      refine take_ (i := 4) (N := some 14) (v := ?_) (a' := ?_) #[t_, t_, t_, t_, t_, f_, t_, f_, f_, f_] rfl rfl (take_ofW HT_.out HW_.out (by kernel_rfl)) (fun _ _ _ h => h) (Or.inl ⟨by rfl, ?_⟩) hHeld ?_ ?_; rotate_left
      ·
       rintro w' ⟨s0, s1, s2, s3⟩
       go_simp
       with_reducible rfl
      rotate_left
      ·
       simp only [Act.put, sA_, sZ_, sS_, i64_w, i32_w]; rfl
      refine pure_ (i := 5) (N := some 15) (v := ?_) (a' := ?_) #[t_, t_, t_, t_, t_, t_, t_, f_, f_, f_] rfl rfl (any_of HT_.out (by kernel_rfl)) (fun _ _ _ h => h) (Or.inl ⟨by rfl, ?_⟩) ?_ ?_; rotate_left
      ·
       intro w'; go_simp
       with_reducible rfl
      rotate_left
      ·
       simp only [Act.put, sA_, sZ_, sS_, i64_w, i32_w]; rfl
      refine take_ (i := 7) (N := some 17) (v := ?_) (a' := ?_) #[t_, t_, t_, t_, t_, t_, t_, t_, f_, f_] rfl rfl (take_ofW HT_.out HW_.out (by kernel_rfl)) (fun _ _ _ h => h) (Or.inl ⟨by rfl, ?_⟩) hHeld ?_ ?_; rotate_left
      ·
       rintro w' ⟨s0, s1, s2, s3⟩
       go_simp
       with_reducible rfl
      rotate_left
      ·
       simp only [Act.put, sA_, sZ_, sS_, i64_w, i32_w]; rfl
      refine pure_ (i := 8) (N := some 18) (v := ?_) (a' := ?_) #[t_, t_, t_, t_, t_, t_, t_, t_, t_, f_] rfl rfl (any_of HT_.out (by kernel_rfl)) (fun _ _ _ h => h) (Or.inl ⟨by rfl, ?_⟩) ?_ ?_; rotate_left
      ·
       intro w'; go_simp
       with_reducible rfl
      rotate_left
      ·
       simp only [Act.put, sA_, sZ_, sS_, i64_w, i32_w]; rfl
      refine pure_ (i := 9) (N := some 7) (v := ?_) (a' := ?_) #[t_, t_, t_, t_, t_, t_, t_, t_, t_, t_] rfl rfl (any_of HT_.out (by kernel_rfl)) (fun _ _ _ h => h) (Or.inl ⟨by rfl, ?_⟩) ?_ ?_; rotate_left
      ·
       intro w'; go_simp
       with_reducible rfl
      rotate_left
      ·
       simp only [Act.put, sA_, sZ_, sS_, i64_w, i32_w]; rfl
      refine done_ (done_of HT_.out (by kernel_rfl)) ?_
      try go_wp2
      have n0_ := Aside0.mk (Kd.R_drew HO0_1.out); have n1_ := Aside0.mk (Kd.R_drew HO0_2.out); have n2_ := Aside0.mk (blk_drew BK171.out); have n3_ := Aside0.mk (Kept.drew HK.out); have n4_ := Aside0.mk (below_drew1 HB.out); clear HO0_1; clear HO0_2; clear BK171; clear HK; clear HB; have HO0_1 := n0_; have HO0_2 := n1_; have BK171 := n2_; have HK := n3_; have HB := n4_; clear n0_ n1_ n2_ n3_ n4_; have p173 : 0 ≤ (a1 : Int) := of_decide_eq_true (by first | (with_reducible assumption) | assumption); have q173 : a1 < (l0_1.length : Int) := of_decide_eq_true (by first | (with_reducible assumption) | assumption); obtain ⟨ad173, e173, hx173_0⟩ := Kd.at_int (Kd.R_reads' HO0_1.out).2.2 a1 p173 q173
      cases e173
      replace p173 := eq_true p173; replace q173 := eq_true q173; have hsg18 : w0.cell? ⟨0, (a2 : Int).toNat, none⟩ = some (.int .i32 (rd tgRow a2)) := tabAt_ hT a2 (of_decide_eq_true (by first | (with_reducible assumption) | assumption)) (of_decide_eq_true (by first | (with_reducible assumption) | assumption)); have pa18 : 0 ≤ (a2 : Int) := of_decide_eq_true (by first | (with_reducible assumption) | assumption); have qa18 : (a2 : Int) < 2 := of_decide_eq_true (by first | (with_reducible assumption) | assumption); replace pa18 := eq_true pa18; replace qa18 := eq_true qa18; refine start_ (n := 16) (S := fun w' => w'.cell? ⟨gb171, 0, none⟩ = some (.int .i32 a0_0) ∧ w'.cell? ⟨gb171, 1, none⟩ = some (.slice (some ad173) l0_1.length co13) ∧ w'.cell? ⟨gb171, 2, none⟩ = some (.slice (some ad172) l0_2.length co14) ∧ w'.cell? (ad173.add (a1).toNat) = some (.int .i32 (rd l0_1 a1)) ∧ w'.cell? ⟨0, (a2 : Int).toNat, none⟩ = some (.int .i32 (rd tgRow a2))) (ds := []) #[f_, f_, f_, f_, f_, f_, f_, f_, f_, f_, f_, f_, f_, f_, f_, f_] (by kernel_rfl) rfl rfl ⟨(blk_cell BK171.out 0).trans rfl, (blk_cell BK171.out 1).trans rfl, (blk_cell BK171.out 2).trans rfl, hx173_0, ((HB.out.cell (World.block_lt_of_cell? w0 _ hsg18)).trans hsg18)⟩ (fun hHeld => ?_); refine with_tabW adapt_change.tab2 adapt_change.bits2 (fun HT_ HW_ => ?_)
      generalize w16.drew = w17 at HO0_1 HO0_2 BK171 HK HB hx173_0 hHeld ⊢
      refine pure_ (i := 0) (N := some 20) (v := ?_) (a' := ?_) #[t_, f_, f_, f_, f_, f_, f_, f_, f_, f_, f_, f_, f_, f_, f_, f_] rfl rfl (any_of HT_.out (by kernel_rfl)) (fun _ _ _ h => h) (Or.inl ⟨by rfl, ?_⟩) ?_ ?_; rotate_left
      ·
       intro w'; go_simp
       with_reducible rfl
      rotate_left
      ·
       simp only [Act.put, sA_, sZ_, sS_, i64_w, i32_w]; rfl
      refine pure_ (i := 2) (N := some 22) (v := ?_) (a' := ?_) #[t_, f_, t_, f_, f_, f_, f_, f_, f_, f_, f_, f_, f_, f_, f_, f_] rfl rfl (any_of HT_.out (by kernel_rfl)) (fun _ _ _ h => h) (Or.inl ⟨by rfl, ?_⟩) ?_ ?_; rotate_left
      ·
       intro w'; go_simp
       with_reducible rfl
      rotate_left
      ·
       simp only [Act.put, sA_, sZ_, sS_, i64_w, i32_w]; rfl
      refine pure_ (i := 5) (N := some 25) (v := ?_) (a' := ?_) #[t_, f_, t_, f_, f_, t_, f_, f_, f_, f_, f_, f_, f_, f_, f_, f_] rfl rfl (any_of HT_.out (by kernel_rfl)) (fun _ _ _ h => h) (Or.inl ⟨by rfl, ?_⟩) ?_ ?_; rotate_left
      ·
       intro w'; go_simp
       with_reducible rfl
      rotate_left
      ·
       simp only [Act.put, sA_, sZ_, sS_, i64_w, i32_w]; rfl
      refine pure_ (i := 6) (N := some 26) (v := ?_) (a' := ?_) #[t_, f_, t_, f_, f_, t_, t_, f_, f_, f_, f_, f_, f_, f_, f_, f_] rfl rfl (any_of HT_.out (by kernel_rfl)) (fun _ _ _ h => h) (Or.inl ⟨by rfl, ?_⟩) ?_ ?_; rotate_left
      ·
       intro w'; go_simp
       with_reducible rfl
      rotate_left
      ·
       simp only [Act.put, sA_, sZ_, sS_, i64_w, i32_w]; rfl
      refine pure_ (i := 8) (N := some 28) (v := ?_) (a' := ?_) #[t_, f_, t_, f_, f_, t_, t_, f_, t_, f_, f_, f_, f_, f_, f_, f_] rfl rfl (any_of HT_.out (by kernel_rfl)) (fun _ _ _ h => h) (Or.inl ⟨by rfl, ?_⟩) ?_ ?_; rotate_left
      ·
       intro w'; go_simp
       with_reducible rfl
      rotate_left
      ·
       simp only [Act.put, sA_, sZ_, sS_, i64_w, i32_w]; rfl
      refine pure_ (i := 9) (N := some 29) (v := ?_) (a' := ?_) #[t_, f_, t_, f_, f_, t_, t_, f_, t_, t_, f_, f_, f_, f_, f_, f_] rfl rfl (any_of HT_.out (by kernel_rfl)) (fun _ _ _ h => h) (Or.inl ⟨by rfl, ?_⟩) ?_ ?_; rotate_left
      ·
       intro w'; go_simp
       with_reducible rfl
      rotate_left
      ·
       simp only [Act.put, sA_, sZ_, sS_, i64_w, i32_w]; rfl
      refine take_ (i := 1) (N := some 21) (v := ?_) (a' := ?_) #[t_, t_, t_, f_, f_, t_, t_, f_, t_, t_, f_, f_, f_, f_, f_, f_] rfl rfl (take_ofW HT_.out HW_.out (by kernel_rfl)) (fun _ _ _ h => h) (Or.inl ⟨by rfl, ?_⟩) hHeld ?_ ?_; rotate_left
      ·
       rintro w' ⟨s0, s1, s2, s3, s4⟩
       go_simp
       with_reducible rfl
      rotate_left
      ·
       simp only [Act.put, sA_, sZ_, sS_, i64_w, i32_w]; rfl
      refine pure_ (i := 3) (N := some 23) (v := ?_) (a' := ?_) #[t_, t_, t_, t_, f_, t_, t_, f_, t_, t_, f_, f_, f_, f_, f_, f_] rfl rfl (any_of HT_.out (by kernel_rfl)) (fun _ _ _ h => h) (Or.inl ⟨by rfl, ?_⟩) ?_ ?_; rotate_left
      ·
       intro w'; go_simp
       with_reducible rfl
      rotate_left
      ·
       simp only [Act.put, sA_, sZ_, sS_, i64_w, i32_w]; rfl
      refine take_ (i := 4) (N := some 24) (v := ?_) (a' := ?_) #[t_, t_, t_, t_, t_, t_, t_, f_, t_, t_, f_, f_, f_, f_, f_, f_] rfl rfl (take_ofW HT_.out HW_.out (by kernel_rfl)) (fun _ _ _ h => h) (Or.inl ⟨by rfl, ?_⟩) hHeld ?_ ?_; rotate_left
      ·
       rintro w' ⟨s0, s1, s2, s3, s4⟩
       go_simp
       with_reducible rfl
      rotate_left
      ·
       simp only [Act.put, sA_, sZ_, sS_, i64_w, i32_w]; rfl
      refine take_ (i := 7) (N := some 27) (v := ?_) (a' := ?_) #[t_, t_, t_, t_, t_, t_, t_, t_, t_, t_, f_, f_, f_, f_, f_, f_] rfl rfl (take_ofW HT_.out HW_.out (by kernel_rfl)) (fun _ _ _ h => h) (Or.inl ⟨by rfl, ?_⟩) hHeld ?_ ?_; rotate_left
      ·
       rintro w' ⟨s0, s1, s2, s3, s4⟩
       go_simp
       with_reducible rfl
      rotate_left
      ·
       simp only [Act.put, sA_, sZ_, sS_, i64_w, i32_w]; rfl
      refine one_ (i := 10) (N := some 30) #[t_, t_, t_, t_, t_, t_, t_, t_, t_, t_, t_, f_, f_, f_, f_, f_] rfl rfl (one_of HT_.out (by kernel_rfl)) (by decide) (fun K hK => ?_); refine goes_ Tryd.func49 (by kernel_rfl) rfl #[.int .i32 (rd l0_1 a1), .int .i32 (rd tgRow a2), .int .i32 (wrap32 ((ji6) + 1))] (by rfl) rfl rfl (by (try simp only [List.map_toArray, List.map_cons, List.map_nil]); first | done | (simp only [hji6]; rfl) | rfl | (simp only [List.length_drop, List.length_take]; rfl)) ?_
      with_reducible refine (recip_Step.calls k (rd l0_1 a1) (rd tgRow a2) (wrap32 ((ji6) + 1)) t174 t175 _ A10.out).mono ?_
      rintro e w19 ⟨rfl, hb⟩
      have HS3_ := (hb.cell (World.block_lt_of_cell? _ _ (hHeld.2.2.2.1))).trans (hHeld.2.2.2.1); refine ⟨_, rfl, ?_⟩; have n0_ := Aside0.mk (Kd.R_below (pL_ HO0_1.out) hb); have n1_ := Aside0.mk (Kd.R_below (pL_ HO0_2.out) hb); have n2_ := Aside0.mk (blk_below (pG_ BK171.out) hb); have n3_ := Aside0.mk (Kept.below (S := (fun k_ => P0_1_ k_ ∨ P0_2_ k_)) (by repeat (first | (with_reducible first | exact HK.out | apply Kept.alloc | apply Kept.drewN | apply Kept.drew | refine Kept.setCell ?_ (.inr GW171.out) _) | exact HK.out)) hb); have n4_ := Aside0.mk (below_step (pH_ HB.out) hb); clear HO0_1; clear HO0_2; clear BK171; clear HK; clear HB; have HO0_1 := n0_; have HO0_2 := n1_; have BK171 := n2_; have HK := n3_; have HB := n4_; clear n0_ n1_ n2_ n3_ n4_; (try clear hb); (try clear hb2); (try clear hk); (try clear hi); refine hK.out _ _ ⟨(blk_cell BK171.out 0).trans rfl, (blk_cell BK171.out 1).trans rfl, (blk_cell BK171.out 2).trans rfl, HS3_, ((HB.out.cell (World.block_lt_of_cell? w0 _ hsg18)).trans hsg18)⟩ (fun hHeld => ?_); clear hK K; refine norm_ (a' := ?_) ?_ ?_; rotate_left
      ·
       show Act.put _ (some 30) _ = _
       simp only [Act.put, sA_, sZ_, sS_, i64_w, i32_w]; rfl
      refine pure_ (i := 11) (N := some 19) (v := ?_) (a' := ?_) #[t_, t_, t_, t_, t_, t_, t_, t_, t_, t_, t_, t_, f_, f_, f_, f_] rfl rfl (any_of HT_.out (by kernel_rfl)) (fun _ _ _ h => h) (Or.inl ⟨by rfl, ?_⟩) ?_ ?_; rotate_left
      ·
       intro w'; go_simp
       with_reducible rfl
      rotate_left
      ·
       simp only [Act.put, sA_, sZ_, sS_, i64_w, i32_w]; rfl
      refine pure_ (i := 12) (N := some 31) (v := ?_) (a' := ?_) #[t_, t_, t_, t_, t_, t_, t_, t_, t_, t_, t_, t_, t_, f_, f_, f_] rfl rfl (any_of HT_.out (by kernel_rfl)) (fun _ _ _ h => h) (Or.inl ⟨by rfl, ?_⟩) ?_ ?_; rotate_left
      ·
       intro w'; go_simp
       with_reducible rfl
      rotate_left
      ·
       simp only [Act.put, sA_, sZ_, sS_, i64_w, i32_w]; rfl
      refine pure_ (i := 13) (N := some 32) (v := ?_) (a' := ?_) #[t_, t_, t_, t_, t_, t_, t_, t_, t_, t_, t_, t_, t_, t_, f_, f_] rfl rfl (any_of HT_.out (by kernel_rfl)) (fun _ _ _ h => h) (Or.inl ⟨by rfl, ?_⟩) ?_ ?_; rotate_left
      ·
       intro w'; go_simp
       with_reducible rfl
      rotate_left
      ·
       simp only [Act.put, sA_, sZ_, sS_, i64_w, i32_w]; rfl
      refine pure_ (i := 14) (N := some 8) (v := ?_) (a' := ?_) #[t_, t_, t_, t_, t_, t_, t_, t_, t_, t_, t_, t_, t_, t_, t_, f_] rfl rfl (any_of HT_.out (by kernel_rfl)) (fun _ _ _ h => h) (Or.inl ⟨by rfl, ?_⟩) ?_ ?_; rotate_left
      ·
       intro w'; go_simp
       with_reducible rfl
      rotate_left
      ·
       simp only [Act.put, sA_, sZ_, sS_, i64_w, i32_w]; rfl
      refine pure_ (i := 15) (N := some 9) (v := ?_) (a' := ?_) #[t_, t_, t_, t_, t_, t_, t_, t_, t_, t_, t_, t_, t_, t_, t_, t_] rfl rfl (any_of HT_.out (by kernel_rfl)) (fun _ _ _ h => h) (Or.inl ⟨by rfl, ?_⟩) ?_ ?_; rotate_left
      ·
       intro w'; go_simp
       with_reducible rfl
      rotate_left
      ·
       simp only [Act.put, sA_, sZ_, sS_, i64_w, i32_w]; rfl
      refine done_ (done_of HT_.out (by kernel_rfl)) ?_
      try go_wp2
      have n0_ := Aside0.mk (Kd.R_drew HO0_1.out); have n1_ := Aside0.mk (Kd.R_drew HO0_2.out); have n2_ := Aside0.mk (blk_drew BK171.out); have n3_ := Aside0.mk (Kept.drew HK.out); have n4_ := Aside0.mk (below_drew1 HB.out); clear HO0_1; clear HO0_2; clear BK171; clear HK; clear HB; have HO0_1 := n0_; have HO0_2 := n1_; have BK171 := n2_; have HK := n3_; have HB := n4_; clear n0_ n1_ n2_ n3_ n4_; have p11 : 0 ≤ (a1 : Int) := of_decide_eq_true (by first | (with_reducible assumption) | assumption); have q11 : (a1 : Int) < ((l0_1.length : Int) : Int) := of_decide_eq_true (by first | (with_reducible assumption) | assumption); obtain ⟨go11, co11, eo11, gb11, gl11, cl11, HG11⟩ := Kd.R_form HO0_1.out (by omega); (first | cases eo11 | (injection eo11 with ea_ en_ ec_; (first | subst ea_ | (injection ea_ with ea_; subst ea_)); subst ec_; clear en_)); have GB11 := Aside0.mk gb11; have GG11 := Aside0.mk HG11; clear gb11 gl11 HG11; have HMgo11 := Aside0.mk (show ((P0_1_ go11 ∨ P0_2_ go11) ∨ w.heap.size ≤ go11) from (HO0_1.out.1 _ rfl).1); (first | simp only [add_plain] at hx173_0 | skip); obtain ⟨hx11_0, hf11_0⟩ := Kd.R_celln 0 HO0_1.out (a1 : Int) p11 q11; replace p11 := eq_true p11; replace q11 := eq_true q11; have HP21 := Kd.R_putn HO0_1.out (a1 : Int) t174; rw [← Ny176.out] at HP21; have HQ21 := Aside0.mk HP21; clear HP21; have p12 : 0 ≤ (a1 : Int) := of_decide_eq_true (by first | (with_reducible assumption) | assumption); have q12 : (a1 : Int) < ((l0_2.length : Int) : Int) := of_decide_eq_true (by first | (with_reducible assumption) | assumption); obtain ⟨go12, co12, eo12, gb12, gl12, cl12, HG12⟩ := Kd.R_form HO0_2.out (by omega); (first | cases eo12 | (injection eo12 with ea_ en_ ec_; (first | subst ea_ | (injection ea_ with ea_; subst ea_)); subst ec_; clear en_)); have GB12 := Aside0.mk gb12; have GG12 := Aside0.mk HG12; clear gb12 gl12 HG12; have HMgo12 := Aside0.mk (show ((P0_1_ go12 ∨ P0_2_ go12) ∨ w.heap.size ≤ go12) from (HO0_2.out.1 _ rfl).1); (first | simp only [add_plain] at hx172_0 | skip); obtain ⟨hx12_0, hf12_0⟩ := Kd.R_celln 0 (Kd.R_far (p := ⟨go11, (a1 : Int).toNat, none⟩) (Kd.R_mono HO0_2.out (fun k_ hk => (⟨hk, fun e_ => hk.2 (by rw [e_]; rfl)⟩ : _ ∧ k_ ≠ go11))) (fun _ hk => hk.2) (.int .i32 t174)) (a1 : Int) p12 q12; replace p12 := eq_true p12; replace q12 := eq_true q12; have HP22 := Kd.R_putn (Kd.R_far (p := ⟨go11, (a1 : Int).toNat, none⟩) (Kd.R_mono HO0_2.out (fun k_ hk => (⟨hk, fun e_ => hk.2 (by rw [e_]; rfl)⟩ : _ ∧ k_ ≠ go11))) (fun _ hk => hk.2) (.int .i32 t174)) (a1 : Int) ji6; rw [← Ny177.out] at HP22; have HQ22 := Aside0.mk HP22; clear HP22; refine start_ (n := 12) (S := fun w' => w'.cell? ⟨gb171, 0, none⟩ = some (.int .i32 a0_0) ∧ w'.cell? ⟨gb171, 1, none⟩ = some (.slice (some ⟨go11, 0, none⟩) l0_1.length co13) ∧ w'.cell? ⟨gb171, 2, none⟩ = some (.slice (some ⟨go12, 0, none⟩) l0_2.length co14)) (ds := []) #[f_, f_, f_, f_, f_, f_, f_, f_, f_, f_, f_, f_] (by kernel_rfl) rfl rfl ⟨(blk_cell BK171.out 0).trans rfl, (blk_cell BK171.out 1).trans rfl, (blk_cell BK171.out 2).trans rfl⟩ (fun hHeld => ?_); refine with_tabW adapt_change.tab3 adapt_change.bits3 (fun HT_ HW_ => ?_)
      generalize w19.drew = w20 at HO0_1 HO0_2 BK171 HK HB GG11 GG12 HQ21 HQ22 hf11_0 hf12_0 hx11_0 hx12_0 hx172_0 hx173_0 hHeld ⊢
      refine pure_ (i := 0) (N := some 33) (v := ?_) (a' := ?_) #[t_, f_, f_, f_, f_, f_, f_, f_, f_, f_, f_, f_] rfl rfl (any_of HT_.out (by kernel_rfl)) (fun _ _ _ h => h) (Or.inl ⟨by rfl, ?_⟩) ?_ ?_; rotate_left
      ·
       intro w'; go_simp
       with_reducible rfl
      rotate_left
      ·
       simp only [Act.put, sA_, sZ_, sS_, i64_w, i32_w]; rfl
      refine pure_ (i := 2) (N := some 35) (v := ?_) (a' := ?_) #[t_, f_, t_, f_, f_, f_, f_, f_, f_, f_, f_, f_] rfl rfl (any_of HT_.out (by kernel_rfl)) (fun _ _ _ h => h) (Or.inl ⟨by rfl, ?_⟩) ?_ ?_; rotate_left
      ·
       intro w'; go_simp
       with_reducible rfl
      rotate_left
      ·
       simp only [Act.put, sA_, sZ_, sS_, i64_w, i32_w]; rfl
      refine pure_ (i := 3) (N := some 36) (v := ?_) (a' := ?_) #[t_, f_, t_, t_, f_, f_, f_, f_, f_, f_, f_, f_] rfl rfl (any_of HT_.out (by kernel_rfl)) (fun _ _ _ h => h) (Or.inl ⟨by rfl, ?_⟩) ?_ ?_; rotate_left
      ·
       intro w'; go_simp
       with_reducible rfl
      rotate_left
      ·
       simp only [Act.put, sA_, sZ_, sS_, i64_w, i32_w]; rfl
      refine pure_ (i := 5) (N := some 38) (v := ?_) (a' := ?_) #[t_, f_, t_, t_, f_, t_, f_, f_, f_, f_, f_, f_] rfl rfl (any_of HT_.out (by kernel_rfl)) (fun _ _ _ h => h) (Or.inl ⟨by rfl, ?_⟩) ?_ ?_; rotate_left
      ·
       intro w'; go_simp
       with_reducible rfl
      rotate_left
      ·
       simp only [Act.put, sA_, sZ_, sS_, i64_w, i32_w]; rfl
      refine pure_ (i := 6) (N := some 39) (v := ?_) (a' := ?_) #[t_, f_, t_, t_, f_, t_, t_, f_, f_, f_, f_, f_] rfl rfl (any_of HT_.out (by kernel_rfl)) (fun _ _ _ h => h) (Or.inl ⟨by rfl, ?_⟩) ?_ ?_; rotate_left
      ·
       intro w'; go_simp
       with_reducible rfl
      rotate_left
      ·
       simp only [Act.put, sA_, sZ_, sS_, i64_w, i32_w]; rfl
      refine pure_ (i := 7) (N := some 40) (v := ?_) (a' := ?_) #[t_, f_, t_, t_, f_, t_, t_, t_, f_, f_, f_, f_] rfl rfl (any_of HT_.out (by kernel_rfl)) (fun _ _ _ h => h) (Or.inl ⟨by rfl, ?_⟩) ?_ ?_; rotate_left
      ·
       intro w'; go_simp
       with_reducible rfl
      rotate_left
      ·
       simp only [Act.put, sA_, sZ_, sS_, i64_w, i32_w]; rfl
      refine take_ (i := 1) (N := some 34) (v := ?_) (a' := ?_) #[t_, t_, t_, t_, f_, t_, t_, t_, f_, f_, f_, f_] rfl rfl (take_ofW HT_.out HW_.out (by kernel_rfl)) (fun _ _ _ h => h) (Or.inl ⟨by rfl, ?_⟩) hHeld ?_ ?_; rotate_left
      ·
       rintro w' ⟨s0, s1, s2⟩
       go_simp
       with_reducible rfl
      rotate_left
      ·
       simp only [Act.put, sA_, sZ_, sS_, i64_w, i32_w]; rfl
      refine pure_ (i := 8) (N := some 41) (v := ?_) (a' := ?_) #[t_, t_, t_, t_, f_, t_, t_, t_, t_, f_, f_, f_] rfl rfl (any_of HT_.out (by kernel_rfl)) (fun _ _ _ h => h) (Or.inl ⟨by rfl, ?_⟩) ?_ ?_; rotate_left
      ·
       intro w'; go_simp
       with_reducible rfl
      rotate_left
      ·
       simp only [Act.put, sA_, sZ_, sS_, i64_w, i32_w]; rfl
      refine take_ (i := 4) (N := some 37) (v := ?_) (a' := ?_) #[t_, t_, t_, t_, t_, t_, t_, t_, t_, f_, f_, f_] rfl rfl (take_ofW HT_.out HW_.out (by kernel_rfl)) (fun _ _ _ h => h) (Or.inl ⟨by rfl, ?_⟩) hHeld ?_ ?_; rotate_left
      ·
       rintro w' ⟨s0, s1, s2⟩
       go_simp
       with_reducible rfl
      rotate_left
      ·
       simp only [Act.put, sA_, sZ_, sS_, i64_w, i32_w]; rfl
      refine one_ (i := 9) (N := none) #[t_, t_, t_, t_, t_, t_, t_, t_, t_, t_, f_, f_] rfl rfl (one_of HT_.out (by kernel_rfl)) (by decide) (fun K hK => ?_); refine skip_ (w1 := ?_) (by rfl) rfl ?_ ?_; rotate_left
      ·
       go_simp; rfl
      refine hK.out _ _ ⟨((cell_far (p := ⟨go11, _, none⟩) (fun e_ => Kd.R_ne HO0_1.out BK171.out (by decide) (congrArg some e_)) _).trans (hHeld.1)), ((cell_far (p := ⟨go11, _, none⟩) (fun e_ => Kd.R_ne HO0_1.out BK171.out (by decide) (congrArg some e_)) _).trans (hHeld.2.1)), ((cell_far (p := ⟨go11, _, none⟩) (fun e_ => Kd.R_ne HO0_1.out BK171.out (by decide) (congrArg some e_)) _).trans (hHeld.2.2))⟩ (fun hHeld => ?_); clear hK K; refine pure_ (i := 10) (N := some 42) (v := ?_) (a' := ?_) #[t_, t_, t_, t_, t_, t_, t_, t_, t_, t_, t_, f_] rfl rfl (any_of HT_.out (by kernel_rfl)) (fun _ _ _ h => h) (Or.inl ⟨by rfl, ?_⟩) ?_ ?_; rotate_left
      ·
       intro w'; go_simp
       with_reducible rfl
      rotate_left
      ·
       simp only [Act.put, sA_, sZ_, sS_, i64_w, i32_w]; rfl
      refine one_ (i := 11) (N := none) #[t_, t_, t_, t_, t_, t_, t_, t_, t_, t_, t_, t_] rfl rfl (one_of HT_.out (by kernel_rfl)) (by decide) (fun K hK => ?_); refine skip_ (w1 := ?_) (by rfl) rfl ?_ ?_; rotate_left
      ·
       go_simp; rfl
      refine hK.out _ _ ⟨((cell_far (p := ⟨go12, _, none⟩) (fun e_ => Kd.R_ne HO0_2.out BK171.out (by decide) (congrArg some e_)) _).trans (hHeld.1)), ((cell_far (p := ⟨go12, _, none⟩) (fun e_ => Kd.R_ne HO0_2.out BK171.out (by decide) (congrArg some e_)) _).trans (hHeld.2.1)), ((cell_far (p := ⟨go12, _, none⟩) (fun e_ => Kd.R_ne HO0_2.out BK171.out (by decide) (congrArg some e_)) _).trans (hHeld.2.2))⟩ (fun hHeld => ?_); clear hK K; refine done_ (done_of HT_.out (by kernel_rfl)) ?_
      try go_wp2
      go_ret
      exact ⟨by first | rfl | (simp [errW_none, errW_some] <;> rfl) | (simp only [← hji6]; first | rfl | (simp [errW_none, errW_some] <;> rfl)) | (simp [*, errW_none, errW_some] <;> rfl), by (with_reducible repeat (first | apply rA_ | apply rN_ | apply rD_)); exact Kd.R_mono (Kd.R_far (p := ⟨go12, (a1 : Int).toNat, none⟩) (Kd.R_mono HQ21.out (fun k_ hk => (⟨hk, fun e_ => hk.2 (by rw [e_]; rfl)⟩ : _ ∧ k_ ≠ go12))) (fun _ hk => hk.2) (.int .i32 ji6)) (fun _ hk => hk.1.1), by (with_reducible repeat (first | apply rA_ | apply rN_ | apply rD_)); exact Kd.R_mono HQ22.out (fun _ hk => hk.1.1), by repeat (first | (with_reducible first | exact HB.out | apply below_alloc | apply bN_ | apply below_drew1 | refine below_set ?_ GB11.out | refine below_set ?_ GB12.out | refine below_set ?_ GE171.out) | exact HB.out), by repeat (first | (with_reducible first | exact HK.out | apply Kept.alloc | apply Kept.drewN | apply Kept.drew | refine Kept.setCell ?_ HMgo11.out _ | refine Kept.setCell ?_ HMgo12.out _ | refine Kept.setCell ?_ (.inr GW171.out) _) | exact HK.out)⟩
     ·
      rw [if_neg c9] at H; exact absurd H (by simp)
    ·
     rw [if_neg c8] at H; exact absurd H (by simp)
   ·
    rw [if_neg c7] at H; exact absurd H (by simp)
  ·
   rw [if_neg c5] at H; exact absurd H (by simp)
 ·
  rw [if_neg c4] at H; exact absurd H (by simp)

/-! ### adapt_Run: function 24 -/
mutual
def adapt_Run.j0 : Nat → Int → List Int → Int → List Int → List Int → Option (Int × List Int × List Int × Int × Int)
 | 0, _, _, _, _, _ => none
 | k + 1, x1, x2, x179000, x179001, x179002 => (adapt_twin.f x179000 x179001 x179002).bind fun bt182 => (adapt_Run.l0 k x1 x2 (x2.length : Int) 0 bt182.1 bt182.2.1 bt182.2.2)
def adapt_Run.l0 : Nat → Int → List Int → Int → Int → Int → List Int → List Int → Option (Int × List Int × List Int × Int × Int)
 | 0, _, _, _, _, _, _, _ => none
 | k + 1, x1, x39, x40, x41, x190000, x190001, x190002 => if x41 < x40 then (if 0 ≤ x41 then (if x41 < (x39.length : Int) then ((adapt_change.f k x190000 x190001 x190002 x1 (rd x39 x41)).bind fun bt191 => (if bt191.1 = 0 then ((states_Next.f k x1 (rd x39 x41)).bind fun bt194 => (adapt_Run.l0 k bt194.1 x39 x40 (wrap64 (x41 + 1)) x190000 bt191.2.1 bt191.2.2)) else (some (0, ([] : List Int), ([] : List Int), 0, bt191.1)))) else (none)) else (none)) else (some (x190000, x190001, x190002, x1, 0))
end
def adapt_Run.f (k : Nat) (a0_0 : Int) (l0_1 : List Int) (l0_2 : List Int) (a1 : Int) (l2 : List Int) : Option (Int × List Int × List Int × Int × Int) := (adapt_at.f k a0_0 l0_1 l0_2 a1).bind fun t180 => (if t180 = 0 then (if (l2.length : Int) > 20000 then (some (0, ([] : List Int), ([] : List Int), 0, 4)) else (if (l2.length : Int) > 0 then ((slices_Max_uint8_uint8.f k l2).bind fun t181 => (if t181 > 1 then (some (0, ([] : List Int), ([] : List Int), 0, 2)) else (adapt_Run.j0 k a1 l2 a0_0 l0_1 l0_2))) else (adapt_Run.j0 k a1 l2 a0_0 l0_1 l0_2))) else (some (0, ([] : List Int), ([] : List Int), 0, t180)))
theorem adapt_Run.mono_l : ∀ k, (∀ y0 y1 y2 y3 y4, LeO (adapt_Run.j0 k y0 y1 y2 y3 y4) (adapt_Run.j0 (k + 1) y0 y1 y2 y3 y4)) ∧ (∀ y0 y1 y2 y3 y4 y5 y6, LeO (adapt_Run.l0 k y0 y1 y2 y3 y4 y5 y6) (adapt_Run.l0 (k + 1) y0 y1 y2 y3 y4 y5 y6))
 | 0 => ⟨fun _ _ _ _ _ r h => by simp [adapt_Run.j0] at h, fun _ _ _ _ _ _ _ r h => by simp [adapt_Run.l0] at h⟩
 | k + 1 => by
  obtain ⟨ih0, ih1⟩ := adapt_Run.mono_l k; refine ⟨?_, ?_⟩
  ·
   intro y0 y1 y2 y3 y4
   unfold adapt_Run.j0
   repeat' first
   | (with_reducible exact ih0 _ _ _ _ _)
   | (with_reducible exact ih1 _ _ _ _ _ _ _)
   | (with_reducible exact adapt_at.mono _ _ _ _ _)
   | (with_reducible exact adapt_change.mono _ _ _ _ _ _)
   | (with_reducible exact slices_Max_uint8_uint8.mono _ _)
   | (with_reducible exact states_Next.mono _ _ _)
   | (with_reducible exact LeO.refl _)
   | (with_reducible exact LeO.none _)
   | (with_reducible refine LeO.ite ?_ ?_)
   | (with_reducible refine LeO.bind ?_ (fun _ => ?_))
   | exact ih0 _ _ _ _ _
   | exact ih1 _ _ _ _ _ _ _
   | exact adapt_at.mono _ _ _ _ _
   | exact adapt_change.mono _ _ _ _ _ _
   | exact slices_Max_uint8_uint8.mono _ _
   | exact states_Next.mono _ _ _
   | exact LeO.none _
   | refine LeO.ite ?_ ?_
   | refine LeO.bind ?_ (fun _ => ?_)
  ·
   intro y0 y1 y2 y3 y4 y5 y6
   unfold adapt_Run.l0
   repeat' first
   | (with_reducible exact ih0 _ _ _ _ _)
   | (with_reducible exact ih1 _ _ _ _ _ _ _)
   | (with_reducible exact adapt_at.mono _ _ _ _ _)
   | (with_reducible exact adapt_change.mono _ _ _ _ _ _)
   | (with_reducible exact slices_Max_uint8_uint8.mono _ _)
   | (with_reducible exact states_Next.mono _ _ _)
   | (with_reducible exact LeO.refl _)
   | (with_reducible exact LeO.none _)
   | (with_reducible refine LeO.ite ?_ ?_)
   | (with_reducible refine LeO.bind ?_ (fun _ => ?_))
   | exact ih0 _ _ _ _ _
   | exact ih1 _ _ _ _ _ _ _
   | exact adapt_at.mono _ _ _ _ _
   | exact adapt_change.mono _ _ _ _ _ _
   | exact slices_Max_uint8_uint8.mono _ _
   | exact states_Next.mono _ _ _
   | exact LeO.none _
   | refine LeO.ite ?_ ?_
   | refine LeO.bind ?_ (fun _ => ?_)
theorem adapt_Run.mono : ∀ a0 a1 a2 a3 a4 k, LeO (adapt_Run.f k a0 a1 a2 a3 a4) (adapt_Run.f (k + 1) a0 a1 a2 a3 a4) := by
 intro a0 a1 a2 a3 a4 k; obtain ⟨ih0, ih1⟩ := adapt_Run.mono_l k
 unfold adapt_Run.f
 repeat' first
   | (with_reducible exact ih0 _ _ _ _ _)
   | (with_reducible exact ih1 _ _ _ _ _ _ _)
   | (with_reducible exact adapt_at.mono _ _ _ _ _)
   | (with_reducible exact adapt_change.mono _ _ _ _ _ _)
   | (with_reducible exact slices_Max_uint8_uint8.mono _ _)
   | (with_reducible exact states_Next.mono _ _ _)
   | (with_reducible exact LeO.refl _)
   | (with_reducible exact LeO.none _)
   | (with_reducible refine LeO.ite ?_ ?_)
   | (with_reducible refine LeO.bind ?_ (fun _ => ?_))
   | exact ih0 _ _ _ _ _
   | exact ih1 _ _ _ _ _ _ _
   | exact adapt_at.mono _ _ _ _ _
   | exact adapt_change.mono _ _ _ _ _ _
   | exact slices_Max_uint8_uint8.mono _ _
   | exact states_Next.mono _ _ _
   | exact LeO.none _
   | refine LeO.ite ?_ ?_
   | refine LeO.bind ?_ (fun _ => ?_)
set_option maxHeartbeats 8000000 in
set_option maxRecDepth 100000 in
theorem adapt_Run.calls (k : Nat) (a0_0 : Int) (A0_1 : Option Addr) (c0_1 : Nat) (l0_1 : List Int) (A0_2 : Option Addr) (c0_2 : Nat) (l0_2 : List Int) (a1 : Int) (A2 : Option Addr) (c2 : Nat) (l2 : List Int) (r1 : Int) (r2 : List Int) (r3 : List Int) (r4 : Int) (r5 : Int) (w : World) (hr0_1 : Kd.C (Kd.int .i32) w A0_1 l0_1.length l0_1) (hc0_1 : l0_1.length ≤ c0_1) (hr0_2 : Kd.C (Kd.int .i32) w A0_2 l0_2.length l0_2) (hc0_2 : l0_2.length ≤ c0_2) (hr2 : Kd.C (Kd.int .u8) w A2 l2.length l2) (hc2 : l2.length ≤ c2) (hT : Tab_ w) (h : adapt_Run.f k a0_0 l0_1 l0_2 a1 l2 = some (r1, r2, r3, r4, r5)) :
  Calls Tryd.prog 24 #[.agg #[.int .i32 a0_0, .slice A0_1 l0_1.length c0_1, .slice A0_2 l0_2.length c0_2], .int .u8 a1, .slice A2 l2.length c2] w fun e w' => ∃ v1_ v2_ : Value, e = .returned (.tuple #[.agg #[.int .i32 r1, v1_, v2_], .int .u8 r4, .int .i64 r5]) ∧ Kd.R (Kd.int .i32) 21 w' w.heap.size (fun k_ => nO_ k_ v2_) v1_ r2 ∧ Kd.R (Kd.int .i32) 21 w' w.heap.size (fun k_ => nO_ k_ v1_) v2_ r3 ∧ Below w.heap.size w w' := by
 have hu24 := Tryd.underlying24; have HR0_1 := Aside0.mk hr0_1; have HC0_1 := Aside0.mk hc0_1; clear hr0_1 hc0_1; have HR0_2 := Aside0.mk hr0_2; have HC0_2 := Aside0.mk hc0_2; clear hr0_2 hc0_2; have HR2 := Aside0.mk hr2; have HC2 := Aside0.mk hc2; clear hr2 hc2; have HB := Aside0.mk (Below.refl w.heap.size w); have H : ((adapt_at.f k a0_0 l0_1 l0_2 a1).bind fun t180 => (if t180 = 0 then (if (l2.length : Int) > 20000 then (some (0, ([] : List Int), ([] : List Int), 0, 4)) else (if (l2.length : Int) > 0 then ((slices_Max_uint8_uint8.f k l2).bind fun t181 => (if t181 > 1 then (some (0, ([] : List Int), ([] : List Int), 0, 2)) else (adapt_Run.j0 k a1 l2 a0_0 l0_1 l0_2))) else (adapt_Run.j0 k a1 l2 a0_0 l0_1 l0_2))) else (some (0, ([] : List Int), ([] : List Int), 0, t180)))) = some (r1, r2, r3, r4, r5) := h; clear h; replace H := Option.bind_eq_some_iff.mp H; obtain ⟨t180, A40, H⟩ := H; replace H : (if t180 = 0 then (if (l2.length : Int) > 20000 then (some (0, ([] : List Int), ([] : List Int), 0, 4)) else (if (l2.length : Int) > 0 then ((slices_Max_uint8_uint8.f k l2).bind fun t181 => (if t181 > 1 then (some (0, ([] : List Int), ([] : List Int), 0, 2)) else (adapt_Run.j0 k a1 l2 a0_0 l0_1 l0_2))) else (adapt_Run.j0 k a1 l2 a0_0 l0_1 l0_2))) else (some (0, ([] : List Int), ([] : List Int), 0, t180))) = some (r1, r2, r3, r4, r5) := H; have A4 := Aside0.mk A40; clear A40; have HC5 := Aside0.mk H; clear H
 go_enter Tryd.func24, Tryd.ntmps24
 go_upto_block 0 with (first | ((with_reducible refine gate_dst (N := 3) rfl ?_); refine box_event ?hg (N := 3) ?hd (cs := #[.int .i32 a0_0, .slice A0_1 l0_1.length c0_1, .slice A0_2 l0_2.length c0_2]) (t := 24) ?hr ?_; (case hd => rfl); (case hg => rfl); (case hr => first | (go_simp; done) | (go_simp; rfl)); intro gb178 hg w6 hbox hb; have n0_ := Aside0.mk (below_step (pH_ HB.out) hb); have n1_ := Aside0.mk (hbox); have n2_ := Aside0.mk ((by rw [hg]; exact (below_size (pH_ HB.out)) : w.heap.size ≤ gb178)); have n3_ := Aside0.mk ((by rw [hg]; exact (below_size (pH_ HB.out)) : w.heap.size ≤ gb178)); clear HB; have HB := n0_; have BK178 := n1_; have GW178 := n2_; have GE178 := n3_; clear n0_ n1_ n2_ n3_; clear hb hbox hg) | ((with_reducible refine gate_dst (N := 6) rfl ?_); refine box_event ?hg (N := 6) ?hd (cs := #[.int .i32 0, .slice none 0 0, .slice none 0 0]) (t := 24) ?hr ?_; (case hd => rfl); (case hg => rfl); (case hr => first | (go_simp; done) | (go_simp; rfl)); intro gb179 hg w7 hbox hb; have n0_ := Aside0.mk (blk_below (pG_ BK178.out) hb); have n1_ := Aside0.mk (below_step (pH_ HB.out) hb); have n2_ := Aside0.mk (hbox); have n3_ := Aside0.mk ((by rw [hg]; exact (below_size (pH_ HB.out)) : w.heap.size ≤ gb179)); have n4_ := Aside0.mk ((by rw [hg]; exact (below_size (pH_ HB.out)) : w.heap.size ≤ gb179)); have n5_ := Aside0.mk ((by rw [hg]; exact Nat.ne_of_lt (blk_lt (pG_ BK178.out)) : gb178 ≠ gb179)); have n6_ := Aside0.mk ((by rw [hg]; exact Nat.ne_of_gt (blk_lt (pG_ BK178.out)) : gb179 ≠ gb178)); clear BK178; clear HB; have BK178 := n0_; have HB := n1_; have BK179 := n2_; have GW179 := n3_; have GE179 := n4_; have NB178_179 := n5_; have NB179_178 := n6_; clear n0_ n1_ n2_ n3_ n4_ n5_ n6_; clear hb hbox hg; have hnb8 := NB178_179.out; have hnc8 := NB179_178.out; have hcz9_0 : w7.cell? ⟨gb178, 0, none⟩ = some (.int .i32 a0_0) := (blk_cell BK178.out 0).trans rfl; have hcz9_1 : w7.cell? ⟨gb178, 1, none⟩ = some (.slice A0_1 l0_1.length c0_1) := (blk_cell BK178.out 1).trans rfl; have hcz9_2 : w7.cell? ⟨gb178, 2, none⟩ = some (.slice A0_2 l0_2.length c0_2) := (blk_cell BK178.out 2).trans rfl; have hfz9_0 := blk_frozen BK178.out 0; have hfz9_1 := blk_frozen BK178.out 1; have hfz9_2 := blk_frozen BK178.out 2) | ((with_reducible refine gate_callee (f := 30) rfl ?_); refine gL_ (some 16) Tryd.func30 #[.agg #[.int .i32 a0_0, .slice A0_1 l0_1.length c0_1, .slice A0_2 l0_2.length c0_2], .int .u8 a1] ?_; (with_reducible refine (adapt_at.calls k a0_0 _ _ l0_1 _ _ l0_2 a1 t180 _ ?side1 ?side2 ?side3 ?side4 (tab_bel hT (pH_ HB.out)) A4.out).mono ?_); (case side1 => repeat (first | exact (Kd.C_below HR0_1.out HB.out) | (with_reducible refine Kd.C_alloc ?_ _) | (with_reducible refine Kd.C_drewN ?_ _) | (with_reducible refine Kd.C_drew ?_))); (case side2 => exact HC0_1.out); (case side3 => repeat (first | exact (Kd.C_below HR0_2.out HB.out) | (with_reducible refine Kd.C_alloc ?_ _) | (with_reducible refine Kd.C_drewN ?_ _) | (with_reducible refine Kd.C_drew ?_))); (case side4 => exact HC0_2.out); rintro e w10 ⟨rfl, hb⟩; refine ⟨_, rfl, ?_⟩; have n0_ := Aside0.mk (blk_below (pG_ BK178.out) hb); have n1_ := Aside0.mk (blk_below (pG_ BK179.out) hb); have n2_ := Aside0.mk (below_step (pH_ HB.out) hb); clear BK178; clear BK179; clear HB; have BK178 := n0_; have BK179 := n1_; have HB := n2_; clear n0_ n1_ n2_; (try clear hb); (try clear hb2); (try clear hk); (try clear hi)))
 (try simp only [Act.put, sA_, sZ_, sS_]); (with_reducible first | refine then_id_ ?_ | (refine wp_tail_ ?_; intro Kt_ hKt_))
 go_cut [] (fun wc => ∃ (kq : Nat) (x180000_4 : Int), Aside0 (adapt_Run.j0 kq a1 l2 a0_0 l0_1 l0_2 = some (r1, r2, r3, r4, r5)) ∧ Aside0 (kq ≤ k) ∧ Aside0 (wc.heap[gb178]? = some (.cells #[.int .i32 a0_0, (.slice A0_1 l0_1.length c0_1), (.slice A0_2 l0_2.length c0_2)] 24 (0, 0))) ∧ Aside0 (wc.heap[gb179]? = some (.cells #[.int .i32 x180000_4, (.slice none 0 0), (.slice none 0 0)] 24 (0, 0))) ∧ Aside0 (Below w.heap.size w wc))
 case first =>
  have H := HC5.out; clear HC5
  by_cases c11 : t180 = 0
  ·
   rw [if_pos c11] at H; have c11b0 : (t180 == 0) = true := beq_iff_eq.mpr c11; have c11b1 : (t180 != 0) = false := bne_eq_false_iff_eq.mpr c11; clear c11; (first | rw [c11b0] | (simp only [i64_w, i32_w]; rw [c11b0]) | skip)
   by_cases c12 : (l2.length : Int) > 20000
   ·
    rw [if_pos c12] at H; have c12b0 : decide (20000 < (l2.length : Int)) = true := decide_eq_true c12; have c12b1 : decide (20000 < l2.length) = true := decide_eq_true (by omega); clear c12; simp only [Option.some.injEq, Prod.mk.injEq] at H; obtain ⟨rfl, rfl, rfl, rfl, rfl⟩ := H; have hnb13 := NB179_178.out; have hnc13 := NB178_179.out; have hcz14_0 : w10.cell? ⟨gb179, 0, none⟩ = some (.int .i32 0) := (blk_cell BK179.out 0).trans rfl; have hcz14_1 : w10.cell? ⟨gb179, 1, none⟩ = some (.slice none 0 0) := (blk_cell BK179.out 1).trans rfl; have hcz14_2 : w10.cell? ⟨gb179, 2, none⟩ = some (.slice none 0 0) := (blk_cell BK179.out 2).trans rfl; have hfz14_0 := blk_frozen BK179.out 0; have hfz14_1 := blk_frozen BK179.out 1; have hfz14_2 := blk_frozen BK179.out 2
    go_wp2
    refine bodyPost_ret (results_ctt rfl _ _ gb179 24 #[.int .i32 0, .slice none 0 0, .slice none 0 0] (0, 0) _ rfl (by (with_reducible repeat (first | refine blk_drewN ?_ _ | refine blk_drew ?_ | refine blk_alloc ?_ _)); refine blk_put (cs := #[.int .i32 0, .slice none 0 0, .slice none 0 0]) ?_ 2 _ rfl; (with_reducible repeat (first | refine blk_drewN ?_ _ | refine blk_drew ?_ | refine blk_alloc ?_ _)); refine blk_put (cs := #[.int .i32 0, .slice none 0 0, .slice none 0 0]) ?_ 1 _ rfl; (with_reducible repeat (first | refine blk_drewN ?_ _ | refine blk_drew ?_ | refine blk_alloc ?_ _)); refine blk_put (cs := #[.int .i32 0, .slice none 0 0, .slice none 0 0]) ?_ 0 _ rfl; (with_reducible repeat (first | refine blk_drewN ?_ _ | refine blk_drew ?_ | refine blk_alloc ?_ _)); exact BK179.out) Tryd.underlying24 rfl (by kernel_rfl)) rfl ?_; exact ⟨_, _, by first | rfl | (simp [errW_none, errW_some] <;> rfl) | (simp [*, errW_none, errW_some] <;> rfl), by first | exact Kd.R_nil _ _ _ _ _ | exact Kd.N_nil _ _ _ _ _ | exact Kd.V_nil _ _ _ _ _ | exact Kd.Q_nil _ _ _ _ _ | exact Kd.S_nil _ _ _ _ _, by first | exact Kd.R_nil _ _ _ _ _ | exact Kd.N_nil _ _ _ _ _ | exact Kd.V_nil _ _ _ _ _ | exact Kd.Q_nil _ _ _ _ _ | exact Kd.S_nil _ _ _ _ _, pH_ HB.out⟩
   ·
    rw [if_neg c12] at H; have c12b0 : decide (20000 < (l2.length : Int)) = false := decide_eq_false c12; have c12b1 : decide (20000 < l2.length) = false := decide_eq_false (by omega); clear c12
    by_cases c15 : (l2.length : Int) > 0
    ·
     rw [if_pos c15] at H; have c15b0 : decide (0 < (l2.length : Int)) = true := decide_eq_true c15; have c15b1 : decide (0 < l2.length) = true := decide_eq_true (by omega); clear c15; replace H := Option.bind_eq_some_iff.mp H; obtain ⟨t181, A160, H⟩ := H; replace H : (if t181 > 1 then (some (0, ([] : List Int), ([] : List Int), 0, 2)) else (adapt_Run.j0 k a1 l2 a0_0 l0_1 l0_2)) = some (r1, r2, r3, r4, r5) := H; have A16 := Aside0.mk A160; clear A160
     by_cases c17 : t181 > 1
     ·
      rw [if_pos c17] at H; have c17b0 : decide (1 < t181) = true := decide_eq_true c17; clear c17; simp only [Option.some.injEq, Prod.mk.injEq] at H; obtain ⟨rfl, rfl, rfl, rfl, rfl⟩ := H
      go_wp2_with (first | (go_at_call 39; (with_reducible refine (slices_Max_uint8_uint8.calls k _ _ l2 t181 _ ?side1 ?side2 A16.out).mono ?_); (case side1 => repeat (first | exact (Kd.C_below HR2.out HB.out) | (with_reducible refine Kd.C_alloc ?_ _) | (with_reducible refine Kd.C_drewN ?_ _) | (with_reducible refine Kd.C_drew ?_))); (case side2 => exact HC2.out); rintro e w18 ⟨rfl, hb⟩; have n0_ := Aside0.mk (blk_below (pG_ BK178.out) hb); have n1_ := Aside0.mk (blk_below (pG_ BK179.out) hb); have n2_ := Aside0.mk (below_step (pH_ HB.out) hb); clear BK178; clear BK179; clear HB; have BK178 := n0_; have BK179 := n1_; have HB := n2_; clear n0_ n1_ n2_; (try clear hb); (try clear hb2); (try clear hk); (try clear hi); have hnb19 := NB179_178.out; have hnc19 := NB178_179.out; have hcz20_0 : w18.cell? ⟨gb179, 0, none⟩ = some (.int .i32 0) := (blk_cell BK179.out 0).trans rfl; have hcz20_1 : w18.cell? ⟨gb179, 1, none⟩ = some (.slice none 0 0) := (blk_cell BK179.out 1).trans rfl; have hcz20_2 : w18.cell? ⟨gb179, 2, none⟩ = some (.slice none 0 0) := (blk_cell BK179.out 2).trans rfl; have hfz20_0 := blk_frozen BK179.out 0; have hfz20_1 := blk_frozen BK179.out 1; have hfz20_2 := blk_frozen BK179.out 2))
      refine bodyPost_ret (results_ctt rfl _ _ gb179 24 #[.int .i32 0, .slice none 0 0, .slice none 0 0] (0, 0) _ rfl (by (with_reducible repeat (first | refine blk_drewN ?_ _ | refine blk_drew ?_ | refine blk_alloc ?_ _)); refine blk_put (cs := #[.int .i32 0, .slice none 0 0, .slice none 0 0]) ?_ 2 _ rfl; (with_reducible repeat (first | refine blk_drewN ?_ _ | refine blk_drew ?_ | refine blk_alloc ?_ _)); refine blk_put (cs := #[.int .i32 0, .slice none 0 0, .slice none 0 0]) ?_ 1 _ rfl; (with_reducible repeat (first | refine blk_drewN ?_ _ | refine blk_drew ?_ | refine blk_alloc ?_ _)); refine blk_put (cs := #[.int .i32 0, .slice none 0 0, .slice none 0 0]) ?_ 0 _ rfl; (with_reducible repeat (first | refine blk_drewN ?_ _ | refine blk_drew ?_ | refine blk_alloc ?_ _)); exact BK179.out) Tryd.underlying24 rfl (by kernel_rfl)) rfl ?_; exact ⟨_, _, by first | rfl | (simp [errW_none, errW_some] <;> rfl) | (simp [*, errW_none, errW_some] <;> rfl), by first | exact Kd.R_nil _ _ _ _ _ | exact Kd.N_nil _ _ _ _ _ | exact Kd.V_nil _ _ _ _ _ | exact Kd.Q_nil _ _ _ _ _ | exact Kd.S_nil _ _ _ _ _, by first | exact Kd.R_nil _ _ _ _ _ | exact Kd.N_nil _ _ _ _ _ | exact Kd.V_nil _ _ _ _ _ | exact Kd.Q_nil _ _ _ _ _ | exact Kd.S_nil _ _ _ _ _, pH_ HB.out⟩
     ·
      rw [if_neg c17] at H; have c17b0 : decide (1 < t181) = false := decide_eq_false c17; clear c17; have H' := Aside0.mk H; clear H
      go_wp2_with (first | (go_at_call 39; (with_reducible refine (slices_Max_uint8_uint8.calls k _ _ l2 t181 _ ?side1 ?side2 A16.out).mono ?_); (case side1 => repeat (first | exact (Kd.C_below HR2.out HB.out) | (with_reducible refine Kd.C_alloc ?_ _) | (with_reducible refine Kd.C_drewN ?_ _) | (with_reducible refine Kd.C_drew ?_))); (case side2 => exact HC2.out); rintro e w21 ⟨rfl, hb⟩; have n0_ := Aside0.mk (blk_below (pG_ BK178.out) hb); have n1_ := Aside0.mk (blk_below (pG_ BK179.out) hb); have n2_ := Aside0.mk (below_step (pH_ HB.out) hb); clear BK178; clear BK179; clear HB; have BK178 := n0_; have BK179 := n1_; have HB := n2_; clear n0_ n1_ n2_; (try clear hb); (try clear hb2); (try clear hk); (try clear hi)))
      (first | go_meet | (refine Met.intro ?_; go_step; (repeat apply Exists.intro); refine ⟨?rel, ?eqf_⟩; case eqf_ => ((simp only [c17b0, c15b0, c12b0, c11b0]) <;> rfl)))
      case rel => exact ⟨_, (0), H', ⟨by first | omega | exact Nat.le_refl _⟩, ⟨pG_ BK178.out⟩, ⟨pG_ BK179.out⟩, ⟨pH_ HB.out⟩⟩
    ·
     rw [if_neg c15] at H; have c15b0 : decide (0 < (l2.length : Int)) = false := decide_eq_false c15; have c15b1 : decide (0 < l2.length) = false := decide_eq_false (by omega); clear c15; have H' := Aside0.mk H; clear H
     go_wp2
     (first | go_meet | (refine Met.intro ?_; go_step; (repeat apply Exists.intro); refine ⟨?rel, ?eqf_⟩; case eqf_ => ((simp only [c15b0, c12b0, c11b0]) <;> rfl)))
     case rel => exact ⟨_, (0), H', ⟨by first | omega | exact Nat.le_refl _⟩, ⟨pG_ BK178.out⟩, ⟨pG_ BK179.out⟩, ⟨pH_ HB.out⟩⟩
  ·
   rw [if_neg c11] at H; have c11b0 : (t180 == 0) = false := beq_eq_false_iff_ne.mpr c11; have c11b1 : (t180 != 0) = true := bne_iff_ne.mpr c11; (first | rw [c11b0] | (simp only [i64_w, i32_w]; rw [c11b0]) | skip); simp only [Option.some.injEq, Prod.mk.injEq] at H; obtain ⟨rfl, rfl, rfl, rfl, rfl⟩ := H; have hnb22 := NB179_178.out; have hnc22 := NB178_179.out; have hcz23_0 : w10.cell? ⟨gb179, 0, none⟩ = some (.int .i32 0) := (blk_cell BK179.out 0).trans rfl; have hcz23_1 : w10.cell? ⟨gb179, 1, none⟩ = some (.slice none 0 0) := (blk_cell BK179.out 1).trans rfl; have hcz23_2 : w10.cell? ⟨gb179, 2, none⟩ = some (.slice none 0 0) := (blk_cell BK179.out 2).trans rfl; have hfz23_0 := blk_frozen BK179.out 0; have hfz23_1 := blk_frozen BK179.out 1; have hfz23_2 := blk_frozen BK179.out 2
   go_wp2
   refine bodyPost_ret (results_ctt rfl _ _ gb179 24 #[.int .i32 0, .slice none 0 0, .slice none 0 0] (0, 0) _ rfl (by (with_reducible repeat (first | refine blk_drewN ?_ _ | refine blk_drew ?_ | refine blk_alloc ?_ _)); refine blk_put (cs := #[.int .i32 0, .slice none 0 0, .slice none 0 0]) ?_ 2 _ rfl; (with_reducible repeat (first | refine blk_drewN ?_ _ | refine blk_drew ?_ | refine blk_alloc ?_ _)); refine blk_put (cs := #[.int .i32 0, .slice none 0 0, .slice none 0 0]) ?_ 1 _ rfl; (with_reducible repeat (first | refine blk_drewN ?_ _ | refine blk_drew ?_ | refine blk_alloc ?_ _)); refine blk_put (cs := #[.int .i32 0, .slice none 0 0, .slice none 0 0]) ?_ 0 _ rfl; (with_reducible repeat (first | refine blk_drewN ?_ _ | refine blk_drew ?_ | refine blk_alloc ?_ _)); exact BK179.out) Tryd.underlying24 rfl (by kernel_rfl)) rfl ?_; exact ⟨_, _, by first | rfl | (simp [errW_none, errW_some] <;> rfl) | (simp [*, errW_none, errW_some] <;> rfl), by first | exact Kd.R_nil _ _ _ _ _ | exact Kd.N_nil _ _ _ _ _ | exact Kd.V_nil _ _ _ _ _ | exact Kd.Q_nil _ _ _ _ _ | exact Kd.S_nil _ _ _ _ _, by first | exact Kd.R_nil _ _ _ _ _ | exact Kd.N_nil _ _ _ _ _ | exact Kd.V_nil _ _ _ _ _ | exact Kd.Q_nil _ _ _ _ _ | exact Kd.S_nil _ _ _ _ _, pH_ HB.out⟩
 case rest =>
  (try (refine hKt_ _ _ ?_; clear hKt_; clear Kt_)); clear HC5
  try clear c1
  try clear c2
  try clear p2
  try clear c3
  try clear c8
  try clear c11
  try clear c11b0
  try clear c11b1
  try clear c12
  try clear c12b0
  try clear c12b1
  try clear c13
  try clear c15
  try clear c15b0
  try clear c15b1
  try clear c17
  try clear c17b0
  try clear c19
  try clear c22
  try clear hcz14_0
  try clear hcz14_1
  try clear hcz14_2
  try clear hcz20_0
  try clear hcz20_1
  try clear hcz20_2
  try clear hcz23_0
  try clear hcz23_1
  try clear hcz23_2
  try clear hcz9_0
  try clear hcz9_1
  try clear hcz9_2
  try clear hfz14_0
  try clear hfz14_1
  try clear hfz14_2
  try clear hfz20_0
  try clear hfz20_1
  try clear hfz20_2
  try clear hfz23_0
  try clear hfz23_1
  try clear hfz23_2
  try clear hfz9_0
  try clear hfz9_1
  try clear hfz9_2
  obtain ⟨kq, x180000_4, HA, HJ4, BK178, BK179, HB⟩ := hcut
  cases kq with
  | zero => exact absurd HA.out (by simp [adapt_Run.j0])
  | succ kj4 =>
   have H := HA.out; clear HA; simp only [adapt_Run.j0] at H; replace H := Option.bind_eq_some_iff.mp H; obtain ⟨⟨t182, t183, t186⟩, A240, H⟩ := H; replace H : (adapt_Run.l0 kj4 a1 l2 (l2.length : Int) 0 t182 t183 t186) = some (r1, r2, r3, r4, r5) := H; have A24 := Aside0.mk A240; clear A240; have H' := Aside0.mk H; clear H; have hnb25 := NB178_179.out; have hnc25 := NB179_178.out; have hcz26_0 : wc.cell? ⟨gb178, 0, none⟩ = some (.int .i32 a0_0) := (blk_cell BK178.out 0).trans rfl; have hcz26_1 : wc.cell? ⟨gb178, 1, none⟩ = some (.slice A0_1 l0_1.length c0_1) := (blk_cell BK178.out 1).trans rfl; have hcz26_2 : wc.cell? ⟨gb178, 2, none⟩ = some (.slice A0_2 l0_2.length c0_2) := (blk_cell BK178.out 2).trans rfl; have hfz26_0 := blk_frozen BK178.out 0; have hfz26_1 := blk_frozen BK178.out 1; have hfz26_2 := blk_frozen BK178.out 2
   go_wp2_with (first | ((with_reducible refine gate_callee (f := 32) rfl ?_); refine gL_ (some 38) Tryd.func32 #[.agg #[.int .i32 a0_0, .slice A0_1 l0_1.length c0_1, .slice A0_2 l0_2.length c0_2]] ?_; (with_reducible refine (adapt_twin.calls a0_0 _ _ l0_1 _ _ l0_2 t182 t183 t186 _ ?side1 ?side2 ?side3 ?side4 A24.out).mono ?_); (case side1 => repeat (first | exact (Kd.C_below HR0_1.out HB.out) | (with_reducible refine Kd.C_alloc ?_ _) | (with_reducible refine Kd.C_drewN ?_ _) | (with_reducible refine Kd.C_drew ?_))); (case side2 => exact HC0_1.out); (case side3 => repeat (first | exact (Kd.C_below HR0_2.out HB.out) | (with_reducible refine Kd.C_alloc ?_ _) | (with_reducible refine Kd.C_drewN ?_ _) | (with_reducible refine Kd.C_drew ?_))); (case side4 => exact HC0_2.out); rintro e w27 ⟨v184, v187, rfl, ho0, ho1, hb⟩; refine ⟨_, rfl, ?_⟩; have n0_ := Aside0.mk (Kd.R_lower ho0 (below_size (pH_ HB.out))); have n1_ := Aside0.mk (Kd.R_lower ho1 (below_size (pH_ HB.out))); have n2_ := Aside0.mk (blk_below (pG_ BK178.out) hb); have n3_ := Aside0.mk (blk_below (pG_ BK179.out) hb); have n4_ := Aside0.mk (below_step (pH_ HB.out) hb); clear BK178; clear BK179; clear HB; have HO185 := n0_; have HO188 := n1_; have BK178 := n2_; have BK179 := n3_; have HB := n4_; clear n0_ n1_ n2_ n3_ n4_; (try clear hb); (try clear hb2); (try clear hk); (try clear hi); (try clear ho0); (try clear ho1)) | ((with_reducible refine gate_dst (N := 10) rfl ?_); refine box_event ?hg (N := 10) ?hd (cs := #[.int .i32 0, .slice none 0 0, .slice none 0 0]) (t := 24) ?hr ?_; (case hd => rfl); (case hg => rfl); (case hr => first | (go_simp; done) | (go_simp; rfl)); intro gb189 hg w28 hbox hb; have n0_ := Aside0.mk (Kd.R_below (pL_ HO185.out) hb); have n1_ := Aside0.mk (Kd.R_below (pL_ HO188.out) hb); have n2_ := Aside0.mk (blk_below (pG_ BK178.out) hb); have n3_ := Aside0.mk (blk_below (pG_ BK179.out) hb); have n4_ := Aside0.mk (below_step (pH_ HB.out) hb); have n5_ := Aside0.mk (hbox); have n6_ := Aside0.mk ((by rw [hg]; exact (below_size (pH_ HB.out)) : w.heap.size ≤ gb189)); have n7_ := Aside0.mk ((by rw [hg]; exact (below_size (pH_ HB.out)) : w.heap.size ≤ gb189)); have n8_ := Aside0.mk ((by rw [hg]; exact Nat.ne_of_lt (blk_lt (pG_ BK178.out)) : gb178 ≠ gb189)); have n9_ := Aside0.mk ((by rw [hg]; exact Nat.ne_of_gt (blk_lt (pG_ BK178.out)) : gb189 ≠ gb178)); have n10_ := Aside0.mk ((by rw [hg]; exact Nat.ne_of_lt (blk_lt (pG_ BK179.out)) : gb179 ≠ gb189)); have n11_ := Aside0.mk ((by rw [hg]; exact Nat.ne_of_gt (blk_lt (pG_ BK179.out)) : gb189 ≠ gb179)); clear HO185; clear HO188; clear BK178; clear BK179; clear HB; have HO185 := n0_; have HO188 := n1_; have BK178 := n2_; have BK179 := n3_; have HB := n4_; have BK189 := n5_; have GW189 := n6_; have GE189 := n7_; have NB178_189 := n8_; have NB189_178 := n9_; have NB179_189 := n10_; have NB189_179 := n11_; clear n0_ n1_ n2_ n3_ n4_ n5_ n6_ n7_ n8_ n9_ n10_ n11_; clear hb hbox hg; have hnb29 := NB189_178.out; have hnc29 := NB178_189.out; have hnb30 := NB189_179.out; have hnc30 := NB179_189.out; have hcz31_0 : w28.cell? ⟨gb189, 0, none⟩ = some (.int .i32 0) := (blk_cell BK189.out 0).trans rfl; have hcz31_1 : w28.cell? ⟨gb189, 1, none⟩ = some (.slice none 0 0) := (blk_cell BK189.out 1).trans rfl; have hcz31_2 : w28.cell? ⟨gb189, 2, none⟩ = some (.slice none 0 0) := (blk_cell BK189.out 2).trans rfl; have hfz31_0 := blk_frozen BK189.out 0; have hfz31_1 := blk_frozen BK189.out 1; have hfz31_2 := blk_frozen BK189.out 2; obtain ⟨Ao32, co32, eo32⟩ := Kd.R_slice HO185.out; subst eo32; obtain ⟨Ao33, co33, eo33⟩ := Kd.R_slice HO188.out; subst eo33))
   go_loopg [1, 41] kj4 (fun kq v1 v41 w' => ∃ (x1_2 : Int) (x41_2 : Int) (x180000_2 : Int) (x190001_2 : List Int) (x190002_2 : List Int) (u190001 : Value) (u190002 : Value), v1 = .int .u8 x1_2 ∧ v41 = .int .i64 x41_2 ∧ Aside0 (adapt_Run.l0 kq x1_2 l2 (l2.length : Int) x41_2 t182 x190001_2 x190002_2 = some (r1, r2, r3, r4, r5)) ∧ Aside0 (kq ≤ kj4) ∧ Aside0 (Kd.R (Kd.int .i32) 21 w' w.heap.size (fun k_ => nO_ k_ u190002) u190001 x190001_2) ∧ Aside0 (Kd.R (Kd.int .i32) 21 w' w.heap.size (fun k_ => nO_ k_ u190001) u190002 x190002_2) ∧ Aside0 (w'.heap[gb178]? = some (.cells #[.int .i32 a0_0, (.slice A0_1 l0_1.length c0_1), (.slice A0_2 l0_2.length c0_2)] 24 (0, 0))) ∧ Aside0 (w'.heap[gb179]? = some (.cells #[.int .i32 x180000_2, (.slice none 0 0), (.slice none 0 0)] 24 (0, 0))) ∧ Aside0 (w'.heap[gb189]? = some (.cells #[.int .i32 t182, u190001, u190002] 24 (0, 0))) ∧ Aside0 (Below w.heap.size w w'))
   case atStart => exact ⟨(a1), (0), (x180000_4), (t183), (t186), (.slice Ao32 t183.length co32), (.slice Ao33 t186.length co33), (by first | rfl | (simp; done) | (simp [*]; done)), (by first | rfl | (simp; done) | (simp [*]; done)), H', ⟨Nat.le_refl _⟩, ⟨by (with_reducible repeat (first | apply rA_ | apply rN_ | apply rD_)); exact Kd.R_mono (Kd.R_far (p := ⟨gb189, 2, none⟩) (Kd.R_far (p := ⟨gb189, 1, none⟩) (Kd.R_far (p := ⟨gb189, 0, none⟩) (Kd.R_types HO185.out BK189.out (by decide)) (fun _ hk => hk.2) (.int .i32 t182)) (fun _ hk => hk.2) (.slice Ao32 t183.length co32)) (fun _ hk => hk.2) (.slice Ao33 t186.length co33)) (fun _ hk => hk.1)⟩, ⟨by (with_reducible repeat (first | apply rA_ | apply rN_ | apply rD_)); exact Kd.R_mono (Kd.R_far (p := ⟨gb189, 2, none⟩) (Kd.R_far (p := ⟨gb189, 1, none⟩) (Kd.R_far (p := ⟨gb189, 0, none⟩) (Kd.R_types HO188.out BK189.out (by decide)) (fun _ hk => hk.2) (.int .i32 t182)) (fun _ hk => hk.2) (.slice Ao32 t183.length co32)) (fun _ hk => hk.2) (.slice Ao33 t186.length co33)) (fun _ hk => hk.1)⟩, ⟨by (with_reducible repeat (first | refine blk_drewN ?_ _ | refine blk_drew ?_ | refine blk_alloc ?_ _)); refine blk_far ?_ NB178_189.out _; (with_reducible repeat (first | refine blk_drewN ?_ _ | refine blk_drew ?_ | refine blk_alloc ?_ _)); refine blk_far ?_ NB178_189.out _; (with_reducible repeat (first | refine blk_drewN ?_ _ | refine blk_drew ?_ | refine blk_alloc ?_ _)); refine blk_far ?_ NB178_189.out _; (with_reducible repeat (first | refine blk_drewN ?_ _ | refine blk_drew ?_ | refine blk_alloc ?_ _)); exact BK178.out⟩, ⟨by (with_reducible repeat (first | refine blk_drewN ?_ _ | refine blk_drew ?_ | refine blk_alloc ?_ _)); refine blk_far ?_ NB179_189.out _; (with_reducible repeat (first | refine blk_drewN ?_ _ | refine blk_drew ?_ | refine blk_alloc ?_ _)); refine blk_far ?_ NB179_189.out _; (with_reducible repeat (first | refine blk_drewN ?_ _ | refine blk_drew ?_ | refine blk_alloc ?_ _)); refine blk_far ?_ NB179_189.out _; (with_reducible repeat (first | refine blk_drewN ?_ _ | refine blk_drew ?_ | refine blk_alloc ?_ _)); exact BK179.out⟩, ⟨by (with_reducible repeat (first | refine blk_drewN ?_ _ | refine blk_drew ?_ | refine blk_alloc ?_ _)); refine blk_put (cs := #[.int .i32 t182, .slice Ao32 t183.length co32, .slice none 0 0]) ?_ 2 _ rfl; (with_reducible repeat (first | refine blk_drewN ?_ _ | refine blk_drew ?_ | refine blk_alloc ?_ _)); refine blk_put (cs := #[.int .i32 t182, .slice none 0 0, .slice none 0 0]) ?_ 1 _ rfl; (with_reducible repeat (first | refine blk_drewN ?_ _ | refine blk_drew ?_ | refine blk_alloc ?_ _)); refine blk_put (cs := #[.int .i32 0, .slice none 0 0, .slice none 0 0]) ?_ 0 _ rfl; (with_reducible repeat (first | refine blk_drewN ?_ _ | refine blk_drew ?_ | refine blk_alloc ?_ _)); exact BK189.out⟩, ⟨pH_ HB.out⟩⟩
   case round =>
    clear H'
    try clear c1
    try clear c2
    try clear p2
    try clear c3
    try clear c8
    try clear c11
    try clear c11b0
    try clear c11b1
    try clear c12
    try clear c12b0
    try clear c12b1
    try clear c13
    try clear c15
    try clear c15b0
    try clear c15b1
    try clear c17
    try clear c17b0
    try clear c19
    try clear c22
    try clear c24
    try clear c25
    try clear c29
    try clear c30
    try clear c32
    try clear hcz14_0
    try clear hcz14_1
    try clear hcz14_2
    try clear hcz20_0
    try clear hcz20_1
    try clear hcz20_2
    try clear hcz23_0
    try clear hcz23_1
    try clear hcz23_2
    try clear hcz26_0
    try clear hcz26_1
    try clear hcz26_2
    try clear hcz31_0
    try clear hcz31_1
    try clear hcz31_2
    try clear hcz9_0
    try clear hcz9_1
    try clear hcz9_2
    try clear hfz14_0
    try clear hfz14_1
    try clear hfz14_2
    try clear hfz20_0
    try clear hfz20_1
    try clear hfz20_2
    try clear hfz23_0
    try clear hfz23_1
    try clear hfz23_2
    try clear hfz26_0
    try clear hfz26_1
    try clear hfz26_2
    try clear hfz31_0
    try clear hfz31_1
    try clear hfz31_2
    try clear hfz9_0
    try clear hfz9_1
    try clear hfz9_2
    try clear p2
    obtain ⟨x1_2, x41_2, x180000_2, x190001_2, x190002_2, u190001, u190002, rfl, rfl, HA, HK2, HO_190001, HO_190002, BK178, BK179, BK189, HB⟩ := hrel
    cases gk with
    | zero => exact absurd HA.out (by simp [adapt_Run.l0])
    | succ k2 =>
     have H := HA.out; clear HA; simp only [adapt_Run.l0] at H
     by_cases c34 : x41_2 < (l2.length : Int)
     ·
      rw [if_pos c34] at H; have c34b0 : decide (x41_2 < (l2.length : Int)) = true := decide_eq_true c34; clear c34
      by_cases c35 : 0 ≤ x41_2
      ·
       rw [if_pos c35] at H; have c35b0 : decide (0 ≤ x41_2) = true := decide_eq_true c35; clear c35
       by_cases c36 : x41_2 < (l2.length : Int)
       ·
        rw [if_pos c36] at H; have c36b0 : decide (x41_2 < (l2.length : Int)) = true := decide_eq_true c36; clear c36; replace H := Option.bind_eq_some_iff.mp H; obtain ⟨⟨t191, t192, t193⟩, A370, H⟩ := H; replace H : (if t191 = 0 then ((states_Next.f k2 x1_2 (rd l2 x41_2)).bind fun bt194 => (adapt_Run.l0 k2 bt194.1 l2 (l2.length : Int) (wrap64 (x41_2 + 1)) t182 t192 t193)) else (some (0, ([] : List Int), ([] : List Int), 0, t191))) = some (r1, r2, r3, r4, r5) := H; have A37 := Aside0.mk A370; clear A370
        by_cases c38 : t191 = 0
        ·
         rw [if_pos c38] at H; have c38b0 : (t191 == 0) = true := beq_iff_eq.mpr c38; have c38b1 : (t191 != 0) = false := bne_eq_false_iff_eq.mpr c38; clear c38; replace H := Option.bind_eq_some_iff.mp H; obtain ⟨⟨t194, t195⟩, A390, H⟩ := H; replace H : (adapt_Run.l0 k2 t194 l2 (l2.length : Int) (wrap64 (x41_2 + 1)) t182 t192 t193) = some (r1, r2, r3, r4, r5) := H; have A39 := Aside0.mk A390; clear A390; have H' := Aside0.mk H; clear H; have p190 : 0 ≤ (x41_2 : Int) := of_decide_eq_true (by first | (with_reducible assumption) | assumption); have q190 : x41_2 < (l2.length : Int) := of_decide_eq_true (by first | (with_reducible assumption) | assumption); obtain ⟨ad190, e190, hx190_0⟩ := Kd.at_int HR2.out x41_2 p190 q190
         cases e190
         replace hx190_0 := (HB.out.cell (World.block_lt_of_cell? w _ hx190_0)).trans hx190_0; replace p190 := eq_true p190; replace q190 := eq_true q190; have hnb40 := NB189_178.out; have hnc40 := NB178_189.out; have hnb41 := NB189_179.out; have hnc41 := NB179_189.out; have hcz42_0 : wr.cell? ⟨gb189, 0, none⟩ = some (.int .i32 t182) := (blk_cell BK189.out 0).trans rfl; have hcz42_1 : wr.cell? ⟨gb189, 1, none⟩ = some (u190001) := (blk_cell BK189.out 1).trans rfl; have hcz42_2 : wr.cell? ⟨gb189, 2, none⟩ = some (u190002) := (blk_cell BK189.out 2).trans rfl; have hfz42_0 := blk_frozen BK189.out 0; have hfz42_1 := blk_frozen BK189.out 1; have hfz42_2 := blk_frozen BK189.out 2; obtain ⟨Ao43, co43, eo43⟩ := Kd.R_slice HO_190001.out
         subst eo43
         obtain ⟨Ao44, co44, eo44⟩ := Kd.R_slice HO_190002.out
         subst eo44
         go_wp2_with (first | ((with_reducible refine gate_callee (f := 33) rfl ?_); refine gL_ (some 48) Tryd.func33 #[.agg #[.int .i32 t182, .slice Ao43 x190001_2.length co43, .slice Ao44 x190002_2.length co44], .int .u8 x1_2, .int .u8 (rd l2 x41_2)] ?_; (with_reducible refine (adapt_change.calls k2 t182 (fun k_ => some k_ = (.slice Ao43 x190001_2.length co43 : Value).ownBlock) (.slice Ao43 x190001_2.length co43) x190001_2 (fun k_ => some k_ = (.slice Ao44 x190002_2.length co44 : Value).ownBlock) (.slice Ao44 x190002_2.length co44) x190002_2 x1_2 (rd l2 x41_2) t191 t192 t193 w _ ?side1 ?side2 ?side3 ?side4 ?side5 hT A37.out).mono ?_); (case side1 => repeat (first | (with_reducible first | exact HB.out | apply below_alloc | apply bN_ | apply below_drew1 | refine below_set ?_ GE178.out | refine below_set ?_ GE179.out | refine below_set ?_ GE189.out) | exact HB.out)); (case side2 => exact Kd.R_tight rfl HO_190001.out); (case side3 => exact fun k_ e_ => (HO_190001.out.1 k_ e_.symm)); (case side4 => exact Kd.R_tight rfl HO_190002.out); (case side5 => exact fun k_ e_ => (HO_190002.out.1 k_ e_.symm)); rintro e w45 ⟨rfl, hy0, hy1, hb, hkp⟩; refine ⟨_, rfl, ?_⟩; have n0_ := Aside0.mk (Kd.R_reok rfl hy0 (fun k_ e_ => HO_190001.out.1 k_ e_)); have n1_ := Aside0.mk (Kd.R_reok rfl hy1 (fun k_ e_ => HO_190002.out.1 k_ e_)); have n2_ := Aside0.mk (blk_kept (pG_ BK178.out) hkp (fun hs_ => Or.elim hs_ (fun e_ => (fun e_ => (Kd.R_ne HO_190001.out BK178.out (by decide)) e_) e_) (fun e_ => (fun e_ => (Kd.R_ne HO_190002.out BK178.out (by decide)) e_) e_))); have n3_ := Aside0.mk (blk_kept (pG_ BK179.out) hkp (fun hs_ => Or.elim hs_ (fun e_ => (fun e_ => (Kd.R_ne HO_190001.out BK179.out (by decide)) e_) e_) (fun e_ => (fun e_ => (Kd.R_ne HO_190002.out BK179.out (by decide)) e_) e_))); have n4_ := Aside0.mk (blk_kept (pG_ BK189.out) hkp (fun hs_ => Or.elim hs_ (fun e_ => (fun e_ => (Kd.R_ne HO_190001.out BK189.out (by decide)) e_) e_) (fun e_ => (fun e_ => (Kd.R_ne HO_190002.out BK189.out (by decide)) e_) e_))); have n5_ := Aside0.mk (hb); clear HO_190001; clear HO_190002; clear BK178; clear BK179; clear BK189; clear HB; have HO_190001 := n0_; have HO_190002 := n1_; have BK178 := n2_; have BK179 := n3_; have BK189 := n4_; have HB := n5_; clear n0_ n1_ n2_ n3_ n4_ n5_; (try clear hb); (try clear hkp); (try clear hy0); (try clear hy1)) | ((with_reducible refine gate_callee (f := 27) rfl ?_); refine gL_ (some 56) Tryd.func27 #[.int .u8 x1_2, .int .u8 (rd l2 x41_2)] ?_; (with_reducible refine (states_Next.calls k2 x1_2 (rd l2 x41_2) t194 t195 _ A39.out).mono ?_); rintro e w46 ⟨rfl, hb⟩; refine ⟨_, rfl, ?_⟩; have n0_ := Aside0.mk (Kd.R_below (pL_ HO_190001.out) hb); have n1_ := Aside0.mk (Kd.R_below (pL_ HO_190002.out) hb); have n2_ := Aside0.mk (blk_below (pG_ BK178.out) hb); have n3_ := Aside0.mk (blk_below (pG_ BK179.out) hb); have n4_ := Aside0.mk (blk_below (pG_ BK189.out) hb); have n5_ := Aside0.mk (below_step (pH_ HB.out) hb); clear HO_190001; clear HO_190002; clear BK178; clear BK179; clear BK189; clear HB; have HO_190001 := n0_; have HO_190002 := n1_; have BK178 := n2_; have BK179 := n3_; have BK189 := n4_; have HB := n5_; clear n0_ n1_ n2_ n3_ n4_ n5_; (try clear hb); (try clear hb2); (try clear hk); (try clear hi)))
         go_roundg k2
         case measure => have := HJ4.out; have := HK2.out; omega
         case rel => exact ⟨(t194), (wrap64 (x41_2 + 1)), (x180000_2), (t192), (t193), (.slice Ao43 x190001_2.length co43), (.slice Ao44 x190002_2.length co44), (by first | rfl | (simp; done) | (simp [*]; done)), (by first | rfl | (simp; done) | (simp [*]; done)), H', ⟨by have := HJ4.out; have := HK2.out; omega⟩, ⟨pL_ HO_190001.out⟩, ⟨pL_ HO_190002.out⟩, ⟨pG_ BK178.out⟩, ⟨pG_ BK179.out⟩, ⟨pG_ BK189.out⟩, ⟨pH_ HB.out⟩⟩
        ·
         rw [if_neg c38] at H; have c38b0 : (t191 == 0) = false := beq_eq_false_iff_ne.mpr c38; have c38b1 : (t191 != 0) = true := bne_iff_ne.mpr c38; simp only [Option.some.injEq, Prod.mk.injEq] at H; obtain ⟨rfl, rfl, rfl, rfl, rfl⟩ := H; have p190 : 0 ≤ (x41_2 : Int) := of_decide_eq_true (by first | (with_reducible assumption) | assumption); have q190 : x41_2 < (l2.length : Int) := of_decide_eq_true (by first | (with_reducible assumption) | assumption); obtain ⟨ad190, e190, hx190_0⟩ := Kd.at_int HR2.out x41_2 p190 q190
         cases e190
         replace hx190_0 := (HB.out.cell (World.block_lt_of_cell? w _ hx190_0)).trans hx190_0; replace p190 := eq_true p190; replace q190 := eq_true q190; have hnb47 := NB189_178.out; have hnc47 := NB178_189.out; have hnb48 := NB189_179.out; have hnc48 := NB179_189.out; have hcz49_0 : wr.cell? ⟨gb189, 0, none⟩ = some (.int .i32 t182) := (blk_cell BK189.out 0).trans rfl; have hcz49_1 : wr.cell? ⟨gb189, 1, none⟩ = some (u190001) := (blk_cell BK189.out 1).trans rfl; have hcz49_2 : wr.cell? ⟨gb189, 2, none⟩ = some (u190002) := (blk_cell BK189.out 2).trans rfl; have hfz49_0 := blk_frozen BK189.out 0; have hfz49_1 := blk_frozen BK189.out 1; have hfz49_2 := blk_frozen BK189.out 2; obtain ⟨Ao50, co50, eo50⟩ := Kd.R_slice HO_190001.out
         subst eo50
         obtain ⟨Ao51, co51, eo51⟩ := Kd.R_slice HO_190002.out
         subst eo51
         go_wp2_with (first | ((with_reducible refine gate_callee (f := 33) rfl ?_); refine gL_ (some 48) Tryd.func33 #[.agg #[.int .i32 t182, .slice Ao50 x190001_2.length co50, .slice Ao51 x190002_2.length co51], .int .u8 x1_2, .int .u8 (rd l2 x41_2)] ?_; (with_reducible refine (adapt_change.calls k2 t182 (fun k_ => some k_ = (.slice Ao50 x190001_2.length co50 : Value).ownBlock) (.slice Ao50 x190001_2.length co50) x190001_2 (fun k_ => some k_ = (.slice Ao51 x190002_2.length co51 : Value).ownBlock) (.slice Ao51 x190002_2.length co51) x190002_2 x1_2 (rd l2 x41_2) t191 t192 t193 w _ ?side1 ?side2 ?side3 ?side4 ?side5 hT A37.out).mono ?_); (case side1 => repeat (first | (with_reducible first | exact HB.out | apply below_alloc | apply bN_ | apply below_drew1 | refine below_set ?_ GE178.out | refine below_set ?_ GE179.out | refine below_set ?_ GE189.out) | exact HB.out)); (case side2 => exact Kd.R_tight rfl HO_190001.out); (case side3 => exact fun k_ e_ => (HO_190001.out.1 k_ e_.symm)); (case side4 => exact Kd.R_tight rfl HO_190002.out); (case side5 => exact fun k_ e_ => (HO_190002.out.1 k_ e_.symm)); rintro e w52 ⟨rfl, hy0, hy1, hb, hkp⟩; refine ⟨_, rfl, ?_⟩; have n0_ := Aside0.mk (Kd.R_reok rfl hy0 (fun k_ e_ => HO_190001.out.1 k_ e_)); have n1_ := Aside0.mk (Kd.R_reok rfl hy1 (fun k_ e_ => HO_190002.out.1 k_ e_)); have n2_ := Aside0.mk (blk_kept (pG_ BK178.out) hkp (fun hs_ => Or.elim hs_ (fun e_ => (fun e_ => (Kd.R_ne HO_190001.out BK178.out (by decide)) e_) e_) (fun e_ => (fun e_ => (Kd.R_ne HO_190002.out BK178.out (by decide)) e_) e_))); have n3_ := Aside0.mk (blk_kept (pG_ BK179.out) hkp (fun hs_ => Or.elim hs_ (fun e_ => (fun e_ => (Kd.R_ne HO_190001.out BK179.out (by decide)) e_) e_) (fun e_ => (fun e_ => (Kd.R_ne HO_190002.out BK179.out (by decide)) e_) e_))); have n4_ := Aside0.mk (blk_kept (pG_ BK189.out) hkp (fun hs_ => Or.elim hs_ (fun e_ => (fun e_ => (Kd.R_ne HO_190001.out BK189.out (by decide)) e_) e_) (fun e_ => (fun e_ => (Kd.R_ne HO_190002.out BK189.out (by decide)) e_) e_))); have n5_ := Aside0.mk (hb); clear HO_190001; clear HO_190002; clear BK178; clear BK179; clear BK189; clear HB; have HO_190001 := n0_; have HO_190002 := n1_; have BK178 := n2_; have BK179 := n3_; have BK189 := n4_; have HB := n5_; clear n0_ n1_ n2_ n3_ n4_ n5_; (try clear hb); (try clear hkp); (try clear hy0); (try clear hy1); have hnb53 := NB179_178.out; have hnc53 := NB178_179.out; have hcz54_0 : w52.cell? ⟨gb179, 0, none⟩ = some (.int .i32 x180000_2) := (blk_cell BK179.out 0).trans rfl; have hcz54_1 : w52.cell? ⟨gb179, 1, none⟩ = some (.slice none 0 0) := (blk_cell BK179.out 1).trans rfl; have hcz54_2 : w52.cell? ⟨gb179, 2, none⟩ = some (.slice none 0 0) := (blk_cell BK179.out 2).trans rfl; have hfz54_0 := blk_frozen BK179.out 0; have hfz54_1 := blk_frozen BK179.out 1; have hfz54_2 := blk_frozen BK179.out 2))
         refine bodyPost_ret (results_ctt rfl _ _ gb179 24 #[.int .i32 0, .slice none 0 0, .slice none 0 0] (0, 0) _ rfl (by (with_reducible repeat (first | refine blk_drewN ?_ _ | refine blk_drew ?_ | refine blk_alloc ?_ _)); refine blk_put (cs := #[.int .i32 0, .slice none 0 0, .slice none 0 0]) ?_ 2 _ rfl; (with_reducible repeat (first | refine blk_drewN ?_ _ | refine blk_drew ?_ | refine blk_alloc ?_ _)); refine blk_put (cs := #[.int .i32 0, .slice none 0 0, .slice none 0 0]) ?_ 1 _ rfl; (with_reducible repeat (first | refine blk_drewN ?_ _ | refine blk_drew ?_ | refine blk_alloc ?_ _)); refine blk_put (cs := #[.int .i32 x180000_2, .slice none 0 0, .slice none 0 0]) ?_ 0 _ rfl; (with_reducible repeat (first | refine blk_drewN ?_ _ | refine blk_drew ?_ | refine blk_alloc ?_ _)); exact BK179.out) Tryd.underlying24 rfl (by kernel_rfl)) rfl ?_; exact ⟨_, _, by first | rfl | (simp [errW_none, errW_some] <;> rfl) | (simp [*, errW_none, errW_some] <;> rfl), by first | exact Kd.R_nil _ _ _ _ _ | exact Kd.N_nil _ _ _ _ _ | exact Kd.V_nil _ _ _ _ _ | exact Kd.Q_nil _ _ _ _ _ | exact Kd.S_nil _ _ _ _ _, by first | exact Kd.R_nil _ _ _ _ _ | exact Kd.N_nil _ _ _ _ _ | exact Kd.V_nil _ _ _ _ _ | exact Kd.Q_nil _ _ _ _ _ | exact Kd.S_nil _ _ _ _ _, pH_ HB.out⟩
       ·
        rw [if_neg c36] at H; exact absurd H (by simp)
      ·
       rw [if_neg c35] at H; exact absurd H (by simp)
     ·
      rw [if_neg c34] at H; have c34b0 : decide (x41_2 < (l2.length : Int)) = false := decide_eq_false c34; clear c34; simp only [Option.some.injEq, Prod.mk.injEq] at H; obtain ⟨rfl, rfl, rfl, rfl, rfl⟩ := H; have hnb55 := NB189_178.out; have hnc55 := NB178_189.out; have hnb56 := NB189_179.out; have hnc56 := NB179_189.out; have hcz57_0 : wr.cell? ⟨gb189, 0, none⟩ = some (.int .i32 t182) := (blk_cell BK189.out 0).trans rfl; have hcz57_1 : wr.cell? ⟨gb189, 1, none⟩ = some (u190001) := (blk_cell BK189.out 1).trans rfl; have hcz57_2 : wr.cell? ⟨gb189, 2, none⟩ = some (u190002) := (blk_cell BK189.out 2).trans rfl; have hfz57_0 := blk_frozen BK189.out 0; have hfz57_1 := blk_frozen BK189.out 1; have hfz57_2 := blk_frozen BK189.out 2; have hnb58 := NB179_178.out; have hnc58 := NB178_179.out; have hcz59_0 : wr.cell? ⟨gb179, 0, none⟩ = some (.int .i32 x180000_2) := (blk_cell BK179.out 0).trans rfl; have hcz59_1 : wr.cell? ⟨gb179, 1, none⟩ = some (.slice none 0 0) := (blk_cell BK179.out 1).trans rfl; have hcz59_2 : wr.cell? ⟨gb179, 2, none⟩ = some (.slice none 0 0) := (blk_cell BK179.out 2).trans rfl; have hfz59_0 := blk_frozen BK179.out 0; have hfz59_1 := blk_frozen BK179.out 1; have hfz59_2 := blk_frozen BK179.out 2; obtain ⟨Ao60, co60, eo60⟩ := Kd.R_slice HO_190001.out
      subst eo60
      obtain ⟨Ao61, co61, eo61⟩ := Kd.R_slice HO_190002.out
      subst eo61
      go_wp2
      refine bodyPost_ret (results_ctt rfl _ _ gb179 24 #[.int .i32 t182, .slice Ao60 x190001_2.length co60, .slice Ao61 x190002_2.length co61] (0, 0) _ rfl (by (with_reducible repeat (first | refine blk_drewN ?_ _ | refine blk_drew ?_ | refine blk_alloc ?_ _)); refine blk_put (cs := #[.int .i32 t182, .slice Ao60 x190001_2.length co60, .slice none 0 0]) ?_ 2 _ rfl; (with_reducible repeat (first | refine blk_drewN ?_ _ | refine blk_drew ?_ | refine blk_alloc ?_ _)); refine blk_put (cs := #[.int .i32 t182, .slice none 0 0, .slice none 0 0]) ?_ 1 _ rfl; (with_reducible repeat (first | refine blk_drewN ?_ _ | refine blk_drew ?_ | refine blk_alloc ?_ _)); refine blk_put (cs := #[.int .i32 x180000_2, .slice none 0 0, .slice none 0 0]) ?_ 0 _ rfl; (with_reducible repeat (first | refine blk_drewN ?_ _ | refine blk_drew ?_ | refine blk_alloc ?_ _)); exact BK179.out) Tryd.underlying24 rfl (by kernel_rfl)) rfl ?_; exact ⟨_, _, by first | rfl | (simp [errW_none, errW_some] <;> rfl) | (simp [*, errW_none, errW_some] <;> rfl), by (with_reducible repeat (first | apply rA_ | apply rN_ | apply rD_)); exact Kd.R_mono (Kd.R_far (p := ⟨gb179, 2, none⟩) (Kd.R_far (p := ⟨gb179, 1, none⟩) (Kd.R_far (p := ⟨gb179, 0, none⟩) (Kd.R_types HO_190001.out BK179.out (by decide)) (fun _ hk => hk.2) (.int .i32 t182)) (fun _ hk => hk.2) (.slice Ao60 x190001_2.length co60)) (fun _ hk => hk.2) (.slice Ao61 x190002_2.length co61)) (fun _ hk => hk.1), by (with_reducible repeat (first | apply rA_ | apply rN_ | apply rD_)); exact Kd.R_mono (Kd.R_far (p := ⟨gb179, 2, none⟩) (Kd.R_far (p := ⟨gb179, 1, none⟩) (Kd.R_far (p := ⟨gb179, 0, none⟩) (Kd.R_types HO_190002.out BK179.out (by decide)) (fun _ hk => hk.2) (.int .i32 t182)) (fun _ hk => hk.2) (.slice Ao60 x190001_2.length co60)) (fun _ hk => hk.2) (.slice Ao61 x190002_2.length co61)) (fun _ hk => hk.1), pH_ HB.out⟩

end Go.Proofs.YtmncppbhnjngkaaDoor.XAdaptRuns
