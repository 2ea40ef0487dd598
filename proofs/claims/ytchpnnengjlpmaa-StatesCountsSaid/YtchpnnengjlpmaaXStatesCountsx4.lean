-- Laid by a program of this session (wip/mkxprint.py, over the kit's print): Lean checks it.
import Derived.Test.YtchpnnengjlpmaaXStatesCountsx0
import Derived.Test.YtchpnnengjlpmaaXStatesCountsx1
import Derived.Test.YtchpnnengjlpmaaXStatesCountsx2
import Derived.Test.YtchpnnengjlpmaaXStatesCountsx3
namespace Go.Proofs.Ytchpnnengjlpmaa.XStatesCounts
open List (setIfInBounds_toArray set_cons_zero set_cons_succ)
open Go.RowKit Go.Proofs.YtchpnnengjlpmaaW.PrintWords Go.Proofs.YtchpnnengjlpmaaW.PrintLast Go.Proofs.YtchpnnengjlpmaaW.PrintMore
attribute [local go_sem] max2_int min2_int max_two min_two max_three min_three max_four min_four   -- for this text's walks alone
set_option linter.unusedVariables false
set_option linter.unusedSimpArgs false

attribute [local go_sem high] eqA30
/-! ### bitloftlaw08_StatesCounts: function 8 -/
mutual
def bitloftlaw08_StatesCounts.j1 : Nat → Int → Int → Bool → Int → Int → Int → Option (Bool)
  | 0, _, _, _, _, _, _ => none
  | k + 1, x0, x1, x80, x153000, x153001, x153002 => if x80 = true then (some false) else (if x1 > 1 then ((bitloftlaw08_alive.f k).bind fun t162 => (some t162)) else ((states_Next.f k x0 x1).bind fun bt163 => ((counts_Next.f x153000 x153001 x153002 x1).bind fun bt165 => ((states_Count.f bt163.1).bind fun bt170 => (if bt163.2 = 0 then (if bt165.2.2.2 = 0 then (if bt170.2.2.2 = 0 then (if (bt170.1 == bt165.1 && (bt170.2.1 == bt165.2.1 && (bt170.2.2.1 == bt165.2.2.1))) = true then (if bt163.1 = 0 then (bitloftlaw08_StatesCounts.j2 k false) else ((bitloftlaw08_alive.f k).bind fun t175 => (bitloftlaw08_StatesCounts.j2 k t175))) else (bitloftlaw08_StatesCounts.j2 k false)) else (bitloftlaw08_StatesCounts.j2 k false)) else (bitloftlaw08_StatesCounts.j2 k false)) else (bitloftlaw08_StatesCounts.j2 k false))))))
def bitloftlaw08_StatesCounts.j2 : Nat → Bool → Option (Bool)
  | 0, _ => none
  | k + 1, x4 => some x4
def bitloftlaw08_StatesCounts.j0 : Nat → Bool → Option (Bool)
  | 0, _ => none
  | k + 1, x4 => some x4
end
def bitloftlaw08_StatesCounts.f (k : Nat) (a0 : Int) (a1 : Int) : Option (Bool) := (states_Count.f a0).bind fun bt148 => ((bitloftref08_State.f a0).bind fun t153 => (if t153 = true then ((states_Number.f bt148.1 bt148.2.1 bt148.2.2.1).bind fun bt155 => ((states_Total.f a0).bind fun bt157 => ((counts_Total.f bt148.1 bt148.2.1 bt148.2.2.1).bind fun bt159 => (if bt148.2.2.2 = 0 then (if bt155.2 = 0 then (if bt157.2 = 0 then (if bt159.2 = 0 then (if bt155.1 = a0 then (if bt157.1 = bt159.1 then ((bitloftref07_Check.f k bt148.1 bt148.2.1 bt148.2.2.1).bind fun t161 => (bitloftlaw08_StatesCounts.j1 k a0 a1 (t161 != 0) bt148.1 bt148.2.1 bt148.2.2.1)) else (bitloftlaw08_StatesCounts.j1 k a0 a1 true bt148.1 bt148.2.1 bt148.2.2.1)) else (bitloftlaw08_StatesCounts.j1 k a0 a1 true bt148.1 bt148.2.1 bt148.2.2.1)) else (bitloftlaw08_StatesCounts.j1 k a0 a1 true bt148.1 bt148.2.1 bt148.2.2.1)) else (bitloftlaw08_StatesCounts.j1 k a0 a1 true bt148.1 bt148.2.1 bt148.2.2.1)) else (bitloftlaw08_StatesCounts.j1 k a0 a1 true bt148.1 bt148.2.1 bt148.2.2.1)) else (bitloftlaw08_StatesCounts.j1 k a0 a1 true bt148.1 bt148.2.1 bt148.2.2.1))))) else (if bt148.2.2.2 = 2 then (if (bt148.1 == 0 && (bt148.2.1 == 0 && (bt148.2.2.1 == 0))) = true then ((bitloftlaw08_alive.f k).bind fun t154 => (bitloftlaw08_StatesCounts.j0 k t154)) else (bitloftlaw08_StatesCounts.j0 k false)) else (bitloftlaw08_StatesCounts.j0 k false))))
theorem bitloftlaw08_StatesCounts.mono_l : ∀ k, (∀ y0 y1 y2 y3 y4 y5, LeO (bitloftlaw08_StatesCounts.j1 k y0 y1 y2 y3 y4 y5) (bitloftlaw08_StatesCounts.j1 (k + 1) y0 y1 y2 y3 y4 y5)) ∧ (∀ y0, LeO (bitloftlaw08_StatesCounts.j2 k y0) (bitloftlaw08_StatesCounts.j2 (k + 1) y0)) ∧ (∀ y0, LeO (bitloftlaw08_StatesCounts.j0 k y0) (bitloftlaw08_StatesCounts.j0 (k + 1) y0))
  | 0 => ⟨fun _ _ _ _ _ _ r h => by simp [bitloftlaw08_StatesCounts.j1] at h, fun _ r h => by simp [bitloftlaw08_StatesCounts.j2] at h, fun _ r h => by simp [bitloftlaw08_StatesCounts.j0] at h⟩
  | k + 1 => by
    obtain ⟨ih0, ih1, ih2⟩ := bitloftlaw08_StatesCounts.mono_l k
    refine ⟨?_, ?_, ?_⟩
    · intro y0 y1 y2 y3 y4 y5
      unfold bitloftlaw08_StatesCounts.j1
      repeat' first
      | (with_reducible exact ih0 _ _ _ _ _ _)
      | (with_reducible exact ih1 _)
      | (with_reducible exact ih2 _)
      | (with_reducible exact bitloftlaw08_alive.mono _)
      | (with_reducible exact bitloftref07_Check.mono _ _ _ _)
      | (with_reducible exact states_Next.mono _ _ _)
      | (with_reducible exact LeO.refl _)
      | (with_reducible exact LeO.none _)
      | (with_reducible refine LeO.ite ?_ ?_)
      | (with_reducible refine LeO.bind ?_ (fun _ => ?_))
      | exact ih0 _ _ _ _ _ _
      | exact ih1 _
      | exact ih2 _
      | exact bitloftlaw08_alive.mono _
      | exact bitloftref07_Check.mono _ _ _ _
      | exact states_Next.mono _ _ _
      | exact LeO.none _
      | refine LeO.ite ?_ ?_
      | refine LeO.bind ?_ (fun _ => ?_)
    · intro y0
      unfold bitloftlaw08_StatesCounts.j2
      repeat' first
      | (with_reducible exact ih0 _ _ _ _ _ _)
      | (with_reducible exact ih1 _)
      | (with_reducible exact ih2 _)
      | (with_reducible exact bitloftlaw08_alive.mono _)
      | (with_reducible exact bitloftref07_Check.mono _ _ _ _)
      | (with_reducible exact states_Next.mono _ _ _)
      | (with_reducible exact LeO.refl _)
      | (with_reducible exact LeO.none _)
      | (with_reducible refine LeO.ite ?_ ?_)
      | (with_reducible refine LeO.bind ?_ (fun _ => ?_))
      | exact ih0 _ _ _ _ _ _
      | exact ih1 _
      | exact ih2 _
      | exact bitloftlaw08_alive.mono _
      | exact bitloftref07_Check.mono _ _ _ _
      | exact states_Next.mono _ _ _
      | exact LeO.none _
      | refine LeO.ite ?_ ?_
      | refine LeO.bind ?_ (fun _ => ?_)
    · intro y0
      unfold bitloftlaw08_StatesCounts.j0
      repeat' first
      | (with_reducible exact ih0 _ _ _ _ _ _)
      | (with_reducible exact ih1 _)
      | (with_reducible exact ih2 _)
      | (with_reducible exact bitloftlaw08_alive.mono _)
      | (with_reducible exact bitloftref07_Check.mono _ _ _ _)
      | (with_reducible exact states_Next.mono _ _ _)
      | (with_reducible exact LeO.refl _)
      | (with_reducible exact LeO.none _)
      | (with_reducible refine LeO.ite ?_ ?_)
      | (with_reducible refine LeO.bind ?_ (fun _ => ?_))
      | exact ih0 _ _ _ _ _ _
      | exact ih1 _
      | exact ih2 _
      | exact bitloftlaw08_alive.mono _
      | exact bitloftref07_Check.mono _ _ _ _
      | exact states_Next.mono _ _ _
      | exact LeO.none _
      | refine LeO.ite ?_ ?_
      | refine LeO.bind ?_ (fun _ => ?_)
theorem bitloftlaw08_StatesCounts.mono : ∀ a0 a1 k, LeO (bitloftlaw08_StatesCounts.f k a0 a1) (bitloftlaw08_StatesCounts.f (k + 1) a0 a1) := by
  intro a0 a1 k
  obtain ⟨ih0, ih1, ih2⟩ := bitloftlaw08_StatesCounts.mono_l k
  unfold bitloftlaw08_StatesCounts.f
  repeat' first
      | (with_reducible exact ih0 _ _ _ _ _ _)
      | (with_reducible exact ih1 _)
      | (with_reducible exact ih2 _)
      | (with_reducible exact bitloftlaw08_alive.mono _)
      | (with_reducible exact bitloftref07_Check.mono _ _ _ _)
      | (with_reducible exact states_Next.mono _ _ _)
      | (with_reducible exact LeO.refl _)
      | (with_reducible exact LeO.none _)
      | (with_reducible refine LeO.ite ?_ ?_)
      | (with_reducible refine LeO.bind ?_ (fun _ => ?_))
      | exact ih0 _ _ _ _ _ _
      | exact ih1 _
      | exact ih2 _
      | exact bitloftlaw08_alive.mono _
      | exact bitloftref07_Check.mono _ _ _ _
      | exact states_Next.mono _ _ _
      | exact LeO.none _
      | refine LeO.ite ?_ ?_
      | refine LeO.bind ?_ (fun _ => ?_)
set_option maxHeartbeats 8000000 in
set_option maxRecDepth 100000 in
theorem bitloftlaw08_StatesCounts.calls (k : Nat) (a0 : Int) (a1 : Int) (r : Bool) (w : World) (h : bitloftlaw08_StatesCounts.f k a0 a1 = some r) :
    Calls Try.prog 8 #[.int .u8 a0, .int .u8 a1] w fun e w' => e = .returned (.bool r) ∧ Below w.heap.size w w' := by
  have hu30 := Try.underlying30
  have HB := Aside0.mk (Below.refl w.heap.size w)
  have H : ((states_Count.f a0).bind fun bt148 => ((bitloftref08_State.f a0).bind fun t153 => (if t153 = true then ((states_Number.f bt148.1 bt148.2.1 bt148.2.2.1).bind fun bt155 => ((states_Total.f a0).bind fun bt157 => ((counts_Total.f bt148.1 bt148.2.1 bt148.2.2.1).bind fun bt159 => (if bt148.2.2.2 = 0 then (if bt155.2 = 0 then (if bt157.2 = 0 then (if bt159.2 = 0 then (if bt155.1 = a0 then (if bt157.1 = bt159.1 then ((bitloftref07_Check.f k bt148.1 bt148.2.1 bt148.2.2.1).bind fun t161 => (bitloftlaw08_StatesCounts.j1 k a0 a1 (t161 != 0) bt148.1 bt148.2.1 bt148.2.2.1)) else (bitloftlaw08_StatesCounts.j1 k a0 a1 true bt148.1 bt148.2.1 bt148.2.2.1)) else (bitloftlaw08_StatesCounts.j1 k a0 a1 true bt148.1 bt148.2.1 bt148.2.2.1)) else (bitloftlaw08_StatesCounts.j1 k a0 a1 true bt148.1 bt148.2.1 bt148.2.2.1)) else (bitloftlaw08_StatesCounts.j1 k a0 a1 true bt148.1 bt148.2.1 bt148.2.2.1)) else (bitloftlaw08_StatesCounts.j1 k a0 a1 true bt148.1 bt148.2.1 bt148.2.2.1)) else (bitloftlaw08_StatesCounts.j1 k a0 a1 true bt148.1 bt148.2.1 bt148.2.2.1))))) else (if bt148.2.2.2 = 2 then (if (bt148.1 == 0 && (bt148.2.1 == 0 && (bt148.2.2.1 == 0))) = true then ((bitloftlaw08_alive.f k).bind fun t154 => (bitloftlaw08_StatesCounts.j0 k t154)) else (bitloftlaw08_StatesCounts.j0 k false)) else (bitloftlaw08_StatesCounts.j0 k false))))) = some r := h
  clear h
  replace H := Option.bind_eq_some_iff.mp H
  obtain ⟨⟨t148, t149, t150, t151⟩, A30, H⟩ := H
  replace H : ((bitloftref08_State.f a0).bind fun t153 => (if t153 = true then ((states_Number.f t148 t149 t150).bind fun bt155 => ((states_Total.f a0).bind fun bt157 => ((counts_Total.f t148 t149 t150).bind fun bt159 => (if t151 = 0 then (if bt155.2 = 0 then (if bt157.2 = 0 then (if bt159.2 = 0 then (if bt155.1 = a0 then (if bt157.1 = bt159.1 then ((bitloftref07_Check.f k t148 t149 t150).bind fun t161 => (bitloftlaw08_StatesCounts.j1 k a0 a1 (t161 != 0) t148 t149 t150)) else (bitloftlaw08_StatesCounts.j1 k a0 a1 true t148 t149 t150)) else (bitloftlaw08_StatesCounts.j1 k a0 a1 true t148 t149 t150)) else (bitloftlaw08_StatesCounts.j1 k a0 a1 true t148 t149 t150)) else (bitloftlaw08_StatesCounts.j1 k a0 a1 true t148 t149 t150)) else (bitloftlaw08_StatesCounts.j1 k a0 a1 true t148 t149 t150)) else (bitloftlaw08_StatesCounts.j1 k a0 a1 true t148 t149 t150))))) else (if t151 = 2 then (if (t148 == 0 && (t149 == 0 && (t150 == 0))) = true then ((bitloftlaw08_alive.f k).bind fun t154 => (bitloftlaw08_StatesCounts.j0 k t154)) else (bitloftlaw08_StatesCounts.j0 k false)) else (bitloftlaw08_StatesCounts.j0 k false)))) = some r := H
  have A3 := Aside0.mk A30
  clear A30
  replace H := Option.bind_eq_some_iff.mp H
  obtain ⟨t153, A40, H⟩ := H
  replace H : (if t153 = true then ((states_Number.f t148 t149 t150).bind fun bt155 => ((states_Total.f a0).bind fun bt157 => ((counts_Total.f t148 t149 t150).bind fun bt159 => (if t151 = 0 then (if bt155.2 = 0 then (if bt157.2 = 0 then (if bt159.2 = 0 then (if bt155.1 = a0 then (if bt157.1 = bt159.1 then ((bitloftref07_Check.f k t148 t149 t150).bind fun t161 => (bitloftlaw08_StatesCounts.j1 k a0 a1 (t161 != 0) t148 t149 t150)) else (bitloftlaw08_StatesCounts.j1 k a0 a1 true t148 t149 t150)) else (bitloftlaw08_StatesCounts.j1 k a0 a1 true t148 t149 t150)) else (bitloftlaw08_StatesCounts.j1 k a0 a1 true t148 t149 t150)) else (bitloftlaw08_StatesCounts.j1 k a0 a1 true t148 t149 t150)) else (bitloftlaw08_StatesCounts.j1 k a0 a1 true t148 t149 t150)) else (bitloftlaw08_StatesCounts.j1 k a0 a1 true t148 t149 t150))))) else (if t151 = 2 then (if (t148 == 0 && (t149 == 0 && (t150 == 0))) = true then ((bitloftlaw08_alive.f k).bind fun t154 => (bitloftlaw08_StatesCounts.j0 k t154)) else (bitloftlaw08_StatesCounts.j0 k false)) else (bitloftlaw08_StatesCounts.j0 k false))) = some r := H
  have A4 := Aside0.mk A40
  clear A40
  by_cases c5 : t153 = true
  · subst c5
    have H1 : ((states_Number.f t148 t149 t150).bind fun bt155 => ((states_Total.f a0).bind fun bt157 => ((counts_Total.f t148 t149 t150).bind fun bt159 => (if t151 = 0 then (if bt155.2 = 0 then (if bt157.2 = 0 then (if bt159.2 = 0 then (if bt155.1 = a0 then (if bt157.1 = bt159.1 then ((bitloftref07_Check.f k t148 t149 t150).bind fun t161 => (bitloftlaw08_StatesCounts.j1 k a0 a1 (t161 != 0) t148 t149 t150)) else (bitloftlaw08_StatesCounts.j1 k a0 a1 true t148 t149 t150)) else (bitloftlaw08_StatesCounts.j1 k a0 a1 true t148 t149 t150)) else (bitloftlaw08_StatesCounts.j1 k a0 a1 true t148 t149 t150)) else (bitloftlaw08_StatesCounts.j1 k a0 a1 true t148 t149 t150)) else (bitloftlaw08_StatesCounts.j1 k a0 a1 true t148 t149 t150)) else (bitloftlaw08_StatesCounts.j1 k a0 a1 true t148 t149 t150))))) = some r := by rw [if_pos rfl] at H; exact H
    clear H
    have H := H1
    clear H1
    replace H := Option.bind_eq_some_iff.mp H
    obtain ⟨⟨t155, t156⟩, A60, H⟩ := H
    replace H : ((states_Total.f a0).bind fun bt157 => ((counts_Total.f t148 t149 t150).bind fun bt159 => (if t151 = 0 then (if t156 = 0 then (if bt157.2 = 0 then (if bt159.2 = 0 then (if t155 = a0 then (if bt157.1 = bt159.1 then ((bitloftref07_Check.f k t148 t149 t150).bind fun t161 => (bitloftlaw08_StatesCounts.j1 k a0 a1 (t161 != 0) t148 t149 t150)) else (bitloftlaw08_StatesCounts.j1 k a0 a1 true t148 t149 t150)) else (bitloftlaw08_StatesCounts.j1 k a0 a1 true t148 t149 t150)) else (bitloftlaw08_StatesCounts.j1 k a0 a1 true t148 t149 t150)) else (bitloftlaw08_StatesCounts.j1 k a0 a1 true t148 t149 t150)) else (bitloftlaw08_StatesCounts.j1 k a0 a1 true t148 t149 t150)) else (bitloftlaw08_StatesCounts.j1 k a0 a1 true t148 t149 t150)))) = some r := H
    have A6 := Aside0.mk A60
    clear A60
    replace H := Option.bind_eq_some_iff.mp H
    obtain ⟨⟨t157, t158⟩, A70, H⟩ := H
    replace H : ((counts_Total.f t148 t149 t150).bind fun bt159 => (if t151 = 0 then (if t156 = 0 then (if t158 = 0 then (if bt159.2 = 0 then (if t155 = a0 then (if t157 = bt159.1 then ((bitloftref07_Check.f k t148 t149 t150).bind fun t161 => (bitloftlaw08_StatesCounts.j1 k a0 a1 (t161 != 0) t148 t149 t150)) else (bitloftlaw08_StatesCounts.j1 k a0 a1 true t148 t149 t150)) else (bitloftlaw08_StatesCounts.j1 k a0 a1 true t148 t149 t150)) else (bitloftlaw08_StatesCounts.j1 k a0 a1 true t148 t149 t150)) else (bitloftlaw08_StatesCounts.j1 k a0 a1 true t148 t149 t150)) else (bitloftlaw08_StatesCounts.j1 k a0 a1 true t148 t149 t150)) else (bitloftlaw08_StatesCounts.j1 k a0 a1 true t148 t149 t150))) = some r := H
    have A7 := Aside0.mk A70
    clear A70
    replace H := Option.bind_eq_some_iff.mp H
    obtain ⟨⟨t159, t160⟩, A80, H⟩ := H
    replace H : (if t151 = 0 then (if t156 = 0 then (if t158 = 0 then (if t160 = 0 then (if t155 = a0 then (if t157 = t159 then ((bitloftref07_Check.f k t148 t149 t150).bind fun t161 => (bitloftlaw08_StatesCounts.j1 k a0 a1 (t161 != 0) t148 t149 t150)) else (bitloftlaw08_StatesCounts.j1 k a0 a1 true t148 t149 t150)) else (bitloftlaw08_StatesCounts.j1 k a0 a1 true t148 t149 t150)) else (bitloftlaw08_StatesCounts.j1 k a0 a1 true t148 t149 t150)) else (bitloftlaw08_StatesCounts.j1 k a0 a1 true t148 t149 t150)) else (bitloftlaw08_StatesCounts.j1 k a0 a1 true t148 t149 t150)) else (bitloftlaw08_StatesCounts.j1 k a0 a1 true t148 t149 t150)) = some r := H
    have A8 := Aside0.mk A80
    clear A80
    have HC9 := Aside0.mk H
    clear H
    go_enter Try.func8, Try.ntmps8
    go_upto_region 7 with (first | ((with_reducible refine gate_callee (f := 14) rfl ?_); refine gL_ (some 21) Try.func14 #[.int .u8 a0] ?_; (with_reducible refine (states_Count.calls a0 t148 t149 t150 t151 _ A3.out).mono ?_); rintro e w10 ⟨rfl, hb⟩; refine ⟨_, rfl, ?_⟩; have n0_ := Aside0.mk (below_step (by repeat (first | (with_reducible first | exact HB.out | apply below_alloc | apply bN_ | apply below_drew1) | exact HB.out)) hb); clear HB; have HB := n0_; clear n0_; (try clear hb)) | ((with_reducible refine gate_dst (N := 5) rfl ?_); refine box_event ?hg (N := 5) ?hd (cs := #[.int .i32 0, .int .i32 0, .int .u8 0]) (t := 30) ?hr ?_; (case hd => rfl); (case hg => rfl); (case hr => first | (go_simp; done) | (go_simp; rfl)); intro gb152 hg w11 hbox hb; have n0_ := Aside0.mk (below_step (by repeat (first | (with_reducible first | exact HB.out | apply below_alloc | apply bN_ | apply below_drew1) | exact HB.out)) hb); have n1_ := Aside0.mk (hbox); have n2_ := Aside0.mk ((by rw [hg]; exact (below_size (by repeat (first | (with_reducible first | exact HB.out | apply below_alloc | apply bN_ | apply below_drew1) | exact HB.out))) : w.heap.size ≤ gb152)); have n3_ := Aside0.mk ((by rw [hg]; exact (below_size (by repeat (first | (with_reducible first | exact HB.out | apply below_alloc | apply bN_ | apply below_drew1) | exact HB.out))) : w.heap.size ≤ gb152)); clear HB; have HB := n0_; have BK152 := n1_; have GW152 := n2_; have GE152 := n3_; clear n0_ n1_ n2_ n3_; clear hb hbox hg; have hcz12_0 : w11.cell? ⟨gb152, 0, none⟩ = some (.int .i32 0) := (blk_cell BK152.out 0).trans rfl; have hcz12_1 : w11.cell? ⟨gb152, 1, none⟩ = some (.int .i32 0) := (blk_cell BK152.out 1).trans rfl; have hcz12_2 : w11.cell? ⟨gb152, 2, none⟩ = some (.int .u8 0) := (blk_cell BK152.out 2).trans rfl; have hfz12_0 := blk_frozen BK152.out 0; have hfz12_1 := blk_frozen BK152.out 1; have hfz12_2 := blk_frozen BK152.out 2) | ((with_reducible refine gate_callee (f := 16) rfl ?_); refine gL_ (some 25) Try.func16 #[.int .u8 a0] ?_; (with_reducible refine (bitloftref08_State.calls a0 true _ A4.out).mono ?_); rintro e w' ⟨rfl, ⟨nd, rfl⟩⟩; refine ⟨_, rfl, ?_⟩) | ((with_reducible refine gate_callee (f := 11) rfl ?_); refine gL_ (some 39) Try.func11 #[.agg #[.int .i32 t148, .int .i32 t149, .int .u8 t150]] ?_; (with_reducible refine (states_Number.calls t148 t149 t150 t155 t156 _ A6.out).mono ?_); rintro e w13 ⟨rfl, hb⟩; refine ⟨_, rfl, ?_⟩; have n0_ := Aside0.mk (blk_below (g := gb152) (o := .cells #[.int .i32 t148, .int .i32 t149, .int .u8 t150] 30 (0, 0)) (by (with_reducible repeat (first | refine blk_drewN ?_ _ | refine blk_drew ?_ | refine blk_alloc ?_ _)); refine blk_put (cs := #[.int .i32 t148, .int .i32 t149, .int .u8 0]) ?_ 2 _ rfl; (with_reducible repeat (first | refine blk_drewN ?_ _ | refine blk_drew ?_ | refine blk_alloc ?_ _)); refine blk_put (cs := #[.int .i32 t148, .int .i32 0, .int .u8 0]) ?_ 1 _ rfl; (with_reducible repeat (first | refine blk_drewN ?_ _ | refine blk_drew ?_ | refine blk_alloc ?_ _)); refine blk_put (cs := #[.int .i32 0, .int .i32 0, .int .u8 0]) ?_ 0 _ rfl; (with_reducible repeat (first | refine blk_drewN ?_ _ | refine blk_drew ?_ | refine blk_alloc ?_ _)); exact BK152.out) hb); have n1_ := Aside0.mk (below_step (by repeat (first | (with_reducible first | exact HB.out | apply below_alloc | apply bN_ | apply below_drew1 | refine below_set ?_ GE152.out) | exact HB.out)) hb); clear BK152; clear HB; have BK152 := n0_; have HB := n1_; clear n0_ n1_; (try clear hb)) | ((with_reducible refine gate_callee (f := 20) rfl ?_); refine gL_ (some 44) Try.func20 #[.int .u8 a0] ?_; (with_reducible refine (states_Total.calls a0 t157 t158 _ A7.out).mono ?_); rintro e w14 ⟨rfl, hb⟩; refine ⟨_, rfl, ?_⟩; have n0_ := Aside0.mk (blk_below (g := gb152) (o := .cells #[.int .i32 t148, .int .i32 t149, .int .u8 t150] 30 (0, 0)) (by (with_reducible repeat (first | refine blk_drewN ?_ _ | refine blk_drew ?_ | refine blk_alloc ?_ _)); exact BK152.out) hb); have n1_ := Aside0.mk (below_step (by repeat (first | (with_reducible first | exact HB.out | apply below_alloc | apply bN_ | apply below_drew1 | refine below_set ?_ GE152.out) | exact HB.out)) hb); clear BK152; clear HB; have BK152 := n0_; have HB := n1_; clear n0_ n1_; (try clear hb); have hcz15_0 : w14.cell? ⟨gb152, 0, none⟩ = some (.int .i32 t148) := (blk_cell BK152.out 0).trans rfl; have hcz15_1 : w14.cell? ⟨gb152, 1, none⟩ = some (.int .i32 t149) := (blk_cell BK152.out 1).trans rfl; have hcz15_2 : w14.cell? ⟨gb152, 2, none⟩ = some (.int .u8 t150) := (blk_cell BK152.out 2).trans rfl; have hfz15_0 := blk_frozen BK152.out 0; have hfz15_1 := blk_frozen BK152.out 1; have hfz15_2 := blk_frozen BK152.out 2) | ((with_reducible refine gate_callee (f := 25) rfl ?_); refine gL_ (some 49) Try.func25 #[.agg #[.int .i32 t148, .int .i32 t149, .int .u8 t150]] ?_; (with_reducible refine (counts_Total.calls t148 t149 t150 t159 t160 _ A8.out).mono ?_); rintro e w16 ⟨rfl, hb⟩; refine ⟨_, rfl, ?_⟩; have n0_ := Aside0.mk (blk_below (g := gb152) (o := .cells #[.int .i32 t148, .int .i32 t149, .int .u8 t150] 30 (0, 0)) (by (with_reducible repeat (first | refine blk_drewN ?_ _ | refine blk_drew ?_ | refine blk_alloc ?_ _)); exact BK152.out) hb); have n1_ := Aside0.mk (below_step (by repeat (first | (with_reducible first | exact HB.out | apply below_alloc | apply bN_ | apply below_drew1 | refine below_set ?_ GE152.out) | exact HB.out)) hb); clear BK152; clear HB; have BK152 := n0_; have HB := n1_; clear n0_ n1_; (try clear hb)))
    (try simp only [Act.put, setIfInBounds_toArray, set_cons_zero, set_cons_succ])
    go_cut [80] (fun v80 wc => ∃ (kq : Nat) (x80_8 : Bool), v80 = .bool x80_8 ∧ Aside0 (bitloftlaw08_StatesCounts.j1 kq a0 a1 x80_8 t148 t149 t150 = some r) ∧ Aside0 (kq ≤ k) ∧ Aside0 (wc.heap[gb152]? = some (.cells #[.int .i32 t148, .int .i32 t149, .int .u8 t150] 30 (0, 0))) ∧ Aside0 (Below w.heap.size w wc))
    case first =>
      have H := HC9.out
      clear HC9
      by_cases c17 : t151 = 0
      · rw [if_pos c17] at H
        have c17b0 : (t151 == 0) = true := beq_iff_eq.mpr c17
        have c17b1 : (t151 != 0) = false := bne_eq_false_iff_eq.mpr c17
        clear c17
        (first | rw [c17b0] | (simp only [i64_w, i32_w]; rw [c17b0]) | skip)
        by_cases c18 : t156 = 0
        · rw [if_pos c18] at H
          have c18b0 : (t156 == 0) = true := beq_iff_eq.mpr c18
          have c18b1 : (t156 != 0) = false := bne_eq_false_iff_eq.mpr c18
          clear c18
          by_cases c19 : t158 = 0
          · rw [if_pos c19] at H
            have c19b0 : (t158 == 0) = true := beq_iff_eq.mpr c19
            have c19b1 : (t158 != 0) = false := bne_eq_false_iff_eq.mpr c19
            clear c19
            by_cases c20 : t160 = 0
            · rw [if_pos c20] at H
              have c20b0 : (t160 == 0) = true := beq_iff_eq.mpr c20
              have c20b1 : (t160 != 0) = false := bne_eq_false_iff_eq.mpr c20
              clear c20
              by_cases c21 : t155 = a0
              · rw [if_pos c21] at H
                have c21b0 : (t155 == a0) = true := beq_iff_eq.mpr c21
                have c21b1 : (t155 != a0) = false := bne_eq_false_iff_eq.mpr c21
                clear c21
                by_cases c22 : t157 = t159
                · rw [if_pos c22] at H
                  have c22b0 : (t157 == t159) = true := beq_iff_eq.mpr c22
                  have c22b1 : (t157 != t159) = false := bne_eq_false_iff_eq.mpr c22
                  clear c22
                  replace H := Option.bind_eq_some_iff.mp H
                  obtain ⟨t161, A230, H⟩ := H
                  replace H : (bitloftlaw08_StatesCounts.j1 k a0 a1 (t161 != 0) t148 t149 t150) = some r := H
                  have A23 := Aside0.mk A230
                  clear A230
                  have H' := Aside0.mk H
                  clear H
                  have hcz24_0 : w16.cell? ⟨gb152, 0, none⟩ = some (.int .i32 t148) := (blk_cell BK152.out 0).trans rfl
                  have hcz24_1 : w16.cell? ⟨gb152, 1, none⟩ = some (.int .i32 t149) := (blk_cell BK152.out 1).trans rfl
                  have hcz24_2 : w16.cell? ⟨gb152, 2, none⟩ = some (.int .u8 t150) := (blk_cell BK152.out 2).trans rfl
                  have hfz24_0 := blk_frozen BK152.out 0
                  have hfz24_1 := blk_frozen BK152.out 1
                  have hfz24_2 := blk_frozen BK152.out 2
                  go_wp2_with (first | (go_at_call 12; (with_reducible refine (bitloftref07_Check.calls k t148 t149 t150 t161 _ A23.out).mono ?_); rintro e w25 ⟨rfl, hb⟩; have n0_ := Aside0.mk (blk_below (g := gb152) (o := .cells #[.int .i32 t148, .int .i32 t149, .int .u8 t150] 30 (0, 0)) (by (with_reducible repeat (first | refine blk_drewN ?_ _ | refine blk_drew ?_ | refine blk_alloc ?_ _)); exact BK152.out) hb); have n1_ := Aside0.mk (below_step (by repeat (first | (with_reducible first | exact HB.out | apply below_alloc | apply bN_ | apply below_drew1 | refine below_set ?_ GE152.out) | exact HB.out)) hb); clear BK152; clear HB; have BK152 := n0_; have HB := n1_; clear n0_ n1_; (try clear hb)))
                  go_meet
                  case rel => exact ⟨_, ((t161 != 0)), (by first | rfl | (simp; done) | (simp [*]; done)), H', ⟨by first | omega | exact Nat.le_refl _⟩, ⟨by (with_reducible repeat (first | refine blk_drewN ?_ _ | refine blk_drew ?_ | refine blk_alloc ?_ _)); exact BK152.out⟩, ⟨by repeat (first | (with_reducible first | exact HB.out | apply below_alloc | apply bN_ | apply below_drew1 | refine below_set ?_ GE152.out) | exact HB.out)⟩⟩
                · rw [if_neg c22] at H
                  have c22b0 : (t157 == t159) = false := beq_eq_false_iff_ne.mpr c22
                  have c22b1 : (t157 != t159) = true := bne_iff_ne.mpr c22
                  have H' := Aside0.mk H
                  clear H
                  go_wp2
                  go_meet
                  case rel => exact ⟨_, (true), (by first | rfl | (simp; done) | (simp [*]; done)), H', ⟨by first | omega | exact Nat.le_refl _⟩, ⟨by (with_reducible repeat (first | refine blk_drewN ?_ _ | refine blk_drew ?_ | refine blk_alloc ?_ _)); exact BK152.out⟩, ⟨by repeat (first | (with_reducible first | exact HB.out | apply below_alloc | apply bN_ | apply below_drew1 | refine below_set ?_ GE152.out) | exact HB.out)⟩⟩
              · rw [if_neg c21] at H
                have c21b0 : (t155 == a0) = false := beq_eq_false_iff_ne.mpr c21
                have c21b1 : (t155 != a0) = true := bne_iff_ne.mpr c21
                have H' := Aside0.mk H
                clear H
                go_wp2
                go_meet
                case rel => exact ⟨_, (true), (by first | rfl | (simp; done) | (simp [*]; done)), H', ⟨by first | omega | exact Nat.le_refl _⟩, ⟨by (with_reducible repeat (first | refine blk_drewN ?_ _ | refine blk_drew ?_ | refine blk_alloc ?_ _)); exact BK152.out⟩, ⟨by repeat (first | (with_reducible first | exact HB.out | apply below_alloc | apply bN_ | apply below_drew1 | refine below_set ?_ GE152.out) | exact HB.out)⟩⟩
            · rw [if_neg c20] at H
              have c20b0 : (t160 == 0) = false := beq_eq_false_iff_ne.mpr c20
              have c20b1 : (t160 != 0) = true := bne_iff_ne.mpr c20
              have H' := Aside0.mk H
              clear H
              go_wp2
              go_meet
              case rel => exact ⟨_, (true), (by first | rfl | (simp; done) | (simp [*]; done)), H', ⟨by first | omega | exact Nat.le_refl _⟩, ⟨by (with_reducible repeat (first | refine blk_drewN ?_ _ | refine blk_drew ?_ | refine blk_alloc ?_ _)); exact BK152.out⟩, ⟨by repeat (first | (with_reducible first | exact HB.out | apply below_alloc | apply bN_ | apply below_drew1 | refine below_set ?_ GE152.out) | exact HB.out)⟩⟩
          · rw [if_neg c19] at H
            have c19b0 : (t158 == 0) = false := beq_eq_false_iff_ne.mpr c19
            have c19b1 : (t158 != 0) = true := bne_iff_ne.mpr c19
            have H' := Aside0.mk H
            clear H
            go_wp2
            go_meet
            case rel => exact ⟨_, (true), (by first | rfl | (simp; done) | (simp [*]; done)), H', ⟨by first | omega | exact Nat.le_refl _⟩, ⟨by (with_reducible repeat (first | refine blk_drewN ?_ _ | refine blk_drew ?_ | refine blk_alloc ?_ _)); exact BK152.out⟩, ⟨by repeat (first | (with_reducible first | exact HB.out | apply below_alloc | apply bN_ | apply below_drew1 | refine below_set ?_ GE152.out) | exact HB.out)⟩⟩
        · rw [if_neg c18] at H
          have c18b0 : (t156 == 0) = false := beq_eq_false_iff_ne.mpr c18
          have c18b1 : (t156 != 0) = true := bne_iff_ne.mpr c18
          have H' := Aside0.mk H
          clear H
          go_wp2
          go_meet
          case rel => exact ⟨_, (true), (by first | rfl | (simp; done) | (simp [*]; done)), H', ⟨by first | omega | exact Nat.le_refl _⟩, ⟨by (with_reducible repeat (first | refine blk_drewN ?_ _ | refine blk_drew ?_ | refine blk_alloc ?_ _)); exact BK152.out⟩, ⟨by repeat (first | (with_reducible first | exact HB.out | apply below_alloc | apply bN_ | apply below_drew1 | refine below_set ?_ GE152.out) | exact HB.out)⟩⟩
      · rw [if_neg c17] at H
        have c17b0 : (t151 == 0) = false := beq_eq_false_iff_ne.mpr c17
        have c17b1 : (t151 != 0) = true := bne_iff_ne.mpr c17
        (first | rw [c17b0] | (simp only [i64_w, i32_w]; rw [c17b0]) | skip)
        have H' := Aside0.mk H
        clear H
        go_wp2
        go_meet
        case rel => exact ⟨_, (true), (by first | rfl | (simp; done) | (simp [*]; done)), H', ⟨by first | omega | exact Nat.le_refl _⟩, ⟨by (with_reducible repeat (first | refine blk_drewN ?_ _ | refine blk_drew ?_ | refine blk_alloc ?_ _)); exact BK152.out⟩, ⟨by repeat (first | (with_reducible first | exact HB.out | apply below_alloc | apply bN_ | apply below_drew1 | refine below_set ?_ GE152.out) | exact HB.out)⟩⟩
    case rest =>
      clear HC9
      try clear c1
      try clear c2
      try clear p2
      try clear c5
      try clear c8
      try clear c11
      try clear c14
      try clear c16
      try clear c17
      try clear c17b0
      try clear c17b1
      try clear c18
      try clear c18b0
      try clear c18b1
      try clear c19
      try clear c19b0
      try clear c19b1
      try clear c20
      try clear c20b0
      try clear c20b1
      try clear c21
      try clear c21b0
      try clear c21b1
      try clear c22
      try clear c22b0
      try clear c22b1
      try clear c25
      try clear hcz12_0
      try clear hcz12_1
      try clear hcz12_2
      try clear hcz15_0
      try clear hcz15_1
      try clear hcz15_2
      try clear hcz24_0
      try clear hcz24_1
      try clear hcz24_2
      try clear hfz12_0
      try clear hfz12_1
      try clear hfz12_2
      try clear hfz15_0
      try clear hfz15_1
      try clear hfz15_2
      try clear hfz24_0
      try clear hfz24_1
      try clear hfz24_2
      obtain ⟨kq, x80_8, rfl, HA, HJ8, BK152, HB⟩ := hcut
      cases kq with
      | zero => exact absurd HA.out (by simp [bitloftlaw08_StatesCounts.j1])
      | succ kj8 =>
        have H := HA.out
        clear HA
        simp only [bitloftlaw08_StatesCounts.j1] at H
        by_cases c26 : x80_8 = true
        · subst c26
          have H1 : (some false) = some r := by rw [if_pos rfl] at H; exact H
          clear H
          have H := H1
          clear H1
          obtain rfl := Option.some.inj H
          go_wp2
          go_ret
          exact ⟨by first | rfl | (simp [errW_none, errW_some] <;> rfl) | (simp [*, errW_none, errW_some] <;> rfl), by repeat (first | (with_reducible first | exact HB.out | apply below_alloc | apply bN_ | apply below_drew1 | refine below_set ?_ GE152.out) | exact HB.out)⟩
        · replace c26 := Bool.eq_false_iff.mpr c26
          subst c26
          have H1 : (if a1 > 1 then ((bitloftlaw08_alive.f kj8).bind fun t162 => (some t162)) else ((states_Next.f kj8 a0 a1).bind fun bt163 => ((counts_Next.f t148 t149 t150 a1).bind fun bt165 => ((states_Count.f bt163.1).bind fun bt170 => (if bt163.2 = 0 then (if bt165.2.2.2 = 0 then (if bt170.2.2.2 = 0 then (if (bt170.1 == bt165.1 && (bt170.2.1 == bt165.2.1 && (bt170.2.2.1 == bt165.2.2.1))) = true then (if bt163.1 = 0 then (bitloftlaw08_StatesCounts.j2 kj8 false) else ((bitloftlaw08_alive.f kj8).bind fun t175 => (bitloftlaw08_StatesCounts.j2 kj8 t175))) else (bitloftlaw08_StatesCounts.j2 kj8 false)) else (bitloftlaw08_StatesCounts.j2 kj8 false)) else (bitloftlaw08_StatesCounts.j2 kj8 false)) else (bitloftlaw08_StatesCounts.j2 kj8 false)))))) = some r := by rw [if_neg (show ¬ (false = true) by decide)] at H; exact H
          clear H
          have H := H1
          clear H1
          by_cases c27 : a1 > 1
          · rw [if_pos c27] at H
            have c27b0 : decide (1 < a1) = true := decide_eq_true c27
            clear c27
            replace H := Option.bind_eq_some_iff.mp H
            obtain ⟨t162, A280, H⟩ := H
            replace H : (some t162) = some r := H
            have A28 := Aside0.mk A280
            clear A280
            obtain rfl := Option.some.inj H
            go_wp2_with (first | ((with_reducible refine gate_callee (f := 13) rfl ?_); refine gL_ (some 83) Try.func13 #[] ?_; (with_reducible refine (bitloftlaw08_alive.calls kj8  t162 _ A28.out).mono ?_); rintro e w29 ⟨rfl, hb⟩; refine ⟨_, rfl, ?_⟩; have n0_ := Aside0.mk (blk_below (g := gb152) (o := .cells #[.int .i32 t148, .int .i32 t149, .int .u8 t150] 30 (0, 0)) (by (with_reducible repeat (first | refine blk_drewN ?_ _ | refine blk_drew ?_ | refine blk_alloc ?_ _)); exact BK152.out) hb); have n1_ := Aside0.mk (below_step (by repeat (first | (with_reducible first | exact HB.out | apply below_alloc | apply bN_ | apply below_drew1 | refine below_set ?_ GE152.out) | exact HB.out)) hb); clear BK152; clear HB; have BK152 := n0_; have HB := n1_; clear n0_ n1_; (try clear hb)))
            go_ret
            exact ⟨by first | rfl | (simp [errW_none, errW_some] <;> rfl) | (simp [*, errW_none, errW_some] <;> rfl), by repeat (first | (with_reducible first | exact HB.out | apply below_alloc | apply bN_ | apply below_drew1 | refine below_set ?_ GE152.out) | exact HB.out)⟩
          · rw [if_neg c27] at H
            have c27b0 : decide (1 < a1) = false := decide_eq_false c27
            clear c27
            replace H := Option.bind_eq_some_iff.mp H
            obtain ⟨⟨t163, t164⟩, A300, H⟩ := H
            replace H : ((counts_Next.f t148 t149 t150 a1).bind fun bt165 => ((states_Count.f t163).bind fun bt170 => (if t164 = 0 then (if bt165.2.2.2 = 0 then (if bt170.2.2.2 = 0 then (if (bt170.1 == bt165.1 && (bt170.2.1 == bt165.2.1 && (bt170.2.2.1 == bt165.2.2.1))) = true then (if t163 = 0 then (bitloftlaw08_StatesCounts.j2 kj8 false) else ((bitloftlaw08_alive.f kj8).bind fun t175 => (bitloftlaw08_StatesCounts.j2 kj8 t175))) else (bitloftlaw08_StatesCounts.j2 kj8 false)) else (bitloftlaw08_StatesCounts.j2 kj8 false)) else (bitloftlaw08_StatesCounts.j2 kj8 false)) else (bitloftlaw08_StatesCounts.j2 kj8 false)))) = some r := H
            have A30 := Aside0.mk A300
            clear A300
            replace H := Option.bind_eq_some_iff.mp H
            obtain ⟨⟨t165, t166, t167, t168⟩, A310, H⟩ := H
            replace H : ((states_Count.f t163).bind fun bt170 => (if t164 = 0 then (if t168 = 0 then (if bt170.2.2.2 = 0 then (if (bt170.1 == t165 && (bt170.2.1 == t166 && (bt170.2.2.1 == t167))) = true then (if t163 = 0 then (bitloftlaw08_StatesCounts.j2 kj8 false) else ((bitloftlaw08_alive.f kj8).bind fun t175 => (bitloftlaw08_StatesCounts.j2 kj8 t175))) else (bitloftlaw08_StatesCounts.j2 kj8 false)) else (bitloftlaw08_StatesCounts.j2 kj8 false)) else (bitloftlaw08_StatesCounts.j2 kj8 false)) else (bitloftlaw08_StatesCounts.j2 kj8 false))) = some r := H
            have A31 := Aside0.mk A310
            clear A310
            replace H := Option.bind_eq_some_iff.mp H
            obtain ⟨⟨t170, t171, t172, t173⟩, A320, H⟩ := H
            replace H : (if t164 = 0 then (if t168 = 0 then (if t173 = 0 then (if (t170 == t165 && (t171 == t166 && (t172 == t167))) = true then (if t163 = 0 then (bitloftlaw08_StatesCounts.j2 kj8 false) else ((bitloftlaw08_alive.f kj8).bind fun t175 => (bitloftlaw08_StatesCounts.j2 kj8 t175))) else (bitloftlaw08_StatesCounts.j2 kj8 false)) else (bitloftlaw08_StatesCounts.j2 kj8 false)) else (bitloftlaw08_StatesCounts.j2 kj8 false)) else (bitloftlaw08_StatesCounts.j2 kj8 false)) = some r := H
            have A32 := Aside0.mk A320
            clear A320
            have HC33 := Aside0.mk H
            clear H
            go_upto_region 14 with (first | ((with_reducible refine gate_callee (f := 19) rfl ?_); refine gL_ (some 87) Try.func19 #[.int .u8 a0, .int .u8 a1] ?_; (with_reducible refine (states_Next.calls kj8 a0 a1 t163 t164 _ A30.out).mono ?_); rintro e w34 ⟨rfl, hb⟩; refine ⟨_, rfl, ?_⟩; have n0_ := Aside0.mk (blk_below (g := gb152) (o := .cells #[.int .i32 t148, .int .i32 t149, .int .u8 t150] 30 (0, 0)) (by (with_reducible repeat (first | refine blk_drewN ?_ _ | refine blk_drew ?_ | refine blk_alloc ?_ _)); exact BK152.out) hb); have n1_ := Aside0.mk (below_step (by repeat (first | (with_reducible first | exact HB.out | apply below_alloc | apply bN_ | apply below_drew1 | refine below_set ?_ GE152.out) | exact HB.out)) hb); clear BK152; clear HB; have BK152 := n0_; have HB := n1_; clear n0_ n1_; (try clear hb); have hcz35_0 : w34.cell? ⟨gb152, 0, none⟩ = some (.int .i32 t148) := (blk_cell BK152.out 0).trans rfl; have hcz35_1 : w34.cell? ⟨gb152, 1, none⟩ = some (.int .i32 t149) := (blk_cell BK152.out 1).trans rfl; have hcz35_2 : w34.cell? ⟨gb152, 2, none⟩ = some (.int .u8 t150) := (blk_cell BK152.out 2).trans rfl; have hfz35_0 := blk_frozen BK152.out 0; have hfz35_1 := blk_frozen BK152.out 1; have hfz35_2 := blk_frozen BK152.out 2) | ((with_reducible refine gate_callee (f := 26) rfl ?_); refine gL_ (some 93) Try.func26 #[.agg #[.int .i32 t148, .int .i32 t149, .int .u8 t150], .int .u8 a1] ?_; (with_reducible refine (counts_Next.calls t148 t149 t150 a1 t165 t166 t167 t168 _ A31.out).mono ?_); rintro e w36 ⟨rfl, hb⟩; refine ⟨_, rfl, ?_⟩; have n0_ := Aside0.mk (blk_below (g := gb152) (o := .cells #[.int .i32 t148, .int .i32 t149, .int .u8 t150] 30 (0, 0)) (by (with_reducible repeat (first | refine blk_drewN ?_ _ | refine blk_drew ?_ | refine blk_alloc ?_ _)); exact BK152.out) hb); have n1_ := Aside0.mk (below_step (by repeat (first | (with_reducible first | exact HB.out | apply below_alloc | apply bN_ | apply below_drew1 | refine below_set ?_ GE152.out) | exact HB.out)) hb); clear BK152; clear HB; have BK152 := n0_; have HB := n1_; clear n0_ n1_; (try clear hb)) | ((with_reducible refine gate_dst (N := 15) rfl ?_); refine box_event ?hg (N := 15) ?hd (cs := #[.int .i32 0, .int .i32 0, .int .u8 0]) (t := 30) ?hr ?_; (case hd => rfl); (case hg => rfl); (case hr => first | (go_simp; done) | (go_simp; rfl)); intro gb169 hg w37 hbox hb; have n0_ := Aside0.mk (blk_below (g := gb152) (o := .cells #[.int .i32 t148, .int .i32 t149, .int .u8 t150] 30 (0, 0)) (by (with_reducible repeat (first | refine blk_drewN ?_ _ | refine blk_drew ?_ | refine blk_alloc ?_ _)); exact BK152.out) hb); have n1_ := Aside0.mk (below_step (by repeat (first | (with_reducible first | exact HB.out | apply below_alloc | apply bN_ | apply below_drew1 | refine below_set ?_ GE152.out) | exact HB.out)) hb); have n2_ := Aside0.mk (hbox); have n3_ := Aside0.mk ((by rw [hg]; exact (below_size (by repeat (first | (with_reducible first | exact HB.out | apply below_alloc | apply bN_ | apply below_drew1 | refine below_set ?_ GE152.out) | exact HB.out))) : w.heap.size ≤ gb169)); have n4_ := Aside0.mk ((by rw [hg]; exact (below_size (by repeat (first | (with_reducible first | exact HB.out | apply below_alloc | apply bN_ | apply below_drew1 | refine below_set ?_ GE152.out) | exact HB.out))) : w.heap.size ≤ gb169)); have n5_ := Aside0.mk ((by rw [hg]; exact Nat.ne_of_lt (blk_lt (g := gb152) (o := .cells #[.int .i32 t148, .int .i32 t149, .int .u8 t150] 30 (0, 0)) (by (with_reducible repeat (first | refine blk_drewN ?_ _ | refine blk_drew ?_ | refine blk_alloc ?_ _)); exact BK152.out)) : gb152 ≠ gb169)); have n6_ := Aside0.mk ((by rw [hg]; exact Nat.ne_of_gt (blk_lt (g := gb152) (o := .cells #[.int .i32 t148, .int .i32 t149, .int .u8 t150] 30 (0, 0)) (by (with_reducible repeat (first | refine blk_drewN ?_ _ | refine blk_drew ?_ | refine blk_alloc ?_ _)); exact BK152.out)) : gb169 ≠ gb152)); clear BK152; clear HB; have BK152 := n0_; have HB := n1_; have BK169 := n2_; have GW169 := n3_; have GE169 := n4_; have NB152_169 := n5_; have NB169_152 := n6_; clear n0_ n1_ n2_ n3_ n4_ n5_ n6_; clear hb hbox hg; have hnb38 := NB169_152.out; have hnc38 := NB152_169.out; have hcz39_0 : w37.cell? ⟨gb169, 0, none⟩ = some (.int .i32 0) := (blk_cell BK169.out 0).trans rfl; have hcz39_1 : w37.cell? ⟨gb169, 1, none⟩ = some (.int .i32 0) := (blk_cell BK169.out 1).trans rfl; have hcz39_2 : w37.cell? ⟨gb169, 2, none⟩ = some (.int .u8 0) := (blk_cell BK169.out 2).trans rfl; have hfz39_0 := blk_frozen BK169.out 0; have hfz39_1 := blk_frozen BK169.out 1; have hfz39_2 := blk_frozen BK169.out 2) | ((with_reducible refine gate_callee (f := 14) rfl ?_); refine gL_ (some 98) Try.func14 #[.int .u8 t163] ?_; (with_reducible refine (states_Count.calls t163 t170 t171 t172 t173 _ A32.out).mono ?_); rintro e w40 ⟨rfl, hb⟩; refine ⟨_, rfl, ?_⟩; have n0_ := Aside0.mk (blk_below (g := gb152) (o := .cells #[.int .i32 t148, .int .i32 t149, .int .u8 t150] 30 (0, 0)) (by (with_reducible repeat (first | refine blk_drewN ?_ _ | refine blk_drew ?_ | refine blk_alloc ?_ _)); refine blk_far ?_ NB152_169.out _; (with_reducible repeat (first | refine blk_drewN ?_ _ | refine blk_drew ?_ | refine blk_alloc ?_ _)); refine blk_far ?_ NB152_169.out _; (with_reducible repeat (first | refine blk_drewN ?_ _ | refine blk_drew ?_ | refine blk_alloc ?_ _)); refine blk_far ?_ NB152_169.out _; (with_reducible repeat (first | refine blk_drewN ?_ _ | refine blk_drew ?_ | refine blk_alloc ?_ _)); exact BK152.out) hb); have n1_ := Aside0.mk (blk_below (g := gb169) (o := .cells #[.int .i32 t165, .int .i32 t166, .int .u8 t167] 30 (0, 0)) (by (with_reducible repeat (first | refine blk_drewN ?_ _ | refine blk_drew ?_ | refine blk_alloc ?_ _)); refine blk_put (cs := #[.int .i32 t165, .int .i32 t166, .int .u8 0]) ?_ 2 _ rfl; (with_reducible repeat (first | refine blk_drewN ?_ _ | refine blk_drew ?_ | refine blk_alloc ?_ _)); refine blk_put (cs := #[.int .i32 t165, .int .i32 0, .int .u8 0]) ?_ 1 _ rfl; (with_reducible repeat (first | refine blk_drewN ?_ _ | refine blk_drew ?_ | refine blk_alloc ?_ _)); refine blk_put (cs := #[.int .i32 0, .int .i32 0, .int .u8 0]) ?_ 0 _ rfl; (with_reducible repeat (first | refine blk_drewN ?_ _ | refine blk_drew ?_ | refine blk_alloc ?_ _)); exact BK169.out) hb); have n2_ := Aside0.mk (below_step (by repeat (first | (with_reducible first | exact HB.out | apply below_alloc | apply bN_ | apply below_drew1 | refine below_set ?_ GE152.out | refine below_set ?_ GE169.out) | exact HB.out)) hb); clear BK152; clear BK169; clear HB; have BK152 := n0_; have BK169 := n1_; have HB := n2_; clear n0_ n1_ n2_; (try clear hb)) | ((with_reducible refine gate_dst (N := 17) rfl ?_); refine box_event ?hg (N := 17) ?hd (cs := #[.int .i32 0, .int .i32 0, .int .u8 0]) (t := 30) ?hr ?_; (case hd => rfl); (case hg => rfl); (case hr => first | (go_simp; done) | (go_simp; rfl)); intro gb174 hg w41 hbox hb; have n0_ := Aside0.mk (blk_below (g := gb152) (o := .cells #[.int .i32 t148, .int .i32 t149, .int .u8 t150] 30 (0, 0)) (by (with_reducible repeat (first | refine blk_drewN ?_ _ | refine blk_drew ?_ | refine blk_alloc ?_ _)); exact BK152.out) hb); have n1_ := Aside0.mk (blk_below (g := gb169) (o := .cells #[.int .i32 t165, .int .i32 t166, .int .u8 t167] 30 (0, 0)) (by (with_reducible repeat (first | refine blk_drewN ?_ _ | refine blk_drew ?_ | refine blk_alloc ?_ _)); exact BK169.out) hb); have n2_ := Aside0.mk (below_step (by repeat (first | (with_reducible first | exact HB.out | apply below_alloc | apply bN_ | apply below_drew1 | refine below_set ?_ GE152.out | refine below_set ?_ GE169.out) | exact HB.out)) hb); have n3_ := Aside0.mk (hbox); have n4_ := Aside0.mk ((by rw [hg]; exact (below_size (by repeat (first | (with_reducible first | exact HB.out | apply below_alloc | apply bN_ | apply below_drew1 | refine below_set ?_ GE152.out | refine below_set ?_ GE169.out) | exact HB.out))) : w.heap.size ≤ gb174)); have n5_ := Aside0.mk ((by rw [hg]; exact (below_size (by repeat (first | (with_reducible first | exact HB.out | apply below_alloc | apply bN_ | apply below_drew1 | refine below_set ?_ GE152.out | refine below_set ?_ GE169.out) | exact HB.out))) : w.heap.size ≤ gb174)); have n6_ := Aside0.mk ((by rw [hg]; exact Nat.ne_of_lt (blk_lt (g := gb152) (o := .cells #[.int .i32 t148, .int .i32 t149, .int .u8 t150] 30 (0, 0)) (by (with_reducible repeat (first | refine blk_drewN ?_ _ | refine blk_drew ?_ | refine blk_alloc ?_ _)); exact BK152.out)) : gb152 ≠ gb174)); have n7_ := Aside0.mk ((by rw [hg]; exact Nat.ne_of_gt (blk_lt (g := gb152) (o := .cells #[.int .i32 t148, .int .i32 t149, .int .u8 t150] 30 (0, 0)) (by (with_reducible repeat (first | refine blk_drewN ?_ _ | refine blk_drew ?_ | refine blk_alloc ?_ _)); exact BK152.out)) : gb174 ≠ gb152)); have n8_ := Aside0.mk ((by rw [hg]; exact Nat.ne_of_lt (blk_lt (g := gb169) (o := .cells #[.int .i32 t165, .int .i32 t166, .int .u8 t167] 30 (0, 0)) (by (with_reducible repeat (first | refine blk_drewN ?_ _ | refine blk_drew ?_ | refine blk_alloc ?_ _)); exact BK169.out)) : gb169 ≠ gb174)); have n9_ := Aside0.mk ((by rw [hg]; exact Nat.ne_of_gt (blk_lt (g := gb169) (o := .cells #[.int .i32 t165, .int .i32 t166, .int .u8 t167] 30 (0, 0)) (by (with_reducible repeat (first | refine blk_drewN ?_ _ | refine blk_drew ?_ | refine blk_alloc ?_ _)); exact BK169.out)) : gb174 ≠ gb169)); clear BK152; clear BK169; clear HB; have BK152 := n0_; have BK169 := n1_; have HB := n2_; have BK174 := n3_; have GW174 := n4_; have GE174 := n5_; have NB152_174 := n6_; have NB174_152 := n7_; have NB169_174 := n8_; have NB174_169 := n9_; clear n0_ n1_ n2_ n3_ n4_ n5_ n6_ n7_ n8_ n9_; clear hb hbox hg; have hnb42 := NB174_152.out; have hnc42 := NB152_174.out; have hnb43 := NB174_169.out; have hnc43 := NB169_174.out; have hcz44_0 : w41.cell? ⟨gb174, 0, none⟩ = some (.int .i32 0) := (blk_cell BK174.out 0).trans rfl; have hcz44_1 : w41.cell? ⟨gb174, 1, none⟩ = some (.int .i32 0) := (blk_cell BK174.out 1).trans rfl; have hcz44_2 : w41.cell? ⟨gb174, 2, none⟩ = some (.int .u8 0) := (blk_cell BK174.out 2).trans rfl; have hfz44_0 := blk_frozen BK174.out 0; have hfz44_1 := blk_frozen BK174.out 1; have hfz44_2 := blk_frozen BK174.out 2))
            (try simp only [Act.put, setIfInBounds_toArray, set_cons_zero, set_cons_succ])
            go_cut [4] (fun v4 wc => ∃ (kq : Nat) (x4_32 : Bool), v4 = .bool x4_32 ∧ Aside0 (bitloftlaw08_StatesCounts.j2 kq x4_32 = some r) ∧ Aside0 (kq ≤ kj8) ∧ Aside0 (wc.heap[gb152]? = some (.cells #[.int .i32 t148, .int .i32 t149, .int .u8 t150] 30 (0, 0))) ∧ Aside0 (wc.heap[gb169]? = some (.cells #[.int .i32 t165, .int .i32 t166, .int .u8 t167] 30 (0, 0))) ∧ Aside0 (wc.heap[gb174]? = some (.cells #[.int .i32 t170, .int .i32 t171, .int .u8 t172] 30 (0, 0))) ∧ Aside0 (Below w.heap.size w wc))
            case first =>
              have H := HC33.out
              clear HC33
              by_cases c45 : t164 = 0
              · rw [if_pos c45] at H
                have c45b0 : (t164 == 0) = true := beq_iff_eq.mpr c45
                have c45b1 : (t164 != 0) = false := bne_eq_false_iff_eq.mpr c45
                clear c45
                (first | rw [c45b0] | (simp only [i64_w, i32_w]; rw [c45b0]) | skip)
                by_cases c46 : t168 = 0
                · rw [if_pos c46] at H
                  have c46b0 : (t168 == 0) = true := beq_iff_eq.mpr c46
                  have c46b1 : (t168 != 0) = false := bne_eq_false_iff_eq.mpr c46
                  clear c46
                  by_cases c47 : t173 = 0
                  · rw [if_pos c47] at H
                    have c47b0 : (t173 == 0) = true := beq_iff_eq.mpr c47
                    have c47b1 : (t173 != 0) = false := bne_eq_false_iff_eq.mpr c47
                    clear c47
                    by_cases c48 : (t170 == t165 && (t171 == t166 && (t172 == t167))) = true
                    · rw [if_pos c48] at H
                      have c48b0 : (t170 == t165 && (t171 == t166 && (t172 == t167))) = true := c48
                      (try (have c48b1 : decide (t170 = t165 && (t171 == t166 && (t172 == t167))) = true := by simpa using c48))
                      (try (have c48b2 : (t170 == t165 && (t171 == t166 && (t172 == t167))) = true := by simpa using c48))
                      clear c48
                      by_cases c49 : t163 = 0
                      · rw [if_pos c49] at H
                        have c49b0 : (t163 == 0) = true := beq_iff_eq.mpr c49
                        have c49b1 : (t163 != 0) = false := bne_eq_false_iff_eq.mpr c49
                        clear c49
                        have H' := Aside0.mk H
                        clear H
                        have hnb50 := NB174_152.out
                        have hnc50 := NB152_174.out
                        have hnb51 := NB174_169.out
                        have hnc51 := NB169_174.out
                        have hcz52_0 : w41.cell? ⟨gb174, 0, none⟩ = some (.int .i32 0) := (blk_cell BK174.out 0).trans rfl
                        have hcz52_1 : w41.cell? ⟨gb174, 1, none⟩ = some (.int .i32 0) := (blk_cell BK174.out 1).trans rfl
                        have hcz52_2 : w41.cell? ⟨gb174, 2, none⟩ = some (.int .u8 0) := (blk_cell BK174.out 2).trans rfl
                        have hfz52_0 := blk_frozen BK174.out 0
                        have hfz52_1 := blk_frozen BK174.out 1
                        have hfz52_2 := blk_frozen BK174.out 2
                        have hnb53 := NB169_152.out
                        have hnc53 := NB152_169.out
                        have hcz54_0 : w41.cell? ⟨gb169, 0, none⟩ = some (.int .i32 t165) := (blk_cell BK169.out 0).trans rfl
                        have hcz54_1 : w41.cell? ⟨gb169, 1, none⟩ = some (.int .i32 t166) := (blk_cell BK169.out 1).trans rfl
                        have hcz54_2 : w41.cell? ⟨gb169, 2, none⟩ = some (.int .u8 t167) := (blk_cell BK169.out 2).trans rfl
                        have hfz54_0 := blk_frozen BK169.out 0
                        have hfz54_1 := blk_frozen BK169.out 1
                        have hfz54_2 := blk_frozen BK169.out 2
                        go_wp2
                        go_meet
                        case rel => exact ⟨_, (false), (by first | rfl | (simp; done) | (simp [*]; done)), H', ⟨by have := HJ8.out; first | omega | exact Nat.le_refl _⟩, ⟨by (with_reducible repeat (first | refine blk_drewN ?_ _ | refine blk_drew ?_ | refine blk_alloc ?_ _)); refine blk_far ?_ NB152_174.out _; (with_reducible repeat (first | refine blk_drewN ?_ _ | refine blk_drew ?_ | refine blk_alloc ?_ _)); refine blk_far ?_ NB152_174.out _; (with_reducible repeat (first | refine blk_drewN ?_ _ | refine blk_drew ?_ | refine blk_alloc ?_ _)); refine blk_far ?_ NB152_174.out _; (with_reducible repeat (first | refine blk_drewN ?_ _ | refine blk_drew ?_ | refine blk_alloc ?_ _)); exact BK152.out⟩, ⟨by (with_reducible repeat (first | refine blk_drewN ?_ _ | refine blk_drew ?_ | refine blk_alloc ?_ _)); refine blk_far ?_ NB169_174.out _; (with_reducible repeat (first | refine blk_drewN ?_ _ | refine blk_drew ?_ | refine blk_alloc ?_ _)); refine blk_far ?_ NB169_174.out _; (with_reducible repeat (first | refine blk_drewN ?_ _ | refine blk_drew ?_ | refine blk_alloc ?_ _)); refine blk_far ?_ NB169_174.out _; (with_reducible repeat (first | refine blk_drewN ?_ _ | refine blk_drew ?_ | refine blk_alloc ?_ _)); exact BK169.out⟩, ⟨by (with_reducible repeat (first | refine blk_drewN ?_ _ | refine blk_drew ?_ | refine blk_alloc ?_ _)); refine blk_put (cs := #[.int .i32 t170, .int .i32 t171, .int .u8 0]) ?_ 2 _ rfl; (with_reducible repeat (first | refine blk_drewN ?_ _ | refine blk_drew ?_ | refine blk_alloc ?_ _)); refine blk_put (cs := #[.int .i32 t170, .int .i32 0, .int .u8 0]) ?_ 1 _ rfl; (with_reducible repeat (first | refine blk_drewN ?_ _ | refine blk_drew ?_ | refine blk_alloc ?_ _)); refine blk_put (cs := #[.int .i32 0, .int .i32 0, .int .u8 0]) ?_ 0 _ rfl; (with_reducible repeat (first | refine blk_drewN ?_ _ | refine blk_drew ?_ | refine blk_alloc ?_ _)); exact BK174.out⟩, ⟨by repeat (first | (with_reducible first | exact HB.out | apply below_alloc | apply bN_ | apply below_drew1 | refine below_set ?_ GE152.out | refine below_set ?_ GE169.out | refine below_set ?_ GE174.out) | exact HB.out)⟩⟩
                      · rw [if_neg c49] at H
                        have c49b0 : (t163 == 0) = false := beq_eq_false_iff_ne.mpr c49
                        have c49b1 : (t163 != 0) = true := bne_iff_ne.mpr c49
                        replace H := Option.bind_eq_some_iff.mp H
                        obtain ⟨t175, A550, H⟩ := H
                        replace H : (bitloftlaw08_StatesCounts.j2 kj8 t175) = some r := H
                        have A55 := Aside0.mk A550
                        clear A550
                        have H' := Aside0.mk H
                        clear H
                        have hnb56 := NB174_152.out
                        have hnc56 := NB152_174.out
                        have hnb57 := NB174_169.out
                        have hnc57 := NB169_174.out
                        have hcz58_0 : w41.cell? ⟨gb174, 0, none⟩ = some (.int .i32 0) := (blk_cell BK174.out 0).trans rfl
                        have hcz58_1 : w41.cell? ⟨gb174, 1, none⟩ = some (.int .i32 0) := (blk_cell BK174.out 1).trans rfl
                        have hcz58_2 : w41.cell? ⟨gb174, 2, none⟩ = some (.int .u8 0) := (blk_cell BK174.out 2).trans rfl
                        have hfz58_0 := blk_frozen BK174.out 0
                        have hfz58_1 := blk_frozen BK174.out 1
                        have hfz58_2 := blk_frozen BK174.out 2
                        have hnb59 := NB169_152.out
                        have hnc59 := NB152_169.out
                        have hcz60_0 : w41.cell? ⟨gb169, 0, none⟩ = some (.int .i32 t165) := (blk_cell BK169.out 0).trans rfl
                        have hcz60_1 : w41.cell? ⟨gb169, 1, none⟩ = some (.int .i32 t166) := (blk_cell BK169.out 1).trans rfl
                        have hcz60_2 : w41.cell? ⟨gb169, 2, none⟩ = some (.int .u8 t167) := (blk_cell BK169.out 2).trans rfl
                        have hfz60_0 := blk_frozen BK169.out 0
                        have hfz60_1 := blk_frozen BK169.out 1
                        have hfz60_2 := blk_frozen BK169.out 2
                        go_wp2_with (first | (go_at_call 13; (with_reducible refine (bitloftlaw08_alive.calls kj8  t175 _ A55.out).mono ?_); rintro e w61 ⟨rfl, hb⟩; have n0_ := Aside0.mk (blk_below (g := gb152) (o := .cells #[.int .i32 t148, .int .i32 t149, .int .u8 t150] 30 (0, 0)) (by (with_reducible repeat (first | refine blk_drewN ?_ _ | refine blk_drew ?_ | refine blk_alloc ?_ _)); refine blk_far ?_ NB152_174.out _; (with_reducible repeat (first | refine blk_drewN ?_ _ | refine blk_drew ?_ | refine blk_alloc ?_ _)); refine blk_far ?_ NB152_174.out _; (with_reducible repeat (first | refine blk_drewN ?_ _ | refine blk_drew ?_ | refine blk_alloc ?_ _)); refine blk_far ?_ NB152_174.out _; (with_reducible repeat (first | refine blk_drewN ?_ _ | refine blk_drew ?_ | refine blk_alloc ?_ _)); exact BK152.out) hb); have n1_ := Aside0.mk (blk_below (g := gb169) (o := .cells #[.int .i32 t165, .int .i32 t166, .int .u8 t167] 30 (0, 0)) (by (with_reducible repeat (first | refine blk_drewN ?_ _ | refine blk_drew ?_ | refine blk_alloc ?_ _)); refine blk_far ?_ NB169_174.out _; (with_reducible repeat (first | refine blk_drewN ?_ _ | refine blk_drew ?_ | refine blk_alloc ?_ _)); refine blk_far ?_ NB169_174.out _; (with_reducible repeat (first | refine blk_drewN ?_ _ | refine blk_drew ?_ | refine blk_alloc ?_ _)); refine blk_far ?_ NB169_174.out _; (with_reducible repeat (first | refine blk_drewN ?_ _ | refine blk_drew ?_ | refine blk_alloc ?_ _)); exact BK169.out) hb); have n2_ := Aside0.mk (blk_below (g := gb174) (o := .cells #[.int .i32 t170, .int .i32 t171, .int .u8 t172] 30 (0, 0)) (by (with_reducible repeat (first | refine blk_drewN ?_ _ | refine blk_drew ?_ | refine blk_alloc ?_ _)); refine blk_put (cs := #[.int .i32 t170, .int .i32 t171, .int .u8 0]) ?_ 2 _ rfl; (with_reducible repeat (first | refine blk_drewN ?_ _ | refine blk_drew ?_ | refine blk_alloc ?_ _)); refine blk_put (cs := #[.int .i32 t170, .int .i32 0, .int .u8 0]) ?_ 1 _ rfl; (with_reducible repeat (first | refine blk_drewN ?_ _ | refine blk_drew ?_ | refine blk_alloc ?_ _)); refine blk_put (cs := #[.int .i32 0, .int .i32 0, .int .u8 0]) ?_ 0 _ rfl; (with_reducible repeat (first | refine blk_drewN ?_ _ | refine blk_drew ?_ | refine blk_alloc ?_ _)); exact BK174.out) hb); have n3_ := Aside0.mk (below_step (by repeat (first | (with_reducible first | exact HB.out | apply below_alloc | apply bN_ | apply below_drew1 | refine below_set ?_ GE152.out | refine below_set ?_ GE169.out | refine below_set ?_ GE174.out) | exact HB.out)) hb); clear BK152; clear BK169; clear BK174; clear HB; have BK152 := n0_; have BK169 := n1_; have BK174 := n2_; have HB := n3_; clear n0_ n1_ n2_ n3_; (try clear hb)))
                        go_meet
                        case rel => exact ⟨_, (t175), (by first | rfl | (simp; done) | (simp [*]; done)), H', ⟨by have := HJ8.out; first | omega | exact Nat.le_refl _⟩, ⟨by (with_reducible repeat (first | refine blk_drewN ?_ _ | refine blk_drew ?_ | refine blk_alloc ?_ _)); exact BK152.out⟩, ⟨by (with_reducible repeat (first | refine blk_drewN ?_ _ | refine blk_drew ?_ | refine blk_alloc ?_ _)); exact BK169.out⟩, ⟨by (with_reducible repeat (first | refine blk_drewN ?_ _ | refine blk_drew ?_ | refine blk_alloc ?_ _)); exact BK174.out⟩, ⟨by repeat (first | (with_reducible first | exact HB.out | apply below_alloc | apply bN_ | apply below_drew1 | refine below_set ?_ GE152.out | refine below_set ?_ GE169.out | refine below_set ?_ GE174.out) | exact HB.out)⟩⟩
                    · rw [if_neg c48] at H
                      have c48b0 : (t170 == t165 && (t171 == t166 && (t172 == t167))) = false := by simpa using c48
                      (try (have c48b1 : decide (t170 = t165 && (t171 == t166 && (t172 == t167))) = false := by simpa using c48))
                      (try (have c48b2 : (t170 == t165 && (t171 == t166 && (t172 == t167))) = false := by simpa using c48))
                      (try (have c48b3 : ¬ (t170 = t165 && (t171 == t166 && (t172 == t167))) := by simpa using c48))
                      clear c48
                      have H' := Aside0.mk H
                      clear H
                      have hnb62 := NB174_152.out
                      have hnc62 := NB152_174.out
                      have hnb63 := NB174_169.out
                      have hnc63 := NB169_174.out
                      have hcz64_0 : w41.cell? ⟨gb174, 0, none⟩ = some (.int .i32 0) := (blk_cell BK174.out 0).trans rfl
                      have hcz64_1 : w41.cell? ⟨gb174, 1, none⟩ = some (.int .i32 0) := (blk_cell BK174.out 1).trans rfl
                      have hcz64_2 : w41.cell? ⟨gb174, 2, none⟩ = some (.int .u8 0) := (blk_cell BK174.out 2).trans rfl
                      have hfz64_0 := blk_frozen BK174.out 0
                      have hfz64_1 := blk_frozen BK174.out 1
                      have hfz64_2 := blk_frozen BK174.out 2
                      have hnb65 := NB169_152.out
                      have hnc65 := NB152_169.out
                      have hcz66_0 : w41.cell? ⟨gb169, 0, none⟩ = some (.int .i32 t165) := (blk_cell BK169.out 0).trans rfl
                      have hcz66_1 : w41.cell? ⟨gb169, 1, none⟩ = some (.int .i32 t166) := (blk_cell BK169.out 1).trans rfl
                      have hcz66_2 : w41.cell? ⟨gb169, 2, none⟩ = some (.int .u8 t167) := (blk_cell BK169.out 2).trans rfl
                      have hfz66_0 := blk_frozen BK169.out 0
                      have hfz66_1 := blk_frozen BK169.out 1
                      have hfz66_2 := blk_frozen BK169.out 2
                      go_wp2
                      go_meet
                      case rel => exact ⟨_, (false), (by first | rfl | (simp; done) | (simp [*]; done)), H', ⟨by have := HJ8.out; first | omega | exact Nat.le_refl _⟩, ⟨by (with_reducible repeat (first | refine blk_drewN ?_ _ | refine blk_drew ?_ | refine blk_alloc ?_ _)); refine blk_far ?_ NB152_174.out _; (with_reducible repeat (first | refine blk_drewN ?_ _ | refine blk_drew ?_ | refine blk_alloc ?_ _)); refine blk_far ?_ NB152_174.out _; (with_reducible repeat (first | refine blk_drewN ?_ _ | refine blk_drew ?_ | refine blk_alloc ?_ _)); refine blk_far ?_ NB152_174.out _; (with_reducible repeat (first | refine blk_drewN ?_ _ | refine blk_drew ?_ | refine blk_alloc ?_ _)); exact BK152.out⟩, ⟨by (with_reducible repeat (first | refine blk_drewN ?_ _ | refine blk_drew ?_ | refine blk_alloc ?_ _)); refine blk_far ?_ NB169_174.out _; (with_reducible repeat (first | refine blk_drewN ?_ _ | refine blk_drew ?_ | refine blk_alloc ?_ _)); refine blk_far ?_ NB169_174.out _; (with_reducible repeat (first | refine blk_drewN ?_ _ | refine blk_drew ?_ | refine blk_alloc ?_ _)); refine blk_far ?_ NB169_174.out _; (with_reducible repeat (first | refine blk_drewN ?_ _ | refine blk_drew ?_ | refine blk_alloc ?_ _)); exact BK169.out⟩, ⟨by (with_reducible repeat (first | refine blk_drewN ?_ _ | refine blk_drew ?_ | refine blk_alloc ?_ _)); refine blk_put (cs := #[.int .i32 t170, .int .i32 t171, .int .u8 0]) ?_ 2 _ rfl; (with_reducible repeat (first | refine blk_drewN ?_ _ | refine blk_drew ?_ | refine blk_alloc ?_ _)); refine blk_put (cs := #[.int .i32 t170, .int .i32 0, .int .u8 0]) ?_ 1 _ rfl; (with_reducible repeat (first | refine blk_drewN ?_ _ | refine blk_drew ?_ | refine blk_alloc ?_ _)); refine blk_put (cs := #[.int .i32 0, .int .i32 0, .int .u8 0]) ?_ 0 _ rfl; (with_reducible repeat (first | refine blk_drewN ?_ _ | refine blk_drew ?_ | refine blk_alloc ?_ _)); exact BK174.out⟩, ⟨by repeat (first | (with_reducible first | exact HB.out | apply below_alloc | apply bN_ | apply below_drew1 | refine below_set ?_ GE152.out | refine below_set ?_ GE169.out | refine below_set ?_ GE174.out) | exact HB.out)⟩⟩
                  · rw [if_neg c47] at H
                    have c47b0 : (t173 == 0) = false := beq_eq_false_iff_ne.mpr c47
                    have c47b1 : (t173 != 0) = true := bne_iff_ne.mpr c47
                    have H' := Aside0.mk H
                    clear H
                    go_wp2
                    go_meet
                    case rel => exact ⟨_, (false), (by first | rfl | (simp; done) | (simp [*]; done)), H', ⟨by have := HJ8.out; first | omega | exact Nat.le_refl _⟩, ⟨by (with_reducible repeat (first | refine blk_drewN ?_ _ | refine blk_drew ?_ | refine blk_alloc ?_ _)); refine blk_far ?_ NB152_174.out _; (with_reducible repeat (first | refine blk_drewN ?_ _ | refine blk_drew ?_ | refine blk_alloc ?_ _)); refine blk_far ?_ NB152_174.out _; (with_reducible repeat (first | refine blk_drewN ?_ _ | refine blk_drew ?_ | refine blk_alloc ?_ _)); refine blk_far ?_ NB152_174.out _; (with_reducible repeat (first | refine blk_drewN ?_ _ | refine blk_drew ?_ | refine blk_alloc ?_ _)); exact BK152.out⟩, ⟨by (with_reducible repeat (first | refine blk_drewN ?_ _ | refine blk_drew ?_ | refine blk_alloc ?_ _)); refine blk_far ?_ NB169_174.out _; (with_reducible repeat (first | refine blk_drewN ?_ _ | refine blk_drew ?_ | refine blk_alloc ?_ _)); refine blk_far ?_ NB169_174.out _; (with_reducible repeat (first | refine blk_drewN ?_ _ | refine blk_drew ?_ | refine blk_alloc ?_ _)); refine blk_far ?_ NB169_174.out _; (with_reducible repeat (first | refine blk_drewN ?_ _ | refine blk_drew ?_ | refine blk_alloc ?_ _)); exact BK169.out⟩, ⟨by (with_reducible repeat (first | refine blk_drewN ?_ _ | refine blk_drew ?_ | refine blk_alloc ?_ _)); refine blk_put (cs := #[.int .i32 t170, .int .i32 t171, .int .u8 0]) ?_ 2 _ rfl; (with_reducible repeat (first | refine blk_drewN ?_ _ | refine blk_drew ?_ | refine blk_alloc ?_ _)); refine blk_put (cs := #[.int .i32 t170, .int .i32 0, .int .u8 0]) ?_ 1 _ rfl; (with_reducible repeat (first | refine blk_drewN ?_ _ | refine blk_drew ?_ | refine blk_alloc ?_ _)); refine blk_put (cs := #[.int .i32 0, .int .i32 0, .int .u8 0]) ?_ 0 _ rfl; (with_reducible repeat (first | refine blk_drewN ?_ _ | refine blk_drew ?_ | refine blk_alloc ?_ _)); exact BK174.out⟩, ⟨by repeat (first | (with_reducible first | exact HB.out | apply below_alloc | apply bN_ | apply below_drew1 | refine below_set ?_ GE152.out | refine below_set ?_ GE169.out | refine below_set ?_ GE174.out) | exact HB.out)⟩⟩
                · rw [if_neg c46] at H
                  have c46b0 : (t168 == 0) = false := beq_eq_false_iff_ne.mpr c46
                  have c46b1 : (t168 != 0) = true := bne_iff_ne.mpr c46
                  have H' := Aside0.mk H
                  clear H
                  go_wp2
                  go_meet
                  case rel => exact ⟨_, (false), (by first | rfl | (simp; done) | (simp [*]; done)), H', ⟨by have := HJ8.out; first | omega | exact Nat.le_refl _⟩, ⟨by (with_reducible repeat (first | refine blk_drewN ?_ _ | refine blk_drew ?_ | refine blk_alloc ?_ _)); refine blk_far ?_ NB152_174.out _; (with_reducible repeat (first | refine blk_drewN ?_ _ | refine blk_drew ?_ | refine blk_alloc ?_ _)); refine blk_far ?_ NB152_174.out _; (with_reducible repeat (first | refine blk_drewN ?_ _ | refine blk_drew ?_ | refine blk_alloc ?_ _)); refine blk_far ?_ NB152_174.out _; (with_reducible repeat (first | refine blk_drewN ?_ _ | refine blk_drew ?_ | refine blk_alloc ?_ _)); exact BK152.out⟩, ⟨by (with_reducible repeat (first | refine blk_drewN ?_ _ | refine blk_drew ?_ | refine blk_alloc ?_ _)); refine blk_far ?_ NB169_174.out _; (with_reducible repeat (first | refine blk_drewN ?_ _ | refine blk_drew ?_ | refine blk_alloc ?_ _)); refine blk_far ?_ NB169_174.out _; (with_reducible repeat (first | refine blk_drewN ?_ _ | refine blk_drew ?_ | refine blk_alloc ?_ _)); refine blk_far ?_ NB169_174.out _; (with_reducible repeat (first | refine blk_drewN ?_ _ | refine blk_drew ?_ | refine blk_alloc ?_ _)); exact BK169.out⟩, ⟨by (with_reducible repeat (first | refine blk_drewN ?_ _ | refine blk_drew ?_ | refine blk_alloc ?_ _)); refine blk_put (cs := #[.int .i32 t170, .int .i32 t171, .int .u8 0]) ?_ 2 _ rfl; (with_reducible repeat (first | refine blk_drewN ?_ _ | refine blk_drew ?_ | refine blk_alloc ?_ _)); refine blk_put (cs := #[.int .i32 t170, .int .i32 0, .int .u8 0]) ?_ 1 _ rfl; (with_reducible repeat (first | refine blk_drewN ?_ _ | refine blk_drew ?_ | refine blk_alloc ?_ _)); refine blk_put (cs := #[.int .i32 0, .int .i32 0, .int .u8 0]) ?_ 0 _ rfl; (with_reducible repeat (first | refine blk_drewN ?_ _ | refine blk_drew ?_ | refine blk_alloc ?_ _)); exact BK174.out⟩, ⟨by repeat (first | (with_reducible first | exact HB.out | apply below_alloc | apply bN_ | apply below_drew1 | refine below_set ?_ GE152.out | refine below_set ?_ GE169.out | refine below_set ?_ GE174.out) | exact HB.out)⟩⟩
              · rw [if_neg c45] at H
                have c45b0 : (t164 == 0) = false := beq_eq_false_iff_ne.mpr c45
                have c45b1 : (t164 != 0) = true := bne_iff_ne.mpr c45
                (first | rw [c45b0] | (simp only [i64_w, i32_w]; rw [c45b0]) | skip)
                have H' := Aside0.mk H
                clear H
                go_wp2
                go_meet
                case rel => exact ⟨_, (false), (by first | rfl | (simp; done) | (simp [*]; done)), H', ⟨by have := HJ8.out; first | omega | exact Nat.le_refl _⟩, ⟨by (with_reducible repeat (first | refine blk_drewN ?_ _ | refine blk_drew ?_ | refine blk_alloc ?_ _)); refine blk_far ?_ NB152_174.out _; (with_reducible repeat (first | refine blk_drewN ?_ _ | refine blk_drew ?_ | refine blk_alloc ?_ _)); refine blk_far ?_ NB152_174.out _; (with_reducible repeat (first | refine blk_drewN ?_ _ | refine blk_drew ?_ | refine blk_alloc ?_ _)); refine blk_far ?_ NB152_174.out _; (with_reducible repeat (first | refine blk_drewN ?_ _ | refine blk_drew ?_ | refine blk_alloc ?_ _)); exact BK152.out⟩, ⟨by (with_reducible repeat (first | refine blk_drewN ?_ _ | refine blk_drew ?_ | refine blk_alloc ?_ _)); refine blk_far ?_ NB169_174.out _; (with_reducible repeat (first | refine blk_drewN ?_ _ | refine blk_drew ?_ | refine blk_alloc ?_ _)); refine blk_far ?_ NB169_174.out _; (with_reducible repeat (first | refine blk_drewN ?_ _ | refine blk_drew ?_ | refine blk_alloc ?_ _)); refine blk_far ?_ NB169_174.out _; (with_reducible repeat (first | refine blk_drewN ?_ _ | refine blk_drew ?_ | refine blk_alloc ?_ _)); exact BK169.out⟩, ⟨by (with_reducible repeat (first | refine blk_drewN ?_ _ | refine blk_drew ?_ | refine blk_alloc ?_ _)); refine blk_put (cs := #[.int .i32 t170, .int .i32 t171, .int .u8 0]) ?_ 2 _ rfl; (with_reducible repeat (first | refine blk_drewN ?_ _ | refine blk_drew ?_ | refine blk_alloc ?_ _)); refine blk_put (cs := #[.int .i32 t170, .int .i32 0, .int .u8 0]) ?_ 1 _ rfl; (with_reducible repeat (first | refine blk_drewN ?_ _ | refine blk_drew ?_ | refine blk_alloc ?_ _)); refine blk_put (cs := #[.int .i32 0, .int .i32 0, .int .u8 0]) ?_ 0 _ rfl; (with_reducible repeat (first | refine blk_drewN ?_ _ | refine blk_drew ?_ | refine blk_alloc ?_ _)); exact BK174.out⟩, ⟨by repeat (first | (with_reducible first | exact HB.out | apply below_alloc | apply bN_ | apply below_drew1 | refine below_set ?_ GE152.out | refine below_set ?_ GE169.out | refine below_set ?_ GE174.out) | exact HB.out)⟩⟩
            case rest =>
              clear HC33
              try clear c1
              try clear c2
              try clear p2
              try clear c3
              try clear c4
              try clear c5
              try clear c6
              try clear c8
              try clear c11
              try clear c13
              try clear c14
              try clear c16
              try clear c17
              try clear c17b0
              try clear c17b1
              try clear c18
              try clear c18b0
              try clear c18b1
              try clear c19
              try clear c19b0
              try clear c19b1
              try clear c20
              try clear c20b0
              try clear c20b1
              try clear c21
              try clear c21b0
              try clear c21b1
              try clear c22
              try clear c22b0
              try clear c22b1
              try clear c25
              try clear c26
              try clear c27
              try clear c27b0
              try clear c38
              try clear c42
              try clear c43
              try clear c45
              try clear c45b0
              try clear c45b1
              try clear c46
              try clear c46b0
              try clear c46b1
              try clear c47
              try clear c47b0
              try clear c47b1
              try clear c48
              try clear c48b0
              try clear c48b1
              try clear c48b2
              try clear c49
              try clear c49b0
              try clear c49b1
              try clear c50
              try clear c51
              try clear c53
              try clear c56
              try clear c57
              try clear c59
              try clear c62
              try clear c63
              try clear c65
              try clear hcz12_0
              try clear hcz12_1
              try clear hcz12_2
              try clear hcz15_0
              try clear hcz15_1
              try clear hcz15_2
              try clear hcz24_0
              try clear hcz24_1
              try clear hcz24_2
              try clear hcz35_0
              try clear hcz35_1
              try clear hcz35_2
              try clear hcz39_0
              try clear hcz39_1
              try clear hcz39_2
              try clear hcz44_0
              try clear hcz44_1
              try clear hcz44_2
              try clear hcz52_0
              try clear hcz52_1
              try clear hcz52_2
              try clear hcz54_0
              try clear hcz54_1
              try clear hcz54_2
              try clear hcz58_0
              try clear hcz58_1
              try clear hcz58_2
              try clear hcz60_0
              try clear hcz60_1
              try clear hcz60_2
              try clear hcz64_0
              try clear hcz64_1
              try clear hcz64_2
              try clear hcz66_0
              try clear hcz66_1
              try clear hcz66_2
              try clear hfz12_0
              try clear hfz12_1
              try clear hfz12_2
              try clear hfz15_0
              try clear hfz15_1
              try clear hfz15_2
              try clear hfz24_0
              try clear hfz24_1
              try clear hfz24_2
              try clear hfz35_0
              try clear hfz35_1
              try clear hfz35_2
              try clear hfz39_0
              try clear hfz39_1
              try clear hfz39_2
              try clear hfz44_0
              try clear hfz44_1
              try clear hfz44_2
              try clear hfz52_0
              try clear hfz52_1
              try clear hfz52_2
              try clear hfz54_0
              try clear hfz54_1
              try clear hfz54_2
              try clear hfz58_0
              try clear hfz58_1
              try clear hfz58_2
              try clear hfz60_0
              try clear hfz60_1
              try clear hfz60_2
              try clear hfz64_0
              try clear hfz64_1
              try clear hfz64_2
              try clear hfz66_0
              try clear hfz66_1
              try clear hfz66_2
              try clear p2
              obtain ⟨kq, x4_32, rfl, HA, HJ32, BK152, BK169, BK174, HB⟩ := hcut
              cases kq with
              | zero => exact absurd HA.out (by simp [bitloftlaw08_StatesCounts.j2])
              | succ kj32 =>
                have H := HA.out
                clear HA
                simp only [bitloftlaw08_StatesCounts.j2] at H
                obtain rfl := Option.some.inj H
                go_wp2
                go_ret
                exact ⟨by first | rfl | (simp [errW_none, errW_some] <;> rfl) | (simp [*, errW_none, errW_some] <;> rfl), by repeat (first | (with_reducible first | exact HB.out | apply below_alloc | apply bN_ | apply below_drew1 | refine below_set ?_ GE152.out | refine below_set ?_ GE169.out | refine below_set ?_ GE174.out) | exact HB.out)⟩
  · replace c5 := Bool.eq_false_iff.mpr c5
    subst c5
    have H1 : (if t151 = 2 then (if (t148 == 0 && (t149 == 0 && (t150 == 0))) = true then ((bitloftlaw08_alive.f k).bind fun t154 => (bitloftlaw08_StatesCounts.j0 k t154)) else (bitloftlaw08_StatesCounts.j0 k false)) else (bitloftlaw08_StatesCounts.j0 k false)) = some r := by rw [if_neg (show ¬ (false = true) by decide)] at H; exact H
    clear H
    have H := H1
    clear H1
    have HC67 := Aside0.mk H
    clear H
    go_enter Try.func8, Try.ntmps8
    go_upto_region 3 with (first | ((with_reducible refine gate_callee (f := 14) rfl ?_); refine gL_ (some 21) Try.func14 #[.int .u8 a0] ?_; (with_reducible refine (states_Count.calls a0 t148 t149 t150 t151 _ A3.out).mono ?_); rintro e w68 ⟨rfl, hb⟩; refine ⟨_, rfl, ?_⟩; have n0_ := Aside0.mk (below_step (by repeat (first | (with_reducible first | exact HB.out | apply below_alloc | apply bN_ | apply below_drew1) | exact HB.out)) hb); clear HB; have HB := n0_; clear n0_; (try clear hb)) | ((with_reducible refine gate_dst (N := 5) rfl ?_); refine box_event ?hg (N := 5) ?hd (cs := #[.int .i32 0, .int .i32 0, .int .u8 0]) (t := 30) ?hr ?_; (case hd => rfl); (case hg => rfl); (case hr => first | (go_simp; done) | (go_simp; rfl)); intro gb152 hg w69 hbox hb; have n0_ := Aside0.mk (below_step (by repeat (first | (with_reducible first | exact HB.out | apply below_alloc | apply bN_ | apply below_drew1) | exact HB.out)) hb); have n1_ := Aside0.mk (hbox); have n2_ := Aside0.mk ((by rw [hg]; exact (below_size (by repeat (first | (with_reducible first | exact HB.out | apply below_alloc | apply bN_ | apply below_drew1) | exact HB.out))) : w.heap.size ≤ gb152)); have n3_ := Aside0.mk ((by rw [hg]; exact (below_size (by repeat (first | (with_reducible first | exact HB.out | apply below_alloc | apply bN_ | apply below_drew1) | exact HB.out))) : w.heap.size ≤ gb152)); clear HB; have HB := n0_; have BK152 := n1_; have GW152 := n2_; have GE152 := n3_; clear n0_ n1_ n2_ n3_; clear hb hbox hg; have hcz70_0 : w69.cell? ⟨gb152, 0, none⟩ = some (.int .i32 0) := (blk_cell BK152.out 0).trans rfl; have hcz70_1 : w69.cell? ⟨gb152, 1, none⟩ = some (.int .i32 0) := (blk_cell BK152.out 1).trans rfl; have hcz70_2 : w69.cell? ⟨gb152, 2, none⟩ = some (.int .u8 0) := (blk_cell BK152.out 2).trans rfl; have hfz70_0 := blk_frozen BK152.out 0; have hfz70_1 := blk_frozen BK152.out 1; have hfz70_2 := blk_frozen BK152.out 2) | ((with_reducible refine gate_callee (f := 16) rfl ?_); refine gL_ (some 25) Try.func16 #[.int .u8 a0] ?_; (with_reducible refine (bitloftref08_State.calls a0 false _ A4.out).mono ?_); rintro e w' ⟨rfl, ⟨nd, rfl⟩⟩; refine ⟨_, rfl, ?_⟩))
    (try simp only [Act.put, setIfInBounds_toArray, set_cons_zero, set_cons_succ])
    go_cut [4] (fun v4 wc => ∃ (kq : Nat) (x4_66 : Bool), v4 = .bool x4_66 ∧ Aside0 (bitloftlaw08_StatesCounts.j0 kq x4_66 = some r) ∧ Aside0 (kq ≤ k) ∧ Aside0 (wc.heap[gb152]? = some (.cells #[.int .i32 t148, .int .i32 t149, .int .u8 t150] 30 (0, 0))) ∧ Aside0 (Below w.heap.size w wc))
    case first =>
      have H := HC67.out
      clear HC67
      by_cases c71 : t151 = 2
      · rw [if_pos c71] at H
        have c71b0 : (t151 == 2) = true := beq_iff_eq.mpr c71
        have c71b1 : (t151 != 2) = false := bne_eq_false_iff_eq.mpr c71
        clear c71
        (first | rw [c71b0] | (simp only [i64_w, i32_w]; rw [c71b0]) | skip)
        by_cases c72 : (t148 == 0 && (t149 == 0 && (t150 == 0))) = true
        · rw [if_pos c72] at H
          have c72b0 : (t148 == 0 && (t149 == 0 && (t150 == 0))) = true := c72
          (try (have c72b1 : decide (t148 = 0 && (t149 == 0 && (t150 == 0))) = true := by simpa using c72))
          (try (have c72b2 : (t148 == 0 && (t149 == 0 && (t150 == 0))) = true := by simpa using c72))
          clear c72
          replace H := Option.bind_eq_some_iff.mp H
          obtain ⟨t154, A730, H⟩ := H
          replace H : (bitloftlaw08_StatesCounts.j0 k t154) = some r := H
          have A73 := Aside0.mk A730
          clear A730
          have H' := Aside0.mk H
          clear H
          have hcz74_0 : w69.cell? ⟨gb152, 0, none⟩ = some (.int .i32 0) := (blk_cell BK152.out 0).trans rfl
          have hcz74_1 : w69.cell? ⟨gb152, 1, none⟩ = some (.int .i32 0) := (blk_cell BK152.out 1).trans rfl
          have hcz74_2 : w69.cell? ⟨gb152, 2, none⟩ = some (.int .u8 0) := (blk_cell BK152.out 2).trans rfl
          have hfz74_0 := blk_frozen BK152.out 0
          have hfz74_1 := blk_frozen BK152.out 1
          have hfz74_2 := blk_frozen BK152.out 2
          go_wp2_with (first | (go_at_call 13; (with_reducible refine (bitloftlaw08_alive.calls k  t154 _ A73.out).mono ?_); rintro e w75 ⟨rfl, hb⟩; have n0_ := Aside0.mk (blk_below (g := gb152) (o := .cells #[.int .i32 t148, .int .i32 t149, .int .u8 t150] 30 (0, 0)) (by (with_reducible repeat (first | refine blk_drewN ?_ _ | refine blk_drew ?_ | refine blk_alloc ?_ _)); refine blk_put (cs := #[.int .i32 t148, .int .i32 t149, .int .u8 0]) ?_ 2 _ rfl; (with_reducible repeat (first | refine blk_drewN ?_ _ | refine blk_drew ?_ | refine blk_alloc ?_ _)); refine blk_put (cs := #[.int .i32 t148, .int .i32 0, .int .u8 0]) ?_ 1 _ rfl; (with_reducible repeat (first | refine blk_drewN ?_ _ | refine blk_drew ?_ | refine blk_alloc ?_ _)); refine blk_put (cs := #[.int .i32 0, .int .i32 0, .int .u8 0]) ?_ 0 _ rfl; (with_reducible repeat (first | refine blk_drewN ?_ _ | refine blk_drew ?_ | refine blk_alloc ?_ _)); exact BK152.out) hb); have n1_ := Aside0.mk (below_step (by repeat (first | (with_reducible first | exact HB.out | apply below_alloc | apply bN_ | apply below_drew1 | refine below_set ?_ GE152.out) | exact HB.out)) hb); clear BK152; clear HB; have BK152 := n0_; have HB := n1_; clear n0_ n1_; (try clear hb)))
          go_meet
          case rel => exact ⟨_, (t154), (by first | rfl | (simp; done) | (simp [*]; done)), H', ⟨by first | omega | exact Nat.le_refl _⟩, ⟨by (with_reducible repeat (first | refine blk_drewN ?_ _ | refine blk_drew ?_ | refine blk_alloc ?_ _)); exact BK152.out⟩, ⟨by repeat (first | (with_reducible first | exact HB.out | apply below_alloc | apply bN_ | apply below_drew1 | refine below_set ?_ GE152.out) | exact HB.out)⟩⟩
        · rw [if_neg c72] at H
          have c72b0 : (t148 == 0 && (t149 == 0 && (t150 == 0))) = false := by simpa using c72
          (try (have c72b1 : decide (t148 = 0 && (t149 == 0 && (t150 == 0))) = false := by simpa using c72))
          (try (have c72b2 : (t148 == 0 && (t149 == 0 && (t150 == 0))) = false := by simpa using c72))
          (try (have c72b3 : ¬ (t148 = 0 && (t149 == 0 && (t150 == 0))) := by simpa using c72))
          clear c72
          have H' := Aside0.mk H
          clear H
          have hcz76_0 : w69.cell? ⟨gb152, 0, none⟩ = some (.int .i32 0) := (blk_cell BK152.out 0).trans rfl
          have hcz76_1 : w69.cell? ⟨gb152, 1, none⟩ = some (.int .i32 0) := (blk_cell BK152.out 1).trans rfl
          have hcz76_2 : w69.cell? ⟨gb152, 2, none⟩ = some (.int .u8 0) := (blk_cell BK152.out 2).trans rfl
          have hfz76_0 := blk_frozen BK152.out 0
          have hfz76_1 := blk_frozen BK152.out 1
          have hfz76_2 := blk_frozen BK152.out 2
          go_wp2
          go_meet
          case rel => exact ⟨_, (false), (by first | rfl | (simp; done) | (simp [*]; done)), H', ⟨by first | omega | exact Nat.le_refl _⟩, ⟨by (with_reducible repeat (first | refine blk_drewN ?_ _ | refine blk_drew ?_ | refine blk_alloc ?_ _)); refine blk_put (cs := #[.int .i32 t148, .int .i32 t149, .int .u8 0]) ?_ 2 _ rfl; (with_reducible repeat (first | refine blk_drewN ?_ _ | refine blk_drew ?_ | refine blk_alloc ?_ _)); refine blk_put (cs := #[.int .i32 t148, .int .i32 0, .int .u8 0]) ?_ 1 _ rfl; (with_reducible repeat (first | refine blk_drewN ?_ _ | refine blk_drew ?_ | refine blk_alloc ?_ _)); refine blk_put (cs := #[.int .i32 0, .int .i32 0, .int .u8 0]) ?_ 0 _ rfl; (with_reducible repeat (first | refine blk_drewN ?_ _ | refine blk_drew ?_ | refine blk_alloc ?_ _)); exact BK152.out⟩, ⟨by repeat (first | (with_reducible first | exact HB.out | apply below_alloc | apply bN_ | apply below_drew1 | refine below_set ?_ GE152.out) | exact HB.out)⟩⟩
      · rw [if_neg c71] at H
        have c71b0 : (t151 == 2) = false := beq_eq_false_iff_ne.mpr c71
        have c71b1 : (t151 != 2) = true := bne_iff_ne.mpr c71
        (first | rw [c71b0] | (simp only [i64_w, i32_w]; rw [c71b0]) | skip)
        have H' := Aside0.mk H
        clear H
        go_wp2
        go_meet
        case rel => exact ⟨_, (false), (by first | rfl | (simp; done) | (simp [*]; done)), H', ⟨by first | omega | exact Nat.le_refl _⟩, ⟨by (with_reducible repeat (first | refine blk_drewN ?_ _ | refine blk_drew ?_ | refine blk_alloc ?_ _)); refine blk_put (cs := #[.int .i32 t148, .int .i32 t149, .int .u8 0]) ?_ 2 _ rfl; (with_reducible repeat (first | refine blk_drewN ?_ _ | refine blk_drew ?_ | refine blk_alloc ?_ _)); refine blk_put (cs := #[.int .i32 t148, .int .i32 0, .int .u8 0]) ?_ 1 _ rfl; (with_reducible repeat (first | refine blk_drewN ?_ _ | refine blk_drew ?_ | refine blk_alloc ?_ _)); refine blk_put (cs := #[.int .i32 0, .int .i32 0, .int .u8 0]) ?_ 0 _ rfl; (with_reducible repeat (first | refine blk_drewN ?_ _ | refine blk_drew ?_ | refine blk_alloc ?_ _)); exact BK152.out⟩, ⟨by repeat (first | (with_reducible first | exact HB.out | apply below_alloc | apply bN_ | apply below_drew1 | refine below_set ?_ GE152.out) | exact HB.out)⟩⟩
    case rest =>
      clear HC67
      try clear c1
      try clear c2
      try clear p2
      try clear c3
      try clear c4
      try clear c5
      try clear c6
      try clear c7
      try clear c8
      try clear c11
      try clear c13
      try clear c14
      try clear c16
      try clear c17
      try clear c17b0
      try clear c17b1
      try clear c18
      try clear c18b0
      try clear c18b1
      try clear c19
      try clear c19b0
      try clear c19b1
      try clear c20
      try clear c20b0
      try clear c20b1
      try clear c21
      try clear c21b0
      try clear c21b1
      try clear c22
      try clear c22b0
      try clear c22b1
      try clear c25
      try clear c26
      try clear c27
      try clear c27b0
      try clear c38
      try clear c42
      try clear c43
      try clear c45
      try clear c45b0
      try clear c45b1
      try clear c46
      try clear c46b0
      try clear c46b1
      try clear c47
      try clear c47b0
      try clear c47b1
      try clear c48
      try clear c48b0
      try clear c48b1
      try clear c48b2
      try clear c49
      try clear c49b0
      try clear c49b1
      try clear c50
      try clear c51
      try clear c53
      try clear c56
      try clear c57
      try clear c59
      try clear c62
      try clear c63
      try clear c65
      try clear c71
      try clear c71b0
      try clear c71b1
      try clear c72
      try clear c72b0
      try clear c72b1
      try clear c72b2
      try clear hcz12_0
      try clear hcz12_1
      try clear hcz12_2
      try clear hcz15_0
      try clear hcz15_1
      try clear hcz15_2
      try clear hcz24_0
      try clear hcz24_1
      try clear hcz24_2
      try clear hcz35_0
      try clear hcz35_1
      try clear hcz35_2
      try clear hcz39_0
      try clear hcz39_1
      try clear hcz39_2
      try clear hcz44_0
      try clear hcz44_1
      try clear hcz44_2
      try clear hcz52_0
      try clear hcz52_1
      try clear hcz52_2
      try clear hcz54_0
      try clear hcz54_1
      try clear hcz54_2
      try clear hcz58_0
      try clear hcz58_1
      try clear hcz58_2
      try clear hcz60_0
      try clear hcz60_1
      try clear hcz60_2
      try clear hcz64_0
      try clear hcz64_1
      try clear hcz64_2
      try clear hcz66_0
      try clear hcz66_1
      try clear hcz66_2
      try clear hcz70_0
      try clear hcz70_1
      try clear hcz70_2
      try clear hcz74_0
      try clear hcz74_1
      try clear hcz74_2
      try clear hcz76_0
      try clear hcz76_1
      try clear hcz76_2
      try clear hfz12_0
      try clear hfz12_1
      try clear hfz12_2
      try clear hfz15_0
      try clear hfz15_1
      try clear hfz15_2
      try clear hfz24_0
      try clear hfz24_1
      try clear hfz24_2
      try clear hfz35_0
      try clear hfz35_1
      try clear hfz35_2
      try clear hfz39_0
      try clear hfz39_1
      try clear hfz39_2
      try clear hfz44_0
      try clear hfz44_1
      try clear hfz44_2
      try clear hfz52_0
      try clear hfz52_1
      try clear hfz52_2
      try clear hfz54_0
      try clear hfz54_1
      try clear hfz54_2
      try clear hfz58_0
      try clear hfz58_1
      try clear hfz58_2
      try clear hfz60_0
      try clear hfz60_1
      try clear hfz60_2
      try clear hfz64_0
      try clear hfz64_1
      try clear hfz64_2
      try clear hfz66_0
      try clear hfz66_1
      try clear hfz66_2
      try clear hfz70_0
      try clear hfz70_1
      try clear hfz70_2
      try clear hfz74_0
      try clear hfz74_1
      try clear hfz74_2
      try clear hfz76_0
      try clear hfz76_1
      try clear hfz76_2
      try clear p2
      obtain ⟨kq, x4_66, rfl, HA, HJ66, BK152, HB⟩ := hcut
      cases kq with
      | zero => exact absurd HA.out (by simp [bitloftlaw08_StatesCounts.j0])
      | succ kj66 =>
        have H := HA.out
        clear HA
        simp only [bitloftlaw08_StatesCounts.j0] at H
        obtain rfl := Option.some.inj H
        go_wp2
        go_ret
        exact ⟨by first | rfl | (simp [errW_none, errW_some] <;> rfl) | (simp [*, errW_none, errW_some] <;> rfl), by repeat (first | (with_reducible first | exact HB.out | apply below_alloc | apply bN_ | apply below_drew1 | refine below_set ?_ GE152.out) | exact HB.out)⟩

/-- THE ONE PURE STATEMENT of bitloftlaw08_StatesCounts: yours. -/
def bitloftlaw08_StatesCounts.Pure : Prop := ∀ (a0 : Int) (a1 : Int), (Lit.int .u8 a0).wf = true → (Lit.int .u8 a1).wf = true → ∃ k, bitloftlaw08_StatesCounts.f k a0 a1 = some true
theorem bitloftlaw08_StatesCounts.walk (P : bitloftlaw08_StatesCounts.Pure) (a0 : Int) (a1 : Int) (w : World) (w0 : (Lit.int .u8 a0).wf = true) (w1 : (Lit.int .u8 a1).wf = true) :
    Calls Try.prog 8 #[.int .u8 a0, .int .u8 a1] w fun e w' => e = .returned (.bool true) ∧ Below w.heap.size w w' := by
  obtain ⟨k, h⟩ := P a0 a1 w0 w1
  refine (bitloftlaw08_StatesCounts.calls k a0 a1 true w h).mono ?_
  rintro e w' ⟨rfl, hd⟩
  exact ⟨rfl, hd⟩

end Go.Proofs.Ytchpnnengjlpmaa.XStatesCounts
