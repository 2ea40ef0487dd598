-- Laid by a program of this session (wip/mkxprint.py, over the kit's print): Lean checks it.
import Derived.Test.YtmncppbhnjngkaaDoorXAdaptMakesx0
import Derived.Test.YtmncppbhnjngkaaDoorXAdaptMakesx2
namespace Go.Proofs.YtmncppbhnjngkaaDoor.XAdaptMakes
open List (setIfInBounds_toArray set_cons_zero set_cons_succ)
open Go.RowKit Go.Proofs.YtmncppbhnjngkaaDoorW.PrintWords Go.Proofs.YtmncppbhnjngkaaDoorW.PrintLast Go.Proofs.YtmncppbhnjngkaaDoorW.PrintMore
attribute [local go_sem] max2_int min2_int max_two min_two max_three min_three max_four min_four   -- for this text's walks alone
set_option linter.unusedVariables false
set_option linter.unusedSimpArgs false

/-! ### recip_Step: function 49 -/
def recip_Step.j0 : Nat → Int → Int → Int → Bool → Option (Int × Int)
 | 0, _, _, _, _ => none
 | k + 1, x0, x1, x2, x19 => if x19 = true then (some (0, 2)) else ((recip_Div.f (wrap32 (x1 - x0)) x2).bind fun bt185 => (if bt185.2 = 0 then (some (wrap32 (x0 + bt185.1), 0)) else (some (0, bt185.2))))
def recip_Step.f (k : Nat) (a0 : Int) (a1 : Int) (a2 : Int) : Option (Int × Int) := if (mn a0 a1) < 0 then (recip_Step.j0 k a0 a1 a2 true) else (recip_Step.j0 k a0 a1 a2 (decide ((mx a0 a1) ≥ 65536)))
theorem recip_Step.mono_l : ∀ k, (∀ y0 y1 y2 y3, LeO (recip_Step.j0 k y0 y1 y2 y3) (recip_Step.j0 (k + 1) y0 y1 y2 y3))
 | 0 => fun _ _ _ _ r h => by simp [recip_Step.j0] at h
 | k + 1 => by
  have ih0 := recip_Step.mono_l k
  ·
   intro y0 y1 y2 y3
   unfold recip_Step.j0
   repeat' first
   | (with_reducible exact ih0 _ _ _ _)
   | (with_reducible exact LeO.refl _)
   | (with_reducible exact LeO.none _)
   | (with_reducible refine LeO.ite ?_ ?_)
   | (with_reducible refine LeO.bind ?_ (fun _ => ?_))
   | exact ih0 _ _ _ _
   | exact LeO.none _
   | refine LeO.ite ?_ ?_
   | refine LeO.bind ?_ (fun _ => ?_)
theorem recip_Step.mono : ∀ a0 a1 a2 k, LeO (recip_Step.f k a0 a1 a2) (recip_Step.f (k + 1) a0 a1 a2) := by
 intro a0 a1 a2 k; have ih0 := recip_Step.mono_l k
 unfold recip_Step.f
 repeat' first
   | (with_reducible exact ih0 _ _ _ _)
   | (with_reducible exact LeO.refl _)
   | (with_reducible exact LeO.none _)
   | (with_reducible refine LeO.ite ?_ ?_)
   | (with_reducible refine LeO.bind ?_ (fun _ => ?_))
   | exact ih0 _ _ _ _
   | exact LeO.none _
   | refine LeO.ite ?_ ?_
   | refine LeO.bind ?_ (fun _ => ?_)
set_option maxHeartbeats 8000000 in
set_option maxRecDepth 100000 in
theorem recip_Step.calls (k : Nat) (a0 : Int) (a1 : Int) (a2 : Int) (r1 : Int) (r2 : Int) (w : World) (h : recip_Step.f k a0 a1 a2 = some (r1, r2)) :
  Calls Tryd.prog 49 #[.int .i32 a0, .int .i32 a1, .int .i32 a2] w fun e w' => e = .returned (.tuple #[.int .i32 r1, .int .i64 r2]) ∧ Below w.heap.size w w' := by
 have HB := Aside0.mk (Below.refl w.heap.size w); have H : (if (mn a0 a1) < 0 then (recip_Step.j0 k a0 a1 a2 true) else (recip_Step.j0 k a0 a1 a2 (decide ((mx a0 a1) ≥ 65536)))) = some (r1, r2) := h; clear h; have HC4 := Aside0.mk H; clear H
 go_enter Tryd.func49, Tryd.ntmps49
 go_upto_region 1 with (fail)
 (with_reducible first | refine then_id_ ?_ | (refine wp_tail_ ?_; intro Kt_ hKt_))
 go_cut [19] (fun v19 wc => ∃ (kq : Nat) (x19_3 : Bool), v19 = .bool x19_3 ∧ Aside0 (recip_Step.j0 kq a0 a1 a2 x19_3 = some (r1, r2)) ∧ Aside0 (kq ≤ k) ∧ Aside0 (Below w.heap.size w wc))
 case first =>
  have H := HC4.out; clear HC4; obtain ⟨ji5, hji5⟩ : ∃ j_ : Int, (mn a0 a1) = j_ := ⟨_, rfl⟩
  replace H : (if (ji5) < 0 then (recip_Step.j0 k a0 a1 a2 true) else (recip_Step.j0 k a0 a1 a2 (decide ((mx a0 a1) ≥ 65536)))) = some (r1, r2) := by first | (rw [hji5] at H; exact H) | (simp only [hji5] at H ⊢; exact H)
  have hji5_ : (if a1 < a0 then a1 else a0) = ji5 := hji5
  by_cases c6 : (ji5) < 0
  ·
   rw [if_pos c6] at H; have c6b0 : decide ((ji5) < 0) = true := decide_eq_true c6; clear c6; (first | rw [c6b0] | (simp only [i64_w, i32_w]; rw [c6b0]) | skip); have H' := Aside0.mk H; clear H
   go_wp2
   (first | go_meet | (refine Met.intro ?_; go_step; (repeat apply Exists.intro); refine ⟨?rel, ?eqf_⟩; case eqf_ => ((simp only [c6b0]) <;> rfl)))
   case rel => exact ⟨_, (true), (by first | rfl | (simp; done) | (simp [*]; done)), H', ⟨by first | omega | exact Nat.le_refl _⟩, ⟨pH_ HB.out⟩⟩
  ·
   rw [if_neg c6] at H; have c6b0 : decide ((ji5) < 0) = false := decide_eq_false c6; clear c6; (first | rw [c6b0] | (simp only [i64_w, i32_w]; rw [c6b0]) | skip); obtain ⟨ji7, hji7⟩ : ∃ j_ : Int, (mx a0 a1) = j_ := ⟨_, rfl⟩
   replace H : (recip_Step.j0 k a0 a1 a2 (decide ((ji7) ≥ 65536))) = some (r1, r2) := by first | (rw [hji7] at H; exact H) | (simp only [hji7] at H ⊢; exact H)
   have hji7_ : (if a0 < a1 then a1 else a0) = ji7 := hji7; have H' := Aside0.mk H; clear H
   go_wp2
   (first | go_meet | (refine Met.intro ?_; go_step; (repeat apply Exists.intro); refine ⟨?rel, ?eqf_⟩; case eqf_ => ((simp only [c6b0]) <;> rfl)))
   case rel => exact ⟨_, (decide ((ji7) ≥ 65536)), (by first | rfl | (simp; done) | (simp only [← hji7] <;> (first | rfl | simp)) | (simp [*]; done)), H', ⟨by first | omega | exact Nat.le_refl _⟩, ⟨pH_ HB.out⟩⟩
 case rest =>
  (try (refine hKt_ _ _ ?_; clear hKt_; clear Kt_)); clear HC4
  try clear p2
  try clear c4
  try clear c6
  try clear c6b0
  obtain ⟨kq, x19_3, rfl, HA, HJ3, HB⟩ := hcut
  cases kq with
  | zero => exact absurd HA.out (by simp [recip_Step.j0])
  | succ kj3 =>
   have H := HA.out; clear HA; simp only [recip_Step.j0] at H
   by_cases c8 : x19_3 = true
   ·
    subst c8
    have H1 : (some (0, 2)) = some (r1, r2) := by rw [if_pos rfl] at H; exact H
    clear H; have H := H1; clear H1; simp only [Option.some.injEq, Prod.mk.injEq] at H; obtain ⟨rfl, rfl⟩ := H
    go_wp2
    go_ret2
    exact ⟨by first | rfl | (simp [errW_none, errW_some] <;> rfl) | (simp [*, errW_none, errW_some] <;> rfl), pH_ HB.out⟩
   ·
    replace c8 := Bool.eq_false_iff.mpr c8
    subst c8
    have H1 : ((recip_Div.f (wrap32 (a1 - a0)) a2).bind fun bt185 => (if bt185.2 = 0 then (some (wrap32 (a0 + bt185.1), 0)) else (some (0, bt185.2)))) = some (r1, r2) := by rw [if_neg (show ¬ (false = true) by decide)] at H; exact H
    clear H; have H := H1; clear H1; replace H := Option.bind_eq_some_iff.mp H; obtain ⟨⟨t185, t186⟩, A90, H⟩ := H; replace H : (if t186 = 0 then (some (wrap32 (a0 + t185), 0)) else (some (0, t186))) = some (r1, r2) := H; have A9 := Aside0.mk A90; clear A90
    by_cases c10 : t186 = 0
    ·
     rw [if_pos c10] at H; have c10b0 : (t186 == 0) = true := beq_iff_eq.mpr c10; have c10b1 : (t186 != 0) = false := bne_eq_false_iff_eq.mpr c10; clear c10; simp only [Option.some.injEq, Prod.mk.injEq] at H; obtain ⟨rfl, rfl⟩ := H
     go_wp2_with (first | ((with_reducible refine gate_callee (f := 62) rfl ?_); refine gL_ (some 25) Tryd.func62 #[.int .i32 (wrap32 (a1 - a0)), .int .i32 a2] ?_; (with_reducible refine (recip_Div.calls (wrap32 (a1 - a0)) a2 t185 t186 _ A9.out).mono ?_); rintro e w' ⟨rfl, ⟨nd, rfl⟩⟩; refine ⟨_, rfl, ?_⟩))
     go_ret2
     exact ⟨by first | rfl | (simp [errW_none, errW_some] <;> rfl) | (simp [*, errW_none, errW_some] <;> rfl), pH_ HB.out⟩
    ·
     rw [if_neg c10] at H; have c10b0 : (t186 == 0) = false := beq_eq_false_iff_ne.mpr c10; have c10b1 : (t186 != 0) = true := bne_iff_ne.mpr c10; simp only [Option.some.injEq, Prod.mk.injEq] at H; obtain ⟨rfl, rfl⟩ := H
     go_wp2_with (first | ((with_reducible refine gate_callee (f := 62) rfl ?_); refine gL_ (some 25) Tryd.func62 #[.int .i32 (wrap32 (a1 - a0)), .int .i32 a2] ?_; (with_reducible refine (recip_Div.calls (wrap32 (a1 - a0)) a2 t185 t186 _ A9.out).mono ?_); rintro e w' ⟨rfl, ⟨nd, rfl⟩⟩; refine ⟨_, rfl, ?_⟩))
     go_ret2
     exact ⟨by first | rfl | (simp [errW_none, errW_some] <;> rfl) | (simp [*, errW_none, errW_some] <;> rfl), pH_ HB.out⟩

/-! ### adapt_change: function 33 -/
def adapt_change.f (k : Nat) (a0_0 : Int) (l0_1 : List Int) (l0_2 : List Int) (a1 : Int) (a2 : Int) : Option (Int × List Int × List Int) := if 0 ≤ a1 then (if a1 < (l0_2.length : Int) then (if a1 < (l0_1.length : Int) then (if 0 ≤ a2 then (if a2 < 2 then ((recip_Step.f k (rd l0_1 a1) (rd tgRow a2) (wrap32 ((mn (wrap32 ((rd l0_2 a1) + 1)) a0_0) + 1))).bind fun bt190 => (some (bt190.2, (l0_1.set (a1 : Int).toNat bt190.1), (l0_2.set (a1 : Int).toNat (mn (wrap32 ((rd l0_2 a1) + 1)) a0_0))))) else (none)) else (none)) else (none)) else (none)) else (none)
theorem adapt_change.mono : ∀ a0 a1 a2 a3 a4 k, LeO (adapt_change.f k a0 a1 a2 a3 a4) (adapt_change.f (k + 1) a0 a1 a2 a3 a4) := by
 intro a0 a1 a2 a3 a4 k
 unfold adapt_change.f
 repeat' first
   | (with_reducible exact recip_Step.mono _ _ _ _)
   | (with_reducible exact LeO.refl _)
   | (with_reducible exact LeO.none _)
   | (with_reducible refine LeO.ite ?_ ?_)
   | (with_reducible refine LeO.bind ?_ (fun _ => ?_))
   | exact recip_Step.mono _ _ _ _
   | exact LeO.none _
   | refine LeO.ite ?_ ?_
   | refine LeO.bind ?_ (fun _ => ?_)
def adapt_change.T1 : Bool × List (List Nat × List Nat) := (true, [([], []), ([0], [0]), ([], []), ([1, 2], [1, 2]), ([3], [3]), ([4], [4]), ([], []), ([6], [6]), ([5, 7], [5, 7]), ([8, 0, 1, 2, 3, 4, 5, 6, 7, 8], [8])])
def adapt_change.B1 : List Nat := [0, 1, 0, 7, 15, 31, 0, 64, 255, 511]
theorem adapt_change.tab1 : rtab .any (opsOf Tryd.f33 1) = adapt_change.T1 := by kernel_rfl
theorem adapt_change.bits1 : waitsOk adapt_change.T1.2 adapt_change.B1 = true := by kernel_rfl
def adapt_change.T2 : Bool × List (List Nat × List Nat) := (true, [([], []), ([0], [0]), ([], []), ([1, 2], [1, 2]), ([3], [3]), ([], []), ([5], [5]), ([6], [6]), ([], []), ([8], [8]), ([4, 7, 9], [4, 7, 9]), ([10], [10]), ([11], [11]), ([11], [11]), ([12, 10, 0, 1, 2, 3, 4, 5, 6, 7, 8, 9, 10, 11, 12], [12]), ([13, 14, 0, 1, 2, 3, 4, 5, 6, 7, 8, 9, 10, 11, 12, 13, 14], [13])])
def adapt_change.B2 : List Nat := [0, 1, 0, 7, 15, 0, 32, 96, 0, 256, 1023, 2047, 4095, 4095, 8191, 32767]
theorem adapt_change.tab2 : rtab .any (opsOf Tryd.f33 2) = adapt_change.T2 := by kernel_rfl
theorem adapt_change.bits2 : waitsOk adapt_change.T2.2 adapt_change.B2 = true := by kernel_rfl
def adapt_change.T3 : Bool × List (List Nat × List Nat) := (true, [([], []), ([0], [0]), ([], []), ([], []), ([3], [3]), ([], []), ([], []), ([], []), ([1, 2, 0, 1, 2, 6], [1, 2]), ([8, 6, 0, 1, 2, 6], [6, 8]), ([4, 5, 0, 1, 2, 3, 4, 5, 6, 7, 8, 9], [4, 5]), ([10, 7, 9, 0, 1, 2, 3, 4, 5, 6, 7, 8, 9], [7, 10])])
def adapt_change.B3 : List Nat := [0, 1, 0, 0, 8, 0, 0, 0, 71, 327, 1023, 2047]
theorem adapt_change.tab3 : rtab .any (opsOf Tryd.f33 3) = adapt_change.T3 := by kernel_rfl
theorem adapt_change.bits3 : waitsOk adapt_change.T3.2 adapt_change.B3 = true := by kernel_rfl
set_option maxHeartbeats 8000000 in
set_option maxRecDepth 100000 in
theorem adapt_change.calls (k : Nat) (a0_0 : Int) (P0_1_ : Nat → Prop) (u9000_ : Value) (l0_1 : List Int) (P0_2_ : Nat → Prop) (u9001_ : Value) (l0_2 : List Int) (a1 : Int) (a2 : Int) (r1 : Int) (r2 : List Int) (r3 : List Int) (w0 w : World) (hB : Below w0.heap.size w0 w) (ho0_1 : Kd.R (Kd.int .i32) 21 w w0.heap.size P0_1_ u9000_ l0_1) (hp0_1_0_2 : ∀ k_, P0_1_ k_ → ¬ P0_2_ k_) (ho0_2 : Kd.R (Kd.int .i32) 21 w w0.heap.size P0_2_ u9001_ l0_2) (hp0_2_0_1 : ∀ k_, P0_2_ k_ → ¬ P0_1_ k_) (hT : Tab_ w0) (h : adapt_change.f k a0_0 l0_1 l0_2 a1 a2 = some (r1, r2, r3)) :
  Calls Tryd.prog 33 #[.agg #[.int .i32 a0_0, u9000_, u9001_], .int .u8 a1, .int .u8 a2] w fun e w' => e = .returned (.int .i64 r1) ∧ Kd.R (Kd.int .i32) 21 w' w0.heap.size (fun k_ => ((P0_1_ k_ ∨ P0_2_ k_) ∨ w.heap.size ≤ k_)) u9000_ r2 ∧ Kd.R (Kd.int .i32) 21 w' w0.heap.size (fun k_ => ((P0_1_ k_ ∨ P0_2_ k_) ∨ w.heap.size ≤ k_)) u9001_ r3 ∧ Below w0.heap.size w0 w' ∧ Kept w w' (fun k_ => P0_1_ k_ ∨ P0_2_ k_) := by
 have hu24 := Tryd.underlying24; have HO0_1 := Aside0.mk (show Kd.R (Kd.int .i32) 21 w w0.heap.size (fun k_ => ((P0_1_ k_ ∨ P0_2_ k_) ∨ w.heap.size ≤ k_) ∧ nO_ k_ u9001_) u9000_ l0_1 from Kd.R_mono ho0_1 (fun k_ hk => ⟨(.inl (.inl hk)), fun e_ => hp0_1_0_2 k_ hk (ho0_2.1 k_ e_.symm)⟩)); have HO0_2 := Aside0.mk (show Kd.R (Kd.int .i32) 21 w w0.heap.size (fun k_ => ((P0_1_ k_ ∨ P0_2_ k_) ∨ w.heap.size ≤ k_) ∧ nO_ k_ u9000_) u9001_ l0_2 from Kd.R_mono ho0_2 (fun k_ hk => ⟨(.inl (.inr hk)), fun e_ => hp0_2_0_1 k_ hk (ho0_1.1 k_ e_.symm)⟩)); have HK := Aside0.mk (Kept.refl w (fun k_ => P0_1_ k_ ∨ P0_2_ k_)); have HW0 := Aside0.mk hB.size; have HB := Aside0.mk hB; clear hB; have H : (if 0 ≤ a1 then (if a1 < (l0_2.length : Int) then (if a1 < (l0_1.length : Int) then (if 0 ≤ a2 then (if a2 < 2 then ((recip_Step.f k (rd l0_1 a1) (rd tgRow a2) (wrap32 ((mn (wrap32 ((rd l0_2 a1) + 1)) a0_0) + 1))).bind fun bt190 => (some (bt190.2, (l0_1.set (a1 : Int).toNat bt190.1), (l0_2.set (a1 : Int).toNat (mn (wrap32 ((rd l0_2 a1) + 1)) a0_0))))) else (none)) else (none)) else (none)) else (none)) else (none)) = some (r1, r2, r3) := h; clear h
 by_cases c4 : 0 ≤ a1
 ·
  rw [if_pos c4] at H; have c4b0 : decide (0 ≤ a1) = true := decide_eq_true c4; clear c4
  by_cases c5 : a1 < (l0_2.length : Int)
  ·
   rw [if_pos c5] at H; have c5b0 : decide (a1 < (l0_2.length : Int)) = true := decide_eq_true c5; clear c5; obtain ⟨ji6, hji6⟩ : ∃ j_ : Int, (mn (wrap32 ((rd l0_2 a1) + 1)) a0_0) = j_ := ⟨_, rfl⟩
   replace H : (if a1 < (l0_1.length : Int) then (if 0 ≤ a2 then (if a2 < 2 then ((recip_Step.f k (rd l0_1 a1) (rd tgRow a2) (wrap32 ((ji6) + 1))).bind fun bt190 => (some (bt190.2, (l0_1.set (a1 : Int).toNat bt190.1), (l0_2.set (a1 : Int).toNat (ji6))))) else (none)) else (none)) else (none)) = some (r1, r2, r3) := by first | (rw [hji6] at H; exact H) | (simp only [hji6] at H ⊢; exact H)
   have hji6_ : (if a0_0 < (wrap32 ((rd l0_2 a1) + 1)) then a0_0 else (wrap32 ((rd l0_2 a1) + 1))) = ji6 := hji6
   by_cases c7 : a1 < (l0_1.length : Int)
   ·
    rw [if_pos c7] at H; have c7b0 : decide (a1 < (l0_1.length : Int)) = true := decide_eq_true c7; clear c7
    by_cases c8 : 0 ≤ a2
    ·
     rw [if_pos c8] at H; have c8b0 : decide (0 ≤ a2) = true := decide_eq_true c8; clear c8
     by_cases c9 : a2 < 2
     ·
      rw [if_pos c9] at H; have c9b0 : decide (a2 < 2) = true := decide_eq_true c9; clear c9; replace H := Option.bind_eq_some_iff.mp H; obtain ⟨⟨t190, t191⟩, A100, H⟩ := H; replace H : (some (t191, (l0_1.set (a1 : Int).toNat t190), (l0_2.set (a1 : Int).toNat (ji6)))) = some (r1, r2, r3) := H; have A10 := Aside0.mk A100; clear A100; obtain ⟨y192, hy192⟩ : ∃ y_ : List Int, y_ = (l0_1.set (a1 : Int).toNat t190) := ⟨_, rfl⟩
      replace H : (some (t191, y192, (l0_2.set (a1 : Int).toNat (ji6)))) = some (r1, r2, r3) := by first | (rw [hy192]; with_reducible exact H) | (have H2_ := (Option.bind_some _ _).symm.trans H; rw [hy192]; with_reducible exact H2_) | (have H2_ := (Option.bind_some _ _).symm.trans H; with_reducible exact H2_) | with_reducible exact H | (rw [hy192]; exact H) | exact H
      have Ny192 := Aside0.mk hy192; clear hy192; obtain ⟨y193, hy193⟩ : ∃ y_ : List Int, y_ = (l0_2.set (a1 : Int).toNat (ji6)) := ⟨_, rfl⟩
      replace H : (some (t191, y192, y193)) = some (r1, r2, r3) := by first | (rw [hy193]; with_reducible exact H) | (have H2_ := (Option.bind_some _ _).symm.trans H; rw [hy193]; with_reducible exact H2_) | (have H2_ := (Option.bind_some _ _).symm.trans H; with_reducible exact H2_) | with_reducible exact H | (rw [hy193]; exact H) | exact H
      have Ny193 := Aside0.mk hy193; clear hy193; simp only [Option.some.injEq, Prod.mk.injEq] at H; obtain ⟨rfl, rfl, rfl⟩ := H; obtain ⟨Ao13, co13, eo13⟩ := Kd.R_slice HO0_1.out
      subst eo13
      obtain ⟨Ao14, co14, eo14⟩ := Kd.R_slice HO0_2.out
      subst eo14
      go_enter Tryd.func33, Tryd.ntmps33
      try go_wp2_with (first | ((with_reducible refine gate_dst (N := 3) rfl ?_); refine box_event ?hg (N := 3) ?hd (cs := #[.int .i32 a0_0, .slice Ao13 l0_1.length co13, .slice Ao14 l0_2.length co14]) (t := 24) ?hr ?_; (case hd => rfl); (case hg => rfl); (case hr => first | (go_simp; done) | (go_simp; rfl)); intro gb187 hg w15 hbox hb; have n0_ := Aside0.mk (Kd.R_below (pL_ HO0_1.out) hb); have n1_ := Aside0.mk (Kd.R_below (pL_ HO0_2.out) hb); have n2_ := Aside0.mk (Kept.below (S := (fun k_ => P0_1_ k_ ∨ P0_2_ k_)) (by repeat (first | (with_reducible first | exact HK.out | apply Kept.alloc | apply Kept.drewN | apply Kept.drew) | exact HK.out)) hb); have n3_ := Aside0.mk (below_step (pH_ HB.out) hb); have n4_ := Aside0.mk (hbox); have n5_ := Aside0.mk ((by rw [hg]; exact (by first | exact HK.out.1 | exact (show Kept w _ (fun k_ => P0_1_ k_ ∨ P0_2_ k_) from by repeat (first | (with_reducible first | exact HK.out | apply Kept.alloc | apply Kept.drewN | apply Kept.drew) | exact HK.out)).1) : w.heap.size ≤ gb187)); have n6_ := Aside0.mk ((by rw [hg]; exact (below_size (pH_ HB.out)) : w0.heap.size ≤ gb187)); clear HO0_1; clear HO0_2; clear HK; clear HB; have HO0_1 := n0_; have HO0_2 := n1_; have HK := n2_; have HB := n3_; have BK187 := n4_; have GW187 := n5_; have GE187 := n6_; clear n0_ n1_ n2_ n3_ n4_ n5_ n6_; clear hb hbox hg))
      have n0_ := Aside0.mk (Kd.R_drew HO0_1.out); have n1_ := Aside0.mk (Kd.R_drew HO0_2.out); have n2_ := Aside0.mk (blk_drew BK187.out); have n3_ := Aside0.mk (Kept.drew HK.out); have n4_ := Aside0.mk (below_drew1 HB.out); clear HO0_1; clear HO0_2; clear BK187; clear HK; clear HB; have HO0_1 := n0_; have HO0_2 := n1_; have BK187 := n2_; have HK := n3_; have HB := n4_; clear n0_ n1_ n2_ n3_ n4_; have p188 : 0 ≤ (a1 : Int) := of_decide_eq_true (by first | (with_reducible assumption) | assumption); have q188 : a1 < (l0_2.length : Int) := of_decide_eq_true (by first | (with_reducible assumption) | assumption); obtain ⟨ad188, e188, hx188_0⟩ := Kd.at_int (Kd.R_reads' HO0_2.out).2.2 a1 p188 q188
      cases e188
      replace p188 := eq_true p188; replace q188 := eq_true q188; refine start_ (n := 10) (S := fun w' => w'.cell? ⟨gb187, 0, none⟩ = some (.int .i32 a0_0) ∧ w'.cell? ⟨gb187, 1, none⟩ = some (.slice Ao13 l0_1.length co13) ∧ w'.cell? ⟨gb187, 2, none⟩ = some (.slice (some ad188) l0_2.length co14) ∧ w'.cell? (ad188.add (a1).toNat) = some (.int .i32 (rd l0_2 a1))) (ds := []) #[f_, f_, f_, f_, f_, f_, f_, f_, f_, f_] (by kernel_rfl) rfl rfl ⟨(blk_cell BK187.out 0).trans rfl, (blk_cell BK187.out 1).trans rfl, (blk_cell BK187.out 2).trans rfl, hx188_0⟩ (fun hHeld => ?_); refine with_tabW adapt_change.tab1 adapt_change.bits1 (fun HT_ HW_ => ?_)
      generalize w15.drew = w16 at HO0_1 HO0_2 BK187 HK HB hx188_0 hHeld ⊢
      refine pure_ (i := 0) (N := some 10) (v := ?_) (a' := ?_) #[t_, f_, f_, f_, f_, f_, f_, f_, f_, f_] rfl rfl (any_of HT_.out (by kernel_rfl)) (fun _ _ _ h => h) (Or.inl ⟨by rfl, ?_⟩) ?_ ?_; rotate_left
      ·
       intro w'; go_simp
       with_reducible rfl
      rotate_left
      ·
       simp only [Act.put, sA_, sZ_, sS_, i64_w, i32_w]; rfl
      refine pure_ (i := 2) (N := some 12) (v := ?_) (a' := ?_) #[t_, f_, t_, f_, f_, f_, f_, f_, f_, f_] rfl rfl (any_of HT_.out (by kernel_rfl)) (fun _ _ _ h => h) (Or.inl ⟨by rfl, ?_⟩) ?_ ?_; rotate_left
      ·
       intro w'; go_simp
       with_reducible rfl
      rotate_left
      ·
       simp only [Act.put, sA_, sZ_, sS_, i64_w, i32_w]; rfl
      refine pure_ (i := 6) (N := some 16) (v := ?_) (a' := ?_) #[t_, f_, t_, f_, f_, f_, t_, f_, f_, f_] rfl rfl (any_of HT_.out (by kernel_rfl)) (fun _ _ _ h => h) (Or.inl ⟨by rfl, ?_⟩) ?_ ?_; rotate_left
      ·
       intro w'; go_simp
       with_reducible rfl
      rotate_left
      ·
       simp only [Act.put, sA_, sZ_, sS_, i64_w, i32_w]; rfl
      refine take_ (i := 1) (N := some 11) (v := ?_) (a' := ?_) #[t_, t_, t_, f_, f_, f_, t_, f_, f_, f_] rfl rfl (take_ofW HT_.out HW_.out (by kernel_rfl)) (fun _ _ _ h => h) (Or.inl ⟨by rfl, ?_⟩) hHeld ?_ ?_; rotate_left
      ·
       rintro w' ⟨s0, s1, s2, s3⟩
       go_simp
       with_reducible rfl
      rotate_left
      ·
       simp only [Act.put, sA_, sZ_, sS_, i64_w, i32_w]; rfl
      refine pure_ (i := 3) (N := some 13) (v := ?_) (a' := ?_) #[t_, t_, t_, t_, f_, f_, t_, f_, f_, f_] rfl rfl (any_of HT_.out (by kernel_rfl)) (fun _ _ _ h => h) (Or.inl ⟨by rfl, ?_⟩) ?_ ?_; rotate_left
      ·
       intro w'; go_simp
       with_reducible rfl
      rotate_left
      ·
       simp only [Act.put, sA_, sZ_, sS_, i64_w, i32_w]; rfl
      refine take_ (i := 4) (N := some 14) (v := ?_) (a' := ?_) #[t_, t_, t_, t_, t_, f_, t_, f_, f_, f_] rfl rfl (take_ofW HT_.out HW_.out (by kernel_rfl)) (fun _ _ _ h => h) (Or.inl ⟨by rfl, ?_⟩) hHeld ?_ ?_; rotate_left
      ·
       rintro w' ⟨s0, s1, s2, s3⟩
       go_simp
       with_reducible rfl
      rotate_left
      ·
       simp only [Act.put, sA_, sZ_, sS_, i64_w, i32_w]; rfl
      refine pure_ (i := 5) (N := some 15) (v := ?_) (a' := ?_) #[t_, t_, t_, t_, t_, t_, t_, f_, f_, f_] rfl rfl (any_of HT_.out (by kernel_rfl)) (fun _ _ _ h => h) (Or.inl ⟨by rfl, ?_⟩) ?_ ?_; rotate_left
      ·
       intro w'; go_simp
       with_reducible rfl
      rotate_left
      ·
       simp only [Act.put, sA_, sZ_, sS_, i64_w, i32_w]; rfl
      refine take_ (i := 7) (N := some 17) (v := ?_) (a' := ?_) #[t_, t_, t_, t_, t_, t_, t_, t_, f_, f_] rfl rfl (take_ofW HT_.out HW_.out (by kernel_rfl)) (fun _ _ _ h => h) (Or.inl ⟨by rfl, ?_⟩) hHeld ?_ ?_; rotate_left
      ·
       rintro w' ⟨s0, s1, s2, s3⟩
       go_simp
       with_reducible rfl
      rotate_left
      ·
       simp only [Act.put, sA_, sZ_, sS_, i64_w, i32_w]; rfl
      refine pure_ (i := 8) (N := some 18) (v := ?_) (a' := ?_) #[t_, t_, t_, t_, t_, t_, t_, t_, t_, f_] rfl rfl (any_of HT_.out (by kernel_rfl)) (fun _ _ _ h => h) (Or.inl ⟨by rfl, ?_⟩) ?_ ?_; rotate_left
      ·
       intro w'; go_simp
       with_reducible rfl
      rotate_left
      ·
       simp only [Act.put, sA_, sZ_, sS_, i64_w, i32_w]; rfl
      refine pure_ (i := 9) (N := some 7) (v := ?_) (a' := ?_) #[t_, t_, t_, t_, t_, t_, t_, t_, t_, t_] rfl rfl (any_of HT_.out (by kernel_rfl)) (fun _ _ _ h => h) (Or.inl ⟨by rfl, ?_⟩) ?_ ?_; rotate_left
      ·
       intro w'; go_simp
       with_reducible rfl
      rotate_left
      ·
       simp only [Act.put, sA_, sZ_, sS_, i64_w, i32_w]; rfl
      refine done_ (done_of HT_.out (by kernel_rfl)) ?_
      try go_wp2
      have n0_ := Aside0.mk (Kd.R_drew HO0_1.out); have n1_ := Aside0.mk (Kd.R_drew HO0_2.out); have n2_ := Aside0.mk (blk_drew BK187.out); have n3_ := Aside0.mk (Kept.drew HK.out); have n4_ := Aside0.mk (below_drew1 HB.out); clear HO0_1; clear HO0_2; clear BK187; clear HK; clear HB; have HO0_1 := n0_; have HO0_2 := n1_; have BK187 := n2_; have HK := n3_; have HB := n4_; clear n0_ n1_ n2_ n3_ n4_; have p189 : 0 ≤ (a1 : Int) := of_decide_eq_true (by first | (with_reducible assumption) | assumption); have q189 : a1 < (l0_1.length : Int) := of_decide_eq_true (by first | (with_reducible assumption) | assumption); obtain ⟨ad189, e189, hx189_0⟩ := Kd.at_int (Kd.R_reads' HO0_1.out).2.2 a1 p189 q189
      cases e189
      replace p189 := eq_true p189; replace q189 := eq_true q189; have hsg18 : w0.cell? ⟨0, (a2 : Int).toNat, none⟩ = some (.int .i32 (rd tgRow a2)) := tabAt_ hT a2 (of_decide_eq_true (by first | (with_reducible assumption) | assumption)) (of_decide_eq_true (by first | (with_reducible assumption) | assumption)); have pa18 : 0 ≤ (a2 : Int) := of_decide_eq_true (by first | (with_reducible assumption) | assumption); have qa18 : (a2 : Int) < 2 := of_decide_eq_true (by first | (with_reducible assumption) | assumption); replace pa18 := eq_true pa18; replace qa18 := eq_true qa18; refine start_ (n := 16) (S := fun w' => w'.cell? ⟨gb187, 0, none⟩ = some (.int .i32 a0_0) ∧ w'.cell? ⟨gb187, 1, none⟩ = some (.slice (some ad189) l0_1.length co13) ∧ w'.cell? ⟨gb187, 2, none⟩ = some (.slice (some ad188) l0_2.length co14) ∧ w'.cell? (ad189.add (a1).toNat) = some (.int .i32 (rd l0_1 a1)) ∧ w'.cell? ⟨0, (a2 : Int).toNat, none⟩ = some (.int .i32 (rd tgRow a2))) (ds := []) #[f_, f_, f_, f_, f_, f_, f_, f_, f_, f_, f_, f_, f_, f_, f_, f_] (by kernel_rfl) rfl rfl ⟨(blk_cell BK187.out 0).trans rfl, (blk_cell BK187.out 1).trans rfl, (blk_cell BK187.out 2).trans rfl, hx189_0, ((HB.out.cell (World.block_lt_of_cell? w0 _ hsg18)).trans hsg18)⟩ (fun hHeld => ?_); refine with_tabW adapt_change.tab2 adapt_change.bits2 (fun HT_ HW_ => ?_)
      generalize w16.drew = w17 at HO0_1 HO0_2 BK187 HK HB hx189_0 hHeld ⊢
      refine pure_ (i := 0) (N := some 20) (v := ?_) (a' := ?_) #[t_, f_, f_, f_, f_, f_, f_, f_, f_, f_, f_, f_, f_, f_, f_, f_] rfl rfl (any_of HT_.out (by kernel_rfl)) (fun _ _ _ h => h) (Or.inl ⟨by rfl, ?_⟩) ?_ ?_; rotate_left
      ·
       intro w'; go_simp
       with_reducible rfl
      rotate_left
      ·
       simp only [Act.put, sA_, sZ_, sS_, i64_w, i32_w]; rfl
      refine pure_ (i := 2) (N := some 22) (v := ?_) (a' := ?_) #[t_, f_, t_, f_, f_, f_, f_, f_, f_, f_, f_, f_, f_, f_, f_, f_] rfl rfl (any_of HT_.out (by kernel_rfl)) (fun _ _ _ h => h) (Or.inl ⟨by rfl, ?_⟩) ?_ ?_; rotate_left
      ·
       intro w'; go_simp
       with_reducible rfl
      rotate_left
      ·
       simp only [Act.put, sA_, sZ_, sS_, i64_w, i32_w]; rfl
      refine pure_ (i := 5) (N := some 25) (v := ?_) (a' := ?_) #[t_, f_, t_, f_, f_, t_, f_, f_, f_, f_, f_, f_, f_, f_, f_, f_] rfl rfl (any_of HT_.out (by kernel_rfl)) (fun _ _ _ h => h) (Or.inl ⟨by rfl, ?_⟩) ?_ ?_; rotate_left
      ·
       intro w'; go_simp
       with_reducible rfl
      rotate_left
      ·
       simp only [Act.put, sA_, sZ_, sS_, i64_w, i32_w]; rfl
      refine pure_ (i := 6) (N := some 26) (v := ?_) (a' := ?_) #[t_, f_, t_, f_, f_, t_, t_, f_, f_, f_, f_, f_, f_, f_, f_, f_] rfl rfl (any_of HT_.out (by kernel_rfl)) (fun _ _ _ h => h) (Or.inl ⟨by rfl, ?_⟩) ?_ ?_; rotate_left
      ·
       intro w'; go_simp
       with_reducible rfl
      rotate_left
      ·
       simp only [Act.put, sA_, sZ_, sS_, i64_w, i32_w]; rfl
      refine pure_ (i := 8) (N := some 28) (v := ?_) (a' := ?_) #[t_, f_, t_, f_, f_, t_, t_, f_, t_, f_, f_, f_, f_, f_, f_, f_] rfl rfl (any_of HT_.out (by kernel_rfl)) (fun _ _ _ h => h) (Or.inl ⟨by rfl, ?_⟩) ?_ ?_; rotate_left
      ·
       intro w'; go_simp
       with_reducible rfl
      rotate_left
      ·
       simp only [Act.put, sA_, sZ_, sS_, i64_w, i32_w]; rfl
      refine pure_ (i := 9) (N := some 29) (v := ?_) (a' := ?_) #[t_, f_, t_, f_, f_, t_, t_, f_, t_, t_, f_, f_, f_, f_, f_, f_] rfl rfl (any_of HT_.out (by kernel_rfl)) (fun _ _ _ h => h) (Or.inl ⟨by rfl, ?_⟩) ?_ ?_; rotate_left
      ·
       intro w'; go_simp
       with_reducible rfl
      rotate_left
      ·
       simp only [Act.put, sA_, sZ_, sS_, i64_w, i32_w]; rfl
      refine take_ (i := 1) (N := some 21) (v := ?_) (a' := ?_) #[t_, t_, t_, f_, f_, t_, t_, f_, t_, t_, f_, f_, f_, f_, f_, f_] rfl rfl (take_ofW HT_.out HW_.out (by kernel_rfl)) (fun _ _ _ h => h) (Or.inl ⟨by rfl, ?_⟩) hHeld ?_ ?_; rotate_left
      ·
       rintro w' ⟨s0, s1, s2, s3, s4⟩
       go_simp
       with_reducible rfl
      rotate_left
      ·
       simp only [Act.put, sA_, sZ_, sS_, i64_w, i32_w]; rfl
      refine pure_ (i := 3) (N := some 23) (v := ?_) (a' := ?_) #[t_, t_, t_, t_, f_, t_, t_, f_, t_, t_, f_, f_, f_, f_, f_, f_] rfl rfl (any_of HT_.out (by kernel_rfl)) (fun _ _ _ h => h) (Or.inl ⟨by rfl, ?_⟩) ?_ ?_; rotate_left
      ·
       intro w'; go_simp
       with_reducible rfl
      rotate_left
      ·
       simp only [Act.put, sA_, sZ_, sS_, i64_w, i32_w]; rfl
      refine take_ (i := 4) (N := some 24) (v := ?_) (a' := ?_) #[t_, t_, t_, t_, t_, t_, t_, f_, t_, t_, f_, f_, f_, f_, f_, f_] rfl rfl (take_ofW HT_.out HW_.out (by kernel_rfl)) (fun _ _ _ h => h) (Or.inl ⟨by rfl, ?_⟩) hHeld ?_ ?_; rotate_left
      ·
       rintro w' ⟨s0, s1, s2, s3, s4⟩
       go_simp
       with_reducible rfl
      rotate_left
      ·
       simp only [Act.put, sA_, sZ_, sS_, i64_w, i32_w]; rfl
      refine take_ (i := 7) (N := some 27) (v := ?_) (a' := ?_) #[t_, t_, t_, t_, t_, t_, t_, t_, t_, t_, f_, f_, f_, f_, f_, f_] rfl rfl (take_ofW HT_.out HW_.out (by kernel_rfl)) (fun _ _ _ h => h) (Or.inl ⟨by rfl, ?_⟩) hHeld ?_ ?_; rotate_left
      ·
       rintro w' ⟨s0, s1, s2, s3, s4⟩
       go_simp
       with_reducible rfl
      rotate_left
      ·
       simp only [Act.put, sA_, sZ_, sS_, i64_w, i32_w]; rfl
      refine one_ (i := 10) (N := some 30) #[t_, t_, t_, t_, t_, t_, t_, t_, t_, t_, t_, f_, f_, f_, f_, f_] rfl rfl (one_of HT_.out (by kernel_rfl)) (by decide) (fun K hK => ?_); refine goes_ Tryd.func49 (by kernel_rfl) rfl #[.int .i32 (rd l0_1 a1), .int .i32 (rd tgRow a2), .int .i32 (wrap32 ((ji6) + 1))] (by rfl) rfl rfl (by (try simp only [List.map_toArray, List.map_cons, List.map_nil]); first | done | (simp only [hji6]; rfl) | rfl | (simp only [List.length_drop, List.length_take]; rfl)) ?_
      with_reducible refine (recip_Step.calls k (rd l0_1 a1) (rd tgRow a2) (wrap32 ((ji6) + 1)) t190 t191 _ A10.out).mono ?_
      rintro e w19 ⟨rfl, hb⟩
      have HS3_ := (hb.cell (World.block_lt_of_cell? _ _ (hHeld.2.2.2.1))).trans (hHeld.2.2.2.1); refine ⟨_, rfl, ?_⟩; have n0_ := Aside0.mk (Kd.R_below (pL_ HO0_1.out) hb); have n1_ := Aside0.mk (Kd.R_below (pL_ HO0_2.out) hb); have n2_ := Aside0.mk (blk_below (pG_ BK187.out) hb); have n3_ := Aside0.mk (Kept.below (S := (fun k_ => P0_1_ k_ ∨ P0_2_ k_)) (by repeat (first | (with_reducible first | exact HK.out | apply Kept.alloc | apply Kept.drewN | apply Kept.drew | refine Kept.setCell ?_ (.inr GW187.out) _) | exact HK.out)) hb); have n4_ := Aside0.mk (below_step (pH_ HB.out) hb); clear HO0_1; clear HO0_2; clear BK187; clear HK; clear HB; have HO0_1 := n0_; have HO0_2 := n1_; have BK187 := n2_; have HK := n3_; have HB := n4_; clear n0_ n1_ n2_ n3_ n4_; (try clear hb); (try clear hb2); (try clear hk); (try clear hi); refine hK.out _ _ ⟨(blk_cell BK187.out 0).trans rfl, (blk_cell BK187.out 1).trans rfl, (blk_cell BK187.out 2).trans rfl, HS3_, ((HB.out.cell (World.block_lt_of_cell? w0 _ hsg18)).trans hsg18)⟩ (fun hHeld => ?_); clear hK K; refine norm_ (a' := ?_) ?_ ?_; rotate_left
      ·
       show Act.put _ (some 30) _ = _
       simp only [Act.put, sA_, sZ_, sS_, i64_w, i32_w]; rfl
      refine pure_ (i := 11) (N := some 19) (v := ?_) (a' := ?_) #[t_, t_, t_, t_, t_, t_, t_, t_, t_, t_, t_, t_, f_, f_, f_, f_] rfl rfl (any_of HT_.out (by kernel_rfl)) (fun _ _ _ h => h) (Or.inl ⟨by rfl, ?_⟩) ?_ ?_; rotate_left
      ·
       intro w'; go_simp
       with_reducible rfl
      rotate_left
      ·
       simp only [Act.put, sA_, sZ_, sS_, i64_w, i32_w]; rfl
      refine pure_ (i := 12) (N := some 31) (v := ?_) (a' := ?_) #[t_, t_, t_, t_, t_, t_, t_, t_, t_, t_, t_, t_, t_, f_, f_, f_] rfl rfl (any_of HT_.out (by kernel_rfl)) (fun _ _ _ h => h) (Or.inl ⟨by rfl, ?_⟩) ?_ ?_; rotate_left
      ·
       intro w'; go_simp
       with_reducible rfl
      rotate_left
      ·
       simp only [Act.put, sA_, sZ_, sS_, i64_w, i32_w]; rfl
      refine pure_ (i := 13) (N := some 32) (v := ?_) (a' := ?_) #[t_, t_, t_, t_, t_, t_, t_, t_, t_, t_, t_, t_, t_, t_, f_, f_] rfl rfl (any_of HT_.out (by kernel_rfl)) (fun _ _ _ h => h) (Or.inl ⟨by rfl, ?_⟩) ?_ ?_; rotate_left
      ·
       intro w'; go_simp
       with_reducible rfl
      rotate_left
      ·
       simp only [Act.put, sA_, sZ_, sS_, i64_w, i32_w]; rfl
      refine pure_ (i := 14) (N := some 8) (v := ?_) (a' := ?_) #[t_, t_, t_, t_, t_, t_, t_, t_, t_, t_, t_, t_, t_, t_, t_, f_] rfl rfl (any_of HT_.out (by kernel_rfl)) (fun _ _ _ h => h) (Or.inl ⟨by rfl, ?_⟩) ?_ ?_; rotate_left
      ·
       intro w'; go_simp
       with_reducible rfl
      rotate_left
      ·
       simp only [Act.put, sA_, sZ_, sS_, i64_w, i32_w]; rfl
      refine pure_ (i := 15) (N := some 9) (v := ?_) (a' := ?_) #[t_, t_, t_, t_, t_, t_, t_, t_, t_, t_, t_, t_, t_, t_, t_, t_] rfl rfl (any_of HT_.out (by kernel_rfl)) (fun _ _ _ h => h) (Or.inl ⟨by rfl, ?_⟩) ?_ ?_; rotate_left
      ·
       intro w'; go_simp
       with_reducible rfl
      rotate_left
      ·
       simp only [Act.put, sA_, sZ_, sS_, i64_w, i32_w]; rfl
      refine done_ (done_of HT_.out (by kernel_rfl)) ?_
      try go_wp2
      have n0_ := Aside0.mk (Kd.R_drew HO0_1.out); have n1_ := Aside0.mk (Kd.R_drew HO0_2.out); have n2_ := Aside0.mk (blk_drew BK187.out); have n3_ := Aside0.mk (Kept.drew HK.out); have n4_ := Aside0.mk (below_drew1 HB.out); clear HO0_1; clear HO0_2; clear BK187; clear HK; clear HB; have HO0_1 := n0_; have HO0_2 := n1_; have BK187 := n2_; have HK := n3_; have HB := n4_; clear n0_ n1_ n2_ n3_ n4_; have p11 : 0 ≤ (a1 : Int) := of_decide_eq_true (by first | (with_reducible assumption) | assumption); have q11 : (a1 : Int) < ((l0_1.length : Int) : Int) := of_decide_eq_true (by first | (with_reducible assumption) | assumption); obtain ⟨go11, co11, eo11, gb11, gl11, cl11, HG11⟩ := Kd.R_form HO0_1.out (by omega); (first | cases eo11 | (injection eo11 with ea_ en_ ec_; (first | subst ea_ | (injection ea_ with ea_; subst ea_)); subst ec_; clear en_)); have GB11 := Aside0.mk gb11; have GG11 := Aside0.mk HG11; clear gb11 gl11 HG11; have HMgo11 := Aside0.mk (show ((P0_1_ go11 ∨ P0_2_ go11) ∨ w.heap.size ≤ go11) from (HO0_1.out.1 _ rfl).1); (first | simp only [add_plain] at hx189_0 | skip); obtain ⟨hx11_0, hf11_0⟩ := Kd.R_celln 0 HO0_1.out (a1 : Int) p11 q11; replace p11 := eq_true p11; replace q11 := eq_true q11; have HP21 := Kd.R_putn HO0_1.out (a1 : Int) t190; rw [← Ny192.out] at HP21; have HQ21 := Aside0.mk HP21; clear HP21; have p12 : 0 ≤ (a1 : Int) := of_decide_eq_true (by first | (with_reducible assumption) | assumption); have q12 : (a1 : Int) < ((l0_2.length : Int) : Int) := of_decide_eq_true (by first | (with_reducible assumption) | assumption); obtain ⟨go12, co12, eo12, gb12, gl12, cl12, HG12⟩ := Kd.R_form HO0_2.out (by omega); (first | cases eo12 | (injection eo12 with ea_ en_ ec_; (first | subst ea_ | (injection ea_ with ea_; subst ea_)); subst ec_; clear en_)); have GB12 := Aside0.mk gb12; have GG12 := Aside0.mk HG12; clear gb12 gl12 HG12; have HMgo12 := Aside0.mk (show ((P0_1_ go12 ∨ P0_2_ go12) ∨ w.heap.size ≤ go12) from (HO0_2.out.1 _ rfl).1); (first | simp only [add_plain] at hx188_0 | skip); obtain ⟨hx12_0, hf12_0⟩ := Kd.R_celln 0 (Kd.R_far (p := ⟨go11, (a1 : Int).toNat, none⟩) (Kd.R_mono HO0_2.out (fun k_ hk => (⟨hk, fun e_ => hk.2 (by rw [e_]; rfl)⟩ : _ ∧ k_ ≠ go11))) (fun _ hk => hk.2) (.int .i32 t190)) (a1 : Int) p12 q12; replace p12 := eq_true p12; replace q12 := eq_true q12; have HP22 := Kd.R_putn (Kd.R_far (p := ⟨go11, (a1 : Int).toNat, none⟩) (Kd.R_mono HO0_2.out (fun k_ hk => (⟨hk, fun e_ => hk.2 (by rw [e_]; rfl)⟩ : _ ∧ k_ ≠ go11))) (fun _ hk => hk.2) (.int .i32 t190)) (a1 : Int) ji6; rw [← Ny193.out] at HP22; have HQ22 := Aside0.mk HP22; clear HP22; refine start_ (n := 12) (S := fun w' => w'.cell? ⟨gb187, 0, none⟩ = some (.int .i32 a0_0) ∧ w'.cell? ⟨gb187, 1, none⟩ = some (.slice (some ⟨go11, 0, none⟩) l0_1.length co13) ∧ w'.cell? ⟨gb187, 2, none⟩ = some (.slice (some ⟨go12, 0, none⟩) l0_2.length co14)) (ds := []) #[f_, f_, f_, f_, f_, f_, f_, f_, f_, f_, f_, f_] (by kernel_rfl) rfl rfl ⟨(blk_cell BK187.out 0).trans rfl, (blk_cell BK187.out 1).trans rfl, (blk_cell BK187.out 2).trans rfl⟩ (fun hHeld => ?_); refine with_tabW adapt_change.tab3 adapt_change.bits3 (fun HT_ HW_ => ?_)
      generalize w19.drew = w20 at HO0_1 HO0_2 BK187 HK HB GG11 GG12 HQ21 HQ22 hf11_0 hf12_0 hx11_0 hx12_0 hx188_0 hx189_0 hHeld ⊢
      refine pure_ (i := 0) (N := some 33) (v := ?_) (a' := ?_) #[t_, f_, f_, f_, f_, f_, f_, f_, f_, f_, f_, f_] rfl rfl (any_of HT_.out (by kernel_rfl)) (fun _ _ _ h => h) (Or.inl ⟨by rfl, ?_⟩) ?_ ?_; rotate_left
      ·
       intro w'; go_simp
       with_reducible rfl
      rotate_left
      ·
       simp only [Act.put, sA_, sZ_, sS_, i64_w, i32_w]; rfl
      refine pure_ (i := 2) (N := some 35) (v := ?_) (a' := ?_) #[t_, f_, t_, f_, f_, f_, f_, f_, f_, f_, f_, f_] rfl rfl (any_of HT_.out (by kernel_rfl)) (fun _ _ _ h => h) (Or.inl ⟨by rfl, ?_⟩) ?_ ?_; rotate_left
      ·
       intro w'; go_simp
       with_reducible rfl
      rotate_left
      ·
       simp only [Act.put, sA_, sZ_, sS_, i64_w, i32_w]; rfl
      refine pure_ (i := 3) (N := some 36) (v := ?_) (a' := ?_) #[t_, f_, t_, t_, f_, f_, f_, f_, f_, f_, f_, f_] rfl rfl (any_of HT_.out (by kernel_rfl)) (fun _ _ _ h => h) (Or.inl ⟨by rfl, ?_⟩) ?_ ?_; rotate_left
      ·
       intro w'; go_simp
       with_reducible rfl
      rotate_left
      ·
       simp only [Act.put, sA_, sZ_, sS_, i64_w, i32_w]; rfl
      refine pure_ (i := 5) (N := some 38) (v := ?_) (a' := ?_) #[t_, f_, t_, t_, f_, t_, f_, f_, f_, f_, f_, f_] rfl rfl (any_of HT_.out (by kernel_rfl)) (fun _ _ _ h => h) (Or.inl ⟨by rfl, ?_⟩) ?_ ?_; rotate_left
      ·
       intro w'; go_simp
       with_reducible rfl
      rotate_left
      ·
       simp only [Act.put, sA_, sZ_, sS_, i64_w, i32_w]; rfl
      refine pure_ (i := 6) (N := some 39) (v := ?_) (a' := ?_) #[t_, f_, t_, t_, f_, t_, t_, f_, f_, f_, f_, f_] rfl rfl (any_of HT_.out (by kernel_rfl)) (fun _ _ _ h => h) (Or.inl ⟨by rfl, ?_⟩) ?_ ?_; rotate_left
      ·
       intro w'; go_simp
       with_reducible rfl
      rotate_left
      ·
       simp only [Act.put, sA_, sZ_, sS_, i64_w, i32_w]; rfl
      refine pure_ (i := 7) (N := some 40) (v := ?_) (a' := ?_) #[t_, f_, t_, t_, f_, t_, t_, t_, f_, f_, f_, f_] rfl rfl (any_of HT_.out (by kernel_rfl)) (fun _ _ _ h => h) (Or.inl ⟨by rfl, ?_⟩) ?_ ?_; rotate_left
      ·
       intro w'; go_simp
       with_reducible rfl
      rotate_left
      ·
       simp only [Act.put, sA_, sZ_, sS_, i64_w, i32_w]; rfl
      refine take_ (i := 1) (N := some 34) (v := ?_) (a' := ?_) #[t_, t_, t_, t_, f_, t_, t_, t_, f_, f_, f_, f_] rfl rfl (take_ofW HT_.out HW_.out (by kernel_rfl)) (fun _ _ _ h => h) (Or.inl ⟨by rfl, ?_⟩) hHeld ?_ ?_; rotate_left
      ·
       rintro w' ⟨s0, s1, s2⟩
       go_simp
       with_reducible rfl
      rotate_left
      ·
       simp only [Act.put, sA_, sZ_, sS_, i64_w, i32_w]; rfl
      refine pure_ (i := 8) (N := some 41) (v := ?_) (a' := ?_) #[t_, t_, t_, t_, f_, t_, t_, t_, t_, f_, f_, f_] rfl rfl (any_of HT_.out (by kernel_rfl)) (fun _ _ _ h => h) (Or.inl ⟨by rfl, ?_⟩) ?_ ?_; rotate_left
      ·
       intro w'; go_simp
       with_reducible rfl
      rotate_left
      ·
       simp only [Act.put, sA_, sZ_, sS_, i64_w, i32_w]; rfl
      refine take_ (i := 4) (N := some 37) (v := ?_) (a' := ?_) #[t_, t_, t_, t_, t_, t_, t_, t_, t_, f_, f_, f_] rfl rfl (take_ofW HT_.out HW_.out (by kernel_rfl)) (fun _ _ _ h => h) (Or.inl ⟨by rfl, ?_⟩) hHeld ?_ ?_; rotate_left
      ·
       rintro w' ⟨s0, s1, s2⟩
       go_simp
       with_reducible rfl
      rotate_left
      ·
       simp only [Act.put, sA_, sZ_, sS_, i64_w, i32_w]; rfl
      refine one_ (i := 9) (N := none) #[t_, t_, t_, t_, t_, t_, t_, t_, t_, t_, f_, f_] rfl rfl (one_of HT_.out (by kernel_rfl)) (by decide) (fun K hK => ?_); refine skip_ (w1 := ?_) (by rfl) rfl ?_ ?_; rotate_left
      ·
       go_simp; rfl
      refine hK.out _ _ ⟨((cell_far (p := ⟨go11, _, none⟩) (fun e_ => Kd.R_ne HO0_1.out BK187.out (by decide) (congrArg some e_)) _).trans (hHeld.1)), ((cell_far (p := ⟨go11, _, none⟩) (fun e_ => Kd.R_ne HO0_1.out BK187.out (by decide) (congrArg some e_)) _).trans (hHeld.2.1)), ((cell_far (p := ⟨go11, _, none⟩) (fun e_ => Kd.R_ne HO0_1.out BK187.out (by decide) (congrArg some e_)) _).trans (hHeld.2.2))⟩ (fun hHeld => ?_); clear hK K; refine pure_ (i := 10) (N := some 42) (v := ?_) (a' := ?_) #[t_, t_, t_, t_, t_, t_, t_, t_, t_, t_, t_, f_] rfl rfl (any_of HT_.out (by kernel_rfl)) (fun _ _ _ h => h) (Or.inl ⟨by rfl, ?_⟩) ?_ ?_; rotate_left
      ·
       intro w'; go_simp
       with_reducible rfl
      rotate_left
      ·
       simp only [Act.put, sA_, sZ_, sS_, i64_w, i32_w]; rfl
      refine one_ (i := 11) (N := none) #[t_, t_, t_, t_, t_, t_, t_, t_, t_, t_, t_, t_] rfl rfl (one_of HT_.out (by kernel_rfl)) (by decide) (fun K hK => ?_); refine skip_ (w1 := ?_) (by rfl) rfl ?_ ?_; rotate_left
      ·
       go_simp; rfl
      refine hK.out _ _ ⟨((cell_far (p := ⟨go12, _, none⟩) (fun e_ => Kd.R_ne HO0_2.out BK187.out (by decide) (congrArg some e_)) _).trans (hHeld.1)), ((cell_far (p := ⟨go12, _, none⟩) (fun e_ => Kd.R_ne HO0_2.out BK187.out (by decide) (congrArg some e_)) _).trans (hHeld.2.1)), ((cell_far (p := ⟨go12, _, none⟩) (fun e_ => Kd.R_ne HO0_2.out BK187.out (by decide) (congrArg some e_)) _).trans (hHeld.2.2))⟩ (fun hHeld => ?_); clear hK K; refine done_ (done_of HT_.out (by kernel_rfl)) ?_
      try go_wp2
      go_ret
      exact ⟨by first | rfl | (simp [errW_none, errW_some] <;> rfl) | (simp only [← hji6]; first | rfl | (simp [errW_none, errW_some] <;> rfl)) | (simp [*, errW_none, errW_some] <;> rfl), by (with_reducible repeat (first | apply rA_ | apply rN_ | apply rD_)); exact Kd.R_mono (Kd.R_far (p := ⟨go12, (a1 : Int).toNat, none⟩) (Kd.R_mono HQ21.out (fun k_ hk => (⟨hk, fun e_ => hk.2 (by rw [e_]; rfl)⟩ : _ ∧ k_ ≠ go12))) (fun _ hk => hk.2) (.int .i32 ji6)) (fun _ hk => hk.1.1), by (with_reducible repeat (first | apply rA_ | apply rN_ | apply rD_)); exact Kd.R_mono HQ22.out (fun _ hk => hk.1.1), by repeat (first | (with_reducible first | exact HB.out | apply below_alloc | apply bN_ | apply below_drew1 | refine below_set ?_ GB11.out | refine below_set ?_ GB12.out | refine below_set ?_ GE187.out) | exact HB.out), by repeat (first | (with_reducible first | exact HK.out | apply Kept.alloc | apply Kept.drewN | apply Kept.drew | refine Kept.setCell ?_ HMgo11.out _ | refine Kept.setCell ?_ HMgo12.out _ | refine Kept.setCell ?_ (.inr GW187.out) _) | exact HK.out)⟩
     ·
      rw [if_neg c9] at H; exact absurd H (by simp)
    ·
     rw [if_neg c8] at H; exact absurd H (by simp)
   ·
    rw [if_neg c7] at H; exact absurd H (by simp)
  ·
   rw [if_neg c5] at H; exact absurd H (by simp)
 ·
  rw [if_neg c4] at H; exact absurd H (by simp)

/-! ### adapt_Update: function 15 -/
def adapt_Update.f (k : Nat) (a0_0 : Int) (l0_1 : List Int) (l0_2 : List Int) (a1 : Int) (a2 : Int) : Option (Int × List Int × List Int × Int) := (adapt_at.f k a0_0 l0_1 l0_2 a1).bind fun t196 => (if t196 = 0 then (if a2 > 1 then (some (0, ([] : List Int), ([] : List Int), 2)) else ((adapt_twin.f a0_0 l0_1 l0_2).bind fun bt197 => ((adapt_change.f k bt197.1 bt197.2.1 bt197.2.2 a1 a2).bind fun bt205 => (if bt205.1 = 0 then (some (bt197.1, bt205.2.1, bt205.2.2, 0)) else (some (0, ([] : List Int), ([] : List Int), bt205.1)))))) else (some (0, ([] : List Int), ([] : List Int), t196)))
theorem adapt_Update.mono : ∀ a0 a1 a2 a3 a4 k, LeO (adapt_Update.f k a0 a1 a2 a3 a4) (adapt_Update.f (k + 1) a0 a1 a2 a3 a4) := by
 intro a0 a1 a2 a3 a4 k
 unfold adapt_Update.f
 repeat' first
   | (with_reducible exact adapt_at.mono _ _ _ _ _)
   | (with_reducible exact adapt_change.mono _ _ _ _ _ _)
   | (with_reducible exact LeO.refl _)
   | (with_reducible exact LeO.none _)
   | (with_reducible refine LeO.ite ?_ ?_)
   | (with_reducible refine LeO.bind ?_ (fun _ => ?_))
   | exact adapt_at.mono _ _ _ _ _
   | exact adapt_change.mono _ _ _ _ _ _
   | exact LeO.none _
   | refine LeO.ite ?_ ?_
   | refine LeO.bind ?_ (fun _ => ?_)
set_option maxHeartbeats 8000000 in
set_option maxRecDepth 100000 in
theorem adapt_Update.calls (k : Nat) (a0_0 : Int) (A0_1 : Option Addr) (c0_1 : Nat) (l0_1 : List Int) (A0_2 : Option Addr) (c0_2 : Nat) (l0_2 : List Int) (a1 : Int) (a2 : Int) (r1 : Int) (r2 : List Int) (r3 : List Int) (r4 : Int) (w : World) (hr0_1 : Kd.C (Kd.int .i32) w A0_1 l0_1.length l0_1) (hc0_1 : l0_1.length ≤ c0_1) (hr0_2 : Kd.C (Kd.int .i32) w A0_2 l0_2.length l0_2) (hc0_2 : l0_2.length ≤ c0_2) (hT : Tab_ w) (h : adapt_Update.f k a0_0 l0_1 l0_2 a1 a2 = some (r1, r2, r3, r4)) :
  Calls Tryd.prog 15 #[.agg #[.int .i32 a0_0, .slice A0_1 l0_1.length c0_1, .slice A0_2 l0_2.length c0_2], .int .u8 a1, .int .u8 a2] w fun e w' => ∃ v1_ v2_ : Value, e = .returned (.tuple #[.agg #[.int .i32 r1, v1_, v2_], .int .i64 r4]) ∧ Kd.R (Kd.int .i32) 21 w' w.heap.size (fun k_ => nO_ k_ v2_) v1_ r2 ∧ Kd.R (Kd.int .i32) 21 w' w.heap.size (fun k_ => nO_ k_ v1_) v2_ r3 ∧ Below w.heap.size w w' := by
 have hu24 := Tryd.underlying24; have HR0_1 := Aside0.mk hr0_1; have HC0_1 := Aside0.mk hc0_1; clear hr0_1 hc0_1; have HR0_2 := Aside0.mk hr0_2; have HC0_2 := Aside0.mk hc0_2; clear hr0_2 hc0_2; have HB := Aside0.mk (Below.refl w.heap.size w); have H : ((adapt_at.f k a0_0 l0_1 l0_2 a1).bind fun t196 => (if t196 = 0 then (if a2 > 1 then (some (0, ([] : List Int), ([] : List Int), 2)) else ((adapt_twin.f a0_0 l0_1 l0_2).bind fun bt197 => ((adapt_change.f k bt197.1 bt197.2.1 bt197.2.2 a1 a2).bind fun bt205 => (if bt205.1 = 0 then (some (bt197.1, bt205.2.1, bt205.2.2, 0)) else (some (0, ([] : List Int), ([] : List Int), bt205.1)))))) else (some (0, ([] : List Int), ([] : List Int), t196)))) = some (r1, r2, r3, r4) := h; clear h; replace H := Option.bind_eq_some_iff.mp H; obtain ⟨t196, A40, H⟩ := H; replace H : (if t196 = 0 then (if a2 > 1 then (some (0, ([] : List Int), ([] : List Int), 2)) else ((adapt_twin.f a0_0 l0_1 l0_2).bind fun bt197 => ((adapt_change.f k bt197.1 bt197.2.1 bt197.2.2 a1 a2).bind fun bt205 => (if bt205.1 = 0 then (some (bt197.1, bt205.2.1, bt205.2.2, 0)) else (some (0, ([] : List Int), ([] : List Int), bt205.1)))))) else (some (0, ([] : List Int), ([] : List Int), t196))) = some (r1, r2, r3, r4) := H; have A4 := Aside0.mk A40; clear A40
 by_cases c5 : t196 = 0
 ·
  rw [if_pos c5] at H; have c5b0 : (t196 == 0) = true := beq_iff_eq.mpr c5; have c5b1 : (t196 != 0) = false := bne_eq_false_iff_eq.mpr c5; clear c5
  by_cases c6 : a2 > 1
  ·
   rw [if_pos c6] at H; have c6b0 : decide (1 < a2) = true := decide_eq_true c6; clear c6; simp only [Option.some.injEq, Prod.mk.injEq] at H; obtain ⟨rfl, rfl, rfl, rfl⟩ := H
   go_enter Tryd.func15, Tryd.ntmps15
   go_wp2_with (first | ((with_reducible refine gate_dst (N := 3) rfl ?_); refine box_event ?hg (N := 3) ?hd (cs := #[.int .i32 a0_0, .slice A0_1 l0_1.length c0_1, .slice A0_2 l0_2.length c0_2]) (t := 24) ?hr ?_; (case hd => rfl); (case hg => rfl); (case hr => first | (go_simp; done) | (go_simp; rfl)); intro gb194 hg w7 hbox hb; have n0_ := Aside0.mk (below_step (pH_ HB.out) hb); have n1_ := Aside0.mk (hbox); have n2_ := Aside0.mk ((by rw [hg]; exact (below_size (pH_ HB.out)) : w.heap.size ≤ gb194)); have n3_ := Aside0.mk ((by rw [hg]; exact (below_size (pH_ HB.out)) : w.heap.size ≤ gb194)); clear HB; have HB := n0_; have BK194 := n1_; have GW194 := n2_; have GE194 := n3_; clear n0_ n1_ n2_ n3_; clear hb hbox hg) | ((with_reducible refine gate_dst (N := 6) rfl ?_); refine box_event ?hg (N := 6) ?hd (cs := #[.int .i32 0, .slice none 0 0, .slice none 0 0]) (t := 24) ?hr ?_; (case hd => rfl); (case hg => rfl); (case hr => first | (go_simp; done) | (go_simp; rfl)); intro gb195 hg w8 hbox hb; have n0_ := Aside0.mk (blk_below (pG_ BK194.out) hb); have n1_ := Aside0.mk (below_step (pH_ HB.out) hb); have n2_ := Aside0.mk (hbox); have n3_ := Aside0.mk ((by rw [hg]; exact (below_size (pH_ HB.out)) : w.heap.size ≤ gb195)); have n4_ := Aside0.mk ((by rw [hg]; exact (below_size (pH_ HB.out)) : w.heap.size ≤ gb195)); have n5_ := Aside0.mk ((by rw [hg]; exact Nat.ne_of_lt (blk_lt (pG_ BK194.out)) : gb194 ≠ gb195)); have n6_ := Aside0.mk ((by rw [hg]; exact Nat.ne_of_gt (blk_lt (pG_ BK194.out)) : gb195 ≠ gb194)); clear BK194; clear HB; have BK194 := n0_; have HB := n1_; have BK195 := n2_; have GW195 := n3_; have GE195 := n4_; have NB194_195 := n5_; have NB195_194 := n6_; clear n0_ n1_ n2_ n3_ n4_ n5_ n6_; clear hb hbox hg; have hnb9 := NB194_195.out; have hnc9 := NB195_194.out; have hcz10_0 : w8.cell? ⟨gb194, 0, none⟩ = some (.int .i32 a0_0) := (blk_cell BK194.out 0).trans rfl; have hcz10_1 : w8.cell? ⟨gb194, 1, none⟩ = some (.slice A0_1 l0_1.length c0_1) := (blk_cell BK194.out 1).trans rfl; have hcz10_2 : w8.cell? ⟨gb194, 2, none⟩ = some (.slice A0_2 l0_2.length c0_2) := (blk_cell BK194.out 2).trans rfl; have hfz10_0 := blk_frozen BK194.out 0; have hfz10_1 := blk_frozen BK194.out 1; have hfz10_2 := blk_frozen BK194.out 2) | ((with_reducible refine gate_callee (f := 30) rfl ?_); refine gL_ (some 13) Tryd.func30 #[.agg #[.int .i32 a0_0, .slice A0_1 l0_1.length c0_1, .slice A0_2 l0_2.length c0_2], .int .u8 a1] ?_; (with_reducible refine (adapt_at.calls k a0_0 _ _ l0_1 _ _ l0_2 a1 t196 _ ?side1 ?side2 ?side3 ?side4 (tab_bel hT (pH_ HB.out)) A4.out).mono ?_); (case side1 => repeat (first | exact (Kd.C_below HR0_1.out HB.out) | (with_reducible refine Kd.C_alloc ?_ _) | (with_reducible refine Kd.C_drewN ?_ _) | (with_reducible refine Kd.C_drew ?_))); (case side2 => exact HC0_1.out); (case side3 => repeat (first | exact (Kd.C_below HR0_2.out HB.out) | (with_reducible refine Kd.C_alloc ?_ _) | (with_reducible refine Kd.C_drewN ?_ _) | (with_reducible refine Kd.C_drew ?_))); (case side4 => exact HC0_2.out); rintro e w11 ⟨rfl, hb⟩; refine ⟨_, rfl, ?_⟩; have n0_ := Aside0.mk (blk_below (pG_ BK194.out) hb); have n1_ := Aside0.mk (blk_below (pG_ BK195.out) hb); have n2_ := Aside0.mk (below_step (pH_ HB.out) hb); clear BK194; clear BK195; clear HB; have BK194 := n0_; have BK195 := n1_; have HB := n2_; clear n0_ n1_ n2_; (try clear hb); (try clear hb2); (try clear hk); (try clear hi); have hcz12_0 : w11.cell? ⟨gb195, 0, none⟩ = some (.int .i32 0) := (blk_cell BK195.out 0).trans rfl; have hcz12_1 : w11.cell? ⟨gb195, 1, none⟩ = some (.slice none 0 0) := (blk_cell BK195.out 1).trans rfl; have hcz12_2 : w11.cell? ⟨gb195, 2, none⟩ = some (.slice none 0 0) := (blk_cell BK195.out 2).trans rfl; have hfz12_0 := blk_frozen BK195.out 0; have hfz12_1 := blk_frozen BK195.out 1; have hfz12_2 := blk_frozen BK195.out 2))
   refine bodyPost_ret (results_ct rfl _ _ gb195 24 #[.int .i32 0, .slice none 0 0, .slice none 0 0] (0, 0) _ rfl (by (with_reducible repeat (first | refine blk_drewN ?_ _ | refine blk_drew ?_ | refine blk_alloc ?_ _)); refine blk_put (cs := #[.int .i32 0, .slice none 0 0, .slice none 0 0]) ?_ 2 _ rfl; (with_reducible repeat (first | refine blk_drewN ?_ _ | refine blk_drew ?_ | refine blk_alloc ?_ _)); refine blk_put (cs := #[.int .i32 0, .slice none 0 0, .slice none 0 0]) ?_ 1 _ rfl; (with_reducible repeat (first | refine blk_drewN ?_ _ | refine blk_drew ?_ | refine blk_alloc ?_ _)); refine blk_put (cs := #[.int .i32 0, .slice none 0 0, .slice none 0 0]) ?_ 0 _ rfl; (with_reducible repeat (first | refine blk_drewN ?_ _ | refine blk_drew ?_ | refine blk_alloc ?_ _)); exact BK195.out) Tryd.underlying24 rfl (by kernel_rfl)) rfl ?_; exact ⟨_, _, by first | rfl | (simp [errW_none, errW_some] <;> rfl) | (simp [*, errW_none, errW_some] <;> rfl), by first | exact Kd.R_nil _ _ _ _ _ | exact Kd.N_nil _ _ _ _ _ | exact Kd.V_nil _ _ _ _ _ | exact Kd.Q_nil _ _ _ _ _ | exact Kd.S_nil _ _ _ _ _, by first | exact Kd.R_nil _ _ _ _ _ | exact Kd.N_nil _ _ _ _ _ | exact Kd.V_nil _ _ _ _ _ | exact Kd.Q_nil _ _ _ _ _ | exact Kd.S_nil _ _ _ _ _, pH_ HB.out⟩
  ·
   rw [if_neg c6] at H; have c6b0 : decide (1 < a2) = false := decide_eq_false c6; clear c6; replace H := Option.bind_eq_some_iff.mp H; obtain ⟨⟨t197, t198, t201⟩, A130, H⟩ := H; replace H : ((adapt_change.f k t197 t198 t201 a1 a2).bind fun bt205 => (if bt205.1 = 0 then (some (t197, bt205.2.1, bt205.2.2, 0)) else (some (0, ([] : List Int), ([] : List Int), bt205.1)))) = some (r1, r2, r3, r4) := H; have A13 := Aside0.mk A130; clear A130; replace H := Option.bind_eq_some_iff.mp H; obtain ⟨⟨t205, t206, t207⟩, A140, H⟩ := H; replace H : (if t205 = 0 then (some (t197, t206, t207, 0)) else (some (0, ([] : List Int), ([] : List Int), t205))) = some (r1, r2, r3, r4) := H; have A14 := Aside0.mk A140; clear A140
   by_cases c15 : t205 = 0
   ·
    rw [if_pos c15] at H; have c15b0 : (t205 == 0) = true := beq_iff_eq.mpr c15; have c15b1 : (t205 != 0) = false := bne_eq_false_iff_eq.mpr c15; clear c15; simp only [Option.some.injEq, Prod.mk.injEq] at H; obtain ⟨rfl, rfl, rfl, rfl⟩ := H
    go_enter Tryd.func15, Tryd.ntmps15
    go_wp2_with (first | ((with_reducible refine gate_dst (N := 3) rfl ?_); refine box_event ?hg (N := 3) ?hd (cs := #[.int .i32 a0_0, .slice A0_1 l0_1.length c0_1, .slice A0_2 l0_2.length c0_2]) (t := 24) ?hr ?_; (case hd => rfl); (case hg => rfl); (case hr => first | (go_simp; done) | (go_simp; rfl)); intro gb194 hg w16 hbox hb; have n0_ := Aside0.mk (below_step (pH_ HB.out) hb); have n1_ := Aside0.mk (hbox); have n2_ := Aside0.mk ((by rw [hg]; exact (below_size (pH_ HB.out)) : w.heap.size ≤ gb194)); have n3_ := Aside0.mk ((by rw [hg]; exact (below_size (pH_ HB.out)) : w.heap.size ≤ gb194)); clear HB; have HB := n0_; have BK194 := n1_; have GW194 := n2_; have GE194 := n3_; clear n0_ n1_ n2_ n3_; clear hb hbox hg) | ((with_reducible refine gate_dst (N := 6) rfl ?_); refine box_event ?hg (N := 6) ?hd (cs := #[.int .i32 0, .slice none 0 0, .slice none 0 0]) (t := 24) ?hr ?_; (case hd => rfl); (case hg => rfl); (case hr => first | (go_simp; done) | (go_simp; rfl)); intro gb195 hg w17 hbox hb; have n0_ := Aside0.mk (blk_below (pG_ BK194.out) hb); have n1_ := Aside0.mk (below_step (pH_ HB.out) hb); have n2_ := Aside0.mk (hbox); have n3_ := Aside0.mk ((by rw [hg]; exact (below_size (pH_ HB.out)) : w.heap.size ≤ gb195)); have n4_ := Aside0.mk ((by rw [hg]; exact (below_size (pH_ HB.out)) : w.heap.size ≤ gb195)); have n5_ := Aside0.mk ((by rw [hg]; exact Nat.ne_of_lt (blk_lt (pG_ BK194.out)) : gb194 ≠ gb195)); have n6_ := Aside0.mk ((by rw [hg]; exact Nat.ne_of_gt (blk_lt (pG_ BK194.out)) : gb195 ≠ gb194)); clear BK194; clear HB; have BK194 := n0_; have HB := n1_; have BK195 := n2_; have GW195 := n3_; have GE195 := n4_; have NB194_195 := n5_; have NB195_194 := n6_; clear n0_ n1_ n2_ n3_ n4_ n5_ n6_; clear hb hbox hg; have hnb18 := NB194_195.out; have hnc18 := NB195_194.out; have hcz19_0 : w17.cell? ⟨gb194, 0, none⟩ = some (.int .i32 a0_0) := (blk_cell BK194.out 0).trans rfl; have hcz19_1 : w17.cell? ⟨gb194, 1, none⟩ = some (.slice A0_1 l0_1.length c0_1) := (blk_cell BK194.out 1).trans rfl; have hcz19_2 : w17.cell? ⟨gb194, 2, none⟩ = some (.slice A0_2 l0_2.length c0_2) := (blk_cell BK194.out 2).trans rfl; have hfz19_0 := blk_frozen BK194.out 0; have hfz19_1 := blk_frozen BK194.out 1; have hfz19_2 := blk_frozen BK194.out 2) | ((with_reducible refine gate_callee (f := 30) rfl ?_); refine gL_ (some 13) Tryd.func30 #[.agg #[.int .i32 a0_0, .slice A0_1 l0_1.length c0_1, .slice A0_2 l0_2.length c0_2], .int .u8 a1] ?_; (with_reducible refine (adapt_at.calls k a0_0 _ _ l0_1 _ _ l0_2 a1 t196 _ ?side1 ?side2 ?side3 ?side4 (tab_bel hT (pH_ HB.out)) A4.out).mono ?_); (case side1 => repeat (first | exact (Kd.C_below HR0_1.out HB.out) | (with_reducible refine Kd.C_alloc ?_ _) | (with_reducible refine Kd.C_drewN ?_ _) | (with_reducible refine Kd.C_drew ?_))); (case side2 => exact HC0_1.out); (case side3 => repeat (first | exact (Kd.C_below HR0_2.out HB.out) | (with_reducible refine Kd.C_alloc ?_ _) | (with_reducible refine Kd.C_drewN ?_ _) | (with_reducible refine Kd.C_drew ?_))); (case side4 => exact HC0_2.out); rintro e w20 ⟨rfl, hb⟩; refine ⟨_, rfl, ?_⟩; have n0_ := Aside0.mk (blk_below (pG_ BK194.out) hb); have n1_ := Aside0.mk (blk_below (pG_ BK195.out) hb); have n2_ := Aside0.mk (below_step (pH_ HB.out) hb); clear BK194; clear BK195; clear HB; have BK194 := n0_; have BK195 := n1_; have HB := n2_; clear n0_ n1_ n2_; (try clear hb); (try clear hb2); (try clear hk); (try clear hi); have hcz21_0 : w20.cell? ⟨gb194, 0, none⟩ = some (.int .i32 a0_0) := (blk_cell BK194.out 0).trans rfl; have hcz21_1 : w20.cell? ⟨gb194, 1, none⟩ = some (.slice A0_1 l0_1.length c0_1) := (blk_cell BK194.out 1).trans rfl; have hcz21_2 : w20.cell? ⟨gb194, 2, none⟩ = some (.slice A0_2 l0_2.length c0_2) := (blk_cell BK194.out 2).trans rfl; have hfz21_0 := blk_frozen BK194.out 0; have hfz21_1 := blk_frozen BK194.out 1; have hfz21_2 := blk_frozen BK194.out 2) | ((with_reducible refine gate_callee (f := 32) rfl ?_); refine gL_ (some 22) Tryd.func32 #[.agg #[.int .i32 a0_0, .slice A0_1 l0_1.length c0_1, .slice A0_2 l0_2.length c0_2]] ?_; (with_reducible refine (adapt_twin.calls a0_0 _ _ l0_1 _ _ l0_2 t197 t198 t201 _ ?side1 ?side2 ?side3 ?side4 A13.out).mono ?_); (case side1 => repeat (first | exact (Kd.C_below HR0_1.out HB.out) | (with_reducible refine Kd.C_alloc ?_ _) | (with_reducible refine Kd.C_drewN ?_ _) | (with_reducible refine Kd.C_drew ?_))); (case side2 => exact HC0_1.out); (case side3 => repeat (first | exact (Kd.C_below HR0_2.out HB.out) | (with_reducible refine Kd.C_alloc ?_ _) | (with_reducible refine Kd.C_drewN ?_ _) | (with_reducible refine Kd.C_drew ?_))); (case side4 => exact HC0_2.out); rintro e w22 ⟨v199, v202, rfl, ho0, ho1, hb⟩; refine ⟨_, rfl, ?_⟩; have n0_ := Aside0.mk (Kd.R_lower ho0 (below_size (pH_ HB.out))); have n1_ := Aside0.mk (Kd.R_lower ho1 (below_size (pH_ HB.out))); have n2_ := Aside0.mk (blk_below (pG_ BK194.out) hb); have n3_ := Aside0.mk (blk_below (pG_ BK195.out) hb); have n4_ := Aside0.mk (below_step (pH_ HB.out) hb); clear BK194; clear BK195; clear HB; have HO200 := n0_; have HO203 := n1_; have BK194 := n2_; have BK195 := n3_; have HB := n4_; clear n0_ n1_ n2_ n3_ n4_; (try clear hb); (try clear hb2); (try clear hk); (try clear hi); (try clear ho0); (try clear ho1)) | ((with_reducible refine gate_dst (N := 9) rfl ?_); refine box_event ?hg (N := 9) ?hd (cs := #[.int .i32 0, .slice none 0 0, .slice none 0 0]) (t := 24) ?hr ?_; (case hd => rfl); (case hg => rfl); (case hr => first | (go_simp; done) | (go_simp; rfl)); intro gb204 hg w23 hbox hb; have n0_ := Aside0.mk (Kd.R_below (pL_ HO200.out) hb); have n1_ := Aside0.mk (Kd.R_below (pL_ HO203.out) hb); have n2_ := Aside0.mk (blk_below (pG_ BK194.out) hb); have n3_ := Aside0.mk (blk_below (pG_ BK195.out) hb); have n4_ := Aside0.mk (below_step (pH_ HB.out) hb); have n5_ := Aside0.mk (hbox); have n6_ := Aside0.mk ((by rw [hg]; exact (below_size (pH_ HB.out)) : w.heap.size ≤ gb204)); have n7_ := Aside0.mk ((by rw [hg]; exact (below_size (pH_ HB.out)) : w.heap.size ≤ gb204)); have n8_ := Aside0.mk ((by rw [hg]; exact Nat.ne_of_lt (blk_lt (pG_ BK194.out)) : gb194 ≠ gb204)); have n9_ := Aside0.mk ((by rw [hg]; exact Nat.ne_of_gt (blk_lt (pG_ BK194.out)) : gb204 ≠ gb194)); have n10_ := Aside0.mk ((by rw [hg]; exact Nat.ne_of_lt (blk_lt (pG_ BK195.out)) : gb195 ≠ gb204)); have n11_ := Aside0.mk ((by rw [hg]; exact Nat.ne_of_gt (blk_lt (pG_ BK195.out)) : gb204 ≠ gb195)); clear HO200; clear HO203; clear BK194; clear BK195; clear HB; have HO200 := n0_; have HO203 := n1_; have BK194 := n2_; have BK195 := n3_; have HB := n4_; have BK204 := n5_; have GW204 := n6_; have GE204 := n7_; have NB194_204 := n8_; have NB204_194 := n9_; have NB195_204 := n10_; have NB204_195 := n11_; clear n0_ n1_ n2_ n3_ n4_ n5_ n6_ n7_ n8_ n9_ n10_ n11_; clear hb hbox hg; have hnb24 := NB204_194.out; have hnc24 := NB194_204.out; have hnb25 := NB204_195.out; have hnc25 := NB195_204.out; have hcz26_0 : w23.cell? ⟨gb204, 0, none⟩ = some (.int .i32 0) := (blk_cell BK204.out 0).trans rfl; have hcz26_1 : w23.cell? ⟨gb204, 1, none⟩ = some (.slice none 0 0) := (blk_cell BK204.out 1).trans rfl; have hcz26_2 : w23.cell? ⟨gb204, 2, none⟩ = some (.slice none 0 0) := (blk_cell BK204.out 2).trans rfl; have hfz26_0 := blk_frozen BK204.out 0; have hfz26_1 := blk_frozen BK204.out 1; have hfz26_2 := blk_frozen BK204.out 2; obtain ⟨Ao27, co27, eo27⟩ := Kd.R_slice HO200.out; subst eo27; obtain ⟨Ao28, co28, eo28⟩ := Kd.R_slice HO203.out; subst eo28) | ((with_reducible refine gate_store (t := 24) (p := 9) rfl ?_); refine store_event (t := 24) (p := 9) (v := ?vo_w29) (w1 := (((w23.setCell ⟨gb204, 0, none⟩ (.int .i32 t197)).setCell ⟨gb204, 1, none⟩ (.slice Ao27 t198.length co27)).setCell ⟨gb204, 2, none⟩ (.slice Ao28 t201.length co28))) ?hg ?ho ?hn ?hr ?_; (case ho => rfl); (case hg => rfl); (case hn => rfl); (case hr => first | (go_simp; done) | (go_simp; rfl)); intro w29 hw; have n0_ : Aside0 (Kd.R (Kd.int .i32) 21 w29 w.heap.size (fun k_ => nO_ k_ (.slice Ao28 t201.length co28)) (.slice Ao27 t198.length co27) t198) := ⟨(by rw [hw]; exact (by (with_reducible repeat (first | apply rA_ | apply rN_ | apply rD_)); exact Kd.R_mono (Kd.R_far (p := ⟨gb204, 2, none⟩) (Kd.R_far (p := ⟨gb204, 1, none⟩) (Kd.R_far (p := ⟨gb204, 0, none⟩) (Kd.R_types HO200.out BK204.out (by decide)) (fun _ hk => hk.2) (.int .i32 t197)) (fun _ hk => hk.2) (.slice Ao27 t198.length co27)) (fun _ hk => hk.2) (.slice Ao28 t201.length co28)) (fun _ hk => hk.1)))⟩; have n1_ : Aside0 (Kd.R (Kd.int .i32) 21 w29 w.heap.size (fun k_ => nO_ k_ (.slice Ao27 t198.length co27)) (.slice Ao28 t201.length co28) t201) := ⟨(by rw [hw]; exact (by (with_reducible repeat (first | apply rA_ | apply rN_ | apply rD_)); exact Kd.R_mono (Kd.R_far (p := ⟨gb204, 2, none⟩) (Kd.R_far (p := ⟨gb204, 1, none⟩) (Kd.R_far (p := ⟨gb204, 0, none⟩) (Kd.R_types HO203.out BK204.out (by decide)) (fun _ hk => hk.2) (.int .i32 t197)) (fun _ hk => hk.2) (.slice Ao27 t198.length co27)) (fun _ hk => hk.2) (.slice Ao28 t201.length co28)) (fun _ hk => hk.1)))⟩; have n2_ : Aside0 (w29.heap[gb194]? = some (.cells #[.int .i32 a0_0, .slice A0_1 l0_1.length c0_1, .slice A0_2 l0_2.length c0_2] 24 (0, 0))) := ⟨(by rw [hw]; exact (by (with_reducible repeat (first | refine blk_drewN ?_ _ | refine blk_drew ?_ | refine blk_alloc ?_ _)); refine blk_far ?_ NB194_204.out _; (with_reducible repeat (first | refine blk_drewN ?_ _ | refine blk_drew ?_ | refine blk_alloc ?_ _)); refine blk_far ?_ NB194_204.out _; (with_reducible repeat (first | refine blk_drewN ?_ _ | refine blk_drew ?_ | refine blk_alloc ?_ _)); refine blk_far ?_ NB194_204.out _; (with_reducible repeat (first | refine blk_drewN ?_ _ | refine blk_drew ?_ | refine blk_alloc ?_ _)); exact BK194.out))⟩; have n3_ : Aside0 (w29.heap[gb195]? = some (.cells #[.int .i32 0, .slice none 0 0, .slice none 0 0] 24 (0, 0))) := ⟨(by rw [hw]; exact (by (with_reducible repeat (first | refine blk_drewN ?_ _ | refine blk_drew ?_ | refine blk_alloc ?_ _)); refine blk_far ?_ NB195_204.out _; (with_reducible repeat (first | refine blk_drewN ?_ _ | refine blk_drew ?_ | refine blk_alloc ?_ _)); refine blk_far ?_ NB195_204.out _; (with_reducible repeat (first | refine blk_drewN ?_ _ | refine blk_drew ?_ | refine blk_alloc ?_ _)); refine blk_far ?_ NB195_204.out _; (with_reducible repeat (first | refine blk_drewN ?_ _ | refine blk_drew ?_ | refine blk_alloc ?_ _)); exact BK195.out))⟩; have n4_ : Aside0 (w29.heap[gb204]? = some (.cells #[.int .i32 t197, .slice Ao27 t198.length co27, .slice Ao28 t201.length co28] 24 (0, 0))) := ⟨(by rw [hw]; exact (by (with_reducible repeat (first | refine blk_drewN ?_ _ | refine blk_drew ?_ | refine blk_alloc ?_ _)); refine blk_put (cs := #[.int .i32 t197, .slice Ao27 t198.length co27, .slice none 0 0]) ?_ 2 _ rfl; (with_reducible repeat (first | refine blk_drewN ?_ _ | refine blk_drew ?_ | refine blk_alloc ?_ _)); refine blk_put (cs := #[.int .i32 t197, .slice none 0 0, .slice none 0 0]) ?_ 1 _ rfl; (with_reducible repeat (first | refine blk_drewN ?_ _ | refine blk_drew ?_ | refine blk_alloc ?_ _)); refine blk_put (cs := #[.int .i32 0, .slice none 0 0, .slice none 0 0]) ?_ 0 _ rfl; (with_reducible repeat (first | refine blk_drewN ?_ _ | refine blk_drew ?_ | refine blk_alloc ?_ _)); exact BK204.out))⟩; have n5_ : Aside0 (Below w.heap.size w w29) := ⟨(by rw [hw]; exact (pH_ HB.out))⟩; clear hw; clear HO200; clear HO203; clear BK194; clear BK195; clear BK204; clear HB; have HO200 := n0_; have HO203 := n1_; have BK194 := n2_; have BK195 := n3_; have BK204 := n4_; have HB := n5_; clear n0_ n1_ n2_ n3_ n4_ n5_; have hcz30_0 : w29.cell? ⟨gb204, 0, none⟩ = some (.int .i32 t197) := (blk_cell BK204.out 0).trans rfl; have hcz30_1 : w29.cell? ⟨gb204, 1, none⟩ = some (.slice Ao27 t198.length co27) := (blk_cell BK204.out 1).trans rfl; have hcz30_2 : w29.cell? ⟨gb204, 2, none⟩ = some (.slice Ao28 t201.length co28) := (blk_cell BK204.out 2).trans rfl; have hfz30_0 := blk_frozen BK204.out 0; have hfz30_1 := blk_frozen BK204.out 1; have hfz30_2 := blk_frozen BK204.out 2) | ((with_reducible refine gate_callee (f := 33) rfl ?_); refine gL_ (some 26) Tryd.func33 #[.agg #[.int .i32 t197, .slice Ao27 t198.length co27, .slice Ao28 t201.length co28], .int .u8 a1, .int .u8 a2] ?_; (with_reducible refine (adapt_change.calls k t197 (fun k_ => some k_ = (.slice Ao27 t198.length co27 : Value).ownBlock) (.slice Ao27 t198.length co27) t198 (fun k_ => some k_ = (.slice Ao28 t201.length co28 : Value).ownBlock) (.slice Ao28 t201.length co28) t201 a1 a2 t205 t206 t207 w _ ?side1 ?side2 ?side3 ?side4 ?side5 hT A14.out).mono ?_); (case side1 => repeat (first | (with_reducible first | exact HB.out | apply below_alloc | apply bN_ | apply below_drew1 | refine below_set ?_ GE194.out | refine below_set ?_ GE195.out | refine below_set ?_ GE204.out) | exact HB.out)); (case side2 => exact Kd.R_tight rfl HO200.out); (case side3 => exact fun k_ e_ => (HO200.out.1 k_ e_.symm)); (case side4 => exact Kd.R_tight rfl HO203.out); (case side5 => exact fun k_ e_ => (HO203.out.1 k_ e_.symm)); rintro e w31 ⟨rfl, hy0, hy1, hb, hkp⟩; refine ⟨_, rfl, ?_⟩; have n0_ := Aside0.mk (blk_kept (pG_ BK194.out) hkp (fun hs_ => Or.elim hs_ (fun e_ => (fun e_ => (Kd.R_ne HO200.out BK194.out (by decide)) e_) e_) (fun e_ => (fun e_ => (Kd.R_ne HO203.out BK194.out (by decide)) e_) e_))); have n1_ := Aside0.mk (blk_kept (pG_ BK195.out) hkp (fun hs_ => Or.elim hs_ (fun e_ => (fun e_ => (Kd.R_ne HO200.out BK195.out (by decide)) e_) e_) (fun e_ => (fun e_ => (Kd.R_ne HO203.out BK195.out (by decide)) e_) e_))); have n2_ := Aside0.mk (Kd.R_reok rfl hy0 (fun k_ e_ => HO200.out.1 k_ e_)); have n3_ := Aside0.mk (Kd.R_reok rfl hy1 (fun k_ e_ => HO203.out.1 k_ e_)); have n4_ := Aside0.mk (blk_kept (pG_ BK204.out) hkp (fun hs_ => Or.elim hs_ (fun e_ => (fun e_ => (Kd.R_ne HO200.out BK204.out (by decide)) e_) e_) (fun e_ => (fun e_ => (Kd.R_ne HO203.out BK204.out (by decide)) e_) e_))); have n5_ := Aside0.mk (hb); clear BK194; clear BK195; clear HO200; clear HO203; clear BK204; clear HB; have BK194 := n0_; have BK195 := n1_; have HO200 := n2_; have HO203 := n3_; have BK204 := n4_; have HB := n5_; clear n0_ n1_ n2_ n3_ n4_ n5_; (try clear hb); (try clear hkp); (try clear hy0); (try clear hy1); have hcz32_0 : w31.cell? ⟨gb204, 0, none⟩ = some (.int .i32 t197) := (blk_cell BK204.out 0).trans rfl; have hcz32_1 : w31.cell? ⟨gb204, 1, none⟩ = some (.slice Ao27 t198.length co27) := (blk_cell BK204.out 1).trans rfl; have hcz32_2 : w31.cell? ⟨gb204, 2, none⟩ = some (.slice Ao28 t201.length co28) := (blk_cell BK204.out 2).trans rfl; have hfz32_0 := blk_frozen BK204.out 0; have hfz32_1 := blk_frozen BK204.out 1; have hfz32_2 := blk_frozen BK204.out 2; have hcz33_0 : w31.cell? ⟨gb195, 0, none⟩ = some (.int .i32 0) := (blk_cell BK195.out 0).trans rfl; have hcz33_1 : w31.cell? ⟨gb195, 1, none⟩ = some (.slice none 0 0) := (blk_cell BK195.out 1).trans rfl; have hcz33_2 : w31.cell? ⟨gb195, 2, none⟩ = some (.slice none 0 0) := (blk_cell BK195.out 2).trans rfl; have hfz33_0 := blk_frozen BK195.out 0; have hfz33_1 := blk_frozen BK195.out 1; have hfz33_2 := blk_frozen BK195.out 2))
    refine bodyPost_ret (results_ct rfl _ _ gb195 24 #[.int .i32 t197, .slice Ao27 t198.length co27, .slice Ao28 t201.length co28] (0, 0) _ rfl (by (with_reducible repeat (first | refine blk_drewN ?_ _ | refine blk_drew ?_ | refine blk_alloc ?_ _)); refine blk_put (cs := #[.int .i32 t197, .slice Ao27 t198.length co27, .slice none 0 0]) ?_ 2 _ rfl; (with_reducible repeat (first | refine blk_drewN ?_ _ | refine blk_drew ?_ | refine blk_alloc ?_ _)); refine blk_put (cs := #[.int .i32 t197, .slice none 0 0, .slice none 0 0]) ?_ 1 _ rfl; (with_reducible repeat (first | refine blk_drewN ?_ _ | refine blk_drew ?_ | refine blk_alloc ?_ _)); refine blk_put (cs := #[.int .i32 0, .slice none 0 0, .slice none 0 0]) ?_ 0 _ rfl; (with_reducible repeat (first | refine blk_drewN ?_ _ | refine blk_drew ?_ | refine blk_alloc ?_ _)); exact BK195.out) Tryd.underlying24 rfl (by kernel_rfl)) rfl ?_; exact ⟨_, _, by first | rfl | (simp [errW_none, errW_some] <;> rfl) | (simp [*, errW_none, errW_some] <;> rfl), by (with_reducible repeat (first | apply rA_ | apply rN_ | apply rD_)); exact Kd.R_mono (Kd.R_far (p := ⟨gb195, 2, none⟩) (Kd.R_far (p := ⟨gb195, 1, none⟩) (Kd.R_far (p := ⟨gb195, 0, none⟩) (Kd.R_types HO200.out BK195.out (by decide)) (fun _ hk => hk.2) (.int .i32 t197)) (fun _ hk => hk.2) (.slice Ao27 t198.length co27)) (fun _ hk => hk.2) (.slice Ao28 t201.length co28)) (fun _ hk => hk.1), by (with_reducible repeat (first | apply rA_ | apply rN_ | apply rD_)); exact Kd.R_mono (Kd.R_far (p := ⟨gb195, 2, none⟩) (Kd.R_far (p := ⟨gb195, 1, none⟩) (Kd.R_far (p := ⟨gb195, 0, none⟩) (Kd.R_types HO203.out BK195.out (by decide)) (fun _ hk => hk.2) (.int .i32 t197)) (fun _ hk => hk.2) (.slice Ao27 t198.length co27)) (fun _ hk => hk.2) (.slice Ao28 t201.length co28)) (fun _ hk => hk.1), pH_ HB.out⟩
   ·
    rw [if_neg c15] at H; have c15b0 : (t205 == 0) = false := beq_eq_false_iff_ne.mpr c15; have c15b1 : (t205 != 0) = true := bne_iff_ne.mpr c15; simp only [Option.some.injEq, Prod.mk.injEq] at H; obtain ⟨rfl, rfl, rfl, rfl⟩ := H
    go_enter Tryd.func15, Tryd.ntmps15
    go_wp2_with (first | ((with_reducible refine gate_dst (N := 3) rfl ?_); refine box_event ?hg (N := 3) ?hd (cs := #[.int .i32 a0_0, .slice A0_1 l0_1.length c0_1, .slice A0_2 l0_2.length c0_2]) (t := 24) ?hr ?_; (case hd => rfl); (case hg => rfl); (case hr => first | (go_simp; done) | (go_simp; rfl)); intro gb194 hg w34 hbox hb; have n0_ := Aside0.mk (below_step (pH_ HB.out) hb); have n1_ := Aside0.mk (hbox); have n2_ := Aside0.mk ((by rw [hg]; exact (below_size (pH_ HB.out)) : w.heap.size ≤ gb194)); have n3_ := Aside0.mk ((by rw [hg]; exact (below_size (pH_ HB.out)) : w.heap.size ≤ gb194)); clear HB; have HB := n0_; have BK194 := n1_; have GW194 := n2_; have GE194 := n3_; clear n0_ n1_ n2_ n3_; clear hb hbox hg) | ((with_reducible refine gate_dst (N := 6) rfl ?_); refine box_event ?hg (N := 6) ?hd (cs := #[.int .i32 0, .slice none 0 0, .slice none 0 0]) (t := 24) ?hr ?_; (case hd => rfl); (case hg => rfl); (case hr => first | (go_simp; done) | (go_simp; rfl)); intro gb195 hg w35 hbox hb; have n0_ := Aside0.mk (blk_below (pG_ BK194.out) hb); have n1_ := Aside0.mk (below_step (pH_ HB.out) hb); have n2_ := Aside0.mk (hbox); have n3_ := Aside0.mk ((by rw [hg]; exact (below_size (pH_ HB.out)) : w.heap.size ≤ gb195)); have n4_ := Aside0.mk ((by rw [hg]; exact (below_size (pH_ HB.out)) : w.heap.size ≤ gb195)); have n5_ := Aside0.mk ((by rw [hg]; exact Nat.ne_of_lt (blk_lt (pG_ BK194.out)) : gb194 ≠ gb195)); have n6_ := Aside0.mk ((by rw [hg]; exact Nat.ne_of_gt (blk_lt (pG_ BK194.out)) : gb195 ≠ gb194)); clear BK194; clear HB; have BK194 := n0_; have HB := n1_; have BK195 := n2_; have GW195 := n3_; have GE195 := n4_; have NB194_195 := n5_; have NB195_194 := n6_; clear n0_ n1_ n2_ n3_ n4_ n5_ n6_; clear hb hbox hg; have hnb36 := NB194_195.out; have hnc36 := NB195_194.out; have hcz37_0 : w35.cell? ⟨gb194, 0, none⟩ = some (.int .i32 a0_0) := (blk_cell BK194.out 0).trans rfl; have hcz37_1 : w35.cell? ⟨gb194, 1, none⟩ = some (.slice A0_1 l0_1.length c0_1) := (blk_cell BK194.out 1).trans rfl; have hcz37_2 : w35.cell? ⟨gb194, 2, none⟩ = some (.slice A0_2 l0_2.length c0_2) := (blk_cell BK194.out 2).trans rfl; have hfz37_0 := blk_frozen BK194.out 0; have hfz37_1 := blk_frozen BK194.out 1; have hfz37_2 := blk_frozen BK194.out 2) | ((with_reducible refine gate_callee (f := 30) rfl ?_); refine gL_ (some 13) Tryd.func30 #[.agg #[.int .i32 a0_0, .slice A0_1 l0_1.length c0_1, .slice A0_2 l0_2.length c0_2], .int .u8 a1] ?_; (with_reducible refine (adapt_at.calls k a0_0 _ _ l0_1 _ _ l0_2 a1 t196 _ ?side1 ?side2 ?side3 ?side4 (tab_bel hT (pH_ HB.out)) A4.out).mono ?_); (case side1 => repeat (first | exact (Kd.C_below HR0_1.out HB.out) | (with_reducible refine Kd.C_alloc ?_ _) | (with_reducible refine Kd.C_drewN ?_ _) | (with_reducible refine Kd.C_drew ?_))); (case side2 => exact HC0_1.out); (case side3 => repeat (first | exact (Kd.C_below HR0_2.out HB.out) | (with_reducible refine Kd.C_alloc ?_ _) | (with_reducible refine Kd.C_drewN ?_ _) | (with_reducible refine Kd.C_drew ?_))); (case side4 => exact HC0_2.out); rintro e w38 ⟨rfl, hb⟩; refine ⟨_, rfl, ?_⟩; have n0_ := Aside0.mk (blk_below (pG_ BK194.out) hb); have n1_ := Aside0.mk (blk_below (pG_ BK195.out) hb); have n2_ := Aside0.mk (below_step (pH_ HB.out) hb); clear BK194; clear BK195; clear HB; have BK194 := n0_; have BK195 := n1_; have HB := n2_; clear n0_ n1_ n2_; (try clear hb); (try clear hb2); (try clear hk); (try clear hi); have hcz39_0 : w38.cell? ⟨gb194, 0, none⟩ = some (.int .i32 a0_0) := (blk_cell BK194.out 0).trans rfl; have hcz39_1 : w38.cell? ⟨gb194, 1, none⟩ = some (.slice A0_1 l0_1.length c0_1) := (blk_cell BK194.out 1).trans rfl; have hcz39_2 : w38.cell? ⟨gb194, 2, none⟩ = some (.slice A0_2 l0_2.length c0_2) := (blk_cell BK194.out 2).trans rfl; have hfz39_0 := blk_frozen BK194.out 0; have hfz39_1 := blk_frozen BK194.out 1; have hfz39_2 := blk_frozen BK194.out 2) | ((with_reducible refine gate_callee (f := 32) rfl ?_); refine gL_ (some 22) Tryd.func32 #[.agg #[.int .i32 a0_0, .slice A0_1 l0_1.length c0_1, .slice A0_2 l0_2.length c0_2]] ?_; (with_reducible refine (adapt_twin.calls a0_0 _ _ l0_1 _ _ l0_2 t197 t198 t201 _ ?side1 ?side2 ?side3 ?side4 A13.out).mono ?_); (case side1 => repeat (first | exact (Kd.C_below HR0_1.out HB.out) | (with_reducible refine Kd.C_alloc ?_ _) | (with_reducible refine Kd.C_drewN ?_ _) | (with_reducible refine Kd.C_drew ?_))); (case side2 => exact HC0_1.out); (case side3 => repeat (first | exact (Kd.C_below HR0_2.out HB.out) | (with_reducible refine Kd.C_alloc ?_ _) | (with_reducible refine Kd.C_drewN ?_ _) | (with_reducible refine Kd.C_drew ?_))); (case side4 => exact HC0_2.out); rintro e w40 ⟨v199, v202, rfl, ho0, ho1, hb⟩; refine ⟨_, rfl, ?_⟩; have n0_ := Aside0.mk (Kd.R_lower ho0 (below_size (pH_ HB.out))); have n1_ := Aside0.mk (Kd.R_lower ho1 (below_size (pH_ HB.out))); have n2_ := Aside0.mk (blk_below (pG_ BK194.out) hb); have n3_ := Aside0.mk (blk_below (pG_ BK195.out) hb); have n4_ := Aside0.mk (below_step (pH_ HB.out) hb); clear BK194; clear BK195; clear HB; have HO200 := n0_; have HO203 := n1_; have BK194 := n2_; have BK195 := n3_; have HB := n4_; clear n0_ n1_ n2_ n3_ n4_; (try clear hb); (try clear hb2); (try clear hk); (try clear hi); (try clear ho0); (try clear ho1)) | ((with_reducible refine gate_dst (N := 9) rfl ?_); refine box_event ?hg (N := 9) ?hd (cs := #[.int .i32 0, .slice none 0 0, .slice none 0 0]) (t := 24) ?hr ?_; (case hd => rfl); (case hg => rfl); (case hr => first | (go_simp; done) | (go_simp; rfl)); intro gb204 hg w41 hbox hb; have n0_ := Aside0.mk (Kd.R_below (pL_ HO200.out) hb); have n1_ := Aside0.mk (Kd.R_below (pL_ HO203.out) hb); have n2_ := Aside0.mk (blk_below (pG_ BK194.out) hb); have n3_ := Aside0.mk (blk_below (pG_ BK195.out) hb); have n4_ := Aside0.mk (below_step (pH_ HB.out) hb); have n5_ := Aside0.mk (hbox); have n6_ := Aside0.mk ((by rw [hg]; exact (below_size (pH_ HB.out)) : w.heap.size ≤ gb204)); have n7_ := Aside0.mk ((by rw [hg]; exact (below_size (pH_ HB.out)) : w.heap.size ≤ gb204)); have n8_ := Aside0.mk ((by rw [hg]; exact Nat.ne_of_lt (blk_lt (pG_ BK194.out)) : gb194 ≠ gb204)); have n9_ := Aside0.mk ((by rw [hg]; exact Nat.ne_of_gt (blk_lt (pG_ BK194.out)) : gb204 ≠ gb194)); have n10_ := Aside0.mk ((by rw [hg]; exact Nat.ne_of_lt (blk_lt (pG_ BK195.out)) : gb195 ≠ gb204)); have n11_ := Aside0.mk ((by rw [hg]; exact Nat.ne_of_gt (blk_lt (pG_ BK195.out)) : gb204 ≠ gb195)); clear HO200; clear HO203; clear BK194; clear BK195; clear HB; have HO200 := n0_; have HO203 := n1_; have BK194 := n2_; have BK195 := n3_; have HB := n4_; have BK204 := n5_; have GW204 := n6_; have GE204 := n7_; have NB194_204 := n8_; have NB204_194 := n9_; have NB195_204 := n10_; have NB204_195 := n11_; clear n0_ n1_ n2_ n3_ n4_ n5_ n6_ n7_ n8_ n9_ n10_ n11_; clear hb hbox hg; have hnb42 := NB204_194.out; have hnc42 := NB194_204.out; have hnb43 := NB204_195.out; have hnc43 := NB195_204.out; have hcz44_0 : w41.cell? ⟨gb204, 0, none⟩ = some (.int .i32 0) := (blk_cell BK204.out 0).trans rfl; have hcz44_1 : w41.cell? ⟨gb204, 1, none⟩ = some (.slice none 0 0) := (blk_cell BK204.out 1).trans rfl; have hcz44_2 : w41.cell? ⟨gb204, 2, none⟩ = some (.slice none 0 0) := (blk_cell BK204.out 2).trans rfl; have hfz44_0 := blk_frozen BK204.out 0; have hfz44_1 := blk_frozen BK204.out 1; have hfz44_2 := blk_frozen BK204.out 2; obtain ⟨Ao45, co45, eo45⟩ := Kd.R_slice HO200.out; subst eo45; obtain ⟨Ao46, co46, eo46⟩ := Kd.R_slice HO203.out; subst eo46) | ((with_reducible refine gate_store (t := 24) (p := 9) rfl ?_); refine store_event (t := 24) (p := 9) (v := ?vo_w47) (w1 := (((w41.setCell ⟨gb204, 0, none⟩ (.int .i32 t197)).setCell ⟨gb204, 1, none⟩ (.slice Ao45 t198.length co45)).setCell ⟨gb204, 2, none⟩ (.slice Ao46 t201.length co46))) ?hg ?ho ?hn ?hr ?_; (case ho => rfl); (case hg => rfl); (case hn => rfl); (case hr => first | (go_simp; done) | (go_simp; rfl)); intro w47 hw; have n0_ : Aside0 (Kd.R (Kd.int .i32) 21 w47 w.heap.size (fun k_ => nO_ k_ (.slice Ao46 t201.length co46)) (.slice Ao45 t198.length co45) t198) := ⟨(by rw [hw]; exact (by (with_reducible repeat (first | apply rA_ | apply rN_ | apply rD_)); exact Kd.R_mono (Kd.R_far (p := ⟨gb204, 2, none⟩) (Kd.R_far (p := ⟨gb204, 1, none⟩) (Kd.R_far (p := ⟨gb204, 0, none⟩) (Kd.R_types HO200.out BK204.out (by decide)) (fun _ hk => hk.2) (.int .i32 t197)) (fun _ hk => hk.2) (.slice Ao45 t198.length co45)) (fun _ hk => hk.2) (.slice Ao46 t201.length co46)) (fun _ hk => hk.1)))⟩; have n1_ : Aside0 (Kd.R (Kd.int .i32) 21 w47 w.heap.size (fun k_ => nO_ k_ (.slice Ao45 t198.length co45)) (.slice Ao46 t201.length co46) t201) := ⟨(by rw [hw]; exact (by (with_reducible repeat (first | apply rA_ | apply rN_ | apply rD_)); exact Kd.R_mono (Kd.R_far (p := ⟨gb204, 2, none⟩) (Kd.R_far (p := ⟨gb204, 1, none⟩) (Kd.R_far (p := ⟨gb204, 0, none⟩) (Kd.R_types HO203.out BK204.out (by decide)) (fun _ hk => hk.2) (.int .i32 t197)) (fun _ hk => hk.2) (.slice Ao45 t198.length co45)) (fun _ hk => hk.2) (.slice Ao46 t201.length co46)) (fun _ hk => hk.1)))⟩; have n2_ : Aside0 (w47.heap[gb194]? = some (.cells #[.int .i32 a0_0, .slice A0_1 l0_1.length c0_1, .slice A0_2 l0_2.length c0_2] 24 (0, 0))) := ⟨(by rw [hw]; exact (by (with_reducible repeat (first | refine blk_drewN ?_ _ | refine blk_drew ?_ | refine blk_alloc ?_ _)); refine blk_far ?_ NB194_204.out _; (with_reducible repeat (first | refine blk_drewN ?_ _ | refine blk_drew ?_ | refine blk_alloc ?_ _)); refine blk_far ?_ NB194_204.out _; (with_reducible repeat (first | refine blk_drewN ?_ _ | refine blk_drew ?_ | refine blk_alloc ?_ _)); refine blk_far ?_ NB194_204.out _; (with_reducible repeat (first | refine blk_drewN ?_ _ | refine blk_drew ?_ | refine blk_alloc ?_ _)); exact BK194.out))⟩; have n3_ : Aside0 (w47.heap[gb195]? = some (.cells #[.int .i32 0, .slice none 0 0, .slice none 0 0] 24 (0, 0))) := ⟨(by rw [hw]; exact (by (with_reducible repeat (first | refine blk_drewN ?_ _ | refine blk_drew ?_ | refine blk_alloc ?_ _)); refine blk_far ?_ NB195_204.out _; (with_reducible repeat (first | refine blk_drewN ?_ _ | refine blk_drew ?_ | refine blk_alloc ?_ _)); refine blk_far ?_ NB195_204.out _; (with_reducible repeat (first | refine blk_drewN ?_ _ | refine blk_drew ?_ | refine blk_alloc ?_ _)); refine blk_far ?_ NB195_204.out _; (with_reducible repeat (first | refine blk_drewN ?_ _ | refine blk_drew ?_ | refine blk_alloc ?_ _)); exact BK195.out))⟩; have n4_ : Aside0 (w47.heap[gb204]? = some (.cells #[.int .i32 t197, .slice Ao45 t198.length co45, .slice Ao46 t201.length co46] 24 (0, 0))) := ⟨(by rw [hw]; exact (by (with_reducible repeat (first | refine blk_drewN ?_ _ | refine blk_drew ?_ | refine blk_alloc ?_ _)); refine blk_put (cs := #[.int .i32 t197, .slice Ao45 t198.length co45, .slice none 0 0]) ?_ 2 _ rfl; (with_reducible repeat (first | refine blk_drewN ?_ _ | refine blk_drew ?_ | refine blk_alloc ?_ _)); refine blk_put (cs := #[.int .i32 t197, .slice none 0 0, .slice none 0 0]) ?_ 1 _ rfl; (with_reducible repeat (first | refine blk_drewN ?_ _ | refine blk_drew ?_ | refine blk_alloc ?_ _)); refine blk_put (cs := #[.int .i32 0, .slice none 0 0, .slice none 0 0]) ?_ 0 _ rfl; (with_reducible repeat (first | refine blk_drewN ?_ _ | refine blk_drew ?_ | refine blk_alloc ?_ _)); exact BK204.out))⟩; have n5_ : Aside0 (Below w.heap.size w w47) := ⟨(by rw [hw]; exact (pH_ HB.out))⟩; clear hw; clear HO200; clear HO203; clear BK194; clear BK195; clear BK204; clear HB; have HO200 := n0_; have HO203 := n1_; have BK194 := n2_; have BK195 := n3_; have BK204 := n4_; have HB := n5_; clear n0_ n1_ n2_ n3_ n4_ n5_; have hcz48_0 : w47.cell? ⟨gb204, 0, none⟩ = some (.int .i32 t197) := (blk_cell BK204.out 0).trans rfl; have hcz48_1 : w47.cell? ⟨gb204, 1, none⟩ = some (.slice Ao45 t198.length co45) := (blk_cell BK204.out 1).trans rfl; have hcz48_2 : w47.cell? ⟨gb204, 2, none⟩ = some (.slice Ao46 t201.length co46) := (blk_cell BK204.out 2).trans rfl; have hfz48_0 := blk_frozen BK204.out 0; have hfz48_1 := blk_frozen BK204.out 1; have hfz48_2 := blk_frozen BK204.out 2) | ((with_reducible refine gate_callee (f := 33) rfl ?_); refine gL_ (some 26) Tryd.func33 #[.agg #[.int .i32 t197, .slice Ao45 t198.length co45, .slice Ao46 t201.length co46], .int .u8 a1, .int .u8 a2] ?_; (with_reducible refine (adapt_change.calls k t197 (fun k_ => some k_ = (.slice Ao45 t198.length co45 : Value).ownBlock) (.slice Ao45 t198.length co45) t198 (fun k_ => some k_ = (.slice Ao46 t201.length co46 : Value).ownBlock) (.slice Ao46 t201.length co46) t201 a1 a2 t205 t206 t207 w _ ?side1 ?side2 ?side3 ?side4 ?side5 hT A14.out).mono ?_); (case side1 => repeat (first | (with_reducible first | exact HB.out | apply below_alloc | apply bN_ | apply below_drew1 | refine below_set ?_ GE194.out | refine below_set ?_ GE195.out | refine below_set ?_ GE204.out) | exact HB.out)); (case side2 => exact Kd.R_tight rfl HO200.out); (case side3 => exact fun k_ e_ => (HO200.out.1 k_ e_.symm)); (case side4 => exact Kd.R_tight rfl HO203.out); (case side5 => exact fun k_ e_ => (HO203.out.1 k_ e_.symm)); rintro e w49 ⟨rfl, hy0, hy1, hb, hkp⟩; refine ⟨_, rfl, ?_⟩; have n0_ := Aside0.mk (blk_kept (pG_ BK194.out) hkp (fun hs_ => Or.elim hs_ (fun e_ => (fun e_ => (Kd.R_ne HO200.out BK194.out (by decide)) e_) e_) (fun e_ => (fun e_ => (Kd.R_ne HO203.out BK194.out (by decide)) e_) e_))); have n1_ := Aside0.mk (blk_kept (pG_ BK195.out) hkp (fun hs_ => Or.elim hs_ (fun e_ => (fun e_ => (Kd.R_ne HO200.out BK195.out (by decide)) e_) e_) (fun e_ => (fun e_ => (Kd.R_ne HO203.out BK195.out (by decide)) e_) e_))); have n2_ := Aside0.mk (Kd.R_reok rfl hy0 (fun k_ e_ => HO200.out.1 k_ e_)); have n3_ := Aside0.mk (Kd.R_reok rfl hy1 (fun k_ e_ => HO203.out.1 k_ e_)); have n4_ := Aside0.mk (blk_kept (pG_ BK204.out) hkp (fun hs_ => Or.elim hs_ (fun e_ => (fun e_ => (Kd.R_ne HO200.out BK204.out (by decide)) e_) e_) (fun e_ => (fun e_ => (Kd.R_ne HO203.out BK204.out (by decide)) e_) e_))); have n5_ := Aside0.mk (hb); clear BK194; clear BK195; clear HO200; clear HO203; clear BK204; clear HB; have BK194 := n0_; have BK195 := n1_; have HO200 := n2_; have HO203 := n3_; have BK204 := n4_; have HB := n5_; clear n0_ n1_ n2_ n3_ n4_ n5_; (try clear hb); (try clear hkp); (try clear hy0); (try clear hy1); have hcz50_0 : w49.cell? ⟨gb195, 0, none⟩ = some (.int .i32 0) := (blk_cell BK195.out 0).trans rfl; have hcz50_1 : w49.cell? ⟨gb195, 1, none⟩ = some (.slice none 0 0) := (blk_cell BK195.out 1).trans rfl; have hcz50_2 : w49.cell? ⟨gb195, 2, none⟩ = some (.slice none 0 0) := (blk_cell BK195.out 2).trans rfl; have hfz50_0 := blk_frozen BK195.out 0; have hfz50_1 := blk_frozen BK195.out 1; have hfz50_2 := blk_frozen BK195.out 2))
    refine bodyPost_ret (results_ct rfl _ _ gb195 24 #[.int .i32 0, .slice none 0 0, .slice none 0 0] (0, 0) _ rfl (by (with_reducible repeat (first | refine blk_drewN ?_ _ | refine blk_drew ?_ | refine blk_alloc ?_ _)); refine blk_put (cs := #[.int .i32 0, .slice none 0 0, .slice none 0 0]) ?_ 2 _ rfl; (with_reducible repeat (first | refine blk_drewN ?_ _ | refine blk_drew ?_ | refine blk_alloc ?_ _)); refine blk_put (cs := #[.int .i32 0, .slice none 0 0, .slice none 0 0]) ?_ 1 _ rfl; (with_reducible repeat (first | refine blk_drewN ?_ _ | refine blk_drew ?_ | refine blk_alloc ?_ _)); refine blk_put (cs := #[.int .i32 0, .slice none 0 0, .slice none 0 0]) ?_ 0 _ rfl; (with_reducible repeat (first | refine blk_drewN ?_ _ | refine blk_drew ?_ | refine blk_alloc ?_ _)); exact BK195.out) Tryd.underlying24 rfl (by kernel_rfl)) rfl ?_; exact ⟨_, _, by first | rfl | (simp [errW_none, errW_some] <;> rfl) | (simp [*, errW_none, errW_some] <;> rfl), by first | exact Kd.R_nil _ _ _ _ _ | exact Kd.N_nil _ _ _ _ _ | exact Kd.V_nil _ _ _ _ _ | exact Kd.Q_nil _ _ _ _ _ | exact Kd.S_nil _ _ _ _ _, by first | exact Kd.R_nil _ _ _ _ _ | exact Kd.N_nil _ _ _ _ _ | exact Kd.V_nil _ _ _ _ _ | exact Kd.Q_nil _ _ _ _ _ | exact Kd.S_nil _ _ _ _ _, pH_ HB.out⟩
 ·
  rw [if_neg c5] at H; have c5b0 : (t196 == 0) = false := beq_eq_false_iff_ne.mpr c5; have c5b1 : (t196 != 0) = true := bne_iff_ne.mpr c5; simp only [Option.some.injEq, Prod.mk.injEq] at H; obtain ⟨rfl, rfl, rfl, rfl⟩ := H
  go_enter Tryd.func15, Tryd.ntmps15
  go_wp2_with (first | ((with_reducible refine gate_dst (N := 3) rfl ?_); refine box_event ?hg (N := 3) ?hd (cs := #[.int .i32 a0_0, .slice A0_1 l0_1.length c0_1, .slice A0_2 l0_2.length c0_2]) (t := 24) ?hr ?_; (case hd => rfl); (case hg => rfl); (case hr => first | (go_simp; done) | (go_simp; rfl)); intro gb194 hg w51 hbox hb; have n0_ := Aside0.mk (below_step (pH_ HB.out) hb); have n1_ := Aside0.mk (hbox); have n2_ := Aside0.mk ((by rw [hg]; exact (below_size (pH_ HB.out)) : w.heap.size ≤ gb194)); have n3_ := Aside0.mk ((by rw [hg]; exact (below_size (pH_ HB.out)) : w.heap.size ≤ gb194)); clear HB; have HB := n0_; have BK194 := n1_; have GW194 := n2_; have GE194 := n3_; clear n0_ n1_ n2_ n3_; clear hb hbox hg) | ((with_reducible refine gate_dst (N := 6) rfl ?_); refine box_event ?hg (N := 6) ?hd (cs := #[.int .i32 0, .slice none 0 0, .slice none 0 0]) (t := 24) ?hr ?_; (case hd => rfl); (case hg => rfl); (case hr => first | (go_simp; done) | (go_simp; rfl)); intro gb195 hg w52 hbox hb; have n0_ := Aside0.mk (blk_below (pG_ BK194.out) hb); have n1_ := Aside0.mk (below_step (pH_ HB.out) hb); have n2_ := Aside0.mk (hbox); have n3_ := Aside0.mk ((by rw [hg]; exact (below_size (pH_ HB.out)) : w.heap.size ≤ gb195)); have n4_ := Aside0.mk ((by rw [hg]; exact (below_size (pH_ HB.out)) : w.heap.size ≤ gb195)); have n5_ := Aside0.mk ((by rw [hg]; exact Nat.ne_of_lt (blk_lt (pG_ BK194.out)) : gb194 ≠ gb195)); have n6_ := Aside0.mk ((by rw [hg]; exact Nat.ne_of_gt (blk_lt (pG_ BK194.out)) : gb195 ≠ gb194)); clear BK194; clear HB; have BK194 := n0_; have HB := n1_; have BK195 := n2_; have GW195 := n3_; have GE195 := n4_; have NB194_195 := n5_; have NB195_194 := n6_; clear n0_ n1_ n2_ n3_ n4_ n5_ n6_; clear hb hbox hg; have hnb53 := NB194_195.out; have hnc53 := NB195_194.out; have hcz54_0 : w52.cell? ⟨gb194, 0, none⟩ = some (.int .i32 a0_0) := (blk_cell BK194.out 0).trans rfl; have hcz54_1 : w52.cell? ⟨gb194, 1, none⟩ = some (.slice A0_1 l0_1.length c0_1) := (blk_cell BK194.out 1).trans rfl; have hcz54_2 : w52.cell? ⟨gb194, 2, none⟩ = some (.slice A0_2 l0_2.length c0_2) := (blk_cell BK194.out 2).trans rfl; have hfz54_0 := blk_frozen BK194.out 0; have hfz54_1 := blk_frozen BK194.out 1; have hfz54_2 := blk_frozen BK194.out 2) | ((with_reducible refine gate_callee (f := 30) rfl ?_); refine gL_ (some 13) Tryd.func30 #[.agg #[.int .i32 a0_0, .slice A0_1 l0_1.length c0_1, .slice A0_2 l0_2.length c0_2], .int .u8 a1] ?_; (with_reducible refine (adapt_at.calls k a0_0 _ _ l0_1 _ _ l0_2 a1 t196 _ ?side1 ?side2 ?side3 ?side4 (tab_bel hT (pH_ HB.out)) A4.out).mono ?_); (case side1 => repeat (first | exact (Kd.C_below HR0_1.out HB.out) | (with_reducible refine Kd.C_alloc ?_ _) | (with_reducible refine Kd.C_drewN ?_ _) | (with_reducible refine Kd.C_drew ?_))); (case side2 => exact HC0_1.out); (case side3 => repeat (first | exact (Kd.C_below HR0_2.out HB.out) | (with_reducible refine Kd.C_alloc ?_ _) | (with_reducible refine Kd.C_drewN ?_ _) | (with_reducible refine Kd.C_drew ?_))); (case side4 => exact HC0_2.out); rintro e w55 ⟨rfl, hb⟩; refine ⟨_, rfl, ?_⟩; have n0_ := Aside0.mk (blk_below (pG_ BK194.out) hb); have n1_ := Aside0.mk (blk_below (pG_ BK195.out) hb); have n2_ := Aside0.mk (below_step (pH_ HB.out) hb); clear BK194; clear BK195; clear HB; have BK194 := n0_; have BK195 := n1_; have HB := n2_; clear n0_ n1_ n2_; (try clear hb); (try clear hb2); (try clear hk); (try clear hi); have hcz56_0 : w55.cell? ⟨gb195, 0, none⟩ = some (.int .i32 0) := (blk_cell BK195.out 0).trans rfl; have hcz56_1 : w55.cell? ⟨gb195, 1, none⟩ = some (.slice none 0 0) := (blk_cell BK195.out 1).trans rfl; have hcz56_2 : w55.cell? ⟨gb195, 2, none⟩ = some (.slice none 0 0) := (blk_cell BK195.out 2).trans rfl; have hfz56_0 := blk_frozen BK195.out 0; have hfz56_1 := blk_frozen BK195.out 1; have hfz56_2 := blk_frozen BK195.out 2))
  refine bodyPost_ret (results_ct rfl _ _ gb195 24 #[.int .i32 0, .slice none 0 0, .slice none 0 0] (0, 0) _ rfl (by (with_reducible repeat (first | refine blk_drewN ?_ _ | refine blk_drew ?_ | refine blk_alloc ?_ _)); refine blk_put (cs := #[.int .i32 0, .slice none 0 0, .slice none 0 0]) ?_ 2 _ rfl; (with_reducible repeat (first | refine blk_drewN ?_ _ | refine blk_drew ?_ | refine blk_alloc ?_ _)); refine blk_put (cs := #[.int .i32 0, .slice none 0 0, .slice none 0 0]) ?_ 1 _ rfl; (with_reducible repeat (first | refine blk_drewN ?_ _ | refine blk_drew ?_ | refine blk_alloc ?_ _)); refine blk_put (cs := #[.int .i32 0, .slice none 0 0, .slice none 0 0]) ?_ 0 _ rfl; (with_reducible repeat (first | refine blk_drewN ?_ _ | refine blk_drew ?_ | refine blk_alloc ?_ _)); exact BK195.out) Tryd.underlying24 rfl (by kernel_rfl)) rfl ?_; exact ⟨_, _, by first | rfl | (simp [errW_none, errW_some] <;> rfl) | (simp [*, errW_none, errW_some] <;> rfl), by first | exact Kd.R_nil _ _ _ _ _ | exact Kd.N_nil _ _ _ _ _ | exact Kd.V_nil _ _ _ _ _ | exact Kd.Q_nil _ _ _ _ _ | exact Kd.S_nil _ _ _ _ _, by first | exact Kd.R_nil _ _ _ _ _ | exact Kd.N_nil _ _ _ _ _ | exact Kd.V_nil _ _ _ _ _ | exact Kd.Q_nil _ _ _ _ _ | exact Kd.S_nil _ _ _ _ _, pH_ HB.out⟩

/-! ### bitloftref05_Floor: function 63 -/
def bitloftref05_Floor.f (a0 : Int) (a1 : Int) : Option (Int) := if a1 = 0 then (none) else (if (wrap64 ((wrap64 (Int.tdiv a0 a1)) * a1)) > a0 then (some (wrap64 ((wrap64 (Int.tdiv a0 a1)) - 1))) else (some (wrap64 (Int.tdiv a0 a1))))
set_option maxHeartbeats 8000000 in
set_option maxRecDepth 100000 in
theorem bitloftref05_Floor.calls (a0 : Int) (a1 : Int) (r : Int) (w : World) (h : bitloftref05_Floor.f a0 a1 = some r) :
    Calls Tryd.prog 63 #[.int .i64 a0, .int .i64 a1] w fun e w' => e = .returned (.int .i64 r) ∧ Drawn0 w w' := by
  have H : (if a1 = 0 then (none) else (if (wrap64 ((wrap64 (Int.tdiv a0 a1)) * a1)) > a0 then (some (wrap64 ((wrap64 (Int.tdiv a0 a1)) - 1))) else (some (wrap64 (Int.tdiv a0 a1))))) = some r := h
  clear h
  by_cases c3 : a1 = 0
  · rw [if_pos c3] at H
    exact absurd H (by simp)
  · rw [if_neg c3] at H
    have c3b0 : (a1 == 0) = false := beq_eq_false_iff_ne.mpr c3
    have c3b1 : (a1 != 0) = true := bne_iff_ne.mpr c3
    by_cases c4 : (wrap64 ((wrap64 (Int.tdiv a0 a1)) * a1)) > a0
    · rw [if_pos c4] at H
      have c4b0 : decide (a0 < (wrap64 ((wrap64 (Int.tdiv a0 a1)) * a1))) = true := decide_eq_true c4
      clear c4
      obtain rfl := Option.some.inj H
      go_enter Tryd.func63, Tryd.ntmps63
      go_wp2
      go_ret
      exact ⟨by first | rfl | (simp; done) | (simp [*]; done), by repeat (first | exact Drawn0.refl _ | apply Drawn0.step)⟩
    · rw [if_neg c4] at H
      have c4b0 : decide (a0 < (wrap64 ((wrap64 (Int.tdiv a0 a1)) * a1))) = false := decide_eq_false c4
      clear c4
      obtain rfl := Option.some.inj H
      go_enter Tryd.func63, Tryd.ntmps63
      go_wp2
      go_ret
      exact ⟨by first | rfl | (simp; done) | (simp [*]; done), by repeat (first | exact Drawn0.refl _ | apply Drawn0.step)⟩

/-! ### bitloftref05_Value: function 64 -/
def bitloftref05_Value.f (a0 : Int) : Option (Int) := if a0 = 0 then (none) else (some (wrap64 (wrap32 (Int.tdiv (65536 : Int) a0))))
set_option maxHeartbeats 8000000 in
set_option maxRecDepth 100000 in
theorem bitloftref05_Value.calls (a0 : Int) (r : Int) (w : World) (h : bitloftref05_Value.f a0 = some r) :
    Calls Tryd.prog 64 #[.int .i32 a0] w fun e w' => e = .returned (.int .i64 r) ∧ Drawn0 w w' := by
  have H : (if a0 = 0 then (none) else (some (wrap64 (wrap32 (Int.tdiv (65536 : Int) a0))))) = some r := h
  clear h
  by_cases c2 : a0 = 0
  · rw [if_pos c2] at H
    exact absurd H (by simp)
  · rw [if_neg c2] at H
    have c2b0 : (a0 == 0) = false := beq_eq_false_iff_ne.mpr c2
    have c2b1 : (a0 != 0) = true := bne_iff_ne.mpr c2
    obtain rfl := Option.some.inj H
    go_enter Tryd.func64, Tryd.ntmps64
    go_wp2
    go_ret
    exact ⟨by first | rfl | (simp; done) | (simp [*]; done), by repeat (first | exact Drawn0.refl _ | apply Drawn0.step)⟩

/-! ### bitloftref05_Quotient: function 52 -/
def bitloftref05_Quotient.f (a0 : Int) (a1 : Int) : Option (Int) := (bitloftref05_Value.f a1).bind fun t208 => ((bitloftref05_Floor.f (wrap64 ((wrap64 (a0)) * t208)) 65536).bind fun t209 => (some (wrap32 (t209))))
set_option maxHeartbeats 8000000 in
set_option maxRecDepth 100000 in
theorem bitloftref05_Quotient.calls (a0 : Int) (a1 : Int) (r : Int) (w : World) (h : bitloftref05_Quotient.f a0 a1 = some r) :
    Calls Tryd.prog 52 #[.int .i32 a0, .int .i32 a1] w fun e w' => e = .returned (.int .i32 r) ∧ Drawn0 w w' := by
  have H : ((bitloftref05_Value.f a1).bind fun t208 => ((bitloftref05_Floor.f (wrap64 ((wrap64 (a0)) * t208)) 65536).bind fun t209 => (some (wrap32 (t209))))) = some r := h
  clear h
  replace H := Option.bind_eq_some_iff.mp H
  obtain ⟨t208, A30, H⟩ := H
  replace H : ((bitloftref05_Floor.f (wrap64 ((wrap64 (a0)) * t208)) 65536).bind fun t209 => (some (wrap32 (t209)))) = some r := H
  have A3 := Aside0.mk A30
  clear A30
  replace H := Option.bind_eq_some_iff.mp H
  obtain ⟨t209, A40, H⟩ := H
  replace H : (some (wrap32 (t209))) = some r := H
  have A4 := Aside0.mk A40
  clear A40
  obtain rfl := Option.some.inj H
  go_enter Tryd.func52, Tryd.ntmps52
  go_wp2_with (first | ((with_reducible refine gate_callee (f := 64) rfl ?_); refine gL_ (some 8) Tryd.func64 #[.int .i32 a1] ?_; (with_reducible refine (bitloftref05_Value.calls a1 t208 _ A3.out).mono ?_); rintro e w' ⟨rfl, ⟨nd, rfl⟩⟩; refine ⟨_, rfl, ?_⟩) | ((with_reducible refine gate_callee (f := 63) rfl ?_); refine gL_ (some 10) Tryd.func63 #[.int .i64 (wrap64 ((wrap64 (a0)) * t208)), .int .i64 65536] ?_; (with_reducible refine (bitloftref05_Floor.calls (wrap64 ((wrap64 (a0)) * t208)) 65536 t209 _ A4.out).mono ?_); rintro e w' ⟨rfl, ⟨nd, rfl⟩⟩; refine ⟨_, rfl, ?_⟩))
  go_ret
  exact ⟨by first | rfl | (simp; done) | (simp [*]; done), by repeat (first | exact Drawn0.refl _ | apply Drawn0.step)⟩

end Go.Proofs.YtmncppbhnjngkaaDoor.XAdaptMakes
