-- Laid by a program of this session (wip/mkxprint.py, over the kit's print): Lean checks it.
import Derived.Test.YtejamobohmljfaaDoorXParityMendsx0
import Derived.Test.YtejamobohmljfaaDoorXParityMendsx1
namespace Go.Proofs.YtejamobohmljfaaDoor.XParityMends
open List (setIfInBounds_toArray set_cons_zero set_cons_succ)
open Go.RowKit Go.Proofs.YtejamobohmljfaaDoorW.PrintWords Go.Proofs.YtejamobohmljfaaDoorW.PrintLast Go.Proofs.YtejamobohmljfaaDoorW.PrintMore
attribute [local go_sem] max2_int min2_int max_two min_two max_three min_three max_four min_four   -- for this text's walks alone
set_option linter.unusedVariables false
set_option linter.unusedSimpArgs false

/-! ### parity_Protect: function 18 -/
mutual
def parity_Protect.j0 : Nat → List (List Int) → Int → Bool → Option ((List (List Int)) × Int)
 | 0, _, _, _ => none
 | k + 1, x0, x1, x14 => if x14 = true then (some (([] : List (List Int)), 2)) else (if (x0.length : Int) > 100 then (parity_Protect.j1 k x0 x1 true) else ((slices_ContainsFunc_byte_byte_parity_long.f x0).bind fun t103 => (parity_Protect.j1 k x0 x1 t103)))
def parity_Protect.j1 : Nat → List (List Int) → Int → Bool → Option ((List (List Int)) × Int)
 | 0, _, _, _ => none
 | k + 1, x0, x1, x21 => if x21 = true then (some (([] : List (List Int)), 4)) else ((parity_groups.f x0 x1).bind fun t104 => (parity_Protect.l0 k ([] : List (List Int)) t104 (t104.length : Int) 0))
def parity_Protect.l0 : Nat → List (List Int) → List (List (List Int)) → Int → Int → Option ((List (List Int)) × Int)
 | 0, _, _, _, _ => none
 | k + 1, x6, x24, x25, x26 => if x26 < x25 then (if 0 ≤ x26 then (if x26 < (x24.length : Int) then ((parity_sum.f (rd_L2 x24 x26)).bind fun t108 => (if x6.length < 5864062014805 then (parity_Protect.l0 k (x6 ++ [t108]) x24 x25 (wrap64 (x26 + 1))) else (none))) else (none)) else (none)) else (some (x6, 0))
end
def parity_Protect.f (k : Nat) (l0 : List (List Int)) (a1 : Int) : Option ((List (List Int)) × Int) := if a1 < 1 then (parity_Protect.j0 k l0 a1 true) else (parity_Protect.j0 k l0 a1 (decide (a1 > 16)))
theorem parity_Protect.mono_l : ∀ k, (∀ y0 y1 y2, LeO (parity_Protect.j0 k y0 y1 y2) (parity_Protect.j0 (k + 1) y0 y1 y2)) ∧ (∀ y0 y1 y2, LeO (parity_Protect.j1 k y0 y1 y2) (parity_Protect.j1 (k + 1) y0 y1 y2)) ∧ (∀ y0 y1 y2 y3, LeO (parity_Protect.l0 k y0 y1 y2 y3) (parity_Protect.l0 (k + 1) y0 y1 y2 y3))
 | 0 => ⟨fun _ _ _ r h => by simp [parity_Protect.j0] at h, fun _ _ _ r h => by simp [parity_Protect.j1] at h, fun _ _ _ _ r h => by simp [parity_Protect.l0] at h⟩
 | k + 1 => by
  obtain ⟨ih0, ih1, ih2⟩ := parity_Protect.mono_l k; refine ⟨?_, ?_, ?_⟩
  ·
   intro y0 y1 y2
   unfold parity_Protect.j0
   repeat' first
   | (with_reducible exact ih0 _ _ _)
   | (with_reducible exact ih1 _ _ _)
   | (with_reducible exact ih2 _ _ _ _)
   | (with_reducible exact LeO.refl _)
   | (with_reducible exact LeO.none _)
   | (with_reducible refine LeO.ite ?_ ?_)
   | (with_reducible refine LeO.bind ?_ (fun _ => ?_))
   | exact ih0 _ _ _
   | exact ih1 _ _ _
   | exact ih2 _ _ _ _
   | exact LeO.none _
   | refine LeO.ite ?_ ?_
   | refine LeO.bind ?_ (fun _ => ?_)
  ·
   intro y0 y1 y2
   unfold parity_Protect.j1
   repeat' first
   | (with_reducible exact ih0 _ _ _)
   | (with_reducible exact ih1 _ _ _)
   | (with_reducible exact ih2 _ _ _ _)
   | (with_reducible exact LeO.refl _)
   | (with_reducible exact LeO.none _)
   | (with_reducible refine LeO.ite ?_ ?_)
   | (with_reducible refine LeO.bind ?_ (fun _ => ?_))
   | exact ih0 _ _ _
   | exact ih1 _ _ _
   | exact ih2 _ _ _ _
   | exact LeO.none _
   | refine LeO.ite ?_ ?_
   | refine LeO.bind ?_ (fun _ => ?_)
  ·
   intro y0 y1 y2 y3
   unfold parity_Protect.l0
   repeat' first
   | (with_reducible exact ih0 _ _ _)
   | (with_reducible exact ih1 _ _ _)
   | (with_reducible exact ih2 _ _ _ _)
   | (with_reducible exact LeO.refl _)
   | (with_reducible exact LeO.none _)
   | (with_reducible refine LeO.ite ?_ ?_)
   | (with_reducible refine LeO.bind ?_ (fun _ => ?_))
   | exact ih0 _ _ _
   | exact ih1 _ _ _
   | exact ih2 _ _ _ _
   | exact LeO.none _
   | refine LeO.ite ?_ ?_
   | refine LeO.bind ?_ (fun _ => ?_)
theorem parity_Protect.mono : ∀ a0 a1 k, LeO (parity_Protect.f k a0 a1) (parity_Protect.f (k + 1) a0 a1) := by
 intro a0 a1 k; obtain ⟨ih0, ih1, ih2⟩ := parity_Protect.mono_l k
 unfold parity_Protect.f
 repeat' first
   | (with_reducible exact ih0 _ _ _)
   | (with_reducible exact ih1 _ _ _)
   | (with_reducible exact ih2 _ _ _ _)
   | (with_reducible exact LeO.refl _)
   | (with_reducible exact LeO.none _)
   | (with_reducible refine LeO.ite ?_ ?_)
   | (with_reducible refine LeO.bind ?_ (fun _ => ?_))
   | exact ih0 _ _ _
   | exact ih1 _ _ _
   | exact ih2 _ _ _ _
   | exact LeO.none _
   | refine LeO.ite ?_ ?_
   | refine LeO.bind ?_ (fun _ => ?_)
set_option maxHeartbeats 8000000 in
set_option maxRecDepth 100000 in
theorem parity_Protect.calls (k : Nat) (P0_ : Nat → Prop) (A0 : Option Addr) (c0 : Nat) (l0 : List (List Int)) (a1 : Int) (r1 : List (List Int)) (r2 : Int) (w : World) (hs0 : Kd.V (Kd.slice 5 (Kd.int .u8)) 23 w w.heap.size (fun k_ => P0_ k_) (.slice A0 l0.length c0) l0) (h : parity_Protect.f k l0 a1 = some (r1, r2)) :
  Calls Tryd.prog 18 #[.slice A0 l0.length c0, .int .i64 a1] w fun e w' => ∃ v0_ : Value, e = .returned (.tuple #[v0_, .int .i64 r2]) ∧ Kd.N (Kd.slice 5 (Kd.int .u8)) 23 w' w.heap.size (fun k_ => (P0_ k_ ∨ w.heap.size ≤ k_)) v0_ r1 ∧ Below w.heap.size w w' := by
 have HO0 := Aside0.mk (show Kd.V (Kd.slice 5 (Kd.int .u8)) 23 w w.heap.size (fun k_ => (P0_ k_ ∨ w.heap.size ≤ k_)) (.slice A0 l0.length c0) l0 from Kd.V_mono hs0 (fun k_ hk => .inl hk)); have HB := Aside0.mk (Below.refl w.heap.size w); have H : (if a1 < 1 then (parity_Protect.j0 k l0 a1 true) else (parity_Protect.j0 k l0 a1 (decide (a1 > 16)))) = some (r1, r2) := h; clear h; have HC3 := Aside0.mk H; clear H
 go_enter Tryd.func18, Tryd.ntmps18
 go_upto_region 1 with (fail)
 (with_reducible first | refine then_id_ ?_ | (refine wp_tail_ ?_; intro Kt_ hKt_))
 go_cut [14] (fun v14 wc => ∃ (kq : Nat) (x14_2 : Bool), v14 = .bool x14_2 ∧ Aside0 (parity_Protect.j0 kq l0 a1 x14_2 = some (r1, r2)) ∧ Aside0 (kq ≤ k) ∧ Aside0 (Kd.V (Kd.slice 5 (Kd.int .u8)) 23 wc w.heap.size (fun k_ => (P0_ k_ ∨ w.heap.size ≤ k_)) (.slice A0 l0.length c0) l0) ∧ Aside0 (Below w.heap.size w wc))
 case first =>
  have H := HC3.out; clear HC3
  by_cases c4 : a1 < 1
  ·
   rw [if_pos c4] at H; have c4b0 : decide (a1 < 1) = true := decide_eq_true c4; clear c4; (first | rw [c4b0] | (simp only [i64_w, i32_w]; rw [c4b0]) | skip); have H' := Aside0.mk H; clear H
   go_wp2
   (first | go_meet | (refine Met.intro ?_; go_step; (repeat apply Exists.intro); refine ⟨?rel, ?eqf_⟩; case eqf_ => ((simp only [c4b0]) <;> rfl)))
   case rel => exact ⟨_, (true), (by first | rfl | (simp; done) | (simp [*]; done)), H', ⟨by first | omega | exact Nat.le_refl _⟩, ⟨by (with_reducible repeat (first | apply Kd.V_alloc | apply Kd.V_drewN | apply Kd.V_drew)); exact HO0.out⟩, ⟨pH_ HB.out⟩⟩
  ·
   rw [if_neg c4] at H; have c4b0 : decide (a1 < 1) = false := decide_eq_false c4; clear c4; (first | rw [c4b0] | (simp only [i64_w, i32_w]; rw [c4b0]) | skip); have H' := Aside0.mk H; clear H
   go_wp2
   (first | go_meet | (refine Met.intro ?_; go_step; (repeat apply Exists.intro); refine ⟨?rel, ?eqf_⟩; case eqf_ => ((simp only [c4b0]) <;> rfl)))
   case rel => exact ⟨_, (decide (a1 > 16)), (by first | rfl | (simp; done) | (simp [*]; done)), H', ⟨by first | omega | exact Nat.le_refl _⟩, ⟨by (with_reducible repeat (first | apply Kd.V_alloc | apply Kd.V_drewN | apply Kd.V_drew)); exact HO0.out⟩, ⟨pH_ HB.out⟩⟩
 case rest =>
  (try (refine hKt_ _ _ ?_; clear hKt_; clear Kt_)); clear HC3
  try clear c1
  try clear p2
  try clear c4
  try clear c4b0
  obtain ⟨kq, x14_2, rfl, HA, HJ2, HO_0, HB⟩ := hcut
  cases kq with
  | zero => exact absurd HA.out (by simp [parity_Protect.j0])
  | succ kj2 =>
   have H := HA.out; clear HA; simp only [parity_Protect.j0] at H
   by_cases c5 : x14_2 = true
   ·
    subst c5
    have H1 : (some (([] : List (List Int)), 2)) = some (r1, r2) := by rw [if_pos rfl] at H; exact H
    clear H; have H := H1; clear H1; simp only [Option.some.injEq, Prod.mk.injEq] at H; obtain ⟨rfl, rfl⟩ := H
    go_wp2
    go_ret2
    exact ⟨_, by first | rfl | (simp [errW_none, errW_some] <;> rfl) | (simp [*, errW_none, errW_some] <;> rfl), by first | exact Kd.S_nil _ _ _ _ _ | exact Kd.N_nil _ _ _ _ _ | exact Kd.V_nil _ _ _ _ _ | exact Kd.Q_nil _ _ _ _ _ | exact Kd.R_nil _ _ _ _ _, pH_ HB.out⟩
   ·
    replace c5 := Bool.eq_false_iff.mpr c5
    subst c5
    have H1 : (if (l0.length : Int) > 100 then (parity_Protect.j1 kj2 l0 a1 true) else ((slices_ContainsFunc_byte_byte_parity_long.f l0).bind fun t103 => (parity_Protect.j1 kj2 l0 a1 t103))) = some (r1, r2) := by rw [if_neg (show ¬ (false = true) by decide)] at H; exact H
    clear H; have H := H1; clear H1; have HC6 := Aside0.mk H; clear H
    go_upto_region 3 with (fail)
    (with_reducible first | refine then_id_ ?_ | (refine wp_tail_ ?_; intro Kt_ hKt_))
    go_cut [21] (fun v21 wc => ∃ (kq : Nat) (x21_5 : Bool), v21 = .bool x21_5 ∧ Aside0 (parity_Protect.j1 kq l0 a1 x21_5 = some (r1, r2)) ∧ Aside0 (kq ≤ kj2) ∧ Aside0 (Kd.V (Kd.slice 5 (Kd.int .u8)) 23 wc w.heap.size (fun k_ => (P0_ k_ ∨ w.heap.size ≤ k_)) (.slice A0 l0.length c0) l0) ∧ Aside0 (Below w.heap.size w wc))
    case first =>
     have H := HC6.out; clear HC6
     by_cases c7 : (l0.length : Int) > 100
     ·
      rw [if_pos c7] at H; have c7b0 : decide (100 < (l0.length : Int)) = true := decide_eq_true c7; have c7b1 : decide (100 < l0.length) = true := decide_eq_true (by omega); clear c7; (first | rw [c7b0] | (simp only [i64_w, i32_w]; rw [c7b0]) | skip); have H' := Aside0.mk H; clear H
      go_wp2
      (first | go_meet | (refine Met.intro ?_; go_step; (repeat apply Exists.intro); refine ⟨?rel, ?eqf_⟩; case eqf_ => ((simp only [c7b0]) <;> rfl)))
      case rel => exact ⟨_, (true), (by first | rfl | (simp; done) | (simp [*]; done)), H', ⟨by have := HJ2.out; first | omega | exact Nat.le_refl _⟩, ⟨by (with_reducible repeat (first | apply Kd.V_alloc | apply Kd.V_drewN | apply Kd.V_drew)); exact HO_0.out⟩, ⟨pH_ HB.out⟩⟩
     ·
      rw [if_neg c7] at H; have c7b0 : decide (100 < (l0.length : Int)) = false := decide_eq_false c7; have c7b1 : decide (100 < l0.length) = false := decide_eq_false (by omega); clear c7; (first | rw [c7b0] | (simp only [i64_w, i32_w]; rw [c7b0]) | skip); replace H := Option.bind_eq_some_iff.mp H; obtain ⟨t103, A80, H⟩ := H; replace H : (parity_Protect.j1 kj2 l0 a1 t103) = some (r1, r2) := H; have A8 := Aside0.mk A80; clear A80; have H' := Aside0.mk H; clear H
      go_wp2_with (first | (go_at_call 21; (with_reducible refine (slices_ContainsFunc_byte_byte_parity_long.calls _ _ l0 t103 _ ?side1 ?side2 A8.out).mono ?_); (case side1 => repeat (first | exact (Kd.V_reads' HO_0.out).2.2 | (with_reducible refine Kd.C_alloc ?_ _) | (with_reducible refine Kd.C_drewN ?_ _) | (with_reducible refine Kd.C_drew ?_))); (case side2 => exact (Kd.V_reads' HO_0.out).2.1); rintro e w' ⟨rfl, ⟨nd, rfl⟩⟩))
      (first | go_meet | (refine Met.intro ?_; go_step; (repeat apply Exists.intro); refine ⟨?rel, ?eqf_⟩; case eqf_ => ((simp only [c7b0]) <;> rfl)))
      case rel => exact ⟨_, (t103), (by first | rfl | (simp; done) | (simp [*]; done)), H', ⟨by have := HJ2.out; first | omega | exact Nat.le_refl _⟩, ⟨by (with_reducible repeat (first | apply Kd.V_alloc | apply Kd.V_drewN | apply Kd.V_drew)); exact HO_0.out⟩, ⟨pH_ HB.out⟩⟩
    case rest =>
     (try (refine hKt_ _ _ ?_; clear hKt_; clear Kt_)); clear HC6
     try clear c1
     try clear p2
     try clear c4
     try clear c4b0
     try clear c5
     try clear c7
     try clear c7b0
     try clear c7b1
     try clear p2
     obtain ⟨kq, x21_5, rfl, HA, HJ5, HO_0, HB⟩ := hcut
     cases kq with
     | zero => exact absurd HA.out (by simp [parity_Protect.j1])
     | succ kj5 =>
      have H := HA.out; clear HA; simp only [parity_Protect.j1] at H
      by_cases c9 : x21_5 = true
      ·
       subst c9
       have H1 : (some (([] : List (List Int)), 4)) = some (r1, r2) := by rw [if_pos rfl] at H; exact H
       clear H; have H := H1; clear H1; simp only [Option.some.injEq, Prod.mk.injEq] at H; obtain ⟨rfl, rfl⟩ := H
       go_wp2
       go_ret2
       exact ⟨_, by first | rfl | (simp [errW_none, errW_some] <;> rfl) | (simp [*, errW_none, errW_some] <;> rfl), by first | exact Kd.S_nil _ _ _ _ _ | exact Kd.N_nil _ _ _ _ _ | exact Kd.V_nil _ _ _ _ _ | exact Kd.Q_nil _ _ _ _ _ | exact Kd.R_nil _ _ _ _ _, pH_ HB.out⟩
      ·
       replace c9 := Bool.eq_false_iff.mpr c9
       subst c9
       have H1 : ((parity_groups.f l0 a1).bind fun t104 => (parity_Protect.l0 kj5 ([] : List (List Int)) t104 (t104.length : Int) 0)) = some (r1, r2) := by rw [if_neg (show ¬ (false = true) by decide)] at H; exact H
       clear H; have H := H1; clear H1; replace H := Option.bind_eq_some_iff.mp H; obtain ⟨t104, A100, H⟩ := H; replace H : (parity_Protect.l0 kj5 ([] : List (List Int)) t104 (t104.length : Int) 0) = some (r1, r2) := H; have A10 := Aside0.mk A100; clear A100; have H' := Aside0.mk H; clear H
       go_wp2_with (first | ((with_reducible refine gate_callee (f := 29) rfl ?_); refine gL_ (some 24) Tryd.func29 #[.slice A0 l0.length c0, .int .i64 a1] ?_; (with_reducible refine (parity_groups.calls (fun k_ => (P0_ k_ ∨ w.heap.size ≤ k_)) _ _ l0 a1 t104 _ ?side1 A10.out).mono ?_); (case side1 => exact HO_0.out); rintro e w11 ⟨v105, rfl, ho0, hb⟩; refine ⟨_, rfl, ?_⟩; have n0_ := Aside0.mk (Kd.V_elder' (by (with_reducible repeat (first | apply Kd.V_alloc | apply Kd.V_drewN | apply Kd.V_drew)); exact HO_0.out) (by first | exact Kd.N_base ho0 | exact Kd.N_base (Kd.S_N ho0)) hb); have n1_ := Aside0.mk (Kd.N_lower (Kd.N_mono (ok' := fun k_ => (P0_ k_ ∨ w.heap.size ≤ k_)) ho0 (fun k_ hk_ => Or.elim hk_ (fun hs_ => hs_) (fun hn_ => (.inr (Nat.le_trans (below_size (pH_ HB.out)) hn_))))) (below_size (pH_ HB.out))); have n2_ := Aside0.mk (below_step (pH_ HB.out) hb); clear HO_0; clear HB; have HO_0 := n0_; have HO106 := n1_; have HB := n2_; clear n0_ n1_ n2_; (try clear hb); (try clear ho0); obtain ⟨Ao12, co12, eo12⟩ := Kd.N_slice HO106.out; subst eo12))
       go_loopg [6, 26] kj5 (fun kq v6 v26 w' => ∃ (x6_3 : List (List Int)) (x26_3 : Int), v26 = .int .i64 x26_3 ∧ Aside0 (parity_Protect.l0 kq x6_3 t104 (t104.length : Int) x26_3 = some (r1, r2)) ∧ Aside0 (kq ≤ kj5) ∧ Aside0 (Kd.N (Kd.slice 5 (Kd.int .u8)) 23 w' w.heap.size (fun k_ => (P0_ k_ ∨ w.heap.size ≤ k_) ∧ some k_ ≠ ((.slice Ao12 t104.length co12) : Value).ownBlock) v6 x6_3) ∧ Aside0 (Kd.N (Kd.slice 23 (Kd.slice 5 (Kd.int .u8))) 22 w' w.heap.size (fun k_ => (P0_ k_ ∨ w.heap.size ≤ k_) ∧ nO_ k_ v6) (.slice Ao12 t104.length co12) t104) ∧ Aside0 (Below w.heap.size w w'))
       case atStart => exact ⟨(([] : List (List Int))), (0), (by first | rfl | (simp; done) | (simp [*]; done)), H', ⟨Nat.le_refl _⟩, ⟨by first | exact Kd.S_nil _ _ _ _ _ | exact Kd.N_nil _ _ _ _ _ | exact Kd.V_nil _ _ _ _ _ | exact Kd.Q_nil _ _ _ _ _ | exact Kd.R_nil _ _ _ _ _⟩, ⟨by (with_reducible repeat (first | apply Kd.N_alloc | apply Kd.N_drewN | apply Kd.N_drew)); exact Kd.N_mono HO106.out (fun _ hk => ⟨hk, (by simp [Value.ownBlock])⟩)⟩, ⟨pH_ HB.out⟩⟩
       case round =>
        clear H'
        try clear c1
        try clear c2
        try clear p2
        try clear c4
        try clear c4b0
        try clear c5
        try clear c7
        try clear c7b0
        try clear c7b1
        try clear c9
        try clear p2
        obtain ⟨x6_3, x26_3, rfl, HA, HK3, HO_6, HO_24, HB⟩ := hrel
        cases gk with
        | zero => exact absurd HA.out (by simp [parity_Protect.l0])
        | succ k3 =>
         have H := HA.out; clear HA; simp only [parity_Protect.l0] at H
         by_cases c13 : x26_3 < (t104.length : Int)
         ·
          rw [if_pos c13] at H; have c13b0 : decide (x26_3 < (t104.length : Int)) = true := decide_eq_true c13; clear c13
          by_cases c14 : 0 ≤ x26_3
          ·
           rw [if_pos c14] at H; have c14b0 : decide (0 ≤ x26_3) = true := decide_eq_true c14; clear c14
           by_cases c15 : x26_3 < (t104.length : Int)
           ·
            rw [if_pos c15] at H; have c15b0 : decide (x26_3 < (t104.length : Int)) = true := decide_eq_true c15; clear c15; replace H := Option.bind_eq_some_iff.mp H; obtain ⟨t108, A160, H⟩ := H; replace H : (if x6_3.length < 5864062014805 then (parity_Protect.l0 k3 (x6_3 ++ [t108]) t104 (t104.length : Int) (wrap64 (x26_3 + 1))) else (none)) = some (r1, r2) := H; have A16 := Aside0.mk A160; clear A160
            by_cases c17 : x6_3.length < 5864062014805
            ·
             rw [if_pos c17] at H; have LMc17 := Aside0.mk c17; clear c17; obtain ⟨y111, hy111⟩ : ∃ y_ : List (List Int), y_ = (x6_3 ++ [t108]) := ⟨_, rfl⟩
             replace H : (parity_Protect.l0 k3 y111 t104 (t104.length : Int) (wrap64 (x26_3 + 1))) = some (r1, r2) := by first | (rw [hy111]; with_reducible exact H) | (have H2_ := (Option.bind_some _ _).symm.trans H; rw [hy111]; with_reducible exact H2_) | (have H2_ := (Option.bind_some _ _).symm.trans H; with_reducible exact H2_) | with_reducible exact H | (rw [hy111]; exact H) | exact H
             have Ny111 := Aside0.mk hy111; clear hy111; have H' := Aside0.mk H; clear H; have p107 : 0 ≤ (x26_3 : Int) := of_decide_eq_true (by first | (with_reducible assumption) | assumption); have q107 : x26_3 < (t104.length : Int) := of_decide_eq_true (by first | (with_reducible assumption) | assumption); obtain ⟨ad107, A107_0, c107_0, e107, hx107_0, hl107_0, hi107_0⟩ := at_L2 (Kd.N_reads' HO_24.out).2.2 x26_3 p107 q107
             cases e107
             obtain ⟨ce107, hce107, hMe107, hcc107⟩ := Kd.N_get HO_24.out [] x26_3 p107 (by first | exact q107 | exact of_decide_eq_true (by first | (with_reducible assumption) | assumption) | (have e_ := (Kd.N_reads' HO_24.out).1; omega)); obtain ⟨ua107_0, uc107_0, rfl, ul107_0, ge107_0⟩ := Kd.FK_slice_open hMe107; have hv107_0 := hcc107 0 _ rfl; rw [Nat.add_zero, show ((Kd.slice 23 (Kd.slice 5 (Kd.int .u8)))).sz = 1 from rfl, Nat.mul_one] at hv107_0; replace hv107_0 := Option.some.inj (hv107_0.symm.trans hx107_0)
             injection hv107_0 with hva_ hvn_ hvc_
             rw [hva_] at ge107_0; rw [hvc_] at ul107_0; have HL107_0 := Aside0.mk (show Kd.V (Kd.slice 5 (Kd.int .u8)) 23 _ w.heap.size _ _ (rd_L2 t104 x26_3) from Kd.V_mk ul107_0 ge107_0); clear hva_ hvn_ hvc_ ge107_0 ul107_0; clear hcc107 hce107; have HR107_0 := Aside0.mk hi107_0; have HC107_0 := Aside0.mk hl107_0; clear hi107_0 hl107_0; replace p107 := eq_true p107; replace q107 := eq_true q107
             go_wp2_with (first | ((with_reducible refine gate_callee (f := 23) rfl ?_); refine gL_ (some 32) Tryd.func23 #[.slice A107_0 (rd_L2 t104 x26_3).length c107_0] ?_; (with_reducible refine (parity_sum.calls _ _ (rd_L2 t104 x26_3) t108 _ ?side1 ?side2 A16.out).mono ?_); (case side1 => repeat (first | exact (by repeat (first | (with_reducible exact HR107_0.out) | (with_reducible refine Kd.C_alloc ?_ _) | (with_reducible refine Kd.C_drewN ?_ _) | (with_reducible refine Kd.C_drew ?_) | exact HR107_0.out)) | (with_reducible refine Kd.C_alloc ?_ _) | (with_reducible refine Kd.C_drewN ?_ _) | (with_reducible refine Kd.C_drew ?_))); (case side2 => exact HC107_0.out); rintro e w18 ⟨v109, rfl, ho0, hb⟩; refine ⟨_, rfl, ?_⟩; have n0_ := Aside0.mk (Kd.N_elder' (by (with_reducible repeat (first | apply Kd.N_alloc | apply Kd.N_drewN | apply Kd.N_drew)); exact HO_6.out) (Kd.R_base ho0) hb); have n1_ := Aside0.mk (Kd.N_elder' (by (with_reducible repeat (first | apply Kd.N_alloc | apply Kd.N_drewN | apply Kd.N_drew)); exact HO_24.out) (Kd.R_base ho0) hb); have n2_ := Aside0.mk (Kd.V_elder' (by (with_reducible repeat (first | apply Kd.V_alloc | apply Kd.V_drewN | apply Kd.V_drew)); exact HL107_0.out) (Kd.R_base ho0) hb); have n3_ := Aside0.mk (Kd.R_lower (Kd.R_newM (M := fun k_ => (w.heap.size ≤ k_)) ho0 (below_size (pH_ HB.out)) (fun k_ h_ => h_)) (below_size (pH_ HB.out))); have n4_ := Aside0.mk (Kd.C_below (by repeat (first | (with_reducible exact HR107_0.out) | (with_reducible refine Kd.C_alloc ?_ _) | (with_reducible refine Kd.C_drewN ?_ _) | (with_reducible refine Kd.C_drew ?_) | exact HR107_0.out)) hb); have n5_ := Aside0.mk (below_step (pH_ HB.out) hb); clear HO_6; clear HO_24; clear HL107_0; clear HR107_0; clear HB; have HO_6 := n0_; have HO_24 := n1_; have HL107_0 := n2_; have HO110 := n3_; have HR107_0 := n4_; have HB := n5_; clear n0_ n1_ n2_ n3_ n4_ n5_; (try clear hb); (try clear ho0); obtain ⟨Ao20, co20, eo20⟩ := Kd.R_slice HO110.out; subst eo20) | ((with_reducible refine gate_builtin (b := .append) (xs := #[.tmp 30, .tmp 33]) rfl ?_); at_builtin; refine Kd.N_append (Kd.slice 5 (Kd.int .u8)) (w0 := w) w.heap.size rfl (.tmp 30) (.tmp 33) 22 23 (.slice none 0 0) 24 rfl Tryd.underlying22 info23 rfl (by decide) (by omega) u6 x6_3 t108 [.slice Ao20 t108.length co20] (fun k_ => (P0_ k_ ∨ w.heap.size ≤ k_) ∧ some k_ ≠ (.slice (some ad107) t104.length co12 : Value).ownBlock) (fun k_ => ((fun k_ => (P0_ k_ ∨ w.heap.size ≤ k_) ∧ some k_ ≠ (.slice (some ad107) t104.length co12 : Value).ownBlock)) k_ ∧ nO_ k_ u6) rfl rfl ?aP (fun _ hk => hk) ?aF ?aO ?aB ?aS ?aL ?_; (case aP => exact (by have zf0_ := (Kd.R_mono (ok' := (fun k_ => ((fun k_ => (P0_ k_ ∨ w.heap.size ≤ k_) ∧ some k_ ≠ (.slice (some ad107) t104.length co12 : Value).ownBlock)) k_ ∧ nO_ k_ u6)) (Kd.R_apart' (Kd.R_apart' (HO110.out) (Kd.N_typed HO_24.out) (by decide)) (Kd.N_typed HO_6.out) (by decide)) (fun k_ hk => ⟨⟨(.inr (hk.1.1.1)), hk.1.2⟩, hk.2⟩)); first | exact Kd.FK_slice_mk (Kd.R_reads' zf0_).2.1 (Kd.R_F zf0_) | (obtain ⟨Az_, cz_, ez_⟩ := Kd.R_slice zf0_; have zg_ := zf0_; rw [ez_] at zg_ ⊢; exact Kd.FK_slice_mk (Kd.R_reads' zg_).2.1 (Kd.R_F zg_)))); (case aB => exact (pH_ HB.out)); (case aF => exact (fun k_ hk => ⟨(.inr (Nat.le_trans (below_size (pH_ HB.out)) hk)), Kd.fresh' (Kd.N_lt (by (with_reducible repeat (first | apply Kd.N_alloc | apply Kd.N_drewN | apply Kd.N_drew)); exact HO_24.out)) k_ hk⟩)); (case aO => exact (by (with_reducible repeat (first | apply Kd.N_alloc | apply Kd.N_drewN | apply Kd.N_drew)); exact Kd.N_mono HO_6.out (fun _ hk => ⟨hk.1.1, hk.1.2⟩))); (case aS => exact (below_size (pH_ HB.out))); (case aL => have := LMc17.out; omega); intro v112 w19 ho hb hg hat; (try simp only [Int.reduceToNat] at ho); rw [← Ny111.out] at ho; have n0_ := Aside0.mk (Kd.N_afterv (ok := (fun k_ => (P0_ k_ ∨ w.heap.size ≤ k_) ∧ nO_ k_ (.slice Ao20 t108.length co20))) (by (with_reducible repeat (first | apply Kd.N_alloc | apply Kd.N_drewN | apply Kd.N_drew)); exact Kd.N_mono HO_24.out (fun _ hk => ⟨⟨hk.1.1, hk.2⟩, hk.1.2⟩)) hg hat); have n1_ := Aside0.mk (Kd.V_afterv (ok := (fun k_ => (P0_ k_ ∨ w.heap.size ≤ k_) ∧ some k_ ≠ (.slice (some ad107) t104.length co12 : Value).ownBlock ∧ nO_ k_ (.slice Ao20 t108.length co20))) (by (with_reducible repeat (first | apply Kd.V_alloc | apply Kd.V_drewN | apply Kd.V_drew)); exact Kd.V_mono HL107_0.out (fun _ hk => ⟨⟨hk.1.1.1, ⟨hk.1.2, hk.2⟩⟩, hk.1.1.2⟩)) hg hat); have n2_ := Aside0.mk (hb); have n3_ := Aside0.mk (ho); clear HO_24; clear HL107_0; clear HB; clear HO_6; clear HO110; have HO_24 := n0_; have HL107_0 := n1_; have HB := n2_; have HO113 := n3_; clear n0_ n1_ n2_ n3_; clear ho hb hg hat))
             go_roundg k3
             case measure => have := HJ2.out; have := HJ5.out; have := HK3.out; omega
             case rel => exact ⟨(y111), (wrap64 (x26_3 + 1)), (by first | rfl | (simp; done) | (simp [*]; done)), H', ⟨by have := HJ2.out; have := HJ5.out; have := HK3.out; omega⟩, ⟨by (with_reducible repeat (first | apply Kd.N_alloc | apply Kd.N_drewN | apply Kd.N_drew)); exact HO113.out⟩, ⟨by (with_reducible repeat (first | apply Kd.N_alloc | apply Kd.N_drewN | apply Kd.N_drew)); exact Kd.N_mono HO_24.out (fun _ hk => ⟨hk.1.1, hk.2⟩)⟩, ⟨pH_ HB.out⟩⟩
            ·
             rw [if_neg c17] at H; exact absurd H (by simp)
           ·
            rw [if_neg c15] at H; exact absurd H (by simp)
          ·
           rw [if_neg c14] at H; exact absurd H (by simp)
         ·
          rw [if_neg c13] at H; have c13b0 : decide (x26_3 < (t104.length : Int)) = false := decide_eq_false c13; clear c13; simp only [Option.some.injEq, Prod.mk.injEq] at H; obtain ⟨rfl, rfl⟩ := H
          go_wp2
          go_ret2
          exact ⟨_, by first | rfl | (simp [errW_none, errW_some] <;> rfl) | (simp [*, errW_none, errW_some] <;> rfl), by (with_reducible repeat (first | apply Kd.N_alloc | apply Kd.N_drewN | apply Kd.N_drew)); exact Kd.N_mono HO_6.out (fun _ hk => hk.1), pH_ HB.out⟩

-- NOT PRINTED: function 27 (slices_EqualFunc_byte_byte_byte_byte)

/-! ### bytes_Equal: function 28 -/
def bytes_Equal.f (l0 : List Int) (l1 : List Int) : Option (Bool) := some ((strOfNums l0).toList == (strOfNums l1).toList)
set_option maxHeartbeats 8000000 in
set_option maxRecDepth 100000 in
theorem bytes_Equal.calls (A0 : Option Addr) (c0 : Nat) (l0 : List Int) (A1 : Option Addr) (c1 : Nat) (l1 : List Int) (r : Bool) (w : World) (hr0 : Kd.C (Kd.int .u8) w A0 l0.length l0) (hc0 : l0.length ≤ c0) (hr1 : Kd.C (Kd.int .u8) w A1 l1.length l1) (hc1 : l1.length ≤ c1) (h : bytes_Equal.f l0 l1 = some r) :
    Calls Tryd.prog 28 #[.slice A0 l0.length c0, .slice A1 l1.length c1] w fun e w' => e = .returned (.bool r) ∧ Drawn0 w w' := by
  have HR0 := Aside0.mk hr0
  have HC0 := Aside0.mk hc0
  clear hr0 hc0
  have HR1 := Aside0.mk hr1
  have HC1 := Aside0.mk hc1
  clear hr1 hc1
  have H : (some ((strOfNums l0).toList == (strOfNums l1).toList)) = some r := h
  clear h
  obtain rfl := Option.some.inj H
  have hcv3 := Kd.C_string (P := Tryd.prog) (A := A0) (c := c0) Tryd.underlying23 Tryd.underlying5 Tryd.underlying9 HR0.out
  have hcv4 := Kd.C_string (P := Tryd.prog) (A := A1) (c := c1) Tryd.underlying23 Tryd.underlying5 Tryd.underlying9 HR1.out
  go_enter Tryd.func28, Tryd.ntmps28
  go_wp2
  go_ret
  exact ⟨by first | rfl | (simp; done) | (simp [*]; done), by repeat (first | exact Drawn0.refl _ | apply Drawn0.step)⟩

/-! ### slices_EqualFunc_byte_byte_byte_byte_bytes_Equal: function 27 -/
/-- Are the first k strings of both the same? -/
def slices_EqualFunc_byte_byte_byte_byte_bytes_Equal.eqs (l0 l1 : List (List Int)) : Nat → Bool
  | 0 => true
  | k + 1 => slices_EqualFunc_byte_byte_byte_byte_bytes_Equal.eqs l0 l1 k && decide ((strOfNums (l0.getD k [])).toList = (strOfNums (l1.getD k [])).toList)
def slices_EqualFunc_byte_byte_byte_byte_bytes_Equal.f (l0 l1 : List (List Int)) : Option (Bool) := if l0.length > 9223372036854775807 then none else some (decide (l0.length = l1.length) && slices_EqualFunc_byte_byte_byte_byte_bytes_Equal.eqs l0 l1 l0.length)
theorem slices_EqualFunc_byte_byte_byte_byte_bytes_Equal.eqs_no (l0 l1 : List (List Int)) (k : Nat) (h : slices_EqualFunc_byte_byte_byte_byte_bytes_Equal.eqs l0 l1 k = false) : ∀ n, k ≤ n → slices_EqualFunc_byte_byte_byte_byte_bytes_Equal.eqs l0 l1 n = false := by
  intro n hn
  induction hn with
  | refl => exact h
  | step _ ih => rw [slices_EqualFunc_byte_byte_byte_byte_bytes_Equal.eqs, ih]; rfl
theorem slices_EqualFunc_byte_byte_byte_byte_bytes_Equal.item (A0 : Option Addr) (l0 : List (List Int)) (w : World) (hr0 : Kd.C (Kd.slice 5 (Kd.int .u8)) w A0 l0.length l0) (k : Nat) (hk : k < l0.length) :
    ∃ ad A c, A0 = some ad ∧ w.cell? (ad.add k) = some (.slice A (l0.getD k []).length c) ∧ Kd.C (Kd.int .u8) w A (l0.getD k []).length (l0.getD k []) := by
  obtain ⟨ad, c, e, hl, hK, hc⟩ := ReadsRow.get_ hr0 [] (k : Int) (by omega) (by omega)
  obtain ⟨A1, c1, h0, hl1, hg1⟩ := hK
  rw [Int.toNat_natCast] at h0 hg1
  refine ⟨ad, A1, c1, e, ?_, hg1⟩
  have := hc 0 (.slice A1 (l0.getD k []).length c1) (by rw [h0]; rfl)
  rw [Int.toNat_natCast, show (Kd.slice 5 (Kd.int .u8)).sz = 1 from rfl, Nat.mul_one, Nat.add_zero] at this
  exact this
theorem slices_EqualFunc_byte_byte_byte_byte_bytes_Equal.calls (A0 : Option Addr) (c0 : Nat) (l0 : List (List Int)) (A1 : Option Addr) (c1 : Nat) (l1 : List (List Int)) (r : Bool) (w : World) (hr0 : Kd.C (Kd.slice 5 (Kd.int .u8)) w A0 l0.length l0) (hc0 : l0.length ≤ c0) (hr1 : Kd.C (Kd.slice 5 (Kd.int .u8)) w A1 l1.length l1) (hc1 : l1.length ≤ c1) (h : slices_EqualFunc_byte_byte_byte_byte_bytes_Equal.f l0 l1 = some r) :
    Calls Tryd.prog 27 #[.slice A0 l0.length c0, .slice A1 l1.length c1, .func (.func 28) #[] #[]] w fun e w' => e = .returned (.bool r) ∧ Drawn0 w w' := by
  unfold slices_EqualFunc_byte_byte_byte_byte_bytes_Equal.f at h
  by_cases hbig : l0.length > 9223372036854775807
  · rw [if_pos hbig] at h; cases h
  rw [if_neg hbig] at h
  simp only [Option.some.injEq] at h
  have HR : Aside0 ((decide (l0.length = l1.length) && slices_EqualFunc_byte_byte_byte_byte_bytes_Equal.eqs l0 l1 l0.length) = r) := ⟨h⟩
  have hit0 := Aside0.mk (slices_EqualFunc_byte_byte_byte_byte_bytes_Equal.item A0 l0 w hr0)
  have hit1 := Aside0.mk (slices_EqualFunc_byte_byte_byte_byte_bytes_Equal.item A1 l1 w hr1)
  clear h hr0 hr1
  by_cases hne : l0.length = l1.length
  case neg =>
    have hz : ((l0.length : Int) == (l1.length : Int)) = false := beq_eq_false_iff_ne.mpr (by omega)
    have hz2 : ((l0.length : Int) != (l1.length : Int)) = true := bne_iff_ne.mpr (by omega)
    have hr : r = false := by rw [← HR.out, decide_eq_false hne]; rfl
    subst hr
    clear hne
    go_enter Tryd.func27, Tryd.ntmps27
    go_wp2
    go_ret
    exact ⟨rfl, 0, rfl⟩
  have HE := Aside0.mk hne
  have HR2 : Aside0 (slices_EqualFunc_byte_byte_byte_byte_bytes_Equal.eqs l0 l1 l0.length = r) := ⟨by rw [← HR.out, decide_eq_true hne, Bool.true_and]⟩
  obtain ⟨n, hn⟩ : ∃ n, n = l0.length := ⟨_, rfl⟩
  have hn1 : l1.length = n := by omega
  rw [hn1, ← hn]
  rw [← hn] at HR2
  have HN := Aside0.mk hn
  have HN1 := Aside0.mk hn1
  have hbg : n ≤ 9223372036854775807 := by omega
  clear hne HR HE hn hn1 hbig hc0 hc1
  go_enter Tryd.func27, Tryd.ntmps27
  go_wp2
  go_loopg [7, 8, 9, 17] n (fun gg _ _ _ s17 wr => ∃ kk : Nat, kk ≤ n ∧ n - kk ≤ gg ∧ s17 = .int .i64 kk ∧ wr = w ∧ Aside0 (slices_EqualFunc_byte_byte_byte_byte_bytes_Equal.eqs l0 l1 kk = true))
  case atStart => exact ⟨0, Nat.zero_le _, by omega, rfl, rfl, Aside0.mk rfl⟩
  case round =>
    obtain ⟨kk, hkk, hg, rfl, rfl, A⟩ := hrel
    by_cases hlt : kk < n
    · have hltz : (kk : Int) < (n : Int) := by omega
      obtain ⟨ad0, B0, d0, e0, hcell0, hC0⟩ := hit0.out kk (by rw [← HN.out]; exact hlt)
      obtain ⟨ad1, B1, d1, e1, hcell1, hC1⟩ := hit1.out kk (by rw [HN1.out]; exact hlt)
      subst e0 e1
      have HS : Aside0 (∀ b, decide ((strOfNums (l0.getD kk [])).toList = (strOfNums (l1.getD kk [])).toList) = b → slices_EqualFunc_byte_byte_byte_byte_bytes_Equal.eqs l0 l1 (kk + 1) = b) := ⟨fun b hb => by rw [slices_EqualFunc_byte_byte_byte_byte_bytes_Equal.eqs, A.out, hb, Bool.true_and]⟩
      have hcv0 := Kd.C_string (P := Tryd.prog) (A := B0) (c := d0) Tryd.underlying23 Tryd.underlying5 Tryd.underlying9 hC0
      have hcv1 := Kd.C_string (P := Tryd.prog) (A := B1) (c := d1) Tryd.underlying23 Tryd.underlying5 Tryd.underlying9 hC1
      clear hit0 hit1 hC0 hC1
      generalize l0.getD kk [] = y0 at hcell0 hcv0 HS
      generalize l1.getD kk [] = y1 at hcell1 hcv1 HS
      by_cases c2 : (strOfNums y0).toList = (strOfNums y1).toList
      · have c2b : ((strOfNums y0).toList == (strOfNums y1).toList) = true := beq_iff_eq.mpr c2
        have HS2 := Aside0.mk (HS.out true (decide_eq_true c2))
        clear c2
        go_wp2
        go_roundg (n - (kk + 1))
        case measure => omega
        case rel => exact ⟨kk + 1, by omega, Nat.le_refl _, by go_num, rfl, HS2⟩
      · have c2b : ((strOfNums y0).toList == (strOfNums y1).toList) = false := beq_eq_false_iff_ne.mpr c2
        have hr : false = r := by rw [← HR2.out]; exact (slices_EqualFunc_byte_byte_byte_byte_bytes_Equal.eqs_no l0 l1 (kk + 1) (HS.out false (decide_eq_false c2)) n (by omega)).symm
        subst hr
        clear c2
        go_wp2
        go_ret
        exact ⟨rfl, 0, rfl⟩
    · have hltz : ¬ (kk : Int) < (n : Int) := by omega
      have : kk = n := by omega
      subst this
      obtain rfl := A.out.symm.trans HR2.out
      go_wp2
      go_ret
      exact ⟨rfl, 0, rfl⟩

/-! ### parity_Right: function 13 -/
def parity_Right.f (k : Nat) (l0 : List (List Int)) (a1 : Int) (l2 : List (List Int)) : Option (Bool × Int) := (parity_Protect.f k l0 a1).bind fun bt114 => (if bt114.2 = 0 then ((slices_EqualFunc_byte_byte_byte_byte_bytes_Equal.f bt114.1 l2).bind fun t118 => (some (t118, bt114.2))) else (some (false, bt114.2)))
theorem parity_Right.mono : ∀ a0 a1 a2 k, LeO (parity_Right.f k a0 a1 a2) (parity_Right.f (k + 1) a0 a1 a2) := by
 intro a0 a1 a2 k
 unfold parity_Right.f
 repeat' first
   | (with_reducible exact parity_Protect.mono _ _ _)
   | (with_reducible exact LeO.refl _)
   | (with_reducible exact LeO.none _)
   | (with_reducible refine LeO.ite ?_ ?_)
   | (with_reducible refine LeO.bind ?_ (fun _ => ?_))
   | exact parity_Protect.mono _ _ _
   | exact LeO.none _
   | refine LeO.ite ?_ ?_
   | refine LeO.bind ?_ (fun _ => ?_)
set_option maxHeartbeats 8000000 in
set_option maxRecDepth 100000 in
theorem parity_Right.calls (k : Nat) (A0 : Option Addr) (c0 : Nat) (l0 : List (List Int)) (a1 : Int) (A2 : Option Addr) (c2 : Nat) (l2 : List (List Int)) (r1 : Bool) (r2 : Int) (w : World) (hr0 : Kd.C (Kd.slice 5 (Kd.int .u8)) w A0 l0.length l0) (hc0 : l0.length ≤ c0) (hr2 : Kd.C (Kd.slice 5 (Kd.int .u8)) w A2 l2.length l2) (hc2 : l2.length ≤ c2) (h : parity_Right.f k l0 a1 l2 = some (r1, r2)) :
  Calls Tryd.prog 13 #[.slice A0 l0.length c0, .int .i64 a1, .slice A2 l2.length c2] w fun e w' => e = .returned (.tuple #[.bool r1, .int .i64 r2]) ∧ Below w.heap.size w w' := by
 have HR0 := Aside0.mk hr0; have HC0 := Aside0.mk hc0; clear hr0 hc0; have HR2 := Aside0.mk hr2; have HC2 := Aside0.mk hc2; clear hr2 hc2; have HB := Aside0.mk (Below.refl w.heap.size w); have H : ((parity_Protect.f k l0 a1).bind fun bt114 => (if bt114.2 = 0 then ((slices_EqualFunc_byte_byte_byte_byte_bytes_Equal.f bt114.1 l2).bind fun t118 => (some (t118, bt114.2))) else (some (false, bt114.2)))) = some (r1, r2) := h; clear h; replace H := Option.bind_eq_some_iff.mp H; obtain ⟨⟨t114, t117⟩, A40, H⟩ := H; replace H : (if t117 = 0 then ((slices_EqualFunc_byte_byte_byte_byte_bytes_Equal.f t114 l2).bind fun t118 => (some (t118, t117))) else (some (false, t117))) = some (r1, r2) := H; have A4 := Aside0.mk A40; clear A40
 by_cases c5 : t117 = 0
 ·
  rw [if_pos c5] at H; have c5b0 : (t117 == 0) = true := beq_iff_eq.mpr c5; have c5b1 : (t117 != 0) = false := bne_eq_false_iff_eq.mpr c5; clear c5; replace H := Option.bind_eq_some_iff.mp H; obtain ⟨t118, A60, H⟩ := H; replace H : (some (t118, t117)) = some (r1, r2) := H; have A6 := Aside0.mk A60; clear A60; simp only [Option.some.injEq, Prod.mk.injEq] at H; obtain ⟨rfl, rfl⟩ := H
  go_enter Tryd.func13, Tryd.ntmps13
  go_wp2_with (first | ((with_reducible refine gate_callee (f := 18) rfl ?_); refine gL_ (some 13) Tryd.func18 #[.slice A0 l0.length c0, .int .i64 a1] ?_; (with_reducible refine (parity_Protect.calls k (fun k_ => k_ < w.heap.size) _ _ l0 a1 t114 t117 _ ?side1 A4.out).mono ?_); (case side1 => exact Kd.V_mk HC0.out (Kd.F_below (Kd.C_F (Kd.heap_slice 5 (Kd.heap_int .u8)) HR0.out) (pH_ HB.out))); rintro e w7 ⟨v115, rfl, ho0, hb⟩; refine ⟨_, rfl, ?_⟩; have n0_ := Aside0.mk (Kd.N_lower (Kd.N_mono (ok' := fun k_ => True) ho0 (fun k_ hk_ => trivial)) (below_size (pH_ HB.out))); have n1_ := Aside0.mk (below_step (pH_ HB.out) hb); clear HB; have HO116 := n0_; have HB := n1_; clear n0_ n1_; (try clear hb); (try clear ho0); obtain ⟨Ao8, co8, eo8⟩ := Kd.N_slice HO116.out; subst eo8) | (go_at_call 27; (with_reducible refine (slices_EqualFunc_byte_byte_byte_byte_bytes_Equal.calls _ _ t114 _ _ l2 t118 _ ?side1 ?side2 ?side3 ?side4 A6.out).mono ?_); (case side1 => repeat (first | exact (Kd.N_reads' HO116.out).2.2 | (with_reducible refine Kd.C_alloc ?_ _) | (with_reducible refine Kd.C_drewN ?_ _) | (with_reducible refine Kd.C_drew ?_))); (case side2 => exact (Kd.N_reads' HO116.out).2.1); (case side3 => repeat (first | exact (Kd.C_below HR2.out HB.out) | (with_reducible refine Kd.C_alloc ?_ _) | (with_reducible refine Kd.C_drewN ?_ _) | (with_reducible refine Kd.C_drew ?_))); (case side4 => exact HC2.out); rintro e w' ⟨rfl, ⟨nd, rfl⟩⟩))
  go_ret2
  exact ⟨by first | rfl | (simp [errW_none, errW_some] <;> rfl) | (simp [*, errW_none, errW_some] <;> rfl), pH_ HB.out⟩
 ·
  rw [if_neg c5] at H; have c5b0 : (t117 == 0) = false := beq_eq_false_iff_ne.mpr c5; have c5b1 : (t117 != 0) = true := bne_iff_ne.mpr c5; simp only [Option.some.injEq, Prod.mk.injEq] at H; obtain ⟨rfl, rfl⟩ := H
  go_enter Tryd.func13, Tryd.ntmps13
  go_wp2_with (first | ((with_reducible refine gate_callee (f := 18) rfl ?_); refine gL_ (some 13) Tryd.func18 #[.slice A0 l0.length c0, .int .i64 a1] ?_; (with_reducible refine (parity_Protect.calls k (fun k_ => k_ < w.heap.size) _ _ l0 a1 t114 t117 _ ?side1 A4.out).mono ?_); (case side1 => exact Kd.V_mk HC0.out (Kd.F_below (Kd.C_F (Kd.heap_slice 5 (Kd.heap_int .u8)) HR0.out) (pH_ HB.out))); rintro e w9 ⟨v115, rfl, ho0, hb⟩; refine ⟨_, rfl, ?_⟩; have n0_ := Aside0.mk (Kd.N_lower (Kd.N_mono (ok' := fun k_ => True) ho0 (fun k_ hk_ => trivial)) (below_size (pH_ HB.out))); have n1_ := Aside0.mk (below_step (pH_ HB.out) hb); clear HB; have HO116 := n0_; have HB := n1_; clear n0_ n1_; (try clear hb); (try clear ho0)))
  go_ret2
  exact ⟨by first | rfl | (simp [errW_none, errW_some] <;> rfl) | (simp [*, errW_none, errW_some] <;> rfl), pH_ HB.out⟩

/-! ### bitloftref42_Same: function 17 -/
def bitloftref42_Same.l0 : Nat → List (List Int) → List (List Int) → Int → Option (Bool)
 | 0, _, _, _ => none
 | k + 1, x0, x1, x5 => if x5 < (x0.length : Int) then (if 0 ≤ x5 then (if x5 < (x1.length : Int) then (if (strOfNums (rd_L1 x0 x5)).toList = (strOfNums (rd_L1 x1 x5)).toList then (bitloftref42_Same.l0 k x0 x1 (wrap64 (x5 + 1))) else (some false)) else (none)) else (none)) else (some true)
def bitloftref42_Same.f (k : Nat) (l0 : List (List Int)) (l1 : List (List Int)) : Option (Bool) := if (l0.length : Int) = (l1.length : Int) then (bitloftref42_Same.l0 k l0 l1 0) else (some false)
theorem bitloftref42_Same.mono_l : ∀ k, (∀ y0 y1 y2, LeO (bitloftref42_Same.l0 k y0 y1 y2) (bitloftref42_Same.l0 (k + 1) y0 y1 y2))
 | 0 => fun _ _ _ r h => by simp [bitloftref42_Same.l0] at h
 | k + 1 => by
  have ih0 := bitloftref42_Same.mono_l k
  ·
   intro y0 y1 y2
   unfold bitloftref42_Same.l0
   repeat' first
   | (with_reducible exact ih0 _ _ _)
   | (with_reducible exact LeO.refl _)
   | (with_reducible exact LeO.none _)
   | (with_reducible refine LeO.ite ?_ ?_)
   | (with_reducible refine LeO.bind ?_ (fun _ => ?_))
   | exact ih0 _ _ _
   | exact LeO.none _
   | refine LeO.ite ?_ ?_
   | refine LeO.bind ?_ (fun _ => ?_)
theorem bitloftref42_Same.mono : ∀ a0 a1 k, LeO (bitloftref42_Same.f k a0 a1) (bitloftref42_Same.f (k + 1) a0 a1) := by
 intro a0 a1 k; have ih0 := bitloftref42_Same.mono_l k
 unfold bitloftref42_Same.f
 repeat' first
   | (with_reducible exact ih0 _ _ _)
   | (with_reducible exact LeO.refl _)
   | (with_reducible exact LeO.none _)
   | (with_reducible refine LeO.ite ?_ ?_)
   | (with_reducible refine LeO.bind ?_ (fun _ => ?_))
   | exact ih0 _ _ _
   | exact LeO.none _
   | refine LeO.ite ?_ ?_
   | refine LeO.bind ?_ (fun _ => ?_)
set_option maxHeartbeats 8000000 in
set_option maxRecDepth 100000 in
theorem bitloftref42_Same.calls (k : Nat) (A0 : Option Addr) (c0 : Nat) (l0 : List (List Int)) (A1 : Option Addr) (c1 : Nat) (l1 : List (List Int)) (r : Bool) (w : World) (hr0 : Kd.C (Kd.slice 5 (Kd.int .u8)) w A0 l0.length l0) (hc0 : l0.length ≤ c0) (hr1 : Kd.C (Kd.slice 5 (Kd.int .u8)) w A1 l1.length l1) (hc1 : l1.length ≤ c1) (h : bitloftref42_Same.f k l0 l1 = some r) :
  Calls Tryd.prog 17 #[.slice A0 l0.length c0, .slice A1 l1.length c1] w fun e w' => e = .returned (.bool r) ∧ Drawn0 w w' := by
 have HR0 := Aside0.mk hr0; have HC0 := Aside0.mk hc0; clear hr0 hc0; have HR1 := Aside0.mk hr1; have HC1 := Aside0.mk hc1; clear hr1 hc1; have H : (if (l0.length : Int) = (l1.length : Int) then (bitloftref42_Same.l0 k l0 l1 0) else (some false)) = some r := h; clear h
 by_cases c3 : (l0.length : Int) = (l1.length : Int)
 ·
  rw [if_pos c3] at H; have c3b0 : ((l0.length : Int) == (l1.length : Int)) = true := beq_iff_eq.mpr c3; have c3b1 : ((l0.length : Int) != (l1.length : Int)) = false := bne_eq_false_iff_eq.mpr c3
  have c3b2 : (l0.length == l1.length) = true := by first | simpa using c3 | (simp at c3 ⊢; omega)
  clear c3; have H' := Aside0.mk H; clear H
  go_enter Tryd.func17, Tryd.ntmps17
  go_wp2
  repeat (go_quiet (fail); try go_wp2)
  go_loopg [5] k (fun kq v5 w' => ∃ (x5_1 : Int), v5 = .int .i64 x5_1 ∧ Aside0 (bitloftref42_Same.l0 kq l0 l1 x5_1 = some r) ∧ Aside0 (kq ≤ k) ∧ Drawn0 w w')
  case atStart => exact ⟨(0), (by first | rfl | (simp; done) | (simp [*]; done)), H', ⟨Nat.le_refl _⟩, by repeat (first | exact Drawn0.refl _ | apply Drawn0.step)⟩
  case round =>
   clear H'
   try clear c1
   try clear p2
   try clear c3
   try clear c3b0
   try clear c3b1
   try clear c3b2
   obtain ⟨x5_1, rfl, HA, HK1, ⟨m1, rfl⟩⟩ := hrel
   cases gk with
   | zero => exact absurd HA.out (by simp [bitloftref42_Same.l0])
   | succ k1 =>
    have H := HA.out; clear HA; simp only [bitloftref42_Same.l0] at H
    by_cases c4 : x5_1 < (l0.length : Int)
    ·
     rw [if_pos c4] at H; have c4b0 : decide (x5_1 < (l0.length : Int)) = true := decide_eq_true c4; clear c4
     by_cases c5 : 0 ≤ x5_1
     ·
      rw [if_pos c5] at H; have c5b0 : decide (0 ≤ x5_1) = true := decide_eq_true c5; clear c5
      by_cases c6 : x5_1 < (l1.length : Int)
      ·
       rw [if_pos c6] at H; have c6b0 : decide (x5_1 < (l1.length : Int)) = true := decide_eq_true c6; clear c6
       by_cases c7 : (strOfNums (rd_L1 l0 x5_1)).toList = (strOfNums (rd_L1 l1 x5_1)).toList
       ·
        rw [if_pos c7] at H; have c7b0 : ((strOfNums (rd_L1 l0 x5_1)).toList == (strOfNums (rd_L1 l1 x5_1)).toList) = true := beq_iff_eq.mpr c7; have c7b1 : ((strOfNums (rd_L1 l0 x5_1)).toList != (strOfNums (rd_L1 l1 x5_1)).toList) = false := bne_eq_false_iff_eq.mpr c7; clear c7; have H' := Aside0.mk H; clear H; have p119 : 0 ≤ (x5_1 : Int) := of_decide_eq_true (by first | (with_reducible assumption) | assumption); have q119 : x5_1 < (l0.length : Int) := of_decide_eq_true (by first | (with_reducible assumption) | assumption); obtain ⟨ad119, A119_0, c119_0, e119, hx119_0, hl119_0, hi119_0⟩ := at_L1 HR0.out x5_1 p119 q119
        cases e119
        have HR119_0 := Aside0.mk hi119_0; have HC119_0 := Aside0.mk hl119_0; clear hi119_0 hl119_0; replace p119 := eq_true p119; replace q119 := eq_true q119
        have hcv8 := Kd.C_string (P := Tryd.prog) (A := A119_0) (c := c119_0) Tryd.underlying23 Tryd.underlying5 Tryd.underlying9 HR119_0.out; have dhcv8 := fun a_ : Nat => Kd.C_string (P := Tryd.prog) (A := A119_0) (c := c119_0) Tryd.underlying23 Tryd.underlying5 Tryd.underlying9 (Kd.C_drewN HR119_0.out a_)
        have p120 : 0 ≤ (x5_1 : Int) := of_decide_eq_true (by first | (with_reducible assumption) | assumption); have q120 : x5_1 < (l1.length : Int) := of_decide_eq_true (by first | (with_reducible assumption) | assumption); obtain ⟨ad120, A120_0, c120_0, e120, hx120_0, hl120_0, hi120_0⟩ := at_L1 HR1.out x5_1 p120 q120
        cases e120
        have HR120_0 := Aside0.mk hi120_0; have HC120_0 := Aside0.mk hl120_0; clear hi120_0 hl120_0; replace p120 := eq_true p120; replace q120 := eq_true q120
        have hcv9 := Kd.C_string (P := Tryd.prog) (A := A120_0) (c := c120_0) Tryd.underlying23 Tryd.underlying5 Tryd.underlying9 HR120_0.out; have dhcv9 := fun a_ : Nat => Kd.C_string (P := Tryd.prog) (A := A120_0) (c := c120_0) Tryd.underlying23 Tryd.underlying5 Tryd.underlying9 (Kd.C_drewN HR120_0.out a_)
        go_wp2
        repeat (go_quiet (fail); try go_wp2)
        go_roundg k1
        case measure => have := HK1.out; omega
        case rel => exact ⟨(wrap64 (x5_1 + 1)), (by first | rfl | (simp; done) | (simp [*]; done)), H', ⟨by have := HK1.out; omega⟩, by repeat (first | exact Drawn0.refl _ | apply Drawn0.step)⟩
       ·
        rw [if_neg c7] at H; have c7b0 : ((strOfNums (rd_L1 l0 x5_1)).toList == (strOfNums (rd_L1 l1 x5_1)).toList) = false := beq_eq_false_iff_ne.mpr c7; have c7b1 : ((strOfNums (rd_L1 l0 x5_1)).toList != (strOfNums (rd_L1 l1 x5_1)).toList) = true := bne_iff_ne.mpr c7; obtain rfl := Option.some.inj H; have p119 : 0 ≤ (x5_1 : Int) := of_decide_eq_true (by first | (with_reducible assumption) | assumption); have q119 : x5_1 < (l0.length : Int) := of_decide_eq_true (by first | (with_reducible assumption) | assumption); obtain ⟨ad119, A119_0, c119_0, e119, hx119_0, hl119_0, hi119_0⟩ := at_L1 HR0.out x5_1 p119 q119
        cases e119
        have HR119_0 := Aside0.mk hi119_0; have HC119_0 := Aside0.mk hl119_0; clear hi119_0 hl119_0; replace p119 := eq_true p119; replace q119 := eq_true q119
        have hcv10 := Kd.C_string (P := Tryd.prog) (A := A119_0) (c := c119_0) Tryd.underlying23 Tryd.underlying5 Tryd.underlying9 HR119_0.out; have dhcv10 := fun a_ : Nat => Kd.C_string (P := Tryd.prog) (A := A119_0) (c := c119_0) Tryd.underlying23 Tryd.underlying5 Tryd.underlying9 (Kd.C_drewN HR119_0.out a_)
        have p120 : 0 ≤ (x5_1 : Int) := of_decide_eq_true (by first | (with_reducible assumption) | assumption); have q120 : x5_1 < (l1.length : Int) := of_decide_eq_true (by first | (with_reducible assumption) | assumption); obtain ⟨ad120, A120_0, c120_0, e120, hx120_0, hl120_0, hi120_0⟩ := at_L1 HR1.out x5_1 p120 q120
        cases e120
        have HR120_0 := Aside0.mk hi120_0; have HC120_0 := Aside0.mk hl120_0; clear hi120_0 hl120_0; replace p120 := eq_true p120; replace q120 := eq_true q120
        have hcv11 := Kd.C_string (P := Tryd.prog) (A := A120_0) (c := c120_0) Tryd.underlying23 Tryd.underlying5 Tryd.underlying9 HR120_0.out; have dhcv11 := fun a_ : Nat => Kd.C_string (P := Tryd.prog) (A := A120_0) (c := c120_0) Tryd.underlying23 Tryd.underlying5 Tryd.underlying9 (Kd.C_drewN HR120_0.out a_)
        go_wp2
        repeat (go_quiet (fail); try go_wp2)
        go_ret
        exact ⟨by first | rfl | (simp; done) | (simp [*]; done), by repeat (first | exact Drawn0.refl _ | apply Drawn0.step)⟩
      ·
       rw [if_neg c6] at H; exact absurd H (by simp)
     ·
      rw [if_neg c5] at H; exact absurd H (by simp)
    ·
     rw [if_neg c4] at H; have c4b0 : decide (x5_1 < (l0.length : Int)) = false := decide_eq_false c4; clear c4; obtain rfl := Option.some.inj H
     go_wp2
     repeat (go_quiet (fail); try go_wp2)
     go_ret
     exact ⟨by first | rfl | (simp; done) | (simp [*]; done), by repeat (first | exact Drawn0.refl _ | apply Drawn0.step)⟩
 ·
  rw [if_neg c3] at H; have c3b0 : ((l0.length : Int) == (l1.length : Int)) = false := beq_eq_false_iff_ne.mpr c3; have c3b1 : ((l0.length : Int) != (l1.length : Int)) = true := bne_iff_ne.mpr c3
  have c3b2 : (l0.length == l1.length) = false := by first | simpa using c3 | (simp at c3 ⊢; omega)
  obtain rfl := Option.some.inj H
  go_enter Tryd.func17, Tryd.ntmps17
  go_wp2
  repeat (go_quiet (fail); try go_wp2)
  go_ret
  exact ⟨by first | rfl | (simp; done) | (simp [*]; done), by repeat (first | exact Drawn0.refl _ | apply Drawn0.step)⟩

/-! ### bitloftref42_long: function 33 -/
def bitloftref42_long.l0 : Nat → List (List Int) → Int → Int → Option (Bool)
 | 0, _, _, _ => none
 | k + 1, x0, x1, x5 => if x5 < (x0.length : Int) then (if x5 = x1 then (bitloftref42_long.l0 k x0 x1 (wrap64 (x5 + 1))) else (if 0 ≤ x5 then (if ((rd_L1 x0 x5).length : Int) > 5000 then (some true) else (bitloftref42_long.l0 k x0 x1 (wrap64 (x5 + 1)))) else (none))) else (some false)
def bitloftref42_long.f (k : Nat) (l0 : List (List Int)) (a1 : Int) : Option (Bool) := bitloftref42_long.l0 k l0 a1 0
theorem bitloftref42_long.mono_l : ∀ k, (∀ y0 y1 y2, LeO (bitloftref42_long.l0 k y0 y1 y2) (bitloftref42_long.l0 (k + 1) y0 y1 y2))
 | 0 => fun _ _ _ r h => by simp [bitloftref42_long.l0] at h
 | k + 1 => by
  have ih0 := bitloftref42_long.mono_l k
  ·
   intro y0 y1 y2
   unfold bitloftref42_long.l0
   repeat' first
   | (with_reducible exact ih0 _ _ _)
   | (with_reducible exact LeO.refl _)
   | (with_reducible exact LeO.none _)
   | (with_reducible refine LeO.ite ?_ ?_)
   | (with_reducible refine LeO.bind ?_ (fun _ => ?_))
   | exact ih0 _ _ _
   | exact LeO.none _
   | refine LeO.ite ?_ ?_
   | refine LeO.bind ?_ (fun _ => ?_)
theorem bitloftref42_long.mono : ∀ a0 a1 k, LeO (bitloftref42_long.f k a0 a1) (bitloftref42_long.f (k + 1) a0 a1) := by
 intro a0 a1 k; have ih0 := bitloftref42_long.mono_l k
 unfold bitloftref42_long.f
 repeat' first
   | (with_reducible exact ih0 _ _ _)
   | (with_reducible exact LeO.refl _)
   | (with_reducible exact LeO.none _)
   | (with_reducible refine LeO.ite ?_ ?_)
   | (with_reducible refine LeO.bind ?_ (fun _ => ?_))
   | exact ih0 _ _ _
   | exact LeO.none _
   | refine LeO.ite ?_ ?_
   | refine LeO.bind ?_ (fun _ => ?_)
set_option maxHeartbeats 8000000 in
set_option maxRecDepth 100000 in
theorem bitloftref42_long.calls (k : Nat) (A0 : Option Addr) (c0 : Nat) (l0 : List (List Int)) (a1 : Int) (r : Bool) (w : World) (hr0 : Kd.C (Kd.slice 5 (Kd.int .u8)) w A0 l0.length l0) (hc0 : l0.length ≤ c0) (h : bitloftref42_long.f k l0 a1 = some r) :
  Calls Tryd.prog 33 #[.slice A0 l0.length c0, .int .i64 a1] w fun e w' => e = .returned (.bool r) ∧ Drawn0 w w' := by
 have HR0 := Aside0.mk hr0; have HC0 := Aside0.mk hc0; clear hr0 hc0; have H : (bitloftref42_long.l0 k l0 a1 0) = some r := h; clear h; have H' := Aside0.mk H; clear H
 go_enter Tryd.func33, Tryd.ntmps33
 go_wp2
 go_loopg [5] k (fun kq v5 w' => ∃ (x5_1 : Int), v5 = .int .i64 x5_1 ∧ Aside0 (bitloftref42_long.l0 kq l0 a1 x5_1 = some r) ∧ Aside0 (kq ≤ k) ∧ Drawn0 w w')
 case atStart => exact ⟨(0), (by first | rfl | (simp; done) | (simp [*]; done)), H', ⟨Nat.le_refl _⟩, by repeat (first | exact Drawn0.refl _ | apply Drawn0.step)⟩
 case round =>
  clear H'
  try clear p2
  obtain ⟨x5_1, rfl, HA, HK1, ⟨m1, rfl⟩⟩ := hrel
  cases gk with
  | zero => exact absurd HA.out (by simp [bitloftref42_long.l0])
  | succ k1 =>
   have H := HA.out; clear HA; simp only [bitloftref42_long.l0] at H
   by_cases c3 : x5_1 < (l0.length : Int)
   ·
    rw [if_pos c3] at H; have c3b0 : decide (x5_1 < (l0.length : Int)) = true := decide_eq_true c3; clear c3
    by_cases c4 : x5_1 = a1
    ·
     rw [if_pos c4] at H; have c4b0 : (x5_1 == a1) = true := beq_iff_eq.mpr c4; have c4b1 : (x5_1 != a1) = false := bne_eq_false_iff_eq.mpr c4; clear c4; have H' := Aside0.mk H; clear H
     go_wp2
     go_roundg k1
     case measure => have := HK1.out; omega
     case rel => exact ⟨(wrap64 (x5_1 + 1)), (by first | rfl | (simp; done) | (simp [*]; done)), H', ⟨by have := HK1.out; omega⟩, by repeat (first | exact Drawn0.refl _ | apply Drawn0.step)⟩
    ·
     rw [if_neg c4] at H; have c4b0 : (x5_1 == a1) = false := beq_eq_false_iff_ne.mpr c4; have c4b1 : (x5_1 != a1) = true := bne_iff_ne.mpr c4
     by_cases c5 : 0 ≤ x5_1
     ·
      rw [if_pos c5] at H; have c5b0 : decide (0 ≤ x5_1) = true := decide_eq_true c5; clear c5
      by_cases c6 : ((rd_L1 l0 x5_1).length : Int) > 5000
      ·
       rw [if_pos c6] at H; have c6b0 : decide (5000 < ((rd_L1 l0 x5_1).length : Int)) = true := decide_eq_true c6; have c6b1 : decide (5000 < (rd_L1 l0 x5_1).length) = true := decide_eq_true (by omega); clear c6; obtain rfl := Option.some.inj H; have p121 : 0 ≤ (x5_1 : Int) := of_decide_eq_true (by first | (with_reducible assumption) | assumption); have q121 : x5_1 < (l0.length : Int) := of_decide_eq_true (by first | (with_reducible assumption) | assumption); obtain ⟨ad121, A121_0, c121_0, e121, hx121_0, hl121_0, hi121_0⟩ := at_L1 HR0.out x5_1 p121 q121
       cases e121
       have HR121_0 := Aside0.mk hi121_0; have HC121_0 := Aside0.mk hl121_0; clear hi121_0 hl121_0; replace p121 := eq_true p121; replace q121 := eq_true q121
       go_wp2
       go_ret
       exact ⟨by first | rfl | (simp; done) | (simp [*]; done), by repeat (first | exact Drawn0.refl _ | apply Drawn0.step)⟩
      ·
       rw [if_neg c6] at H; have c6b0 : decide (5000 < ((rd_L1 l0 x5_1).length : Int)) = false := decide_eq_false c6; have c6b1 : decide (5000 < (rd_L1 l0 x5_1).length) = false := decide_eq_false (by omega); clear c6; have H' := Aside0.mk H; clear H; have p121 : 0 ≤ (x5_1 : Int) := of_decide_eq_true (by first | (with_reducible assumption) | assumption); have q121 : x5_1 < (l0.length : Int) := of_decide_eq_true (by first | (with_reducible assumption) | assumption); obtain ⟨ad121, A121_0, c121_0, e121, hx121_0, hl121_0, hi121_0⟩ := at_L1 HR0.out x5_1 p121 q121
       cases e121
       have HR121_0 := Aside0.mk hi121_0; have HC121_0 := Aside0.mk hl121_0; clear hi121_0 hl121_0; replace p121 := eq_true p121; replace q121 := eq_true q121
       go_wp2
       go_roundg k1
       case measure => have := HK1.out; omega
       case rel => exact ⟨(wrap64 (x5_1 + 1)), (by first | rfl | (simp; done) | (simp [*]; done)), H', ⟨by have := HK1.out; omega⟩, by repeat (first | exact Drawn0.refl _ | apply Drawn0.step)⟩
     ·
      rw [if_neg c5] at H; exact absurd H (by simp)
   ·
    rw [if_neg c3] at H; have c3b0 : decide (x5_1 < (l0.length : Int)) = false := decide_eq_false c3; clear c3; obtain rfl := Option.some.inj H
    go_wp2
    go_ret
    exact ⟨by first | rfl | (simp; done) | (simp [*]; done), by repeat (first | exact Drawn0.refl _ | apply Drawn0.step)⟩

/-! ### bitloftref42_mixed: function 48 -/
def bitloftref42_mixed.l0 : Nat → List Int → List Int → List Int → Int → Option (List Int)
 | 0, _, _, _, _ => none
 | k + 1, x0, x1, x5, x6 => if x6 < (x0.length : Int) then (if 0 ≤ x6 then (if x6 < (x1.length : Int) then (if x5.length < 140737488355328 then (bitloftref42_mixed.l0 k x0 x1 (x5 ++ [Go.bits .xor .u8 (rd x0 x6) (rd x1 x6)]) (wrap64 (x6 + 1))) else (none)) else (none)) else (none)) else (some x5)
def bitloftref42_mixed.f (k : Nat) (l0 : List Int) (l1 : List Int) : Option (List Int) := bitloftref42_mixed.l0 k l0 l1 ([] : List Int) 0
theorem bitloftref42_mixed.mono_l : ∀ k, (∀ y0 y1 y2 y3, LeO (bitloftref42_mixed.l0 k y0 y1 y2 y3) (bitloftref42_mixed.l0 (k + 1) y0 y1 y2 y3))
 | 0 => fun _ _ _ _ r h => by simp [bitloftref42_mixed.l0] at h
 | k + 1 => by
  have ih0 := bitloftref42_mixed.mono_l k
  ·
   intro y0 y1 y2 y3
   unfold bitloftref42_mixed.l0
   repeat' first
   | (with_reducible exact ih0 _ _ _ _)
   | (with_reducible exact LeO.refl _)
   | (with_reducible exact LeO.none _)
   | (with_reducible refine LeO.ite ?_ ?_)
   | (with_reducible refine LeO.bind ?_ (fun _ => ?_))
   | exact ih0 _ _ _ _
   | exact LeO.none _
   | refine LeO.ite ?_ ?_
   | refine LeO.bind ?_ (fun _ => ?_)
theorem bitloftref42_mixed.mono : ∀ a0 a1 k, LeO (bitloftref42_mixed.f k a0 a1) (bitloftref42_mixed.f (k + 1) a0 a1) := by
 intro a0 a1 k; have ih0 := bitloftref42_mixed.mono_l k
 unfold bitloftref42_mixed.f
 repeat' first
   | (with_reducible exact ih0 _ _ _ _)
   | (with_reducible exact LeO.refl _)
   | (with_reducible exact LeO.none _)
   | (with_reducible refine LeO.ite ?_ ?_)
   | (with_reducible refine LeO.bind ?_ (fun _ => ?_))
   | exact ih0 _ _ _ _
   | exact LeO.none _
   | refine LeO.ite ?_ ?_
   | refine LeO.bind ?_ (fun _ => ?_)
def bitloftref42_mixed.T5 : Bool × List (List Nat × List Nat) := (true, [([], []), ([], []), ([], []), ([1, 2], [1, 2]), ([3], [3]), ([], []), ([], []), ([5, 6], [5, 6]), ([7], [7]), ([4, 8], [4, 8]), ([9], [9]), ([0, 10], [0, 10]), ([11, 11, 0, 1, 2, 3, 4, 5, 6, 7, 8, 9, 10, 11], [0, 11])])
def bitloftref42_mixed.B5 : List Nat := [0, 0, 0, 6, 14, 0, 0, 96, 224, 510, 1022, 2047, 4095]
theorem bitloftref42_mixed.tab5 : rtab .any (opsOf Tryd.f48 5) = bitloftref42_mixed.T5 := by kernel_rfl
theorem bitloftref42_mixed.bits5 : waitsOk bitloftref42_mixed.T5.2 bitloftref42_mixed.B5 = true := by kernel_rfl
set_option maxHeartbeats 8000000 in
set_option maxRecDepth 100000 in
theorem bitloftref42_mixed.calls (k : Nat) (A0 : Option Addr) (c0 : Nat) (l0 : List Int) (A1 : Option Addr) (c1 : Nat) (l1 : List Int) (r : List Int) (w : World) (hr0 : Kd.C (Kd.int .u8) w A0 l0.length l0) (hc0 : l0.length ≤ c0) (hr1 : Kd.C (Kd.int .u8) w A1 l1.length l1) (hc1 : l1.length ≤ c1) (h : bitloftref42_mixed.f k l0 l1 = some r) :
  Calls Tryd.prog 48 #[.slice A0 l0.length c0, .slice A1 l1.length c1] w fun e w' => ∃ v0_ : Value, e = .returned (v0_) ∧ Kd.R (Kd.int .u8) 5 w' w.heap.size (fun _ => True) v0_ r ∧ Below w.heap.size w w' := by
 have HR0 := Aside0.mk hr0; have HC0 := Aside0.mk hc0; clear hr0 hc0; have HR1 := Aside0.mk hr1; have HC1 := Aside0.mk hc1; clear hr1 hc1; have HB := Aside0.mk (Below.refl w.heap.size w); have H : (bitloftref42_mixed.l0 k l0 l1 ([] : List Int) 0) = some r := h; clear h; have H' := Aside0.mk H; clear H
 go_enter Tryd.func48, Tryd.ntmps48
 go_wp2
 go_loopg [5, 6] k (fun kq v5 v6 w' => ∃ (x5_1 : List Int) (x6_1 : Int), v6 = .int .i64 x6_1 ∧ Aside0 (bitloftref42_mixed.l0 kq l0 l1 x5_1 x6_1 = some r) ∧ Aside0 (kq ≤ k) ∧ Aside0 (Kd.R (Kd.int .u8) 5 w' w.heap.size (fun _ => True) v5 x5_1) ∧ Aside0 (Below w.heap.size w w'))
 case atStart => exact ⟨(([] : List Int)), (0), (by first | rfl | (simp; done) | (simp [*]; done)), H', ⟨Nat.le_refl _⟩, ⟨by first | exact Kd.R_nil _ _ _ _ _ | exact Kd.N_nil _ _ _ _ _ | exact Kd.V_nil _ _ _ _ _ | exact Kd.Q_nil _ _ _ _ _ | exact Kd.S_nil _ _ _ _ _⟩, ⟨pH_ HB.out⟩⟩
 case round =>
  clear H'
  try clear c1
  try clear p2
  obtain ⟨x5_1, x6_1, rfl, HA, HK1, HO_5, HB⟩ := hrel
  cases gk with
  | zero => exact absurd HA.out (by simp [bitloftref42_mixed.l0])
  | succ k1 =>
   have H := HA.out; clear HA; simp only [bitloftref42_mixed.l0] at H
   by_cases c3 : x6_1 < (l0.length : Int)
   ·
    rw [if_pos c3] at H; have c3b0 : decide (x6_1 < (l0.length : Int)) = true := decide_eq_true c3; clear c3
    by_cases c4 : 0 ≤ x6_1
    ·
     rw [if_pos c4] at H; have c4b0 : decide (0 ≤ x6_1) = true := decide_eq_true c4; clear c4
     by_cases c5 : x6_1 < (l1.length : Int)
     ·
      rw [if_pos c5] at H; have c5b0 : decide (x6_1 < (l1.length : Int)) = true := decide_eq_true c5; clear c5
      by_cases c6 : x5_1.length < 140737488355328
      ·
       rw [if_pos c6] at H; have LMc6 := Aside0.mk c6; clear c6; obtain ⟨y124, hy124⟩ : ∃ y_ : List Int, y_ = (x5_1 ++ [Go.bits .xor .u8 (rd l0 x6_1) (rd l1 x6_1)]) := ⟨_, rfl⟩
       replace H : (bitloftref42_mixed.l0 k1 l0 l1 y124 (wrap64 (x6_1 + 1))) = some r := by first | (rw [hy124]; with_reducible exact H) | (have H2_ := (Option.bind_some _ _).symm.trans H; rw [hy124]; with_reducible exact H2_) | (have H2_ := (Option.bind_some _ _).symm.trans H; with_reducible exact H2_) | with_reducible exact H | (rw [hy124]; exact H) | exact H
       have Ny124 := Aside0.mk hy124; clear hy124; have H' := Aside0.mk H; clear H
       try go_wp2
       have n0_ := Aside0.mk (Kd.R_drew HO_5.out); have n1_ := Aside0.mk (below_drew1 HB.out); clear HO_5; clear HB; have HO_5 := n0_; have HB := n1_; clear n0_ n1_; have p122 : 0 ≤ (x6_1 : Int) := of_decide_eq_true (by first | (with_reducible assumption) | assumption); have q122 : x6_1 < (l0.length : Int) := of_decide_eq_true (by first | (with_reducible assumption) | assumption); obtain ⟨ad122, e122, hx122_0⟩ := Kd.at_int HR0.out x6_1 p122 q122; have hw122_0 := hx122_0
       cases e122
       replace hx122_0 := (HB.out.cell (World.block_lt_of_cell? w _ hx122_0)).trans hx122_0; replace p122 := eq_true p122; replace q122 := eq_true q122; have p123 : 0 ≤ (x6_1 : Int) := of_decide_eq_true (by first | (with_reducible assumption) | assumption); have q123 : x6_1 < (l1.length : Int) := of_decide_eq_true (by first | (with_reducible assumption) | assumption); obtain ⟨ad123, e123, hx123_0⟩ := Kd.at_int HR1.out x6_1 p123 q123; have hw123_0 := hx123_0
       cases e123
       replace hx123_0 := (HB.out.cell (World.block_lt_of_cell? w _ hx123_0)).trans hx123_0; replace p123 := eq_true p123; replace q123 := eq_true q123; refine start_ (n := 13) (S := fun w' => w'.cell? (ad122.add (x6_1).toNat) = some (.int .u8 (rd l0 x6_1)) ∧ w'.cell? (ad123.add (x6_1).toNat) = some (.int .u8 (rd l1 x6_1))) (ds := []) #[f_, f_, f_, f_, f_, f_, f_, f_, f_, f_, f_, f_, f_] (by kernel_rfl) rfl rfl ⟨((HB.out.cell (World.block_lt_of_cell? w _ hw122_0)).trans hw122_0), ((HB.out.cell (World.block_lt_of_cell? w _ hw123_0)).trans hw123_0)⟩ (fun hHeld => ?_); refine with_tabW bitloftref42_mixed.tab5 bitloftref42_mixed.bits5 (fun HT_ HW_ => ?_)
       generalize wr.drew = w7 at HO_5 HB hx122_0 hx123_0 hHeld ⊢
       refine pure_ (i := 0) (N := some 13) (v := ?_) (a' := ?_) #[t_, f_, f_, f_, f_, f_, f_, f_, f_, f_, f_, f_, f_] rfl rfl (any_of HT_.out (by kernel_rfl)) (fun _ _ _ h => h) (Or.inl ⟨by rfl, ?_⟩) ?_ ?_; rotate_left
       ·
        intro w'; go_simp
        with_reducible rfl
       rotate_left
       ·
        simp only [Act.put, sA_, sZ_, sS_, i64_w, i32_w]; rfl
       refine pure_ (i := 1) (N := some 14) (v := ?_) (a' := ?_) #[t_, t_, f_, f_, f_, f_, f_, f_, f_, f_, f_, f_, f_] rfl rfl (any_of HT_.out (by kernel_rfl)) (fun _ _ _ h => h) (Or.inl ⟨by rfl, ?_⟩) ?_ ?_; rotate_left
       ·
        intro w'; go_simp
        with_reducible rfl
       rotate_left
       ·
        simp only [Act.put, sA_, sZ_, sS_, i64_w, i32_w]; rfl
       refine pure_ (i := 2) (N := some 15) (v := ?_) (a' := ?_) #[t_, t_, t_, f_, f_, f_, f_, f_, f_, f_, f_, f_, f_] rfl rfl (any_of HT_.out (by kernel_rfl)) (fun _ _ _ h => h) (Or.inl ⟨by rfl, ?_⟩) ?_ ?_; rotate_left
       ·
        intro w'; go_simp
        with_reducible rfl
       rotate_left
       ·
        simp only [Act.put, sA_, sZ_, sS_, i64_w, i32_w]; rfl
       refine pure_ (i := 3) (N := some 16) (v := ?_) (a' := ?_) #[t_, t_, t_, t_, f_, f_, f_, f_, f_, f_, f_, f_, f_] rfl rfl (any_of HT_.out (by kernel_rfl)) (fun _ _ _ h => h) (Or.inl ⟨by rfl, ?_⟩) ?_ ?_; rotate_left
       ·
        intro w'; go_simp
        with_reducible rfl
       rotate_left
       ·
        simp only [Act.put, sA_, sZ_, sS_, i64_w, i32_w]; rfl
       refine pure_ (i := 5) (N := some 18) (v := ?_) (a' := ?_) #[t_, t_, t_, t_, f_, t_, f_, f_, f_, f_, f_, f_, f_] rfl rfl (any_of HT_.out (by kernel_rfl)) (fun _ _ _ h => h) (Or.inl ⟨by rfl, ?_⟩) ?_ ?_; rotate_left
       ·
        intro w'; go_simp
        with_reducible rfl
       rotate_left
       ·
        simp only [Act.put, sA_, sZ_, sS_, i64_w, i32_w]; rfl
       refine pure_ (i := 6) (N := some 19) (v := ?_) (a' := ?_) #[t_, t_, t_, t_, f_, t_, t_, f_, f_, f_, f_, f_, f_] rfl rfl (any_of HT_.out (by kernel_rfl)) (fun _ _ _ h => h) (Or.inl ⟨by rfl, ?_⟩) ?_ ?_; rotate_left
       ·
        intro w'; go_simp
        with_reducible rfl
       rotate_left
       ·
        simp only [Act.put, sA_, sZ_, sS_, i64_w, i32_w]; rfl
       refine pure_ (i := 7) (N := some 20) (v := ?_) (a' := ?_) #[t_, t_, t_, t_, f_, t_, t_, t_, f_, f_, f_, f_, f_] rfl rfl (any_of HT_.out (by kernel_rfl)) (fun _ _ _ h => h) (Or.inl ⟨by rfl, ?_⟩) ?_ ?_; rotate_left
       ·
        intro w'; go_simp
        with_reducible rfl
       rotate_left
       ·
        simp only [Act.put, sA_, sZ_, sS_, i64_w, i32_w]; rfl
       refine take_ (i := 4) (N := some 17) (v := ?_) (a' := ?_) #[t_, t_, t_, t_, t_, t_, t_, t_, f_, f_, f_, f_, f_] rfl rfl (take_ofW HT_.out HW_.out (by kernel_rfl)) (fun _ _ _ h => h) (Or.inl ⟨by rfl, ?_⟩) hHeld ?_ ?_; rotate_left
       ·
        rintro w' ⟨s0, s1⟩
        go_simp
        with_reducible rfl
       rotate_left
       ·
        simp only [Act.put, sA_, sZ_, sS_, i64_w, i32_w]; rfl
       refine take_ (i := 8) (N := some 21) (v := ?_) (a' := ?_) #[t_, t_, t_, t_, t_, t_, t_, t_, t_, f_, f_, f_, f_] rfl rfl (take_ofW HT_.out HW_.out (by kernel_rfl)) (fun _ _ _ h => h) (Or.inl ⟨by rfl, ?_⟩) hHeld ?_ ?_; rotate_left
       ·
        rintro w' ⟨s0, s1⟩
        go_simp
        with_reducible rfl
       rotate_left
       ·
        simp only [Act.put, sA_, sZ_, sS_, i64_w, i32_w]; rfl
       refine pure_ (i := 9) (N := some 22) (v := ?_) (a' := ?_) #[t_, t_, t_, t_, t_, t_, t_, t_, t_, t_, f_, f_, f_] rfl rfl (any_of HT_.out (by kernel_rfl)) (fun _ _ _ h => h) (Or.inl ⟨by rfl, ?_⟩) ?_ ?_; rotate_left
       ·
        intro w'; go_simp
        with_reducible rfl
       rotate_left
       ·
        simp only [Act.put, sA_, sZ_, sS_, i64_w, i32_w]; rfl
       refine one_ (i := 10) (N := some 23) #[t_, t_, t_, t_, t_, t_, t_, t_, t_, t_, t_, f_, f_] rfl rfl (one_of HT_.out (by kernel_rfl)) (by decide) (fun K hK => ?_); refine value_ (w1 := ?_) (v := ?_) (by rfl) rfl ?_ ?_; rotate_left 2
       ·
        go_simp
        constructor
        ·
         rfl
        ·
         rfl
       refine hK.out _ _ ⟨(World.cell?_alloc_lt _ _ _ (World.block_lt_of_cell? _ _ (((HB.out.cell (World.block_lt_of_cell? w _ hw122_0)).trans hw122_0)))).trans (((HB.out.cell (World.block_lt_of_cell? w _ hw122_0)).trans hw122_0)), (World.cell?_alloc_lt _ _ _ (World.block_lt_of_cell? _ _ (((HB.out.cell (World.block_lt_of_cell? w _ hw123_0)).trans hw123_0)))).trans (((HB.out.cell (World.block_lt_of_cell? w _ hw123_0)).trans hw123_0))⟩ (fun hHeld => ?_); clear hK K; refine norm_ (a' := ?_) ?_ ?_; rotate_left
       ·
        show Act.put _ (some 23) _ = _
        simp only [Act.put, sA_, sZ_, sS_, i64_w, i32_w]; rfl
       refine one_ (i := 11) (N := some 24) #[t_, t_, t_, t_, t_, t_, t_, t_, t_, t_, t_, t_, f_] rfl rfl (one_of HT_.out (by kernel_rfl)) (by decide) (fun K hK => ?_); refine Kd.R_append_step (Kd.int .u8) (w0 := w) w.heap.size (by rfl) (.tmp 13) (.tmp 23) 23 5 (.int .u8 0) 1 rfl Tryd.underlying23 info5 rfl (by decide) (by omega) u5 x5_1 (Go.bits .xor .u8 (rd l0 x6_1) (rd l1 x6_1)) [.int .u8 (Go.bits .xor .u8 (rd l0 x6_1) (rd l1 x6_1))] (fun _ => True) (fun _ => False) rfl rfl ?aP (fun _ hk => hk.elim) ?aF ?aO ?aB ?aS ?aL ?_; (case aP => exact rfl); (case aB => exact (pH_ HB.out)); (case aF => exact (fun _ _ => trivial)); (case aO => exact (pL_ HO_5.out)); (case aS => exact (below_size (pH_ HB.out))); (case aL => have := LMc6.out; omega); intro v125 w8 ho hb hg hat; rw [← Ny124.out] at ho; have n0_ := Aside0.mk (hb); have n1_ := Aside0.mk (ho); clear HB; clear HO_5; have HB := n0_; have HO126 := n1_; clear n0_ n1_; clear ho hb hg hat; refine hK.out _ _ ⟨((HB.out.cell (World.block_lt_of_cell? w _ hw122_0)).trans hw122_0), ((HB.out.cell (World.block_lt_of_cell? w _ hw123_0)).trans hw123_0)⟩ (fun hHeld => ?_); clear hK K; refine norm_ (a' := ?_) ?_ ?_; rotate_left
       ·
        show Act.put _ (some 24) _ = _
        simp only [Act.put, sA_, sZ_, sS_, i64_w, i32_w]; rfl
       refine pure_ (i := 12) (N := some 5) (v := ?_) (a' := ?_) #[t_, t_, t_, t_, t_, t_, t_, t_, t_, t_, t_, t_, t_] rfl rfl (any_of HT_.out (by kernel_rfl)) (fun _ _ _ h => h) (Or.inl ⟨by rfl, ?_⟩) ?_ ?_; rotate_left
       ·
        intro w'; go_simp
        with_reducible rfl
       rotate_left
       ·
        simp only [Act.put, sA_, sZ_, sS_, i64_w, i32_w]; rfl
       refine done_ (done_of HT_.out (by kernel_rfl)) ?_
       try go_wp2
       go_roundg k1
       case measure => have := HK1.out; omega
       case rel => exact ⟨(y124), (wrap64 (x6_1 + 1)), (by first | rfl | (simp; done) | (simp [*]; done)), H', ⟨by have := HK1.out; omega⟩, ⟨pL_ HO126.out⟩, ⟨pH_ HB.out⟩⟩
      ·
       rw [if_neg c6] at H; exact absurd H (by simp)
     ·
      rw [if_neg c5] at H; exact absurd H (by simp)
    ·
     rw [if_neg c4] at H; exact absurd H (by simp)
   ·
    rw [if_neg c3] at H; have c3b0 : decide (x6_1 < (l0.length : Int)) = false := decide_eq_false c3; clear c3; obtain rfl := Option.some.inj H
    go_wp2
    go_ret
    exact ⟨_, by first | rfl | (simp [errW_none, errW_some] <;> rfl) | (simp [*, errW_none, errW_some] <;> rfl), by (with_reducible repeat (first | apply rA_ | apply rN_ | apply rD_)); exact HO_5.out, pH_ HB.out⟩

/-! ### bitloftref42_framed: function 49 -/
def bitloftref42_framed.l0 : Nat → Int → List Int → Option (List Int)
 | 0, _, _ => none
 | k + 1, x1, x5 => if (x5.length : Int) < (wrap64 (x1 + 2)) then (if x5.length < 140737488355328 then (bitloftref42_framed.l0 k x1 (x5 ++ [0])) else (none)) else (some x5)
def bitloftref42_framed.f (k : Nat) (l0 : List Int) (a1 : Int) : Option (List Int) := (some (([(wrap64 ((l0.length : Int) / 256)) % 256, (l0.length : Int) % 256] : List Int) : List Int)).bind fun y127 => (if y127.length + l0.length < 140737488355328 then (bitloftref42_framed.l0 k a1 (y127 ++ l0)) else (none))
theorem bitloftref42_framed.mono_l : ∀ k, (∀ y0 y1, LeO (bitloftref42_framed.l0 k y0 y1) (bitloftref42_framed.l0 (k + 1) y0 y1))
 | 0 => fun _ _ r h => by simp [bitloftref42_framed.l0] at h
 | k + 1 => by
  have ih0 := bitloftref42_framed.mono_l k
  ·
   intro y0 y1
   unfold bitloftref42_framed.l0
   repeat' first
   | (with_reducible exact ih0 _ _)
   | (with_reducible exact LeO.refl _)
   | (with_reducible exact LeO.none _)
   | (with_reducible refine LeO.ite ?_ ?_)
   | (with_reducible refine LeO.bind ?_ (fun _ => ?_))
   | exact ih0 _ _
   | exact LeO.none _
   | refine LeO.ite ?_ ?_
   | refine LeO.bind ?_ (fun _ => ?_)
theorem bitloftref42_framed.mono : ∀ a0 a1 k, LeO (bitloftref42_framed.f k a0 a1) (bitloftref42_framed.f (k + 1) a0 a1) := by
 intro a0 a1 k; have ih0 := bitloftref42_framed.mono_l k
 unfold bitloftref42_framed.f
 repeat' first
   | (with_reducible exact ih0 _ _)
   | (with_reducible exact LeO.refl _)
   | (with_reducible exact LeO.none _)
   | (with_reducible refine LeO.ite ?_ ?_)
   | (with_reducible refine LeO.bind ?_ (fun _ => ?_))
   | exact ih0 _ _
   | exact LeO.none _
   | refine LeO.ite ?_ ?_
   | refine LeO.bind ?_ (fun _ => ?_)
set_option maxHeartbeats 8000000 in
set_option maxRecDepth 100000 in
theorem bitloftref42_framed.calls (k : Nat) (A0 : Option Addr) (c0 : Nat) (l0 : List Int) (a1 : Int) (r : List Int) (w : World) (hr0 : Kd.C (Kd.int .u8) w A0 l0.length l0) (hc0 : l0.length ≤ c0) (h : bitloftref42_framed.f k l0 a1 = some r) :
  Calls Tryd.prog 49 #[.slice A0 l0.length c0, .int .i64 a1] w fun e w' => ∃ v0_ : Value, e = .returned (v0_) ∧ Kd.R (Kd.int .u8) 5 w' w.heap.size (fun _ => True) v0_ r ∧ Below w.heap.size w w' := by
 have HR0 := Aside0.mk hr0; have HC0 := Aside0.mk hc0; clear hr0 hc0; have HB := Aside0.mk (Below.refl w.heap.size w); have H : ((some (([(wrap64 ((l0.length : Int) / 256)) % 256, (l0.length : Int) % 256] : List Int) : List Int)).bind fun y127 => (if y127.length + l0.length < 140737488355328 then (bitloftref42_framed.l0 k a1 (y127 ++ l0)) else (none))) = some r := h; clear h; obtain ⟨y127, hy127⟩ : ∃ y_ : List Int, y_ = (([(wrap64 ((l0.length : Int) / 256)) % 256, (l0.length : Int) % 256] : List Int)) := ⟨_, rfl⟩
 replace H : (if y127.length + l0.length < 140737488355328 then (bitloftref42_framed.l0 k a1 (y127 ++ l0)) else (none)) = some r := by first | (rw [hy127]; with_reducible exact H) | (have H2_ := (Option.bind_some _ _).symm.trans H; rw [hy127]; with_reducible exact H2_) | (have H2_ := (Option.bind_some _ _).symm.trans H; with_reducible exact H2_) | with_reducible exact H | (rw [hy127]; exact H) | exact H
 have Ny127 := Aside0.mk hy127; clear hy127
 by_cases c3 : y127.length + l0.length < 140737488355328
 ·
  rw [if_pos c3] at H; have LMc3 := Aside0.mk c3; clear c3; obtain ⟨y130, hy130⟩ : ∃ y_ : List Int, y_ = (y127 ++ l0) := ⟨_, rfl⟩
  replace H : (bitloftref42_framed.l0 k a1 y130) = some r := by first | (rw [hy130]; with_reducible exact H) | (have H2_ := (Option.bind_some _ _).symm.trans H; rw [hy130]; with_reducible exact H2_) | (have H2_ := (Option.bind_some _ _).symm.trans H; with_reducible exact H2_) | with_reducible exact H | (rw [hy130]; exact H) | exact H
  have Ny130 := Aside0.mk hy130; clear hy130; have H' := Aside0.mk H; clear H
  go_enter Tryd.func49, Tryd.ntmps49
  go_wp2_with (first | ((with_reducible refine gate_dst (N := 14) rfl ?_); refine Kd.R_lit (Kd.int .u8) _ 5 ?hg (N := 14) ?hd (xs := ([(wrap64 ((l0.length : Int) / 256)) % 256, (l0.length : Int) % 256] : List Int)) (inner := [.int .u8 ((wrap64 ((l0.length : Int) / 256)) % 256), .int .u8 ((l0.length : Int) % 256)]) (ok := fun _ => True) (okp := fun _ => True) ?hr ?hp (fun _ hk => hk) trivial (Below.refl _ _) (Nat.le_refl _) (by simp) ?_; (case hd => rfl); (case hg => rfl); (case hr => first | (go_simp; done) | (go_simp; rfl)); (case hp => exact (Reps.one (show Kd.M (Kd.int .u8) _ _ _ ((wrap64 ((l0.length : Int) / 256)) % 256) [.int .u8 ((wrap64 ((l0.length : Int) / 256)) % 256)] from rfl) (Reps.one (show Kd.M (Kd.int .u8) _ _ _ ((l0.length : Int) % 256) [.int .u8 ((l0.length : Int) % 256)] from rfl) (Reps.none _ _)))); intro v128 w4 ho5 hb hg_ hnew_; clear hg_ hnew_; (first | rw [← Ny127.out] at ho5 | (simp only [Int.reduceToNat] at ho5; rw [← Ny127.out] at ho5)); have n0_ := Aside0.mk (Kd.R_lower ho5 (below_size (pH_ HB.out))); have n1_ := Aside0.mk (below_step (pH_ HB.out) hb); clear HB; have HO129 := n0_; have HB := n1_; clear n0_ n1_; clear hb ho5) | ((with_reducible refine gate_builtin (b := .append) (xs := #[.tmp 14, .tmp 15]) rfl ?_); at_builtin; refine Kd.R_append_rows (Kd.int .u8) (w0 := w) w.heap.size rfl (.tmp 14) (.tmp 15) 23 5 (.int .u8 0) 1 rfl Tryd.underlying23 info5 rfl (by decide) (by omega) v128 y127 l0 _ _ _ (fun _ => True) (fun _ => False) rfl rfl ?aO ?aR (fun _ _ h => h) (fun _ h => h.elim) ?aF ?aB ?aS ?aL ?_; (case aR => repeat (first | exact (Kd.C_below HR0.out HB.out) | (with_reducible refine Kd.C_alloc ?_ _) | (with_reducible refine Kd.C_drewN ?_ _) | (with_reducible refine Kd.C_drew ?_))); (case aB => exact (pH_ HB.out)); (case aF => exact (fun _ _ => trivial)); (case aO => exact (pL_ HO129.out)); (case aS => exact (below_size (pH_ HB.out))); (case aL => have := LMc3.out; omega); intro v131 w6 ho hb hg hat; (try simp only [Int.reduceToNat] at ho); rw [← Ny130.out] at ho; have n0_ := Aside0.mk (hb); have n1_ := Aside0.mk (ho); clear HB; clear HO129; have HB := n0_; have HO132 := n1_; clear n0_ n1_; clear ho hb hg hat))
  go_loopg [5] k (fun kq v5 w' => ∃ (x5_1 : List Int), Aside0 (bitloftref42_framed.l0 kq a1 x5_1 = some r) ∧ Aside0 (kq ≤ k) ∧ Aside0 (Kd.R (Kd.int .u8) 5 w' w.heap.size (fun _ => True) v5 x5_1) ∧ Aside0 (Below w.heap.size w w'))
  case atStart => exact ⟨(y130), H', ⟨Nat.le_refl _⟩, ⟨pL_ HO132.out⟩, ⟨pH_ HB.out⟩⟩
  case round =>
   clear H'
   try clear p2
   try clear c3
   try clear c4
   try clear p6
   obtain ⟨x5_1, HA, HK1, HO_5, HB⟩ := hrel
   cases gk with
   | zero => exact absurd HA.out (by simp [bitloftref42_framed.l0])
   | succ k1 =>
    have H := HA.out; clear HA; simp only [bitloftref42_framed.l0] at H
    by_cases c7 : (x5_1.length : Int) < (wrap64 (a1 + 2))
    ·
     rw [if_pos c7] at H; have c7b0 : decide ((x5_1.length : Int) < (wrap64 (a1 + 2))) = true := decide_eq_true c7; clear c7
     by_cases c8 : x5_1.length < 140737488355328
     ·
      rw [if_pos c8] at H; have LMc8 := Aside0.mk c8; clear c8; obtain ⟨y133, hy133⟩ : ∃ y_ : List Int, y_ = (x5_1 ++ [0]) := ⟨_, rfl⟩
      replace H : (bitloftref42_framed.l0 k1 a1 y133) = some r := by first | (rw [hy133]; with_reducible exact H) | (have H2_ := (Option.bind_some _ _).symm.trans H; rw [hy133]; with_reducible exact H2_) | (have H2_ := (Option.bind_some _ _).symm.trans H; with_reducible exact H2_) | with_reducible exact H | (rw [hy133]; exact H) | exact H
      have Ny133 := Aside0.mk hy133; clear hy133; have H' := Aside0.mk H; clear H; obtain ⟨Ao9, co9, eo9⟩ := Kd.R_slice HO_5.out
      subst eo9
      go_wp2_with (first | ((with_reducible refine gate_builtin (b := .append) (xs := #[.tmp 22, .tmp 23]) rfl ?_); at_builtin; refine Kd.R_append (Kd.int .u8) (w0 := w) w.heap.size rfl (.tmp 22) (.tmp 23) 23 5 (.int .u8 0) 1 rfl Tryd.underlying23 info5 rfl (by decide) (by omega) (.slice Ao9 x5_1.length co9) x5_1 0 [.int .u8 0] (fun _ => True) (fun _ => False) rfl rfl ?aP (fun _ hk => hk.elim) ?aF ?aO ?aB ?aS ?aL ?_; (case aP => exact rfl); (case aB => exact (pH_ HB.out)); (case aF => exact (fun _ _ => trivial)); (case aO => exact (pL_ HO_5.out)); (case aS => exact (below_size (pH_ HB.out))); (case aL => have := LMc8.out; omega); intro v134 w10 ho hb hg hat; (try simp only [Int.reduceToNat] at ho); rw [← Ny133.out] at ho; have n0_ := Aside0.mk (hb); have n1_ := Aside0.mk (ho); clear HB; clear HO_5; have HB := n0_; have HO135 := n1_; clear n0_ n1_; clear ho hb hg hat))
      go_roundg k1
      case measure => have := HK1.out; omega
      case rel => exact ⟨(y133), H', ⟨by have := HK1.out; omega⟩, ⟨pL_ HO135.out⟩, ⟨pH_ HB.out⟩⟩
     ·
      rw [if_neg c8] at H; exact absurd H (by simp)
    ·
     rw [if_neg c7] at H; have c7b0 : decide ((x5_1.length : Int) < (wrap64 (a1 + 2))) = false := decide_eq_false c7; clear c7; obtain rfl := Option.some.inj H; obtain ⟨Ao11, co11, eo11⟩ := Kd.R_slice HO_5.out
     subst eo11
     go_wp2
     go_ret
     exact ⟨_, by first | rfl | (simp [errW_none, errW_some] <;> rfl) | (simp [*, errW_none, errW_some] <;> rfl), by (with_reducible repeat (first | apply rA_ | apply rN_ | apply rD_)); exact HO_5.out, pH_ HB.out⟩
 ·
  rw [if_neg c3] at H; exact absurd H (by simp)

end Go.Proofs.YtejamobohmljfaaDoor.XParityMends
