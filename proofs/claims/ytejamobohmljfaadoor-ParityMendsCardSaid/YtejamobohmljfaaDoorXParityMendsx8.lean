-- Laid by a program of this session (wip/mkxprint.py, over the kit's print): Lean checks it.
import Derived.Test.YtejamobohmljfaaDoorXParityMendsx0
import Derived.Test.YtejamobohmljfaaDoorXParityMendsx1
import Derived.Test.YtejamobohmljfaaDoorXParityMendsx2
import Derived.Test.YtejamobohmljfaaDoorXParityMendsx3
import Derived.Test.YtejamobohmljfaaDoorXParityMendsx5
import Derived.Test.YtejamobohmljfaaDoorXParityMendsx7
namespace Go.Proofs.YtejamobohmljfaaDoor.XParityMends
open List (setIfInBounds_toArray set_cons_zero set_cons_succ)
open Go.RowKit Go.Proofs.YtejamobohmljfaaDoorW.PrintWords Go.Proofs.YtejamobohmljfaaDoorW.PrintLast Go.Proofs.YtejamobohmljfaaDoorW.PrintMore
attribute [local go_sem] max2_int min2_int max_two min_two max_three min_three max_four min_four   -- for this text's walks alone
set_option linter.unusedVariables false
set_option linter.unusedSimpArgs false

/-! ### bitloftlaw42_ParityMends: function 5 -/
mutual
def bitloftlaw42_ParityMends.j0 : Nat → List (List Int) → List Bool → Int → List (List Int) → Bool → Option (Bool)
 | 0, _, _, _, _, _ => none
 | k + 1, x0, x1, x2, x3, x27 => if x27 = true then (some true) else ((parity_Right.f k x0 x2 x3).bind fun bt258 => ((bitloftref42_Right.f k x0 x2 x3).bind fun bt260 => ((parity_Recover.f k x0 x1 x2 x3).bind fun bt262 => ((bitloftref42_Recover.f k x0 x1 x2 x3).bind fun bt266 => (if (bt258.1 == bt260.1) = true then (if bt258.2 = bt260.2 then ((bitloftref42_Same.f k bt262.1 bt266.1).bind fun t270 => (if t270 = true then (bitloftlaw42_ParityMends.j1 k (bt262.2 == bt266.2)) else (bitloftlaw42_ParityMends.j1 k false))) else (bitloftlaw42_ParityMends.j1 k false)) else (bitloftlaw42_ParityMends.j1 k false))))))
def bitloftlaw42_ParityMends.j1 : Nat → Bool → Option (Bool)
 | 0, _ => none
 | k + 1, x8 => some x8
end
def bitloftlaw42_ParityMends.f (k : Nat) (l0 : List (List Int)) (l1 : List Bool) (a2 : Int) (l3 : List (List Int)) : Option (Bool) := (bitloftref42_Great.f k l0).bind fun t256 => (if t256 = true then (bitloftlaw42_ParityMends.j0 k l0 l1 a2 l3 true) else ((bitloftref42_Great.f k l3).bind fun t257 => (if t257 = true then (bitloftlaw42_ParityMends.j0 k l0 l1 a2 l3 true) else (bitloftlaw42_ParityMends.j0 k l0 l1 a2 l3 (decide ((l1.length : Int) > 150))))))
theorem bitloftlaw42_ParityMends.mono_l : ∀ k, (∀ y0 y1 y2 y3 y4, LeO (bitloftlaw42_ParityMends.j0 k y0 y1 y2 y3 y4) (bitloftlaw42_ParityMends.j0 (k + 1) y0 y1 y2 y3 y4)) ∧ (∀ y0, LeO (bitloftlaw42_ParityMends.j1 k y0) (bitloftlaw42_ParityMends.j1 (k + 1) y0))
 | 0 => ⟨fun _ _ _ _ _ r h => by simp [bitloftlaw42_ParityMends.j0] at h, fun _ r h => by simp [bitloftlaw42_ParityMends.j1] at h⟩
 | k + 1 => by
  obtain ⟨ih0, ih1⟩ := bitloftlaw42_ParityMends.mono_l k; refine ⟨?_, ?_⟩
  ·
   intro y0 y1 y2 y3 y4
   unfold bitloftlaw42_ParityMends.j0
   repeat' first
   | (with_reducible exact ih0 _ _ _ _ _)
   | (with_reducible exact ih1 _)
   | (with_reducible exact bitloftref42_Great.mono _ _)
   | (with_reducible exact bitloftref42_Recover.mono _ _ _ _ _)
   | (with_reducible exact bitloftref42_Right.mono _ _ _ _)
   | (with_reducible exact bitloftref42_Same.mono _ _ _)
   | (with_reducible exact parity_Recover.mono _ _ _ _ _)
   | (with_reducible exact parity_Right.mono _ _ _ _)
   | (with_reducible exact LeO.refl _)
   | (with_reducible exact LeO.none _)
   | (with_reducible refine LeO.ite ?_ ?_)
   | (with_reducible refine LeO.bind ?_ (fun _ => ?_))
   | exact ih0 _ _ _ _ _
   | exact ih1 _
   | exact bitloftref42_Great.mono _ _
   | exact bitloftref42_Recover.mono _ _ _ _ _
   | exact bitloftref42_Right.mono _ _ _ _
   | exact bitloftref42_Same.mono _ _ _
   | exact parity_Recover.mono _ _ _ _ _
   | exact parity_Right.mono _ _ _ _
   | exact LeO.none _
   | refine LeO.ite ?_ ?_
   | refine LeO.bind ?_ (fun _ => ?_)
  ·
   intro y0
   unfold bitloftlaw42_ParityMends.j1
   repeat' first
   | (with_reducible exact ih0 _ _ _ _ _)
   | (with_reducible exact ih1 _)
   | (with_reducible exact bitloftref42_Great.mono _ _)
   | (with_reducible exact bitloftref42_Recover.mono _ _ _ _ _)
   | (with_reducible exact bitloftref42_Right.mono _ _ _ _)
   | (with_reducible exact bitloftref42_Same.mono _ _ _)
   | (with_reducible exact parity_Recover.mono _ _ _ _ _)
   | (with_reducible exact parity_Right.mono _ _ _ _)
   | (with_reducible exact LeO.refl _)
   | (with_reducible exact LeO.none _)
   | (with_reducible refine LeO.ite ?_ ?_)
   | (with_reducible refine LeO.bind ?_ (fun _ => ?_))
   | exact ih0 _ _ _ _ _
   | exact ih1 _
   | exact bitloftref42_Great.mono _ _
   | exact bitloftref42_Recover.mono _ _ _ _ _
   | exact bitloftref42_Right.mono _ _ _ _
   | exact bitloftref42_Same.mono _ _ _
   | exact parity_Recover.mono _ _ _ _ _
   | exact parity_Right.mono _ _ _ _
   | exact LeO.none _
   | refine LeO.ite ?_ ?_
   | refine LeO.bind ?_ (fun _ => ?_)
theorem bitloftlaw42_ParityMends.mono : ∀ a0 a1 a2 a3 k, LeO (bitloftlaw42_ParityMends.f k a0 a1 a2 a3) (bitloftlaw42_ParityMends.f (k + 1) a0 a1 a2 a3) := by
 intro a0 a1 a2 a3 k; obtain ⟨ih0, ih1⟩ := bitloftlaw42_ParityMends.mono_l k
 unfold bitloftlaw42_ParityMends.f
 repeat' first
   | (with_reducible exact ih0 _ _ _ _ _)
   | (with_reducible exact ih1 _)
   | (with_reducible exact bitloftref42_Great.mono _ _)
   | (with_reducible exact bitloftref42_Recover.mono _ _ _ _ _)
   | (with_reducible exact bitloftref42_Right.mono _ _ _ _)
   | (with_reducible exact bitloftref42_Same.mono _ _ _)
   | (with_reducible exact parity_Recover.mono _ _ _ _ _)
   | (with_reducible exact parity_Right.mono _ _ _ _)
   | (with_reducible exact LeO.refl _)
   | (with_reducible exact LeO.none _)
   | (with_reducible refine LeO.ite ?_ ?_)
   | (with_reducible refine LeO.bind ?_ (fun _ => ?_))
   | exact ih0 _ _ _ _ _
   | exact ih1 _
   | exact bitloftref42_Great.mono _ _
   | exact bitloftref42_Recover.mono _ _ _ _ _
   | exact bitloftref42_Right.mono _ _ _ _
   | exact bitloftref42_Same.mono _ _ _
   | exact parity_Recover.mono _ _ _ _ _
   | exact parity_Right.mono _ _ _ _
   | exact LeO.none _
   | refine LeO.ite ?_ ?_
   | refine LeO.bind ?_ (fun _ => ?_)
set_option maxHeartbeats 8000000 in
set_option maxRecDepth 100000 in
theorem bitloftlaw42_ParityMends.calls (k : Nat) (A0 : Option Addr) (c0 : Nat) (l0 : List (List Int)) (A1 : Option Addr) (c1 : Nat) (l1 : List Bool) (a2 : Int) (A3 : Option Addr) (c3 : Nat) (l3 : List (List Int)) (r : Bool) (w : World) (hr0 : Kd.C (Kd.slice 5 (Kd.int .u8)) w A0 l0.length l0) (hc0 : l0.length ≤ c0) (hr1 : Kd.C Kd.bool w A1 l1.length l1) (hc1 : l1.length ≤ c1) (hr3 : Kd.C (Kd.slice 5 (Kd.int .u8)) w A3 l3.length l3) (hc3 : l3.length ≤ c3) (hr_ : r = true) (h : bitloftlaw42_ParityMends.f k l0 l1 a2 l3 = some r) :
  Calls Tryd.prog 5 #[.slice A0 l0.length c0, .slice A1 l1.length c1, .int .i64 a2, .slice A3 l3.length c3] w fun e w' => e = .returned (.bool r) ∧ Below w.heap.size w w' := by
 have HRT_ := Aside0.mk hr_; clear hr_; have HR0 := Aside0.mk hr0; have HC0 := Aside0.mk hc0; clear hr0 hc0; have HR1 := Aside0.mk hr1; have HC1 := Aside0.mk hc1; clear hr1 hc1; have HR3 := Aside0.mk hr3; have HC3 := Aside0.mk hc3; clear hr3 hc3; have HB := Aside0.mk (Below.refl w.heap.size w); have H : ((bitloftref42_Great.f k l0).bind fun t256 => (if t256 = true then (bitloftlaw42_ParityMends.j0 k l0 l1 a2 l3 true) else ((bitloftref42_Great.f k l3).bind fun t257 => (if t257 = true then (bitloftlaw42_ParityMends.j0 k l0 l1 a2 l3 true) else (bitloftlaw42_ParityMends.j0 k l0 l1 a2 l3 (decide ((l1.length : Int) > 150))))))) = some r := h; clear h; have HC5 := Aside0.mk H; clear H
 go_enter Tryd.func5, Tryd.ntmps5
 go_upto_region 1 with (fail)
 (with_reducible first | refine then_id_ ?_ | (refine wp_tail_ ?_; intro Kt_ hKt_))
 go_cut [27] (fun v27 wc => ∃ (kq : Nat) (x27_4 : Bool), v27 = .bool x27_4 ∧ Aside0 (bitloftlaw42_ParityMends.j0 kq l0 l1 a2 l3 x27_4 = some r) ∧ Aside0 (kq ≤ k) ∧ Aside0 (Below w.heap.size w wc))
 case first =>
  have H := HC5.out; clear HC5; replace H := Option.bind_eq_some_iff.mp H; obtain ⟨t256, A60, H⟩ := H; replace H : (if t256 = true then (bitloftlaw42_ParityMends.j0 k l0 l1 a2 l3 true) else ((bitloftref42_Great.f k l3).bind fun t257 => (if t257 = true then (bitloftlaw42_ParityMends.j0 k l0 l1 a2 l3 true) else (bitloftlaw42_ParityMends.j0 k l0 l1 a2 l3 (decide ((l1.length : Int) > 150)))))) = some r := H; have A6 := Aside0.mk A60; clear A60
  by_cases c7 : t256 = true
  ·
   subst c7
   have H1 : (bitloftlaw42_ParityMends.j0 k l0 l1 a2 l3 true) = some r := by rw [if_pos rfl] at H; exact H
   clear H; have H := H1; clear H1; have H' := Aside0.mk H; clear H
   go_wp2_with (first | ((with_reducible refine gate_callee (f := 12) rfl ?_); refine gL_ (some 18) Tryd.func12 #[.slice A0 l0.length c0] ?_; (with_reducible refine (bitloftref42_Great.calls k _ _ l0 true _ ?side1 ?side2 A6.out).mono ?_); (case side1 => repeat (first | exact (Kd.C_below HR0.out HB.out) | (with_reducible refine Kd.C_alloc ?_ _) | (with_reducible refine Kd.C_drewN ?_ _) | (with_reducible refine Kd.C_drew ?_))); (case side2 => exact HC0.out); rintro e w' ⟨rfl, ⟨nd, rfl⟩⟩; refine ⟨_, rfl, ?_⟩))
   go_meet
   case rel => exact ⟨_, (true), (by first | rfl | (simp; done) | (simp [*]; done)), H', ⟨by first | omega | exact Nat.le_refl _⟩, ⟨pH_ HB.out⟩⟩
  ·
   replace c7 := Bool.eq_false_iff.mpr c7
   subst c7
   have H1 : ((bitloftref42_Great.f k l3).bind fun t257 => (if t257 = true then (bitloftlaw42_ParityMends.j0 k l0 l1 a2 l3 true) else (bitloftlaw42_ParityMends.j0 k l0 l1 a2 l3 (decide ((l1.length : Int) > 150))))) = some r := by rw [if_neg (show ¬ (false = true) by decide)] at H; exact H
   clear H; have H := H1; clear H1; replace H := Option.bind_eq_some_iff.mp H; obtain ⟨t257, A80, H⟩ := H; replace H : (if t257 = true then (bitloftlaw42_ParityMends.j0 k l0 l1 a2 l3 true) else (bitloftlaw42_ParityMends.j0 k l0 l1 a2 l3 (decide ((l1.length : Int) > 150)))) = some r := H; have A8 := Aside0.mk A80; clear A80
   by_cases c9 : t257 = true
   ·
    subst c9
    have H1 : (bitloftlaw42_ParityMends.j0 k l0 l1 a2 l3 true) = some r := by rw [if_pos rfl] at H; exact H
    clear H; have H := H1; clear H1; have H' := Aside0.mk H; clear H
    go_wp2_with (first | ((with_reducible refine gate_callee (f := 12) rfl ?_); refine gL_ (some 18) Tryd.func12 #[.slice A0 l0.length c0] ?_; (with_reducible refine (bitloftref42_Great.calls k _ _ l0 false _ ?side1 ?side2 A6.out).mono ?_); (case side1 => repeat (first | exact (Kd.C_below HR0.out HB.out) | (with_reducible refine Kd.C_alloc ?_ _) | (with_reducible refine Kd.C_drewN ?_ _) | (with_reducible refine Kd.C_drew ?_))); (case side2 => exact HC0.out); rintro e w' ⟨rfl, ⟨nd, rfl⟩⟩; refine ⟨_, rfl, ?_⟩) | (go_at_call 12; (with_reducible refine (bitloftref42_Great.calls k _ _ l3 true _ ?side1 ?side2 A8.out).mono ?_); (case side1 => repeat (first | exact (Kd.C_below HR3.out (pH_ HB.out)) | (with_reducible refine Kd.C_alloc ?_ _) | (with_reducible refine Kd.C_drewN ?_ _) | (with_reducible refine Kd.C_drew ?_))); (case side2 => exact HC3.out); rintro e w' ⟨rfl, ⟨nd, rfl⟩⟩))
    go_meet
    case rel => exact ⟨_, (true), (by first | rfl | (simp; done) | (simp [*]; done)), H', ⟨by first | omega | exact Nat.le_refl _⟩, ⟨pH_ HB.out⟩⟩
   ·
    replace c9 := Bool.eq_false_iff.mpr c9
    subst c9
    have H1 : (bitloftlaw42_ParityMends.j0 k l0 l1 a2 l3 (decide ((l1.length : Int) > 150))) = some r := by rw [if_neg (show ¬ (false = true) by decide)] at H; exact H
    clear H; have H := H1; clear H1; have H' := Aside0.mk H; clear H
    go_wp2_with (first | ((with_reducible refine gate_callee (f := 12) rfl ?_); refine gL_ (some 18) Tryd.func12 #[.slice A0 l0.length c0] ?_; (with_reducible refine (bitloftref42_Great.calls k _ _ l0 false _ ?side1 ?side2 A6.out).mono ?_); (case side1 => repeat (first | exact (Kd.C_below HR0.out HB.out) | (with_reducible refine Kd.C_alloc ?_ _) | (with_reducible refine Kd.C_drewN ?_ _) | (with_reducible refine Kd.C_drew ?_))); (case side2 => exact HC0.out); rintro e w' ⟨rfl, ⟨nd, rfl⟩⟩; refine ⟨_, rfl, ?_⟩) | (go_at_call 12; (with_reducible refine (bitloftref42_Great.calls k _ _ l3 false _ ?side1 ?side2 A8.out).mono ?_); (case side1 => repeat (first | exact (Kd.C_below HR3.out (pH_ HB.out)) | (with_reducible refine Kd.C_alloc ?_ _) | (with_reducible refine Kd.C_drewN ?_ _) | (with_reducible refine Kd.C_drew ?_))); (case side2 => exact HC3.out); rintro e w' ⟨rfl, ⟨nd, rfl⟩⟩))
    go_meet
    case rel => exact ⟨_, (decide ((l1.length : Int) > 150)), (by first | rfl | (simp; done) | (simp [*]; done)), H', ⟨by first | omega | exact Nat.le_refl _⟩, ⟨pH_ HB.out⟩⟩
 case rest =>
  (try (refine hKt_ _ _ ?_; clear hKt_; clear Kt_)); clear HC5
  try clear c1
  try clear p2
  try clear c3
  try clear c5
  try clear c7
  try clear c9
  obtain ⟨kq, x27_4, rfl, HA, HJ4, HB⟩ := hcut
  cases kq with
  | zero => exact absurd HA.out (by simp [bitloftlaw42_ParityMends.j0])
  | succ kj4 =>
   have H := HA.out; clear HA; simp only [bitloftlaw42_ParityMends.j0] at H
   by_cases c10 : x27_4 = true
   ·
    subst c10
    have H1 : (some true) = some r := by rw [if_pos rfl] at H; exact H
    clear H; have H := H1; clear H1; obtain rfl := Option.some.inj H
    go_wp2
    go_ret
    exact ⟨by first | rfl | (simp [errW_none, errW_some] <;> rfl) | (simp [*, errW_none, errW_some] <;> rfl), pH_ HB.out⟩
   ·
    replace c10 := Bool.eq_false_iff.mpr c10
    subst c10
    have H1 : ((parity_Right.f kj4 l0 a2 l3).bind fun bt258 => ((bitloftref42_Right.f kj4 l0 a2 l3).bind fun bt260 => ((parity_Recover.f kj4 l0 l1 a2 l3).bind fun bt262 => ((bitloftref42_Recover.f kj4 l0 l1 a2 l3).bind fun bt266 => (if (bt258.1 == bt260.1) = true then (if bt258.2 = bt260.2 then ((bitloftref42_Same.f kj4 bt262.1 bt266.1).bind fun t270 => (if t270 = true then (bitloftlaw42_ParityMends.j1 kj4 (bt262.2 == bt266.2)) else (bitloftlaw42_ParityMends.j1 kj4 false))) else (bitloftlaw42_ParityMends.j1 kj4 false)) else (bitloftlaw42_ParityMends.j1 kj4 false)))))) = some r := by rw [if_neg (show ¬ (false = true) by decide)] at H; exact H
    clear H; have H := H1; clear H1; replace H := Option.bind_eq_some_iff.mp H; obtain ⟨⟨t258, t259⟩, A110, H⟩ := H; replace H : ((bitloftref42_Right.f kj4 l0 a2 l3).bind fun bt260 => ((parity_Recover.f kj4 l0 l1 a2 l3).bind fun bt262 => ((bitloftref42_Recover.f kj4 l0 l1 a2 l3).bind fun bt266 => (if (t258 == bt260.1) = true then (if t259 = bt260.2 then ((bitloftref42_Same.f kj4 bt262.1 bt266.1).bind fun t270 => (if t270 = true then (bitloftlaw42_ParityMends.j1 kj4 (bt262.2 == bt266.2)) else (bitloftlaw42_ParityMends.j1 kj4 false))) else (bitloftlaw42_ParityMends.j1 kj4 false)) else (bitloftlaw42_ParityMends.j1 kj4 false))))) = some r := H; have A11 := Aside0.mk A110; clear A110; replace H := Option.bind_eq_some_iff.mp H; obtain ⟨⟨t260, t261⟩, A120, H⟩ := H; replace H : ((parity_Recover.f kj4 l0 l1 a2 l3).bind fun bt262 => ((bitloftref42_Recover.f kj4 l0 l1 a2 l3).bind fun bt266 => (if (t258 == t260) = true then (if t259 = t261 then ((bitloftref42_Same.f kj4 bt262.1 bt266.1).bind fun t270 => (if t270 = true then (bitloftlaw42_ParityMends.j1 kj4 (bt262.2 == bt266.2)) else (bitloftlaw42_ParityMends.j1 kj4 false))) else (bitloftlaw42_ParityMends.j1 kj4 false)) else (bitloftlaw42_ParityMends.j1 kj4 false)))) = some r := H; have A12 := Aside0.mk A120; clear A120; replace H := Option.bind_eq_some_iff.mp H; obtain ⟨⟨t262, t265⟩, A130, H⟩ := H; replace H : ((bitloftref42_Recover.f kj4 l0 l1 a2 l3).bind fun bt266 => (if (t258 == t260) = true then (if t259 = t261 then ((bitloftref42_Same.f kj4 t262 bt266.1).bind fun t270 => (if t270 = true then (bitloftlaw42_ParityMends.j1 kj4 (t265 == bt266.2)) else (bitloftlaw42_ParityMends.j1 kj4 false))) else (bitloftlaw42_ParityMends.j1 kj4 false)) else (bitloftlaw42_ParityMends.j1 kj4 false))) = some r := H; have A13 := Aside0.mk A130; clear A130; replace H := Option.bind_eq_some_iff.mp H; obtain ⟨⟨t266, t267⟩, A140, H⟩ := H; replace H : (if (t258 == t260) = true then (if t259 = t261 then ((bitloftref42_Same.f kj4 t262 t266).bind fun t270 => (if t270 = true then (bitloftlaw42_ParityMends.j1 kj4 (t265 == t267)) else (bitloftlaw42_ParityMends.j1 kj4 false))) else (bitloftlaw42_ParityMends.j1 kj4 false)) else (bitloftlaw42_ParityMends.j1 kj4 false)) = some r := H; have A14 := Aside0.mk A140; clear A140; have HC15 := Aside0.mk H; clear H
    go_upto_region 7 with (first | ((with_reducible refine gate_callee (f := 13) rfl ?_); refine gL_ (some 32) Tryd.func13 #[.slice A0 l0.length c0, .int .i64 a2, .slice A3 l3.length c3] ?_; (with_reducible refine (parity_Right.calls kj4 _ _ l0 a2 _ _ l3 t258 t259 _ ?side1 ?side2 ?side3 ?side4 A11.out).mono ?_); (case side1 => repeat (first | exact (Kd.C_below HR0.out HB.out) | (with_reducible refine Kd.C_alloc ?_ _) | (with_reducible refine Kd.C_drewN ?_ _) | (with_reducible refine Kd.C_drew ?_))); (case side2 => exact HC0.out); (case side3 => repeat (first | exact (Kd.C_below HR3.out HB.out) | (with_reducible refine Kd.C_alloc ?_ _) | (with_reducible refine Kd.C_drewN ?_ _) | (with_reducible refine Kd.C_drew ?_))); (case side4 => exact HC3.out); rintro e w16 ⟨rfl, hb⟩; refine ⟨_, rfl, ?_⟩; have n0_ := Aside0.mk (below_step (pH_ HB.out) hb); clear HB; have HB := n0_; clear n0_; (try clear hb)) | ((with_reducible refine gate_callee (f := 14) rfl ?_); refine gL_ (some 39) Tryd.func14 #[.slice A0 l0.length c0, .int .i64 a2, .slice A3 l3.length c3] ?_; (with_reducible refine (bitloftref42_Right.calls kj4 _ _ l0 a2 _ _ l3 t260 t261 _ ?side1 ?side2 ?side3 ?side4 A12.out).mono ?_); (case side1 => repeat (first | exact (Kd.C_below HR0.out HB.out) | (with_reducible refine Kd.C_alloc ?_ _) | (with_reducible refine Kd.C_drewN ?_ _) | (with_reducible refine Kd.C_drew ?_))); (case side2 => exact HC0.out); (case side3 => repeat (first | exact (Kd.C_below HR3.out HB.out) | (with_reducible refine Kd.C_alloc ?_ _) | (with_reducible refine Kd.C_drewN ?_ _) | (with_reducible refine Kd.C_drew ?_))); (case side4 => exact HC3.out); rintro e w17 ⟨rfl, hb⟩; refine ⟨_, rfl, ?_⟩; have n0_ := Aside0.mk (below_step (pH_ HB.out) hb); clear HB; have HB := n0_; clear n0_; (try clear hb)) | ((with_reducible refine gate_callee (f := 15) rfl ?_); refine gL_ (some 47) Tryd.func15 #[.slice A0 l0.length c0, .slice A1 l1.length c1, .int .i64 a2, .slice A3 l3.length c3] ?_; (with_reducible refine (parity_Recover.calls kj4 (fun k_ => k_ < w.heap.size) _ _ l0 _ _ l1 a2 _ _ l3 t262 t265 _ ?side1 ?side2 ?side3 ?side4 ?side5 A13.out).mono ?_); (case side1 => exact Kd.V_mk HC0.out (Kd.F_below (Kd.C_F (Kd.heap_slice 5 (Kd.heap_int .u8)) HR0.out) (pH_ HB.out))); (case side2 => repeat (first | exact (Kd.C_below HR1.out HB.out) | (with_reducible refine Kd.C_alloc ?_ _) | (with_reducible refine Kd.C_drewN ?_ _) | (with_reducible refine Kd.C_drew ?_))); (case side3 => exact HC1.out); (case side4 => repeat (first | exact (Kd.C_below HR3.out HB.out) | (with_reducible refine Kd.C_alloc ?_ _) | (with_reducible refine Kd.C_drewN ?_ _) | (with_reducible refine Kd.C_drew ?_))); (case side5 => exact HC3.out); rintro e w18 ⟨v263, rfl, ho0, hb⟩; refine ⟨_, rfl, ?_⟩; have n0_ := Aside0.mk (Kd.N_lower (Kd.N_mono (ok' := fun k_ => True) ho0 (fun k_ hk_ => trivial)) (below_size (pH_ HB.out))); have n1_ := Aside0.mk (below_step (pH_ HB.out) hb); clear HB; have HO264 := n0_; have HB := n1_; clear n0_ n1_; (try clear hb); (try clear ho0)) | ((with_reducible refine gate_callee (f := 16) rfl ?_); refine gL_ (some 55) Tryd.func16 #[.slice A0 l0.length c0, .slice A1 l1.length c1, .int .i64 a2, .slice A3 l3.length c3] ?_; (with_reducible refine (bitloftref42_Recover.calls kj4 _ _ l0 _ _ l1 a2 _ _ l3 t266 t267 _ ?side1 ?side2 ?side3 ?side4 ?side5 ?side6 A14.out).mono ?_); (case side1 => repeat (first | exact (Kd.C_below HR0.out HB.out) | (with_reducible refine Kd.C_alloc ?_ _) | (with_reducible refine Kd.C_drewN ?_ _) | (with_reducible refine Kd.C_drew ?_))); (case side2 => exact HC0.out); (case side3 => repeat (first | exact (Kd.C_below HR1.out HB.out) | (with_reducible refine Kd.C_alloc ?_ _) | (with_reducible refine Kd.C_drewN ?_ _) | (with_reducible refine Kd.C_drew ?_))); (case side4 => exact HC1.out); (case side5 => repeat (first | exact (Kd.C_below HR3.out HB.out) | (with_reducible refine Kd.C_alloc ?_ _) | (with_reducible refine Kd.C_drewN ?_ _) | (with_reducible refine Kd.C_drew ?_))); (case side6 => exact HC3.out); rintro e w19 ⟨v268, rfl, ho0, hb⟩; refine ⟨_, rfl, ?_⟩; have n0_ := Aside0.mk (Kd.N_elder' (by (with_reducible repeat (first | apply Kd.N_alloc | apply Kd.N_drewN | apply Kd.N_drew)); exact HO264.out) (by first | exact Kd.N_base ho0 | exact Kd.N_base (Kd.S_N ho0)) hb); have n1_ := Aside0.mk (Kd.N_lower (Kd.N_mono (ok' := fun k_ => nO_ k_ v263) (Kd.S_N (Kd.S_bound ho0)) (fun k_ hk_ => (Kd.fresh' (Kd.N_lt (by (with_reducible repeat (first | apply Kd.N_alloc | apply Kd.N_drewN | apply Kd.N_drew)); exact HO264.out)) k_ hk_.2.1))) (below_size (pH_ HB.out))); have n2_ := Aside0.mk (below_step (pH_ HB.out) hb); clear HO264; clear HB; have HO264 := n0_; have HO269 := n1_; have HB := n2_; clear n0_ n1_ n2_; (try clear hb); (try clear ho0)))
    (try simp only [Act.put, sA_, sZ_, sS_]); (with_reducible first | refine then_id_ ?_ | (refine wp_tail_ ?_; intro Kt_ hKt_))
    go_cut [8] (fun v8 wc => ∃ (kq : Nat) (x8_14 : Bool), v8 = .bool x8_14 ∧ Aside0 (bitloftlaw42_ParityMends.j1 kq x8_14 = some r) ∧ Aside0 (kq ≤ kj4) ∧ Aside0 (Below w.heap.size w wc))
    case first =>
     have H := HC15.out; clear HC15
     by_cases c20 : (t258 == t260) = true
     ·
      rw [if_pos c20] at H; have c20b0 : (t258 == t260) = true := c20; (try (have c20b1 : decide (t258 = t260) = true := by simpa using c20)); (try (have c20b2 : (t258 == t260) = true := by simpa using c20)); clear c20; (first | rw [c20b0] | (simp only [i64_w, i32_w]; rw [c20b0]) | skip)
      by_cases c21 : t259 = t261
      ·
       rw [if_pos c21] at H; have c21b0 : (t259 == t261) = true := beq_iff_eq.mpr c21; have c21b1 : (t259 != t261) = false := bne_eq_false_iff_eq.mpr c21; clear c21; replace H := Option.bind_eq_some_iff.mp H; obtain ⟨t270, A220, H⟩ := H; replace H : (if t270 = true then (bitloftlaw42_ParityMends.j1 kj4 (t265 == t267)) else (bitloftlaw42_ParityMends.j1 kj4 false)) = some r := H; have A22 := Aside0.mk A220; clear A220
       by_cases c23 : t270 = true
       ·
        subst c23
        have H1 : (bitloftlaw42_ParityMends.j1 kj4 (t265 == t267)) = some r := by rw [if_pos rfl] at H; exact H
        clear H; have H := H1; clear H1; have H' := Aside0.mk H; clear H; obtain ⟨Ao24, co24, eo24⟩ := Kd.N_slice HO264.out
        subst eo24
        obtain ⟨Ao25, co25, eo25⟩ := Kd.N_slice HO269.out
        subst eo25
        go_wp2_with (first | (go_at_call 17; (with_reducible refine (bitloftref42_Same.calls kj4 _ _ t262 _ _ t266 true _ ?side1 ?side2 ?side3 ?side4 A22.out).mono ?_); (case side1 => repeat (first | exact (Kd.N_reads' HO264.out).2.2 | (with_reducible refine Kd.C_alloc ?_ _) | (with_reducible refine Kd.C_drewN ?_ _) | (with_reducible refine Kd.C_drew ?_))); (case side2 => exact (Kd.N_reads' HO264.out).2.1); (case side3 => repeat (first | exact (Kd.N_reads' HO269.out).2.2 | (with_reducible refine Kd.C_alloc ?_ _) | (with_reducible refine Kd.C_drewN ?_ _) | (with_reducible refine Kd.C_drew ?_))); (case side4 => exact (Kd.N_reads' HO269.out).2.1); rintro e w' ⟨rfl, ⟨nd, rfl⟩⟩))
        (first | go_meet | (refine Met.intro ?_; go_step; (repeat apply Exists.intro); refine ⟨?rel, ?eqf_⟩; case eqf_ => ((simp only [c21b0, c20b0]) <;> rfl)))
        case rel => exact ⟨_, ((t265 == t267)), (by first | rfl | (simp; done) | (simp [*]; done)), H', ⟨by have := HJ4.out; first | omega | exact Nat.le_refl _⟩, ⟨pH_ HB.out⟩⟩
       ·
        replace c23 := Bool.eq_false_iff.mpr c23
        subst c23
        have H1 : (bitloftlaw42_ParityMends.j1 kj4 false) = some r := by rw [if_neg (show ¬ (false = true) by decide)] at H; exact H
        clear H; have H := H1; clear H1; exact absurd (H.trans (congrArg some HRT_.out)) (by first | (simp; done) | (generalize kj4 = k_; cases k_ <;> simp [bitloftlaw42_ParityMends.j0, bitloftlaw42_ParityMends.j1]))
      ·
       rw [if_neg c21] at H; have c21b0 : (t259 == t261) = false := beq_eq_false_iff_ne.mpr c21; have c21b1 : (t259 != t261) = true := bne_iff_ne.mpr c21; exact absurd (H.trans (congrArg some HRT_.out)) (by first | (simp; done) | (generalize kj4 = k_; cases k_ <;> simp [bitloftlaw42_ParityMends.j0, bitloftlaw42_ParityMends.j1]))
     ·
      rw [if_neg c20] at H
      have c20b0 : (t258 == t260) = false := by simpa using c20
      (try (have c20b1 : decide (t258 = t260) = false := by simpa using c20)); (try (have c20b2 : (t258 == t260) = false := by simpa using c20)); (try (have c20b3 : ¬ (t258 = t260) := by simpa using c20)); clear c20; (first | rw [c20b0] | (simp only [i64_w, i32_w]; rw [c20b0]) | skip); exact absurd (H.trans (congrArg some HRT_.out)) (by first | (simp; done) | (generalize kj4 = k_; cases k_ <;> simp [bitloftlaw42_ParityMends.j0, bitloftlaw42_ParityMends.j1]))
    case rest =>
     (try (refine hKt_ _ _ ?_; clear hKt_; clear Kt_)); clear HC15
     try clear c1
     try clear c2
     try clear p2
     try clear c3
     try clear c5
     try clear c7
     try clear c9
     try clear c10
     try clear c12
     try clear c13
     try clear c14
     try clear c15
     try clear c16
     try clear c20
     try clear c20b0
     try clear c20b1
     try clear c20b2
     try clear c21
     try clear c21b0
     try clear c21b1
     try clear c23
     try clear p2
     obtain ⟨kq, x8_14, rfl, HA, HJ14, HB⟩ := hcut
     cases kq with
     | zero => exact absurd HA.out (by simp [bitloftlaw42_ParityMends.j1])
     | succ kj14 =>
      have H := HA.out; clear HA; simp only [bitloftlaw42_ParityMends.j1] at H; obtain rfl := Option.some.inj H
      go_wp2
      go_ret
      exact ⟨by first | rfl | (simp [errW_none, errW_some] <;> rfl) | (simp [*, errW_none, errW_some] <;> rfl), pH_ HB.out⟩

/-- The one plain statement of bitloftlaw42_ParityMends. -/
def bitloftlaw42_ParityMends.Pure : Prop := ∀ (l0 : List (List Int)) (l1 : List Bool) (a2 : Int) (l3 : List (List Int)), l0.length ≤ maxLen → (∀ x_ ∈ l0, (fun l_ : List Int => l_.length ≤ maxLen ∧ ∀ x_ ∈ l_, (fun n_ : Int => (Lit.int .u8 n_).wf = true) x_) x_) → l1.length ≤ maxLen → (∀ x_ ∈ l1, (fun _ : Bool => True) x_) → (Lit.int .i64 a2).wf = true → l3.length ≤ maxLen → (∀ x_ ∈ l3, (fun l_ : List Int => l_.length ≤ maxLen ∧ ∀ x_ ∈ l_, (fun n_ : Int => (Lit.int .u8 n_).wf = true) x_) x_) → ∃ k, bitloftlaw42_ParityMends.f k l0 l1 a2 l3 = some true

end Go.Proofs.YtejamobohmljfaaDoor.XParityMends
