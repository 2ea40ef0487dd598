-- Laid by a program of this session (wip/mkxprint.py, over the kit's print): Lean checks it.
import Derived.Test.YtejamobohmljfaaDoorXParityMendsx0
import Derived.Test.YtejamobohmljfaaDoorXParityMendsx2
namespace Go.Proofs.YtejamobohmljfaaDoor.XParityMends
open List (setIfInBounds_toArray set_cons_zero set_cons_succ)
open Go.RowKit Go.Proofs.YtejamobohmljfaaDoorW.PrintWords Go.Proofs.YtejamobohmljfaaDoorW.PrintLast Go.Proofs.YtejamobohmljfaaDoorW.PrintMore
attribute [local go_sem] max2_int min2_int max_two min_two max_three min_three max_four min_four   -- for this text's walks alone
set_option linter.unusedVariables false
set_option linter.unusedSimpArgs false

/-! ### bitloftref42_Groups: function 30 -/
def bitloftref42_Groups.f (a0 : Int) (a1 : Int) : Option (Int) := if a1 = 0 then (none) else (some (wrap64 (Int.tdiv (wrap64 ((wrap64 (a0 + a1)) - 1)) a1)))
set_option maxHeartbeats 8000000 in
set_option maxRecDepth 100000 in
theorem bitloftref42_Groups.calls (a0 : Int) (a1 : Int) (r : Int) (w : World) (h : bitloftref42_Groups.f a0 a1 = some r) :
    Calls Tryd.prog 30 #[.int .i64 a0, .int .i64 a1] w fun e w' => e = .returned (.int .i64 r) ∧ Drawn0 w w' := by
  have H : (if a1 = 0 then (none) else (some (wrap64 (Int.tdiv (wrap64 ((wrap64 (a0 + a1)) - 1)) a1)))) = some r := h
  clear h
  by_cases c3 : a1 = 0
  · rw [if_pos c3] at H
    exact absurd H (by simp)
  · rw [if_neg c3] at H
    have c3b0 : (a1 == 0) = false := beq_eq_false_iff_ne.mpr c3
    have c3b1 : (a1 != 0) = true := bne_iff_ne.mpr c3
    obtain rfl := Option.some.inj H
    go_enter Tryd.func30, Tryd.ntmps30
    go_wp2
    go_ret
    exact ⟨by first | rfl | (simp; done) | (simp [*]; done), by repeat (first | exact Drawn0.refl _ | apply Drawn0.step)⟩

/-! ### bitloftref42_gone: function 31 -/
def bitloftref42_gone.l0 : Nat → List Bool → Int → List Int → Int → Option (List Int)
 | 0, _, _, _, _ => none
 | k + 1, x0, x2, x7, x8 => if x8 < x2 then (if 0 ≤ x8 then (if x8 < (x0.length : Int) then (if rdOf false x0 x8 = true then (if x7.length < 17592186044416 then (bitloftref42_gone.l0 k x0 x2 (x7 ++ [x8]) (wrap64 (x8 + 1))) else (none)) else (bitloftref42_gone.l0 k x0 x2 x7 (wrap64 (x8 + 1)))) else (none)) else (none)) else (some x7)
def bitloftref42_gone.f (k : Nat) (l0 : List Bool) (a1 : Int) (a2 : Int) : Option (List Int) := bitloftref42_gone.l0 k l0 a2 ([] : List Int) a1
theorem bitloftref42_gone.mono_l : ∀ k, (∀ y0 y1 y2 y3, LeO (bitloftref42_gone.l0 k y0 y1 y2 y3) (bitloftref42_gone.l0 (k + 1) y0 y1 y2 y3))
 | 0 => fun _ _ _ _ r h => by simp [bitloftref42_gone.l0] at h
 | k + 1 => by
  have ih0 := bitloftref42_gone.mono_l k
  ·
   intro y0 y1 y2 y3
   unfold bitloftref42_gone.l0
   repeat' first
   | (with_reducible exact ih0 _ _ _ _)
   | (with_reducible exact LeO.refl _)
   | (with_reducible exact LeO.none _)
   | (with_reducible refine LeO.ite ?_ ?_)
   | (with_reducible refine LeO.bind ?_ (fun _ => ?_))
   | exact ih0 _ _ _ _
   | exact LeO.none _
   | refine LeO.ite ?_ ?_
   | refine LeO.bind ?_ (fun _ => ?_)
theorem bitloftref42_gone.mono : ∀ a0 a1 a2 k, LeO (bitloftref42_gone.f k a0 a1 a2) (bitloftref42_gone.f (k + 1) a0 a1 a2) := by
 intro a0 a1 a2 k; have ih0 := bitloftref42_gone.mono_l k
 unfold bitloftref42_gone.f
 repeat' first
   | (with_reducible exact ih0 _ _ _ _)
   | (with_reducible exact LeO.refl _)
   | (with_reducible exact LeO.none _)
   | (with_reducible refine LeO.ite ?_ ?_)
   | (with_reducible refine LeO.bind ?_ (fun _ => ?_))
   | exact ih0 _ _ _ _
   | exact LeO.none _
   | refine LeO.ite ?_ ?_
   | refine LeO.bind ?_ (fun _ => ?_)
set_option maxHeartbeats 8000000 in
set_option maxRecDepth 100000 in
theorem bitloftref42_gone.calls (k : Nat) (A0 : Option Addr) (c0 : Nat) (l0 : List Bool) (a1 : Int) (a2 : Int) (r : List Int) (w : World) (hr0 : Kd.C Kd.bool w A0 l0.length l0) (hc0 : l0.length ≤ c0) (h : bitloftref42_gone.f k l0 a1 a2 = some r) :
  Calls Tryd.prog 31 #[.slice A0 l0.length c0, .int .i64 a1, .int .i64 a2] w fun e w' => ∃ v0_ : Value, e = .returned (v0_) ∧ Kd.R (Kd.int .i64) 3 w' w.heap.size (fun _ => True) v0_ r ∧ Below w.heap.size w w' := by
 have HR0 := Aside0.mk hr0; have HC0 := Aside0.mk hc0; clear hr0 hc0; have HB := Aside0.mk (Below.refl w.heap.size w); have H : (bitloftref42_gone.l0 k l0 a2 ([] : List Int) a1) = some r := h; clear h; have H' := Aside0.mk H; clear H
 go_enter Tryd.func31, Tryd.ntmps31
 go_wp2
 go_loopg [7, 8] k (fun kq v7 v8 w' => ∃ (x7_1 : List Int) (x8_1 : Int), v8 = .int .i64 x8_1 ∧ Aside0 (bitloftref42_gone.l0 kq l0 a2 x7_1 x8_1 = some r) ∧ Aside0 (kq ≤ k) ∧ Aside0 (Kd.R (Kd.int .i64) 3 w' w.heap.size (fun _ => True) v7 x7_1) ∧ Aside0 (Below w.heap.size w w'))
 case atStart => exact ⟨(([] : List Int)), (a1), (by first | rfl | (simp; done) | (simp [*]; done)), H', ⟨Nat.le_refl _⟩, ⟨by first | exact Kd.R_nil _ _ _ _ _ | exact Kd.N_nil _ _ _ _ _ | exact Kd.V_nil _ _ _ _ _ | exact Kd.Q_nil _ _ _ _ _ | exact Kd.S_nil _ _ _ _ _⟩, ⟨pH_ HB.out⟩⟩
 case round =>
  clear H'
  try clear p2
  try clear c3
  obtain ⟨x7_1, x8_1, rfl, HA, HK1, HO_7, HB⟩ := hrel
  cases gk with
  | zero => exact absurd HA.out (by simp [bitloftref42_gone.l0])
  | succ k1 =>
   have H := HA.out; clear HA; simp only [bitloftref42_gone.l0] at H
   by_cases c4 : x8_1 < a2
   ·
    rw [if_pos c4] at H; have c4b0 : decide (x8_1 < a2) = true := decide_eq_true c4; clear c4
    by_cases c5 : 0 ≤ x8_1
    ·
     rw [if_pos c5] at H; have c5b0 : decide (0 ≤ x8_1) = true := decide_eq_true c5; clear c5
     by_cases c6 : x8_1 < (l0.length : Int)
     ·
      rw [if_pos c6] at H; have c6b0 : decide (x8_1 < (l0.length : Int)) = true := decide_eq_true c6; clear c6; obtain ⟨bq7, hbq7⟩ : ∃ b_ : Bool, b_ = (rdOf false l0 x8_1) := ⟨_, rfl⟩
      replace H : (if bq7 = true then (if x7_1.length < 17592186044416 then (bitloftref42_gone.l0 k1 l0 a2 (x7_1 ++ [x8_1]) (wrap64 (x8_1 + 1))) else (none)) else (bitloftref42_gone.l0 k1 l0 a2 x7_1 (wrap64 (x8_1 + 1)))) = some r := by rw [← hbq7] at H; exact H
      have Nbq7 := Aside0.mk hbq7; clear hbq7
      by_cases c8 : bq7 = true
      ·
       subst c8
       have H1 : (if x7_1.length < 17592186044416 then (bitloftref42_gone.l0 k1 l0 a2 (x7_1 ++ [x8_1]) (wrap64 (x8_1 + 1))) else (none)) = some r := by rw [if_pos rfl] at H; exact H
       clear H; have H := H1; clear H1
       by_cases c9 : x7_1.length < 17592186044416
       ·
        rw [if_pos c9] at H; have LMc9 := Aside0.mk c9; clear c9; obtain ⟨y193, hy193⟩ : ∃ y_ : List Int, y_ = (x7_1 ++ [x8_1]) := ⟨_, rfl⟩
        replace H : (bitloftref42_gone.l0 k1 l0 a2 y193 (wrap64 (x8_1 + 1))) = some r := by first | (rw [hy193]; with_reducible exact H) | (have H2_ := (Option.bind_some _ _).symm.trans H; rw [hy193]; with_reducible exact H2_) | (have H2_ := (Option.bind_some _ _).symm.trans H; with_reducible exact H2_) | with_reducible exact H | (rw [hy193]; exact H) | exact H
        have Ny193 := Aside0.mk hy193; clear hy193; have H' := Aside0.mk H; clear H; have p192 : 0 ≤ (x8_1 : Int) := of_decide_eq_true (by first | (with_reducible assumption) | assumption); have q192 : x8_1 < (l0.length : Int) := of_decide_eq_true (by first | (with_reducible assumption) | assumption); obtain ⟨ad192, e192, hx192_0⟩ := Kd.at_bool HR0.out x8_1 p192 q192; (try rw [← Nbq7.out] at hx192_0)
        cases e192
        replace hx192_0 := (HB.out.cell (World.block_lt_of_cell? w _ hx192_0)).trans hx192_0; replace p192 := eq_true p192; replace q192 := eq_true q192
        go_wp2_with (first | ((with_reducible refine gate_builtin (b := .append) (xs := #[.tmp 19, .tmp 21]) rfl ?_); at_builtin; refine Kd.R_append (Kd.int .i64) (w0 := w) w.heap.size rfl (.tmp 19) (.tmp 21) 44 3 (.int .i64 0) 8 rfl Tryd.underlying44 info3 rfl (by decide) (by omega) u7 x7_1 x8_1 [.int .i64 x8_1] (fun _ => True) (fun _ => False) rfl rfl ?aP (fun _ hk => hk.elim) ?aF ?aO ?aB ?aS ?aL ?_; (case aP => exact rfl); (case aB => exact (pH_ HB.out)); (case aF => exact (fun _ _ => trivial)); (case aO => exact (pL_ HO_7.out)); (case aS => exact (below_size (pH_ HB.out))); (case aL => have := LMc9.out; omega); intro v194 w10 ho hb hg hat; (try simp only [Int.reduceToNat] at ho); rw [← Ny193.out] at ho; have n0_ := Aside0.mk (hb); have n1_ := Aside0.mk (ho); clear HB; clear HO_7; have HB := n0_; have HO195 := n1_; clear n0_ n1_; clear ho hb hg hat))
        go_roundg k1
        case measure => have := HK1.out; omega
        case rel => exact ⟨(y193), (wrap64 (x8_1 + 1)), (by first | rfl | (simp; done) | (simp [*]; done)), H', ⟨by have := HK1.out; omega⟩, ⟨pL_ HO195.out⟩, ⟨pH_ HB.out⟩⟩
       ·
        rw [if_neg c9] at H; exact absurd H (by simp)
      ·
       replace c8 := Bool.eq_false_iff.mpr c8
       subst c8
       have H1 : (bitloftref42_gone.l0 k1 l0 a2 x7_1 (wrap64 (x8_1 + 1))) = some r := by rw [if_neg (show ¬ (false = true) by decide)] at H; exact H
       clear H; have H := H1; clear H1; have H' := Aside0.mk H; clear H; have p192 : 0 ≤ (x8_1 : Int) := of_decide_eq_true (by first | (with_reducible assumption) | assumption); have q192 : x8_1 < (l0.length : Int) := of_decide_eq_true (by first | (with_reducible assumption) | assumption); obtain ⟨ad192, e192, hx192_0⟩ := Kd.at_bool HR0.out x8_1 p192 q192; (try rw [← Nbq7.out] at hx192_0)
       cases e192
       replace hx192_0 := (HB.out.cell (World.block_lt_of_cell? w _ hx192_0)).trans hx192_0; replace p192 := eq_true p192; replace q192 := eq_true q192
       go_wp2
       go_roundg k1
       case measure => have := HK1.out; omega
       case rel => exact ⟨(x7_1), (wrap64 (x8_1 + 1)), (by first | rfl | (simp; done) | (simp [*]; done)), H', ⟨by have := HK1.out; omega⟩, ⟨pL_ HO_7.out⟩, ⟨pH_ HB.out⟩⟩
     ·
      rw [if_neg c6] at H; exact absurd H (by simp)
    ·
     rw [if_neg c5] at H; exact absurd H (by simp)
   ·
    rw [if_neg c4] at H; have c4b0 : decide (x8_1 < a2) = false := decide_eq_false c4; clear c4; obtain rfl := Option.some.inj H
    go_wp2
    go_ret
    exact ⟨_, by first | rfl | (simp [errW_none, errW_some] <;> rfl) | (simp [*, errW_none, errW_some] <;> rfl), by (with_reducible repeat (first | apply rA_ | apply rN_ | apply rD_)); exact HO_7.out, pH_ HB.out⟩

/-! ### bitloftref42_Repair: function 32 -/
mutual
def bitloftref42_Repair.j0 : Nat → List (List Int) → Int → List Int → Bool → Option (List Int × Int)
 | 0, _, _, _, _ => none
 | k + 1, x0, x1, x2, x19 => if x19 = true then (some (([] : List Int), 4)) else (if x1 < 0 then (bitloftref42_Repair.j1 k x0 x1 x2 true) else (bitloftref42_Repair.j1 k x0 x1 x2 (decide (x1 ≥ (x0.length : Int)))))
def bitloftref42_Repair.j1 : Nat → List (List Int) → Int → List Int → Bool → Option (List Int × Int)
 | 0, _, _, _, _ => none
 | k + 1, x0, x1, x2, x27 => if x27 = true then (some (([] : List Int), 2)) else (if (x2.length : Int) < 2 then (bitloftref42_Repair.j2 k x0 x1 x2 true) else (bitloftref42_Repair.j2 k x0 x1 x2 (decide ((x2.length : Int) > 5002))))
def bitloftref42_Repair.j2 : Nat → List (List Int) → Int → List Int → Bool → Option (List Int × Int)
 | 0, _, _, _, _ => none
 | k + 1, x0, x1, x2, x35 => if x35 = true then (some (([] : List Int), 12)) else ((some (([] : List Int) : List Int)).bind fun y197 => (if y197.length + x2.length < 140737488355328 then (bitloftref42_Repair.l0 k x0 x1 x2 (y197 ++ x2) 0) else (none)))
def bitloftref42_Repair.l0 : Nat → List (List Int) → Int → List Int → List Int → Int → Option (List Int × Int)
 | 0, _, _, _, _, _ => none
 | k + 1, x0, x1, x2, x8, x9 => if x9 < (x0.length : Int) then (if x9 = x1 then (bitloftref42_Repair.l0 k x0 x1 x2 x8 (wrap64 (x9 + 1))) else (if 0 ≤ x9 then (if ((rd_L1 x0 x9).length : Int) > (wrap64 ((x2.length : Int) - 2)) then (some (([] : List Int), 12)) else ((bitloftref42_framed.f k (rd_L1 x0 x9) (wrap64 ((x2.length : Int) - 2))).bind fun t205 => ((bitloftref42_mixed.f k x8 t205).bind fun t208 => (bitloftref42_Repair.l0 k x0 x1 x2 t208 (wrap64 (x9 + 1)))))) else (none))) else (if 0 < (x8.length : Int) then (if 1 < (x8.length : Int) then (if (wrap64 ((wrap64 (256 * (wrap64 (rd x8 0)))) + (wrap64 (rd x8 1)))) > (wrap64 ((x2.length : Int) - 2)) then (some (([] : List Int), 12)) else (bitloftref42_Repair.l1 k x8 (wrap64 ((wrap64 (256 * (wrap64 (rd x8 0)))) + (wrap64 (rd x8 1)))) (wrap64 ((wrap64 ((wrap64 (256 * (wrap64 (rd x8 0)))) + (wrap64 (rd x8 1)))) + 2)))) else (none)) else (none))
def bitloftref42_Repair.l1 : Nat → List Int → Int → Int → Option (List Int × Int)
 | 0, _, _, _ => none
 | k + 1, x8, x10, x11 => if x11 < (x8.length : Int) then (if 0 ≤ x11 then (if (rd x8 x11) = 0 then (bitloftref42_Repair.l1 k x8 x10 (wrap64 (x11 + 1))) else (some (([] : List Int), 12))) else (none)) else ((some (([] : List Int) : List Int)).bind fun y214 => (if 2 ≤ (wrap64 (x10 + 2)) then (if (wrap64 (x10 + 2)) ≤ (x8.length : Int) then ((some ((x8.take ((wrap64 (x10 + 2)) : Int).toNat).drop 2 : List Int)).bind fun y217 => (if y214.length + y217.length < 140737488355328 then (some ((y214 ++ y217), 0)) else (none))) else (none)) else (none)))
end
def bitloftref42_Repair.f (k : Nat) (l0 : List (List Int)) (a1 : Int) (l2 : List Int) : Option (List Int × Int) := if (l0.length : Int) > 16 then (bitloftref42_Repair.j0 k l0 a1 l2 true) else ((bitloftref42_long.f k l0 a1).bind fun t196 => (bitloftref42_Repair.j0 k l0 a1 l2 t196))
theorem bitloftref42_Repair.mono_l : ∀ k, (∀ y0 y1 y2 y3, LeO (bitloftref42_Repair.j0 k y0 y1 y2 y3) (bitloftref42_Repair.j0 (k + 1) y0 y1 y2 y3)) ∧ (∀ y0 y1 y2 y3, LeO (bitloftref42_Repair.j1 k y0 y1 y2 y3) (bitloftref42_Repair.j1 (k + 1) y0 y1 y2 y3)) ∧ (∀ y0 y1 y2 y3, LeO (bitloftref42_Repair.j2 k y0 y1 y2 y3) (bitloftref42_Repair.j2 (k + 1) y0 y1 y2 y3)) ∧ (∀ y0 y1 y2 y3 y4, LeO (bitloftref42_Repair.l0 k y0 y1 y2 y3 y4) (bitloftref42_Repair.l0 (k + 1) y0 y1 y2 y3 y4)) ∧ (∀ y0 y1 y2, LeO (bitloftref42_Repair.l1 k y0 y1 y2) (bitloftref42_Repair.l1 (k + 1) y0 y1 y2))
 | 0 => ⟨fun _ _ _ _ r h => by simp [bitloftref42_Repair.j0] at h, fun _ _ _ _ r h => by simp [bitloftref42_Repair.j1] at h, fun _ _ _ _ r h => by simp [bitloftref42_Repair.j2] at h, fun _ _ _ _ _ r h => by simp [bitloftref42_Repair.l0] at h, fun _ _ _ r h => by simp [bitloftref42_Repair.l1] at h⟩
 | k + 1 => by
  obtain ⟨ih0, ih1, ih2, ih3, ih4⟩ := bitloftref42_Repair.mono_l k; refine ⟨?_, ?_, ?_, ?_, ?_⟩
  ·
   intro y0 y1 y2 y3
   unfold bitloftref42_Repair.j0
   repeat' first
   | (with_reducible exact ih0 _ _ _ _)
   | (with_reducible exact ih1 _ _ _ _)
   | (with_reducible exact ih2 _ _ _ _)
   | (with_reducible exact ih3 _ _ _ _ _)
   | (with_reducible exact ih4 _ _ _)
   | (with_reducible exact bitloftref42_framed.mono _ _ _)
   | (with_reducible exact bitloftref42_long.mono _ _ _)
   | (with_reducible exact bitloftref42_mixed.mono _ _ _)
   | (with_reducible exact LeO.refl _)
   | (with_reducible exact LeO.none _)
   | (with_reducible refine LeO.ite ?_ ?_)
   | (with_reducible refine LeO.bind ?_ (fun _ => ?_))
   | exact ih0 _ _ _ _
   | exact ih1 _ _ _ _
   | exact ih2 _ _ _ _
   | exact ih3 _ _ _ _ _
   | exact ih4 _ _ _
   | exact bitloftref42_framed.mono _ _ _
   | exact bitloftref42_long.mono _ _ _
   | exact bitloftref42_mixed.mono _ _ _
   | exact LeO.none _
   | refine LeO.ite ?_ ?_
   | refine LeO.bind ?_ (fun _ => ?_)
  ·
   intro y0 y1 y2 y3
   unfold bitloftref42_Repair.j1
   repeat' first
   | (with_reducible exact ih0 _ _ _ _)
   | (with_reducible exact ih1 _ _ _ _)
   | (with_reducible exact ih2 _ _ _ _)
   | (with_reducible exact ih3 _ _ _ _ _)
   | (with_reducible exact ih4 _ _ _)
   | (with_reducible exact bitloftref42_framed.mono _ _ _)
   | (with_reducible exact bitloftref42_long.mono _ _ _)
   | (with_reducible exact bitloftref42_mixed.mono _ _ _)
   | (with_reducible exact LeO.refl _)
   | (with_reducible exact LeO.none _)
   | (with_reducible refine LeO.ite ?_ ?_)
   | (with_reducible refine LeO.bind ?_ (fun _ => ?_))
   | exact ih0 _ _ _ _
   | exact ih1 _ _ _ _
   | exact ih2 _ _ _ _
   | exact ih3 _ _ _ _ _
   | exact ih4 _ _ _
   | exact bitloftref42_framed.mono _ _ _
   | exact bitloftref42_long.mono _ _ _
   | exact bitloftref42_mixed.mono _ _ _
   | exact LeO.none _
   | refine LeO.ite ?_ ?_
   | refine LeO.bind ?_ (fun _ => ?_)
  ·
   intro y0 y1 y2 y3
   unfold bitloftref42_Repair.j2
   repeat' first
   | (with_reducible exact ih0 _ _ _ _)
   | (with_reducible exact ih1 _ _ _ _)
   | (with_reducible exact ih2 _ _ _ _)
   | (with_reducible exact ih3 _ _ _ _ _)
   | (with_reducible exact ih4 _ _ _)
   | (with_reducible exact bitloftref42_framed.mono _ _ _)
   | (with_reducible exact bitloftref42_long.mono _ _ _)
   | (with_reducible exact bitloftref42_mixed.mono _ _ _)
   | (with_reducible exact LeO.refl _)
   | (with_reducible exact LeO.none _)
   | (with_reducible refine LeO.ite ?_ ?_)
   | (with_reducible refine LeO.bind ?_ (fun _ => ?_))
   | exact ih0 _ _ _ _
   | exact ih1 _ _ _ _
   | exact ih2 _ _ _ _
   | exact ih3 _ _ _ _ _
   | exact ih4 _ _ _
   | exact bitloftref42_framed.mono _ _ _
   | exact bitloftref42_long.mono _ _ _
   | exact bitloftref42_mixed.mono _ _ _
   | exact LeO.none _
   | refine LeO.ite ?_ ?_
   | refine LeO.bind ?_ (fun _ => ?_)
  ·
   intro y0 y1 y2 y3 y4
   unfold bitloftref42_Repair.l0
   repeat' first
   | (with_reducible exact ih0 _ _ _ _)
   | (with_reducible exact ih1 _ _ _ _)
   | (with_reducible exact ih2 _ _ _ _)
   | (with_reducible exact ih3 _ _ _ _ _)
   | (with_reducible exact ih4 _ _ _)
   | (with_reducible exact bitloftref42_framed.mono _ _ _)
   | (with_reducible exact bitloftref42_long.mono _ _ _)
   | (with_reducible exact bitloftref42_mixed.mono _ _ _)
   | (with_reducible exact LeO.refl _)
   | (with_reducible exact LeO.none _)
   | (with_reducible refine LeO.ite ?_ ?_)
   | (with_reducible refine LeO.bind ?_ (fun _ => ?_))
   | exact ih0 _ _ _ _
   | exact ih1 _ _ _ _
   | exact ih2 _ _ _ _
   | exact ih3 _ _ _ _ _
   | exact ih4 _ _ _
   | exact bitloftref42_framed.mono _ _ _
   | exact bitloftref42_long.mono _ _ _
   | exact bitloftref42_mixed.mono _ _ _
   | exact LeO.none _
   | refine LeO.ite ?_ ?_
   | refine LeO.bind ?_ (fun _ => ?_)
  ·
   intro y0 y1 y2
   unfold bitloftref42_Repair.l1
   repeat' first
   | (with_reducible exact ih0 _ _ _ _)
   | (with_reducible exact ih1 _ _ _ _)
   | (with_reducible exact ih2 _ _ _ _)
   | (with_reducible exact ih3 _ _ _ _ _)
   | (with_reducible exact ih4 _ _ _)
   | (with_reducible exact bitloftref42_framed.mono _ _ _)
   | (with_reducible exact bitloftref42_long.mono _ _ _)
   | (with_reducible exact bitloftref42_mixed.mono _ _ _)
   | (with_reducible exact LeO.refl _)
   | (with_reducible exact LeO.none _)
   | (with_reducible refine LeO.ite ?_ ?_)
   | (with_reducible refine LeO.bind ?_ (fun _ => ?_))
   | exact ih0 _ _ _ _
   | exact ih1 _ _ _ _
   | exact ih2 _ _ _ _
   | exact ih3 _ _ _ _ _
   | exact ih4 _ _ _
   | exact bitloftref42_framed.mono _ _ _
   | exact bitloftref42_long.mono _ _ _
   | exact bitloftref42_mixed.mono _ _ _
   | exact LeO.none _
   | refine LeO.ite ?_ ?_
   | refine LeO.bind ?_ (fun _ => ?_)
theorem bitloftref42_Repair.mono : ∀ a0 a1 a2 k, LeO (bitloftref42_Repair.f k a0 a1 a2) (bitloftref42_Repair.f (k + 1) a0 a1 a2) := by
 intro a0 a1 a2 k; obtain ⟨ih0, ih1, ih2, ih3, ih4⟩ := bitloftref42_Repair.mono_l k
 unfold bitloftref42_Repair.f
 repeat' first
   | (with_reducible exact ih0 _ _ _ _)
   | (with_reducible exact ih1 _ _ _ _)
   | (with_reducible exact ih2 _ _ _ _)
   | (with_reducible exact ih3 _ _ _ _ _)
   | (with_reducible exact ih4 _ _ _)
   | (with_reducible exact bitloftref42_framed.mono _ _ _)
   | (with_reducible exact bitloftref42_long.mono _ _ _)
   | (with_reducible exact bitloftref42_mixed.mono _ _ _)
   | (with_reducible exact LeO.refl _)
   | (with_reducible exact LeO.none _)
   | (with_reducible refine LeO.ite ?_ ?_)
   | (with_reducible refine LeO.bind ?_ (fun _ => ?_))
   | exact ih0 _ _ _ _
   | exact ih1 _ _ _ _
   | exact ih2 _ _ _ _
   | exact ih3 _ _ _ _ _
   | exact ih4 _ _ _
   | exact bitloftref42_framed.mono _ _ _
   | exact bitloftref42_long.mono _ _ _
   | exact bitloftref42_mixed.mono _ _ _
   | exact LeO.none _
   | refine LeO.ite ?_ ?_
   | refine LeO.bind ?_ (fun _ => ?_)
set_option maxHeartbeats 8000000 in
set_option maxRecDepth 100000 in
theorem bitloftref42_Repair.calls (k : Nat) (A0 : Option Addr) (c0 : Nat) (l0 : List (List Int)) (a1 : Int) (A2 : Option Addr) (c2 : Nat) (l2 : List Int) (r1 : List Int) (r2 : Int) (w : World) (hr0 : Kd.C (Kd.slice 5 (Kd.int .u8)) w A0 l0.length l0) (hc0 : l0.length ≤ c0) (hr2 : Kd.C (Kd.int .u8) w A2 l2.length l2) (hc2 : l2.length ≤ c2) (h : bitloftref42_Repair.f k l0 a1 l2 = some (r1, r2)) :
  Calls Tryd.prog 32 #[.slice A0 l0.length c0, .int .i64 a1, .slice A2 l2.length c2] w fun e w' => ∃ v0_ : Value, e = .returned (.tuple #[v0_, .int .i64 r2]) ∧ Kd.R (Kd.int .u8) 5 w' w.heap.size (fun _ => True) v0_ r1 ∧ Below w.heap.size w w' := by
 have HR0 := Aside0.mk hr0; have HC0 := Aside0.mk hc0; clear hr0 hc0; have HR2 := Aside0.mk hr2; have HC2 := Aside0.mk hc2; clear hr2 hc2; have HB := Aside0.mk (Below.refl w.heap.size w); have H : (if (l0.length : Int) > 16 then (bitloftref42_Repair.j0 k l0 a1 l2 true) else ((bitloftref42_long.f k l0 a1).bind fun t196 => (bitloftref42_Repair.j0 k l0 a1 l2 t196))) = some (r1, r2) := h; clear h; have HC4 := Aside0.mk H; clear H
 go_enter Tryd.func32, Tryd.ntmps32
 go_upto_region 1 with (fail)
 repeat (go_quiet (fail); go_upto_region 1 with (fail))
 (with_reducible first | refine then_id_ ?_ | (refine wp_tail_ ?_; intro Kt_ hKt_))
 go_cut [19] (fun v19 wc => ∃ (kq : Nat) (x19_3 : Bool), v19 = .bool x19_3 ∧ Aside0 (bitloftref42_Repair.j0 kq l0 a1 l2 x19_3 = some (r1, r2)) ∧ Aside0 (kq ≤ k) ∧ Aside0 (Below w.heap.size w wc))
 case first =>
  have H := HC4.out; clear HC4
  by_cases c5 : (l0.length : Int) > 16
  ·
   rw [if_pos c5] at H; have c5b0 : decide (16 < (l0.length : Int)) = true := decide_eq_true c5; have c5b1 : decide (16 < l0.length) = true := decide_eq_true (by omega); clear c5; (first | rw [c5b0] | (simp only [i64_w, i32_w]; rw [c5b0]) | skip); have H' := Aside0.mk H; clear H
   go_wp2
   repeat (go_quiet (fail); try go_wp2)
   (first | go_meet | (refine Met.intro ?_; go_step; (repeat apply Exists.intro); refine ⟨?rel, ?eqf_⟩; case eqf_ => ((simp only [c5b0]) <;> rfl)))
   case rel => exact ⟨_, (true), (by first | rfl | (simp; done) | (simp [*]; done)), H', ⟨by first | omega | exact Nat.le_refl _⟩, ⟨pH_ HB.out⟩⟩
  ·
   rw [if_neg c5] at H; have c5b0 : decide (16 < (l0.length : Int)) = false := decide_eq_false c5; have c5b1 : decide (16 < l0.length) = false := decide_eq_false (by omega); clear c5; (first | rw [c5b0] | (simp only [i64_w, i32_w]; rw [c5b0]) | skip); replace H := Option.bind_eq_some_iff.mp H; obtain ⟨t196, A60, H⟩ := H; replace H : (bitloftref42_Repair.j0 k l0 a1 l2 t196) = some (r1, r2) := H; have A6 := Aside0.mk A60; clear A60; have H' := Aside0.mk H; clear H
   go_wp2_with (first | (go_at_call 33; (with_reducible refine (bitloftref42_long.calls k _ _ l0 a1 t196 _ ?side1 ?side2 A6.out).mono ?_); (case side1 => repeat (first | exact (Kd.C_below HR0.out HB.out) | (with_reducible refine Kd.C_alloc ?_ _) | (with_reducible refine Kd.C_drewN ?_ _) | (with_reducible refine Kd.C_drew ?_))); (case side2 => exact HC0.out); rintro e w' ⟨rfl, ⟨nd, rfl⟩⟩; (try first | exact ⟨rfl, _, World.drewN_drewN _ _ _⟩ | exact ⟨rfl, _, Eq.trans (World.drewN_drewN _ _ _) (congrArg (World.drewN _) (Nat.add_assoc _ _ _))⟩)))
   repeat (go_quiet (first | (go_at_call 33; (with_reducible refine (bitloftref42_long.calls k _ _ l0 a1 t196 _ ?side1 ?side2 A6.out).mono ?_); (case side1 => repeat (first | exact (Kd.C_below HR0.out HB.out) | (with_reducible refine Kd.C_alloc ?_ _) | (with_reducible refine Kd.C_drewN ?_ _) | (with_reducible refine Kd.C_drew ?_))); (case side2 => exact HC0.out); rintro e w' ⟨rfl, ⟨nd, rfl⟩⟩; (try first | exact ⟨rfl, _, World.drewN_drewN _ _ _⟩ | exact ⟨rfl, _, Eq.trans (World.drewN_drewN _ _ _) (congrArg (World.drewN _) (Nat.add_assoc _ _ _))⟩))); try go_wp2_with (first | (go_at_call 33; (with_reducible refine (bitloftref42_long.calls k _ _ l0 a1 t196 _ ?side1 ?side2 A6.out).mono ?_); (case side1 => repeat (first | exact (Kd.C_below HR0.out HB.out) | (with_reducible refine Kd.C_alloc ?_ _) | (with_reducible refine Kd.C_drewN ?_ _) | (with_reducible refine Kd.C_drew ?_))); (case side2 => exact HC0.out); rintro e w' ⟨rfl, ⟨nd, rfl⟩⟩; (try first | exact ⟨rfl, _, World.drewN_drewN _ _ _⟩ | exact ⟨rfl, _, Eq.trans (World.drewN_drewN _ _ _) (congrArg (World.drewN _) (Nat.add_assoc _ _ _))⟩))))
   (first | go_meet | (refine Met.intro ?_; go_step; (repeat apply Exists.intro); refine ⟨?rel, ?eqf_⟩; case eqf_ => ((simp only [c5b0]) <;> rfl)))
   case rel => exact ⟨_, (t196), (by first | rfl | (simp; done) | (simp [*]; done)), H', ⟨by first | omega | exact Nat.le_refl _⟩, ⟨pH_ HB.out⟩⟩
 case rest =>
  (try (refine hKt_ _ _ ?_; clear hKt_; clear Kt_)); clear HC4
  try clear c2
  try clear p2
  try clear c3
  try clear c5
  try clear c5b0
  try clear c5b1
  obtain ⟨kq, x19_3, rfl, HA, HJ3, HB⟩ := hcut
  cases kq with
  | zero => exact absurd HA.out (by simp [bitloftref42_Repair.j0])
  | succ kj3 =>
   have H := HA.out; clear HA; simp only [bitloftref42_Repair.j0] at H
   by_cases c7 : x19_3 = true
   ·
    subst c7
    have H1 : (some (([] : List Int), 4)) = some (r1, r2) := by rw [if_pos rfl] at H; exact H
    clear H; have H := H1; clear H1; simp only [Option.some.injEq, Prod.mk.injEq] at H; obtain ⟨rfl, rfl⟩ := H
    go_wp2
    repeat (go_quiet (fail); try go_wp2)
    go_ret2
    exact ⟨_, by first | rfl | (simp [errW_none, errW_some] <;> rfl) | (simp [*, errW_none, errW_some] <;> rfl), by first | exact Kd.R_nil _ _ _ _ _ | exact Kd.N_nil _ _ _ _ _ | exact Kd.V_nil _ _ _ _ _ | exact Kd.Q_nil _ _ _ _ _ | exact Kd.S_nil _ _ _ _ _, pH_ HB.out⟩
   ·
    replace c7 := Bool.eq_false_iff.mpr c7
    subst c7
    have H1 : (if a1 < 0 then (bitloftref42_Repair.j1 kj3 l0 a1 l2 true) else (bitloftref42_Repair.j1 kj3 l0 a1 l2 (decide (a1 ≥ (l0.length : Int))))) = some (r1, r2) := by rw [if_neg (show ¬ (false = true) by decide)] at H; exact H
    clear H; have H := H1; clear H1; have HC8 := Aside0.mk H; clear H
    go_upto_region 3 with (fail)
    repeat (go_quiet (fail); go_upto_region 3 with (fail))
    (with_reducible first | refine then_id_ ?_ | (refine wp_tail_ ?_; intro Kt_ hKt_))
    go_cut [27] (fun v27 wc => ∃ (kq : Nat) (x27_7 : Bool), v27 = .bool x27_7 ∧ Aside0 (bitloftref42_Repair.j1 kq l0 a1 l2 x27_7 = some (r1, r2)) ∧ Aside0 (kq ≤ kj3) ∧ Aside0 (Below w.heap.size w wc))
    case first =>
     have H := HC8.out; clear HC8
     by_cases c9 : a1 < 0
     ·
      rw [if_pos c9] at H; have c9b0 : decide (a1 < 0) = true := decide_eq_true c9; clear c9; (first | rw [c9b0] | (simp only [i64_w, i32_w]; rw [c9b0]) | skip); have H' := Aside0.mk H; clear H
      go_wp2
      repeat (go_quiet (fail); try go_wp2)
      (first | go_meet | (refine Met.intro ?_; go_step; (repeat apply Exists.intro); refine ⟨?rel, ?eqf_⟩; case eqf_ => ((simp only [c9b0]) <;> rfl)))
      case rel => exact ⟨_, (true), (by first | rfl | (simp; done) | (simp [*]; done)), H', ⟨by have := HJ3.out; first | omega | exact Nat.le_refl _⟩, ⟨pH_ HB.out⟩⟩
     ·
      rw [if_neg c9] at H; have c9b0 : decide (a1 < 0) = false := decide_eq_false c9; clear c9; (first | rw [c9b0] | (simp only [i64_w, i32_w]; rw [c9b0]) | skip); have H' := Aside0.mk H; clear H
      go_wp2
      repeat (go_quiet (fail); try go_wp2)
      (first | go_meet | (refine Met.intro ?_; go_step; (repeat apply Exists.intro); refine ⟨?rel, ?eqf_⟩; case eqf_ => ((simp only [c9b0]) <;> rfl)))
      case rel => exact ⟨_, (decide (a1 ≥ (l0.length : Int))), (by first | rfl | (simp; done) | (simp [*]; done)), H', ⟨by have := HJ3.out; first | omega | exact Nat.le_refl _⟩, ⟨pH_ HB.out⟩⟩
    case rest =>
     (try (refine hKt_ _ _ ?_; clear hKt_; clear Kt_)); clear HC8
     try clear c2
     try clear p2
     try clear c3
     try clear c5
     try clear c5b0
     try clear c5b1
     try clear c7
     try clear c9
     try clear c9b0
     try clear p2
     obtain ⟨kq, x27_7, rfl, HA, HJ7, HB⟩ := hcut
     cases kq with
     | zero => exact absurd HA.out (by simp [bitloftref42_Repair.j1])
     | succ kj7 =>
      have H := HA.out; clear HA; simp only [bitloftref42_Repair.j1] at H
      by_cases c10 : x27_7 = true
      ·
       subst c10
       have H1 : (some (([] : List Int), 2)) = some (r1, r2) := by rw [if_pos rfl] at H; exact H
       clear H; have H := H1; clear H1; simp only [Option.some.injEq, Prod.mk.injEq] at H; obtain ⟨rfl, rfl⟩ := H
       go_wp2
       repeat (go_quiet (fail); try go_wp2)
       go_ret2
       exact ⟨_, by first | rfl | (simp [errW_none, errW_some] <;> rfl) | (simp [*, errW_none, errW_some] <;> rfl), by first | exact Kd.R_nil _ _ _ _ _ | exact Kd.N_nil _ _ _ _ _ | exact Kd.V_nil _ _ _ _ _ | exact Kd.Q_nil _ _ _ _ _ | exact Kd.S_nil _ _ _ _ _, pH_ HB.out⟩
      ·
       replace c10 := Bool.eq_false_iff.mpr c10
       subst c10
       have H1 : (if (l2.length : Int) < 2 then (bitloftref42_Repair.j2 kj7 l0 a1 l2 true) else (bitloftref42_Repair.j2 kj7 l0 a1 l2 (decide ((l2.length : Int) > 5002)))) = some (r1, r2) := by rw [if_neg (show ¬ (false = true) by decide)] at H; exact H
       clear H; have H := H1; clear H1; have HC11 := Aside0.mk H; clear H
       go_upto_region 5 with (fail)
       repeat (go_quiet (fail); go_upto_region 5 with (fail))
       (with_reducible first | refine then_id_ ?_ | (refine wp_tail_ ?_; intro Kt_ hKt_))
       go_cut [35] (fun v35 wc => ∃ (kq : Nat) (x35_10 : Bool), v35 = .bool x35_10 ∧ Aside0 (bitloftref42_Repair.j2 kq l0 a1 l2 x35_10 = some (r1, r2)) ∧ Aside0 (kq ≤ kj7) ∧ Aside0 (Below w.heap.size w wc))
       case first =>
        have H := HC11.out; clear HC11
        by_cases c12 : (l2.length : Int) < 2
        ·
         rw [if_pos c12] at H; have c12b0 : decide ((l2.length : Int) < 2) = true := decide_eq_true c12; have c12b1 : decide (l2.length < 2) = true := decide_eq_true (by omega); clear c12; (first | rw [c12b0] | (simp only [i64_w, i32_w]; rw [c12b0]) | skip); have H' := Aside0.mk H; clear H
         go_wp2
         repeat (go_quiet (fail); try go_wp2)
         (first | go_meet | (refine Met.intro ?_; go_step; (repeat apply Exists.intro); refine ⟨?rel, ?eqf_⟩; case eqf_ => ((simp only [c12b0]) <;> rfl)))
         case rel => exact ⟨_, (true), (by first | rfl | (simp; done) | (simp [*]; done)), H', ⟨by have := HJ3.out; have := HJ7.out; first | omega | exact Nat.le_refl _⟩, ⟨pH_ HB.out⟩⟩
        ·
         rw [if_neg c12] at H; have c12b0 : decide ((l2.length : Int) < 2) = false := decide_eq_false c12; have c12b1 : decide (l2.length < 2) = false := decide_eq_false (by omega); clear c12; (first | rw [c12b0] | (simp only [i64_w, i32_w]; rw [c12b0]) | skip); have H' := Aside0.mk H; clear H
         go_wp2
         repeat (go_quiet (fail); try go_wp2)
         (first | go_meet | (refine Met.intro ?_; go_step; (repeat apply Exists.intro); refine ⟨?rel, ?eqf_⟩; case eqf_ => ((simp only [c12b0]) <;> rfl)))
         case rel => exact ⟨_, (decide ((l2.length : Int) > 5002)), (by first | rfl | (simp; done) | (simp [*]; done)), H', ⟨by have := HJ3.out; have := HJ7.out; first | omega | exact Nat.le_refl _⟩, ⟨pH_ HB.out⟩⟩
       case rest =>
        (try (refine hKt_ _ _ ?_; clear hKt_; clear Kt_)); clear HC11
        try clear c1
        try clear c2
        try clear p2
        try clear c3
        try clear c5
        try clear c5b0
        try clear c5b1
        try clear c7
        try clear c9
        try clear c9b0
        try clear c10
        try clear c12
        try clear c12b0
        try clear c12b1
        try clear p2
        obtain ⟨kq, x35_10, rfl, HA, HJ10, HB⟩ := hcut
        cases kq with
        | zero => exact absurd HA.out (by simp [bitloftref42_Repair.j2])
        | succ kj10 =>
         have H := HA.out; clear HA; simp only [bitloftref42_Repair.j2] at H
         by_cases c13 : x35_10 = true
         ·
          subst c13
          have H1 : (some (([] : List Int), 12)) = some (r1, r2) := by rw [if_pos rfl] at H; exact H
          clear H; have H := H1; clear H1; simp only [Option.some.injEq, Prod.mk.injEq] at H; obtain ⟨rfl, rfl⟩ := H
          go_wp2
          repeat (go_quiet (fail); try go_wp2)
          go_ret2
          exact ⟨_, by first | rfl | (simp [errW_none, errW_some] <;> rfl) | (simp [*, errW_none, errW_some] <;> rfl), by first | exact Kd.R_nil _ _ _ _ _ | exact Kd.N_nil _ _ _ _ _ | exact Kd.V_nil _ _ _ _ _ | exact Kd.Q_nil _ _ _ _ _ | exact Kd.S_nil _ _ _ _ _, pH_ HB.out⟩
         ·
          replace c13 := Bool.eq_false_iff.mpr c13
          subst c13
          have H1 : ((some (([] : List Int) : List Int)).bind fun y197 => (if y197.length + l2.length < 140737488355328 then (bitloftref42_Repair.l0 kj10 l0 a1 l2 (y197 ++ l2) 0) else (none))) = some (r1, r2) := by rw [if_neg (show ¬ (false = true) by decide)] at H; exact H
          clear H; have H := H1; clear H1; obtain ⟨y197, hy197⟩ : ∃ y_ : List Int, y_ = (([] : List Int)) := ⟨_, rfl⟩
          replace H : (if y197.length + l2.length < 140737488355328 then (bitloftref42_Repair.l0 kj10 l0 a1 l2 (y197 ++ l2) 0) else (none)) = some (r1, r2) := by first | (rw [hy197]; with_reducible exact H) | (have H2_ := (Option.bind_some _ _).symm.trans H; rw [hy197]; with_reducible exact H2_) | (have H2_ := (Option.bind_some _ _).symm.trans H; with_reducible exact H2_) | with_reducible exact H | (rw [hy197]; exact H) | exact H
          have Ny197 := Aside0.mk hy197; clear hy197
          by_cases c14 : y197.length + l2.length < 140737488355328
          ·
           rw [if_pos c14] at H; have LMc14 := Aside0.mk c14; clear c14; obtain ⟨y200, hy200⟩ : ∃ y_ : List Int, y_ = (y197 ++ l2) := ⟨_, rfl⟩
           replace H : (bitloftref42_Repair.l0 kj10 l0 a1 l2 y200 0) = some (r1, r2) := by first | (rw [hy200]; with_reducible exact H) | (have H2_ := (Option.bind_some _ _).symm.trans H; rw [hy200]; with_reducible exact H2_) | (have H2_ := (Option.bind_some _ _).symm.trans H; with_reducible exact H2_) | with_reducible exact H | (rw [hy200]; exact H) | exact H
           have Ny200 := Aside0.mk hy200; clear hy200; have H' := Aside0.mk H; clear H
           go_wp2_with (first | ((with_reducible refine gate_dst (N := 36) rfl ?_); (try (refine gate_guard (by rfl) ?_; dsimp only)); refine Kd.R_lit (Kd.int .u8) _ 5 ?hg (N := 36) ?hd (xs := ([] : List Int)) (inner := []) (ok := fun _ => True) (okp := fun _ => True) ?hr ?hp (fun _ hk => hk) trivial (Below.refl _ _) (Nat.le_refl _) (by simp) ?_; (case hd => rfl); (case hg => rfl); (case hr => first | (go_simp; done) | (go_simp; rfl)); (case hp => exact (Reps.none _ _)); intro v198 w15 ho16 hb hg_ hnew_; clear hg_ hnew_; (first | rw [← Ny197.out] at ho16 | (simp only [Int.reduceToNat] at ho16; rw [← Ny197.out] at ho16)); have n0_ := Aside0.mk (Kd.R_lower ho16 (below_size (pH_ HB.out))); have n1_ := Aside0.mk (below_step (pH_ HB.out) hb); clear HB; have HO199 := n0_; have HB := n1_; clear n0_ n1_; clear hb ho16) | ((with_reducible refine gate_builtin (b := .append) (xs := #[.tmp 36, .tmp 37]) rfl ?_); (try (refine gate_guard (by rfl) ?_; dsimp only)); at_builtin; refine Kd.R_append_rows (Kd.int .u8) (w0 := w) w.heap.size rfl (.tmp 36) (.tmp 37) 23 5 (.int .u8 0) 1 rfl Tryd.underlying23 info5 rfl (by decide) (by omega) v198 y197 l2 _ _ _ (fun _ => True) (fun _ => False) rfl rfl ?aO ?aR (fun _ _ h => h) (fun _ h => h.elim) ?aF ?aB ?aS ?aL ?_; (case aR => repeat (first | exact (Kd.C_below HR2.out HB.out) | (with_reducible refine Kd.C_alloc ?_ _) | (with_reducible refine Kd.C_drewN ?_ _) | (with_reducible refine Kd.C_drew ?_))); (case aB => exact (pH_ HB.out)); (case aF => exact (fun _ _ => trivial)); (case aO => exact (pL_ HO199.out)); (case aS => exact (below_size (pH_ HB.out))); (case aL => have := LMc14.out; omega); intro v201 w17 ho hb hg hat; (try simp only [Int.reduceToNat] at ho); rw [← Ny200.out] at ho; have n0_ := Aside0.mk (hb); have n1_ := Aside0.mk (ho); clear HB; clear HO199; have HB := n0_; have HO202 := n1_; clear n0_ n1_; clear ho hb hg hat))
           repeat (go_quiet (first | ((with_reducible refine gate_dst (N := 36) rfl ?_); (try (refine gate_guard (by rfl) ?_; dsimp only)); refine Kd.R_lit (Kd.int .u8) _ 5 ?hg (N := 36) ?hd (xs := ([] : List Int)) (inner := []) (ok := fun _ => True) (okp := fun _ => True) ?hr ?hp (fun _ hk => hk) trivial (Below.refl _ _) (Nat.le_refl _) (by simp) ?_; (case hd => rfl); (case hg => rfl); (case hr => first | (go_simp; done) | (go_simp; rfl)); (case hp => exact (Reps.none _ _)); intro v198 w15 ho16 hb hg_ hnew_; clear hg_ hnew_; (first | rw [← Ny197.out] at ho16 | (simp only [Int.reduceToNat] at ho16; rw [← Ny197.out] at ho16)); have n0_ := Aside0.mk (Kd.R_lower ho16 (below_size (pH_ HB.out))); have n1_ := Aside0.mk (below_step (pH_ HB.out) hb); clear HB; have HO199 := n0_; have HB := n1_; clear n0_ n1_; clear hb ho16) | ((with_reducible refine gate_builtin (b := .append) (xs := #[.tmp 36, .tmp 37]) rfl ?_); (try (refine gate_guard (by rfl) ?_; dsimp only)); at_builtin; refine Kd.R_append_rows (Kd.int .u8) (w0 := w) w.heap.size rfl (.tmp 36) (.tmp 37) 23 5 (.int .u8 0) 1 rfl Tryd.underlying23 info5 rfl (by decide) (by omega) v198 y197 l2 _ _ _ (fun _ => True) (fun _ => False) rfl rfl ?aO ?aR (fun _ _ h => h) (fun _ h => h.elim) ?aF ?aB ?aS ?aL ?_; (case aR => repeat (first | exact (Kd.C_below HR2.out HB.out) | (with_reducible refine Kd.C_alloc ?_ _) | (with_reducible refine Kd.C_drewN ?_ _) | (with_reducible refine Kd.C_drew ?_))); (case aB => exact (pH_ HB.out)); (case aF => exact (fun _ _ => trivial)); (case aO => exact (pL_ HO199.out)); (case aS => exact (below_size (pH_ HB.out))); (case aL => have := LMc14.out; omega); intro v201 w17 ho hb hg hat; (try simp only [Int.reduceToNat] at ho); rw [← Ny200.out] at ho; have n0_ := Aside0.mk (hb); have n1_ := Aside0.mk (ho); clear HB; clear HO199; have HB := n0_; have HO202 := n1_; clear n0_ n1_; clear ho hb hg hat)); try go_wp2_with (first | ((with_reducible refine gate_dst (N := 36) rfl ?_); (try (refine gate_guard (by rfl) ?_; dsimp only)); refine Kd.R_lit (Kd.int .u8) _ 5 ?hg (N := 36) ?hd (xs := ([] : List Int)) (inner := []) (ok := fun _ => True) (okp := fun _ => True) ?hr ?hp (fun _ hk => hk) trivial (Below.refl _ _) (Nat.le_refl _) (by simp) ?_; (case hd => rfl); (case hg => rfl); (case hr => first | (go_simp; done) | (go_simp; rfl)); (case hp => exact (Reps.none _ _)); intro v198 w15 ho16 hb hg_ hnew_; clear hg_ hnew_; (first | rw [← Ny197.out] at ho16 | (simp only [Int.reduceToNat] at ho16; rw [← Ny197.out] at ho16)); have n0_ := Aside0.mk (Kd.R_lower ho16 (below_size (pH_ HB.out))); have n1_ := Aside0.mk (below_step (pH_ HB.out) hb); clear HB; have HO199 := n0_; have HB := n1_; clear n0_ n1_; clear hb ho16) | ((with_reducible refine gate_builtin (b := .append) (xs := #[.tmp 36, .tmp 37]) rfl ?_); (try (refine gate_guard (by rfl) ?_; dsimp only)); at_builtin; refine Kd.R_append_rows (Kd.int .u8) (w0 := w) w.heap.size rfl (.tmp 36) (.tmp 37) 23 5 (.int .u8 0) 1 rfl Tryd.underlying23 info5 rfl (by decide) (by omega) v198 y197 l2 _ _ _ (fun _ => True) (fun _ => False) rfl rfl ?aO ?aR (fun _ _ h => h) (fun _ h => h.elim) ?aF ?aB ?aS ?aL ?_; (case aR => repeat (first | exact (Kd.C_below HR2.out HB.out) | (with_reducible refine Kd.C_alloc ?_ _) | (with_reducible refine Kd.C_drewN ?_ _) | (with_reducible refine Kd.C_drew ?_))); (case aB => exact (pH_ HB.out)); (case aF => exact (fun _ _ => trivial)); (case aO => exact (pL_ HO199.out)); (case aS => exact (below_size (pH_ HB.out))); (case aL => have := LMc14.out; omega); intro v201 w17 ho hb hg hat; (try simp only [Int.reduceToNat] at ho); rw [← Ny200.out] at ho; have n0_ := Aside0.mk (hb); have n1_ := Aside0.mk (ho); clear HB; clear HO199; have HB := n0_; have HO202 := n1_; clear n0_ n1_; clear ho hb hg hat)))
           go_loopg [8, 9] kj10 (fun kq v8 v9 w' => ∃ (x8_4 : List Int) (x9_4 : Int), v9 = .int .i64 x9_4 ∧ Aside0 (bitloftref42_Repair.l0 kq l0 a1 l2 x8_4 x9_4 = some (r1, r2)) ∧ Aside0 (kq ≤ kj10) ∧ Aside0 (Kd.R (Kd.int .u8) 5 w' w.heap.size (fun _ => True) v8 x8_4) ∧ Aside0 (Below w.heap.size w w'))
           case atStart => exact ⟨(y200), (0), (by first | rfl | (simp; done) | (simp [*]; done)), H', ⟨Nat.le_refl _⟩, ⟨pL_ HO202.out⟩, ⟨pH_ HB.out⟩⟩
           case round =>
            clear H'
            try clear c1
            try clear c2
            try clear p2
            try clear c3
            try clear c5
            try clear c5b0
            try clear c5b1
            try clear c7
            try clear c9
            try clear c9b0
            try clear c10
            try clear c12
            try clear c12b0
            try clear c12b1
            try clear c13
            try clear c14
            try clear p2
            obtain ⟨x8_4, x9_4, rfl, HA, HK4, HO_8, HB⟩ := hrel
            cases gk with
            | zero => exact absurd HA.out (by simp [bitloftref42_Repair.l0])
            | succ k4 =>
             have H := HA.out; clear HA; simp only [bitloftref42_Repair.l0] at H
             by_cases c18 : x9_4 < (l0.length : Int)
             ·
              rw [if_pos c18] at H; have c18b0 : decide (x9_4 < (l0.length : Int)) = true := decide_eq_true c18; clear c18
              by_cases c19 : x9_4 = a1
              ·
               rw [if_pos c19] at H; have c19b0 : (x9_4 == a1) = true := beq_iff_eq.mpr c19; have c19b1 : (x9_4 != a1) = false := bne_eq_false_iff_eq.mpr c19; clear c19; have H' := Aside0.mk H; clear H
               go_wp2
               repeat (go_quiet (fail); try go_wp2)
               go_roundg k4
               case measure => have := HJ3.out; have := HJ7.out; have := HJ10.out; have := HK4.out; omega
               case rel => exact ⟨(x8_4), (wrap64 (x9_4 + 1)), (by first | rfl | (simp; done) | (simp [*]; done)), H', ⟨by have := HJ3.out; have := HJ7.out; have := HJ10.out; have := HK4.out; omega⟩, ⟨pL_ HO_8.out⟩, ⟨pH_ HB.out⟩⟩
              ·
               rw [if_neg c19] at H; have c19b0 : (x9_4 == a1) = false := beq_eq_false_iff_ne.mpr c19; have c19b1 : (x9_4 != a1) = true := bne_iff_ne.mpr c19
               by_cases c20 : 0 ≤ x9_4
               ·
                rw [if_pos c20] at H; have c20b0 : decide (0 ≤ x9_4) = true := decide_eq_true c20; clear c20
                by_cases c21 : ((rd_L1 l0 x9_4).length : Int) > (wrap64 ((l2.length : Int) - 2))
                ·
                 rw [if_pos c21] at H; have c21b0 : decide ((wrap64 ((l2.length : Int) - 2)) < ((rd_L1 l0 x9_4).length : Int)) = true := decide_eq_true c21; clear c21; simp only [Option.some.injEq, Prod.mk.injEq] at H; obtain ⟨rfl, rfl⟩ := H; have p203 : 0 ≤ (x9_4 : Int) := of_decide_eq_true (by first | (with_reducible assumption) | assumption); have q203 : x9_4 < (l0.length : Int) := of_decide_eq_true (by first | (with_reducible assumption) | assumption); obtain ⟨ad203, A203_0, c203_0, e203, hx203_0, hl203_0, hi203_0⟩ := at_L1 HR0.out x9_4 p203 q203
                 cases e203
                 replace hx203_0 := (HB.out.cell (World.block_lt_of_cell? w _ hx203_0)).trans hx203_0; have HR203_0 := Aside0.mk hi203_0; have HC203_0 := Aside0.mk hl203_0; clear hi203_0 hl203_0; replace p203 := eq_true p203; replace q203 := eq_true q203
                 go_wp2
                 repeat (go_quiet (fail); try go_wp2)
                 go_ret2
                 exact ⟨_, by first | rfl | (simp [errW_none, errW_some] <;> rfl) | (simp [*, errW_none, errW_some] <;> rfl), by first | exact Kd.R_nil _ _ _ _ _ | exact Kd.N_nil _ _ _ _ _ | exact Kd.V_nil _ _ _ _ _ | exact Kd.Q_nil _ _ _ _ _ | exact Kd.S_nil _ _ _ _ _, pH_ HB.out⟩
                ·
                 rw [if_neg c21] at H; have c21b0 : decide ((wrap64 ((l2.length : Int) - 2)) < ((rd_L1 l0 x9_4).length : Int)) = false := decide_eq_false c21; clear c21; replace H := Option.bind_eq_some_iff.mp H; obtain ⟨t205, A220, H⟩ := H; replace H : ((bitloftref42_mixed.f k4 x8_4 t205).bind fun t208 => (bitloftref42_Repair.l0 k4 l0 a1 l2 t208 (wrap64 (x9_4 + 1)))) = some (r1, r2) := H; have A22 := Aside0.mk A220; clear A220; replace H := Option.bind_eq_some_iff.mp H; obtain ⟨t208, A230, H⟩ := H; replace H : (bitloftref42_Repair.l0 k4 l0 a1 l2 t208 (wrap64 (x9_4 + 1))) = some (r1, r2) := H; have A23 := Aside0.mk A230; clear A230; have H' := Aside0.mk H; clear H; have p203 : 0 ≤ (x9_4 : Int) := of_decide_eq_true (by first | (with_reducible assumption) | assumption); have q203 : x9_4 < (l0.length : Int) := of_decide_eq_true (by first | (with_reducible assumption) | assumption); obtain ⟨ad203, A203_0, c203_0, e203, hx203_0, hl203_0, hi203_0⟩ := at_L1 HR0.out x9_4 p203 q203
                 cases e203
                 replace hx203_0 := (HB.out.cell (World.block_lt_of_cell? w _ hx203_0)).trans hx203_0; have HR203_0 := Aside0.mk hi203_0; have HC203_0 := Aside0.mk hl203_0; clear hi203_0 hl203_0; replace p203 := eq_true p203; replace q203 := eq_true q203; have p204 : 0 ≤ (x9_4 : Int) := of_decide_eq_true (by first | (with_reducible assumption) | assumption); have q204 : x9_4 < (l0.length : Int) := of_decide_eq_true (by first | (with_reducible assumption) | assumption); obtain ⟨ad204, A204_0, c204_0, e204, hx204_0, hl204_0, hi204_0⟩ := at_L1 HR0.out x9_4 p204 q204; obtain rfl : ad203 = ad204 := (by injection e204); replace hx204_0 := (HB.out.cell (World.block_lt_of_cell? w _ hx204_0)).trans hx204_0; have HR204_0 := Aside0.mk hi204_0; have HC204_0 := Aside0.mk hl204_0; clear hi204_0 hl204_0; replace p204 := eq_true p204; replace q204 := eq_true q204; have ea_ := Option.some.inj (hx203_0.symm.trans hx204_0)
                 injection ea_ with ea_ en_ ec_
                 subst ea_
                 subst ec_
                 clear en_
                 go_wp2_with (first | (go_at_call 49; (with_reducible refine (bitloftref42_framed.calls k4 _ _ (rd_L1 l0 x9_4) (wrap64 ((l2.length : Int) - 2)) t205 _ ?side1 ?side2 A22.out).mono ?_); (case side1 => repeat (first | exact (Kd.C_below HR204_0.out HB.out) | (with_reducible refine Kd.C_alloc ?_ _) | (with_reducible refine Kd.C_drewN ?_ _) | (with_reducible refine Kd.C_drew ?_))); (case side2 => exact HC204_0.out); rintro e w24 ⟨v206, rfl, ho0, hb⟩; have n0_ := Aside0.mk (Kd.R_elder' (pL_ HO_8.out) (Kd.R_base ho0) hb); have n1_ := Aside0.mk (Kd.R_lower (Kd.R_new' ho0 (Kd.R_lt (pL_ HO_8.out))) (below_size (pH_ HB.out))); have n2_ := Aside0.mk (below_step (pH_ HB.out) hb); clear HO_8; clear HB; have HO_8 := n0_; have HO207 := n1_; have HB := n2_; clear n0_ n1_ n2_; (try clear hb); (try clear ho0); obtain ⟨Ao25, co25, eo25⟩ := Kd.R_slice HO_8.out; subst eo25; obtain ⟨Ao26, co26, eo26⟩ := Kd.R_slice HO207.out; subst eo26) | (go_at_call 48; (with_reducible refine (bitloftref42_mixed.calls k4 _ _ x8_4 _ _ t205 t208 _ ?side1 ?side2 ?side3 ?side4 A23.out).mono ?_); (case side1 => repeat (first | exact (Kd.R_reads' HO_8.out).2.2 | (with_reducible refine Kd.C_alloc ?_ _) | (with_reducible refine Kd.C_drewN ?_ _) | (with_reducible refine Kd.C_drew ?_))); (case side2 => exact (Kd.R_reads' HO_8.out).2.1); (case side3 => repeat (first | exact (Kd.R_reads' HO207.out).2.2 | (with_reducible refine Kd.C_alloc ?_ _) | (with_reducible refine Kd.C_drewN ?_ _) | (with_reducible refine Kd.C_drew ?_))); (case side4 => exact (Kd.R_reads' HO207.out).2.1); rintro e w27 ⟨v209, rfl, ho0, hb⟩; have n0_ := Aside0.mk (Kd.R_elder' (pL_ HO_8.out) (Kd.R_base ho0) hb); have n1_ := Aside0.mk (Kd.R_elder' (pL_ HO207.out) (Kd.R_base ho0) hb); have n2_ := Aside0.mk (Kd.R_lower (Kd.R_new' (Kd.R_new' ho0 (Kd.R_lt (pL_ HO_8.out))) (Kd.R_lt (pL_ HO207.out))) (below_size (pH_ HB.out))); have n3_ := Aside0.mk (below_step (pH_ HB.out) hb); clear HO_8; clear HO207; clear HB; have HO_8 := n0_; have HO207 := n1_; have HO210 := n2_; have HB := n3_; clear n0_ n1_ n2_ n3_; (try clear hb); (try clear ho0)))
                 repeat (go_quiet (first | (go_at_call 49; (with_reducible refine (bitloftref42_framed.calls k4 _ _ (rd_L1 l0 x9_4) (wrap64 ((l2.length : Int) - 2)) t205 _ ?side1 ?side2 A22.out).mono ?_); (case side1 => repeat (first | exact (Kd.C_below HR204_0.out HB.out) | (with_reducible refine Kd.C_alloc ?_ _) | (with_reducible refine Kd.C_drewN ?_ _) | (with_reducible refine Kd.C_drew ?_))); (case side2 => exact HC204_0.out); rintro e w24 ⟨v206, rfl, ho0, hb⟩; have n0_ := Aside0.mk (Kd.R_elder' (pL_ HO_8.out) (Kd.R_base ho0) hb); have n1_ := Aside0.mk (Kd.R_lower (Kd.R_new' ho0 (Kd.R_lt (pL_ HO_8.out))) (below_size (pH_ HB.out))); have n2_ := Aside0.mk (below_step (pH_ HB.out) hb); clear HO_8; clear HB; have HO_8 := n0_; have HO207 := n1_; have HB := n2_; clear n0_ n1_ n2_; (try clear hb); (try clear ho0); obtain ⟨Ao25, co25, eo25⟩ := Kd.R_slice HO_8.out; subst eo25; obtain ⟨Ao26, co26, eo26⟩ := Kd.R_slice HO207.out; subst eo26) | (go_at_call 48; (with_reducible refine (bitloftref42_mixed.calls k4 _ _ x8_4 _ _ t205 t208 _ ?side1 ?side2 ?side3 ?side4 A23.out).mono ?_); (case side1 => repeat (first | exact (Kd.R_reads' HO_8.out).2.2 | (with_reducible refine Kd.C_alloc ?_ _) | (with_reducible refine Kd.C_drewN ?_ _) | (with_reducible refine Kd.C_drew ?_))); (case side2 => exact (Kd.R_reads' HO_8.out).2.1); (case side3 => repeat (first | exact (Kd.R_reads' HO207.out).2.2 | (with_reducible refine Kd.C_alloc ?_ _) | (with_reducible refine Kd.C_drewN ?_ _) | (with_reducible refine Kd.C_drew ?_))); (case side4 => exact (Kd.R_reads' HO207.out).2.1); rintro e w27 ⟨v209, rfl, ho0, hb⟩; have n0_ := Aside0.mk (Kd.R_elder' (pL_ HO_8.out) (Kd.R_base ho0) hb); have n1_ := Aside0.mk (Kd.R_elder' (pL_ HO207.out) (Kd.R_base ho0) hb); have n2_ := Aside0.mk (Kd.R_lower (Kd.R_new' (Kd.R_new' ho0 (Kd.R_lt (pL_ HO_8.out))) (Kd.R_lt (pL_ HO207.out))) (below_size (pH_ HB.out))); have n3_ := Aside0.mk (below_step (pH_ HB.out) hb); clear HO_8; clear HO207; clear HB; have HO_8 := n0_; have HO207 := n1_; have HO210 := n2_; have HB := n3_; clear n0_ n1_ n2_ n3_; (try clear hb); (try clear ho0))); try go_wp2_with (first | (go_at_call 49; (with_reducible refine (bitloftref42_framed.calls k4 _ _ (rd_L1 l0 x9_4) (wrap64 ((l2.length : Int) - 2)) t205 _ ?side1 ?side2 A22.out).mono ?_); (case side1 => repeat (first | exact (Kd.C_below HR204_0.out HB.out) | (with_reducible refine Kd.C_alloc ?_ _) | (with_reducible refine Kd.C_drewN ?_ _) | (with_reducible refine Kd.C_drew ?_))); (case side2 => exact HC204_0.out); rintro e w24 ⟨v206, rfl, ho0, hb⟩; have n0_ := Aside0.mk (Kd.R_elder' (pL_ HO_8.out) (Kd.R_base ho0) hb); have n1_ := Aside0.mk (Kd.R_lower (Kd.R_new' ho0 (Kd.R_lt (pL_ HO_8.out))) (below_size (pH_ HB.out))); have n2_ := Aside0.mk (below_step (pH_ HB.out) hb); clear HO_8; clear HB; have HO_8 := n0_; have HO207 := n1_; have HB := n2_; clear n0_ n1_ n2_; (try clear hb); (try clear ho0); obtain ⟨Ao25, co25, eo25⟩ := Kd.R_slice HO_8.out; subst eo25; obtain ⟨Ao26, co26, eo26⟩ := Kd.R_slice HO207.out; subst eo26) | (go_at_call 48; (with_reducible refine (bitloftref42_mixed.calls k4 _ _ x8_4 _ _ t205 t208 _ ?side1 ?side2 ?side3 ?side4 A23.out).mono ?_); (case side1 => repeat (first | exact (Kd.R_reads' HO_8.out).2.2 | (with_reducible refine Kd.C_alloc ?_ _) | (with_reducible refine Kd.C_drewN ?_ _) | (with_reducible refine Kd.C_drew ?_))); (case side2 => exact (Kd.R_reads' HO_8.out).2.1); (case side3 => repeat (first | exact (Kd.R_reads' HO207.out).2.2 | (with_reducible refine Kd.C_alloc ?_ _) | (with_reducible refine Kd.C_drewN ?_ _) | (with_reducible refine Kd.C_drew ?_))); (case side4 => exact (Kd.R_reads' HO207.out).2.1); rintro e w27 ⟨v209, rfl, ho0, hb⟩; have n0_ := Aside0.mk (Kd.R_elder' (pL_ HO_8.out) (Kd.R_base ho0) hb); have n1_ := Aside0.mk (Kd.R_elder' (pL_ HO207.out) (Kd.R_base ho0) hb); have n2_ := Aside0.mk (Kd.R_lower (Kd.R_new' (Kd.R_new' ho0 (Kd.R_lt (pL_ HO_8.out))) (Kd.R_lt (pL_ HO207.out))) (below_size (pH_ HB.out))); have n3_ := Aside0.mk (below_step (pH_ HB.out) hb); clear HO_8; clear HO207; clear HB; have HO_8 := n0_; have HO207 := n1_; have HO210 := n2_; have HB := n3_; clear n0_ n1_ n2_ n3_; (try clear hb); (try clear ho0))))
                 go_roundg k4
                 case measure => have := HJ3.out; have := HJ7.out; have := HJ10.out; have := HK4.out; omega
                 case rel => exact ⟨(t208), (wrap64 (x9_4 + 1)), (by first | rfl | (simp; done) | (simp [*]; done)), H', ⟨by have := HJ3.out; have := HJ7.out; have := HJ10.out; have := HK4.out; omega⟩, ⟨by (with_reducible repeat (first | apply rA_ | apply rN_ | apply rD_)); exact Kd.R_mono HO210.out (fun _ hk => trivial)⟩, ⟨pH_ HB.out⟩⟩
               ·
                rw [if_neg c20] at H; exact absurd H (by simp)
             ·
              rw [if_neg c18] at H; have c18b0 : decide (x9_4 < (l0.length : Int)) = false := decide_eq_false c18; clear c18
              by_cases c28 : 0 < (x8_4.length : Int)
              ·
               rw [if_pos c28] at H; have c28b0 : decide (0 < (x8_4.length : Int)) = true := decide_eq_true c28; have c28b1 : decide (0 < x8_4.length) = true := decide_eq_true (by omega); clear c28
               by_cases c29 : 1 < (x8_4.length : Int)
               ·
                rw [if_pos c29] at H; have c29b0 : decide (1 < (x8_4.length : Int)) = true := decide_eq_true c29; have c29b1 : decide (1 < x8_4.length) = true := decide_eq_true (by omega); clear c29
                by_cases c30 : (wrap64 ((wrap64 (256 * (wrap64 (rd x8_4 0)))) + (wrap64 (rd x8_4 1)))) > (wrap64 ((l2.length : Int) - 2))
                ·
                 rw [if_pos c30] at H; have c30b0 : decide ((wrap64 ((l2.length : Int) - 2)) < (wrap64 ((wrap64 (256 * (wrap64 (rd x8_4 0)))) + (wrap64 (rd x8_4 1))))) = true := decide_eq_true c30; clear c30; simp only [Option.some.injEq, Prod.mk.injEq] at H; obtain ⟨rfl, rfl⟩ := H; obtain ⟨Ao31, co31, eo31⟩ := Kd.R_slice HO_8.out
                 subst eo31
                 have p211 : 0 ≤ (0 : Int) := (by omega); have q211 : 0 < (x8_4.length : Int) := of_decide_eq_true (by first | (with_reducible assumption) | assumption); obtain ⟨ad211, e211, hx211_0⟩ := Kd.at_int (Kd.R_reads' HO_8.out).2.2 0 p211 q211
                 cases e211
                 have qi211 : (0 < x8_4.length) = True := eq_true (by omega); (try rw [show ((0 : Int)).toNat = 0 from rfl] at hx211_0); (try rw [Addr.add_zero'] at hx211_0); replace p211 := eq_true p211; replace q211 := eq_true q211; have p212 : 0 ≤ (1 : Int) := (by omega); have q212 : 1 < (x8_4.length : Int) := of_decide_eq_true (by first | (with_reducible assumption) | assumption); obtain ⟨ad212, e212, hx212_0⟩ := Kd.at_int (Kd.R_reads' HO_8.out).2.2 1 p212 q212; obtain rfl : ad211 = ad212 := (by injection e212); (try simp only [show (1 : Int).toNat = 1 from rfl, Nat.reduceMul, Nat.reduceEqDiff, Go.Addr.add, ↓reduceIte] at hx212_0); have qi212 : (1 < x8_4.length) = True := eq_true (by omega); (try rw [show ((1 : Int)).toNat = 1 from rfl] at hx212_0); replace p212 := eq_true p212; replace q212 := eq_true q212
                 go_wp2
                 repeat (go_quiet (fail); try go_wp2)
                 go_ret2
                 exact ⟨_, by first | rfl | (simp [errW_none, errW_some] <;> rfl) | (simp [*, errW_none, errW_some] <;> rfl), by first | exact Kd.R_nil _ _ _ _ _ | exact Kd.N_nil _ _ _ _ _ | exact Kd.V_nil _ _ _ _ _ | exact Kd.Q_nil _ _ _ _ _ | exact Kd.S_nil _ _ _ _ _, pH_ HB.out⟩
                ·
                 rw [if_neg c30] at H; have c30b0 : decide ((wrap64 ((l2.length : Int) - 2)) < (wrap64 ((wrap64 (256 * (wrap64 (rd x8_4 0)))) + (wrap64 (rd x8_4 1))))) = false := decide_eq_false c30; clear c30; have H' := Aside0.mk H; clear H; obtain ⟨Ao32, co32, eo32⟩ := Kd.R_slice HO_8.out
                 subst eo32
                 have p211 : 0 ≤ (0 : Int) := (by omega); have q211 : 0 < (x8_4.length : Int) := of_decide_eq_true (by first | (with_reducible assumption) | assumption); obtain ⟨ad211, e211, hx211_0⟩ := Kd.at_int (Kd.R_reads' HO_8.out).2.2 0 p211 q211
                 cases e211
                 have qi211 : (0 < x8_4.length) = True := eq_true (by omega); (try rw [show ((0 : Int)).toNat = 0 from rfl] at hx211_0); (try rw [Addr.add_zero'] at hx211_0); replace p211 := eq_true p211; replace q211 := eq_true q211; have p212 : 0 ≤ (1 : Int) := (by omega); have q212 : 1 < (x8_4.length : Int) := of_decide_eq_true (by first | (with_reducible assumption) | assumption); obtain ⟨ad212, e212, hx212_0⟩ := Kd.at_int (Kd.R_reads' HO_8.out).2.2 1 p212 q212; obtain rfl : ad211 = ad212 := (by injection e212); (try simp only [show (1 : Int).toNat = 1 from rfl, Nat.reduceMul, Nat.reduceEqDiff, Go.Addr.add, ↓reduceIte] at hx212_0); have qi212 : (1 < x8_4.length) = True := eq_true (by omega); (try rw [show ((1 : Int)).toNat = 1 from rfl] at hx212_0); replace p212 := eq_true p212; replace q212 := eq_true q212
                 go_wp2
                 repeat (go_quiet (fail); try go_wp2)
                 go_loopg [11] k4 (fun kq v11 w' => ∃ (x11_5 : Int), v11 = .int .i64 x11_5 ∧ Aside0 (bitloftref42_Repair.l1 kq x8_4 (wrap64 ((wrap64 (256 * (wrap64 (rd x8_4 0)))) + (wrap64 (rd x8_4 1)))) x11_5 = some (r1, r2)) ∧ Aside0 (kq ≤ k4) ∧ Aside0 (Kd.R (Kd.int .u8) 5 w' w.heap.size (fun _ => True) (.slice (some ad211) x8_4.length co32) x8_4) ∧ Aside0 (Below w.heap.size w w'))
                 case atStart => exact ⟨(wrap64 ((wrap64 ((wrap64 (256 * (wrap64 (rd x8_4 0)))) + (wrap64 (rd x8_4 1)))) + 2)), (by first | rfl | (simp; done) | (simp [*]; done)), H', ⟨Nat.le_refl _⟩, ⟨pL_ HO_8.out⟩, ⟨pH_ HB.out⟩⟩
                 case round =>
                  clear H'
                  try clear c1
                  try clear c2
                  try clear p2
                  try clear q2
                  try clear hx2
                  try clear qi2
                  try clear c3
                  try clear c5
                  try clear c5b0
                  try clear c5b1
                  try clear p6
                  try clear c7
                  try clear c9
                  try clear c9b0
                  try clear c10
                  try clear c12
                  try clear c12b0
                  try clear c12b1
                  try clear c13
                  try clear c14
                  try clear c18
                  try clear c18b0
                  try clear c19
                  try clear c19b0
                  try clear c19b1
                  try clear c20
                  try clear c20b0
                  try clear p20
                  try clear q20
                  try clear hx20
                  try clear c21
                  try clear c21b0
                  try clear p21
                  try clear q21
                  try clear hx21
                  try clear qi21
                  try clear c28
                  try clear c28b0
                  try clear c28b1
                  try clear c29
                  try clear c29b0
                  try clear c29b1
                  try clear c30
                  try clear c30b0
                  try clear c32
                  try clear hx203_0
                  try clear hx204_0
                  try clear hx211_0
                  try clear hx212_0
                  try clear p2
                  try clear p203
                  try clear p204
                  try clear p211
                  try clear p212
                  try clear q203
                  try clear q204
                  try clear q211
                  try clear q212
                  obtain ⟨x11_5, rfl, HA, HK5, HO_8, HB⟩ := hrel
                  cases gk with
                  | zero => exact absurd HA.out (by simp [bitloftref42_Repair.l1])
                  | succ k5 =>
                   have H := HA.out; clear HA; simp only [bitloftref42_Repair.l1] at H
                   by_cases c33 : x11_5 < (x8_4.length : Int)
                   ·
                    rw [if_pos c33] at H; have c33b0 : decide (x11_5 < (x8_4.length : Int)) = true := decide_eq_true c33; clear c33
                    by_cases c34 : 0 ≤ x11_5
                    ·
                     rw [if_pos c34] at H; have c34b0 : decide (0 ≤ x11_5) = true := decide_eq_true c34; clear c34
                     by_cases c35 : (rd x8_4 x11_5) = 0
                     ·
                      rw [if_pos c35] at H; have c35b0 : ((rd x8_4 x11_5) == 0) = true := beq_iff_eq.mpr c35; have c35b1 : ((rd x8_4 x11_5) != 0) = false := bne_eq_false_iff_eq.mpr c35; clear c35; have H' := Aside0.mk H; clear H; have p213 : 0 ≤ (x11_5 : Int) := of_decide_eq_true (by first | (with_reducible assumption) | assumption); have q213 : x11_5 < (x8_4.length : Int) := of_decide_eq_true (by first | (with_reducible assumption) | assumption); obtain ⟨ad213, e213, hx213_0⟩ := Kd.at_int (Kd.R_reads' HO_8.out).2.2 x11_5 p213 q213; obtain rfl : ad211 = ad213 := (by injection e213); replace p213 := eq_true p213; replace q213 := eq_true q213
                      go_wp2
                      repeat (go_quiet (fail); try go_wp2)
                      go_roundg k5
                      case measure => have := HJ3.out; have := HJ7.out; have := HJ10.out; have := HK4.out; have := HK5.out; omega
                      case rel => exact ⟨(wrap64 (x11_5 + 1)), (by first | rfl | (simp; done) | (simp [*]; done)), H', ⟨by have := HJ3.out; have := HJ7.out; have := HJ10.out; have := HK4.out; have := HK5.out; omega⟩, ⟨pL_ HO_8.out⟩, ⟨pH_ HB.out⟩⟩
                     ·
                      rw [if_neg c35] at H; have c35b0 : ((rd x8_4 x11_5) == 0) = false := beq_eq_false_iff_ne.mpr c35; have c35b1 : ((rd x8_4 x11_5) != 0) = true := bne_iff_ne.mpr c35; simp only [Option.some.injEq, Prod.mk.injEq] at H; obtain ⟨rfl, rfl⟩ := H; have p213 : 0 ≤ (x11_5 : Int) := of_decide_eq_true (by first | (with_reducible assumption) | assumption); have q213 : x11_5 < (x8_4.length : Int) := of_decide_eq_true (by first | (with_reducible assumption) | assumption); obtain ⟨ad213, e213, hx213_0⟩ := Kd.at_int (Kd.R_reads' HO_8.out).2.2 x11_5 p213 q213; obtain rfl : ad211 = ad213 := (by injection e213); replace p213 := eq_true p213; replace q213 := eq_true q213
                      go_wp2
                      repeat (go_quiet (fail); try go_wp2)
                      go_ret2
                      exact ⟨_, by first | rfl | (simp [errW_none, errW_some] <;> rfl) | (simp [*, errW_none, errW_some] <;> rfl), by first | exact Kd.R_nil _ _ _ _ _ | exact Kd.N_nil _ _ _ _ _ | exact Kd.V_nil _ _ _ _ _ | exact Kd.Q_nil _ _ _ _ _ | exact Kd.S_nil _ _ _ _ _, pH_ HB.out⟩
                    ·
                     rw [if_neg c34] at H; exact absurd H (by simp)
                   ·
                    rw [if_neg c33] at H; have c33b0 : decide (x11_5 < (x8_4.length : Int)) = false := decide_eq_false c33; clear c33; obtain ⟨y214, hy214⟩ : ∃ y_ : List Int, y_ = (([] : List Int)) := ⟨_, rfl⟩
                    replace H : (if 2 ≤ (wrap64 ((wrap64 ((wrap64 (256 * (wrap64 (rd x8_4 0)))) + (wrap64 (rd x8_4 1)))) + 2)) then (if (wrap64 ((wrap64 ((wrap64 (256 * (wrap64 (rd x8_4 0)))) + (wrap64 (rd x8_4 1)))) + 2)) ≤ (x8_4.length : Int) then ((some ((x8_4.take ((wrap64 ((wrap64 ((wrap64 (256 * (wrap64 (rd x8_4 0)))) + (wrap64 (rd x8_4 1)))) + 2)) : Int).toNat).drop 2 : List Int)).bind fun y217 => (if y214.length + y217.length < 140737488355328 then (some ((y214 ++ y217), 0)) else (none))) else (none)) else (none)) = some (r1, r2) := by first | (rw [hy214]; with_reducible exact H) | (have H2_ := (Option.bind_some _ _).symm.trans H; rw [hy214]; with_reducible exact H2_) | (have H2_ := (Option.bind_some _ _).symm.trans H; with_reducible exact H2_) | with_reducible exact H | (rw [hy214]; exact H) | exact H
                    have Ny214 := Aside0.mk hy214; clear hy214
                    by_cases c36 : 2 ≤ (wrap64 ((wrap64 ((wrap64 (256 * (wrap64 (rd x8_4 0)))) + (wrap64 (rd x8_4 1)))) + 2))
                    ·
                     rw [if_pos c36] at H; have c36b0 := eq_true c36; have c36b1 : decide (2 ≤ (wrap64 ((wrap64 ((wrap64 (256 * (wrap64 (rd x8_4 0)))) + (wrap64 (rd x8_4 1)))) + 2))) = true := decide_eq_true c36
                     by_cases c37 : (wrap64 ((wrap64 ((wrap64 (256 * (wrap64 (rd x8_4 0)))) + (wrap64 (rd x8_4 1)))) + 2)) ≤ (x8_4.length : Int)
                     ·
                      rw [if_pos c37] at H; have c37b0 := eq_true c37; have c37b1 : decide ((wrap64 ((wrap64 ((wrap64 (256 * (wrap64 (rd x8_4 0)))) + (wrap64 (rd x8_4 1)))) + 2)) ≤ (x8_4.length : Int)) = true := decide_eq_true c37; obtain ⟨y217, hy217⟩ : ∃ y_ : List Int, y_ = ((x8_4.take ((wrap64 ((wrap64 ((wrap64 (256 * (wrap64 (rd x8_4 0)))) + (wrap64 (rd x8_4 1)))) + 2)) : Int).toNat).drop 2) := ⟨_, rfl⟩
                      replace H : (if y214.length + y217.length < 140737488355328 then (some ((y214 ++ y217), 0)) else (none)) = some (r1, r2) := by first | (rw [hy217]; with_reducible exact H) | (have H2_ := (Option.bind_some _ _).symm.trans H; rw [hy217]; with_reducible exact H2_) | (have H2_ := (Option.bind_some _ _).symm.trans H; with_reducible exact H2_) | with_reducible exact H | (rw [hy217]; exact H) | exact H
                      have Ny217 := Aside0.mk hy217; clear hy217
                      by_cases c38 : y214.length + y217.length < 140737488355328
                      ·
                       rw [if_pos c38] at H; have LMc38 := Aside0.mk c38; clear c38; obtain ⟨y221, hy221⟩ : ∃ y_ : List Int, y_ = (y214 ++ y217) := ⟨_, rfl⟩
                       replace H : (some (y221, 0)) = some (r1, r2) := by first | (rw [hy221]; with_reducible exact H) | (have H2_ := (Option.bind_some _ _).symm.trans H; rw [hy221]; with_reducible exact H2_) | (have H2_ := (Option.bind_some _ _).symm.trans H; with_reducible exact H2_) | with_reducible exact H | (rw [hy221]; exact H) | exact H
                       have Ny221 := Aside0.mk hy221; clear hy221; simp only [Option.some.injEq, Prod.mk.injEq] at H; obtain ⟨rfl, rfl⟩ := H
                       go_wp2_with (first | ((with_reducible refine gate_dst (N := 95) rfl ?_); (try (refine gate_guard (by rfl) ?_; dsimp only)); refine Kd.R_lit (Kd.int .u8) _ 5 ?hg (N := 95) ?hd (xs := ([] : List Int)) (inner := []) (ok := fun _ => True) (okp := fun _ => True) ?hr ?hp (fun _ hk => hk) trivial (Below.refl _ _) (Nat.le_refl _) (by simp) ?_; (case hd => rfl); (case hg => rfl); (case hr => first | (go_simp; done) | (go_simp; rfl)); (case hp => exact (Reps.none _ _)); intro v215 w39 ho40 hb hg_ hnew_; clear hg_ hnew_; (first | rw [← Ny214.out] at ho40 | (simp only [Int.reduceToNat] at ho40; rw [← Ny214.out] at ho40)); have n0_ := Aside0.mk (Kd.R_elder' (pL_ HO_8.out) (Kd.R_base ho40) hb); have n1_ := Aside0.mk (Kd.R_lower (Kd.R_new' ho40 (Kd.R_lt (pL_ HO_8.out))) (below_size (pH_ HB.out))); have n2_ := Aside0.mk (below_step (pH_ HB.out) hb); clear HO_8; clear HB; have HO_8 := n0_; have HO216 := n1_; have HB := n2_; clear n0_ n1_ n2_; clear hb ho40; have q41 : ((wrap64 ((wrap64 ((wrap64 (256 * (wrap64 (rd x8_4 0)))) + (wrap64 (rd x8_4 1)))) + 2)) : Int) ≤ ((x8_4.length : Int) : Int) := of_decide_eq_true (by first | (with_reducible assumption) | assumption); obtain ⟨i041, hi041, _, hsz41, _⟩ := info_parts info5; have hroom41 : x8_4.length ≤ co32 := (Kd.R_reads' HO_8.out).2.1; have hC41 : Kd.C (Kd.int .u8) _ (some ad211) x8_4.length x8_4 := (Kd.R_reads' HO_8.out).2.2; have ql41 : (2 : Int) ≤ ((wrap64 ((wrap64 ((wrap64 (256 * (wrap64 (rd x8_4 0)))) + (wrap64 (rd x8_4 1)))) + 2)) : Int) := of_decide_eq_true (by first | (with_reducible assumption) | assumption); have hcut41 := cut_mid (P := Tryd.prog) 23 5 .i64 .i64 Tryd.underlying23 hi041 1 hsz41 (some ad211) x8_4.length co32 2 (wrap64 ((wrap64 ((wrap64 (256 * (wrap64 (rd x8_4 0)))) + (wrap64 (rd x8_4 1)))) + 2)) (by omega) ql41 q41 hroom41; have hr41 := Kd.C_mid (lo := (2 : Int).toNat) (hi := ((wrap64 ((wrap64 ((wrap64 (256 * (wrap64 (rd x8_4 0)))) + (wrap64 (rd x8_4 1)))) + 2)) : Int).toNat) (c := co32) hC41 (by omega) (by omega) hroom41; obtain ⟨A41, hA41⟩ : ∃ A1, A1 = (if co32 = (2 : Int).toNat then (some ad211) else ((some ad211) : Option Addr).map (·.add ((2 : Int).toNat * 1))) := ⟨_, rfl⟩; obtain ⟨c41, hc41⟩ : ∃ c1, c1 = co32 - (2 : Int).toNat := ⟨_, rfl⟩; have hy41 : y217.length = ((wrap64 ((wrap64 ((wrap64 (256 * (wrap64 (rd x8_4 0)))) + (wrap64 (rd x8_4 1)))) + 2)) : Int).toNat - (2 : Int).toNat := (by rw [Ny217.out, List.length_drop, List.length_take] <;> omega); rw [show ((x8_4).take ((wrap64 ((wrap64 ((wrap64 (256 * (wrap64 (rd x8_4 0)))) + (wrap64 (rd x8_4 1)))) + 2)) : Int).toNat).drop (2 : Int).toNat = y217 from Ny217.out.symm] at hr41; replace hr41 : Kd.C (Kd.int .u8) _ A41 y217.length y217 := (by rw [hA41]; exact hr41); rw [← hy41, ← hA41, ← hc41] at hcut41; have HR220 := Aside0.mk hr41; have HC220 := Aside0.mk (show y217.length ≤ c41 from by rw [hy41, hc41]; exact Nat.sub_le_sub_right (Nat.le_trans (by omega) hroom41) _); clear hr41 hC41 hroom41 hi041 hsz41 hc41; have KY41 := Aside0.mk hy41; have KA41 := Aside0.mk hA41; clear hy41 hA41; have KL41 := Aside0.mk (show ((wrap64 ((wrap64 ((wrap64 (256 * (wrap64 (rd x8_4 0)))) + (wrap64 (rd x8_4 1)))) + 2)) : Int).toNat ≤ x8_4.length from by omega); have KM41 := Aside0.mk (show 2 ≤ ((wrap64 ((wrap64 ((wrap64 (256 * (wrap64 (rd x8_4 0)))) + (wrap64 (rd x8_4 1)))) + 2)) : Int).toNat from by omega); replace q41 := eq_true q41) | ((with_reducible refine gate_builtin (b := .append) (xs := #[.tmp 95, .tmp 99]) rfl ?_); (try (refine gate_guard (by rfl) ?_; dsimp only)); at_builtin; refine Kd.R_append_rows (Kd.int .u8) (w0 := w) w.heap.size rfl (.tmp 95) (.tmp 99) 23 5 (.int .u8 0) 1 rfl Tryd.underlying23 info5 rfl (by decide) (by omega) v215 y214 y217 _ _ _ (fun k_ => some k_ ≠ (.slice (some ad211) x8_4.length co32 : Value).ownBlock) (fun _ => False) rfl rfl ?aO ?aR (fun _ _ h => h) (fun _ h => h.elim) ?aF ?aB ?aS ?aL ?_; (case aR => repeat (first | exact (by repeat (first | (with_reducible exact HR220.out) | (with_reducible refine Kd.C_alloc ?_ _) | (with_reducible refine Kd.C_drewN ?_ _) | (with_reducible refine Kd.C_drew ?_) | exact HR220.out)) | (with_reducible refine Kd.C_alloc ?_ _) | (with_reducible refine Kd.C_drewN ?_ _) | (with_reducible refine Kd.C_drew ?_))); (case aB => exact (pH_ HB.out)); (case aF => exact (fun k_ hk => Kd.fresh' (Kd.R_lt (pL_ HO_8.out)) k_ hk)); (case aO => exact (by (with_reducible repeat (first | apply rA_ | apply rN_ | apply rD_)); exact Kd.R_mono HO216.out (fun _ hk => hk.2))); (case aS => exact (below_size (pH_ HB.out))); (case aL => have := LMc38.out; omega); intro v222 w42 ho hb hg hat; (try simp only [Int.reduceToNat] at ho); rw [← Ny221.out] at ho; have n0_ := Aside0.mk (Kd.R_after (ok := (fun _ => True)) (pL_ HO_8.out) hg hat); have n1_ := Aside0.mk (hb); have n2_ := Aside0.mk ((show Kd.C (Kd.int .u8) w42 A41 y217.length y217 from by rw [Ny217.out, KA41.out]; exact Kd.C_mid (lo := 2) (hi := ((wrap64 ((wrap64 ((wrap64 (256 * (wrap64 (rd x8_4 0)))) + (wrap64 (rd x8_4 1)))) + 2)) : Int).toNat) (c := co32) ((Kd.R_reads' (Kd.R_after (ok := (fun _ => True)) (pL_ HO_8.out) hg hat)).2.2) KM41.out KL41.out ((Kd.R_reads' (Kd.R_after (ok := (fun _ => True)) (pL_ HO_8.out) hg hat)).2.1))); have n3_ := Aside0.mk (ho); clear HO_8; clear HB; clear HR220; clear HO216; have HO_8 := n0_; have HB := n1_; have HR220 := n2_; have HO223 := n3_; clear n0_ n1_ n2_ n3_; clear ho hb hg hat))
                       repeat (go_quiet (first | ((with_reducible refine gate_dst (N := 95) rfl ?_); (try (refine gate_guard (by rfl) ?_; dsimp only)); refine Kd.R_lit (Kd.int .u8) _ 5 ?hg (N := 95) ?hd (xs := ([] : List Int)) (inner := []) (ok := fun _ => True) (okp := fun _ => True) ?hr ?hp (fun _ hk => hk) trivial (Below.refl _ _) (Nat.le_refl _) (by simp) ?_; (case hd => rfl); (case hg => rfl); (case hr => first | (go_simp; done) | (go_simp; rfl)); (case hp => exact (Reps.none _ _)); intro v215 w39 ho40 hb hg_ hnew_; clear hg_ hnew_; (first | rw [← Ny214.out] at ho40 | (simp only [Int.reduceToNat] at ho40; rw [← Ny214.out] at ho40)); have n0_ := Aside0.mk (Kd.R_elder' (pL_ HO_8.out) (Kd.R_base ho40) hb); have n1_ := Aside0.mk (Kd.R_lower (Kd.R_new' ho40 (Kd.R_lt (pL_ HO_8.out))) (below_size (pH_ HB.out))); have n2_ := Aside0.mk (below_step (pH_ HB.out) hb); clear HO_8; clear HB; have HO_8 := n0_; have HO216 := n1_; have HB := n2_; clear n0_ n1_ n2_; clear hb ho40; have q41 : ((wrap64 ((wrap64 ((wrap64 (256 * (wrap64 (rd x8_4 0)))) + (wrap64 (rd x8_4 1)))) + 2)) : Int) ≤ ((x8_4.length : Int) : Int) := of_decide_eq_true (by first | (with_reducible assumption) | assumption); obtain ⟨i041, hi041, _, hsz41, _⟩ := info_parts info5; have hroom41 : x8_4.length ≤ co32 := (Kd.R_reads' HO_8.out).2.1; have hC41 : Kd.C (Kd.int .u8) _ (some ad211) x8_4.length x8_4 := (Kd.R_reads' HO_8.out).2.2; have ql41 : (2 : Int) ≤ ((wrap64 ((wrap64 ((wrap64 (256 * (wrap64 (rd x8_4 0)))) + (wrap64 (rd x8_4 1)))) + 2)) : Int) := of_decide_eq_true (by first | (with_reducible assumption) | assumption); have hcut41 := cut_mid (P := Tryd.prog) 23 5 .i64 .i64 Tryd.underlying23 hi041 1 hsz41 (some ad211) x8_4.length co32 2 (wrap64 ((wrap64 ((wrap64 (256 * (wrap64 (rd x8_4 0)))) + (wrap64 (rd x8_4 1)))) + 2)) (by omega) ql41 q41 hroom41; have hr41 := Kd.C_mid (lo := (2 : Int).toNat) (hi := ((wrap64 ((wrap64 ((wrap64 (256 * (wrap64 (rd x8_4 0)))) + (wrap64 (rd x8_4 1)))) + 2)) : Int).toNat) (c := co32) hC41 (by omega) (by omega) hroom41; obtain ⟨A41, hA41⟩ : ∃ A1, A1 = (if co32 = (2 : Int).toNat then (some ad211) else ((some ad211) : Option Addr).map (·.add ((2 : Int).toNat * 1))) := ⟨_, rfl⟩; obtain ⟨c41, hc41⟩ : ∃ c1, c1 = co32 - (2 : Int).toNat := ⟨_, rfl⟩; have hy41 : y217.length = ((wrap64 ((wrap64 ((wrap64 (256 * (wrap64 (rd x8_4 0)))) + (wrap64 (rd x8_4 1)))) + 2)) : Int).toNat - (2 : Int).toNat := (by rw [Ny217.out, List.length_drop, List.length_take] <;> omega); rw [show ((x8_4).take ((wrap64 ((wrap64 ((wrap64 (256 * (wrap64 (rd x8_4 0)))) + (wrap64 (rd x8_4 1)))) + 2)) : Int).toNat).drop (2 : Int).toNat = y217 from Ny217.out.symm] at hr41; replace hr41 : Kd.C (Kd.int .u8) _ A41 y217.length y217 := (by rw [hA41]; exact hr41); rw [← hy41, ← hA41, ← hc41] at hcut41; have HR220 := Aside0.mk hr41; have HC220 := Aside0.mk (show y217.length ≤ c41 from by rw [hy41, hc41]; exact Nat.sub_le_sub_right (Nat.le_trans (by omega) hroom41) _); clear hr41 hC41 hroom41 hi041 hsz41 hc41; have KY41 := Aside0.mk hy41; have KA41 := Aside0.mk hA41; clear hy41 hA41; have KL41 := Aside0.mk (show ((wrap64 ((wrap64 ((wrap64 (256 * (wrap64 (rd x8_4 0)))) + (wrap64 (rd x8_4 1)))) + 2)) : Int).toNat ≤ x8_4.length from by omega); have KM41 := Aside0.mk (show 2 ≤ ((wrap64 ((wrap64 ((wrap64 (256 * (wrap64 (rd x8_4 0)))) + (wrap64 (rd x8_4 1)))) + 2)) : Int).toNat from by omega); replace q41 := eq_true q41) | ((with_reducible refine gate_builtin (b := .append) (xs := #[.tmp 95, .tmp 99]) rfl ?_); (try (refine gate_guard (by rfl) ?_; dsimp only)); at_builtin; refine Kd.R_append_rows (Kd.int .u8) (w0 := w) w.heap.size rfl (.tmp 95) (.tmp 99) 23 5 (.int .u8 0) 1 rfl Tryd.underlying23 info5 rfl (by decide) (by omega) v215 y214 y217 _ _ _ (fun k_ => some k_ ≠ (.slice (some ad211) x8_4.length co32 : Value).ownBlock) (fun _ => False) rfl rfl ?aO ?aR (fun _ _ h => h) (fun _ h => h.elim) ?aF ?aB ?aS ?aL ?_; (case aR => repeat (first | exact (by repeat (first | (with_reducible exact HR220.out) | (with_reducible refine Kd.C_alloc ?_ _) | (with_reducible refine Kd.C_drewN ?_ _) | (with_reducible refine Kd.C_drew ?_) | exact HR220.out)) | (with_reducible refine Kd.C_alloc ?_ _) | (with_reducible refine Kd.C_drewN ?_ _) | (with_reducible refine Kd.C_drew ?_))); (case aB => exact (pH_ HB.out)); (case aF => exact (fun k_ hk => Kd.fresh' (Kd.R_lt (pL_ HO_8.out)) k_ hk)); (case aO => exact (by (with_reducible repeat (first | apply rA_ | apply rN_ | apply rD_)); exact Kd.R_mono HO216.out (fun _ hk => hk.2))); (case aS => exact (below_size (pH_ HB.out))); (case aL => have := LMc38.out; omega); intro v222 w42 ho hb hg hat; (try simp only [Int.reduceToNat] at ho); rw [← Ny221.out] at ho; have n0_ := Aside0.mk (Kd.R_after (ok := (fun _ => True)) (pL_ HO_8.out) hg hat); have n1_ := Aside0.mk (hb); have n2_ := Aside0.mk ((show Kd.C (Kd.int .u8) w42 A41 y217.length y217 from by rw [Ny217.out, KA41.out]; exact Kd.C_mid (lo := 2) (hi := ((wrap64 ((wrap64 ((wrap64 (256 * (wrap64 (rd x8_4 0)))) + (wrap64 (rd x8_4 1)))) + 2)) : Int).toNat) (c := co32) ((Kd.R_reads' (Kd.R_after (ok := (fun _ => True)) (pL_ HO_8.out) hg hat)).2.2) KM41.out KL41.out ((Kd.R_reads' (Kd.R_after (ok := (fun _ => True)) (pL_ HO_8.out) hg hat)).2.1))); have n3_ := Aside0.mk (ho); clear HO_8; clear HB; clear HR220; clear HO216; have HO_8 := n0_; have HB := n1_; have HR220 := n2_; have HO223 := n3_; clear n0_ n1_ n2_ n3_; clear ho hb hg hat)); try go_wp2_with (first | ((with_reducible refine gate_dst (N := 95) rfl ?_); (try (refine gate_guard (by rfl) ?_; dsimp only)); refine Kd.R_lit (Kd.int .u8) _ 5 ?hg (N := 95) ?hd (xs := ([] : List Int)) (inner := []) (ok := fun _ => True) (okp := fun _ => True) ?hr ?hp (fun _ hk => hk) trivial (Below.refl _ _) (Nat.le_refl _) (by simp) ?_; (case hd => rfl); (case hg => rfl); (case hr => first | (go_simp; done) | (go_simp; rfl)); (case hp => exact (Reps.none _ _)); intro v215 w39 ho40 hb hg_ hnew_; clear hg_ hnew_; (first | rw [← Ny214.out] at ho40 | (simp only [Int.reduceToNat] at ho40; rw [← Ny214.out] at ho40)); have n0_ := Aside0.mk (Kd.R_elder' (pL_ HO_8.out) (Kd.R_base ho40) hb); have n1_ := Aside0.mk (Kd.R_lower (Kd.R_new' ho40 (Kd.R_lt (pL_ HO_8.out))) (below_size (pH_ HB.out))); have n2_ := Aside0.mk (below_step (pH_ HB.out) hb); clear HO_8; clear HB; have HO_8 := n0_; have HO216 := n1_; have HB := n2_; clear n0_ n1_ n2_; clear hb ho40; have q41 : ((wrap64 ((wrap64 ((wrap64 (256 * (wrap64 (rd x8_4 0)))) + (wrap64 (rd x8_4 1)))) + 2)) : Int) ≤ ((x8_4.length : Int) : Int) := of_decide_eq_true (by first | (with_reducible assumption) | assumption); obtain ⟨i041, hi041, _, hsz41, _⟩ := info_parts info5; have hroom41 : x8_4.length ≤ co32 := (Kd.R_reads' HO_8.out).2.1; have hC41 : Kd.C (Kd.int .u8) _ (some ad211) x8_4.length x8_4 := (Kd.R_reads' HO_8.out).2.2; have ql41 : (2 : Int) ≤ ((wrap64 ((wrap64 ((wrap64 (256 * (wrap64 (rd x8_4 0)))) + (wrap64 (rd x8_4 1)))) + 2)) : Int) := of_decide_eq_true (by first | (with_reducible assumption) | assumption); have hcut41 := cut_mid (P := Tryd.prog) 23 5 .i64 .i64 Tryd.underlying23 hi041 1 hsz41 (some ad211) x8_4.length co32 2 (wrap64 ((wrap64 ((wrap64 (256 * (wrap64 (rd x8_4 0)))) + (wrap64 (rd x8_4 1)))) + 2)) (by omega) ql41 q41 hroom41; have hr41 := Kd.C_mid (lo := (2 : Int).toNat) (hi := ((wrap64 ((wrap64 ((wrap64 (256 * (wrap64 (rd x8_4 0)))) + (wrap64 (rd x8_4 1)))) + 2)) : Int).toNat) (c := co32) hC41 (by omega) (by omega) hroom41; obtain ⟨A41, hA41⟩ : ∃ A1, A1 = (if co32 = (2 : Int).toNat then (some ad211) else ((some ad211) : Option Addr).map (·.add ((2 : Int).toNat * 1))) := ⟨_, rfl⟩; obtain ⟨c41, hc41⟩ : ∃ c1, c1 = co32 - (2 : Int).toNat := ⟨_, rfl⟩; have hy41 : y217.length = ((wrap64 ((wrap64 ((wrap64 (256 * (wrap64 (rd x8_4 0)))) + (wrap64 (rd x8_4 1)))) + 2)) : Int).toNat - (2 : Int).toNat := (by rw [Ny217.out, List.length_drop, List.length_take] <;> omega); rw [show ((x8_4).take ((wrap64 ((wrap64 ((wrap64 (256 * (wrap64 (rd x8_4 0)))) + (wrap64 (rd x8_4 1)))) + 2)) : Int).toNat).drop (2 : Int).toNat = y217 from Ny217.out.symm] at hr41; replace hr41 : Kd.C (Kd.int .u8) _ A41 y217.length y217 := (by rw [hA41]; exact hr41); rw [← hy41, ← hA41, ← hc41] at hcut41; have HR220 := Aside0.mk hr41; have HC220 := Aside0.mk (show y217.length ≤ c41 from by rw [hy41, hc41]; exact Nat.sub_le_sub_right (Nat.le_trans (by omega) hroom41) _); clear hr41 hC41 hroom41 hi041 hsz41 hc41; have KY41 := Aside0.mk hy41; have KA41 := Aside0.mk hA41; clear hy41 hA41; have KL41 := Aside0.mk (show ((wrap64 ((wrap64 ((wrap64 (256 * (wrap64 (rd x8_4 0)))) + (wrap64 (rd x8_4 1)))) + 2)) : Int).toNat ≤ x8_4.length from by omega); have KM41 := Aside0.mk (show 2 ≤ ((wrap64 ((wrap64 ((wrap64 (256 * (wrap64 (rd x8_4 0)))) + (wrap64 (rd x8_4 1)))) + 2)) : Int).toNat from by omega); replace q41 := eq_true q41) | ((with_reducible refine gate_builtin (b := .append) (xs := #[.tmp 95, .tmp 99]) rfl ?_); (try (refine gate_guard (by rfl) ?_; dsimp only)); at_builtin; refine Kd.R_append_rows (Kd.int .u8) (w0 := w) w.heap.size rfl (.tmp 95) (.tmp 99) 23 5 (.int .u8 0) 1 rfl Tryd.underlying23 info5 rfl (by decide) (by omega) v215 y214 y217 _ _ _ (fun k_ => some k_ ≠ (.slice (some ad211) x8_4.length co32 : Value).ownBlock) (fun _ => False) rfl rfl ?aO ?aR (fun _ _ h => h) (fun _ h => h.elim) ?aF ?aB ?aS ?aL ?_; (case aR => repeat (first | exact (by repeat (first | (with_reducible exact HR220.out) | (with_reducible refine Kd.C_alloc ?_ _) | (with_reducible refine Kd.C_drewN ?_ _) | (with_reducible refine Kd.C_drew ?_) | exact HR220.out)) | (with_reducible refine Kd.C_alloc ?_ _) | (with_reducible refine Kd.C_drewN ?_ _) | (with_reducible refine Kd.C_drew ?_))); (case aB => exact (pH_ HB.out)); (case aF => exact (fun k_ hk => Kd.fresh' (Kd.R_lt (pL_ HO_8.out)) k_ hk)); (case aO => exact (by (with_reducible repeat (first | apply rA_ | apply rN_ | apply rD_)); exact Kd.R_mono HO216.out (fun _ hk => hk.2))); (case aS => exact (below_size (pH_ HB.out))); (case aL => have := LMc38.out; omega); intro v222 w42 ho hb hg hat; (try simp only [Int.reduceToNat] at ho); rw [← Ny221.out] at ho; have n0_ := Aside0.mk (Kd.R_after (ok := (fun _ => True)) (pL_ HO_8.out) hg hat); have n1_ := Aside0.mk (hb); have n2_ := Aside0.mk ((show Kd.C (Kd.int .u8) w42 A41 y217.length y217 from by rw [Ny217.out, KA41.out]; exact Kd.C_mid (lo := 2) (hi := ((wrap64 ((wrap64 ((wrap64 (256 * (wrap64 (rd x8_4 0)))) + (wrap64 (rd x8_4 1)))) + 2)) : Int).toNat) (c := co32) ((Kd.R_reads' (Kd.R_after (ok := (fun _ => True)) (pL_ HO_8.out) hg hat)).2.2) KM41.out KL41.out ((Kd.R_reads' (Kd.R_after (ok := (fun _ => True)) (pL_ HO_8.out) hg hat)).2.1))); have n3_ := Aside0.mk (ho); clear HO_8; clear HB; clear HR220; clear HO216; have HO_8 := n0_; have HB := n1_; have HR220 := n2_; have HO223 := n3_; clear n0_ n1_ n2_ n3_; clear ho hb hg hat)))
                       go_ret2
                       exact ⟨_, by first | rfl | (simp [errW_none, errW_some] <;> rfl) | (simp [*, errW_none, errW_some] <;> rfl), by (with_reducible repeat (first | apply rA_ | apply rN_ | apply rD_)); exact Kd.R_mono HO223.out (fun _ hk => trivial), pH_ HB.out⟩
                      ·
                       rw [if_neg c38] at H; exact absurd H (by simp)
                     ·
                      rw [if_neg c37] at H; exact absurd H (by simp)
                    ·
                     rw [if_neg c36] at H; exact absurd H (by simp)
               ·
                rw [if_neg c29] at H; exact absurd H (by simp)
              ·
               rw [if_neg c28] at H; exact absurd H (by simp)
          ·
           rw [if_neg c14] at H; exact absurd H (by simp)

end Go.Proofs.YtejamobohmljfaaDoor.XParityMends
