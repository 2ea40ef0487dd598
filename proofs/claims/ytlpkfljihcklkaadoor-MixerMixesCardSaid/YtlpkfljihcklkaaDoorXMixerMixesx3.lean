-- Laid by a program of this session (wip/mkxprint.py, over the kit's print): Lean checks it.
import Derived.Test.YtlpkfljihcklkaaDoorXMixerMixesx0
import Derived.Test.YtlpkfljihcklkaaDoorXMixerMixesx2
namespace Go.Proofs.YtlpkfljihcklkaaDoor.XMixerMixes
open List (setIfInBounds_toArray set_cons_zero set_cons_succ)
open Go.RowKit Go.Proofs.YtlpkfljihcklkaaDoorW.PrintWords Go.Proofs.YtlpkfljihcklkaaDoorW.PrintLast Go.Proofs.YtlpkfljihcklkaaDoorW.PrintMore
attribute [local go_sem] max2_int min2_int max_two min_two max_three min_three max_four min_four   -- for this text's walks alone
set_option linter.unusedVariables false
set_option linter.unusedSimpArgs false

/-! ### bitloftref16_In: function 42 -/
def bitloftref16_In.l0 : Nat → List Int → Int → Option (Bool)
 | 0, _, _ => none
 | k + 1, x0, x3 => if x3 < 8 then (if 0 ≤ x3 then (if x3 < (x0.length : Int) then (if (rd x0 x3) < (-2047) then (some false) else (if (rd x0 x3) > 2047 then (some false) else (bitloftref16_In.l0 k x0 (wrap64 (x3 + 1))))) else (none)) else (none)) else (some true)
def bitloftref16_In.f (k : Nat) (l0 : List Int) : Option (Bool) := if (l0.length : Int) = 8 then (bitloftref16_In.l0 k l0 0) else (some false)
theorem bitloftref16_In.mono_l : ∀ k, (∀ y0 y1, LeO (bitloftref16_In.l0 k y0 y1) (bitloftref16_In.l0 (k + 1) y0 y1))
 | 0 => fun _ _ r h => by simp [bitloftref16_In.l0] at h
 | k + 1 => by
  have ih0 := bitloftref16_In.mono_l k
  ·
   intro y0 y1
   unfold bitloftref16_In.l0
   repeat' first
   | (with_reducible exact ih0 _ _)
   | (with_reducible exact LeO.refl _)
   | (with_reducible exact LeO.none _)
   | (with_reducible refine LeO.ite ?_ ?_)
   | (with_reducible refine LeO.bind ?_ (fun _ => ?_))
   | exact ih0 _ _
   | exact LeO.none _
   | refine LeO.ite ?_ ?_
   | refine LeO.bind ?_ (fun _ => ?_)
theorem bitloftref16_In.mono : ∀ a0 k, LeO (bitloftref16_In.f k a0) (bitloftref16_In.f (k + 1) a0) := by
 intro a0 k; have ih0 := bitloftref16_In.mono_l k
 unfold bitloftref16_In.f
 repeat' first
   | (with_reducible exact ih0 _ _)
   | (with_reducible exact LeO.refl _)
   | (with_reducible exact LeO.none _)
   | (with_reducible refine LeO.ite ?_ ?_)
   | (with_reducible refine LeO.bind ?_ (fun _ => ?_))
   | exact ih0 _ _
   | exact LeO.none _
   | refine LeO.ite ?_ ?_
   | refine LeO.bind ?_ (fun _ => ?_)
set_option maxHeartbeats 8000000 in
set_option maxRecDepth 100000 in
theorem bitloftref16_In.calls (k : Nat) (A0 : Option Addr) (c0 : Nat) (l0 : List Int) (r : Bool) (w : World) (hr0 : Kd.C (Kd.int .i32) w A0 l0.length l0) (hc0 : l0.length ≤ c0) (h : bitloftref16_In.f k l0 = some r) :
  Calls Tryd.prog 42 #[.slice A0 l0.length c0] w fun e w' => e = .returned (.bool r) ∧ Drawn0 w w' := by
 have HR0 := Aside0.mk hr0; have HC0 := Aside0.mk hc0; clear hr0 hc0; have H : (if (l0.length : Int) = 8 then (bitloftref16_In.l0 k l0 0) else (some false)) = some r := h; clear h
 by_cases c2 : (l0.length : Int) = 8
 ·
  rw [if_pos c2] at H; have c2b0 : ((l0.length : Int) == 8) = true := beq_iff_eq.mpr c2; have c2b1 : ((l0.length : Int) != 8) = false := bne_eq_false_iff_eq.mpr c2; clear c2; have H' := Aside0.mk H; clear H
  go_enter Tryd.func42, Tryd.ntmps42
  go_wp2
  go_loopg [3] k (fun kq v3 w' => ∃ (x3_1 : Int), v3 = .int .i64 x3_1 ∧ Aside0 (bitloftref16_In.l0 kq l0 x3_1 = some r) ∧ Aside0 (kq ≤ k) ∧ Drawn0 w w')
  case atStart => exact ⟨(0), (by first | rfl | (simp; done) | (simp [*]; done)), H', ⟨Nat.le_refl _⟩, by repeat (first | exact Drawn0.refl _ | apply Drawn0.step)⟩
  case round =>
   clear H'
   try clear c2
   try clear c2b0
   try clear c2b1
   try clear p2
   obtain ⟨x3_1, rfl, HA, HK1, ⟨m1, rfl⟩⟩ := hrel
   cases gk with
   | zero => exact absurd HA.out (by simp [bitloftref16_In.l0])
   | succ k1 =>
    have H := HA.out; clear HA; simp only [bitloftref16_In.l0] at H
    by_cases c3 : x3_1 < 8
    ·
     rw [if_pos c3] at H; have c3b0 : decide (x3_1 < 8) = true := decide_eq_true c3; clear c3
     by_cases c4 : 0 ≤ x3_1
     ·
      rw [if_pos c4] at H; have c4b0 : decide (0 ≤ x3_1) = true := decide_eq_true c4; clear c4
      by_cases c5 : x3_1 < (l0.length : Int)
      ·
       rw [if_pos c5] at H; have c5b0 : decide (x3_1 < (l0.length : Int)) = true := decide_eq_true c5; clear c5
       by_cases c6 : (rd l0 x3_1) < (-2047)
       ·
        rw [if_pos c6] at H; have c6b0 : decide ((rd l0 x3_1) < (-2047)) = true := decide_eq_true c6; clear c6; obtain rfl := Option.some.inj H; have p145 : 0 ≤ (x3_1 : Int) := of_decide_eq_true (by first | (with_reducible assumption) | assumption); have q145 : x3_1 < (l0.length : Int) := of_decide_eq_true (by first | (with_reducible assumption) | assumption); obtain ⟨ad145, e145, hx145_0⟩ := Kd.at_int HR0.out x3_1 p145 q145
        cases e145
        replace p145 := eq_true p145; replace q145 := eq_true q145
        go_wp2
        go_ret
        exact ⟨by first | rfl | (simp; done) | (simp [*]; done), by repeat (first | exact Drawn0.refl _ | apply Drawn0.step)⟩
       ·
        rw [if_neg c6] at H; have c6b0 : decide ((rd l0 x3_1) < (-2047)) = false := decide_eq_false c6; clear c6
        by_cases c7 : (rd l0 x3_1) > 2047
        ·
         rw [if_pos c7] at H; have c7b0 : decide (2047 < (rd l0 x3_1)) = true := decide_eq_true c7; clear c7; obtain rfl := Option.some.inj H; have p145 : 0 ≤ (x3_1 : Int) := of_decide_eq_true (by first | (with_reducible assumption) | assumption); have q145 : x3_1 < (l0.length : Int) := of_decide_eq_true (by first | (with_reducible assumption) | assumption); obtain ⟨ad145, e145, hx145_0⟩ := Kd.at_int HR0.out x3_1 p145 q145
         cases e145
         replace p145 := eq_true p145; replace q145 := eq_true q145; have p146 : 0 ≤ (x3_1 : Int) := of_decide_eq_true (by first | (with_reducible assumption) | assumption); have q146 : x3_1 < (l0.length : Int) := of_decide_eq_true (by first | (with_reducible assumption) | assumption); obtain ⟨ad146, e146, hx146_0⟩ := Kd.at_int HR0.out x3_1 p146 q146; obtain rfl : ad145 = ad146 := (by injection e146); replace p146 := eq_true p146; replace q146 := eq_true q146
         go_wp2
         go_ret
         exact ⟨by first | rfl | (simp; done) | (simp [*]; done), by repeat (first | exact Drawn0.refl _ | apply Drawn0.step)⟩
        ·
         rw [if_neg c7] at H; have c7b0 : decide (2047 < (rd l0 x3_1)) = false := decide_eq_false c7; clear c7; have H' := Aside0.mk H; clear H; have p145 : 0 ≤ (x3_1 : Int) := of_decide_eq_true (by first | (with_reducible assumption) | assumption); have q145 : x3_1 < (l0.length : Int) := of_decide_eq_true (by first | (with_reducible assumption) | assumption); obtain ⟨ad145, e145, hx145_0⟩ := Kd.at_int HR0.out x3_1 p145 q145
         cases e145
         replace p145 := eq_true p145; replace q145 := eq_true q145; have p146 : 0 ≤ (x3_1 : Int) := of_decide_eq_true (by first | (with_reducible assumption) | assumption); have q146 : x3_1 < (l0.length : Int) := of_decide_eq_true (by first | (with_reducible assumption) | assumption); obtain ⟨ad146, e146, hx146_0⟩ := Kd.at_int HR0.out x3_1 p146 q146; obtain rfl : ad145 = ad146 := (by injection e146); replace p146 := eq_true p146; replace q146 := eq_true q146
         go_wp2
         go_roundg k1
         case measure => have := HK1.out; omega
         case rel => exact ⟨(wrap64 (x3_1 + 1)), (by first | rfl | (simp; done) | (simp [*]; done)), H', ⟨by have := HK1.out; omega⟩, by repeat (first | exact Drawn0.refl _ | apply Drawn0.step)⟩
      ·
       rw [if_neg c5] at H; exact absurd H (by simp)
     ·
      rw [if_neg c4] at H; exact absurd H (by simp)
    ·
     rw [if_neg c3] at H; have c3b0 : decide (x3_1 < 8) = false := decide_eq_false c3; clear c3; obtain rfl := Option.some.inj H
     go_wp2
     go_ret
     exact ⟨by first | rfl | (simp; done) | (simp [*]; done), by repeat (first | exact Drawn0.refl _ | apply Drawn0.step)⟩
 ·
  rw [if_neg c2] at H; have c2b0 : ((l0.length : Int) == 8) = false := beq_eq_false_iff_ne.mpr c2; have c2b1 : ((l0.length : Int) != 8) = true := bne_iff_ne.mpr c2; obtain rfl := Option.some.inj H
  go_enter Tryd.func42, Tryd.ntmps42
  go_wp2
  go_ret
  exact ⟨by first | rfl | (simp; done) | (simp [*]; done), by repeat (first | exact Drawn0.refl _ | apply Drawn0.step)⟩

/-! ### bitloftref16_Asked: function 27 -/
def bitloftref16_Asked.f (k : Nat) (l0_0 : List (List Int)) (a1 : Int) (l2 : List Int) : Option (Int) := (bitloftref16_Check.f k l0_0).bind fun t148 => (if t148 = 0 then (if a1 < 0 then (some 2) else (if a1 ≥ (l0_0.length : Int) then (some 2) else ((bitloftref16_In.f k l2).bind fun t149 => (if t149 = true then (some 0) else (some 2))))) else ((bitloftref16_Check.f k l0_0).bind fun t150 => (some t150)))
theorem bitloftref16_Asked.mono : ∀ a0 a1 a2 k, LeO (bitloftref16_Asked.f k a0 a1 a2) (bitloftref16_Asked.f (k + 1) a0 a1 a2) := by
 intro a0 a1 a2 k
 unfold bitloftref16_Asked.f
 repeat' first
   | (with_reducible exact bitloftref16_Check.mono _ _)
   | (with_reducible exact bitloftref16_In.mono _ _)
   | (with_reducible exact LeO.refl _)
   | (with_reducible exact LeO.none _)
   | (with_reducible refine LeO.ite ?_ ?_)
   | (with_reducible refine LeO.bind ?_ (fun _ => ?_))
   | exact bitloftref16_Check.mono _ _
   | exact bitloftref16_In.mono _ _
   | exact LeO.none _
   | refine LeO.ite ?_ ?_
   | refine LeO.bind ?_ (fun _ => ?_)
set_option maxHeartbeats 8000000 in
set_option maxRecDepth 100000 in
theorem bitloftref16_Asked.calls (k : Nat) (A0_0 : Option Addr) (c0_0 : Nat) (l0_0 : List (List Int)) (a1 : Int) (A2 : Option Addr) (c2 : Nat) (l2 : List Int) (r : Int) (w : World) (hr0_0 : Kd.C (Kd.slice 21 (Kd.int .i32)) w A0_0 l0_0.length l0_0) (hc0_0 : l0_0.length ≤ c0_0) (hr2 : Kd.C (Kd.int .i32) w A2 l2.length l2) (hc2 : l2.length ≤ c2) (h : bitloftref16_Asked.f k l0_0 a1 l2 = some r) :
  Calls Tryd.prog 27 #[.agg #[.slice A0_0 l0_0.length c0_0], .int .i64 a1, .slice A2 l2.length c2] w fun e w' => e = .returned (.int .i64 r) ∧ Below w.heap.size w w' := by
 have hu24 := Tryd.underlying24; have HR0_0 := Aside0.mk hr0_0; have HC0_0 := Aside0.mk hc0_0; clear hr0_0 hc0_0; have HR2 := Aside0.mk hr2; have HC2 := Aside0.mk hc2; clear hr2 hc2; have HB := Aside0.mk (Below.refl w.heap.size w); have H : ((bitloftref16_Check.f k l0_0).bind fun t148 => (if t148 = 0 then (if a1 < 0 then (some 2) else (if a1 ≥ (l0_0.length : Int) then (some 2) else ((bitloftref16_In.f k l2).bind fun t149 => (if t149 = true then (some 0) else (some 2))))) else ((bitloftref16_Check.f k l0_0).bind fun t150 => (some t150)))) = some r := h; clear h; replace H := Option.bind_eq_some_iff.mp H; obtain ⟨t148, A40, H⟩ := H; replace H : (if t148 = 0 then (if a1 < 0 then (some 2) else (if a1 ≥ (l0_0.length : Int) then (some 2) else ((bitloftref16_In.f k l2).bind fun t149 => (if t149 = true then (some 0) else (some 2))))) else ((bitloftref16_Check.f k l0_0).bind fun t150 => (some t150))) = some r := H; have A4 := Aside0.mk A40; clear A40
 by_cases c5 : t148 = 0
 ·
  rw [if_pos c5] at H; have c5b0 : (t148 == 0) = true := beq_iff_eq.mpr c5; have c5b1 : (t148 != 0) = false := bne_eq_false_iff_eq.mpr c5; clear c5
  by_cases c6 : a1 < 0
  ·
   rw [if_pos c6] at H; have c6b0 : decide (a1 < 0) = true := decide_eq_true c6; clear c6; obtain rfl := Option.some.inj H
   go_enter Tryd.func27, Tryd.ntmps27
   go_wp2_with (first | ((with_reducible refine gate_dst (N := 3) rfl ?_); (try (refine gate_guard (by rfl) ?_; dsimp only)); refine box_event ?hg (N := 3) ?hd (cs := #[.slice A0_0 l0_0.length c0_0]) (t := 24) ?hr ?_; (case hd => rfl); (case hg => rfl); (case hr => first | (go_simp; done) | (go_simp; rfl)); intro gb147 hg w7 hbox hb; have n0_ := Aside0.mk (below_step (pH_ HB.out) hb); have n1_ := Aside0.mk (hbox); have n2_ := Aside0.mk ((by rw [hg]; exact (below_size (pH_ HB.out)) : w.heap.size ≤ gb147)); have n3_ := Aside0.mk ((by rw [hg]; exact (below_size (pH_ HB.out)) : w.heap.size ≤ gb147)); clear HB; have HB := n0_; have BK147 := n1_; have GW147 := n2_; have GE147 := n3_; clear n0_ n1_ n2_ n3_; clear hb hbox hg; have hcz8_0 : w7.cell? ⟨gb147, 0, none⟩ = some (.slice A0_0 l0_0.length c0_0) := (blk_cell BK147.out 0).trans rfl; have hfz8_0 := blk_frozen BK147.out 0) | ((with_reducible refine gate_callee (f := 17) rfl ?_); refine gL_ (some 8) Tryd.func17 #[.agg #[.slice A0_0 l0_0.length c0_0]] ?_; (with_reducible refine (bitloftref16_Check.calls k _ _ l0_0 t148 _ ?side1 ?side2 A4.out).mono ?_); (case side1 => repeat (first | exact (Kd.C_below HR0_0.out HB.out) | (with_reducible refine Kd.C_alloc ?_ _) | (with_reducible refine Kd.C_drewN ?_ _) | (with_reducible refine Kd.C_drew ?_))); (case side2 => exact HC0_0.out); rintro e w9 ⟨rfl, hb⟩; refine ⟨_, rfl, ?_⟩; have n0_ := Aside0.mk (blk_below (pG_ BK147.out) hb); have n1_ := Aside0.mk (below_step (pH_ HB.out) hb); clear BK147; clear HB; have BK147 := n0_; have HB := n1_; clear n0_ n1_; (try clear hb)))
   go_ret
   exact ⟨by first | rfl | (simp [errW_none, errW_some] <;> rfl) | (simp [*, errW_none, errW_some] <;> rfl), pH_ HB.out⟩
  ·
   rw [if_neg c6] at H; have c6b0 : decide (a1 < 0) = false := decide_eq_false c6; clear c6
   by_cases c10 : a1 ≥ (l0_0.length : Int)
   ·
    rw [if_pos c10] at H; have c10b0 : decide ((l0_0.length : Int) ≤ a1) = true := decide_eq_true c10; clear c10; obtain rfl := Option.some.inj H
    go_enter Tryd.func27, Tryd.ntmps27
    go_wp2_with (first | ((with_reducible refine gate_dst (N := 3) rfl ?_); (try (refine gate_guard (by rfl) ?_; dsimp only)); refine box_event ?hg (N := 3) ?hd (cs := #[.slice A0_0 l0_0.length c0_0]) (t := 24) ?hr ?_; (case hd => rfl); (case hg => rfl); (case hr => first | (go_simp; done) | (go_simp; rfl)); intro gb147 hg w11 hbox hb; have n0_ := Aside0.mk (below_step (pH_ HB.out) hb); have n1_ := Aside0.mk (hbox); have n2_ := Aside0.mk ((by rw [hg]; exact (below_size (pH_ HB.out)) : w.heap.size ≤ gb147)); have n3_ := Aside0.mk ((by rw [hg]; exact (below_size (pH_ HB.out)) : w.heap.size ≤ gb147)); clear HB; have HB := n0_; have BK147 := n1_; have GW147 := n2_; have GE147 := n3_; clear n0_ n1_ n2_ n3_; clear hb hbox hg; have hcz12_0 : w11.cell? ⟨gb147, 0, none⟩ = some (.slice A0_0 l0_0.length c0_0) := (blk_cell BK147.out 0).trans rfl; have hfz12_0 := blk_frozen BK147.out 0) | ((with_reducible refine gate_callee (f := 17) rfl ?_); refine gL_ (some 8) Tryd.func17 #[.agg #[.slice A0_0 l0_0.length c0_0]] ?_; (with_reducible refine (bitloftref16_Check.calls k _ _ l0_0 t148 _ ?side1 ?side2 A4.out).mono ?_); (case side1 => repeat (first | exact (Kd.C_below HR0_0.out HB.out) | (with_reducible refine Kd.C_alloc ?_ _) | (with_reducible refine Kd.C_drewN ?_ _) | (with_reducible refine Kd.C_drew ?_))); (case side2 => exact HC0_0.out); rintro e w13 ⟨rfl, hb⟩; refine ⟨_, rfl, ?_⟩; have n0_ := Aside0.mk (blk_below (pG_ BK147.out) hb); have n1_ := Aside0.mk (below_step (pH_ HB.out) hb); clear BK147; clear HB; have BK147 := n0_; have HB := n1_; clear n0_ n1_; (try clear hb); have hcz14_0 : w13.cell? ⟨gb147, 0, none⟩ = some (.slice A0_0 l0_0.length c0_0) := (blk_cell BK147.out 0).trans rfl; have hfz14_0 := blk_frozen BK147.out 0))
    go_ret
    exact ⟨by first | rfl | (simp [errW_none, errW_some] <;> rfl) | (simp [*, errW_none, errW_some] <;> rfl), pH_ HB.out⟩
   ·
    rw [if_neg c10] at H; have c10b0 : decide ((l0_0.length : Int) ≤ a1) = false := decide_eq_false c10; clear c10; replace H := Option.bind_eq_some_iff.mp H; obtain ⟨t149, A150, H⟩ := H; replace H : (if t149 = true then (some 0) else (some 2)) = some r := H; have A15 := Aside0.mk A150; clear A150
    by_cases c16 : t149 = true
    ·
     subst c16
     have H1 : (some 0) = some r := by rw [if_pos rfl] at H; exact H
     clear H; have H := H1; clear H1; obtain rfl := Option.some.inj H
     go_enter Tryd.func27, Tryd.ntmps27
     go_wp2_with (first | ((with_reducible refine gate_dst (N := 3) rfl ?_); (try (refine gate_guard (by rfl) ?_; dsimp only)); refine box_event ?hg (N := 3) ?hd (cs := #[.slice A0_0 l0_0.length c0_0]) (t := 24) ?hr ?_; (case hd => rfl); (case hg => rfl); (case hr => first | (go_simp; done) | (go_simp; rfl)); intro gb147 hg w17 hbox hb; have n0_ := Aside0.mk (below_step (pH_ HB.out) hb); have n1_ := Aside0.mk (hbox); have n2_ := Aside0.mk ((by rw [hg]; exact (below_size (pH_ HB.out)) : w.heap.size ≤ gb147)); have n3_ := Aside0.mk ((by rw [hg]; exact (below_size (pH_ HB.out)) : w.heap.size ≤ gb147)); clear HB; have HB := n0_; have BK147 := n1_; have GW147 := n2_; have GE147 := n3_; clear n0_ n1_ n2_ n3_; clear hb hbox hg; have hcz18_0 : w17.cell? ⟨gb147, 0, none⟩ = some (.slice A0_0 l0_0.length c0_0) := (blk_cell BK147.out 0).trans rfl; have hfz18_0 := blk_frozen BK147.out 0) | ((with_reducible refine gate_callee (f := 17) rfl ?_); refine gL_ (some 8) Tryd.func17 #[.agg #[.slice A0_0 l0_0.length c0_0]] ?_; (with_reducible refine (bitloftref16_Check.calls k _ _ l0_0 t148 _ ?side1 ?side2 A4.out).mono ?_); (case side1 => repeat (first | exact (Kd.C_below HR0_0.out HB.out) | (with_reducible refine Kd.C_alloc ?_ _) | (with_reducible refine Kd.C_drewN ?_ _) | (with_reducible refine Kd.C_drew ?_))); (case side2 => exact HC0_0.out); rintro e w19 ⟨rfl, hb⟩; refine ⟨_, rfl, ?_⟩; have n0_ := Aside0.mk (blk_below (pG_ BK147.out) hb); have n1_ := Aside0.mk (below_step (pH_ HB.out) hb); clear BK147; clear HB; have BK147 := n0_; have HB := n1_; clear n0_ n1_; (try clear hb); have hcz20_0 : w19.cell? ⟨gb147, 0, none⟩ = some (.slice A0_0 l0_0.length c0_0) := (blk_cell BK147.out 0).trans rfl; have hfz20_0 := blk_frozen BK147.out 0) | (go_at_call 42; (with_reducible refine (bitloftref16_In.calls k _ _ l2 true _ ?side1 ?side2 A15.out).mono ?_); (case side1 => repeat (first | exact (Kd.C_below HR2.out HB.out) | (with_reducible refine Kd.C_alloc ?_ _) | (with_reducible refine Kd.C_drewN ?_ _) | (with_reducible refine Kd.C_drew ?_))); (case side2 => exact HC2.out); rintro e w' ⟨rfl, ⟨nd, rfl⟩⟩))
     go_ret
     exact ⟨by first | rfl | (simp [errW_none, errW_some] <;> rfl) | (simp [*, errW_none, errW_some] <;> rfl), pH_ HB.out⟩
    ·
     replace c16 := Bool.eq_false_iff.mpr c16
     subst c16
     have H1 : (some 2) = some r := by rw [if_neg (show ¬ (false = true) by decide)] at H; exact H
     clear H; have H := H1; clear H1; obtain rfl := Option.some.inj H
     go_enter Tryd.func27, Tryd.ntmps27
     go_wp2_with (first | ((with_reducible refine gate_dst (N := 3) rfl ?_); (try (refine gate_guard (by rfl) ?_; dsimp only)); refine box_event ?hg (N := 3) ?hd (cs := #[.slice A0_0 l0_0.length c0_0]) (t := 24) ?hr ?_; (case hd => rfl); (case hg => rfl); (case hr => first | (go_simp; done) | (go_simp; rfl)); intro gb147 hg w21 hbox hb; have n0_ := Aside0.mk (below_step (pH_ HB.out) hb); have n1_ := Aside0.mk (hbox); have n2_ := Aside0.mk ((by rw [hg]; exact (below_size (pH_ HB.out)) : w.heap.size ≤ gb147)); have n3_ := Aside0.mk ((by rw [hg]; exact (below_size (pH_ HB.out)) : w.heap.size ≤ gb147)); clear HB; have HB := n0_; have BK147 := n1_; have GW147 := n2_; have GE147 := n3_; clear n0_ n1_ n2_ n3_; clear hb hbox hg; have hcz22_0 : w21.cell? ⟨gb147, 0, none⟩ = some (.slice A0_0 l0_0.length c0_0) := (blk_cell BK147.out 0).trans rfl; have hfz22_0 := blk_frozen BK147.out 0) | ((with_reducible refine gate_callee (f := 17) rfl ?_); refine gL_ (some 8) Tryd.func17 #[.agg #[.slice A0_0 l0_0.length c0_0]] ?_; (with_reducible refine (bitloftref16_Check.calls k _ _ l0_0 t148 _ ?side1 ?side2 A4.out).mono ?_); (case side1 => repeat (first | exact (Kd.C_below HR0_0.out HB.out) | (with_reducible refine Kd.C_alloc ?_ _) | (with_reducible refine Kd.C_drewN ?_ _) | (with_reducible refine Kd.C_drew ?_))); (case side2 => exact HC0_0.out); rintro e w23 ⟨rfl, hb⟩; refine ⟨_, rfl, ?_⟩; have n0_ := Aside0.mk (blk_below (pG_ BK147.out) hb); have n1_ := Aside0.mk (below_step (pH_ HB.out) hb); clear BK147; clear HB; have BK147 := n0_; have HB := n1_; clear n0_ n1_; (try clear hb); have hcz24_0 : w23.cell? ⟨gb147, 0, none⟩ = some (.slice A0_0 l0_0.length c0_0) := (blk_cell BK147.out 0).trans rfl; have hfz24_0 := blk_frozen BK147.out 0) | (go_at_call 42; (with_reducible refine (bitloftref16_In.calls k _ _ l2 false _ ?side1 ?side2 A15.out).mono ?_); (case side1 => repeat (first | exact (Kd.C_below HR2.out HB.out) | (with_reducible refine Kd.C_alloc ?_ _) | (with_reducible refine Kd.C_drewN ?_ _) | (with_reducible refine Kd.C_drew ?_))); (case side2 => exact HC2.out); rintro e w' ⟨rfl, ⟨nd, rfl⟩⟩))
     go_ret
     exact ⟨by first | rfl | (simp [errW_none, errW_some] <;> rfl) | (simp [*, errW_none, errW_some] <;> rfl), pH_ HB.out⟩
 ·
  rw [if_neg c5] at H; have c5b0 : (t148 == 0) = false := beq_eq_false_iff_ne.mpr c5; have c5b1 : (t148 != 0) = true := bne_iff_ne.mpr c5; replace H := Option.bind_eq_some_iff.mp H; obtain ⟨t150, A250, H⟩ := H; replace H : (some t150) = some r := H; have A25 := Aside0.mk A250; clear A250; obtain rfl := Option.some.inj H
  go_enter Tryd.func27, Tryd.ntmps27
  go_wp2_with (first | ((with_reducible refine gate_dst (N := 3) rfl ?_); (try (refine gate_guard (by rfl) ?_; dsimp only)); refine box_event ?hg (N := 3) ?hd (cs := #[.slice A0_0 l0_0.length c0_0]) (t := 24) ?hr ?_; (case hd => rfl); (case hg => rfl); (case hr => first | (go_simp; done) | (go_simp; rfl)); intro gb147 hg w26 hbox hb; have n0_ := Aside0.mk (below_step (pH_ HB.out) hb); have n1_ := Aside0.mk (hbox); have n2_ := Aside0.mk ((by rw [hg]; exact (below_size (pH_ HB.out)) : w.heap.size ≤ gb147)); have n3_ := Aside0.mk ((by rw [hg]; exact (below_size (pH_ HB.out)) : w.heap.size ≤ gb147)); clear HB; have HB := n0_; have BK147 := n1_; have GW147 := n2_; have GE147 := n3_; clear n0_ n1_ n2_ n3_; clear hb hbox hg; have hcz27_0 : w26.cell? ⟨gb147, 0, none⟩ = some (.slice A0_0 l0_0.length c0_0) := (blk_cell BK147.out 0).trans rfl; have hfz27_0 := blk_frozen BK147.out 0) | ((with_reducible refine gate_callee (f := 17) rfl ?_); refine gL_ (some 8) Tryd.func17 #[.agg #[.slice A0_0 l0_0.length c0_0]] ?_; (with_reducible refine (bitloftref16_Check.calls k _ _ l0_0 t148 _ ?side1 ?side2 A4.out).mono ?_); (case side1 => repeat (first | exact (Kd.C_below HR0_0.out HB.out) | (with_reducible refine Kd.C_alloc ?_ _) | (with_reducible refine Kd.C_drewN ?_ _) | (with_reducible refine Kd.C_drew ?_))); (case side2 => exact HC0_0.out); rintro e w28 ⟨rfl, hb⟩; refine ⟨_, rfl, ?_⟩; have n0_ := Aside0.mk (blk_below (pG_ BK147.out) hb); have n1_ := Aside0.mk (below_step (pH_ HB.out) hb); clear BK147; clear HB; have BK147 := n0_; have HB := n1_; clear n0_ n1_; (try clear hb); have hcz29_0 : w28.cell? ⟨gb147, 0, none⟩ = some (.slice A0_0 l0_0.length c0_0) := (blk_cell BK147.out 0).trans rfl; have hfz29_0 := blk_frozen BK147.out 0) | ((with_reducible refine gate_callee (f := 17) rfl ?_); refine gL_ (some 11) Tryd.func17 #[.agg #[.slice A0_0 l0_0.length c0_0]] ?_; (with_reducible refine (bitloftref16_Check.calls k _ _ l0_0 t150 _ ?side1 ?side2 A25.out).mono ?_); (case side1 => repeat (first | exact (Kd.C_below HR0_0.out HB.out) | (with_reducible refine Kd.C_alloc ?_ _) | (with_reducible refine Kd.C_drewN ?_ _) | (with_reducible refine Kd.C_drew ?_))); (case side2 => exact HC0_0.out); rintro e w30 ⟨rfl, hb⟩; refine ⟨_, rfl, ?_⟩; have n0_ := Aside0.mk (blk_below (pG_ BK147.out) hb); have n1_ := Aside0.mk (below_step (pH_ HB.out) hb); clear BK147; clear HB; have BK147 := n0_; have HB := n1_; clear n0_ n1_; (try clear hb)))
  go_ret
  exact ⟨by first | rfl | (simp [errW_none, errW_some] <;> rfl) | (simp [*, errW_none, errW_some] <;> rfl), pH_ HB.out⟩

/-! ### bitloftref04_Row: function 47 -/
def bitloftref04_Row.f  : Option (Int × Int × Int × Int × Int × Int × Int × Int × Int × Int × Int × Int × Int × Int × Int × Int × Int × Int × Int × Int × Int × Int × Int × Int × Int × Int × Int × Int × Int × Int × Int × Int × Int) := some (1, 2, 3, 6, 10, 16, 27, 45, 73, 120, 194, 310, 488, 747, 1101, 1546, 2047, 2549, 2994, 3348, 3607, 3785, 3901, 3975, 4022, 4050, 4068, 4079, 4085, 4089, 4092, 4093, 4094)
set_option maxHeartbeats 8000000 in
set_option maxRecDepth 100000 in
theorem bitloftref04_Row.calls  (r1 : Int) (r2 : Int) (r3 : Int) (r4 : Int) (r5 : Int) (r6 : Int) (r7 : Int) (r8 : Int) (r9 : Int) (r10 : Int) (r11 : Int) (r12 : Int) (r13 : Int) (r14 : Int) (r15 : Int) (r16 : Int) (r17 : Int) (r18 : Int) (r19 : Int) (r20 : Int) (r21 : Int) (r22 : Int) (r23 : Int) (r24 : Int) (r25 : Int) (r26 : Int) (r27 : Int) (r28 : Int) (r29 : Int) (r30 : Int) (r31 : Int) (r32 : Int) (r33 : Int) (w : World) (h : bitloftref04_Row.f  = some (r1, r2, r3, r4, r5, r6, r7, r8, r9, r10, r11, r12, r13, r14, r15, r16, r17, r18, r19, r20, r21, r22, r23, r24, r25, r26, r27, r28, r29, r30, r31, r32, r33)) :
  Calls Tryd.prog 47 #[] w fun e w' => e = .returned (.agg #[.int .i32 r1, .int .i32 r2, .int .i32 r3, .int .i32 r4, .int .i32 r5, .int .i32 r6, .int .i32 r7, .int .i32 r8, .int .i32 r9, .int .i32 r10, .int .i32 r11, .int .i32 r12, .int .i32 r13, .int .i32 r14, .int .i32 r15, .int .i32 r16, .int .i32 r17, .int .i32 r18, .int .i32 r19, .int .i32 r20, .int .i32 r21, .int .i32 r22, .int .i32 r23, .int .i32 r24, .int .i32 r25, .int .i32 r26, .int .i32 r27, .int .i32 r28, .int .i32 r29, .int .i32 r30, .int .i32 r31, .int .i32 r32, .int .i32 r33]) ∧ Below w.heap.size w w' := by
 have hu68 := Tryd.underlying68; have HB := Aside0.mk (Below.refl w.heap.size w); have H : (some (1, 2, 3, 6, 10, 16, 27, 45, 73, 120, 194, 310, 488, 747, 1101, 1546, 2047, 2549, 2994, 3348, 3607, 3785, 3901, 3975, 4022, 4050, 4068, 4079, 4085, 4089, 4092, 4093, 4094)) = some (r1, r2, r3, r4, r5, r6, r7, r8, r9, r10, r11, r12, r13, r14, r15, r16, r17, r18, r19, r20, r21, r22, r23, r24, r25, r26, r27, r28, r29, r30, r31, r32, r33) := h; clear h; simp only [Option.some.injEq, Prod.mk.injEq] at H; obtain ⟨rfl, rfl, rfl, rfl, rfl, rfl, rfl, rfl, rfl, rfl, rfl, rfl, rfl, rfl, rfl, rfl, rfl, rfl, rfl, rfl, rfl, rfl, rfl, rfl, rfl, rfl, rfl, rfl, rfl, rfl, rfl, rfl, rfl⟩ := H
 go_enter Tryd.func47, Tryd.ntmps47
 go_wp2_with (first | ((with_reducible refine gate_dst (N := 0) rfl ?_); refine box_event ?hg (N := 0) ?hd (cs := #[.int .i32 0, .int .i32 0, .int .i32 0, .int .i32 0, .int .i32 0, .int .i32 0, .int .i32 0, .int .i32 0, .int .i32 0, .int .i32 0, .int .i32 0, .int .i32 0, .int .i32 0, .int .i32 0, .int .i32 0, .int .i32 0, .int .i32 0, .int .i32 0, .int .i32 0, .int .i32 0, .int .i32 0, .int .i32 0, .int .i32 0, .int .i32 0, .int .i32 0, .int .i32 0, .int .i32 0, .int .i32 0, .int .i32 0, .int .i32 0, .int .i32 0, .int .i32 0, .int .i32 0]) (t := 68) ?hr ?_; (case hd => rfl); (case hg => rfl); (case hr => first | (go_simp; done) | (go_simp; rfl)); intro gb151 hg w1 hbox hb; have n0_ := Aside0.mk (below_step (pH_ HB.out) hb); have n1_ := Aside0.mk (hbox); have n2_ := Aside0.mk ((by rw [hg]; exact (below_size (pH_ HB.out)) : w.heap.size ≤ gb151)); have n3_ := Aside0.mk ((by rw [hg]; exact (below_size (pH_ HB.out)) : w.heap.size ≤ gb151)); clear HB; have HB := n0_; have BK151 := n1_; have GW151 := n2_; have GE151 := n3_; clear n0_ n1_ n2_ n3_; clear hb hbox hg) | ((with_reducible refine gate_store (t := 68) (p := 0) rfl ?_); refine wstore_event (t := 68) (p := 0) (v := ?vo_w2) (cs := #[.int .i32 1, .int .i32 2, .int .i32 3, .int .i32 6, .int .i32 10, .int .i32 16, .int .i32 27, .int .i32 45, .int .i32 73, .int .i32 120, .int .i32 194, .int .i32 310, .int .i32 488, .int .i32 747, .int .i32 1101, .int .i32 1546, .int .i32 2047, .int .i32 2549, .int .i32 2994, .int .i32 3348, .int .i32 3607, .int .i32 3785, .int .i32 3901, .int .i32 3975, .int .i32 4022, .int .i32 4050, .int .i32 4068, .int .i32 4079, .int .i32 4085, .int .i32 4089, .int .i32 4092, .int .i32 4093, .int .i32 4094]) ?hg ?ho ?hn ?hx ?hy BK151.out (by kernel_rfl) (by rfl) (by rfl) ?_; (case ho => rfl); (case hg => rfl); (case hn => rfl); (case hx => first | rfl | (go_simp; done) | (go_simp; rfl)); (case hy => first | rfl | (go_simp; done) | (go_simp; rfl)); intro w2 hbox hg; have n0_ := Aside0.mk (hbox); have n1_ := Aside0.mk (pw_below_grown (pH_ HB.out) _ ((below_size (pH_ HB.out))) hg (fun k_ e_ => by injection e_ with e_; subst e_; exact GE151.out)); clear BK151; clear HB; have BK151 := n0_; have HB := n1_; clear n0_ n1_; clear hg hbox))
 refine bodyPost_ret (results_cell_row rfl _ _ gb151 68 #[.int .i32 1, .int .i32 2, .int .i32 3, .int .i32 6, .int .i32 10, .int .i32 16, .int .i32 27, .int .i32 45, .int .i32 73, .int .i32 120, .int .i32 194, .int .i32 310, .int .i32 488, .int .i32 747, .int .i32 1101, .int .i32 1546, .int .i32 2047, .int .i32 2549, .int .i32 2994, .int .i32 3348, .int .i32 3607, .int .i32 3785, .int .i32 3901, .int .i32 3975, .int .i32 4022, .int .i32 4050, .int .i32 4068, .int .i32 4079, .int .i32 4085, .int .i32 4089, .int .i32 4092, .int .i32 4093, .int .i32 4094] (0, 0) _ rfl (pG_ BK151.out) Tryd.underlying68 rfl (by kernel_rfl)) rfl ?_; exact ⟨by first | rfl | (simp [errW_none, errW_some] <;> rfl) | (simp [*, errW_none, errW_some] <;> rfl), pH_ HB.out⟩

/-! ### bitloftref04_Squash: function 43 -/
def bitloftref04_Squash.f (a0 : Int) : Option (Int) := if a0 > 2047 then (some 4095) else (if a0 < (-2047) then (some 0) else (if 0 ≤ (wrap32 (Int.tdiv (wrap32 (a0 + 2048)) 128)) then (if (wrap32 (Int.tdiv (wrap32 (a0 + 2048)) 128)) < 33 then (if 0 ≤ (wrap32 ((wrap32 (Int.tdiv (wrap32 (a0 + 2048)) 128)) + 1)) then (if (wrap32 ((wrap32 (Int.tdiv (wrap32 (a0 + 2048)) 128)) + 1)) < 33 then (some (wrap32 (Int.tdiv (wrap32 ((wrap32 ((wrap32 ((rd [1, 2, 3, 6, 10, 16, 27, 45, 73, 120, 194, 310, 488, 747, 1101, 1546, 2047, 2549, 2994, 3348, 3607, 3785, 3901, 3975, 4022, 4050, 4068, 4079, 4085, 4089, 4092, 4093, 4094] (wrap32 (Int.tdiv (wrap32 (a0 + 2048)) 128))) * (wrap32 (128 - (Int.tmod (wrap32 (a0 + 2048)) 128))))) + (wrap32 ((rd [1, 2, 3, 6, 10, 16, 27, 45, 73, 120, 194, 310, 488, 747, 1101, 1546, 2047, 2549, 2994, 3348, 3607, 3785, 3901, 3975, 4022, 4050, 4068, 4079, 4085, 4089, 4092, 4093, 4094] (wrap32 ((wrap32 (Int.tdiv (wrap32 (a0 + 2048)) 128)) + 1))) * (Int.tmod (wrap32 (a0 + 2048)) 128))))) + 64)) 128))) else (none)) else (none)) else (none)) else (none)))
set_option maxHeartbeats 8000000 in
set_option maxRecDepth 100000 in
theorem bitloftref04_Squash.calls (a0 : Int) (r : Int) (w : World) (h : bitloftref04_Squash.f a0 = some r) :
  Calls Tryd.prog 43 #[.int .i32 a0] w fun e w' => e = .returned (.int .i32 r) ∧ Below w.heap.size w w' := by
 have hu68 := Tryd.underlying68; have HB := Aside0.mk (Below.refl w.heap.size w); have H : (if a0 > 2047 then (some 4095) else (if a0 < (-2047) then (some 0) else (if 0 ≤ (wrap32 (Int.tdiv (wrap32 (a0 + 2048)) 128)) then (if (wrap32 (Int.tdiv (wrap32 (a0 + 2048)) 128)) < 33 then (if 0 ≤ (wrap32 ((wrap32 (Int.tdiv (wrap32 (a0 + 2048)) 128)) + 1)) then (if (wrap32 ((wrap32 (Int.tdiv (wrap32 (a0 + 2048)) 128)) + 1)) < 33 then (some (wrap32 (Int.tdiv (wrap32 ((wrap32 ((wrap32 ((rd [1, 2, 3, 6, 10, 16, 27, 45, 73, 120, 194, 310, 488, 747, 1101, 1546, 2047, 2549, 2994, 3348, 3607, 3785, 3901, 3975, 4022, 4050, 4068, 4079, 4085, 4089, 4092, 4093, 4094] (wrap32 (Int.tdiv (wrap32 (a0 + 2048)) 128))) * (wrap32 (128 - (Int.tmod (wrap32 (a0 + 2048)) 128))))) + (wrap32 ((rd [1, 2, 3, 6, 10, 16, 27, 45, 73, 120, 194, 310, 488, 747, 1101, 1546, 2047, 2549, 2994, 3348, 3607, 3785, 3901, 3975, 4022, 4050, 4068, 4079, 4085, 4089, 4092, 4093, 4094] (wrap32 ((wrap32 (Int.tdiv (wrap32 (a0 + 2048)) 128)) + 1))) * (Int.tmod (wrap32 (a0 + 2048)) 128))))) + 64)) 128))) else (none)) else (none)) else (none)) else (none)))) = some r := h; clear h
 by_cases c2 : a0 > 2047
 ·
  rw [if_pos c2] at H; have c2b0 : decide (2047 < a0) = true := decide_eq_true c2; clear c2; obtain rfl := Option.some.inj H
  go_enter Tryd.func43, Tryd.ntmps43
  go_wp2
  repeat (go_quiet (fail); try go_wp2)
  go_ret
  exact ⟨by first | rfl | (simp [errW_none, errW_some] <;> rfl) | (simp [*, errW_none, errW_some] <;> rfl), pH_ HB.out⟩
 ·
  rw [if_neg c2] at H; have c2b0 : decide (2047 < a0) = false := decide_eq_false c2; clear c2
  by_cases c3 : a0 < (-2047)
  ·
   rw [if_pos c3] at H; have c3b0 : decide (a0 < (-2047)) = true := decide_eq_true c3; clear c3; obtain rfl := Option.some.inj H
   go_enter Tryd.func43, Tryd.ntmps43
   go_wp2
   repeat (go_quiet (fail); try go_wp2)
   go_ret
   exact ⟨by first | rfl | (simp [errW_none, errW_some] <;> rfl) | (simp [*, errW_none, errW_some] <;> rfl), pH_ HB.out⟩
  ·
   rw [if_neg c3] at H; have c3b0 : decide (a0 < (-2047)) = false := decide_eq_false c3; clear c3; have A4 := Aside0.mk (show bitloftref04_Row.f = some (1, 2, 3, 6, 10, 16, 27, 45, 73, 120, 194, 310, 488, 747, 1101, 1546, 2047, 2549, 2994, 3348, 3607, 3785, 3901, 3975, 4022, 4050, 4068, 4079, 4085, 4089, 4092, 4093, 4094) by first | rfl | decide +kernel); obtain ⟨ji5, hji5⟩ : ∃ j_ : Int, (wrap32 (Int.tdiv (wrap32 (a0 + 2048)) 128)) = j_ := ⟨_, rfl⟩
   replace H : (if 0 ≤ (ji5) then (if (ji5) < 33 then (if 0 ≤ (wrap32 ((ji5) + 1)) then (if (wrap32 ((ji5) + 1)) < 33 then (some (wrap32 (Int.tdiv (wrap32 ((wrap32 ((wrap32 ((rd [1, 2, 3, 6, 10, 16, 27, 45, 73, 120, 194, 310, 488, 747, 1101, 1546, 2047, 2549, 2994, 3348, 3607, 3785, 3901, 3975, 4022, 4050, 4068, 4079, 4085, 4089, 4092, 4093, 4094] (ji5)) * (wrap32 (128 - (Int.tmod (wrap32 (a0 + 2048)) 128))))) + (wrap32 ((rd [1, 2, 3, 6, 10, 16, 27, 45, 73, 120, 194, 310, 488, 747, 1101, 1546, 2047, 2549, 2994, 3348, 3607, 3785, 3901, 3975, 4022, 4050, 4068, 4079, 4085, 4089, 4092, 4093, 4094] (wrap32 ((ji5) + 1))) * (Int.tmod (wrap32 (a0 + 2048)) 128))))) + 64)) 128))) else (none)) else (none)) else (none)) else (none)) = some r := by first | (rw [hji5] at H; exact H) | (simp only [hji5] at H ⊢; exact H)
   (try rw [hji5] at A4); have hji5w : (IntKind.i32.wrap (Int.tdiv (wrap32 (a0 + 2048)) 128)) = ji5 := (i32_w _).trans hji5
   by_cases c6 : 0 ≤ (ji5)
   ·
    rw [if_pos c6] at H; have c6b0 : decide (0 ≤ (ji5)) = true := decide_eq_true c6; clear c6
    by_cases c7 : (ji5) < 33
    ·
     rw [if_pos c7] at H; have c7b0 : decide ((ji5) < 33) = true := decide_eq_true c7; clear c7; obtain ⟨ji8, hji8⟩ : ∃ j_ : Int, (wrap32 ((ji5) + 1)) = j_ := ⟨_, rfl⟩
     replace H : (if 0 ≤ (ji8) then (if (ji8) < 33 then (some (wrap32 (Int.tdiv (wrap32 ((wrap32 ((wrap32 ((rd [1, 2, 3, 6, 10, 16, 27, 45, 73, 120, 194, 310, 488, 747, 1101, 1546, 2047, 2549, 2994, 3348, 3607, 3785, 3901, 3975, 4022, 4050, 4068, 4079, 4085, 4089, 4092, 4093, 4094] (ji5)) * (wrap32 (128 - (Int.tmod (wrap32 (a0 + 2048)) 128))))) + (wrap32 ((rd [1, 2, 3, 6, 10, 16, 27, 45, 73, 120, 194, 310, 488, 747, 1101, 1546, 2047, 2549, 2994, 3348, 3607, 3785, 3901, 3975, 4022, 4050, 4068, 4079, 4085, 4089, 4092, 4093, 4094] (ji8)) * (Int.tmod (wrap32 (a0 + 2048)) 128))))) + 64)) 128))) else (none)) else (none)) = some r := by first | (rw [hji8] at H; exact H) | (simp only [hji8] at H ⊢; exact H)
     (try rw [hji8] at A4); have hji8w : (IntKind.i32.wrap ((ji5) + 1)) = ji8 := (i32_w _).trans hji8
     by_cases c9 : 0 ≤ (ji8)
     ·
      rw [if_pos c9] at H; have c9b0 : decide (0 ≤ (ji8)) = true := decide_eq_true c9; clear c9
      by_cases c10 : (ji8) < 33
      ·
       rw [if_pos c10] at H; have c10b0 : decide ((ji8) < 33) = true := decide_eq_true c10; clear c10; obtain rfl := Option.some.inj H
       go_enter Tryd.func43, Tryd.ntmps43
       go_wp2_with (first | (go_at_call 47; (with_reducible refine (bitloftref04_Row.calls  1 2 3 6 10 16 27 45 73 120 194 310 488 747 1101 1546 2047 2549 2994 3348 3607 3785 3901 3975 4022 4050 4068 4079 4085 4089 4092 4093 4094 _ A4.out).mono ?_); rintro e w11 ⟨rfl, hb⟩; have n0_ := Aside0.mk (below_step (pH_ HB.out) hb); clear HB; have HB := n0_; clear n0_; (try clear hb)) | ((with_reducible refine gate_dst (N := 4) rfl ?_); refine box_event ?hg (N := 4) ?hd (cs := #[.int .i32 0, .int .i32 0, .int .i32 0, .int .i32 0, .int .i32 0, .int .i32 0, .int .i32 0, .int .i32 0, .int .i32 0, .int .i32 0, .int .i32 0, .int .i32 0, .int .i32 0, .int .i32 0, .int .i32 0, .int .i32 0, .int .i32 0, .int .i32 0, .int .i32 0, .int .i32 0, .int .i32 0, .int .i32 0, .int .i32 0, .int .i32 0, .int .i32 0, .int .i32 0, .int .i32 0, .int .i32 0, .int .i32 0, .int .i32 0, .int .i32 0, .int .i32 0, .int .i32 0]) (t := 68) ?hr ?_; (case hd => rfl); (case hg => rfl); (case hr => first | (go_simp; done) | (go_simp; rfl)); intro gb152 hg w12 hbox hb; have n0_ := Aside0.mk (below_step (pH_ HB.out) hb); have n1_ := Aside0.mk (hbox); have n2_ := Aside0.mk ((by rw [hg]; exact (below_size (pH_ HB.out)) : w.heap.size ≤ gb152)); have n3_ := Aside0.mk ((by rw [hg]; exact (below_size (pH_ HB.out)) : w.heap.size ≤ gb152)); clear HB; have HB := n0_; have BK152 := n1_; have GW152 := n2_; have GE152 := n3_; clear n0_ n1_ n2_ n3_; clear hb hbox hg) | ((with_reducible refine gate_store (t := 68) (p := 4) rfl ?_); (try (rw [drewN_self w12]; generalize hq_ : World.drewN w12 _ = w12; have n0_ := Aside0.mk (blk_at hq_ BK152.out); have n1_ := Aside0.mk (below_at hq_ HB.out); clear hq_ BK152 HB; have BK152 := n0_; have HB := n1_; clear n0_ n1_)); refine wstore_event (t := 68) (p := 4) (v := ?vo_w13) (cs := #[.int .i32 1, .int .i32 2, .int .i32 3, .int .i32 6, .int .i32 10, .int .i32 16, .int .i32 27, .int .i32 45, .int .i32 73, .int .i32 120, .int .i32 194, .int .i32 310, .int .i32 488, .int .i32 747, .int .i32 1101, .int .i32 1546, .int .i32 2047, .int .i32 2549, .int .i32 2994, .int .i32 3348, .int .i32 3607, .int .i32 3785, .int .i32 3901, .int .i32 3975, .int .i32 4022, .int .i32 4050, .int .i32 4068, .int .i32 4079, .int .i32 4085, .int .i32 4089, .int .i32 4092, .int .i32 4093, .int .i32 4094]) ?hg ?ho ?hn ?hx ?hy BK152.out (by kernel_rfl) (by rfl) (by rfl) ?_; (case ho => rfl); (case hg => rfl); (case hn => rfl); (case hx => first | rfl | (go_simp; done) | (go_simp; rfl)); (case hy => first | rfl | (go_simp; done) | (go_simp; rfl)); intro w13 hbox hg; have n0_ := Aside0.mk (hbox); have n1_ := Aside0.mk (pw_below_grown (pH_ HB.out) _ ((below_size (pH_ HB.out))) hg (fun k_ e_ => by injection e_ with e_; subst e_; exact GE152.out)); clear BK152; clear HB; have BK152 := n0_; have HB := n1_; clear n0_ n1_; clear hg hbox; have hcz14_0 : w13.cell? ⟨gb152, 0, none⟩ = some (.int .i32 1) := (blk_cell BK152.out 0).trans rfl; have hcz14_1 : w13.cell? ⟨gb152, 1, none⟩ = some (.int .i32 2) := (blk_cell BK152.out 1).trans rfl; have hcz14_2 : w13.cell? ⟨gb152, 2, none⟩ = some (.int .i32 3) := (blk_cell BK152.out 2).trans rfl; have hcz14_3 : w13.cell? ⟨gb152, 3, none⟩ = some (.int .i32 6) := (blk_cell BK152.out 3).trans rfl; have hcz14_4 : w13.cell? ⟨gb152, 4, none⟩ = some (.int .i32 10) := (blk_cell BK152.out 4).trans rfl; have hcz14_5 : w13.cell? ⟨gb152, 5, none⟩ = some (.int .i32 16) := (blk_cell BK152.out 5).trans rfl; have hcz14_6 : w13.cell? ⟨gb152, 6, none⟩ = some (.int .i32 27) := (blk_cell BK152.out 6).trans rfl; have hcz14_7 : w13.cell? ⟨gb152, 7, none⟩ = some (.int .i32 45) := (blk_cell BK152.out 7).trans rfl; have hcz14_8 : w13.cell? ⟨gb152, 8, none⟩ = some (.int .i32 73) := (blk_cell BK152.out 8).trans rfl; have hcz14_9 : w13.cell? ⟨gb152, 9, none⟩ = some (.int .i32 120) := (blk_cell BK152.out 9).trans rfl; have hcz14_10 : w13.cell? ⟨gb152, 10, none⟩ = some (.int .i32 194) := (blk_cell BK152.out 10).trans rfl; have hcz14_11 : w13.cell? ⟨gb152, 11, none⟩ = some (.int .i32 310) := (blk_cell BK152.out 11).trans rfl; have hcz14_12 : w13.cell? ⟨gb152, 12, none⟩ = some (.int .i32 488) := (blk_cell BK152.out 12).trans rfl; have hcz14_13 : w13.cell? ⟨gb152, 13, none⟩ = some (.int .i32 747) := (blk_cell BK152.out 13).trans rfl; have hcz14_14 : w13.cell? ⟨gb152, 14, none⟩ = some (.int .i32 1101) := (blk_cell BK152.out 14).trans rfl; have hcz14_15 : w13.cell? ⟨gb152, 15, none⟩ = some (.int .i32 1546) := (blk_cell BK152.out 15).trans rfl; have hcz14_16 : w13.cell? ⟨gb152, 16, none⟩ = some (.int .i32 2047) := (blk_cell BK152.out 16).trans rfl; have hcz14_17 : w13.cell? ⟨gb152, 17, none⟩ = some (.int .i32 2549) := (blk_cell BK152.out 17).trans rfl; have hcz14_18 : w13.cell? ⟨gb152, 18, none⟩ = some (.int .i32 2994) := (blk_cell BK152.out 18).trans rfl; have hcz14_19 : w13.cell? ⟨gb152, 19, none⟩ = some (.int .i32 3348) := (blk_cell BK152.out 19).trans rfl; have hcz14_20 : w13.cell? ⟨gb152, 20, none⟩ = some (.int .i32 3607) := (blk_cell BK152.out 20).trans rfl; have hcz14_21 : w13.cell? ⟨gb152, 21, none⟩ = some (.int .i32 3785) := (blk_cell BK152.out 21).trans rfl; have hcz14_22 : w13.cell? ⟨gb152, 22, none⟩ = some (.int .i32 3901) := (blk_cell BK152.out 22).trans rfl; have hcz14_23 : w13.cell? ⟨gb152, 23, none⟩ = some (.int .i32 3975) := (blk_cell BK152.out 23).trans rfl; have hcz14_24 : w13.cell? ⟨gb152, 24, none⟩ = some (.int .i32 4022) := (blk_cell BK152.out 24).trans rfl; have hcz14_25 : w13.cell? ⟨gb152, 25, none⟩ = some (.int .i32 4050) := (blk_cell BK152.out 25).trans rfl; have hcz14_26 : w13.cell? ⟨gb152, 26, none⟩ = some (.int .i32 4068) := (blk_cell BK152.out 26).trans rfl; have hcz14_27 : w13.cell? ⟨gb152, 27, none⟩ = some (.int .i32 4079) := (blk_cell BK152.out 27).trans rfl; have hcz14_28 : w13.cell? ⟨gb152, 28, none⟩ = some (.int .i32 4085) := (blk_cell BK152.out 28).trans rfl; have hcz14_29 : w13.cell? ⟨gb152, 29, none⟩ = some (.int .i32 4089) := (blk_cell BK152.out 29).trans rfl; have hcz14_30 : w13.cell? ⟨gb152, 30, none⟩ = some (.int .i32 4092) := (blk_cell BK152.out 30).trans rfl; have hcz14_31 : w13.cell? ⟨gb152, 31, none⟩ = some (.int .i32 4093) := (blk_cell BK152.out 31).trans rfl; have hcz14_32 : w13.cell? ⟨gb152, 32, none⟩ = some (.int .i32 4094) := (blk_cell BK152.out 32).trans rfl; have hfz14_0 := blk_frozen BK152.out 0; have hfz14_1 := blk_frozen BK152.out 1; have hfz14_2 := blk_frozen BK152.out 2; have hfz14_3 := blk_frozen BK152.out 3; have hfz14_4 := blk_frozen BK152.out 4; have hfz14_5 := blk_frozen BK152.out 5; have hfz14_6 := blk_frozen BK152.out 6; have hfz14_7 := blk_frozen BK152.out 7; have hfz14_8 := blk_frozen BK152.out 8; have hfz14_9 := blk_frozen BK152.out 9; have hfz14_10 := blk_frozen BK152.out 10; have hfz14_11 := blk_frozen BK152.out 11; have hfz14_12 := blk_frozen BK152.out 12; have hfz14_13 := blk_frozen BK152.out 13; have hfz14_14 := blk_frozen BK152.out 14; have hfz14_15 := blk_frozen BK152.out 15; have hfz14_16 := blk_frozen BK152.out 16; have hfz14_17 := blk_frozen BK152.out 17; have hfz14_18 := blk_frozen BK152.out 18; have hfz14_19 := blk_frozen BK152.out 19; have hfz14_20 := blk_frozen BK152.out 20; have hfz14_21 := blk_frozen BK152.out 21; have hfz14_22 := blk_frozen BK152.out 22; have hfz14_23 := blk_frozen BK152.out 23; have hfz14_24 := blk_frozen BK152.out 24; have hfz14_25 := blk_frozen BK152.out 25; have hfz14_26 := blk_frozen BK152.out 26; have hfz14_27 := blk_frozen BK152.out 27; have hfz14_28 := blk_frozen BK152.out 28; have hfz14_29 := blk_frozen BK152.out 29; have hfz14_30 := blk_frozen BK152.out 30; have hfz14_31 := blk_frozen BK152.out 31; have hfz14_32 := blk_frozen BK152.out 32; have hs15 : w13.cell? ⟨gb152, ((ji5) : Int).toNat, none⟩ = some (.int .i32 (rd [1, 2, 3, 6, 10, 16, 27, 45, 73, 120, 194, 310, 488, 747, 1101, 1546, 2047, 2549, 2994, 3348, 3607, 3785, 3901, 3975, 4022, 4050, 4068, 4079, 4085, 4089, 4092, 4093, 4094] (ji5))) := (blk_cell BK152.out _).trans (arr_sel_ .i32 (n := 33) [1, 2, 3, 6, 10, 16, 27, 45, 73, 120, 194, 310, 488, 747, 1101, 1546, 2047, 2549, 2994, 3348, 3607, 3785, 3901, 3975, 4022, 4050, 4068, 4079, 4085, 4089, 4092, 4093, 4094] rfl (of_decide_eq_true (by first | (with_reducible assumption) | assumption)) (of_decide_eq_true (by first | (with_reducible assumption) | assumption))); have pa15 : 0 ≤ ((ji5) : Int) := of_decide_eq_true (by first | (with_reducible assumption) | assumption); have qa15 : ((ji5) : Int) < 33 := of_decide_eq_true (by first | (with_reducible assumption) | assumption); replace pa15 := eq_true pa15; replace qa15 := eq_true qa15; have hs16 : w13.cell? ⟨gb152, ((ji8) : Int).toNat, none⟩ = some (.int .i32 (rd [1, 2, 3, 6, 10, 16, 27, 45, 73, 120, 194, 310, 488, 747, 1101, 1546, 2047, 2549, 2994, 3348, 3607, 3785, 3901, 3975, 4022, 4050, 4068, 4079, 4085, 4089, 4092, 4093, 4094] (ji8))) := (blk_cell BK152.out _).trans (arr_sel_ .i32 (n := 33) [1, 2, 3, 6, 10, 16, 27, 45, 73, 120, 194, 310, 488, 747, 1101, 1546, 2047, 2549, 2994, 3348, 3607, 3785, 3901, 3975, 4022, 4050, 4068, 4079, 4085, 4089, 4092, 4093, 4094] rfl (of_decide_eq_true (by first | (with_reducible assumption) | assumption)) (of_decide_eq_true (by first | (with_reducible assumption) | assumption))); have pa16 : 0 ≤ ((ji8) : Int) := of_decide_eq_true (by first | (with_reducible assumption) | assumption); have qa16 : ((ji8) : Int) < 33 := of_decide_eq_true (by first | (with_reducible assumption) | assumption); replace pa16 := eq_true pa16; replace qa16 := eq_true qa16))
       repeat (go_quiet (first | (go_at_call 47; (with_reducible refine (bitloftref04_Row.calls  1 2 3 6 10 16 27 45 73 120 194 310 488 747 1101 1546 2047 2549 2994 3348 3607 3785 3901 3975 4022 4050 4068 4079 4085 4089 4092 4093 4094 _ A4.out).mono ?_); rintro e w11 ⟨rfl, hb⟩; have n0_ := Aside0.mk (below_step (pH_ HB.out) hb); clear HB; have HB := n0_; clear n0_; (try clear hb)) | ((with_reducible refine gate_dst (N := 4) rfl ?_); refine box_event ?hg (N := 4) ?hd (cs := #[.int .i32 0, .int .i32 0, .int .i32 0, .int .i32 0, .int .i32 0, .int .i32 0, .int .i32 0, .int .i32 0, .int .i32 0, .int .i32 0, .int .i32 0, .int .i32 0, .int .i32 0, .int .i32 0, .int .i32 0, .int .i32 0, .int .i32 0, .int .i32 0, .int .i32 0, .int .i32 0, .int .i32 0, .int .i32 0, .int .i32 0, .int .i32 0, .int .i32 0, .int .i32 0, .int .i32 0, .int .i32 0, .int .i32 0, .int .i32 0, .int .i32 0, .int .i32 0, .int .i32 0]) (t := 68) ?hr ?_; (case hd => rfl); (case hg => rfl); (case hr => first | (go_simp; done) | (go_simp; rfl)); intro gb152 hg w12 hbox hb; have n0_ := Aside0.mk (below_step (pH_ HB.out) hb); have n1_ := Aside0.mk (hbox); have n2_ := Aside0.mk ((by rw [hg]; exact (below_size (pH_ HB.out)) : w.heap.size ≤ gb152)); have n3_ := Aside0.mk ((by rw [hg]; exact (below_size (pH_ HB.out)) : w.heap.size ≤ gb152)); clear HB; have HB := n0_; have BK152 := n1_; have GW152 := n2_; have GE152 := n3_; clear n0_ n1_ n2_ n3_; clear hb hbox hg) | ((with_reducible refine gate_store (t := 68) (p := 4) rfl ?_); (try (rw [drewN_self w12]; generalize hq_ : World.drewN w12 _ = w12; have n0_ := Aside0.mk (blk_at hq_ BK152.out); have n1_ := Aside0.mk (below_at hq_ HB.out); clear hq_ BK152 HB; have BK152 := n0_; have HB := n1_; clear n0_ n1_)); refine wstore_event (t := 68) (p := 4) (v := ?vo_w13) (cs := #[.int .i32 1, .int .i32 2, .int .i32 3, .int .i32 6, .int .i32 10, .int .i32 16, .int .i32 27, .int .i32 45, .int .i32 73, .int .i32 120, .int .i32 194, .int .i32 310, .int .i32 488, .int .i32 747, .int .i32 1101, .int .i32 1546, .int .i32 2047, .int .i32 2549, .int .i32 2994, .int .i32 3348, .int .i32 3607, .int .i32 3785, .int .i32 3901, .int .i32 3975, .int .i32 4022, .int .i32 4050, .int .i32 4068, .int .i32 4079, .int .i32 4085, .int .i32 4089, .int .i32 4092, .int .i32 4093, .int .i32 4094]) ?hg ?ho ?hn ?hx ?hy BK152.out (by kernel_rfl) (by rfl) (by rfl) ?_; (case ho => rfl); (case hg => rfl); (case hn => rfl); (case hx => first | rfl | (go_simp; done) | (go_simp; rfl)); (case hy => first | rfl | (go_simp; done) | (go_simp; rfl)); intro w13 hbox hg; have n0_ := Aside0.mk (hbox); have n1_ := Aside0.mk (pw_below_grown (pH_ HB.out) _ ((below_size (pH_ HB.out))) hg (fun k_ e_ => by injection e_ with e_; subst e_; exact GE152.out)); clear BK152; clear HB; have BK152 := n0_; have HB := n1_; clear n0_ n1_; clear hg hbox; have hcz14_0 : w13.cell? ⟨gb152, 0, none⟩ = some (.int .i32 1) := (blk_cell BK152.out 0).trans rfl; have hcz14_1 : w13.cell? ⟨gb152, 1, none⟩ = some (.int .i32 2) := (blk_cell BK152.out 1).trans rfl; have hcz14_2 : w13.cell? ⟨gb152, 2, none⟩ = some (.int .i32 3) := (blk_cell BK152.out 2).trans rfl; have hcz14_3 : w13.cell? ⟨gb152, 3, none⟩ = some (.int .i32 6) := (blk_cell BK152.out 3).trans rfl; have hcz14_4 : w13.cell? ⟨gb152, 4, none⟩ = some (.int .i32 10) := (blk_cell BK152.out 4).trans rfl; have hcz14_5 : w13.cell? ⟨gb152, 5, none⟩ = some (.int .i32 16) := (blk_cell BK152.out 5).trans rfl; have hcz14_6 : w13.cell? ⟨gb152, 6, none⟩ = some (.int .i32 27) := (blk_cell BK152.out 6).trans rfl; have hcz14_7 : w13.cell? ⟨gb152, 7, none⟩ = some (.int .i32 45) := (blk_cell BK152.out 7).trans rfl; have hcz14_8 : w13.cell? ⟨gb152, 8, none⟩ = some (.int .i32 73) := (blk_cell BK152.out 8).trans rfl; have hcz14_9 : w13.cell? ⟨gb152, 9, none⟩ = some (.int .i32 120) := (blk_cell BK152.out 9).trans rfl; have hcz14_10 : w13.cell? ⟨gb152, 10, none⟩ = some (.int .i32 194) := (blk_cell BK152.out 10).trans rfl; have hcz14_11 : w13.cell? ⟨gb152, 11, none⟩ = some (.int .i32 310) := (blk_cell BK152.out 11).trans rfl; have hcz14_12 : w13.cell? ⟨gb152, 12, none⟩ = some (.int .i32 488) := (blk_cell BK152.out 12).trans rfl; have hcz14_13 : w13.cell? ⟨gb152, 13, none⟩ = some (.int .i32 747) := (blk_cell BK152.out 13).trans rfl; have hcz14_14 : w13.cell? ⟨gb152, 14, none⟩ = some (.int .i32 1101) := (blk_cell BK152.out 14).trans rfl; have hcz14_15 : w13.cell? ⟨gb152, 15, none⟩ = some (.int .i32 1546) := (blk_cell BK152.out 15).trans rfl; have hcz14_16 : w13.cell? ⟨gb152, 16, none⟩ = some (.int .i32 2047) := (blk_cell BK152.out 16).trans rfl; have hcz14_17 : w13.cell? ⟨gb152, 17, none⟩ = some (.int .i32 2549) := (blk_cell BK152.out 17).trans rfl; have hcz14_18 : w13.cell? ⟨gb152, 18, none⟩ = some (.int .i32 2994) := (blk_cell BK152.out 18).trans rfl; have hcz14_19 : w13.cell? ⟨gb152, 19, none⟩ = some (.int .i32 3348) := (blk_cell BK152.out 19).trans rfl; have hcz14_20 : w13.cell? ⟨gb152, 20, none⟩ = some (.int .i32 3607) := (blk_cell BK152.out 20).trans rfl; have hcz14_21 : w13.cell? ⟨gb152, 21, none⟩ = some (.int .i32 3785) := (blk_cell BK152.out 21).trans rfl; have hcz14_22 : w13.cell? ⟨gb152, 22, none⟩ = some (.int .i32 3901) := (blk_cell BK152.out 22).trans rfl; have hcz14_23 : w13.cell? ⟨gb152, 23, none⟩ = some (.int .i32 3975) := (blk_cell BK152.out 23).trans rfl; have hcz14_24 : w13.cell? ⟨gb152, 24, none⟩ = some (.int .i32 4022) := (blk_cell BK152.out 24).trans rfl; have hcz14_25 : w13.cell? ⟨gb152, 25, none⟩ = some (.int .i32 4050) := (blk_cell BK152.out 25).trans rfl; have hcz14_26 : w13.cell? ⟨gb152, 26, none⟩ = some (.int .i32 4068) := (blk_cell BK152.out 26).trans rfl; have hcz14_27 : w13.cell? ⟨gb152, 27, none⟩ = some (.int .i32 4079) := (blk_cell BK152.out 27).trans rfl; have hcz14_28 : w13.cell? ⟨gb152, 28, none⟩ = some (.int .i32 4085) := (blk_cell BK152.out 28).trans rfl; have hcz14_29 : w13.cell? ⟨gb152, 29, none⟩ = some (.int .i32 4089) := (blk_cell BK152.out 29).trans rfl; have hcz14_30 : w13.cell? ⟨gb152, 30, none⟩ = some (.int .i32 4092) := (blk_cell BK152.out 30).trans rfl; have hcz14_31 : w13.cell? ⟨gb152, 31, none⟩ = some (.int .i32 4093) := (blk_cell BK152.out 31).trans rfl; have hcz14_32 : w13.cell? ⟨gb152, 32, none⟩ = some (.int .i32 4094) := (blk_cell BK152.out 32).trans rfl; have hfz14_0 := blk_frozen BK152.out 0; have hfz14_1 := blk_frozen BK152.out 1; have hfz14_2 := blk_frozen BK152.out 2; have hfz14_3 := blk_frozen BK152.out 3; have hfz14_4 := blk_frozen BK152.out 4; have hfz14_5 := blk_frozen BK152.out 5; have hfz14_6 := blk_frozen BK152.out 6; have hfz14_7 := blk_frozen BK152.out 7; have hfz14_8 := blk_frozen BK152.out 8; have hfz14_9 := blk_frozen BK152.out 9; have hfz14_10 := blk_frozen BK152.out 10; have hfz14_11 := blk_frozen BK152.out 11; have hfz14_12 := blk_frozen BK152.out 12; have hfz14_13 := blk_frozen BK152.out 13; have hfz14_14 := blk_frozen BK152.out 14; have hfz14_15 := blk_frozen BK152.out 15; have hfz14_16 := blk_frozen BK152.out 16; have hfz14_17 := blk_frozen BK152.out 17; have hfz14_18 := blk_frozen BK152.out 18; have hfz14_19 := blk_frozen BK152.out 19; have hfz14_20 := blk_frozen BK152.out 20; have hfz14_21 := blk_frozen BK152.out 21; have hfz14_22 := blk_frozen BK152.out 22; have hfz14_23 := blk_frozen BK152.out 23; have hfz14_24 := blk_frozen BK152.out 24; have hfz14_25 := blk_frozen BK152.out 25; have hfz14_26 := blk_frozen BK152.out 26; have hfz14_27 := blk_frozen BK152.out 27; have hfz14_28 := blk_frozen BK152.out 28; have hfz14_29 := blk_frozen BK152.out 29; have hfz14_30 := blk_frozen BK152.out 30; have hfz14_31 := blk_frozen BK152.out 31; have hfz14_32 := blk_frozen BK152.out 32; have hs15 : w13.cell? ⟨gb152, ((ji5) : Int).toNat, none⟩ = some (.int .i32 (rd [1, 2, 3, 6, 10, 16, 27, 45, 73, 120, 194, 310, 488, 747, 1101, 1546, 2047, 2549, 2994, 3348, 3607, 3785, 3901, 3975, 4022, 4050, 4068, 4079, 4085, 4089, 4092, 4093, 4094] (ji5))) := (blk_cell BK152.out _).trans (arr_sel_ .i32 (n := 33) [1, 2, 3, 6, 10, 16, 27, 45, 73, 120, 194, 310, 488, 747, 1101, 1546, 2047, 2549, 2994, 3348, 3607, 3785, 3901, 3975, 4022, 4050, 4068, 4079, 4085, 4089, 4092, 4093, 4094] rfl (of_decide_eq_true (by first | (with_reducible assumption) | assumption)) (of_decide_eq_true (by first | (with_reducible assumption) | assumption))); have pa15 : 0 ≤ ((ji5) : Int) := of_decide_eq_true (by first | (with_reducible assumption) | assumption); have qa15 : ((ji5) : Int) < 33 := of_decide_eq_true (by first | (with_reducible assumption) | assumption); replace pa15 := eq_true pa15; replace qa15 := eq_true qa15; have hs16 : w13.cell? ⟨gb152, ((ji8) : Int).toNat, none⟩ = some (.int .i32 (rd [1, 2, 3, 6, 10, 16, 27, 45, 73, 120, 194, 310, 488, 747, 1101, 1546, 2047, 2549, 2994, 3348, 3607, 3785, 3901, 3975, 4022, 4050, 4068, 4079, 4085, 4089, 4092, 4093, 4094] (ji8))) := (blk_cell BK152.out _).trans (arr_sel_ .i32 (n := 33) [1, 2, 3, 6, 10, 16, 27, 45, 73, 120, 194, 310, 488, 747, 1101, 1546, 2047, 2549, 2994, 3348, 3607, 3785, 3901, 3975, 4022, 4050, 4068, 4079, 4085, 4089, 4092, 4093, 4094] rfl (of_decide_eq_true (by first | (with_reducible assumption) | assumption)) (of_decide_eq_true (by first | (with_reducible assumption) | assumption))); have pa16 : 0 ≤ ((ji8) : Int) := of_decide_eq_true (by first | (with_reducible assumption) | assumption); have qa16 : ((ji8) : Int) < 33 := of_decide_eq_true (by first | (with_reducible assumption) | assumption); replace pa16 := eq_true pa16; replace qa16 := eq_true qa16)); try go_wp2_with (first | (go_at_call 47; (with_reducible refine (bitloftref04_Row.calls  1 2 3 6 10 16 27 45 73 120 194 310 488 747 1101 1546 2047 2549 2994 3348 3607 3785 3901 3975 4022 4050 4068 4079 4085 4089 4092 4093 4094 _ A4.out).mono ?_); rintro e w11 ⟨rfl, hb⟩; have n0_ := Aside0.mk (below_step (pH_ HB.out) hb); clear HB; have HB := n0_; clear n0_; (try clear hb)) | ((with_reducible refine gate_dst (N := 4) rfl ?_); refine box_event ?hg (N := 4) ?hd (cs := #[.int .i32 0, .int .i32 0, .int .i32 0, .int .i32 0, .int .i32 0, .int .i32 0, .int .i32 0, .int .i32 0, .int .i32 0, .int .i32 0, .int .i32 0, .int .i32 0, .int .i32 0, .int .i32 0, .int .i32 0, .int .i32 0, .int .i32 0, .int .i32 0, .int .i32 0, .int .i32 0, .int .i32 0, .int .i32 0, .int .i32 0, .int .i32 0, .int .i32 0, .int .i32 0, .int .i32 0, .int .i32 0, .int .i32 0, .int .i32 0, .int .i32 0, .int .i32 0, .int .i32 0]) (t := 68) ?hr ?_; (case hd => rfl); (case hg => rfl); (case hr => first | (go_simp; done) | (go_simp; rfl)); intro gb152 hg w12 hbox hb; have n0_ := Aside0.mk (below_step (pH_ HB.out) hb); have n1_ := Aside0.mk (hbox); have n2_ := Aside0.mk ((by rw [hg]; exact (below_size (pH_ HB.out)) : w.heap.size ≤ gb152)); have n3_ := Aside0.mk ((by rw [hg]; exact (below_size (pH_ HB.out)) : w.heap.size ≤ gb152)); clear HB; have HB := n0_; have BK152 := n1_; have GW152 := n2_; have GE152 := n3_; clear n0_ n1_ n2_ n3_; clear hb hbox hg) | ((with_reducible refine gate_store (t := 68) (p := 4) rfl ?_); (try (rw [drewN_self w12]; generalize hq_ : World.drewN w12 _ = w12; have n0_ := Aside0.mk (blk_at hq_ BK152.out); have n1_ := Aside0.mk (below_at hq_ HB.out); clear hq_ BK152 HB; have BK152 := n0_; have HB := n1_; clear n0_ n1_)); refine wstore_event (t := 68) (p := 4) (v := ?vo_w13) (cs := #[.int .i32 1, .int .i32 2, .int .i32 3, .int .i32 6, .int .i32 10, .int .i32 16, .int .i32 27, .int .i32 45, .int .i32 73, .int .i32 120, .int .i32 194, .int .i32 310, .int .i32 488, .int .i32 747, .int .i32 1101, .int .i32 1546, .int .i32 2047, .int .i32 2549, .int .i32 2994, .int .i32 3348, .int .i32 3607, .int .i32 3785, .int .i32 3901, .int .i32 3975, .int .i32 4022, .int .i32 4050, .int .i32 4068, .int .i32 4079, .int .i32 4085, .int .i32 4089, .int .i32 4092, .int .i32 4093, .int .i32 4094]) ?hg ?ho ?hn ?hx ?hy BK152.out (by kernel_rfl) (by rfl) (by rfl) ?_; (case ho => rfl); (case hg => rfl); (case hn => rfl); (case hx => first | rfl | (go_simp; done) | (go_simp; rfl)); (case hy => first | rfl | (go_simp; done) | (go_simp; rfl)); intro w13 hbox hg; have n0_ := Aside0.mk (hbox); have n1_ := Aside0.mk (pw_below_grown (pH_ HB.out) _ ((below_size (pH_ HB.out))) hg (fun k_ e_ => by injection e_ with e_; subst e_; exact GE152.out)); clear BK152; clear HB; have BK152 := n0_; have HB := n1_; clear n0_ n1_; clear hg hbox; have hcz14_0 : w13.cell? ⟨gb152, 0, none⟩ = some (.int .i32 1) := (blk_cell BK152.out 0).trans rfl; have hcz14_1 : w13.cell? ⟨gb152, 1, none⟩ = some (.int .i32 2) := (blk_cell BK152.out 1).trans rfl; have hcz14_2 : w13.cell? ⟨gb152, 2, none⟩ = some (.int .i32 3) := (blk_cell BK152.out 2).trans rfl; have hcz14_3 : w13.cell? ⟨gb152, 3, none⟩ = some (.int .i32 6) := (blk_cell BK152.out 3).trans rfl; have hcz14_4 : w13.cell? ⟨gb152, 4, none⟩ = some (.int .i32 10) := (blk_cell BK152.out 4).trans rfl; have hcz14_5 : w13.cell? ⟨gb152, 5, none⟩ = some (.int .i32 16) := (blk_cell BK152.out 5).trans rfl; have hcz14_6 : w13.cell? ⟨gb152, 6, none⟩ = some (.int .i32 27) := (blk_cell BK152.out 6).trans rfl; have hcz14_7 : w13.cell? ⟨gb152, 7, none⟩ = some (.int .i32 45) := (blk_cell BK152.out 7).trans rfl; have hcz14_8 : w13.cell? ⟨gb152, 8, none⟩ = some (.int .i32 73) := (blk_cell BK152.out 8).trans rfl; have hcz14_9 : w13.cell? ⟨gb152, 9, none⟩ = some (.int .i32 120) := (blk_cell BK152.out 9).trans rfl; have hcz14_10 : w13.cell? ⟨gb152, 10, none⟩ = some (.int .i32 194) := (blk_cell BK152.out 10).trans rfl; have hcz14_11 : w13.cell? ⟨gb152, 11, none⟩ = some (.int .i32 310) := (blk_cell BK152.out 11).trans rfl; have hcz14_12 : w13.cell? ⟨gb152, 12, none⟩ = some (.int .i32 488) := (blk_cell BK152.out 12).trans rfl; have hcz14_13 : w13.cell? ⟨gb152, 13, none⟩ = some (.int .i32 747) := (blk_cell BK152.out 13).trans rfl; have hcz14_14 : w13.cell? ⟨gb152, 14, none⟩ = some (.int .i32 1101) := (blk_cell BK152.out 14).trans rfl; have hcz14_15 : w13.cell? ⟨gb152, 15, none⟩ = some (.int .i32 1546) := (blk_cell BK152.out 15).trans rfl; have hcz14_16 : w13.cell? ⟨gb152, 16, none⟩ = some (.int .i32 2047) := (blk_cell BK152.out 16).trans rfl; have hcz14_17 : w13.cell? ⟨gb152, 17, none⟩ = some (.int .i32 2549) := (blk_cell BK152.out 17).trans rfl; have hcz14_18 : w13.cell? ⟨gb152, 18, none⟩ = some (.int .i32 2994) := (blk_cell BK152.out 18).trans rfl; have hcz14_19 : w13.cell? ⟨gb152, 19, none⟩ = some (.int .i32 3348) := (blk_cell BK152.out 19).trans rfl; have hcz14_20 : w13.cell? ⟨gb152, 20, none⟩ = some (.int .i32 3607) := (blk_cell BK152.out 20).trans rfl; have hcz14_21 : w13.cell? ⟨gb152, 21, none⟩ = some (.int .i32 3785) := (blk_cell BK152.out 21).trans rfl; have hcz14_22 : w13.cell? ⟨gb152, 22, none⟩ = some (.int .i32 3901) := (blk_cell BK152.out 22).trans rfl; have hcz14_23 : w13.cell? ⟨gb152, 23, none⟩ = some (.int .i32 3975) := (blk_cell BK152.out 23).trans rfl; have hcz14_24 : w13.cell? ⟨gb152, 24, none⟩ = some (.int .i32 4022) := (blk_cell BK152.out 24).trans rfl; have hcz14_25 : w13.cell? ⟨gb152, 25, none⟩ = some (.int .i32 4050) := (blk_cell BK152.out 25).trans rfl; have hcz14_26 : w13.cell? ⟨gb152, 26, none⟩ = some (.int .i32 4068) := (blk_cell BK152.out 26).trans rfl; have hcz14_27 : w13.cell? ⟨gb152, 27, none⟩ = some (.int .i32 4079) := (blk_cell BK152.out 27).trans rfl; have hcz14_28 : w13.cell? ⟨gb152, 28, none⟩ = some (.int .i32 4085) := (blk_cell BK152.out 28).trans rfl; have hcz14_29 : w13.cell? ⟨gb152, 29, none⟩ = some (.int .i32 4089) := (blk_cell BK152.out 29).trans rfl; have hcz14_30 : w13.cell? ⟨gb152, 30, none⟩ = some (.int .i32 4092) := (blk_cell BK152.out 30).trans rfl; have hcz14_31 : w13.cell? ⟨gb152, 31, none⟩ = some (.int .i32 4093) := (blk_cell BK152.out 31).trans rfl; have hcz14_32 : w13.cell? ⟨gb152, 32, none⟩ = some (.int .i32 4094) := (blk_cell BK152.out 32).trans rfl; have hfz14_0 := blk_frozen BK152.out 0; have hfz14_1 := blk_frozen BK152.out 1; have hfz14_2 := blk_frozen BK152.out 2; have hfz14_3 := blk_frozen BK152.out 3; have hfz14_4 := blk_frozen BK152.out 4; have hfz14_5 := blk_frozen BK152.out 5; have hfz14_6 := blk_frozen BK152.out 6; have hfz14_7 := blk_frozen BK152.out 7; have hfz14_8 := blk_frozen BK152.out 8; have hfz14_9 := blk_frozen BK152.out 9; have hfz14_10 := blk_frozen BK152.out 10; have hfz14_11 := blk_frozen BK152.out 11; have hfz14_12 := blk_frozen BK152.out 12; have hfz14_13 := blk_frozen BK152.out 13; have hfz14_14 := blk_frozen BK152.out 14; have hfz14_15 := blk_frozen BK152.out 15; have hfz14_16 := blk_frozen BK152.out 16; have hfz14_17 := blk_frozen BK152.out 17; have hfz14_18 := blk_frozen BK152.out 18; have hfz14_19 := blk_frozen BK152.out 19; have hfz14_20 := blk_frozen BK152.out 20; have hfz14_21 := blk_frozen BK152.out 21; have hfz14_22 := blk_frozen BK152.out 22; have hfz14_23 := blk_frozen BK152.out 23; have hfz14_24 := blk_frozen BK152.out 24; have hfz14_25 := blk_frozen BK152.out 25; have hfz14_26 := blk_frozen BK152.out 26; have hfz14_27 := blk_frozen BK152.out 27; have hfz14_28 := blk_frozen BK152.out 28; have hfz14_29 := blk_frozen BK152.out 29; have hfz14_30 := blk_frozen BK152.out 30; have hfz14_31 := blk_frozen BK152.out 31; have hfz14_32 := blk_frozen BK152.out 32; have hs15 : w13.cell? ⟨gb152, ((ji5) : Int).toNat, none⟩ = some (.int .i32 (rd [1, 2, 3, 6, 10, 16, 27, 45, 73, 120, 194, 310, 488, 747, 1101, 1546, 2047, 2549, 2994, 3348, 3607, 3785, 3901, 3975, 4022, 4050, 4068, 4079, 4085, 4089, 4092, 4093, 4094] (ji5))) := (blk_cell BK152.out _).trans (arr_sel_ .i32 (n := 33) [1, 2, 3, 6, 10, 16, 27, 45, 73, 120, 194, 310, 488, 747, 1101, 1546, 2047, 2549, 2994, 3348, 3607, 3785, 3901, 3975, 4022, 4050, 4068, 4079, 4085, 4089, 4092, 4093, 4094] rfl (of_decide_eq_true (by first | (with_reducible assumption) | assumption)) (of_decide_eq_true (by first | (with_reducible assumption) | assumption))); have pa15 : 0 ≤ ((ji5) : Int) := of_decide_eq_true (by first | (with_reducible assumption) | assumption); have qa15 : ((ji5) : Int) < 33 := of_decide_eq_true (by first | (with_reducible assumption) | assumption); replace pa15 := eq_true pa15; replace qa15 := eq_true qa15; have hs16 : w13.cell? ⟨gb152, ((ji8) : Int).toNat, none⟩ = some (.int .i32 (rd [1, 2, 3, 6, 10, 16, 27, 45, 73, 120, 194, 310, 488, 747, 1101, 1546, 2047, 2549, 2994, 3348, 3607, 3785, 3901, 3975, 4022, 4050, 4068, 4079, 4085, 4089, 4092, 4093, 4094] (ji8))) := (blk_cell BK152.out _).trans (arr_sel_ .i32 (n := 33) [1, 2, 3, 6, 10, 16, 27, 45, 73, 120, 194, 310, 488, 747, 1101, 1546, 2047, 2549, 2994, 3348, 3607, 3785, 3901, 3975, 4022, 4050, 4068, 4079, 4085, 4089, 4092, 4093, 4094] rfl (of_decide_eq_true (by first | (with_reducible assumption) | assumption)) (of_decide_eq_true (by first | (with_reducible assumption) | assumption))); have pa16 : 0 ≤ ((ji8) : Int) := of_decide_eq_true (by first | (with_reducible assumption) | assumption); have qa16 : ((ji8) : Int) < 33 := of_decide_eq_true (by first | (with_reducible assumption) | assumption); replace pa16 := eq_true pa16; replace qa16 := eq_true qa16)))
       go_ret
       exact ⟨by first | rfl | (simp [errW_none, errW_some] <;> rfl) | (simp only [← hji5, ← hji8]; first | rfl | (simp [errW_none, errW_some] <;> rfl)) | (simp [*, errW_none, errW_some] <;> rfl), pH_ HB.out⟩
      ·
       rw [if_neg c10] at H; exact absurd H (by simp)
     ·
      rw [if_neg c9] at H; exact absurd H (by simp)
    ·
     rw [if_neg c7] at H; exact absurd H (by simp)
   ·
    rw [if_neg c6] at H; exact absurd H (by simp)

/-! ### bitloftref16_Mixed: function 28 -/
def bitloftref16_Mixed.l0 : Nat → List Int → List Int → Int → Int → Option (Int × Int)
 | 0, _, _, _, _ => none
 | k + 1, x0, x1, x6, x7 => if x7 < 8 then (if 0 ≤ x7 then (if x7 < (x0.length : Int) then (if x7 < (x1.length : Int) then (bitloftref16_Mixed.l0 k x0 x1 (wrap64 (x6 + (wrap64 ((wrap64 (rd x0 x7)) * (wrap64 (rd x1 x7)))))) (wrap64 (x7 + 1))) else (none)) else (none)) else (none)) else (if (Int.tmod (mx (-2147483648) (mn 2147483647 x6)) 65536) < 0 then ((bitloftref04_Squash.f (mx (-2047) (mn 2047 (wrap64 ((wrap64 (Int.tdiv (mx (-2147483648) (mn 2147483647 x6)) 65536)) - 1))))).bind fun t155 => (some (mx (-2047) (mn 2047 (wrap64 ((wrap64 (Int.tdiv (mx (-2147483648) (mn 2147483647 x6)) 65536)) - 1))), t155))) else ((bitloftref04_Squash.f (mx (-2047) (mn 2047 (wrap64 (Int.tdiv (mx (-2147483648) (mn 2147483647 x6)) 65536))))).bind fun t156 => (some (mx (-2047) (mn 2047 (wrap64 (Int.tdiv (mx (-2147483648) (mn 2147483647 x6)) 65536))), t156))))
def bitloftref16_Mixed.f (k : Nat) (l0 : List Int) (l1 : List Int) : Option (Int × Int) := bitloftref16_Mixed.l0 k l0 l1 0 0
theorem bitloftref16_Mixed.mono_l : ∀ k, (∀ y0 y1 y2 y3, LeO (bitloftref16_Mixed.l0 k y0 y1 y2 y3) (bitloftref16_Mixed.l0 (k + 1) y0 y1 y2 y3))
 | 0 => fun _ _ _ _ r h => by simp [bitloftref16_Mixed.l0] at h
 | k + 1 => by
  have ih0 := bitloftref16_Mixed.mono_l k
  ·
   intro y0 y1 y2 y3
   unfold bitloftref16_Mixed.l0
   repeat' first
   | (with_reducible exact ih0 _ _ _ _)
   | (with_reducible exact LeO.refl _)
   | (with_reducible exact LeO.none _)
   | (with_reducible refine LeO.ite ?_ ?_)
   | (with_reducible refine LeO.bind ?_ (fun _ => ?_))
   | exact ih0 _ _ _ _
   | exact LeO.none _
   | refine LeO.ite ?_ ?_
   | refine LeO.bind ?_ (fun _ => ?_)
theorem bitloftref16_Mixed.mono : ∀ a0 a1 k, LeO (bitloftref16_Mixed.f k a0 a1) (bitloftref16_Mixed.f (k + 1) a0 a1) := by
 intro a0 a1 k; have ih0 := bitloftref16_Mixed.mono_l k
 unfold bitloftref16_Mixed.f
 repeat' first
   | (with_reducible exact ih0 _ _ _ _)
   | (with_reducible exact LeO.refl _)
   | (with_reducible exact LeO.none _)
   | (with_reducible refine LeO.ite ?_ ?_)
   | (with_reducible refine LeO.bind ?_ (fun _ => ?_))
   | exact ih0 _ _ _ _
   | exact LeO.none _
   | refine LeO.ite ?_ ?_
   | refine LeO.bind ?_ (fun _ => ?_)
set_option maxHeartbeats 8000000 in
set_option maxRecDepth 100000 in
theorem bitloftref16_Mixed.calls (k : Nat) (A0 : Option Addr) (c0 : Nat) (l0 : List Int) (A1 : Option Addr) (c1 : Nat) (l1 : List Int) (r1 : Int) (r2 : Int) (w : World) (hr0 : Kd.C (Kd.int .i32) w A0 l0.length l0) (hc0 : l0.length ≤ c0) (hr1 : Kd.C (Kd.int .i32) w A1 l1.length l1) (hc1 : l1.length ≤ c1) (h : bitloftref16_Mixed.f k l0 l1 = some (r1, r2)) :
  Calls Tryd.prog 28 #[.slice A0 l0.length c0, .slice A1 l1.length c1] w fun e w' => e = .returned (.tuple #[.int .i32 r1, .int .i32 r2]) ∧ Below w.heap.size w w' := by
 have HR0 := Aside0.mk hr0; have HC0 := Aside0.mk hc0; clear hr0 hc0; have HR1 := Aside0.mk hr1; have HC1 := Aside0.mk hc1; clear hr1 hc1; have HB := Aside0.mk (Below.refl w.heap.size w); have H : (bitloftref16_Mixed.l0 k l0 l1 0 0) = some (r1, r2) := h; clear h; have H' := Aside0.mk H; clear H
 go_enter Tryd.func28, Tryd.ntmps28
 go_wp2
 repeat (go_quiet (fail); try go_wp2)
 go_loopg [6, 7] k (fun kq v6 v7 w' => ∃ (x6_1 : Int) (x7_1 : Int), v6 = .int .i64 x6_1 ∧ v7 = .int .i64 x7_1 ∧ Aside0 (bitloftref16_Mixed.l0 kq l0 l1 x6_1 x7_1 = some (r1, r2)) ∧ Aside0 (kq ≤ k) ∧ Aside0 (Below w.heap.size w w'))
 case atStart => exact ⟨(0), (0), (by first | rfl | (simp; done) | (simp [*]; done)), (by first | rfl | (simp; done) | (simp [*]; done)), H', ⟨Nat.le_refl _⟩, ⟨pH_ HB.out⟩⟩
 case round =>
  clear H'
  try clear c1
  try clear c2
  try clear p2
  obtain ⟨x6_1, x7_1, rfl, rfl, HA, HK1, HB⟩ := hrel
  cases gk with
  | zero => exact absurd HA.out (by simp [bitloftref16_Mixed.l0])
  | succ k1 =>
   have H := HA.out; clear HA; simp only [bitloftref16_Mixed.l0] at H
   by_cases c3 : x7_1 < 8
   ·
    rw [if_pos c3] at H; have c3b0 : decide (x7_1 < 8) = true := decide_eq_true c3; clear c3
    by_cases c4 : 0 ≤ x7_1
    ·
     rw [if_pos c4] at H; have c4b0 : decide (0 ≤ x7_1) = true := decide_eq_true c4; clear c4
     by_cases c5 : x7_1 < (l0.length : Int)
     ·
      rw [if_pos c5] at H; have c5b0 : decide (x7_1 < (l0.length : Int)) = true := decide_eq_true c5; clear c5
      by_cases c6 : x7_1 < (l1.length : Int)
      ·
       rw [if_pos c6] at H; have c6b0 : decide (x7_1 < (l1.length : Int)) = true := decide_eq_true c6; clear c6; have H' := Aside0.mk H; clear H; have p153 : 0 ≤ (x7_1 : Int) := of_decide_eq_true (by first | (with_reducible assumption) | assumption); have q153 : x7_1 < (l0.length : Int) := of_decide_eq_true (by first | (with_reducible assumption) | assumption); obtain ⟨ad153, e153, hx153_0⟩ := Kd.at_int HR0.out x7_1 p153 q153
       cases e153
       replace hx153_0 := (HB.out.cell (World.block_lt_of_cell? w _ hx153_0)).trans hx153_0; replace p153 := eq_true p153; replace q153 := eq_true q153; have p154 : 0 ≤ (x7_1 : Int) := of_decide_eq_true (by first | (with_reducible assumption) | assumption); have q154 : x7_1 < (l1.length : Int) := of_decide_eq_true (by first | (with_reducible assumption) | assumption); obtain ⟨ad154, e154, hx154_0⟩ := Kd.at_int HR1.out x7_1 p154 q154
       cases e154
       replace hx154_0 := (HB.out.cell (World.block_lt_of_cell? w _ hx154_0)).trans hx154_0; replace p154 := eq_true p154; replace q154 := eq_true q154
       go_wp2
       repeat (go_quiet (fail); try go_wp2)
       go_roundg k1
       case measure => have := HK1.out; omega
       case rel => exact ⟨(wrap64 (x6_1 + (wrap64 ((wrap64 (rd l0 x7_1)) * (wrap64 (rd l1 x7_1)))))), (wrap64 (x7_1 + 1)), (by first | rfl | (simp; done) | (simp [*]; done)), (by first | rfl | (simp; done) | (simp [*]; done)), H', ⟨by have := HK1.out; omega⟩, ⟨pH_ HB.out⟩⟩
      ·
       rw [if_neg c6] at H; exact absurd H (by simp)
     ·
      rw [if_neg c5] at H; exact absurd H (by simp)
    ·
     rw [if_neg c4] at H; exact absurd H (by simp)
   ·
    rw [if_neg c3] at H; have c3b0 : decide (x7_1 < 8) = false := decide_eq_false c3; clear c3; obtain ⟨ji7, hji7⟩ : ∃ j_ : Int, (mn 2147483647 x6_1) = j_ := ⟨_, rfl⟩
    replace H : (if (Int.tmod (mx (-2147483648) (ji7)) 65536) < 0 then ((bitloftref04_Squash.f (mx (-2047) (mn 2047 (wrap64 ((wrap64 (Int.tdiv (mx (-2147483648) (ji7)) 65536)) - 1))))).bind fun t155 => (some (mx (-2047) (mn 2047 (wrap64 ((wrap64 (Int.tdiv (mx (-2147483648) (ji7)) 65536)) - 1))), t155))) else ((bitloftref04_Squash.f (mx (-2047) (mn 2047 (wrap64 (Int.tdiv (mx (-2147483648) (ji7)) 65536))))).bind fun t156 => (some (mx (-2047) (mn 2047 (wrap64 (Int.tdiv (mx (-2147483648) (ji7)) 65536))), t156)))) = some (r1, r2) := by first | (rw [hji7] at H; exact H) | (simp only [hji7] at H ⊢; exact H)
    have hji7_ : (if x6_1 < 2147483647 then x6_1 else 2147483647) = ji7 := hji7; obtain ⟨ji8, hji8⟩ : ∃ j_ : Int, (mx (-2147483648) (ji7)) = j_ := ⟨_, rfl⟩
    replace H : (if (Int.tmod (ji8) 65536) < 0 then ((bitloftref04_Squash.f (mx (-2047) (mn 2047 (wrap64 ((wrap64 (Int.tdiv (ji8) 65536)) - 1))))).bind fun t155 => (some (mx (-2047) (mn 2047 (wrap64 ((wrap64 (Int.tdiv (ji8) 65536)) - 1))), t155))) else ((bitloftref04_Squash.f (mx (-2047) (mn 2047 (wrap64 (Int.tdiv (ji8) 65536))))).bind fun t156 => (some (mx (-2047) (mn 2047 (wrap64 (Int.tdiv (ji8) 65536))), t156)))) = some (r1, r2) := by first | (rw [hji8] at H; exact H) | (simp only [hji8] at H ⊢; exact H)
    have hji8_ : (if (-2147483648) < (ji7) then (ji7) else (-2147483648)) = ji8 := hji8
    by_cases c9 : (Int.tmod (ji8) 65536) < 0
    ·
     rw [if_pos c9] at H; have c9b0 : decide ((Int.tmod (ji8) 65536) < 0) = true := decide_eq_true c9; clear c9; obtain ⟨ji10, hji10⟩ : ∃ j_ : Int, (mn 2047 (wrap64 ((wrap64 (Int.tdiv (ji8) 65536)) - 1))) = j_ := ⟨_, rfl⟩
     replace H : ((bitloftref04_Squash.f (mx (-2047) (ji10))).bind fun t155 => (some (mx (-2047) (ji10), t155))) = some (r1, r2) := by first | (rw [hji10] at H; exact H) | (simp only [hji10] at H ⊢; exact H)
     have hji10_ : (if (wrap64 ((wrap64 (Int.tdiv (ji8) 65536)) - 1)) < 2047 then (wrap64 ((wrap64 (Int.tdiv (ji8) 65536)) - 1)) else 2047) = ji10 := hji10; have hji10_t_ : (if (wrap64 ((Int.tdiv (ji8) 65536) - 1)) < 2047 then (wrap64 ((Int.tdiv (ji8) 65536) - 1)) else 2047) = ji10 := by have e_ := hji10_; have t_ : wrap64 (Int.tdiv (ji8) 65536) = (Int.tdiv (ji8) 65536) := tdq_ _ _ (by omega); rw [t_] at e_; exact e_
     obtain ⟨ji11, hji11⟩ : ∃ j_ : Int, (mx (-2047) (ji10)) = j_ := ⟨_, rfl⟩
     replace H : ((bitloftref04_Squash.f (ji11)).bind fun t155 => (some (ji11, t155))) = some (r1, r2) := by first | (rw [hji11] at H; exact H) | (simp only [hji11] at H ⊢; exact H)
     have hji11_ : (if (-2047) < (ji10) then (ji10) else (-2047)) = ji11 := hji11; replace H := Option.bind_eq_some_iff.mp H; obtain ⟨t155, A120, H⟩ := H; replace H : (some (ji11, t155)) = some (r1, r2) := H; have A12 := Aside0.mk A120; clear A120; simp only [Option.some.injEq, Prod.mk.injEq] at H; obtain ⟨rfl, rfl⟩ := H
     go_wp2_with (first | (go_at_call 43; (with_reducible refine (bitloftref04_Squash.calls ji11 t155 _ A12.out).mono ?_); rintro e w13 ⟨rfl, hb⟩; have n0_ := Aside0.mk (below_step (pH_ HB.out) hb); clear HB; have HB := n0_; clear n0_; (try clear hb)))
     repeat (go_quiet (first | (go_at_call 43; (with_reducible refine (bitloftref04_Squash.calls ji11 t155 _ A12.out).mono ?_); rintro e w13 ⟨rfl, hb⟩; have n0_ := Aside0.mk (below_step (pH_ HB.out) hb); clear HB; have HB := n0_; clear n0_; (try clear hb))); try go_wp2_with (first | (go_at_call 43; (with_reducible refine (bitloftref04_Squash.calls ji11 t155 _ A12.out).mono ?_); rintro e w13 ⟨rfl, hb⟩; have n0_ := Aside0.mk (below_step (pH_ HB.out) hb); clear HB; have HB := n0_; clear n0_; (try clear hb))))
     go_ret2
     exact ⟨by first | rfl | (simp [errW_none, errW_some] <;> rfl) | (simp only [← hji7, ← hji8, ← hji10, ← hji11]; first | rfl | (simp [errW_none, errW_some] <;> rfl)) | (simp [*, errW_none, errW_some] <;> rfl), pH_ HB.out⟩
    ·
     rw [if_neg c9] at H; have c9b0 : decide ((Int.tmod (ji8) 65536) < 0) = false := decide_eq_false c9; clear c9; obtain ⟨ji14, hji14⟩ : ∃ j_ : Int, (mn 2047 (wrap64 (Int.tdiv (ji8) 65536))) = j_ := ⟨_, rfl⟩
     replace H : ((bitloftref04_Squash.f (mx (-2047) (ji14))).bind fun t156 => (some (mx (-2047) (ji14), t156))) = some (r1, r2) := by first | (rw [hji14] at H; exact H) | (simp only [hji14] at H ⊢; exact H)
     have hji14_ : (if (wrap64 (Int.tdiv (ji8) 65536)) < 2047 then (wrap64 (Int.tdiv (ji8) 65536)) else 2047) = ji14 := hji14; have hji14_t_ : (if (Int.tdiv (ji8) 65536) < 2047 then (Int.tdiv (ji8) 65536) else 2047) = ji14 := by have e_ := hji14_; have t_ : wrap64 (Int.tdiv (ji8) 65536) = (Int.tdiv (ji8) 65536) := tdq_ _ _ (by omega); rw [t_] at e_; exact e_
     obtain ⟨ji15, hji15⟩ : ∃ j_ : Int, (mx (-2047) (ji14)) = j_ := ⟨_, rfl⟩
     replace H : ((bitloftref04_Squash.f (ji15)).bind fun t156 => (some (ji15, t156))) = some (r1, r2) := by first | (rw [hji15] at H; exact H) | (simp only [hji15] at H ⊢; exact H)
     have hji15_ : (if (-2047) < (ji14) then (ji14) else (-2047)) = ji15 := hji15; replace H := Option.bind_eq_some_iff.mp H; obtain ⟨t156, A160, H⟩ := H; replace H : (some (ji15, t156)) = some (r1, r2) := H; have A16 := Aside0.mk A160; clear A160; simp only [Option.some.injEq, Prod.mk.injEq] at H; obtain ⟨rfl, rfl⟩ := H
     go_wp2_with (first | (go_at_call 43; (with_reducible refine (bitloftref04_Squash.calls ji15 t156 _ A16.out).mono ?_); rintro e w17 ⟨rfl, hb⟩; have n0_ := Aside0.mk (below_step (pH_ HB.out) hb); clear HB; have HB := n0_; clear n0_; (try clear hb)))
     repeat (go_quiet (first | (go_at_call 43; (with_reducible refine (bitloftref04_Squash.calls ji15 t156 _ A16.out).mono ?_); rintro e w17 ⟨rfl, hb⟩; have n0_ := Aside0.mk (below_step (pH_ HB.out) hb); clear HB; have HB := n0_; clear n0_; (try clear hb))); try go_wp2_with (first | (go_at_call 43; (with_reducible refine (bitloftref04_Squash.calls ji15 t156 _ A16.out).mono ?_); rintro e w17 ⟨rfl, hb⟩; have n0_ := Aside0.mk (below_step (pH_ HB.out) hb); clear HB; have HB := n0_; clear n0_; (try clear hb))))
     go_ret2
     exact ⟨by first | rfl | (simp [errW_none, errW_some] <;> rfl) | (simp only [← hji7, ← hji8, ← hji14, ← hji15]; first | rfl | (simp [errW_none, errW_some] <;> rfl)) | (simp [*, errW_none, errW_some] <;> rfl), pH_ HB.out⟩

/-! ### bitloftref16_Mix: function 12 -/
def bitloftref16_Mix.f (k : Nat) (l0_0 : List (List Int)) (a1 : Int) (l2 : List Int) : Option (Int × Int × Int) := (bitloftref16_Asked.f k l0_0 a1 l2).bind fun t158 => (if t158 = 0 then (if 0 ≤ a1 then (if a1 < (l0_0.length : Int) then ((bitloftref16_Mixed.f k (rd_L1 l0_0 a1) l2).bind fun bt160 => (some (bt160.1, bt160.2, 0))) else (none)) else (none)) else ((bitloftref16_Asked.f k l0_0 a1 l2).bind fun t162 => (some (0, 0, t162))))
theorem bitloftref16_Mix.mono : ∀ a0 a1 a2 k, LeO (bitloftref16_Mix.f k a0 a1 a2) (bitloftref16_Mix.f (k + 1) a0 a1 a2) := by
 intro a0 a1 a2 k
 unfold bitloftref16_Mix.f
 repeat' first
   | (with_reducible exact bitloftref16_Asked.mono _ _ _ _)
   | (with_reducible exact bitloftref16_Mixed.mono _ _ _)
   | (with_reducible exact LeO.refl _)
   | (with_reducible exact LeO.none _)
   | (with_reducible refine LeO.ite ?_ ?_)
   | (with_reducible refine LeO.bind ?_ (fun _ => ?_))
   | exact bitloftref16_Asked.mono _ _ _ _
   | exact bitloftref16_Mixed.mono _ _ _
   | exact LeO.none _
   | refine LeO.ite ?_ ?_
   | refine LeO.bind ?_ (fun _ => ?_)
set_option maxHeartbeats 8000000 in
set_option maxRecDepth 100000 in
theorem bitloftref16_Mix.calls (k : Nat) (A0_0 : Option Addr) (c0_0 : Nat) (l0_0 : List (List Int)) (a1 : Int) (A2 : Option Addr) (c2 : Nat) (l2 : List Int) (r1 : Int) (r2 : Int) (r3 : Int) (w : World) (hr0_0 : Kd.C (Kd.slice 21 (Kd.int .i32)) w A0_0 l0_0.length l0_0) (hc0_0 : l0_0.length ≤ c0_0) (hr2 : Kd.C (Kd.int .i32) w A2 l2.length l2) (hc2 : l2.length ≤ c2) (h : bitloftref16_Mix.f k l0_0 a1 l2 = some (r1, r2, r3)) :
  Calls Tryd.prog 12 #[.agg #[.slice A0_0 l0_0.length c0_0], .int .i64 a1, .slice A2 l2.length c2] w fun e w' => e = .returned (.tuple #[.int .i32 r1, .int .i32 r2, .int .i64 r3]) ∧ Below w.heap.size w w' := by
 have hu24 := Tryd.underlying24; have HR0_0 := Aside0.mk hr0_0; have HC0_0 := Aside0.mk hc0_0; clear hr0_0 hc0_0; have HR2 := Aside0.mk hr2; have HC2 := Aside0.mk hc2; clear hr2 hc2; have HB := Aside0.mk (Below.refl w.heap.size w); have H : ((bitloftref16_Asked.f k l0_0 a1 l2).bind fun t158 => (if t158 = 0 then (if 0 ≤ a1 then (if a1 < (l0_0.length : Int) then ((bitloftref16_Mixed.f k (rd_L1 l0_0 a1) l2).bind fun bt160 => (some (bt160.1, bt160.2, 0))) else (none)) else (none)) else ((bitloftref16_Asked.f k l0_0 a1 l2).bind fun t162 => (some (0, 0, t162))))) = some (r1, r2, r3) := h; clear h; replace H := Option.bind_eq_some_iff.mp H; obtain ⟨t158, A40, H⟩ := H; replace H : (if t158 = 0 then (if 0 ≤ a1 then (if a1 < (l0_0.length : Int) then ((bitloftref16_Mixed.f k (rd_L1 l0_0 a1) l2).bind fun bt160 => (some (bt160.1, bt160.2, 0))) else (none)) else (none)) else ((bitloftref16_Asked.f k l0_0 a1 l2).bind fun t162 => (some (0, 0, t162)))) = some (r1, r2, r3) := H; have A4 := Aside0.mk A40; clear A40
 by_cases c5 : t158 = 0
 ·
  rw [if_pos c5] at H; have c5b0 : (t158 == 0) = true := beq_iff_eq.mpr c5; have c5b1 : (t158 != 0) = false := bne_eq_false_iff_eq.mpr c5; clear c5
  by_cases c6 : 0 ≤ a1
  ·
   rw [if_pos c6] at H; have c6b0 : decide (0 ≤ a1) = true := decide_eq_true c6; clear c6
   by_cases c7 : a1 < (l0_0.length : Int)
   ·
    rw [if_pos c7] at H; have c7b0 : decide (a1 < (l0_0.length : Int)) = true := decide_eq_true c7; clear c7; replace H := Option.bind_eq_some_iff.mp H; obtain ⟨⟨t160, t161⟩, A80, H⟩ := H; replace H : (some (t160, t161, 0)) = some (r1, r2, r3) := H; have A8 := Aside0.mk A80; clear A80; simp only [Option.some.injEq, Prod.mk.injEq] at H; obtain ⟨rfl, rfl, rfl⟩ := H
    go_enter Tryd.func12, Tryd.ntmps12
    go_wp2_with (first | ((with_reducible refine gate_dst (N := 3) rfl ?_); refine box_event ?hg (N := 3) ?hd (cs := #[.slice A0_0 l0_0.length c0_0]) (t := 24) ?hr ?_; (case hd => rfl); (case hg => rfl); (case hr => first | (go_simp; done) | (go_simp; rfl)); intro gb157 hg w9 hbox hb; have n0_ := Aside0.mk (below_step (pH_ HB.out) hb); have n1_ := Aside0.mk (hbox); have n2_ := Aside0.mk ((by rw [hg]; exact (below_size (pH_ HB.out)) : w.heap.size ≤ gb157)); have n3_ := Aside0.mk ((by rw [hg]; exact (below_size (pH_ HB.out)) : w.heap.size ≤ gb157)); clear HB; have HB := n0_; have BK157 := n1_; have GW157 := n2_; have GE157 := n3_; clear n0_ n1_ n2_ n3_; clear hb hbox hg; have hcz10_0 : w9.cell? ⟨gb157, 0, none⟩ = some (.slice A0_0 l0_0.length c0_0) := (blk_cell BK157.out 0).trans rfl; have hfz10_0 := blk_frozen BK157.out 0) | ((with_reducible refine gate_callee (f := 27) rfl ?_); refine gL_ (some 14) Tryd.func27 #[.agg #[.slice A0_0 l0_0.length c0_0], .int .i64 a1, .slice A2 l2.length c2] ?_; (with_reducible refine (bitloftref16_Asked.calls k _ _ l0_0 a1 _ _ l2 t158 _ ?side1 ?side2 ?side3 ?side4 A4.out).mono ?_); (case side1 => repeat (first | exact (Kd.C_below HR0_0.out HB.out) | (with_reducible refine Kd.C_alloc ?_ _) | (with_reducible refine Kd.C_drewN ?_ _) | (with_reducible refine Kd.C_drew ?_))); (case side2 => exact HC0_0.out); (case side3 => repeat (first | exact (Kd.C_below HR2.out HB.out) | (with_reducible refine Kd.C_alloc ?_ _) | (with_reducible refine Kd.C_drewN ?_ _) | (with_reducible refine Kd.C_drew ?_))); (case side4 => exact HC2.out); rintro e w11 ⟨rfl, hb⟩; refine ⟨_, rfl, ?_⟩; have n0_ := Aside0.mk (blk_below (pG_ BK157.out) hb); have n1_ := Aside0.mk (below_step (pH_ HB.out) hb); clear BK157; clear HB; have BK157 := n0_; have HB := n1_; clear n0_ n1_; (try clear hb); have hcz12_0 : w11.cell? ⟨gb157, 0, none⟩ = some (.slice A0_0 l0_0.length c0_0) := (blk_cell BK157.out 0).trans rfl; have hfz12_0 := blk_frozen BK157.out 0; have p159 : 0 ≤ (a1 : Int) := of_decide_eq_true (by first | (with_reducible assumption) | assumption); have q159 : a1 < (l0_0.length : Int) := of_decide_eq_true (by first | (with_reducible assumption) | assumption); obtain ⟨ad159, A159_0, c159_0, e159, hx159_0, hl159_0, hi159_0⟩ := at_L1 HR0_0.out a1 p159 q159; cases e159; replace hx159_0 := (HB.out.cell (World.block_lt_of_cell? w _ hx159_0)).trans hx159_0; have HR159_0 := Aside0.mk hi159_0; have HC159_0 := Aside0.mk hl159_0; clear hi159_0 hl159_0; replace p159 := eq_true p159; replace q159 := eq_true q159) | ((with_reducible refine gate_callee (f := 28) rfl ?_); refine gL_ (some 27) Tryd.func28 #[.slice A159_0 (rd_L1 l0_0 a1).length c159_0, .slice A2 l2.length c2] ?_; (with_reducible refine (bitloftref16_Mixed.calls k _ _ (rd_L1 l0_0 a1) _ _ l2 t160 t161 _ ?side1 ?side2 ?side3 ?side4 A8.out).mono ?_); (case side1 => repeat (first | exact (Kd.C_below HR159_0.out HB.out) | (with_reducible refine Kd.C_alloc ?_ _) | (with_reducible refine Kd.C_drewN ?_ _) | (with_reducible refine Kd.C_drew ?_))); (case side2 => exact HC159_0.out); (case side3 => repeat (first | exact (Kd.C_below HR2.out HB.out) | (with_reducible refine Kd.C_alloc ?_ _) | (with_reducible refine Kd.C_drewN ?_ _) | (with_reducible refine Kd.C_drew ?_))); (case side4 => exact HC2.out); rintro e w13 ⟨rfl, hb⟩; refine ⟨_, rfl, ?_⟩; have n0_ := Aside0.mk (blk_below (pG_ BK157.out) hb); have n1_ := Aside0.mk (below_step (pH_ HB.out) hb); clear BK157; clear HB; have BK157 := n0_; have HB := n1_; clear n0_ n1_; (try clear hb)))
    go_ret3
    exact ⟨by first | rfl | (simp [errW_none, errW_some] <;> rfl) | (simp [*, errW_none, errW_some] <;> rfl), pH_ HB.out⟩
   ·
    rw [if_neg c7] at H; exact absurd H (by simp)
  ·
   rw [if_neg c6] at H; exact absurd H (by simp)
 ·
  rw [if_neg c5] at H; have c5b0 : (t158 == 0) = false := beq_eq_false_iff_ne.mpr c5; have c5b1 : (t158 != 0) = true := bne_iff_ne.mpr c5; replace H := Option.bind_eq_some_iff.mp H; obtain ⟨t162, A140, H⟩ := H; replace H : (some (0, 0, t162)) = some (r1, r2, r3) := H; have A14 := Aside0.mk A140; clear A140; simp only [Option.some.injEq, Prod.mk.injEq] at H; obtain ⟨rfl, rfl, rfl⟩ := H
  go_enter Tryd.func12, Tryd.ntmps12
  go_wp2_with (first | ((with_reducible refine gate_dst (N := 3) rfl ?_); refine box_event ?hg (N := 3) ?hd (cs := #[.slice A0_0 l0_0.length c0_0]) (t := 24) ?hr ?_; (case hd => rfl); (case hg => rfl); (case hr => first | (go_simp; done) | (go_simp; rfl)); intro gb157 hg w15 hbox hb; have n0_ := Aside0.mk (below_step (pH_ HB.out) hb); have n1_ := Aside0.mk (hbox); have n2_ := Aside0.mk ((by rw [hg]; exact (below_size (pH_ HB.out)) : w.heap.size ≤ gb157)); have n3_ := Aside0.mk ((by rw [hg]; exact (below_size (pH_ HB.out)) : w.heap.size ≤ gb157)); clear HB; have HB := n0_; have BK157 := n1_; have GW157 := n2_; have GE157 := n3_; clear n0_ n1_ n2_ n3_; clear hb hbox hg; have hcz16_0 : w15.cell? ⟨gb157, 0, none⟩ = some (.slice A0_0 l0_0.length c0_0) := (blk_cell BK157.out 0).trans rfl; have hfz16_0 := blk_frozen BK157.out 0) | ((with_reducible refine gate_callee (f := 27) rfl ?_); refine gL_ (some 14) Tryd.func27 #[.agg #[.slice A0_0 l0_0.length c0_0], .int .i64 a1, .slice A2 l2.length c2] ?_; (with_reducible refine (bitloftref16_Asked.calls k _ _ l0_0 a1 _ _ l2 t158 _ ?side1 ?side2 ?side3 ?side4 A4.out).mono ?_); (case side1 => repeat (first | exact (Kd.C_below HR0_0.out HB.out) | (with_reducible refine Kd.C_alloc ?_ _) | (with_reducible refine Kd.C_drewN ?_ _) | (with_reducible refine Kd.C_drew ?_))); (case side2 => exact HC0_0.out); (case side3 => repeat (first | exact (Kd.C_below HR2.out HB.out) | (with_reducible refine Kd.C_alloc ?_ _) | (with_reducible refine Kd.C_drewN ?_ _) | (with_reducible refine Kd.C_drew ?_))); (case side4 => exact HC2.out); rintro e w17 ⟨rfl, hb⟩; refine ⟨_, rfl, ?_⟩; have n0_ := Aside0.mk (blk_below (pG_ BK157.out) hb); have n1_ := Aside0.mk (below_step (pH_ HB.out) hb); clear BK157; clear HB; have BK157 := n0_; have HB := n1_; clear n0_ n1_; (try clear hb); have hcz18_0 : w17.cell? ⟨gb157, 0, none⟩ = some (.slice A0_0 l0_0.length c0_0) := (blk_cell BK157.out 0).trans rfl; have hfz18_0 := blk_frozen BK157.out 0) | ((with_reducible refine gate_callee (f := 27) rfl ?_); refine gL_ (some 19) Tryd.func27 #[.agg #[.slice A0_0 l0_0.length c0_0], .int .i64 a1, .slice A2 l2.length c2] ?_; (with_reducible refine (bitloftref16_Asked.calls k _ _ l0_0 a1 _ _ l2 t162 _ ?side1 ?side2 ?side3 ?side4 A14.out).mono ?_); (case side1 => repeat (first | exact (Kd.C_below HR0_0.out HB.out) | (with_reducible refine Kd.C_alloc ?_ _) | (with_reducible refine Kd.C_drewN ?_ _) | (with_reducible refine Kd.C_drew ?_))); (case side2 => exact HC0_0.out); (case side3 => repeat (first | exact (Kd.C_below HR2.out HB.out) | (with_reducible refine Kd.C_alloc ?_ _) | (with_reducible refine Kd.C_drewN ?_ _) | (with_reducible refine Kd.C_drew ?_))); (case side4 => exact HC2.out); rintro e w19 ⟨rfl, hb⟩; refine ⟨_, rfl, ?_⟩; have n0_ := Aside0.mk (blk_below (pG_ BK157.out) hb); have n1_ := Aside0.mk (below_step (pH_ HB.out) hb); clear BK157; clear HB; have BK157 := n0_; have HB := n1_; clear n0_ n1_; (try clear hb)))
  go_ret3
  exact ⟨by first | rfl | (simp [errW_none, errW_some] <;> rfl) | (simp [*, errW_none, errW_some] <;> rfl), pH_ HB.out⟩

/-! ### mixer_wrong: function 29 -/
def mixer_wrong.f (a0 : Int) (a1 : Bool) : Option (Int) := if a1 = true then (some (wrap32 (4095 - a0))) else (some (wrap32 (-a0)))
set_option maxHeartbeats 8000000 in
set_option maxRecDepth 100000 in
theorem mixer_wrong.calls (a0 : Int) (a1 : Bool) (r : Int) (w : World) (h : mixer_wrong.f a0 a1 = some r) :
    Calls Tryd.prog 29 #[.int .i32 a0, .bool a1] w fun e w' => e = .returned (.int .i32 r) ∧ Drawn0 w w' := by
  have H : (if a1 = true then (some (wrap32 (4095 - a0))) else (some (wrap32 (-a0)))) = some r := h
  clear h
  by_cases c3 : a1 = true
  · subst c3
    have H1 : (some (wrap32 (4095 - a0))) = some r := by rw [if_pos rfl] at H; exact H
    clear H
    have H := H1
    clear H1
    obtain rfl := Option.some.inj H
    go_enter Tryd.func29, Tryd.ntmps29
    go_wp2
    go_ret
    exact ⟨by first | rfl | (simp; done) | (simp [*]; done), by repeat (first | exact Drawn0.refl _ | apply Drawn0.step)⟩
  · replace c3 := Bool.eq_false_iff.mpr c3
    subst c3
    have H1 : (some (wrap32 (-a0))) = some r := by rw [if_neg (show ¬ (false = true) by decide)] at H; exact H
    clear H
    have H := H1
    clear H1
    obtain rfl := Option.some.inj H
    go_enter Tryd.func29, Tryd.ntmps29
    go_wp2
    go_ret
    exact ⟨by first | rfl | (simp; done) | (simp [*]; done), by repeat (first | exact Drawn0.refl _ | apply Drawn0.step)⟩

/-! ### mixer_Wrong: function 13 -/
def mixer_Wrong.f (a0 : Int) (a1 : Bool) : Option (Int × Int) := if a0 < 0 then (some (0, 2)) else (if a0 > 4095 then (some (0, 2)) else ((mixer_wrong.f a0 a1).bind fun t163 => (some (t163, 0))))
set_option maxHeartbeats 8000000 in
set_option maxRecDepth 100000 in
theorem mixer_Wrong.calls (a0 : Int) (a1 : Bool) (r1 : Int) (r2 : Int) (w : World) (h : mixer_Wrong.f a0 a1 = some (r1, r2)) :
  Calls Tryd.prog 13 #[.int .i32 a0, .bool a1] w fun e w' => e = .returned (.tuple #[.int .i32 r1, .int .i64 r2]) ∧ Drawn0 w w' := by
 have H : (if a0 < 0 then (some (0, 2)) else (if a0 > 4095 then (some (0, 2)) else ((mixer_wrong.f a0 a1).bind fun t163 => (some (t163, 0))))) = some (r1, r2) := h; clear h
 by_cases c3 : a0 < 0
 ·
  rw [if_pos c3] at H; have c3b0 : decide (a0 < 0) = true := decide_eq_true c3; clear c3; simp only [Option.some.injEq, Prod.mk.injEq] at H; obtain ⟨rfl, rfl⟩ := H
  go_enter Tryd.func13, Tryd.ntmps13
  go_wp2
  go_ret2
  exact ⟨by first | rfl | (simp; done) | (simp [*]; done), by repeat (first | exact Drawn0.refl _ | apply Drawn0.step)⟩
 ·
  rw [if_neg c3] at H; have c3b0 : decide (a0 < 0) = false := decide_eq_false c3; clear c3
  by_cases c4 : a0 > 4095
  ·
   rw [if_pos c4] at H; have c4b0 : decide (4095 < a0) = true := decide_eq_true c4; clear c4; simp only [Option.some.injEq, Prod.mk.injEq] at H; obtain ⟨rfl, rfl⟩ := H
   go_enter Tryd.func13, Tryd.ntmps13
   go_wp2
   go_ret2
   exact ⟨by first | rfl | (simp; done) | (simp [*]; done), by repeat (first | exact Drawn0.refl _ | apply Drawn0.step)⟩
  ·
   rw [if_neg c4] at H; have c4b0 : decide (4095 < a0) = false := decide_eq_false c4; clear c4; replace H := Option.bind_eq_some_iff.mp H; obtain ⟨t163, A50, H⟩ := H; replace H : (some (t163, 0)) = some (r1, r2) := H; have A5 := Aside0.mk A50; clear A50; simp only [Option.some.injEq, Prod.mk.injEq] at H; obtain ⟨rfl, rfl⟩ := H
   go_enter Tryd.func13, Tryd.ntmps13
   go_wp2_with (first | ((with_reducible refine gate_callee (f := 29) rfl ?_); refine gL_ (some 14) Tryd.func29 #[.int .i32 a0, .bool a1] ?_; (with_reducible refine (mixer_wrong.calls a0 a1 t163 _ A5.out).mono ?_); rintro e w' ⟨rfl, ⟨nd, rfl⟩⟩; refine ⟨_, rfl, ?_⟩))
   go_ret2
   exact ⟨by first | rfl | (simp; done) | (simp [*]; done), by repeat (first | exact Drawn0.refl _ | apply Drawn0.step)⟩

/-! ### bitloftref16_Off: function 30 -/
def bitloftref16_Off.f (a0 : Int) (a1 : Bool) : Option (Int) := if a1 = true then (some (wrap64 (4095 - (wrap64 (a0))))) else (some (wrap64 (-(wrap64 (a0)))))
set_option maxHeartbeats 8000000 in
set_option maxRecDepth 100000 in
theorem bitloftref16_Off.calls (a0 : Int) (a1 : Bool) (r : Int) (w : World) (h : bitloftref16_Off.f a0 a1 = some r) :
    Calls Tryd.prog 30 #[.int .i32 a0, .bool a1] w fun e w' => e = .returned (.int .i64 r) ∧ Drawn0 w w' := by
  have H : (if a1 = true then (some (wrap64 (4095 - (wrap64 (a0))))) else (some (wrap64 (-(wrap64 (a0)))))) = some r := h
  clear h
  by_cases c3 : a1 = true
  · subst c3
    have H1 : (some (wrap64 (4095 - (wrap64 (a0))))) = some r := by rw [if_pos rfl] at H; exact H
    clear H
    have H := H1
    clear H1
    obtain rfl := Option.some.inj H
    go_enter Tryd.func30, Tryd.ntmps30
    go_wp2
    go_ret
    exact ⟨by first | rfl | (simp; done) | (simp [*]; done), by repeat (first | exact Drawn0.refl _ | apply Drawn0.step)⟩
  · replace c3 := Bool.eq_false_iff.mpr c3
    subst c3
    have H1 : (some (wrap64 (-(wrap64 (a0))))) = some r := by rw [if_neg (show ¬ (false = true) by decide)] at H; exact H
    clear H
    have H := H1
    clear H1
    obtain rfl := Option.some.inj H
    go_enter Tryd.func30, Tryd.ntmps30
    go_wp2
    go_ret
    exact ⟨by first | rfl | (simp; done) | (simp [*]; done), by repeat (first | exact Drawn0.refl _ | apply Drawn0.step)⟩

/-! ### bitloftref16_Wrong: function 14 -/
def bitloftref16_Wrong.f (a0 : Int) (a1 : Bool) : Option (Int × Int) := if a0 < 0 then (some (0, 2)) else (if a0 > 4095 then (some (0, 2)) else ((bitloftref16_Off.f a0 a1).bind fun t164 => (some (wrap32 (t164), 0))))
set_option maxHeartbeats 8000000 in
set_option maxRecDepth 100000 in
theorem bitloftref16_Wrong.calls (a0 : Int) (a1 : Bool) (r1 : Int) (r2 : Int) (w : World) (h : bitloftref16_Wrong.f a0 a1 = some (r1, r2)) :
  Calls Tryd.prog 14 #[.int .i32 a0, .bool a1] w fun e w' => e = .returned (.tuple #[.int .i32 r1, .int .i64 r2]) ∧ Drawn0 w w' := by
 have H : (if a0 < 0 then (some (0, 2)) else (if a0 > 4095 then (some (0, 2)) else ((bitloftref16_Off.f a0 a1).bind fun t164 => (some (wrap32 (t164), 0))))) = some (r1, r2) := h; clear h
 by_cases c3 : a0 < 0
 ·
  rw [if_pos c3] at H; have c3b0 : decide (a0 < 0) = true := decide_eq_true c3; clear c3; simp only [Option.some.injEq, Prod.mk.injEq] at H; obtain ⟨rfl, rfl⟩ := H
  go_enter Tryd.func14, Tryd.ntmps14
  go_wp2
  go_ret2
  exact ⟨by first | rfl | (simp; done) | (simp [*]; done), by repeat (first | exact Drawn0.refl _ | apply Drawn0.step)⟩
 ·
  rw [if_neg c3] at H; have c3b0 : decide (a0 < 0) = false := decide_eq_false c3; clear c3
  by_cases c4 : a0 > 4095
  ·
   rw [if_pos c4] at H; have c4b0 : decide (4095 < a0) = true := decide_eq_true c4; clear c4; simp only [Option.some.injEq, Prod.mk.injEq] at H; obtain ⟨rfl, rfl⟩ := H
   go_enter Tryd.func14, Tryd.ntmps14
   go_wp2
   go_ret2
   exact ⟨by first | rfl | (simp; done) | (simp [*]; done), by repeat (first | exact Drawn0.refl _ | apply Drawn0.step)⟩
  ·
   rw [if_neg c4] at H; have c4b0 : decide (4095 < a0) = false := decide_eq_false c4; clear c4; replace H := Option.bind_eq_some_iff.mp H; obtain ⟨t164, A50, H⟩ := H; replace H : (some (wrap32 (t164), 0)) = some (r1, r2) := H; have A5 := Aside0.mk A50; clear A50; simp only [Option.some.injEq, Prod.mk.injEq] at H; obtain ⟨rfl, rfl⟩ := H
   go_enter Tryd.func14, Tryd.ntmps14
   go_wp2_with (first | ((with_reducible refine gate_callee (f := 30) rfl ?_); refine gL_ (some 14) Tryd.func30 #[.int .i32 a0, .bool a1] ?_; (with_reducible refine (bitloftref16_Off.calls a0 a1 t164 _ A5.out).mono ?_); rintro e w' ⟨rfl, ⟨nd, rfl⟩⟩; refine ⟨_, rfl, ?_⟩))
   go_ret2
   exact ⟨by first | rfl | (simp; done) | (simp [*]; done), by repeat (first | exact Drawn0.refl _ | apply Drawn0.step)⟩

/-! ### bitloftref16_SameRow: function 22 -/
def bitloftref16_SameRow.l0 : Nat → List Int → List Int → Int → Option (Bool)
 | 0, _, _, _ => none
 | k + 1, x0, x1, x5 => if x5 < (x0.length : Int) then (if 0 ≤ x5 then (if x5 < (x1.length : Int) then (if (rd x0 x5) = (rd x1 x5) then (bitloftref16_SameRow.l0 k x0 x1 (wrap64 (x5 + 1))) else (some false)) else (none)) else (none)) else (some true)
def bitloftref16_SameRow.f (k : Nat) (l0 : List Int) (l1 : List Int) : Option (Bool) := if (l0.length : Int) = (l1.length : Int) then (bitloftref16_SameRow.l0 k l0 l1 0) else (some false)
theorem bitloftref16_SameRow.mono_l : ∀ k, (∀ y0 y1 y2, LeO (bitloftref16_SameRow.l0 k y0 y1 y2) (bitloftref16_SameRow.l0 (k + 1) y0 y1 y2))
 | 0 => fun _ _ _ r h => by simp [bitloftref16_SameRow.l0] at h
 | k + 1 => by
  have ih0 := bitloftref16_SameRow.mono_l k
  ·
   intro y0 y1 y2
   unfold bitloftref16_SameRow.l0
   repeat' first
   | (with_reducible exact ih0 _ _ _)
   | (with_reducible exact LeO.refl _)
   | (with_reducible exact LeO.none _)
   | (with_reducible refine LeO.ite ?_ ?_)
   | (with_reducible refine LeO.bind ?_ (fun _ => ?_))
   | exact ih0 _ _ _
   | exact LeO.none _
   | refine LeO.ite ?_ ?_
   | refine LeO.bind ?_ (fun _ => ?_)
theorem bitloftref16_SameRow.mono : ∀ a0 a1 k, LeO (bitloftref16_SameRow.f k a0 a1) (bitloftref16_SameRow.f (k + 1) a0 a1) := by
 intro a0 a1 k; have ih0 := bitloftref16_SameRow.mono_l k
 unfold bitloftref16_SameRow.f
 repeat' first
   | (with_reducible exact ih0 _ _ _)
   | (with_reducible exact LeO.refl _)
   | (with_reducible exact LeO.none _)
   | (with_reducible refine LeO.ite ?_ ?_)
   | (with_reducible refine LeO.bind ?_ (fun _ => ?_))
   | exact ih0 _ _ _
   | exact LeO.none _
   | refine LeO.ite ?_ ?_
   | refine LeO.bind ?_ (fun _ => ?_)
set_option maxHeartbeats 8000000 in
set_option maxRecDepth 100000 in
theorem bitloftref16_SameRow.calls (k : Nat) (A0 : Option Addr) (c0 : Nat) (l0 : List Int) (A1 : Option Addr) (c1 : Nat) (l1 : List Int) (r : Bool) (w : World) (hr0 : Kd.C (Kd.int .i32) w A0 l0.length l0) (hc0 : l0.length ≤ c0) (hr1 : Kd.C (Kd.int .i32) w A1 l1.length l1) (hc1 : l1.length ≤ c1) (h : bitloftref16_SameRow.f k l0 l1 = some r) :
  Calls Tryd.prog 22 #[.slice A0 l0.length c0, .slice A1 l1.length c1] w fun e w' => e = .returned (.bool r) ∧ Drawn0 w w' := by
 have HR0 := Aside0.mk hr0; have HC0 := Aside0.mk hc0; clear hr0 hc0; have HR1 := Aside0.mk hr1; have HC1 := Aside0.mk hc1; clear hr1 hc1; have H : (if (l0.length : Int) = (l1.length : Int) then (bitloftref16_SameRow.l0 k l0 l1 0) else (some false)) = some r := h; clear h
 by_cases c3 : (l0.length : Int) = (l1.length : Int)
 ·
  rw [if_pos c3] at H; have c3b0 : ((l0.length : Int) == (l1.length : Int)) = true := beq_iff_eq.mpr c3; have c3b1 : ((l0.length : Int) != (l1.length : Int)) = false := bne_eq_false_iff_eq.mpr c3
  have c3b2 : (l0.length == l1.length) = true := by first | simpa using c3 | (simp at c3 ⊢; omega)
  clear c3; have H' := Aside0.mk H; clear H
  go_enter Tryd.func22, Tryd.ntmps22
  go_wp2
  repeat (go_quiet (fail); try go_wp2)
  go_loopg [5] k (fun kq v5 w' => ∃ (x5_1 : Int), v5 = .int .i64 x5_1 ∧ Aside0 (bitloftref16_SameRow.l0 kq l0 l1 x5_1 = some r) ∧ Aside0 (kq ≤ k) ∧ Drawn0 w w')
  case atStart => exact ⟨(0), (by first | rfl | (simp; done) | (simp [*]; done)), H', ⟨Nat.le_refl _⟩, by repeat (first | exact Drawn0.refl _ | apply Drawn0.step)⟩
  case round =>
   clear H'
   try clear c1
   try clear c2
   try clear p2
   try clear c3
   try clear c3b0
   try clear c3b1
   try clear c3b2
   obtain ⟨x5_1, rfl, HA, HK1, ⟨m1, rfl⟩⟩ := hrel
   cases gk with
   | zero => exact absurd HA.out (by simp [bitloftref16_SameRow.l0])
   | succ k1 =>
    have H := HA.out; clear HA; simp only [bitloftref16_SameRow.l0] at H
    by_cases c4 : x5_1 < (l0.length : Int)
    ·
     rw [if_pos c4] at H; have c4b0 : decide (x5_1 < (l0.length : Int)) = true := decide_eq_true c4; clear c4
     by_cases c5 : 0 ≤ x5_1
     ·
      rw [if_pos c5] at H; have c5b0 : decide (0 ≤ x5_1) = true := decide_eq_true c5; clear c5
      by_cases c6 : x5_1 < (l1.length : Int)
      ·
       rw [if_pos c6] at H; have c6b0 : decide (x5_1 < (l1.length : Int)) = true := decide_eq_true c6; clear c6
       by_cases c7 : (rd l0 x5_1) = (rd l1 x5_1)
       ·
        rw [if_pos c7] at H; have c7b0 : ((rd l0 x5_1) == (rd l1 x5_1)) = true := beq_iff_eq.mpr c7; have c7b1 : ((rd l0 x5_1) != (rd l1 x5_1)) = false := bne_eq_false_iff_eq.mpr c7; clear c7; have H' := Aside0.mk H; clear H; have p165 : 0 ≤ (x5_1 : Int) := of_decide_eq_true (by first | (with_reducible assumption) | assumption); have q165 : x5_1 < (l0.length : Int) := of_decide_eq_true (by first | (with_reducible assumption) | assumption); obtain ⟨ad165, e165, hx165_0⟩ := Kd.at_int HR0.out x5_1 p165 q165
        cases e165
        replace p165 := eq_true p165; replace q165 := eq_true q165; have p166 : 0 ≤ (x5_1 : Int) := of_decide_eq_true (by first | (with_reducible assumption) | assumption); have q166 : x5_1 < (l1.length : Int) := of_decide_eq_true (by first | (with_reducible assumption) | assumption); obtain ⟨ad166, e166, hx166_0⟩ := Kd.at_int HR1.out x5_1 p166 q166
        cases e166
        replace p166 := eq_true p166; replace q166 := eq_true q166
        go_wp2
        repeat (go_quiet (fail); try go_wp2)
        go_roundg k1
        case measure => have := HK1.out; omega
        case rel => exact ⟨(wrap64 (x5_1 + 1)), (by first | rfl | (simp; done) | (simp [*]; done)), H', ⟨by have := HK1.out; omega⟩, by repeat (first | exact Drawn0.refl _ | apply Drawn0.step)⟩
       ·
        rw [if_neg c7] at H; have c7b0 : ((rd l0 x5_1) == (rd l1 x5_1)) = false := beq_eq_false_iff_ne.mpr c7; have c7b1 : ((rd l0 x5_1) != (rd l1 x5_1)) = true := bne_iff_ne.mpr c7; obtain rfl := Option.some.inj H; have p165 : 0 ≤ (x5_1 : Int) := of_decide_eq_true (by first | (with_reducible assumption) | assumption); have q165 : x5_1 < (l0.length : Int) := of_decide_eq_true (by first | (with_reducible assumption) | assumption); obtain ⟨ad165, e165, hx165_0⟩ := Kd.at_int HR0.out x5_1 p165 q165
        cases e165
        replace p165 := eq_true p165; replace q165 := eq_true q165; have p166 : 0 ≤ (x5_1 : Int) := of_decide_eq_true (by first | (with_reducible assumption) | assumption); have q166 : x5_1 < (l1.length : Int) := of_decide_eq_true (by first | (with_reducible assumption) | assumption); obtain ⟨ad166, e166, hx166_0⟩ := Kd.at_int HR1.out x5_1 p166 q166
        cases e166
        replace p166 := eq_true p166; replace q166 := eq_true q166
        go_wp2
        repeat (go_quiet (fail); try go_wp2)
        go_ret
        exact ⟨by first | rfl | (simp; done) | (simp [*]; done), by repeat (first | exact Drawn0.refl _ | apply Drawn0.step)⟩
      ·
       rw [if_neg c6] at H; exact absurd H (by simp)
     ·
      rw [if_neg c5] at H; exact absurd H (by simp)
    ·
     rw [if_neg c4] at H; have c4b0 : decide (x5_1 < (l0.length : Int)) = false := decide_eq_false c4; clear c4; obtain rfl := Option.some.inj H
     go_wp2
     repeat (go_quiet (fail); try go_wp2)
     go_ret
     exact ⟨by first | rfl | (simp; done) | (simp [*]; done), by repeat (first | exact Drawn0.refl _ | apply Drawn0.step)⟩
 ·
  rw [if_neg c3] at H; have c3b0 : ((l0.length : Int) == (l1.length : Int)) = false := beq_eq_false_iff_ne.mpr c3; have c3b1 : ((l0.length : Int) != (l1.length : Int)) = true := bne_iff_ne.mpr c3
  have c3b2 : (l0.length == l1.length) = false := by first | simpa using c3 | (simp at c3 ⊢; omega)
  obtain rfl := Option.some.inj H
  go_enter Tryd.func22, Tryd.ntmps22
  go_wp2
  repeat (go_quiet (fail); try go_wp2)
  go_ret
  exact ⟨by first | rfl | (simp; done) | (simp [*]; done), by repeat (first | exact Drawn0.refl _ | apply Drawn0.step)⟩

/-! ### bitloftref16_Same: function 15 -/
def bitloftref16_Same.l0 : Nat → Int → List (List Int) → List (List Int) → Option (Bool)
 | 0, _, _, _ => none
 | k + 1, x5, x168000, x169000 => if x5 < (x168000.length : Int) then (if 0 ≤ x5 then (if x5 < (x169000.length : Int) then ((bitloftref16_SameRow.f k (rd_L1 x168000 x5) (rd_L1 x169000 x5)).bind fun t171 => (if t171 = true then (bitloftref16_Same.l0 k (wrap64 (x5 + 1)) x168000 x169000) else (some false))) else (none)) else (none)) else (some true)
def bitloftref16_Same.f (k : Nat) (l0_0 : List (List Int)) (l1_0 : List (List Int)) : Option (Bool) := if (l0_0.length : Int) = (l1_0.length : Int) then (bitloftref16_Same.l0 k 0 l0_0 l1_0) else (some false)
theorem bitloftref16_Same.mono_l : ∀ k, (∀ y0 y1 y2, LeO (bitloftref16_Same.l0 k y0 y1 y2) (bitloftref16_Same.l0 (k + 1) y0 y1 y2))
 | 0 => fun _ _ _ r h => by simp [bitloftref16_Same.l0] at h
 | k + 1 => by
  have ih0 := bitloftref16_Same.mono_l k
  ·
   intro y0 y1 y2
   unfold bitloftref16_Same.l0
   repeat' first
   | (with_reducible exact ih0 _ _ _)
   | (with_reducible exact bitloftref16_SameRow.mono _ _ _)
   | (with_reducible exact LeO.refl _)
   | (with_reducible exact LeO.none _)
   | (with_reducible refine LeO.ite ?_ ?_)
   | (with_reducible refine LeO.bind ?_ (fun _ => ?_))
   | exact ih0 _ _ _
   | exact bitloftref16_SameRow.mono _ _ _
   | exact LeO.none _
   | refine LeO.ite ?_ ?_
   | refine LeO.bind ?_ (fun _ => ?_)
theorem bitloftref16_Same.mono : ∀ a0 a1 k, LeO (bitloftref16_Same.f k a0 a1) (bitloftref16_Same.f (k + 1) a0 a1) := by
 intro a0 a1 k; have ih0 := bitloftref16_Same.mono_l k
 unfold bitloftref16_Same.f
 repeat' first
   | (with_reducible exact ih0 _ _ _)
   | (with_reducible exact bitloftref16_SameRow.mono _ _ _)
   | (with_reducible exact LeO.refl _)
   | (with_reducible exact LeO.none _)
   | (with_reducible refine LeO.ite ?_ ?_)
   | (with_reducible refine LeO.bind ?_ (fun _ => ?_))
   | exact ih0 _ _ _
   | exact bitloftref16_SameRow.mono _ _ _
   | exact LeO.none _
   | refine LeO.ite ?_ ?_
   | refine LeO.bind ?_ (fun _ => ?_)
set_option maxHeartbeats 8000000 in
set_option maxRecDepth 100000 in
theorem bitloftref16_Same.calls (k : Nat) (A0_0 : Option Addr) (c0_0 : Nat) (l0_0 : List (List Int)) (A1_0 : Option Addr) (c1_0 : Nat) (l1_0 : List (List Int)) (r : Bool) (w : World) (hr0_0 : Kd.C (Kd.slice 21 (Kd.int .i32)) w A0_0 l0_0.length l0_0) (hc0_0 : l0_0.length ≤ c0_0) (hr1_0 : Kd.C (Kd.slice 21 (Kd.int .i32)) w A1_0 l1_0.length l1_0) (hc1_0 : l1_0.length ≤ c1_0) (h : bitloftref16_Same.f k l0_0 l1_0 = some r) :
  Calls Tryd.prog 15 #[.agg #[.slice A0_0 l0_0.length c0_0], .agg #[.slice A1_0 l1_0.length c1_0]] w fun e w' => e = .returned (.bool r) ∧ Below w.heap.size w w' := by
 have hu24 := Tryd.underlying24; have HR0_0 := Aside0.mk hr0_0; have HC0_0 := Aside0.mk hc0_0; clear hr0_0 hc0_0; have HR1_0 := Aside0.mk hr1_0; have HC1_0 := Aside0.mk hc1_0; clear hr1_0 hc1_0; have HB := Aside0.mk (Below.refl w.heap.size w); have H : (if (l0_0.length : Int) = (l1_0.length : Int) then (bitloftref16_Same.l0 k 0 l0_0 l1_0) else (some false)) = some r := h; clear h
 by_cases c3 : (l0_0.length : Int) = (l1_0.length : Int)
 ·
  rw [if_pos c3] at H; have c3b0 : ((l0_0.length : Int) == (l1_0.length : Int)) = true := beq_iff_eq.mpr c3; have c3b1 : ((l0_0.length : Int) != (l1_0.length : Int)) = false := bne_eq_false_iff_eq.mpr c3
  have c3b2 : (l0_0.length == l1_0.length) = true := by first | simpa using c3 | (simp at c3 ⊢; omega)
  clear c3; have H' := Aside0.mk H; clear H
  go_enter Tryd.func15, Tryd.ntmps15
  go_wp2_with (first | ((with_reducible refine gate_dst (N := 2) rfl ?_); refine box_event ?hg (N := 2) ?hd (cs := #[.slice A0_0 l0_0.length c0_0]) (t := 24) ?hr ?_; (case hd => rfl); (case hg => rfl); (case hr => first | (go_simp; done) | (go_simp; rfl)); intro gb167 hg w4 hbox hb; have n0_ := Aside0.mk (below_step (pH_ HB.out) hb); have n1_ := Aside0.mk (hbox); have n2_ := Aside0.mk ((by rw [hg]; exact (below_size (pH_ HB.out)) : w.heap.size ≤ gb167)); have n3_ := Aside0.mk ((by rw [hg]; exact (below_size (pH_ HB.out)) : w.heap.size ≤ gb167)); clear HB; have HB := n0_; have BK167 := n1_; have GW167 := n2_; have GE167 := n3_; clear n0_ n1_ n2_ n3_; clear hb hbox hg) | ((with_reducible refine gate_dst (N := 3) rfl ?_); refine box_event ?hg (N := 3) ?hd (cs := #[.slice A1_0 l1_0.length c1_0]) (t := 24) ?hr ?_; (case hd => rfl); (case hg => rfl); (case hr => first | (go_simp; done) | (go_simp; rfl)); intro gb168 hg w5 hbox hb; have n0_ := Aside0.mk (blk_below (pG_ BK167.out) hb); have n1_ := Aside0.mk (below_step (pH_ HB.out) hb); have n2_ := Aside0.mk (hbox); have n3_ := Aside0.mk ((by rw [hg]; exact (below_size (pH_ HB.out)) : w.heap.size ≤ gb168)); have n4_ := Aside0.mk ((by rw [hg]; exact (below_size (pH_ HB.out)) : w.heap.size ≤ gb168)); have n5_ := Aside0.mk ((by rw [hg]; exact Nat.ne_of_lt (blk_lt (pG_ BK167.out)) : gb167 ≠ gb168)); have n6_ := Aside0.mk ((by rw [hg]; exact Nat.ne_of_gt (blk_lt (pG_ BK167.out)) : gb168 ≠ gb167)); clear BK167; clear HB; have BK167 := n0_; have HB := n1_; have BK168 := n2_; have GW168 := n3_; have GE168 := n4_; have NB167_168 := n5_; have NB168_167 := n6_; clear n0_ n1_ n2_ n3_ n4_ n5_ n6_; clear hb hbox hg; have hnb6 := NB167_168.out; have hnc6 := NB168_167.out; have hcz7_0 : w5.cell? ⟨gb167, 0, none⟩ = some (.slice A0_0 l0_0.length c0_0) := (blk_cell BK167.out 0).trans rfl; have hfz7_0 := blk_frozen BK167.out 0; have hcz8_0 : w5.cell? ⟨gb168, 0, none⟩ = some (.slice A1_0 l1_0.length c1_0) := (blk_cell BK168.out 0).trans rfl; have hfz8_0 := blk_frozen BK168.out 0))
  repeat (go_quiet (first | ((with_reducible refine gate_dst (N := 2) rfl ?_); refine box_event ?hg (N := 2) ?hd (cs := #[.slice A0_0 l0_0.length c0_0]) (t := 24) ?hr ?_; (case hd => rfl); (case hg => rfl); (case hr => first | (go_simp; done) | (go_simp; rfl)); intro gb167 hg w4 hbox hb; have n0_ := Aside0.mk (below_step (pH_ HB.out) hb); have n1_ := Aside0.mk (hbox); have n2_ := Aside0.mk ((by rw [hg]; exact (below_size (pH_ HB.out)) : w.heap.size ≤ gb167)); have n3_ := Aside0.mk ((by rw [hg]; exact (below_size (pH_ HB.out)) : w.heap.size ≤ gb167)); clear HB; have HB := n0_; have BK167 := n1_; have GW167 := n2_; have GE167 := n3_; clear n0_ n1_ n2_ n3_; clear hb hbox hg) | ((with_reducible refine gate_dst (N := 3) rfl ?_); refine box_event ?hg (N := 3) ?hd (cs := #[.slice A1_0 l1_0.length c1_0]) (t := 24) ?hr ?_; (case hd => rfl); (case hg => rfl); (case hr => first | (go_simp; done) | (go_simp; rfl)); intro gb168 hg w5 hbox hb; have n0_ := Aside0.mk (blk_below (pG_ BK167.out) hb); have n1_ := Aside0.mk (below_step (pH_ HB.out) hb); have n2_ := Aside0.mk (hbox); have n3_ := Aside0.mk ((by rw [hg]; exact (below_size (pH_ HB.out)) : w.heap.size ≤ gb168)); have n4_ := Aside0.mk ((by rw [hg]; exact (below_size (pH_ HB.out)) : w.heap.size ≤ gb168)); have n5_ := Aside0.mk ((by rw [hg]; exact Nat.ne_of_lt (blk_lt (pG_ BK167.out)) : gb167 ≠ gb168)); have n6_ := Aside0.mk ((by rw [hg]; exact Nat.ne_of_gt (blk_lt (pG_ BK167.out)) : gb168 ≠ gb167)); clear BK167; clear HB; have BK167 := n0_; have HB := n1_; have BK168 := n2_; have GW168 := n3_; have GE168 := n4_; have NB167_168 := n5_; have NB168_167 := n6_; clear n0_ n1_ n2_ n3_ n4_ n5_ n6_; clear hb hbox hg; have hnb6 := NB167_168.out; have hnc6 := NB168_167.out; have hcz7_0 : w5.cell? ⟨gb167, 0, none⟩ = some (.slice A0_0 l0_0.length c0_0) := (blk_cell BK167.out 0).trans rfl; have hfz7_0 := blk_frozen BK167.out 0; have hcz8_0 : w5.cell? ⟨gb168, 0, none⟩ = some (.slice A1_0 l1_0.length c1_0) := (blk_cell BK168.out 0).trans rfl; have hfz8_0 := blk_frozen BK168.out 0)); try go_wp2_with (first | ((with_reducible refine gate_dst (N := 2) rfl ?_); refine box_event ?hg (N := 2) ?hd (cs := #[.slice A0_0 l0_0.length c0_0]) (t := 24) ?hr ?_; (case hd => rfl); (case hg => rfl); (case hr => first | (go_simp; done) | (go_simp; rfl)); intro gb167 hg w4 hbox hb; have n0_ := Aside0.mk (below_step (pH_ HB.out) hb); have n1_ := Aside0.mk (hbox); have n2_ := Aside0.mk ((by rw [hg]; exact (below_size (pH_ HB.out)) : w.heap.size ≤ gb167)); have n3_ := Aside0.mk ((by rw [hg]; exact (below_size (pH_ HB.out)) : w.heap.size ≤ gb167)); clear HB; have HB := n0_; have BK167 := n1_; have GW167 := n2_; have GE167 := n3_; clear n0_ n1_ n2_ n3_; clear hb hbox hg) | ((with_reducible refine gate_dst (N := 3) rfl ?_); refine box_event ?hg (N := 3) ?hd (cs := #[.slice A1_0 l1_0.length c1_0]) (t := 24) ?hr ?_; (case hd => rfl); (case hg => rfl); (case hr => first | (go_simp; done) | (go_simp; rfl)); intro gb168 hg w5 hbox hb; have n0_ := Aside0.mk (blk_below (pG_ BK167.out) hb); have n1_ := Aside0.mk (below_step (pH_ HB.out) hb); have n2_ := Aside0.mk (hbox); have n3_ := Aside0.mk ((by rw [hg]; exact (below_size (pH_ HB.out)) : w.heap.size ≤ gb168)); have n4_ := Aside0.mk ((by rw [hg]; exact (below_size (pH_ HB.out)) : w.heap.size ≤ gb168)); have n5_ := Aside0.mk ((by rw [hg]; exact Nat.ne_of_lt (blk_lt (pG_ BK167.out)) : gb167 ≠ gb168)); have n6_ := Aside0.mk ((by rw [hg]; exact Nat.ne_of_gt (blk_lt (pG_ BK167.out)) : gb168 ≠ gb167)); clear BK167; clear HB; have BK167 := n0_; have HB := n1_; have BK168 := n2_; have GW168 := n3_; have GE168 := n4_; have NB167_168 := n5_; have NB168_167 := n6_; clear n0_ n1_ n2_ n3_ n4_ n5_ n6_; clear hb hbox hg; have hnb6 := NB167_168.out; have hnc6 := NB168_167.out; have hcz7_0 : w5.cell? ⟨gb167, 0, none⟩ = some (.slice A0_0 l0_0.length c0_0) := (blk_cell BK167.out 0).trans rfl; have hfz7_0 := blk_frozen BK167.out 0; have hcz8_0 : w5.cell? ⟨gb168, 0, none⟩ = some (.slice A1_0 l1_0.length c1_0) := (blk_cell BK168.out 0).trans rfl; have hfz8_0 := blk_frozen BK168.out 0)))
  go_loopg [5] k (fun kq v5 w' => ∃ (x5_1 : Int), v5 = .int .i64 x5_1 ∧ Aside0 (bitloftref16_Same.l0 kq x5_1 l0_0 l1_0 = some r) ∧ Aside0 (kq ≤ k) ∧ Aside0 (w'.heap[gb167]? = some (.cells #[(.slice A0_0 l0_0.length c0_0)] 24 (0, 0))) ∧ Aside0 (w'.heap[gb168]? = some (.cells #[(.slice A1_0 l1_0.length c1_0)] 24 (0, 0))) ∧ Aside0 (Below w.heap.size w w'))
  case atStart => exact ⟨(0), (by first | rfl | (simp; done) | (simp [*]; done)), H', ⟨Nat.le_refl _⟩, ⟨pG_ BK167.out⟩, ⟨pG_ BK168.out⟩, ⟨pH_ HB.out⟩⟩
  case round =>
   clear H'
   try clear c1
   try clear p2
   try clear c3
   try clear c3b0
   try clear c3b1
   try clear c3b2
   try clear c6
   try clear hcz7_0
   try clear hcz8_0
   try clear hfz7_0
   try clear hfz8_0
   obtain ⟨x5_1, rfl, HA, HK1, BK167, BK168, HB⟩ := hrel
   cases gk with
   | zero => exact absurd HA.out (by simp [bitloftref16_Same.l0])
   | succ k1 =>
    have H := HA.out; clear HA; simp only [bitloftref16_Same.l0] at H
    by_cases c9 : x5_1 < (l0_0.length : Int)
    ·
     rw [if_pos c9] at H; have c9b0 : decide (x5_1 < (l0_0.length : Int)) = true := decide_eq_true c9; clear c9
     by_cases c10 : 0 ≤ x5_1
     ·
      rw [if_pos c10] at H; have c10b0 : decide (0 ≤ x5_1) = true := decide_eq_true c10; clear c10
      by_cases c11 : x5_1 < (l1_0.length : Int)
      ·
       rw [if_pos c11] at H; have c11b0 : decide (x5_1 < (l1_0.length : Int)) = true := decide_eq_true c11; clear c11; replace H := Option.bind_eq_some_iff.mp H; obtain ⟨t171, A120, H⟩ := H; replace H : (if t171 = true then (bitloftref16_Same.l0 k1 (wrap64 (x5_1 + 1)) l0_0 l1_0) else (some false)) = some r := H; have A12 := Aside0.mk A120; clear A120
       by_cases c13 : t171 = true
       ·
        subst c13
        have H1 : (bitloftref16_Same.l0 k1 (wrap64 (x5_1 + 1)) l0_0 l1_0) = some r := by rw [if_pos rfl] at H; exact H
        clear H; have H := H1; clear H1; have H' := Aside0.mk H; clear H; have hnb14 := NB167_168.out; have hnc14 := NB168_167.out; have hcz15_0 : wr.cell? ⟨gb167, 0, none⟩ = some (.slice A0_0 l0_0.length c0_0) := (blk_cell BK167.out 0).trans rfl; have hfz15_0 := blk_frozen BK167.out 0; have p169 : 0 ≤ (x5_1 : Int) := of_decide_eq_true (by first | (with_reducible assumption) | assumption); have q169 : x5_1 < (l0_0.length : Int) := of_decide_eq_true (by first | (with_reducible assumption) | assumption); obtain ⟨ad169, A169_0, c169_0, e169, hx169_0, hl169_0, hi169_0⟩ := at_L1 HR0_0.out x5_1 p169 q169
        cases e169
        replace hx169_0 := (HB.out.cell (World.block_lt_of_cell? w _ hx169_0)).trans hx169_0; have HR169_0 := Aside0.mk hi169_0; have HC169_0 := Aside0.mk hl169_0; clear hi169_0 hl169_0; replace p169 := eq_true p169; replace q169 := eq_true q169; have hcz16_0 : wr.cell? ⟨gb168, 0, none⟩ = some (.slice A1_0 l1_0.length c1_0) := (blk_cell BK168.out 0).trans rfl; have hfz16_0 := blk_frozen BK168.out 0; have p170 : 0 ≤ (x5_1 : Int) := of_decide_eq_true (by first | (with_reducible assumption) | assumption); have q170 : x5_1 < (l1_0.length : Int) := of_decide_eq_true (by first | (with_reducible assumption) | assumption); obtain ⟨ad170, A170_0, c170_0, e170, hx170_0, hl170_0, hi170_0⟩ := at_L1 HR1_0.out x5_1 p170 q170
        cases e170
        replace hx170_0 := (HB.out.cell (World.block_lt_of_cell? w _ hx170_0)).trans hx170_0; have HR170_0 := Aside0.mk hi170_0; have HC170_0 := Aside0.mk hl170_0; clear hi170_0 hl170_0; replace p170 := eq_true p170; replace q170 := eq_true q170
        go_wp2_with (first | (go_at_call 22; (with_reducible refine (bitloftref16_SameRow.calls k1 _ _ (rd_L1 l0_0 x5_1) _ _ (rd_L1 l1_0 x5_1) true _ ?side1 ?side2 ?side3 ?side4 A12.out).mono ?_); (case side1 => repeat (first | exact (Kd.C_below HR169_0.out HB.out) | (with_reducible refine Kd.C_alloc ?_ _) | (with_reducible refine Kd.C_drewN ?_ _) | (with_reducible refine Kd.C_drew ?_))); (case side2 => exact HC169_0.out); (case side3 => repeat (first | exact (Kd.C_below HR170_0.out HB.out) | (with_reducible refine Kd.C_alloc ?_ _) | (with_reducible refine Kd.C_drewN ?_ _) | (with_reducible refine Kd.C_drew ?_))); (case side4 => exact HC170_0.out); rintro e w' ⟨rfl, ⟨nd, rfl⟩⟩; (try first | exact ⟨rfl, _, World.drewN_drewN _ _ _⟩ | exact ⟨rfl, _, Eq.trans (World.drewN_drewN _ _ _) (congrArg (World.drewN _) (Nat.add_assoc _ _ _))⟩)))
        repeat (go_quiet (first | (go_at_call 22; (with_reducible refine (bitloftref16_SameRow.calls k1 _ _ (rd_L1 l0_0 x5_1) _ _ (rd_L1 l1_0 x5_1) true _ ?side1 ?side2 ?side3 ?side4 A12.out).mono ?_); (case side1 => repeat (first | exact (Kd.C_below HR169_0.out HB.out) | (with_reducible refine Kd.C_alloc ?_ _) | (with_reducible refine Kd.C_drewN ?_ _) | (with_reducible refine Kd.C_drew ?_))); (case side2 => exact HC169_0.out); (case side3 => repeat (first | exact (Kd.C_below HR170_0.out HB.out) | (with_reducible refine Kd.C_alloc ?_ _) | (with_reducible refine Kd.C_drewN ?_ _) | (with_reducible refine Kd.C_drew ?_))); (case side4 => exact HC170_0.out); rintro e w' ⟨rfl, ⟨nd, rfl⟩⟩; (try first | exact ⟨rfl, _, World.drewN_drewN _ _ _⟩ | exact ⟨rfl, _, Eq.trans (World.drewN_drewN _ _ _) (congrArg (World.drewN _) (Nat.add_assoc _ _ _))⟩))); try go_wp2_with (first | (go_at_call 22; (with_reducible refine (bitloftref16_SameRow.calls k1 _ _ (rd_L1 l0_0 x5_1) _ _ (rd_L1 l1_0 x5_1) true _ ?side1 ?side2 ?side3 ?side4 A12.out).mono ?_); (case side1 => repeat (first | exact (Kd.C_below HR169_0.out HB.out) | (with_reducible refine Kd.C_alloc ?_ _) | (with_reducible refine Kd.C_drewN ?_ _) | (with_reducible refine Kd.C_drew ?_))); (case side2 => exact HC169_0.out); (case side3 => repeat (first | exact (Kd.C_below HR170_0.out HB.out) | (with_reducible refine Kd.C_alloc ?_ _) | (with_reducible refine Kd.C_drewN ?_ _) | (with_reducible refine Kd.C_drew ?_))); (case side4 => exact HC170_0.out); rintro e w' ⟨rfl, ⟨nd, rfl⟩⟩; (try first | exact ⟨rfl, _, World.drewN_drewN _ _ _⟩ | exact ⟨rfl, _, Eq.trans (World.drewN_drewN _ _ _) (congrArg (World.drewN _) (Nat.add_assoc _ _ _))⟩))))
        go_roundg k1
        case measure => have := HK1.out; omega
        case rel => exact ⟨(wrap64 (x5_1 + 1)), (by first | rfl | (simp; done) | (simp [*]; done)), H', ⟨by have := HK1.out; omega⟩, ⟨pG_ BK167.out⟩, ⟨pG_ BK168.out⟩, ⟨pH_ HB.out⟩⟩
       ·
        replace c13 := Bool.eq_false_iff.mpr c13
        subst c13
        have H1 : (some false) = some r := by rw [if_neg (show ¬ (false = true) by decide)] at H; exact H
        clear H; have H := H1; clear H1; obtain rfl := Option.some.inj H; have hnb17 := NB167_168.out; have hnc17 := NB168_167.out; have hcz18_0 : wr.cell? ⟨gb167, 0, none⟩ = some (.slice A0_0 l0_0.length c0_0) := (blk_cell BK167.out 0).trans rfl; have hfz18_0 := blk_frozen BK167.out 0; have p169 : 0 ≤ (x5_1 : Int) := of_decide_eq_true (by first | (with_reducible assumption) | assumption); have q169 : x5_1 < (l0_0.length : Int) := of_decide_eq_true (by first | (with_reducible assumption) | assumption); obtain ⟨ad169, A169_0, c169_0, e169, hx169_0, hl169_0, hi169_0⟩ := at_L1 HR0_0.out x5_1 p169 q169
        cases e169
        replace hx169_0 := (HB.out.cell (World.block_lt_of_cell? w _ hx169_0)).trans hx169_0; have HR169_0 := Aside0.mk hi169_0; have HC169_0 := Aside0.mk hl169_0; clear hi169_0 hl169_0; replace p169 := eq_true p169; replace q169 := eq_true q169; have hcz19_0 : wr.cell? ⟨gb168, 0, none⟩ = some (.slice A1_0 l1_0.length c1_0) := (blk_cell BK168.out 0).trans rfl; have hfz19_0 := blk_frozen BK168.out 0; have p170 : 0 ≤ (x5_1 : Int) := of_decide_eq_true (by first | (with_reducible assumption) | assumption); have q170 : x5_1 < (l1_0.length : Int) := of_decide_eq_true (by first | (with_reducible assumption) | assumption); obtain ⟨ad170, A170_0, c170_0, e170, hx170_0, hl170_0, hi170_0⟩ := at_L1 HR1_0.out x5_1 p170 q170
        cases e170
        replace hx170_0 := (HB.out.cell (World.block_lt_of_cell? w _ hx170_0)).trans hx170_0; have HR170_0 := Aside0.mk hi170_0; have HC170_0 := Aside0.mk hl170_0; clear hi170_0 hl170_0; replace p170 := eq_true p170; replace q170 := eq_true q170
        go_wp2_with (first | (go_at_call 22; (with_reducible refine (bitloftref16_SameRow.calls k1 _ _ (rd_L1 l0_0 x5_1) _ _ (rd_L1 l1_0 x5_1) false _ ?side1 ?side2 ?side3 ?side4 A12.out).mono ?_); (case side1 => repeat (first | exact (Kd.C_below HR169_0.out HB.out) | (with_reducible refine Kd.C_alloc ?_ _) | (with_reducible refine Kd.C_drewN ?_ _) | (with_reducible refine Kd.C_drew ?_))); (case side2 => exact HC169_0.out); (case side3 => repeat (first | exact (Kd.C_below HR170_0.out HB.out) | (with_reducible refine Kd.C_alloc ?_ _) | (with_reducible refine Kd.C_drewN ?_ _) | (with_reducible refine Kd.C_drew ?_))); (case side4 => exact HC170_0.out); rintro e w' ⟨rfl, ⟨nd, rfl⟩⟩; (try first | exact ⟨rfl, _, World.drewN_drewN _ _ _⟩ | exact ⟨rfl, _, Eq.trans (World.drewN_drewN _ _ _) (congrArg (World.drewN _) (Nat.add_assoc _ _ _))⟩)))
        repeat (go_quiet (first | (go_at_call 22; (with_reducible refine (bitloftref16_SameRow.calls k1 _ _ (rd_L1 l0_0 x5_1) _ _ (rd_L1 l1_0 x5_1) false _ ?side1 ?side2 ?side3 ?side4 A12.out).mono ?_); (case side1 => repeat (first | exact (Kd.C_below HR169_0.out HB.out) | (with_reducible refine Kd.C_alloc ?_ _) | (with_reducible refine Kd.C_drewN ?_ _) | (with_reducible refine Kd.C_drew ?_))); (case side2 => exact HC169_0.out); (case side3 => repeat (first | exact (Kd.C_below HR170_0.out HB.out) | (with_reducible refine Kd.C_alloc ?_ _) | (with_reducible refine Kd.C_drewN ?_ _) | (with_reducible refine Kd.C_drew ?_))); (case side4 => exact HC170_0.out); rintro e w' ⟨rfl, ⟨nd, rfl⟩⟩; (try first | exact ⟨rfl, _, World.drewN_drewN _ _ _⟩ | exact ⟨rfl, _, Eq.trans (World.drewN_drewN _ _ _) (congrArg (World.drewN _) (Nat.add_assoc _ _ _))⟩))); try go_wp2_with (first | (go_at_call 22; (with_reducible refine (bitloftref16_SameRow.calls k1 _ _ (rd_L1 l0_0 x5_1) _ _ (rd_L1 l1_0 x5_1) false _ ?side1 ?side2 ?side3 ?side4 A12.out).mono ?_); (case side1 => repeat (first | exact (Kd.C_below HR169_0.out HB.out) | (with_reducible refine Kd.C_alloc ?_ _) | (with_reducible refine Kd.C_drewN ?_ _) | (with_reducible refine Kd.C_drew ?_))); (case side2 => exact HC169_0.out); (case side3 => repeat (first | exact (Kd.C_below HR170_0.out HB.out) | (with_reducible refine Kd.C_alloc ?_ _) | (with_reducible refine Kd.C_drewN ?_ _) | (with_reducible refine Kd.C_drew ?_))); (case side4 => exact HC170_0.out); rintro e w' ⟨rfl, ⟨nd, rfl⟩⟩; (try first | exact ⟨rfl, _, World.drewN_drewN _ _ _⟩ | exact ⟨rfl, _, Eq.trans (World.drewN_drewN _ _ _) (congrArg (World.drewN _) (Nat.add_assoc _ _ _))⟩))))
        go_ret
        exact ⟨by first | rfl | (simp [errW_none, errW_some] <;> rfl) | (simp [*, errW_none, errW_some] <;> rfl), pH_ HB.out⟩
      ·
       rw [if_neg c11] at H; exact absurd H (by simp)
     ·
      rw [if_neg c10] at H; exact absurd H (by simp)
    ·
     rw [if_neg c9] at H; have c9b0 : decide (x5_1 < (l0_0.length : Int)) = false := decide_eq_false c9; clear c9; obtain rfl := Option.some.inj H; have hnb20 := NB167_168.out; have hnc20 := NB168_167.out; have hcz21_0 : wr.cell? ⟨gb167, 0, none⟩ = some (.slice A0_0 l0_0.length c0_0) := (blk_cell BK167.out 0).trans rfl; have hfz21_0 := blk_frozen BK167.out 0
     go_wp2
     repeat (go_quiet (fail); try go_wp2)
     go_ret
     exact ⟨by first | rfl | (simp [errW_none, errW_some] <;> rfl) | (simp [*, errW_none, errW_some] <;> rfl), pH_ HB.out⟩
 ·
  rw [if_neg c3] at H; have c3b0 : ((l0_0.length : Int) == (l1_0.length : Int)) = false := beq_eq_false_iff_ne.mpr c3; have c3b1 : ((l0_0.length : Int) != (l1_0.length : Int)) = true := bne_iff_ne.mpr c3
  have c3b2 : (l0_0.length == l1_0.length) = false := by first | simpa using c3 | (simp at c3 ⊢; omega)
  obtain rfl := Option.some.inj H
  go_enter Tryd.func15, Tryd.ntmps15
  go_wp2_with (first | ((with_reducible refine gate_dst (N := 2) rfl ?_); refine box_event ?hg (N := 2) ?hd (cs := #[.slice A0_0 l0_0.length c0_0]) (t := 24) ?hr ?_; (case hd => rfl); (case hg => rfl); (case hr => first | (go_simp; done) | (go_simp; rfl)); intro gb167 hg w22 hbox hb; have n0_ := Aside0.mk (below_step (pH_ HB.out) hb); have n1_ := Aside0.mk (hbox); have n2_ := Aside0.mk ((by rw [hg]; exact (below_size (pH_ HB.out)) : w.heap.size ≤ gb167)); have n3_ := Aside0.mk ((by rw [hg]; exact (below_size (pH_ HB.out)) : w.heap.size ≤ gb167)); clear HB; have HB := n0_; have BK167 := n1_; have GW167 := n2_; have GE167 := n3_; clear n0_ n1_ n2_ n3_; clear hb hbox hg) | ((with_reducible refine gate_dst (N := 3) rfl ?_); refine box_event ?hg (N := 3) ?hd (cs := #[.slice A1_0 l1_0.length c1_0]) (t := 24) ?hr ?_; (case hd => rfl); (case hg => rfl); (case hr => first | (go_simp; done) | (go_simp; rfl)); intro gb168 hg w23 hbox hb; have n0_ := Aside0.mk (blk_below (pG_ BK167.out) hb); have n1_ := Aside0.mk (below_step (pH_ HB.out) hb); have n2_ := Aside0.mk (hbox); have n3_ := Aside0.mk ((by rw [hg]; exact (below_size (pH_ HB.out)) : w.heap.size ≤ gb168)); have n4_ := Aside0.mk ((by rw [hg]; exact (below_size (pH_ HB.out)) : w.heap.size ≤ gb168)); have n5_ := Aside0.mk ((by rw [hg]; exact Nat.ne_of_lt (blk_lt (pG_ BK167.out)) : gb167 ≠ gb168)); have n6_ := Aside0.mk ((by rw [hg]; exact Nat.ne_of_gt (blk_lt (pG_ BK167.out)) : gb168 ≠ gb167)); clear BK167; clear HB; have BK167 := n0_; have HB := n1_; have BK168 := n2_; have GW168 := n3_; have GE168 := n4_; have NB167_168 := n5_; have NB168_167 := n6_; clear n0_ n1_ n2_ n3_ n4_ n5_ n6_; clear hb hbox hg; have hnb24 := NB167_168.out; have hnc24 := NB168_167.out; have hcz25_0 : w23.cell? ⟨gb167, 0, none⟩ = some (.slice A0_0 l0_0.length c0_0) := (blk_cell BK167.out 0).trans rfl; have hfz25_0 := blk_frozen BK167.out 0; have hcz26_0 : w23.cell? ⟨gb168, 0, none⟩ = some (.slice A1_0 l1_0.length c1_0) := (blk_cell BK168.out 0).trans rfl; have hfz26_0 := blk_frozen BK168.out 0))
  repeat (go_quiet (first | ((with_reducible refine gate_dst (N := 2) rfl ?_); refine box_event ?hg (N := 2) ?hd (cs := #[.slice A0_0 l0_0.length c0_0]) (t := 24) ?hr ?_; (case hd => rfl); (case hg => rfl); (case hr => first | (go_simp; done) | (go_simp; rfl)); intro gb167 hg w22 hbox hb; have n0_ := Aside0.mk (below_step (pH_ HB.out) hb); have n1_ := Aside0.mk (hbox); have n2_ := Aside0.mk ((by rw [hg]; exact (below_size (pH_ HB.out)) : w.heap.size ≤ gb167)); have n3_ := Aside0.mk ((by rw [hg]; exact (below_size (pH_ HB.out)) : w.heap.size ≤ gb167)); clear HB; have HB := n0_; have BK167 := n1_; have GW167 := n2_; have GE167 := n3_; clear n0_ n1_ n2_ n3_; clear hb hbox hg) | ((with_reducible refine gate_dst (N := 3) rfl ?_); refine box_event ?hg (N := 3) ?hd (cs := #[.slice A1_0 l1_0.length c1_0]) (t := 24) ?hr ?_; (case hd => rfl); (case hg => rfl); (case hr => first | (go_simp; done) | (go_simp; rfl)); intro gb168 hg w23 hbox hb; have n0_ := Aside0.mk (blk_below (pG_ BK167.out) hb); have n1_ := Aside0.mk (below_step (pH_ HB.out) hb); have n2_ := Aside0.mk (hbox); have n3_ := Aside0.mk ((by rw [hg]; exact (below_size (pH_ HB.out)) : w.heap.size ≤ gb168)); have n4_ := Aside0.mk ((by rw [hg]; exact (below_size (pH_ HB.out)) : w.heap.size ≤ gb168)); have n5_ := Aside0.mk ((by rw [hg]; exact Nat.ne_of_lt (blk_lt (pG_ BK167.out)) : gb167 ≠ gb168)); have n6_ := Aside0.mk ((by rw [hg]; exact Nat.ne_of_gt (blk_lt (pG_ BK167.out)) : gb168 ≠ gb167)); clear BK167; clear HB; have BK167 := n0_; have HB := n1_; have BK168 := n2_; have GW168 := n3_; have GE168 := n4_; have NB167_168 := n5_; have NB168_167 := n6_; clear n0_ n1_ n2_ n3_ n4_ n5_ n6_; clear hb hbox hg; have hnb24 := NB167_168.out; have hnc24 := NB168_167.out; have hcz25_0 : w23.cell? ⟨gb167, 0, none⟩ = some (.slice A0_0 l0_0.length c0_0) := (blk_cell BK167.out 0).trans rfl; have hfz25_0 := blk_frozen BK167.out 0; have hcz26_0 : w23.cell? ⟨gb168, 0, none⟩ = some (.slice A1_0 l1_0.length c1_0) := (blk_cell BK168.out 0).trans rfl; have hfz26_0 := blk_frozen BK168.out 0)); try go_wp2_with (first | ((with_reducible refine gate_dst (N := 2) rfl ?_); refine box_event ?hg (N := 2) ?hd (cs := #[.slice A0_0 l0_0.length c0_0]) (t := 24) ?hr ?_; (case hd => rfl); (case hg => rfl); (case hr => first | (go_simp; done) | (go_simp; rfl)); intro gb167 hg w22 hbox hb; have n0_ := Aside0.mk (below_step (pH_ HB.out) hb); have n1_ := Aside0.mk (hbox); have n2_ := Aside0.mk ((by rw [hg]; exact (below_size (pH_ HB.out)) : w.heap.size ≤ gb167)); have n3_ := Aside0.mk ((by rw [hg]; exact (below_size (pH_ HB.out)) : w.heap.size ≤ gb167)); clear HB; have HB := n0_; have BK167 := n1_; have GW167 := n2_; have GE167 := n3_; clear n0_ n1_ n2_ n3_; clear hb hbox hg) | ((with_reducible refine gate_dst (N := 3) rfl ?_); refine box_event ?hg (N := 3) ?hd (cs := #[.slice A1_0 l1_0.length c1_0]) (t := 24) ?hr ?_; (case hd => rfl); (case hg => rfl); (case hr => first | (go_simp; done) | (go_simp; rfl)); intro gb168 hg w23 hbox hb; have n0_ := Aside0.mk (blk_below (pG_ BK167.out) hb); have n1_ := Aside0.mk (below_step (pH_ HB.out) hb); have n2_ := Aside0.mk (hbox); have n3_ := Aside0.mk ((by rw [hg]; exact (below_size (pH_ HB.out)) : w.heap.size ≤ gb168)); have n4_ := Aside0.mk ((by rw [hg]; exact (below_size (pH_ HB.out)) : w.heap.size ≤ gb168)); have n5_ := Aside0.mk ((by rw [hg]; exact Nat.ne_of_lt (blk_lt (pG_ BK167.out)) : gb167 ≠ gb168)); have n6_ := Aside0.mk ((by rw [hg]; exact Nat.ne_of_gt (blk_lt (pG_ BK167.out)) : gb168 ≠ gb167)); clear BK167; clear HB; have BK167 := n0_; have HB := n1_; have BK168 := n2_; have GW168 := n3_; have GE168 := n4_; have NB167_168 := n5_; have NB168_167 := n6_; clear n0_ n1_ n2_ n3_ n4_ n5_ n6_; clear hb hbox hg; have hnb24 := NB167_168.out; have hnc24 := NB168_167.out; have hcz25_0 : w23.cell? ⟨gb167, 0, none⟩ = some (.slice A0_0 l0_0.length c0_0) := (blk_cell BK167.out 0).trans rfl; have hfz25_0 := blk_frozen BK167.out 0; have hcz26_0 : w23.cell? ⟨gb168, 0, none⟩ = some (.slice A1_0 l1_0.length c1_0) := (blk_cell BK168.out 0).trans rfl; have hfz26_0 := blk_frozen BK168.out 0)))
  go_ret
  exact ⟨by first | rfl | (simp [errW_none, errW_some] <;> rfl) | (simp [*, errW_none, errW_some] <;> rfl), pH_ HB.out⟩

end Go.Proofs.YtlpkfljihcklkaaDoor.XMixerMixes
