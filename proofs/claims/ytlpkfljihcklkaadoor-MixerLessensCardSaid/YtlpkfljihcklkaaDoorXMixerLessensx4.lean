-- Laid by a program of this session (wip/mkxprint.py, over the kit's print): Lean checks it.
import Derived.Test.YtlpkfljihcklkaaDoorXMixerLessensx0
import Derived.Test.YtlpkfljihcklkaaDoorXMixerLessensx1
import Derived.Test.YtlpkfljihcklkaaDoorXMixerLessensx2
import Derived.Test.YtlpkfljihcklkaaDoorXMixerLessensx3
namespace Go.Proofs.YtlpkfljihcklkaaDoor.XMixerLessens
open List (setIfInBounds_toArray set_cons_zero set_cons_succ)
open Go.RowKit Go.Proofs.YtlpkfljihcklkaaDoorW.PrintWords Go.Proofs.YtlpkfljihcklkaaDoorW.PrintLast Go.Proofs.YtlpkfljihcklkaaDoorW.PrintMore
attribute [local go_sem] max2_int min2_int max_two min_two max_three min_three max_four min_four   -- for this text's walks alone
set_option linter.unusedVariables false
set_option linter.unusedSimpArgs false

/-! ### bitloftref16_In: function 42 -/
def bitloftref16_In.l0 : Nat → List Int → Int → Option (Bool)
 | 0, _, _ => none
 | k + 1, x0, x3 => if x3 < 8 then (if 0 ≤ x3 then (if x3 < (x0.length : Int) then (if (rd x0 x3) < (-2047) then (some false) else (if (rd x0 x3) > 2047 then (some false) else (bitloftref16_In.l0 k x0 (wrap64 (x3 + 1))))) else (none)) else (none)) else (some true)
def bitloftref16_In.f (k : Nat) (l0 : List Int) : Option (Bool) := if (l0.length : Int) = 8 then (bitloftref16_In.l0 k l0 0) else (some false)
theorem bitloftref16_In.mono_l : ∀ k, (∀ y0 y1, LeO (bitloftref16_In.l0 k y0 y1) (bitloftref16_In.l0 (k + 1) y0 y1))
 | 0 => fun _ _ r h => by simp [bitloftref16_In.l0] at h
 | k + 1 => by
  have ih0 := bitloftref16_In.mono_l k
  ·
   intro y0 y1
   unfold bitloftref16_In.l0
   repeat' first
   | (with_reducible exact ih0 _ _)
   | (with_reducible exact LeO.refl _)
   | (with_reducible exact LeO.none _)
   | (with_reducible refine LeO.ite ?_ ?_)
   | (with_reducible refine LeO.bind ?_ (fun _ => ?_))
   | exact ih0 _ _
   | exact LeO.none _
   | refine LeO.ite ?_ ?_
   | refine LeO.bind ?_ (fun _ => ?_)
theorem bitloftref16_In.mono : ∀ a0 k, LeO (bitloftref16_In.f k a0) (bitloftref16_In.f (k + 1) a0) := by
 intro a0 k; have ih0 := bitloftref16_In.mono_l k
 unfold bitloftref16_In.f
 repeat' first
   | (with_reducible exact ih0 _ _)
   | (with_reducible exact LeO.refl _)
   | (with_reducible exact LeO.none _)
   | (with_reducible refine LeO.ite ?_ ?_)
   | (with_reducible refine LeO.bind ?_ (fun _ => ?_))
   | exact ih0 _ _
   | exact LeO.none _
   | refine LeO.ite ?_ ?_
   | refine LeO.bind ?_ (fun _ => ?_)
set_option maxHeartbeats 8000000 in
set_option maxRecDepth 100000 in
theorem bitloftref16_In.calls (k : Nat) (A0 : Option Addr) (c0 : Nat) (l0 : List Int) (r : Bool) (w : World) (hr0 : Kd.C (Kd.int .i32) w A0 l0.length l0) (hc0 : l0.length ≤ c0) (h : bitloftref16_In.f k l0 = some r) :
  Calls Tryd.prog 42 #[.slice A0 l0.length c0] w fun e w' => e = .returned (.bool r) ∧ Drawn0 w w' := by
 have HR0 := Aside0.mk hr0; have HC0 := Aside0.mk hc0; clear hr0 hc0; have H : (if (l0.length : Int) = 8 then (bitloftref16_In.l0 k l0 0) else (some false)) = some r := h; clear h
 by_cases c2 : (l0.length : Int) = 8
 ·
  rw [if_pos c2] at H; have c2b0 : ((l0.length : Int) == 8) = true := beq_iff_eq.mpr c2; have c2b1 : ((l0.length : Int) != 8) = false := bne_eq_false_iff_eq.mpr c2; clear c2; have H' := Aside0.mk H; clear H
  go_enter Tryd.func42, Tryd.ntmps42
  go_wp2
  go_loopg [3] k (fun kq v3 w' => ∃ (x3_1 : Int), v3 = .int .i64 x3_1 ∧ Aside0 (bitloftref16_In.l0 kq l0 x3_1 = some r) ∧ Aside0 (kq ≤ k) ∧ Drawn0 w w')
  case atStart => exact ⟨(0), (by first | rfl | (simp; done) | (simp [*]; done)), H', ⟨Nat.le_refl _⟩, by repeat (first | exact Drawn0.refl _ | apply Drawn0.step)⟩
  case round =>
   clear H'
   try clear c2
   try clear c2b0
   try clear c2b1
   try clear p2
   obtain ⟨x3_1, rfl, HA, HK1, ⟨m1, rfl⟩⟩ := hrel
   cases gk with
   | zero => exact absurd HA.out (by simp [bitloftref16_In.l0])
   | succ k1 =>
    have H := HA.out; clear HA; simp only [bitloftref16_In.l0] at H
    by_cases c3 : x3_1 < 8
    ·
     rw [if_pos c3] at H; have c3b0 : decide (x3_1 < 8) = true := decide_eq_true c3; clear c3
     by_cases c4 : 0 ≤ x3_1
     ·
      rw [if_pos c4] at H; have c4b0 : decide (0 ≤ x3_1) = true := decide_eq_true c4; clear c4
      by_cases c5 : x3_1 < (l0.length : Int)
      ·
       rw [if_pos c5] at H; have c5b0 : decide (x3_1 < (l0.length : Int)) = true := decide_eq_true c5; clear c5
       by_cases c6 : (rd l0 x3_1) < (-2047)
       ·
        rw [if_pos c6] at H; have c6b0 : decide ((rd l0 x3_1) < (-2047)) = true := decide_eq_true c6; clear c6; obtain rfl := Option.some.inj H; have p179 : 0 ≤ (x3_1 : Int) := of_decide_eq_true (by first | (with_reducible assumption) | assumption); have q179 : x3_1 < (l0.length : Int) := of_decide_eq_true (by first | (with_reducible assumption) | assumption); obtain ⟨ad179, e179, hx179_0⟩ := Kd.at_int HR0.out x3_1 p179 q179
        cases e179
        replace p179 := eq_true p179; replace q179 := eq_true q179
        go_wp2
        go_ret
        exact ⟨by first | rfl | (simp; done) | (simp [*]; done), by repeat (first | exact Drawn0.refl _ | apply Drawn0.step)⟩
       ·
        rw [if_neg c6] at H; have c6b0 : decide ((rd l0 x3_1) < (-2047)) = false := decide_eq_false c6; clear c6
        by_cases c7 : (rd l0 x3_1) > 2047
        ·
         rw [if_pos c7] at H; have c7b0 : decide (2047 < (rd l0 x3_1)) = true := decide_eq_true c7; clear c7; obtain rfl := Option.some.inj H; have p179 : 0 ≤ (x3_1 : Int) := of_decide_eq_true (by first | (with_reducible assumption) | assumption); have q179 : x3_1 < (l0.length : Int) := of_decide_eq_true (by first | (with_reducible assumption) | assumption); obtain ⟨ad179, e179, hx179_0⟩ := Kd.at_int HR0.out x3_1 p179 q179
         cases e179
         replace p179 := eq_true p179; replace q179 := eq_true q179; have p180 : 0 ≤ (x3_1 : Int) := of_decide_eq_true (by first | (with_reducible assumption) | assumption); have q180 : x3_1 < (l0.length : Int) := of_decide_eq_true (by first | (with_reducible assumption) | assumption); obtain ⟨ad180, e180, hx180_0⟩ := Kd.at_int HR0.out x3_1 p180 q180; obtain rfl : ad179 = ad180 := (by injection e180); replace p180 := eq_true p180; replace q180 := eq_true q180
         go_wp2
         go_ret
         exact ⟨by first | rfl | (simp; done) | (simp [*]; done), by repeat (first | exact Drawn0.refl _ | apply Drawn0.step)⟩
        ·
         rw [if_neg c7] at H; have c7b0 : decide (2047 < (rd l0 x3_1)) = false := decide_eq_false c7; clear c7; have H' := Aside0.mk H; clear H; have p179 : 0 ≤ (x3_1 : Int) := of_decide_eq_true (by first | (with_reducible assumption) | assumption); have q179 : x3_1 < (l0.length : Int) := of_decide_eq_true (by first | (with_reducible assumption) | assumption); obtain ⟨ad179, e179, hx179_0⟩ := Kd.at_int HR0.out x3_1 p179 q179
         cases e179
         replace p179 := eq_true p179; replace q179 := eq_true q179; have p180 : 0 ≤ (x3_1 : Int) := of_decide_eq_true (by first | (with_reducible assumption) | assumption); have q180 : x3_1 < (l0.length : Int) := of_decide_eq_true (by first | (with_reducible assumption) | assumption); obtain ⟨ad180, e180, hx180_0⟩ := Kd.at_int HR0.out x3_1 p180 q180; obtain rfl : ad179 = ad180 := (by injection e180); replace p180 := eq_true p180; replace q180 := eq_true q180
         go_wp2
         go_roundg k1
         case measure => have := HK1.out; omega
         case rel => exact ⟨(wrap64 (x3_1 + 1)), (by first | rfl | (simp; done) | (simp [*]; done)), H', ⟨by have := HK1.out; omega⟩, by repeat (first | exact Drawn0.refl _ | apply Drawn0.step)⟩
      ·
       rw [if_neg c5] at H; exact absurd H (by simp)
     ·
      rw [if_neg c4] at H; exact absurd H (by simp)
    ·
     rw [if_neg c3] at H; have c3b0 : decide (x3_1 < 8) = false := decide_eq_false c3; clear c3; obtain rfl := Option.some.inj H
     go_wp2
     go_ret
     exact ⟨by first | rfl | (simp; done) | (simp [*]; done), by repeat (first | exact Drawn0.refl _ | apply Drawn0.step)⟩
 ·
  rw [if_neg c2] at H; have c2b0 : ((l0.length : Int) == 8) = false := beq_eq_false_iff_ne.mpr c2; have c2b1 : ((l0.length : Int) != 8) = true := bne_iff_ne.mpr c2; obtain rfl := Option.some.inj H
  go_enter Tryd.func42, Tryd.ntmps42
  go_wp2
  go_ret
  exact ⟨by first | rfl | (simp; done) | (simp [*]; done), by repeat (first | exact Drawn0.refl _ | apply Drawn0.step)⟩

/-! ### bitloftref16_Asked: function 27 -/
def bitloftref16_Asked.f (k : Nat) (l0_0 : List (List Int)) (a1 : Int) (l2 : List Int) : Option (Int) := (bitloftref16_Check.f k l0_0).bind fun t182 => (if t182 = 0 then (if a1 < 0 then (some 2) else (if a1 ≥ (l0_0.length : Int) then (some 2) else ((bitloftref16_In.f k l2).bind fun t183 => (if t183 = true then (some 0) else (some 2))))) else ((bitloftref16_Check.f k l0_0).bind fun t184 => (some t184)))
theorem bitloftref16_Asked.mono : ∀ a0 a1 a2 k, LeO (bitloftref16_Asked.f k a0 a1 a2) (bitloftref16_Asked.f (k + 1) a0 a1 a2) := by
 intro a0 a1 a2 k
 unfold bitloftref16_Asked.f
 repeat' first
   | (with_reducible exact bitloftref16_Check.mono _ _)
   | (with_reducible exact bitloftref16_In.mono _ _)
   | (with_reducible exact LeO.refl _)
   | (with_reducible exact LeO.none _)
   | (with_reducible refine LeO.ite ?_ ?_)
   | (with_reducible refine LeO.bind ?_ (fun _ => ?_))
   | exact bitloftref16_Check.mono _ _
   | exact bitloftref16_In.mono _ _
   | exact LeO.none _
   | refine LeO.ite ?_ ?_
   | refine LeO.bind ?_ (fun _ => ?_)
set_option maxHeartbeats 8000000 in
set_option maxRecDepth 100000 in
theorem bitloftref16_Asked.calls (k : Nat) (A0_0 : Option Addr) (c0_0 : Nat) (l0_0 : List (List Int)) (a1 : Int) (A2 : Option Addr) (c2 : Nat) (l2 : List Int) (r : Int) (w : World) (hr0_0 : Kd.C (Kd.slice 21 (Kd.int .i32)) w A0_0 l0_0.length l0_0) (hc0_0 : l0_0.length ≤ c0_0) (hr2 : Kd.C (Kd.int .i32) w A2 l2.length l2) (hc2 : l2.length ≤ c2) (h : bitloftref16_Asked.f k l0_0 a1 l2 = some r) :
  Calls Tryd.prog 27 #[.agg #[.slice A0_0 l0_0.length c0_0], .int .i64 a1, .slice A2 l2.length c2] w fun e w' => e = .returned (.int .i64 r) ∧ Below w.heap.size w w' := by
 have hu24 := Tryd.underlying24; have HR0_0 := Aside0.mk hr0_0; have HC0_0 := Aside0.mk hc0_0; clear hr0_0 hc0_0; have HR2 := Aside0.mk hr2; have HC2 := Aside0.mk hc2; clear hr2 hc2; have HB := Aside0.mk (Below.refl w.heap.size w); have H : ((bitloftref16_Check.f k l0_0).bind fun t182 => (if t182 = 0 then (if a1 < 0 then (some 2) else (if a1 ≥ (l0_0.length : Int) then (some 2) else ((bitloftref16_In.f k l2).bind fun t183 => (if t183 = true then (some 0) else (some 2))))) else ((bitloftref16_Check.f k l0_0).bind fun t184 => (some t184)))) = some r := h; clear h; replace H := Option.bind_eq_some_iff.mp H; obtain ⟨t182, A40, H⟩ := H; replace H : (if t182 = 0 then (if a1 < 0 then (some 2) else (if a1 ≥ (l0_0.length : Int) then (some 2) else ((bitloftref16_In.f k l2).bind fun t183 => (if t183 = true then (some 0) else (some 2))))) else ((bitloftref16_Check.f k l0_0).bind fun t184 => (some t184))) = some r := H; have A4 := Aside0.mk A40; clear A40
 by_cases c5 : t182 = 0
 ·
  rw [if_pos c5] at H; have c5b0 : (t182 == 0) = true := beq_iff_eq.mpr c5; have c5b1 : (t182 != 0) = false := bne_eq_false_iff_eq.mpr c5; clear c5
  by_cases c6 : a1 < 0
  ·
   rw [if_pos c6] at H; have c6b0 : decide (a1 < 0) = true := decide_eq_true c6; clear c6; obtain rfl := Option.some.inj H
   go_enter Tryd.func27, Tryd.ntmps27
   go_wp2_with (first | ((with_reducible refine gate_dst (N := 3) rfl ?_); (try (refine gate_guard (by rfl) ?_; dsimp only)); refine box_event ?hg (N := 3) ?hd (cs := #[.slice A0_0 l0_0.length c0_0]) (t := 24) ?hr ?_; (case hd => rfl); (case hg => rfl); (case hr => first | (go_simp; done) | (go_simp; rfl)); intro gb181 hg w7 hbox hb; have n0_ := Aside0.mk (below_step (pH_ HB.out) hb); have n1_ := Aside0.mk (hbox); have n2_ := Aside0.mk ((by rw [hg]; exact (below_size (pH_ HB.out)) : w.heap.size ≤ gb181)); have n3_ := Aside0.mk ((by rw [hg]; exact (below_size (pH_ HB.out)) : w.heap.size ≤ gb181)); clear HB; have HB := n0_; have BK181 := n1_; have GW181 := n2_; have GE181 := n3_; clear n0_ n1_ n2_ n3_; clear hb hbox hg; have hcz8_0 : w7.cell? ⟨gb181, 0, none⟩ = some (.slice A0_0 l0_0.length c0_0) := (blk_cell BK181.out 0).trans rfl; have hfz8_0 := blk_frozen BK181.out 0) | ((with_reducible refine gate_callee (f := 17) rfl ?_); refine gL_ (some 8) Tryd.func17 #[.agg #[.slice A0_0 l0_0.length c0_0]] ?_; (with_reducible refine (bitloftref16_Check.calls k _ _ l0_0 t182 _ ?side1 ?side2 A4.out).mono ?_); (case side1 => repeat (first | exact (Kd.C_below HR0_0.out HB.out) | (with_reducible refine Kd.C_alloc ?_ _) | (with_reducible refine Kd.C_drewN ?_ _) | (with_reducible refine Kd.C_drew ?_))); (case side2 => exact HC0_0.out); rintro e w9 ⟨rfl, hb⟩; refine ⟨_, rfl, ?_⟩; have n0_ := Aside0.mk (blk_below (pG_ BK181.out) hb); have n1_ := Aside0.mk (below_step (pH_ HB.out) hb); clear BK181; clear HB; have BK181 := n0_; have HB := n1_; clear n0_ n1_; (try clear hb)))
   go_ret
   exact ⟨by first | rfl | (simp [errW_none, errW_some] <;> rfl) | (simp [*, errW_none, errW_some] <;> rfl), pH_ HB.out⟩
  ·
   rw [if_neg c6] at H; have c6b0 : decide (a1 < 0) = false := decide_eq_false c6; clear c6
   by_cases c10 : a1 ≥ (l0_0.length : Int)
   ·
    rw [if_pos c10] at H; have c10b0 : decide ((l0_0.length : Int) ≤ a1) = true := decide_eq_true c10; clear c10; obtain rfl := Option.some.inj H
    go_enter Tryd.func27, Tryd.ntmps27
    go_wp2_with (first | ((with_reducible refine gate_dst (N := 3) rfl ?_); (try (refine gate_guard (by rfl) ?_; dsimp only)); refine box_event ?hg (N := 3) ?hd (cs := #[.slice A0_0 l0_0.length c0_0]) (t := 24) ?hr ?_; (case hd => rfl); (case hg => rfl); (case hr => first | (go_simp; done) | (go_simp; rfl)); intro gb181 hg w11 hbox hb; have n0_ := Aside0.mk (below_step (pH_ HB.out) hb); have n1_ := Aside0.mk (hbox); have n2_ := Aside0.mk ((by rw [hg]; exact (below_size (pH_ HB.out)) : w.heap.size ≤ gb181)); have n3_ := Aside0.mk ((by rw [hg]; exact (below_size (pH_ HB.out)) : w.heap.size ≤ gb181)); clear HB; have HB := n0_; have BK181 := n1_; have GW181 := n2_; have GE181 := n3_; clear n0_ n1_ n2_ n3_; clear hb hbox hg; have hcz12_0 : w11.cell? ⟨gb181, 0, none⟩ = some (.slice A0_0 l0_0.length c0_0) := (blk_cell BK181.out 0).trans rfl; have hfz12_0 := blk_frozen BK181.out 0) | ((with_reducible refine gate_callee (f := 17) rfl ?_); refine gL_ (some 8) Tryd.func17 #[.agg #[.slice A0_0 l0_0.length c0_0]] ?_; (with_reducible refine (bitloftref16_Check.calls k _ _ l0_0 t182 _ ?side1 ?side2 A4.out).mono ?_); (case side1 => repeat (first | exact (Kd.C_below HR0_0.out HB.out) | (with_reducible refine Kd.C_alloc ?_ _) | (with_reducible refine Kd.C_drewN ?_ _) | (with_reducible refine Kd.C_drew ?_))); (case side2 => exact HC0_0.out); rintro e w13 ⟨rfl, hb⟩; refine ⟨_, rfl, ?_⟩; have n0_ := Aside0.mk (blk_below (pG_ BK181.out) hb); have n1_ := Aside0.mk (below_step (pH_ HB.out) hb); clear BK181; clear HB; have BK181 := n0_; have HB := n1_; clear n0_ n1_; (try clear hb); have hcz14_0 : w13.cell? ⟨gb181, 0, none⟩ = some (.slice A0_0 l0_0.length c0_0) := (blk_cell BK181.out 0).trans rfl; have hfz14_0 := blk_frozen BK181.out 0))
    go_ret
    exact ⟨by first | rfl | (simp [errW_none, errW_some] <;> rfl) | (simp [*, errW_none, errW_some] <;> rfl), pH_ HB.out⟩
   ·
    rw [if_neg c10] at H; have c10b0 : decide ((l0_0.length : Int) ≤ a1) = false := decide_eq_false c10; clear c10; replace H := Option.bind_eq_some_iff.mp H; obtain ⟨t183, A150, H⟩ := H; replace H : (if t183 = true then (some 0) else (some 2)) = some r := H; have A15 := Aside0.mk A150; clear A150
    by_cases c16 : t183 = true
    ·
     subst c16
     have H1 : (some 0) = some r := by rw [if_pos rfl] at H; exact H
     clear H; have H := H1; clear H1; obtain rfl := Option.some.inj H
     go_enter Tryd.func27, Tryd.ntmps27
     go_wp2_with (first | ((with_reducible refine gate_dst (N := 3) rfl ?_); (try (refine gate_guard (by rfl) ?_; dsimp only)); refine box_event ?hg (N := 3) ?hd (cs := #[.slice A0_0 l0_0.length c0_0]) (t := 24) ?hr ?_; (case hd => rfl); (case hg => rfl); (case hr => first | (go_simp; done) | (go_simp; rfl)); intro gb181 hg w17 hbox hb; have n0_ := Aside0.mk (below_step (pH_ HB.out) hb); have n1_ := Aside0.mk (hbox); have n2_ := Aside0.mk ((by rw [hg]; exact (below_size (pH_ HB.out)) : w.heap.size ≤ gb181)); have n3_ := Aside0.mk ((by rw [hg]; exact (below_size (pH_ HB.out)) : w.heap.size ≤ gb181)); clear HB; have HB := n0_; have BK181 := n1_; have GW181 := n2_; have GE181 := n3_; clear n0_ n1_ n2_ n3_; clear hb hbox hg; have hcz18_0 : w17.cell? ⟨gb181, 0, none⟩ = some (.slice A0_0 l0_0.length c0_0) := (blk_cell BK181.out 0).trans rfl; have hfz18_0 := blk_frozen BK181.out 0) | ((with_reducible refine gate_callee (f := 17) rfl ?_); refine gL_ (some 8) Tryd.func17 #[.agg #[.slice A0_0 l0_0.length c0_0]] ?_; (with_reducible refine (bitloftref16_Check.calls k _ _ l0_0 t182 _ ?side1 ?side2 A4.out).mono ?_); (case side1 => repeat (first | exact (Kd.C_below HR0_0.out HB.out) | (with_reducible refine Kd.C_alloc ?_ _) | (with_reducible refine Kd.C_drewN ?_ _) | (with_reducible refine Kd.C_drew ?_))); (case side2 => exact HC0_0.out); rintro e w19 ⟨rfl, hb⟩; refine ⟨_, rfl, ?_⟩; have n0_ := Aside0.mk (blk_below (pG_ BK181.out) hb); have n1_ := Aside0.mk (below_step (pH_ HB.out) hb); clear BK181; clear HB; have BK181 := n0_; have HB := n1_; clear n0_ n1_; (try clear hb); have hcz20_0 : w19.cell? ⟨gb181, 0, none⟩ = some (.slice A0_0 l0_0.length c0_0) := (blk_cell BK181.out 0).trans rfl; have hfz20_0 := blk_frozen BK181.out 0) | (go_at_call 42; (with_reducible refine (bitloftref16_In.calls k _ _ l2 true _ ?side1 ?side2 A15.out).mono ?_); (case side1 => repeat (first | exact (Kd.C_below HR2.out HB.out) | (with_reducible refine Kd.C_alloc ?_ _) | (with_reducible refine Kd.C_drewN ?_ _) | (with_reducible refine Kd.C_drew ?_))); (case side2 => exact HC2.out); rintro e w' ⟨rfl, ⟨nd, rfl⟩⟩))
     go_ret
     exact ⟨by first | rfl | (simp [errW_none, errW_some] <;> rfl) | (simp [*, errW_none, errW_some] <;> rfl), pH_ HB.out⟩
    ·
     replace c16 := Bool.eq_false_iff.mpr c16
     subst c16
     have H1 : (some 2) = some r := by rw [if_neg (show ¬ (false = true) by decide)] at H; exact H
     clear H; have H := H1; clear H1; obtain rfl := Option.some.inj H
     go_enter Tryd.func27, Tryd.ntmps27
     go_wp2_with (first | ((with_reducible refine gate_dst (N := 3) rfl ?_); (try (refine gate_guard (by rfl) ?_; dsimp only)); refine box_event ?hg (N := 3) ?hd (cs := #[.slice A0_0 l0_0.length c0_0]) (t := 24) ?hr ?_; (case hd => rfl); (case hg => rfl); (case hr => first | (go_simp; done) | (go_simp; rfl)); intro gb181 hg w21 hbox hb; have n0_ := Aside0.mk (below_step (pH_ HB.out) hb); have n1_ := Aside0.mk (hbox); have n2_ := Aside0.mk ((by rw [hg]; exact (below_size (pH_ HB.out)) : w.heap.size ≤ gb181)); have n3_ := Aside0.mk ((by rw [hg]; exact (below_size (pH_ HB.out)) : w.heap.size ≤ gb181)); clear HB; have HB := n0_; have BK181 := n1_; have GW181 := n2_; have GE181 := n3_; clear n0_ n1_ n2_ n3_; clear hb hbox hg; have hcz22_0 : w21.cell? ⟨gb181, 0, none⟩ = some (.slice A0_0 l0_0.length c0_0) := (blk_cell BK181.out 0).trans rfl; have hfz22_0 := blk_frozen BK181.out 0) | ((with_reducible refine gate_callee (f := 17) rfl ?_); refine gL_ (some 8) Tryd.func17 #[.agg #[.slice A0_0 l0_0.length c0_0]] ?_; (with_reducible refine (bitloftref16_Check.calls k _ _ l0_0 t182 _ ?side1 ?side2 A4.out).mono ?_); (case side1 => repeat (first | exact (Kd.C_below HR0_0.out HB.out) | (with_reducible refine Kd.C_alloc ?_ _) | (with_reducible refine Kd.C_drewN ?_ _) | (with_reducible refine Kd.C_drew ?_))); (case side2 => exact HC0_0.out); rintro e w23 ⟨rfl, hb⟩; refine ⟨_, rfl, ?_⟩; have n0_ := Aside0.mk (blk_below (pG_ BK181.out) hb); have n1_ := Aside0.mk (below_step (pH_ HB.out) hb); clear BK181; clear HB; have BK181 := n0_; have HB := n1_; clear n0_ n1_; (try clear hb); have hcz24_0 : w23.cell? ⟨gb181, 0, none⟩ = some (.slice A0_0 l0_0.length c0_0) := (blk_cell BK181.out 0).trans rfl; have hfz24_0 := blk_frozen BK181.out 0) | (go_at_call 42; (with_reducible refine (bitloftref16_In.calls k _ _ l2 false _ ?side1 ?side2 A15.out).mono ?_); (case side1 => repeat (first | exact (Kd.C_below HR2.out HB.out) | (with_reducible refine Kd.C_alloc ?_ _) | (with_reducible refine Kd.C_drewN ?_ _) | (with_reducible refine Kd.C_drew ?_))); (case side2 => exact HC2.out); rintro e w' ⟨rfl, ⟨nd, rfl⟩⟩))
     go_ret
     exact ⟨by first | rfl | (simp [errW_none, errW_some] <;> rfl) | (simp [*, errW_none, errW_some] <;> rfl), pH_ HB.out⟩
 ·
  rw [if_neg c5] at H; have c5b0 : (t182 == 0) = false := beq_eq_false_iff_ne.mpr c5; have c5b1 : (t182 != 0) = true := bne_iff_ne.mpr c5; replace H := Option.bind_eq_some_iff.mp H; obtain ⟨t184, A250, H⟩ := H; replace H : (some t184) = some r := H; have A25 := Aside0.mk A250; clear A250; obtain rfl := Option.some.inj H
  go_enter Tryd.func27, Tryd.ntmps27
  go_wp2_with (first | ((with_reducible refine gate_dst (N := 3) rfl ?_); (try (refine gate_guard (by rfl) ?_; dsimp only)); refine box_event ?hg (N := 3) ?hd (cs := #[.slice A0_0 l0_0.length c0_0]) (t := 24) ?hr ?_; (case hd => rfl); (case hg => rfl); (case hr => first | (go_simp; done) | (go_simp; rfl)); intro gb181 hg w26 hbox hb; have n0_ := Aside0.mk (below_step (pH_ HB.out) hb); have n1_ := Aside0.mk (hbox); have n2_ := Aside0.mk ((by rw [hg]; exact (below_size (pH_ HB.out)) : w.heap.size ≤ gb181)); have n3_ := Aside0.mk ((by rw [hg]; exact (below_size (pH_ HB.out)) : w.heap.size ≤ gb181)); clear HB; have HB := n0_; have BK181 := n1_; have GW181 := n2_; have GE181 := n3_; clear n0_ n1_ n2_ n3_; clear hb hbox hg; have hcz27_0 : w26.cell? ⟨gb181, 0, none⟩ = some (.slice A0_0 l0_0.length c0_0) := (blk_cell BK181.out 0).trans rfl; have hfz27_0 := blk_frozen BK181.out 0) | ((with_reducible refine gate_callee (f := 17) rfl ?_); refine gL_ (some 8) Tryd.func17 #[.agg #[.slice A0_0 l0_0.length c0_0]] ?_; (with_reducible refine (bitloftref16_Check.calls k _ _ l0_0 t182 _ ?side1 ?side2 A4.out).mono ?_); (case side1 => repeat (first | exact (Kd.C_below HR0_0.out HB.out) | (with_reducible refine Kd.C_alloc ?_ _) | (with_reducible refine Kd.C_drewN ?_ _) | (with_reducible refine Kd.C_drew ?_))); (case side2 => exact HC0_0.out); rintro e w28 ⟨rfl, hb⟩; refine ⟨_, rfl, ?_⟩; have n0_ := Aside0.mk (blk_below (pG_ BK181.out) hb); have n1_ := Aside0.mk (below_step (pH_ HB.out) hb); clear BK181; clear HB; have BK181 := n0_; have HB := n1_; clear n0_ n1_; (try clear hb); have hcz29_0 : w28.cell? ⟨gb181, 0, none⟩ = some (.slice A0_0 l0_0.length c0_0) := (blk_cell BK181.out 0).trans rfl; have hfz29_0 := blk_frozen BK181.out 0) | ((with_reducible refine gate_callee (f := 17) rfl ?_); refine gL_ (some 11) Tryd.func17 #[.agg #[.slice A0_0 l0_0.length c0_0]] ?_; (with_reducible refine (bitloftref16_Check.calls k _ _ l0_0 t184 _ ?side1 ?side2 A25.out).mono ?_); (case side1 => repeat (first | exact (Kd.C_below HR0_0.out HB.out) | (with_reducible refine Kd.C_alloc ?_ _) | (with_reducible refine Kd.C_drewN ?_ _) | (with_reducible refine Kd.C_drew ?_))); (case side2 => exact HC0_0.out); rintro e w30 ⟨rfl, hb⟩; refine ⟨_, rfl, ?_⟩; have n0_ := Aside0.mk (blk_below (pG_ BK181.out) hb); have n1_ := Aside0.mk (below_step (pH_ HB.out) hb); clear BK181; clear HB; have BK181 := n0_; have HB := n1_; clear n0_ n1_; (try clear hb)))
  go_ret
  exact ⟨by first | rfl | (simp [errW_none, errW_some] <;> rfl) | (simp [*, errW_none, errW_some] <;> rfl), pH_ HB.out⟩

/-! ### bitloftlaw16_fit: function 21 -/
def bitloftlaw16_fit.f (k : Nat) (l0_0 : List (List Int)) (a1 : Int) (l2 : List Int) : Option (Bool) := if (l0_0.length : Int) ≤ 20 then ((bitloftref16_Asked.f k l0_0 a1 l2).bind fun t186 => (some (t186 == 0))) else (some false)
theorem bitloftlaw16_fit.mono : ∀ a0 a1 a2 k, LeO (bitloftlaw16_fit.f k a0 a1 a2) (bitloftlaw16_fit.f (k + 1) a0 a1 a2) := by
 intro a0 a1 a2 k
 unfold bitloftlaw16_fit.f
 repeat' first
   | (with_reducible exact bitloftref16_Asked.mono _ _ _ _)
   | (with_reducible exact LeO.refl _)
   | (with_reducible exact LeO.none _)
   | (with_reducible refine LeO.ite ?_ ?_)
   | (with_reducible refine LeO.bind ?_ (fun _ => ?_))
   | exact bitloftref16_Asked.mono _ _ _ _
   | exact LeO.none _
   | refine LeO.ite ?_ ?_
   | refine LeO.bind ?_ (fun _ => ?_)
set_option maxHeartbeats 8000000 in
set_option maxRecDepth 100000 in
theorem bitloftlaw16_fit.calls (k : Nat) (A0_0 : Option Addr) (c0_0 : Nat) (l0_0 : List (List Int)) (a1 : Int) (A2 : Option Addr) (c2 : Nat) (l2 : List Int) (r : Bool) (w : World) (hr0_0 : Kd.C (Kd.slice 21 (Kd.int .i32)) w A0_0 l0_0.length l0_0) (hc0_0 : l0_0.length ≤ c0_0) (hr2 : Kd.C (Kd.int .i32) w A2 l2.length l2) (hc2 : l2.length ≤ c2) (h : bitloftlaw16_fit.f k l0_0 a1 l2 = some r) :
  Calls Tryd.prog 21 #[.agg #[.slice A0_0 l0_0.length c0_0], .int .i64 a1, .slice A2 l2.length c2] w fun e w' => e = .returned (.bool r) ∧ Below w.heap.size w w' := by
 have hu24 := Tryd.underlying24; have HR0_0 := Aside0.mk hr0_0; have HC0_0 := Aside0.mk hc0_0; clear hr0_0 hc0_0; have HR2 := Aside0.mk hr2; have HC2 := Aside0.mk hc2; clear hr2 hc2; have HB := Aside0.mk (Below.refl w.heap.size w); have H : (if (l0_0.length : Int) ≤ 20 then ((bitloftref16_Asked.f k l0_0 a1 l2).bind fun t186 => (some (t186 == 0))) else (some false)) = some r := h; clear h
 by_cases c4 : (l0_0.length : Int) ≤ 20
 ·
  rw [if_pos c4] at H; have c4b0 : decide ((l0_0.length : Int) ≤ 20) = true := decide_eq_true c4; have c4b1 : decide (l0_0.length ≤ 20) = true := decide_eq_true (by omega); clear c4; replace H := Option.bind_eq_some_iff.mp H; obtain ⟨t186, A50, H⟩ := H; replace H : (some (t186 == 0)) = some r := H; have A5 := Aside0.mk A50; clear A50; obtain rfl := Option.some.inj H
  go_enter Tryd.func21, Tryd.ntmps21
  go_wp2_with (first | ((with_reducible refine gate_dst (N := 3) rfl ?_); refine box_event ?hg (N := 3) ?hd (cs := #[.slice A0_0 l0_0.length c0_0]) (t := 24) ?hr ?_; (case hd => rfl); (case hg => rfl); (case hr => first | (go_simp; done) | (go_simp; rfl)); intro gb185 hg w6 hbox hb; have n0_ := Aside0.mk (below_step (pH_ HB.out) hb); have n1_ := Aside0.mk (hbox); have n2_ := Aside0.mk ((by rw [hg]; exact (below_size (pH_ HB.out)) : w.heap.size ≤ gb185)); have n3_ := Aside0.mk ((by rw [hg]; exact (below_size (pH_ HB.out)) : w.heap.size ≤ gb185)); clear HB; have HB := n0_; have BK185 := n1_; have GW185 := n2_; have GE185 := n3_; clear n0_ n1_ n2_ n3_; clear hb hbox hg; have hcz7_0 : w6.cell? ⟨gb185, 0, none⟩ = some (.slice A0_0 l0_0.length c0_0) := (blk_cell BK185.out 0).trans rfl; have hfz7_0 := blk_frozen BK185.out 0) | (go_at_call 27; (with_reducible refine (bitloftref16_Asked.calls k _ _ l0_0 a1 _ _ l2 t186 _ ?side1 ?side2 ?side3 ?side4 A5.out).mono ?_); (case side1 => repeat (first | exact (Kd.C_below HR0_0.out HB.out) | (with_reducible refine Kd.C_alloc ?_ _) | (with_reducible refine Kd.C_drewN ?_ _) | (with_reducible refine Kd.C_drew ?_))); (case side2 => exact HC0_0.out); (case side3 => repeat (first | exact (Kd.C_below HR2.out HB.out) | (with_reducible refine Kd.C_alloc ?_ _) | (with_reducible refine Kd.C_drewN ?_ _) | (with_reducible refine Kd.C_drew ?_))); (case side4 => exact HC2.out); rintro e w8 ⟨rfl, hb⟩; have n0_ := Aside0.mk (blk_below (pG_ BK185.out) hb); have n1_ := Aside0.mk (below_step (pH_ HB.out) hb); clear BK185; clear HB; have BK185 := n0_; have HB := n1_; clear n0_ n1_; (try clear hb)))
  go_ret
  exact ⟨by first | rfl | (simp [errW_none, errW_some] <;> rfl) | (simp [*, errW_none, errW_some] <;> rfl), pH_ HB.out⟩
 ·
  rw [if_neg c4] at H; have c4b0 : decide ((l0_0.length : Int) ≤ 20) = false := decide_eq_false c4; have c4b1 : decide (l0_0.length ≤ 20) = false := decide_eq_false (by omega); clear c4; obtain rfl := Option.some.inj H
  go_enter Tryd.func21, Tryd.ntmps21
  go_wp2_with (first | ((with_reducible refine gate_dst (N := 3) rfl ?_); refine box_event ?hg (N := 3) ?hd (cs := #[.slice A0_0 l0_0.length c0_0]) (t := 24) ?hr ?_; (case hd => rfl); (case hg => rfl); (case hr => first | (go_simp; done) | (go_simp; rfl)); intro gb185 hg w9 hbox hb; have n0_ := Aside0.mk (below_step (pH_ HB.out) hb); have n1_ := Aside0.mk (hbox); have n2_ := Aside0.mk ((by rw [hg]; exact (below_size (pH_ HB.out)) : w.heap.size ≤ gb185)); have n3_ := Aside0.mk ((by rw [hg]; exact (below_size (pH_ HB.out)) : w.heap.size ≤ gb185)); clear HB; have HB := n0_; have BK185 := n1_; have GW185 := n2_; have GE185 := n3_; clear n0_ n1_ n2_ n3_; clear hb hbox hg; have hcz10_0 : w9.cell? ⟨gb185, 0, none⟩ = some (.slice A0_0 l0_0.length c0_0) := (blk_cell BK185.out 0).trans rfl; have hfz10_0 := blk_frozen BK185.out 0))
  go_ret
  exact ⟨by first | rfl | (simp [errW_none, errW_some] <;> rfl) | (simp [*, errW_none, errW_some] <;> rfl), pH_ HB.out⟩

/-! ### bitloftlaw16_MixerLessens: function 5 -/
mutual
def bitloftlaw16_MixerLessens.j0 : Nat → Int → List Int → Bool → Bool → List (List Int) → Option (Bool)
 | 0, _, _, _, _, _ => none
 | k + 1, x1, x2, x3, x27, x188000 => if x27 = true then (some true) else ((mixer_Mix.f k x188000 x1 x2).bind fun bt189 => ((mixer_Learn.f k x188000 x1 x2 bt189.2.1 x3).bind fun bt192 => ((mixer_Mix.f k bt192.1 x1 x2).bind fun bt197 => (if bt189.2.2 = 0 then (if bt192.2 = 0 then (if bt197.2.2 = 0 then (if bt189.1 < (-2047) then (bitloftlaw16_MixerLessens.j1 k x3 bt189.1 bt189.2.1 bt197.1 bt197.2.1 true) else (if bt189.1 > 2047 then (bitloftlaw16_MixerLessens.j1 k x3 bt189.1 bt189.2.1 bt197.1 bt197.2.1 true) else (if bt189.2.1 < 0 then (bitloftlaw16_MixerLessens.j1 k x3 bt189.1 bt189.2.1 bt197.1 bt197.2.1 true) else (if bt189.2.1 > 4095 then (bitloftlaw16_MixerLessens.j1 k x3 bt189.1 bt189.2.1 bt197.1 bt197.2.1 true) else ((bitloftref16_Check.f k bt192.1).bind fun t200 => (bitloftlaw16_MixerLessens.j1 k x3 bt189.1 bt189.2.1 bt197.1 bt197.2.1 (t200 != 0))))))) else (bitloftlaw16_MixerLessens.j1 k x3 bt189.1 bt189.2.1 bt197.1 bt197.2.1 true)) else (bitloftlaw16_MixerLessens.j1 k x3 bt189.1 bt189.2.1 bt197.1 bt197.2.1 true)) else (bitloftlaw16_MixerLessens.j1 k x3 bt189.1 bt189.2.1 bt197.1 bt197.2.1 true)))))
def bitloftlaw16_MixerLessens.j1 : Nat → Bool → Int → Int → Int → Int → Bool → Option (Bool)
 | 0, _, _, _, _, _, _ => none
 | k + 1, x3, x10, x11, x15, x16, x84 => if x84 = true then (some false) else (if x3 = true then (if x15 ≥ x10 then (some (decide (x16 ≥ x11))) else (some false)) else (if x15 ≤ x10 then (some (decide (x16 ≤ x11))) else (some false)))
end
def bitloftlaw16_MixerLessens.f (k : Nat) (l0_0 : List (List Int)) (a1 : Int) (l2 : List Int) (a3 : Bool) : Option (Bool) := (bitloftlaw16_fit.f k l0_0 a1 l2).bind fun t188 => (if t188 = true then (bitloftlaw16_MixerLessens.j0 k a1 l2 a3 (!true) l0_0) else (bitloftlaw16_MixerLessens.j0 k a1 l2 a3 true l0_0))
theorem bitloftlaw16_MixerLessens.mono_l : ∀ k, (∀ y0 y1 y2 y3 y4, LeO (bitloftlaw16_MixerLessens.j0 k y0 y1 y2 y3 y4) (bitloftlaw16_MixerLessens.j0 (k + 1) y0 y1 y2 y3 y4)) ∧ (∀ y0 y1 y2 y3 y4 y5, LeO (bitloftlaw16_MixerLessens.j1 k y0 y1 y2 y3 y4 y5) (bitloftlaw16_MixerLessens.j1 (k + 1) y0 y1 y2 y3 y4 y5))
 | 0 => ⟨fun _ _ _ _ _ r h => by simp [bitloftlaw16_MixerLessens.j0] at h, fun _ _ _ _ _ _ r h => by simp [bitloftlaw16_MixerLessens.j1] at h⟩
 | k + 1 => by
  obtain ⟨ih0, ih1⟩ := bitloftlaw16_MixerLessens.mono_l k; refine ⟨?_, ?_⟩
  ·
   intro y0 y1 y2 y3 y4
   unfold bitloftlaw16_MixerLessens.j0
   repeat' first
   | (with_reducible exact ih0 _ _ _ _ _)
   | (with_reducible exact ih1 _ _ _ _ _ _)
   | (with_reducible exact bitloftlaw16_alive.mono _)
   | (with_reducible exact bitloftlaw16_fit.mono _ _ _ _)
   | (with_reducible exact bitloftref16_Check.mono _ _)
   | (with_reducible exact mixer_Learn.mono _ _ _ _ _ _)
   | (with_reducible exact mixer_Mix.mono _ _ _ _)
   | (with_reducible exact LeO.refl _)
   | (with_reducible exact LeO.none _)
   | (with_reducible refine LeO.ite ?_ ?_)
   | (with_reducible refine LeO.bind ?_ (fun _ => ?_))
   | exact ih0 _ _ _ _ _
   | exact ih1 _ _ _ _ _ _
   | exact bitloftlaw16_alive.mono _
   | exact bitloftlaw16_fit.mono _ _ _ _
   | exact bitloftref16_Check.mono _ _
   | exact mixer_Learn.mono _ _ _ _ _ _
   | exact mixer_Mix.mono _ _ _ _
   | exact LeO.none _
   | refine LeO.ite ?_ ?_
   | refine LeO.bind ?_ (fun _ => ?_)
  ·
   intro y0 y1 y2 y3 y4 y5
   unfold bitloftlaw16_MixerLessens.j1
   repeat' first
   | (with_reducible exact ih0 _ _ _ _ _)
   | (with_reducible exact ih1 _ _ _ _ _ _)
   | (with_reducible exact bitloftlaw16_alive.mono _)
   | (with_reducible exact bitloftlaw16_fit.mono _ _ _ _)
   | (with_reducible exact bitloftref16_Check.mono _ _)
   | (with_reducible exact mixer_Learn.mono _ _ _ _ _ _)
   | (with_reducible exact mixer_Mix.mono _ _ _ _)
   | (with_reducible exact LeO.refl _)
   | (with_reducible exact LeO.none _)
   | (with_reducible refine LeO.ite ?_ ?_)
   | (with_reducible refine LeO.bind ?_ (fun _ => ?_))
   | exact ih0 _ _ _ _ _
   | exact ih1 _ _ _ _ _ _
   | exact bitloftlaw16_alive.mono _
   | exact bitloftlaw16_fit.mono _ _ _ _
   | exact bitloftref16_Check.mono _ _
   | exact mixer_Learn.mono _ _ _ _ _ _
   | exact mixer_Mix.mono _ _ _ _
   | exact LeO.none _
   | refine LeO.ite ?_ ?_
   | refine LeO.bind ?_ (fun _ => ?_)
theorem bitloftlaw16_MixerLessens.mono : ∀ a0 a1 a2 a3 k, LeO (bitloftlaw16_MixerLessens.f k a0 a1 a2 a3) (bitloftlaw16_MixerLessens.f (k + 1) a0 a1 a2 a3) := by
 intro a0 a1 a2 a3 k; obtain ⟨ih0, ih1⟩ := bitloftlaw16_MixerLessens.mono_l k
 unfold bitloftlaw16_MixerLessens.f
 repeat' first
   | (with_reducible exact ih0 _ _ _ _ _)
   | (with_reducible exact ih1 _ _ _ _ _ _)
   | (with_reducible exact bitloftlaw16_alive.mono _)
   | (with_reducible exact bitloftlaw16_fit.mono _ _ _ _)
   | (with_reducible exact bitloftref16_Check.mono _ _)
   | (with_reducible exact mixer_Learn.mono _ _ _ _ _ _)
   | (with_reducible exact mixer_Mix.mono _ _ _ _)
   | (with_reducible exact LeO.refl _)
   | (with_reducible exact LeO.none _)
   | (with_reducible refine LeO.ite ?_ ?_)
   | (with_reducible refine LeO.bind ?_ (fun _ => ?_))
   | exact ih0 _ _ _ _ _
   | exact ih1 _ _ _ _ _ _
   | exact bitloftlaw16_alive.mono _
   | exact bitloftlaw16_fit.mono _ _ _ _
   | exact bitloftref16_Check.mono _ _
   | exact mixer_Learn.mono _ _ _ _ _ _
   | exact mixer_Mix.mono _ _ _ _
   | exact LeO.none _
   | refine LeO.ite ?_ ?_
   | refine LeO.bind ?_ (fun _ => ?_)
set_option maxHeartbeats 8000000 in
set_option maxRecDepth 100000 in
theorem bitloftlaw16_MixerLessens.calls (k : Nat) (A0_0 : Option Addr) (c0_0 : Nat) (l0_0 : List (List Int)) (a1 : Int) (A2 : Option Addr) (c2 : Nat) (l2 : List Int) (a3 : Bool) (r : Bool) (w : World) (hr0_0 : Kd.C (Kd.slice 21 (Kd.int .i32)) w A0_0 l0_0.length l0_0) (hc0_0 : l0_0.length ≤ c0_0) (hr2 : Kd.C (Kd.int .i32) w A2 l2.length l2) (hc2 : l2.length ≤ c2) (hT : Tab_ w) (hr_ : r = true) (h : bitloftlaw16_MixerLessens.f k l0_0 a1 l2 a3 = some r) :
  Calls Tryd.prog 5 #[.agg #[.slice A0_0 l0_0.length c0_0], .int .i64 a1, .slice A2 l2.length c2, .bool a3] w fun e w' => e = .returned (.bool r) ∧ Below w.heap.size w w' := by
 have hu24 := Tryd.underlying24; have HRT_ := Aside0.mk hr_; clear hr_; have HR0_0 := Aside0.mk hr0_0; have HC0_0 := Aside0.mk hc0_0; clear hr0_0 hc0_0; have HR2 := Aside0.mk hr2; have HC2 := Aside0.mk hc2; clear hr2 hc2; have HB := Aside0.mk (Below.refl w.heap.size w); have H : ((bitloftlaw16_fit.f k l0_0 a1 l2).bind fun t188 => (if t188 = true then (bitloftlaw16_MixerLessens.j0 k a1 l2 a3 (!true) l0_0) else (bitloftlaw16_MixerLessens.j0 k a1 l2 a3 true l0_0))) = some r := h; clear h; have A5 := Aside0.mk (show bitloftlaw16_alive.f 2000 = some true by first | rfl | decide +kernel); have HC6 := Aside0.mk H; clear H
 go_enter Tryd.func5, Tryd.ntmps5
 go_upto_region 2 with (first | ((with_reducible refine gate_dst (N := 4) rfl ?_); refine box_event ?hg (N := 4) ?hd (cs := #[.slice A0_0 l0_0.length c0_0]) (t := 24) ?hr ?_; (case hd => rfl); (case hg => rfl); (case hr => first | (go_simp; done) | (go_simp; rfl)); intro gb187 hg w7 hbox hb; have n0_ := Aside0.mk (below_step (pH_ HB.out) hb); have n1_ := Aside0.mk (hbox); have n2_ := Aside0.mk ((by rw [hg]; exact (below_size (pH_ HB.out)) : w.heap.size ≤ gb187)); have n3_ := Aside0.mk ((by rw [hg]; exact (below_size (pH_ HB.out)) : w.heap.size ≤ gb187)); clear HB; have HB := n0_; have BK187 := n1_; have GW187 := n2_; have GE187 := n3_; clear n0_ n1_ n2_ n3_; clear hb hbox hg) | ((with_reducible refine gate_callee (f := 19) rfl ?_); refine gL_ (some 18) Tryd.func19 #[] ?_; (with_reducible refine (bitloftlaw16_alive.calls 2000  true _ (tab_bel hT (pH_ HB.out)) A5.out).mono ?_); rintro e w8 ⟨rfl, hb⟩; refine ⟨_, rfl, ?_⟩; have n0_ := Aside0.mk (blk_below (pG_ BK187.out) hb); have n1_ := Aside0.mk (below_step (pH_ HB.out) hb); clear BK187; clear HB; have BK187 := n0_; have HB := n1_; clear n0_ n1_; (try clear hb)))
 (try simp only [Act.put, sA_, sZ_, sS_]); (with_reducible first | refine then_id_ ?_ | (refine wp_tail_ ?_; intro Kt_ hKt_))
 go_cut [27] (fun v27 wc => ∃ (kq : Nat) (x27_5 : Bool), v27 = .bool x27_5 ∧ Aside0 (bitloftlaw16_MixerLessens.j0 kq a1 l2 a3 x27_5 l0_0 = some r) ∧ Aside0 (kq ≤ k) ∧ Aside0 (wc.heap[gb187]? = some (.cells #[(.slice A0_0 l0_0.length c0_0)] 24 (0, 0))) ∧ Aside0 (Below w.heap.size w wc))
 case first =>
  have H := HC6.out; clear HC6; replace H := Option.bind_eq_some_iff.mp H; obtain ⟨t188, A90, H⟩ := H; replace H : (if t188 = true then (bitloftlaw16_MixerLessens.j0 k a1 l2 a3 (!true) l0_0) else (bitloftlaw16_MixerLessens.j0 k a1 l2 a3 true l0_0)) = some r := H; have A9 := Aside0.mk A90; clear A90
  by_cases c10 : t188 = true
  ·
   subst c10
   have H1 : (bitloftlaw16_MixerLessens.j0 k a1 l2 a3 (!true) l0_0) = some r := by rw [if_pos rfl] at H; exact H
   clear H; have H := H1; clear H1; have H' := Aside0.mk H; clear H; have hcz11_0 : w8.cell? ⟨gb187, 0, none⟩ = some (.slice A0_0 l0_0.length c0_0) := (blk_cell BK187.out 0).trans rfl; have hfz11_0 := blk_frozen BK187.out 0
   go_wp2_with (first | ((with_reducible refine gate_callee (f := 21) rfl ?_); refine gL_ (some 22) Tryd.func21 #[.agg #[.slice A0_0 l0_0.length c0_0], .int .i64 a1, .slice A2 l2.length c2] ?_; (with_reducible refine (bitloftlaw16_fit.calls k _ _ l0_0 a1 _ _ l2 true _ ?side1 ?side2 ?side3 ?side4 A9.out).mono ?_); (case side1 => repeat (first | exact (Kd.C_below HR0_0.out HB.out) | (with_reducible refine Kd.C_alloc ?_ _) | (with_reducible refine Kd.C_drewN ?_ _) | (with_reducible refine Kd.C_drew ?_))); (case side2 => exact HC0_0.out); (case side3 => repeat (first | exact (Kd.C_below HR2.out HB.out) | (with_reducible refine Kd.C_alloc ?_ _) | (with_reducible refine Kd.C_drewN ?_ _) | (with_reducible refine Kd.C_drew ?_))); (case side4 => exact HC2.out); rintro e w12 ⟨rfl, hb⟩; refine ⟨_, rfl, ?_⟩; have n0_ := Aside0.mk (blk_below (pG_ BK187.out) hb); have n1_ := Aside0.mk (below_step (pH_ HB.out) hb); clear BK187; clear HB; have BK187 := n0_; have HB := n1_; clear n0_ n1_; (try clear hb)))
   go_meet
   case rel => exact ⟨_, (!true), (by first | rfl | (simp; done) | (simp [*]; done)), H', ⟨by first | omega | exact Nat.le_refl _⟩, ⟨pG_ BK187.out⟩, ⟨pH_ HB.out⟩⟩
  ·
   replace c10 := Bool.eq_false_iff.mpr c10
   subst c10
   have H1 : (bitloftlaw16_MixerLessens.j0 k a1 l2 a3 true l0_0) = some r := by rw [if_neg (show ¬ (false = true) by decide)] at H; exact H
   clear H; have H := H1; clear H1; have H' := Aside0.mk H; clear H; have hcz13_0 : w8.cell? ⟨gb187, 0, none⟩ = some (.slice A0_0 l0_0.length c0_0) := (blk_cell BK187.out 0).trans rfl; have hfz13_0 := blk_frozen BK187.out 0
   go_wp2_with (first | ((with_reducible refine gate_callee (f := 21) rfl ?_); refine gL_ (some 22) Tryd.func21 #[.agg #[.slice A0_0 l0_0.length c0_0], .int .i64 a1, .slice A2 l2.length c2] ?_; (with_reducible refine (bitloftlaw16_fit.calls k _ _ l0_0 a1 _ _ l2 false _ ?side1 ?side2 ?side3 ?side4 A9.out).mono ?_); (case side1 => repeat (first | exact (Kd.C_below HR0_0.out HB.out) | (with_reducible refine Kd.C_alloc ?_ _) | (with_reducible refine Kd.C_drewN ?_ _) | (with_reducible refine Kd.C_drew ?_))); (case side2 => exact HC0_0.out); (case side3 => repeat (first | exact (Kd.C_below HR2.out HB.out) | (with_reducible refine Kd.C_alloc ?_ _) | (with_reducible refine Kd.C_drewN ?_ _) | (with_reducible refine Kd.C_drew ?_))); (case side4 => exact HC2.out); rintro e w14 ⟨rfl, hb⟩; refine ⟨_, rfl, ?_⟩; have n0_ := Aside0.mk (blk_below (pG_ BK187.out) hb); have n1_ := Aside0.mk (below_step (pH_ HB.out) hb); clear BK187; clear HB; have BK187 := n0_; have HB := n1_; clear n0_ n1_; (try clear hb)))
   go_meet
   case rel => exact ⟨_, (true), (by first | rfl | (simp; done) | (simp [*]; done)), H', ⟨by first | omega | exact Nat.le_refl _⟩, ⟨pG_ BK187.out⟩, ⟨pH_ HB.out⟩⟩
 case rest =>
  (try (refine hKt_ _ _ ?_; clear hKt_; clear Kt_)); clear HC6
  try clear c1
  try clear c2
  try clear p2
  try clear c5
  try clear c10
  try clear hcz11_0
  try clear hcz13_0
  try clear hfz11_0
  try clear hfz13_0
  obtain ⟨kq, x27_5, rfl, HA, HJ5, BK187, HB⟩ := hcut
  cases kq with
  | zero => exact absurd HA.out (by simp [bitloftlaw16_MixerLessens.j0])
  | succ kj5 =>
   have H := HA.out; clear HA; simp only [bitloftlaw16_MixerLessens.j0] at H
   by_cases c15 : x27_5 = true
   ·
    subst c15
    have H1 : (some true) = some r := by rw [if_pos rfl] at H; exact H
    clear H; have H := H1; clear H1; obtain rfl := Option.some.inj H
    go_wp2
    go_ret
    exact ⟨by first | rfl | (simp [errW_none, errW_some] <;> rfl) | (simp [*, errW_none, errW_some] <;> rfl), pH_ HB.out⟩
   ·
    replace c15 := Bool.eq_false_iff.mpr c15
    subst c15
    have H1 : ((mixer_Mix.f kj5 l0_0 a1 l2).bind fun bt189 => ((mixer_Learn.f kj5 l0_0 a1 l2 bt189.2.1 a3).bind fun bt192 => ((mixer_Mix.f kj5 bt192.1 a1 l2).bind fun bt197 => (if bt189.2.2 = 0 then (if bt192.2 = 0 then (if bt197.2.2 = 0 then (if bt189.1 < (-2047) then (bitloftlaw16_MixerLessens.j1 kj5 a3 bt189.1 bt189.2.1 bt197.1 bt197.2.1 true) else (if bt189.1 > 2047 then (bitloftlaw16_MixerLessens.j1 kj5 a3 bt189.1 bt189.2.1 bt197.1 bt197.2.1 true) else (if bt189.2.1 < 0 then (bitloftlaw16_MixerLessens.j1 kj5 a3 bt189.1 bt189.2.1 bt197.1 bt197.2.1 true) else (if bt189.2.1 > 4095 then (bitloftlaw16_MixerLessens.j1 kj5 a3 bt189.1 bt189.2.1 bt197.1 bt197.2.1 true) else ((bitloftref16_Check.f kj5 bt192.1).bind fun t200 => (bitloftlaw16_MixerLessens.j1 kj5 a3 bt189.1 bt189.2.1 bt197.1 bt197.2.1 (t200 != 0))))))) else (bitloftlaw16_MixerLessens.j1 kj5 a3 bt189.1 bt189.2.1 bt197.1 bt197.2.1 true)) else (bitloftlaw16_MixerLessens.j1 kj5 a3 bt189.1 bt189.2.1 bt197.1 bt197.2.1 true)) else (bitloftlaw16_MixerLessens.j1 kj5 a3 bt189.1 bt189.2.1 bt197.1 bt197.2.1 true))))) = some r := by rw [if_neg (show ¬ (false = true) by decide)] at H; exact H
    clear H; have H := H1; clear H1; replace H := Option.bind_eq_some_iff.mp H; obtain ⟨⟨t189, t190, t191⟩, A160, H⟩ := H; replace H : ((mixer_Learn.f kj5 l0_0 a1 l2 t190 a3).bind fun bt192 => ((mixer_Mix.f kj5 bt192.1 a1 l2).bind fun bt197 => (if t191 = 0 then (if bt192.2 = 0 then (if bt197.2.2 = 0 then (if t189 < (-2047) then (bitloftlaw16_MixerLessens.j1 kj5 a3 t189 t190 bt197.1 bt197.2.1 true) else (if t189 > 2047 then (bitloftlaw16_MixerLessens.j1 kj5 a3 t189 t190 bt197.1 bt197.2.1 true) else (if t190 < 0 then (bitloftlaw16_MixerLessens.j1 kj5 a3 t189 t190 bt197.1 bt197.2.1 true) else (if t190 > 4095 then (bitloftlaw16_MixerLessens.j1 kj5 a3 t189 t190 bt197.1 bt197.2.1 true) else ((bitloftref16_Check.f kj5 bt192.1).bind fun t200 => (bitloftlaw16_MixerLessens.j1 kj5 a3 t189 t190 bt197.1 bt197.2.1 (t200 != 0))))))) else (bitloftlaw16_MixerLessens.j1 kj5 a3 t189 t190 bt197.1 bt197.2.1 true)) else (bitloftlaw16_MixerLessens.j1 kj5 a3 t189 t190 bt197.1 bt197.2.1 true)) else (bitloftlaw16_MixerLessens.j1 kj5 a3 t189 t190 bt197.1 bt197.2.1 true)))) = some r := H; have A16 := Aside0.mk A160; clear A160; replace H := Option.bind_eq_some_iff.mp H; obtain ⟨⟨t192, t195⟩, A170, H⟩ := H; replace H : ((mixer_Mix.f kj5 t192 a1 l2).bind fun bt197 => (if t191 = 0 then (if t195 = 0 then (if bt197.2.2 = 0 then (if t189 < (-2047) then (bitloftlaw16_MixerLessens.j1 kj5 a3 t189 t190 bt197.1 bt197.2.1 true) else (if t189 > 2047 then (bitloftlaw16_MixerLessens.j1 kj5 a3 t189 t190 bt197.1 bt197.2.1 true) else (if t190 < 0 then (bitloftlaw16_MixerLessens.j1 kj5 a3 t189 t190 bt197.1 bt197.2.1 true) else (if t190 > 4095 then (bitloftlaw16_MixerLessens.j1 kj5 a3 t189 t190 bt197.1 bt197.2.1 true) else ((bitloftref16_Check.f kj5 t192).bind fun t200 => (bitloftlaw16_MixerLessens.j1 kj5 a3 t189 t190 bt197.1 bt197.2.1 (t200 != 0))))))) else (bitloftlaw16_MixerLessens.j1 kj5 a3 t189 t190 bt197.1 bt197.2.1 true)) else (bitloftlaw16_MixerLessens.j1 kj5 a3 t189 t190 bt197.1 bt197.2.1 true)) else (bitloftlaw16_MixerLessens.j1 kj5 a3 t189 t190 bt197.1 bt197.2.1 true))) = some r := H; have A17 := Aside0.mk A170; clear A170; replace H := Option.bind_eq_some_iff.mp H; obtain ⟨⟨t197, t198, t199⟩, A180, H⟩ := H; replace H : (if t191 = 0 then (if t195 = 0 then (if t199 = 0 then (if t189 < (-2047) then (bitloftlaw16_MixerLessens.j1 kj5 a3 t189 t190 t197 t198 true) else (if t189 > 2047 then (bitloftlaw16_MixerLessens.j1 kj5 a3 t189 t190 t197 t198 true) else (if t190 < 0 then (bitloftlaw16_MixerLessens.j1 kj5 a3 t189 t190 t197 t198 true) else (if t190 > 4095 then (bitloftlaw16_MixerLessens.j1 kj5 a3 t189 t190 t197 t198 true) else ((bitloftref16_Check.f kj5 t192).bind fun t200 => (bitloftlaw16_MixerLessens.j1 kj5 a3 t189 t190 t197 t198 (t200 != 0))))))) else (bitloftlaw16_MixerLessens.j1 kj5 a3 t189 t190 t197 t198 true)) else (bitloftlaw16_MixerLessens.j1 kj5 a3 t189 t190 t197 t198 true)) else (bitloftlaw16_MixerLessens.j1 kj5 a3 t189 t190 t197 t198 true)) = some r := H; have A18 := Aside0.mk A180; clear A180; have HC19 := Aside0.mk H; clear H; have hcz20_0 : wc.cell? ⟨gb187, 0, none⟩ = some (.slice A0_0 l0_0.length c0_0) := (blk_cell BK187.out 0).trans rfl; have hfz20_0 := blk_frozen BK187.out 0
    go_upto_region 7 with (first | ((with_reducible refine gate_callee (f := 11) rfl ?_); refine gL_ (some 33) Tryd.func11 #[.agg #[.slice A0_0 l0_0.length c0_0], .int .i64 a1, .slice A2 l2.length c2] ?_; (with_reducible refine (mixer_Mix.calls kj5 _ _ l0_0 a1 _ _ l2 t189 t190 t191 _ ?side1 ?side2 ?side3 ?side4 (tab_bel hT (pH_ HB.out)) A16.out).mono ?_); (case side1 => repeat (first | exact (Kd.C_below HR0_0.out HB.out) | (with_reducible refine Kd.C_alloc ?_ _) | (with_reducible refine Kd.C_drewN ?_ _) | (with_reducible refine Kd.C_drew ?_))); (case side2 => exact HC0_0.out); (case side3 => repeat (first | exact (Kd.C_below HR2.out HB.out) | (with_reducible refine Kd.C_alloc ?_ _) | (with_reducible refine Kd.C_drewN ?_ _) | (with_reducible refine Kd.C_drew ?_))); (case side4 => exact HC2.out); rintro e w21 ⟨rfl, hb⟩; refine ⟨_, rfl, ?_⟩; have n0_ := Aside0.mk (blk_below (pG_ BK187.out) hb); have n1_ := Aside0.mk (below_step (pH_ HB.out) hb); clear BK187; clear HB; have BK187 := n0_; have HB := n1_; clear n0_ n1_; (try clear hb); have hcz22_0 : w21.cell? ⟨gb187, 0, none⟩ = some (.slice A0_0 l0_0.length c0_0) := (blk_cell BK187.out 0).trans rfl; have hfz22_0 := blk_frozen BK187.out 0) | ((with_reducible refine gate_callee (f := 18) rfl ?_); refine gL_ (some 43) Tryd.func18 #[.agg #[.slice A0_0 l0_0.length c0_0], .int .i64 a1, .slice A2 l2.length c2, .int .i32 t190, .bool a3] ?_; (with_reducible refine (mixer_Learn.calls kj5 _ _ l0_0 a1 _ _ l2 t190 a3 t192 t195 _ ?side1 ?side2 ?side3 ?side4 A17.out).mono ?_); (case side1 => repeat (first | exact (Kd.C_below HR0_0.out HB.out) | (with_reducible refine Kd.C_alloc ?_ _) | (with_reducible refine Kd.C_drewN ?_ _) | (with_reducible refine Kd.C_drew ?_))); (case side2 => exact HC0_0.out); (case side3 => repeat (first | exact (Kd.C_below HR2.out HB.out) | (with_reducible refine Kd.C_alloc ?_ _) | (with_reducible refine Kd.C_drewN ?_ _) | (with_reducible refine Kd.C_drew ?_))); (case side4 => exact HC2.out); rintro e w23 ⟨v193, rfl, ho0, hb⟩; refine ⟨_, rfl, ?_⟩; have n0_ := Aside0.mk (Kd.S_lower ho0 (below_size (pH_ HB.out))); have n1_ := Aside0.mk (blk_below (pG_ BK187.out) hb); have n2_ := Aside0.mk (below_step (pH_ HB.out) hb); clear BK187; clear HB; have HO194 := n0_; have BK187 := n1_; have HB := n2_; clear n0_ n1_ n2_; (try clear hb); (try clear ho0)) | ((with_reducible refine gate_dst (N := 13) rfl ?_); refine box_event ?hg (N := 13) ?hd (cs := #[.slice none 0 0]) (t := 24) ?hr ?_; (case hd => rfl); (case hg => rfl); (case hr => first | (go_simp; done) | (go_simp; rfl)); intro gb196 hg w24 hbox hb; have n0_ := Aside0.mk (Kd.S_below (by (with_reducible repeat (first | apply Kd.S_alloc | apply Kd.S_drewN | apply Kd.S_drew)); exact HO194.out) hb); have n1_ := Aside0.mk (blk_below (pG_ BK187.out) hb); have n2_ := Aside0.mk (below_step (pH_ HB.out) hb); have n3_ := Aside0.mk (hbox); have n4_ := Aside0.mk ((by rw [hg]; exact (below_size (pH_ HB.out)) : w.heap.size ≤ gb196)); have n5_ := Aside0.mk ((by rw [hg]; exact (below_size (pH_ HB.out)) : w.heap.size ≤ gb196)); have n6_ := Aside0.mk ((by rw [hg]; exact Nat.ne_of_lt (blk_lt (pG_ BK187.out)) : gb187 ≠ gb196)); have n7_ := Aside0.mk ((by rw [hg]; exact Nat.ne_of_gt (blk_lt (pG_ BK187.out)) : gb196 ≠ gb187)); clear HO194; clear BK187; clear HB; have HO194 := n0_; have BK187 := n1_; have HB := n2_; have BK196 := n3_; have GW196 := n4_; have GE196 := n5_; have NB187_196 := n6_; have NB196_187 := n7_; clear n0_ n1_ n2_ n3_ n4_ n5_ n6_ n7_; clear hb hbox hg; obtain ⟨Ao25, co25, eo25⟩ := Kd.S_slice HO194.out; subst eo25; have hnb26 := NB196_187.out; have hnc26 := NB187_196.out; have hcz27_0 : w24.cell? ⟨gb196, 0, none⟩ = some (.slice none 0 0) := (blk_cell BK196.out 0).trans rfl; have hfz27_0 := blk_frozen BK196.out 0) | ((with_reducible refine gate_callee (f := 11) rfl ?_); refine gL_ (some 50) Tryd.func11 #[.agg #[.slice Ao25 t192.length co25], .int .i64 a1, .slice A2 l2.length c2] ?_; (with_reducible refine (mixer_Mix.calls kj5 _ _ t192 a1 _ _ l2 t197 t198 t199 _ ?side1 ?side2 ?side3 ?side4 (tab_bel hT (pH_ HB.out)) A18.out).mono ?_); (case side1 => refine (Kd.S_reads' (e := 25) (base := w.heap.size) (ok := fun k_ => True) (n := t192.length) (c := co25) ?_).2.2; exact (by (with_reducible repeat (first | apply Kd.S_alloc | apply Kd.S_drewN | apply Kd.S_drew)); exact (Kd.S_mono (Kd.S_far (p := ⟨gb196, 0, none⟩) (Kd.S_types HO194.out BK196.out (by decide)) (fun _ hk => hk.2) (.slice Ao25 t192.length co25)) (fun _ h_ => h_.1)))); (case side2 => exact (Kd.S_reads' HO194.out).2.1); (case side3 => exact Kd.C_below HR2.out (pH_ HB.out)); (case side4 => exact HC2.out); rintro e w28 ⟨rfl, hb⟩; refine ⟨_, rfl, ?_⟩; have n0_ := Aside0.mk (Kd.S_below (by (with_reducible repeat (first | apply Kd.S_alloc | apply Kd.S_drewN | apply Kd.S_drew)); exact (Kd.S_mono (Kd.S_far (p := ⟨gb196, 0, none⟩) (Kd.S_types HO194.out BK196.out (by decide)) (fun _ hk => hk.2) (.slice Ao25 t192.length co25)) (fun _ h_ => h_.1))) hb); have n1_ := Aside0.mk (blk_below (g := gb187) (o := .cells #[.slice A0_0 l0_0.length c0_0] 24 (0, 0)) (by (with_reducible repeat (first | refine blk_drewN ?_ _ | refine blk_drew ?_ | refine blk_alloc ?_ _)); refine blk_far ?_ NB187_196.out _; (with_reducible repeat (first | refine blk_drewN ?_ _ | refine blk_drew ?_ | refine blk_alloc ?_ _)); exact BK187.out) hb); have n2_ := Aside0.mk (blk_below (g := gb196) (o := .cells #[.slice Ao25 t192.length co25] 24 (0, 0)) (by (with_reducible repeat (first | refine blk_drewN ?_ _ | refine blk_drew ?_ | refine blk_alloc ?_ _)); refine blk_put (cs := #[.slice none 0 0]) ?_ 0 _ rfl; (with_reducible repeat (first | refine blk_drewN ?_ _ | refine blk_drew ?_ | refine blk_alloc ?_ _)); exact BK196.out) hb); have n3_ := Aside0.mk (below_step (pH_ HB.out) hb); clear HO194; clear BK187; clear BK196; clear HB; have HO194 := n0_; have BK187 := n1_; have BK196 := n2_; have HB := n3_; clear n0_ n1_ n2_ n3_; (try clear hb)))
    (try simp only [Act.put, sA_, sZ_, sS_]); (with_reducible first | refine then_id_ ?_ | (refine wp_tail_ ?_; intro Kt_ hKt_))
    go_cut [84] (fun v84 wc => ∃ (kq : Nat) (x84_18 : Bool), v84 = .bool x84_18 ∧ Aside0 (bitloftlaw16_MixerLessens.j1 kq a3 t189 t190 t197 t198 x84_18 = some r) ∧ Aside0 (kq ≤ kj5) ∧ Aside0 (Kd.S (Kd.slice 21 (Kd.int .i32)) 25 wc w.heap.size (fun _ => True) (.slice Ao25 t192.length co25) t192) ∧ Aside0 (wc.heap[gb187]? = some (.cells #[(.slice A0_0 l0_0.length c0_0)] 24 (0, 0))) ∧ Aside0 (wc.heap[gb196]? = some (.cells #[(.slice Ao25 t192.length co25)] 24 (0, 0))) ∧ Aside0 (Below w.heap.size w wc))
    case first =>
     have H := HC19.out; clear HC19
     by_cases c29 : t191 = 0
     ·
      rw [if_pos c29] at H; have c29b0 : (t191 == 0) = true := beq_iff_eq.mpr c29; have c29b1 : (t191 != 0) = false := bne_eq_false_iff_eq.mpr c29; clear c29; (first | rw [c29b0] | (simp only [i64_w, i32_w]; rw [c29b0]) | skip)
      by_cases c30 : t195 = 0
      ·
       rw [if_pos c30] at H; have c30b0 : (t195 == 0) = true := beq_iff_eq.mpr c30; have c30b1 : (t195 != 0) = false := bne_eq_false_iff_eq.mpr c30; clear c30
       by_cases c31 : t199 = 0
       ·
        rw [if_pos c31] at H; have c31b0 : (t199 == 0) = true := beq_iff_eq.mpr c31; have c31b1 : (t199 != 0) = false := bne_eq_false_iff_eq.mpr c31; clear c31
        by_cases c32 : t189 < (-2047)
        ·
         rw [if_pos c32] at H; have c32b0 : decide (t189 < (-2047)) = true := decide_eq_true c32; clear c32; exact absurd (H.trans (congrArg some HRT_.out)) (by first | (simp; done) | (generalize kj5 = k_; cases k_ <;> simp [bitloftlaw16_MixerLessens.j0, bitloftlaw16_MixerLessens.j1]))
        ·
         rw [if_neg c32] at H; have c32b0 : decide (t189 < (-2047)) = false := decide_eq_false c32; clear c32
         by_cases c33 : t189 > 2047
         ·
          rw [if_pos c33] at H; have c33b0 : decide (2047 < t189) = true := decide_eq_true c33; clear c33; exact absurd (H.trans (congrArg some HRT_.out)) (by first | (simp; done) | (generalize kj5 = k_; cases k_ <;> simp [bitloftlaw16_MixerLessens.j0, bitloftlaw16_MixerLessens.j1]))
         ·
          rw [if_neg c33] at H; have c33b0 : decide (2047 < t189) = false := decide_eq_false c33; clear c33
          by_cases c34 : t190 < 0
          ·
           rw [if_pos c34] at H; have c34b0 : decide (t190 < 0) = true := decide_eq_true c34; clear c34; exact absurd (H.trans (congrArg some HRT_.out)) (by first | (simp; done) | (generalize kj5 = k_; cases k_ <;> simp [bitloftlaw16_MixerLessens.j0, bitloftlaw16_MixerLessens.j1]))
          ·
           rw [if_neg c34] at H; have c34b0 : decide (t190 < 0) = false := decide_eq_false c34; clear c34
           by_cases c35 : t190 > 4095
           ·
            rw [if_pos c35] at H; have c35b0 : decide (4095 < t190) = true := decide_eq_true c35; clear c35; exact absurd (H.trans (congrArg some HRT_.out)) (by first | (simp; done) | (generalize kj5 = k_; cases k_ <;> simp [bitloftlaw16_MixerLessens.j0, bitloftlaw16_MixerLessens.j1]))
           ·
            rw [if_neg c35] at H; have c35b0 : decide (4095 < t190) = false := decide_eq_false c35; clear c35; replace H := Option.bind_eq_some_iff.mp H; obtain ⟨t200, A360, H⟩ := H; replace H : (bitloftlaw16_MixerLessens.j1 kj5 a3 t189 t190 t197 t198 (t200 != 0)) = some r := H; have A36 := Aside0.mk A360; clear A360; have H' := Aside0.mk H; clear H; have hnb37 := NB196_187.out; have hnc37 := NB187_196.out; have hcz38_0 : w28.cell? ⟨gb196, 0, none⟩ = some (.slice Ao25 t192.length co25) := (blk_cell BK196.out 0).trans rfl; have hfz38_0 := blk_frozen BK196.out 0
            go_wp2_with (first | (go_at_call 17; (with_reducible refine (bitloftref16_Check.calls kj5 _ _ t192 t200 _ ?side1 ?side2 A36.out).mono ?_); (case side1 => repeat (first | exact (Kd.S_reads' HO194.out).2.2 | (with_reducible refine Kd.C_alloc ?_ _) | (with_reducible refine Kd.C_drewN ?_ _) | (with_reducible refine Kd.C_drew ?_))); (case side2 => exact (Kd.S_reads' HO194.out).2.1); rintro e w39 ⟨rfl, hb⟩; have n0_ := Aside0.mk (Kd.S_below (by (with_reducible repeat (first | apply Kd.S_alloc | apply Kd.S_drewN | apply Kd.S_drew)); exact HO194.out) hb); have n1_ := Aside0.mk (blk_below (pG_ BK187.out) hb); have n2_ := Aside0.mk (blk_below (pG_ BK196.out) hb); have n3_ := Aside0.mk (below_step (pH_ HB.out) hb); clear HO194; clear BK187; clear BK196; clear HB; have HO194 := n0_; have BK187 := n1_; have BK196 := n2_; have HB := n3_; clear n0_ n1_ n2_ n3_; (try clear hb)))
            (first | go_meet | (refine Met.intro ?_; go_step; (repeat apply Exists.intro); refine ⟨?rel, ?eqf_⟩; case eqf_ => ((simp only [c35b0, c34b0, c33b0, c32b0, c31b0, c30b0, c29b0]) <;> rfl)))
            case rel => exact ⟨_, ((t200 != 0)), (by first | rfl | (simp; done) | (simp [*]; done)), H', ⟨by have := HJ5.out; first | omega | exact Nat.le_refl _⟩, ⟨by (with_reducible repeat (first | apply Kd.S_alloc | apply Kd.S_drewN | apply Kd.S_drew)); exact HO194.out⟩, ⟨pG_ BK187.out⟩, ⟨pG_ BK196.out⟩, ⟨pH_ HB.out⟩⟩
       ·
        rw [if_neg c31] at H; have c31b0 : (t199 == 0) = false := beq_eq_false_iff_ne.mpr c31; have c31b1 : (t199 != 0) = true := bne_iff_ne.mpr c31; exact absurd (H.trans (congrArg some HRT_.out)) (by first | (simp; done) | (generalize kj5 = k_; cases k_ <;> simp [bitloftlaw16_MixerLessens.j0, bitloftlaw16_MixerLessens.j1]))
      ·
       rw [if_neg c30] at H; have c30b0 : (t195 == 0) = false := beq_eq_false_iff_ne.mpr c30; have c30b1 : (t195 != 0) = true := bne_iff_ne.mpr c30; exact absurd (H.trans (congrArg some HRT_.out)) (by first | (simp; done) | (generalize kj5 = k_; cases k_ <;> simp [bitloftlaw16_MixerLessens.j0, bitloftlaw16_MixerLessens.j1]))
     ·
      rw [if_neg c29] at H; have c29b0 : (t191 == 0) = false := beq_eq_false_iff_ne.mpr c29; have c29b1 : (t191 != 0) = true := bne_iff_ne.mpr c29; (first | rw [c29b0] | (simp only [i64_w, i32_w]; rw [c29b0]) | skip); exact absurd (H.trans (congrArg some HRT_.out)) (by first | (simp; done) | (generalize kj5 = k_; cases k_ <;> simp [bitloftlaw16_MixerLessens.j0, bitloftlaw16_MixerLessens.j1]))
    case rest =>
     (try (refine hKt_ _ _ ?_; clear hKt_; clear Kt_)); clear HC19
     try clear c1
     try clear c2
     try clear p2
     try clear c3
     try clear c5
     try clear c10
     try clear c11
     try clear c15
     try clear c18
     try clear c19
     try clear c21
     try clear c26
     try clear c29
     try clear c29b0
     try clear c29b1
     try clear c30
     try clear c30b0
     try clear c30b1
     try clear c31
     try clear c31b0
     try clear c31b1
     try clear c32
     try clear c32b0
     try clear c33
     try clear c33b0
     try clear c34
     try clear c34b0
     try clear c35
     try clear c35b0
     try clear c37
     try clear hcz11_0
     try clear hcz13_0
     try clear hcz20_0
     try clear hcz22_0
     try clear hcz27_0
     try clear hcz38_0
     try clear hfz11_0
     try clear hfz13_0
     try clear hfz20_0
     try clear hfz22_0
     try clear hfz27_0
     try clear hfz38_0
     try clear p2
     obtain ⟨kq, x84_18, rfl, HA, HJ18, HO_197000, BK187, BK196, HB⟩ := hcut
     cases kq with
     | zero => exact absurd HA.out (by simp [bitloftlaw16_MixerLessens.j1])
     | succ kj18 =>
      have H := HA.out; clear HA; simp only [bitloftlaw16_MixerLessens.j1] at H
      by_cases c40 : x84_18 = true
      ·
       subst c40
       have H1 : (some false) = some r := by rw [if_pos rfl] at H; exact H
       clear H; have H := H1; clear H1; exact absurd (H.trans (congrArg some HRT_.out)) (by simp)
      ·
       replace c40 := Bool.eq_false_iff.mpr c40
       subst c40
       have H1 : (if a3 = true then (if t197 ≥ t189 then (some (decide (t198 ≥ t190))) else (some false)) else (if t197 ≤ t189 then (some (decide (t198 ≤ t190))) else (some false))) = some r := by rw [if_neg (show ¬ (false = true) by decide)] at H; exact H
       clear H; have H := H1; clear H1
       by_cases c41 : a3 = true
       ·
        subst c41
        have H1 : (if t197 ≥ t189 then (some (decide (t198 ≥ t190))) else (some false)) = some r := by rw [if_pos rfl] at H; exact H
        clear H; have H := H1; clear H1
        by_cases c42 : t197 ≥ t189
        ·
         rw [if_pos c42] at H; have c42b0 : decide (t189 ≤ t197) = true := decide_eq_true c42; clear c42; obtain rfl := Option.some.inj H
         go_wp2
         go_ret
         exact ⟨by first | rfl | (simp [errW_none, errW_some] <;> rfl) | (simp [*, errW_none, errW_some] <;> rfl), pH_ HB.out⟩
        ·
         rw [if_neg c42] at H; have c42b0 : decide (t189 ≤ t197) = false := decide_eq_false c42; clear c42; exact absurd (H.trans (congrArg some HRT_.out)) (by simp)
       ·
        replace c41 := Bool.eq_false_iff.mpr c41
        subst c41
        have H1 : (if t197 ≤ t189 then (some (decide (t198 ≤ t190))) else (some false)) = some r := by rw [if_neg (show ¬ (false = true) by decide)] at H; exact H
        clear H; have H := H1; clear H1
        by_cases c43 : t197 ≤ t189
        ·
         rw [if_pos c43] at H; have c43b0 : decide (t197 ≤ t189) = true := decide_eq_true c43; clear c43; obtain rfl := Option.some.inj H
         go_wp2
         go_ret
         exact ⟨by first | rfl | (simp [errW_none, errW_some] <;> rfl) | (simp [*, errW_none, errW_some] <;> rfl), pH_ HB.out⟩
        ·
         rw [if_neg c43] at H; have c43b0 : decide (t197 ≤ t189) = false := decide_eq_false c43; clear c43; exact absurd (H.trans (congrArg some HRT_.out)) (by simp)

/-- The one plain statement of bitloftlaw16_MixerLessens. -/
def bitloftlaw16_MixerLessens.Pure : Prop := ∀ (l0_0 : List (List Int)) (a1 : Int) (l2 : List Int) (a3 : Bool), l0_0.length ≤ maxLen → (∀ x_ ∈ l0_0, (fun l_ : List Int => l_.length ≤ maxLen ∧ ∀ x_ ∈ l_, (fun n_ : Int => (Lit.int .i32 n_).wf = true) x_) x_) → (Lit.int .i64 a1).wf = true → l2.length ≤ maxLen → l2.length * 4 ≤ 140737488351232 → (∀ x ∈ l2, (Lit.int .i32 x).wf = true) → ∃ k, bitloftlaw16_MixerLessens.f k l0_0 a1 l2 a3 = some true

end Go.Proofs.YtlpkfljihcklkaaDoor.XMixerLessens
