-- Laid by a program of this session (wip/mkxprint.py, over the kit's print): Lean checks it.
import Derived.Test.YtejamobohmljfaaDoorXParityMendsx0
namespace Go.Proofs.YtejamobohmljfaaDoor.XParityMends
open List (setIfInBounds_toArray set_cons_zero set_cons_succ)
open Go.RowKit Go.Proofs.YtejamobohmljfaaDoorW.PrintWords Go.Proofs.YtejamobohmljfaaDoorW.PrintLast Go.Proofs.YtejamobohmljfaaDoorW.PrintMore
attribute [local go_sem] max2_int min2_int max_two min_two max_three min_three max_four min_four   -- for this text's walks alone
set_option linter.unusedVariables false
set_option linter.unusedSimpArgs false

/-! ### bitloftref42_Great: function 12 -/
mutual
def bitloftref42_Great.l0 : Nat → List (List Int) → Int → Int → Option (Bool)
 | 0, _, _, _ => none
 | k + 1, x0, x3, x4 => if x4 < (x0.length : Int) then (bitloftref42_Great.j1 k x0 x3 x4 (decide (x4 ≤ 100))) else (bitloftref42_Great.j1 k x0 x3 x4 false)
def bitloftref42_Great.j1 : Nat → List (List Int) → Int → Int → Bool → Option (Bool)
 | 0, _, _, _, _ => none
 | k + 1, x0, x3, x4, x12 => if x12 = true then (if 0 ≤ x4 then (if x4 < (x0.length : Int) then (if ((rd_L1 x0 x4).length : Int) ≤ 5000 then (bitloftref42_Great.l0 k x0 (wrap64 (x3 + ((rd_L1 x0 x4).length : Int))) (wrap64 (x4 + 1))) else (bitloftref42_Great.l0 k x0 x3 (wrap64 (x4 + 1)))) else (none)) else (none)) else (if x3 > 1000 then (some true) else (if (x0.length : Int) > 40 then (if (x0.length : Int) ≤ 100 then (some true) else (some (decide ((x0.length : Int) > 120)))) else (some (decide ((x0.length : Int) > 120)))))
end
def bitloftref42_Great.f (k : Nat) (l0 : List (List Int)) : Option (Bool) := bitloftref42_Great.l0 k l0 0 0
theorem bitloftref42_Great.mono_l : ∀ k, (∀ y0 y1 y2, LeO (bitloftref42_Great.l0 k y0 y1 y2) (bitloftref42_Great.l0 (k + 1) y0 y1 y2)) ∧ (∀ y0 y1 y2 y3, LeO (bitloftref42_Great.j1 k y0 y1 y2 y3) (bitloftref42_Great.j1 (k + 1) y0 y1 y2 y3))
 | 0 => ⟨fun _ _ _ r h => by simp [bitloftref42_Great.l0] at h, fun _ _ _ _ r h => by simp [bitloftref42_Great.j1] at h⟩
 | k + 1 => by
  obtain ⟨ih0, ih1⟩ := bitloftref42_Great.mono_l k; refine ⟨?_, ?_⟩
  ·
   intro y0 y1 y2
   unfold bitloftref42_Great.l0
   repeat' first
   | (with_reducible exact ih0 _ _ _)
   | (with_reducible exact ih1 _ _ _ _)
   | (with_reducible exact LeO.refl _)
   | (with_reducible exact LeO.none _)
   | (with_reducible refine LeO.ite ?_ ?_)
   | (with_reducible refine LeO.bind ?_ (fun _ => ?_))
   | exact ih0 _ _ _
   | exact ih1 _ _ _ _
   | exact LeO.none _
   | refine LeO.ite ?_ ?_
   | refine LeO.bind ?_ (fun _ => ?_)
  ·
   intro y0 y1 y2 y3
   unfold bitloftref42_Great.j1
   repeat' first
   | (with_reducible exact ih0 _ _ _)
   | (with_reducible exact ih1 _ _ _ _)
   | (with_reducible exact LeO.refl _)
   | (with_reducible exact LeO.none _)
   | (with_reducible refine LeO.ite ?_ ?_)
   | (with_reducible refine LeO.bind ?_ (fun _ => ?_))
   | exact ih0 _ _ _
   | exact ih1 _ _ _ _
   | exact LeO.none _
   | refine LeO.ite ?_ ?_
   | refine LeO.bind ?_ (fun _ => ?_)
theorem bitloftref42_Great.mono : ∀ a0 k, LeO (bitloftref42_Great.f k a0) (bitloftref42_Great.f (k + 1) a0) := by
 intro a0 k; obtain ⟨ih0, ih1⟩ := bitloftref42_Great.mono_l k
 unfold bitloftref42_Great.f
 repeat' first
   | (with_reducible exact ih0 _ _ _)
   | (with_reducible exact ih1 _ _ _ _)
   | (with_reducible exact LeO.refl _)
   | (with_reducible exact LeO.none _)
   | (with_reducible refine LeO.ite ?_ ?_)
   | (with_reducible refine LeO.bind ?_ (fun _ => ?_))
   | exact ih0 _ _ _
   | exact ih1 _ _ _ _
   | exact LeO.none _
   | refine LeO.ite ?_ ?_
   | refine LeO.bind ?_ (fun _ => ?_)
set_option maxHeartbeats 8000000 in
set_option maxRecDepth 100000 in
theorem bitloftref42_Great.calls (k : Nat) (A0 : Option Addr) (c0 : Nat) (l0 : List (List Int)) (r : Bool) (w : World) (hr0 : Kd.C (Kd.slice 5 (Kd.int .u8)) w A0 l0.length l0) (hc0 : l0.length ≤ c0) (h : bitloftref42_Great.f k l0 = some r) :
  Calls Tryd.prog 12 #[.slice A0 l0.length c0] w fun e w' => e = .returned (.bool r) ∧ Drawn0 w w' := by
 have HR0 := Aside0.mk hr0; have HC0 := Aside0.mk hc0; clear hr0 hc0; have H : (bitloftref42_Great.l0 k l0 0 0) = some r := h; clear h; have H' := Aside0.mk H; clear H
 go_enter Tryd.func12, Tryd.ntmps12
 go_wp2
 go_loopg [3, 4] k (fun kq v3 v4 w' => ∃ (x3_1 : Int) (x4_1 : Int), v3 = .int .i64 x3_1 ∧ v4 = .int .i64 x4_1 ∧ Aside0 (bitloftref42_Great.l0 kq l0 x3_1 x4_1 = some r) ∧ Aside0 (kq ≤ k) ∧ Drawn0 w w')
 case atStart => exact ⟨(0), (0), (by first | rfl | (simp; done) | (simp [*]; done)), (by first | rfl | (simp; done) | (simp [*]; done)), H', ⟨Nat.le_refl _⟩, by repeat (first | exact Drawn0.refl _ | apply Drawn0.step)⟩
 case round =>
  clear H'
  try clear c1
  obtain ⟨x3_1, x4_1, rfl, rfl, HA, HK1, ⟨m1, rfl⟩⟩ := hrel
  cases gk with
  | zero => exact absurd HA.out (by simp [bitloftref42_Great.l0])
  | succ k1 =>
   have H := HA.out; clear HA; simp only [bitloftref42_Great.l0] at H; have HC2 := Aside0.mk H; clear H
   go_upto_region 3 with (fail)
   (with_reducible first | refine then_id_ ?_ | (refine wp_tail_ ?_; intro Kt_ hKt_))
   go_cut [12] (fun v12 wc => ∃ (kq : Nat) (x12_1 : Bool), v12 = .bool x12_1 ∧ Aside0 (bitloftref42_Great.j1 kq l0 x3_1 x4_1 x12_1 = some r) ∧ Aside0 (kq ≤ k1) ∧ Drawn0 w wc)
   case first =>
    have H := HC2.out; clear HC2
    by_cases c3 : x4_1 < (l0.length : Int)
    ·
     rw [if_pos c3] at H; have c3b0 : decide (x4_1 < (l0.length : Int)) = true := decide_eq_true c3; clear c3; (first | rw [c3b0] | (simp only [i64_w, i32_w]; rw [c3b0]) | skip); have H' := Aside0.mk H; clear H
     go_wp2
     (first | go_meet | (refine Met.intro ?_; go_step; (repeat apply Exists.intro); refine ⟨?rel, ?eqf_⟩; case eqf_ => ((simp only [c3b0]) <;> rfl)))
     case rel => exact ⟨_, (decide (x4_1 ≤ 100)), (by first | rfl | (simp; done) | (simp [*]; done)), H', ⟨by have := HK1.out; first | omega | exact Nat.le_refl _⟩, by repeat (first | exact Drawn0.refl _ | apply Drawn0.step)⟩
    ·
     rw [if_neg c3] at H; have c3b0 : decide (x4_1 < (l0.length : Int)) = false := decide_eq_false c3; clear c3; (first | rw [c3b0] | (simp only [i64_w, i32_w]; rw [c3b0]) | skip); have H' := Aside0.mk H; clear H
     go_wp2
     (first | go_meet | (refine Met.intro ?_; go_step; (repeat apply Exists.intro); refine ⟨?rel, ?eqf_⟩; case eqf_ => ((simp only [c3b0]) <;> rfl)))
     case rel => exact ⟨_, (false), (by first | rfl | (simp; done) | (simp [*]; done)), H', ⟨by have := HK1.out; first | omega | exact Nat.le_refl _⟩, by repeat (first | exact Drawn0.refl _ | apply Drawn0.step)⟩
   case rest =>
    (try (refine hKt_ _ _ ?_; clear hKt_; clear Kt_)); clear HC2
    try clear c1
    try clear p2
    try clear c3
    try clear c3b0
    obtain ⟨kq, x12_1, rfl, HA, HJ1, ⟨mc1, rfl⟩⟩ := hcut
    cases kq with
    | zero => exact absurd HA.out (by simp [bitloftref42_Great.j1])
    | succ kj1 =>
     have H := HA.out; clear HA; simp only [bitloftref42_Great.j1] at H
     by_cases c4 : x12_1 = true
     ·
      subst c4
      have H1 : (if 0 ≤ x4_1 then (if x4_1 < (l0.length : Int) then (if ((rd_L1 l0 x4_1).length : Int) ≤ 5000 then (bitloftref42_Great.l0 kj1 l0 (wrap64 (x3_1 + ((rd_L1 l0 x4_1).length : Int))) (wrap64 (x4_1 + 1))) else (bitloftref42_Great.l0 kj1 l0 x3_1 (wrap64 (x4_1 + 1)))) else (none)) else (none)) = some r := by rw [if_pos rfl] at H; exact H
      clear H; have H := H1; clear H1
      by_cases c5 : 0 ≤ x4_1
      ·
       rw [if_pos c5] at H; have c5b0 : decide (0 ≤ x4_1) = true := decide_eq_true c5; clear c5
       by_cases c6 : x4_1 < (l0.length : Int)
       ·
        rw [if_pos c6] at H; have c6b0 : decide (x4_1 < (l0.length : Int)) = true := decide_eq_true c6; clear c6
        by_cases c7 : ((rd_L1 l0 x4_1).length : Int) ≤ 5000
        ·
         rw [if_pos c7] at H; have c7b0 : decide (((rd_L1 l0 x4_1).length : Int) ≤ 5000) = true := decide_eq_true c7; have c7b1 : decide ((rd_L1 l0 x4_1).length ≤ 5000) = true := decide_eq_true (by omega); clear c7; have H' := Aside0.mk H; clear H; have p101 : 0 ≤ (x4_1 : Int) := of_decide_eq_true (by first | (with_reducible assumption) | assumption); have q101 : x4_1 < (l0.length : Int) := of_decide_eq_true (by first | (with_reducible assumption) | assumption); obtain ⟨ad101, A101_0, c101_0, e101, hx101_0, hl101_0, hi101_0⟩ := at_L1 HR0.out x4_1 p101 q101
         cases e101
         have HR101_0 := Aside0.mk hi101_0; have HC101_0 := Aside0.mk hl101_0; clear hi101_0 hl101_0; replace p101 := eq_true p101; replace q101 := eq_true q101; have p102 : 0 ≤ (x4_1 : Int) := of_decide_eq_true (by first | (with_reducible assumption) | assumption); have q102 : x4_1 < (l0.length : Int) := of_decide_eq_true (by first | (with_reducible assumption) | assumption); obtain ⟨ad102, A102_0, c102_0, e102, hx102_0, hl102_0, hi102_0⟩ := at_L1 HR0.out x4_1 p102 q102; obtain rfl : ad101 = ad102 := (by injection e102); have HR102_0 := Aside0.mk hi102_0; have HC102_0 := Aside0.mk hl102_0; clear hi102_0 hl102_0; replace p102 := eq_true p102; replace q102 := eq_true q102; have ea_ := Option.some.inj (hx101_0.symm.trans hx102_0)
         injection ea_ with ea_ en_ ec_
         subst ea_
         subst ec_
         clear en_
         go_wp2
         go_roundg kj1
         case measure => have := HK1.out; have := HJ1.out; omega
         case rel => exact ⟨(wrap64 (x3_1 + ((rd_L1 l0 x4_1).length : Int))), (wrap64 (x4_1 + 1)), (by first | rfl | (simp; done) | (simp [*]; done)), (by first | rfl | (simp; done) | (simp [*]; done)), H', ⟨by have := HK1.out; have := HJ1.out; omega⟩, by repeat (first | exact Drawn0.refl _ | apply Drawn0.step)⟩
        ·
         rw [if_neg c7] at H; have c7b0 : decide (((rd_L1 l0 x4_1).length : Int) ≤ 5000) = false := decide_eq_false c7; have c7b1 : decide ((rd_L1 l0 x4_1).length ≤ 5000) = false := decide_eq_false (by omega); clear c7; have H' := Aside0.mk H; clear H; have p101 : 0 ≤ (x4_1 : Int) := of_decide_eq_true (by first | (with_reducible assumption) | assumption); have q101 : x4_1 < (l0.length : Int) := of_decide_eq_true (by first | (with_reducible assumption) | assumption); obtain ⟨ad101, A101_0, c101_0, e101, hx101_0, hl101_0, hi101_0⟩ := at_L1 HR0.out x4_1 p101 q101
         cases e101
         have HR101_0 := Aside0.mk hi101_0; have HC101_0 := Aside0.mk hl101_0; clear hi101_0 hl101_0; replace p101 := eq_true p101; replace q101 := eq_true q101
         go_wp2
         go_roundg kj1
         case measure => have := HK1.out; have := HJ1.out; omega
         case rel => exact ⟨(x3_1), (wrap64 (x4_1 + 1)), (by first | rfl | (simp; done) | (simp [*]; done)), (by first | rfl | (simp; done) | (simp [*]; done)), H', ⟨by have := HK1.out; have := HJ1.out; omega⟩, by repeat (first | exact Drawn0.refl _ | apply Drawn0.step)⟩
       ·
        rw [if_neg c6] at H; exact absurd H (by simp)
      ·
       rw [if_neg c5] at H; exact absurd H (by simp)
     ·
      replace c4 := Bool.eq_false_iff.mpr c4
      subst c4
      have H1 : (if x3_1 > 1000 then (some true) else (if (l0.length : Int) > 40 then (if (l0.length : Int) ≤ 100 then (some true) else (some (decide ((l0.length : Int) > 120)))) else (some (decide ((l0.length : Int) > 120))))) = some r := by rw [if_neg (show ¬ (false = true) by decide)] at H; exact H
      clear H; have H := H1; clear H1
      by_cases c8 : x3_1 > 1000
      ·
       rw [if_pos c8] at H; have c8b0 : decide (1000 < x3_1) = true := decide_eq_true c8; clear c8; obtain rfl := Option.some.inj H
       go_wp2
       go_ret
       exact ⟨by first | rfl | (simp; done) | (simp [*]; done), by repeat (first | exact Drawn0.refl _ | apply Drawn0.step)⟩
      ·
       rw [if_neg c8] at H; have c8b0 : decide (1000 < x3_1) = false := decide_eq_false c8; clear c8
       by_cases c9 : (l0.length : Int) > 40
       ·
        rw [if_pos c9] at H; have c9b0 : decide (40 < (l0.length : Int)) = true := decide_eq_true c9; have c9b1 : decide (40 < l0.length) = true := decide_eq_true (by omega); clear c9
        by_cases c10 : (l0.length : Int) ≤ 100
        ·
         rw [if_pos c10] at H; have c10b0 : decide ((l0.length : Int) ≤ 100) = true := decide_eq_true c10; have c10b1 : decide (l0.length ≤ 100) = true := decide_eq_true (by omega); clear c10; obtain rfl := Option.some.inj H
         go_wp2
         go_ret
         exact ⟨by first | rfl | (simp; done) | (simp [*]; done), by repeat (first | exact Drawn0.refl _ | apply Drawn0.step)⟩
        ·
         rw [if_neg c10] at H; have c10b0 : decide ((l0.length : Int) ≤ 100) = false := decide_eq_false c10; have c10b1 : decide (l0.length ≤ 100) = false := decide_eq_false (by omega); clear c10; obtain rfl := Option.some.inj H
         go_wp2
         go_ret
         exact ⟨by first | rfl | (simp; done) | (simp [*]; done), by repeat (first | exact Drawn0.refl _ | apply Drawn0.step)⟩
       ·
        rw [if_neg c9] at H; have c9b0 : decide (40 < (l0.length : Int)) = false := decide_eq_false c9; have c9b1 : decide (40 < l0.length) = false := decide_eq_false (by omega); clear c9; obtain rfl := Option.some.inj H
        go_wp2
        go_ret
        exact ⟨by first | rfl | (simp; done) | (simp [*]; done), by repeat (first | exact Drawn0.refl _ | apply Drawn0.step)⟩

-- NOT PRINTED: function 35 (slices_IndexFunc_byte_byte)

-- NOT PRINTED: function 21 (slices_ContainsFunc_byte_byte)

/-! ### parity_long: function 22 -/
def parity_long.f (l0 : List Int) : Option (Bool) := some (decide ((l0.length : Int) > 5000))
set_option maxHeartbeats 8000000 in
set_option maxRecDepth 100000 in
theorem parity_long.calls (A0 : Option Addr) (c0 : Nat) (l0 : List Int) (r : Bool) (w : World) (hr0 : Kd.C (Kd.int .u8) w A0 l0.length l0) (hc0 : l0.length ≤ c0) (h : parity_long.f l0 = some r) :
    Calls Tryd.prog 22 #[.slice A0 l0.length c0] w fun e w' => e = .returned (.bool r) ∧ Drawn0 w w' := by
  have HR0 := Aside0.mk hr0
  have HC0 := Aside0.mk hc0
  clear hr0 hc0
  have H : (some (decide ((l0.length : Int) > 5000))) = some r := h
  clear h
  obtain rfl := Option.some.inj H
  go_enter Tryd.func22, Tryd.ntmps22
  go_wp2
  go_ret
  exact ⟨by first | rfl | (simp; done) | (simp [*]; done), by repeat (first | exact Drawn0.refl _ | apply Drawn0.step)⟩

-- NOT PRINTED: function 36 (parity_over_int)

-- NOT PRINTED: function 38 (parity_over_byte)

/-! ### parity_add: function 25 -/
/-- A row after the head and the first k bytes of a string have been added. -/
def parity_add.row (xs s : List Int) : Nat → List Int
  | 0 => (xs.set 0 (bits .xor .u8 (rd xs 0) ((s.length : Int) / 256 % 256))).set 1 (bits .xor .u8 (rd xs 1) ((s.length : Int) % 256))
  | k + 1 => (parity_add.row xs s k).set (2 + k) (bits .xor .u8 (rd (parity_add.row xs s k) (2 + (k : Int))) (rd s (k : Int)))
theorem parity_add.row_len (xs s : List Int) (k : Nat) : (parity_add.row xs s k).length = xs.length := by
  induction k with
  | zero => simp [parity_add.row]
  | succ k ih => simp [parity_add.row, ih]
theorem parity_add.item (A0 : Option Addr) (l0 : List Int) (w : World) (hr0 : Kd.C (Kd.int .u8) w A0 l0.length l0) (k : Nat) (hk : k < l0.length) :
    ∃ ad, A0 = some ad ∧ w.cell? (ad.add k) = some (.int .u8 (rd l0 (k : Int))) := by
  obtain ⟨ad, c, e, hl, hK, hc⟩ := ReadsRow.get_ hr0 0 (k : Int) (by omega) (by omega)
  refine ⟨ad, e, ?_⟩
  have h0 : c = [.int .u8 (rd l0 (k : Int))] := hK
  have := hc 0 (.int .u8 (rd l0 (k : Int))) (by rw [h0]; rfl)
  rw [Int.toNat_natCast, show (Kd.int .u8).sz = 1 from rfl, Nat.mul_one, Nat.add_zero] at this
  exact this
theorem parity_add.calls (w0 : World) (A1 : Option Addr) (c1 g cap : Nat) (s xs : List Int) (w : World) (hs : Kd.C (Kd.int .u8) w0 A1 s.length s) (hc1 : s.length ≤ c1) (hb : Below w0.heap.size w0 w) (hx : Kd.R (Kd.int .u8) 5 w w0.heap.size (fun _ => True) (.slice (some ⟨g, 0, none⟩) xs.length cap) xs) (hl : s.length + 2 ≤ xs.length) (hm : xs.length < 1000000000) :
    Calls Tryd.prog 25 #[.slice (some ⟨g, 0, none⟩) xs.length cap, .slice A1 s.length c1] w fun e w' => e = .returned (.tuple #[]) ∧ Kd.R (Kd.int .u8) 5 w' w0.heap.size (fun _ => True) (.slice (some ⟨g, 0, none⟩) xs.length cap) (parity_add.row xs s s.length) ∧ Below w0.heap.size w0 w' := by
  have hgb : w0.heap.size ≤ g := by
    obtain ⟨g', cap', e, h, _⟩ := Kd.R_form hx (by omega)
    cases e
    exact h
  have HS := Aside0.mk hs
  have HB := Aside0.mk hb
  have HX := Aside0.mk hx
  have hlz : (s.length : Int) + 2 ≤ (xs.length : Int) := by omega
  clear hs hb hx
  have p0 : (0 : Int) < (xs.length : Int) := by omega
  have p1 : (1 : Int) < (xs.length : Int) := by omega
  have hx0 : w.cell? ⟨g, 0, none⟩ = some (.int .u8 (rd xs 0)) := (Kd.R_celln 0 HX.out 0 (by omega) (by omega)).1
  have hf0 : w.frozen? ⟨g, 0, none⟩ = false := (Kd.R_celln 0 HX.out 0 (by omega) (by omega)).2
  have hx1 : w.cell? ⟨g, 1, none⟩ = some (.int .u8 (rd xs 1)) := (Kd.R_celln 0 HX.out 1 (by omega) (by omega)).1
  have hf1 : w.frozen? ⟨g, 1, none⟩ = false := (Kd.R_celln 0 HX.out 1 (by omega) (by omega)).2
  go_enter Tryd.func25, Tryd.ntmps25
  go_wp2
  go_loopg [4, 24] s.length (fun gg s4 s24 wr => ∃ kk : Nat, kk ≤ s.length ∧ s.length - kk ≤ gg ∧ s24 = .int .i64 kk ∧ Aside0 (Kd.R (Kd.int .u8) 5 wr w0.heap.size (fun _ => True) (.slice (some ⟨g, 0, none⟩) xs.length cap) (parity_add.row xs s kk)) ∧ Aside0 (Below w0.heap.size w0 wr))
  case atStart =>
    refine ⟨0, Nat.zero_le _, by omega, rfl, Aside0.mk (Kd.R_putn (Kd.R_putn HX.out 0 _) 1 _), Aside0.mk (below_set (below_set HB.out hgb) hgb)⟩
  case round =>
    obtain ⟨kk, hkk, hg, rfl, HR, HW⟩ := hrel
    by_cases hlt : kk < s.length
    · have hltz : (kk : Int) < (s.length : Int) := by omega
      have hC := Kd.C_below HS.out HW.out
      obtain ⟨ad, e, hit⟩ := parity_add.item A1 s wr hC kk hlt
      subst e
      have hL := parity_add.row_len xs s kk
      have hxk := (Kd.R_celln 0 HR.out (2 + (kk : Int)) (by omega) (by omega)).1
      have hfk := (Kd.R_celln 0 HR.out (2 + (kk : Int)) (by omega) (by omega)).2
      have i0 : 0 ≤ 2 + (kk : Int) := by omega
      have i1 : 2 + (kk : Int) < (xs.length : Int) := by omega
      have w1_ : IntKind.i64.wrap (2 + (kk : Int)) = 2 + (kk : Int) := by rw [i64_w, wrap64]; omega
      clear hC hL
      go_wp2
      refine start_ (n := 12) (S := fun w' => w'.cell? ⟨g, (2 + (kk : Int)).toNat, none⟩ = some (.int .u8 (rdOf 0 (parity_add.row xs s kk) (2 + (kk : Int)))) ∧ w'.cell? (ad.add kk) = some (.int .u8 (rd s (kk : Int)))) (ds := [11]) #[false, false, false, false, false, false, false, false, false, false, false, false] (by kernel_rfl) rfl rfl ⟨hxk, hit⟩ (fun hHeld => ?_)
      refine take_ (i := 0) (N := some 27) (v := ?_) (a' := ?_) #[true, false, false, false, false, false, false, false, false, false, false, false] rfl rfl (by kernel_rfl) (fun _ _ _ h => h) (Or.inl ⟨by rfl, ?_⟩) hHeld ?_ ?_; rotate_left
      · rintro w' ⟨s0, s1⟩; go_simp
        with_reducible rfl
      rotate_left
      · simp only [Act.put, setIfInBounds_toArray, set_cons_zero, set_cons_succ, i64_w, i32_w]; rfl
      refine take_ (i := 1) (N := some 28) (v := ?_) (a' := ?_) #[true, true, false, false, false, false, false, false, false, false, false, false] rfl rfl (by kernel_rfl) (fun _ _ _ h => h) (Or.inl ⟨by rfl, ?_⟩) hHeld ?_ ?_; rotate_left
      · rintro w' ⟨s0, s1⟩; go_simp
        with_reducible rfl
      rotate_left
      · simp only [Act.put, setIfInBounds_toArray, set_cons_zero, set_cons_succ, i64_w, i32_w]; rfl
      refine take_ (i := 2) (N := some 29) (v := ?_) (a' := ?_) #[true, true, true, false, false, false, false, false, false, false, false, false] rfl rfl (by kernel_rfl) (fun _ _ _ h => h) (Or.inl ⟨by rfl, ?_⟩) hHeld ?_ ?_; rotate_left
      · rintro w' ⟨s0, s1⟩; go_simp
        with_reducible rfl
      rotate_left
      · simp only [Act.put, setIfInBounds_toArray, set_cons_zero, set_cons_succ, i64_w, i32_w]; rfl
      refine take_ (i := 3) (N := some 30) (v := ?_) (a' := ?_) #[true, true, true, true, false, false, false, false, false, false, false, false] rfl rfl (by kernel_rfl) (fun _ _ _ h => h) (Or.inl ⟨by rfl, ?_⟩) hHeld ?_ ?_; rotate_left
      · rintro w' ⟨s0, s1⟩; go_simp
        with_reducible rfl
      rotate_left
      · simp only [Act.put, setIfInBounds_toArray, set_cons_zero, set_cons_succ, i64_w, i32_w]; rfl
      refine take_ (i := 4) (N := some 31) (v := ?_) (a' := ?_) #[true, true, true, true, true, false, false, false, false, false, false, false] rfl rfl (by kernel_rfl) (fun _ _ _ h => h) (Or.inl ⟨by rfl, ?_⟩) hHeld ?_ ?_; rotate_left
      · rintro w' ⟨s0, s1⟩; go_simp
        with_reducible rfl
      rotate_left
      · simp only [Act.put, setIfInBounds_toArray, set_cons_zero, set_cons_succ, i64_w, i32_w]; rfl
      refine take_ (i := 5) (N := some 32) (v := ?_) (a' := ?_) #[true, true, true, true, true, true, false, false, false, false, false, false] rfl rfl (by kernel_rfl) (fun _ _ _ h => h) (Or.inl ⟨by rfl, ?_⟩) hHeld ?_ ?_; rotate_left
      · rintro w' ⟨s0, s1⟩; go_simp
        with_reducible rfl
      rotate_left
      · simp only [Act.put, setIfInBounds_toArray, set_cons_zero, set_cons_succ, i64_w, i32_w]; rfl
      refine take_ (i := 6) (N := some 33) (v := ?_) (a' := ?_) #[true, true, true, true, true, true, true, false, false, false, false, false] rfl rfl (by kernel_rfl) (fun _ _ _ h => h) (Or.inl ⟨by rfl, ?_⟩) hHeld ?_ ?_; rotate_left
      · rintro w' ⟨s0, s1⟩; go_simp
        with_reducible rfl
      rotate_left
      · simp only [Act.put, setIfInBounds_toArray, set_cons_zero, set_cons_succ, i64_w, i32_w]; rfl
      refine take_ (i := 7) (N := some 34) (v := ?_) (a' := ?_) #[true, true, true, true, true, true, true, true, false, false, false, false] rfl rfl (by kernel_rfl) (fun _ _ _ h => h) (Or.inl ⟨by rfl, ?_⟩) hHeld ?_ ?_; rotate_left
      · rintro w' ⟨s0, s1⟩; go_simp
        with_reducible rfl
      rotate_left
      · simp only [Act.put, setIfInBounds_toArray, set_cons_zero, set_cons_succ, i64_w, i32_w]; rfl
      refine take_ (i := 8) (N := some 35) (v := ?_) (a' := ?_) #[true, true, true, true, true, true, true, true, true, false, false, false] rfl rfl (by kernel_rfl) (fun _ _ _ h => h) (Or.inl ⟨by rfl, ?_⟩) hHeld ?_ ?_; rotate_left
      · rintro w' ⟨s0, s1⟩; go_simp
        with_reducible rfl
      rotate_left
      · simp only [Act.put, setIfInBounds_toArray, set_cons_zero, set_cons_succ, i64_w, i32_w]; rfl
      refine take_ (i := 9) (N := some 36) (v := ?_) (a' := ?_) #[true, true, true, true, true, true, true, true, true, true, false, false] rfl rfl (by kernel_rfl) (fun _ _ _ h => h) (Or.inl ⟨by rfl, ?_⟩) hHeld ?_ ?_; rotate_left
      · rintro w' ⟨s0, s1⟩; go_simp
        with_reducible rfl
      rotate_left
      · simp only [Act.put, setIfInBounds_toArray, set_cons_zero, set_cons_succ, i64_w, i32_w]; rfl
      refine take_ (i := 10) (N := some 37) (v := ?_) (a' := ?_) #[true, true, true, true, true, true, true, true, true, true, true, false] rfl rfl (by kernel_rfl) (fun _ _ _ h => h) (Or.inl ⟨by rfl, ?_⟩) hHeld ?_ ?_; rotate_left
      · rintro w' ⟨s0, s1⟩; go_simp
        with_reducible rfl
      rotate_left
      · simp only [Act.put, setIfInBounds_toArray, set_cons_zero, set_cons_succ, i64_w, i32_w]; rfl
      have hfd : wr.drew.frozen? ⟨g, (2 + (kk : Int)).toNat, none⟩ = false := hfk
      have hxd : wr.drew.cell? ⟨g, (2 + (kk : Int)).toNat, none⟩ = _ := hxk
      refine last_ (i := 11) (N := none) #[true, true, true, true, true, true, true, true, true, true, true, true] rfl rfl (by kernel_rfl) (by decide) (fun K hK => ?_); refine skip_ (w1 := ?_) (by rfl) rfl ?_ ?_; rotate_left
      · go_simp; rfl
      refine hK.out _ _ ?_; clear hK K; refine done_ (by kernel_rfl) ?_
      go_wp2
      go_roundg (s.length - (kk + 1))
      case measure => omega
      case rel =>
        refine ⟨kk + 1, by omega, Nat.le_refl _, by go_num, Aside0.mk ?_, Aside0.mk (below_set (below_drew1 HW.out) hgb)⟩
        have h := Kd.R_putn (Kd.R_drew HR.out) (2 + (kk : Int)) (bits .xor .u8 (rdOf 0 (parity_add.row xs s kk) (2 + (kk : Int))) (rd s (kk : Int)))
        rw [show parity_add.row xs s (kk + 1) = (parity_add.row xs s kk).set (2 + (kk : Int)).toNat (bits .xor .u8 (rd (parity_add.row xs s kk) (2 + (kk : Int))) (rd s (kk : Int))) from by rw [parity_add.row, show (2 + (kk : Int)).toNat = 2 + kk by omega]]
        exact h
    · have hltz : ¬ (kk : Int) < (s.length : Int) := by omega
      have : kk = s.length := by omega
      subst this
      go_wp2
      go_end0
      exact ⟨rfl, HR.out, HW.out⟩

/-! ### parity_sum: function 23 -/
/-- The greatest length of the first k. -/
def parity_sum.wide (l : List (List Int)) : Nat → Nat
  | 0 => 0
  | k + 1 => max (parity_sum.wide l k) (l.getD k []).length
theorem parity_sum.item (A0 : Option Addr) (l0 : List (List Int)) (w : World) (hr0 : Kd.C (Kd.slice 5 (Kd.int .u8)) w A0 l0.length l0) (k : Nat) (hk : k < l0.length) :
    ∃ ad A c, A0 = some ad ∧ w.cell? (ad.add k) = some (.slice A (l0.getD k []).length c) ∧ (l0.getD k []).length ≤ c ∧ Kd.C (Kd.int .u8) w A (l0.getD k []).length (l0.getD k []) := by
  obtain ⟨ad, c, e, hl, hK, hc⟩ := ReadsRow.get_ hr0 [] (k : Int) (by omega) (by omega)
  obtain ⟨A1, c1, h0, hl1, hg1⟩ := hK
  refine ⟨ad, A1, c1, e, ?_, hl1, hg1⟩
  have := hc 0 (.slice A1 (l0.getD k []).length c1) (by rw [h0]; rfl)
  rw [Int.toNat_natCast, show (Kd.slice 5 (Kd.int .u8)).sz = 1 from rfl, Nat.mul_one, Nat.add_zero] at this
  exact this
theorem parity_sum.over1 (A0 : Option Addr) (c0 : Nat) (l0 : List (List Int)) (b : Nat) (w : World) (hbig : l0.length ≤ 9223372036854775807) (hr0 : Kd.C (Kd.slice 5 (Kd.int .u8)) w A0 l0.length l0) (hbox : w.cell? ⟨b, 0, none⟩ = some (.slice A0 l0.length c0)) :
    Calls Tryd.prog 36 #[.int .i64 l0.length, .int .i64 0, .func (.func 37) #[] #[.pointer (some ⟨b, 0, none⟩)]] w fun e w' => e = .returned (.int .i64 (parity_sum.wide l0 l0.length)) ∧ ∃ q, w' = w.drewN q := by
  have hit := Aside0.mk (parity_sum.item A0 l0 w hr0)
  clear hr0
  go_enter Tryd.func36, Tryd.ntmps36
  go_wp2
  go_loopg [1, 7, 9] l0.length (fun gg s1 _ s9 wr => ∃ kk q : Nat, kk ≤ l0.length ∧ l0.length - kk ≤ gg ∧ s1 = .int .i64 (parity_sum.wide l0 kk) ∧ s9 = .int .i64 kk ∧ wr = w.drewN q)
  case atStart => exact ⟨0, 0, Nat.zero_le _, by omega, rfl, rfl, rfl⟩
  case round =>
    obtain ⟨kk, q, hkk, hg, rfl, rfl, rfl⟩ := hrel
    by_cases hlt : kk < l0.length
    · have hltz : (kk : Int) < (l0.length : Int) := by omega
      obtain ⟨ad, A1, c1, e, hcell, _, _⟩ := hit.out kk hlt
      subst e
      have B : Aside0 (parity_sum.wide l0 (kk + 1) = max (parity_sum.wide l0 kk) (l0.getD kk []).length) := Aside0.mk rfl
      generalize l0.getD kk [] = y at hcell B
      generalize parity_sum.wide l0 kk = m at B ⊢
      clear hit
      by_cases c2 : (m : Int) < (y.length : Int)
      · have e1 : (if (m : Int) < (y.length : Int) then (y.length : Int) else (m : Int)) = (y.length : Int) := if_pos c2
        have e3 : max m y.length = y.length := by omega
        rw [e3] at B
        go_wp2
        go_roundg (l0.length - (kk + 1))
        case measure => omega
        case rel => exact ⟨kk + 1, q, by omega, by omega, by rw [B.out] <;> rfl, by go_num, rfl⟩
      · have e1 : (if (m : Int) < (y.length : Int) then (y.length : Int) else (m : Int)) = (m : Int) := if_neg c2
        have e3 : max m y.length = m := by omega
        rw [e3] at B
        go_wp2
        go_roundg (l0.length - (kk + 1))
        case measure => omega
        case rel => exact ⟨kk + 1, q, by omega, by omega, by rw [B.out] <;> rfl, by go_num, rfl⟩
    · have hltz : ¬ (kk : Int) < (l0.length : Int) := by omega
      have : kk = l0.length := by omega
      subst this
      go_wp2
      go_ret
      exact ⟨rfl, q, rfl⟩
/-- The row after the first k strings. -/
def parity_sum.acc (l : List (List Int)) (m : Nat) : Nat → List Int
  | 0 => List.replicate (m + 2) 0
  | k + 1 => parity_add.row (parity_sum.acc l m k) (l.getD k []) (l.getD k []).length
theorem parity_sum.acc_len (l : List (List Int)) (m k : Nat) : (parity_sum.acc l m k).length = m + 2 := by
  induction k with
  | zero => simp [parity_sum.acc]
  | succ k ih => rw [parity_sum.acc, parity_add.row_len, ih]
theorem parity_sum.step (w0 : World) (ad : Addr) (c0 : Nat) (l0 : List (List Int)) (b g cap m kk : Nat) (w : World) (hm : m < 900000000) (hk : kk < l0.length) (hr0 : Kd.C (Kd.slice 5 (Kd.int .u8)) w0 (some ad) l0.length l0) (hbox : w.cell? ⟨b, 0, none⟩ = some (.slice (some ad) l0.length c0)) (hb : Below w0.heap.size w0 w) (hx : Kd.R (Kd.int .u8) 5 w w0.heap.size (fun _ => True) (.slice (some ⟨g, 0, none⟩) (m + 2) cap) (parity_sum.acc l0 m kk)) (hl : (l0.getD kk []).length ≤ m) :
    Calls Tryd.prog 39 #[.slice (some ⟨g, 0, none⟩) (m + 2) cap, .int .i64 kk, .pointer (some ⟨b, 0, none⟩)] w fun e w' => e = .returned (.slice (some ⟨g, 0, none⟩) (m + 2) cap) ∧ Kd.R (Kd.int .u8) 5 w' w0.heap.size (fun _ => True) (.slice (some ⟨g, 0, none⟩) (m + 2) cap) (parity_sum.acc l0 m (kk + 1)) ∧ Below w0.heap.size w0 w' := by
  obtain ⟨ad', A1, c1, e, hcell0, hc1, hs⟩ := parity_sum.item (some ad) l0 w0 hr0 kk hk
  cases e
  have hcell := (hb.cell (World.block_lt_of_cell? w0 _ hcell0)).trans hcell0
  have hkz : (kk : Int) < (l0.length : Int) := by omega
  have hL := parity_sum.acc_len l0 m kk
  have hcon : ∀ W : World, Below w0.heap.size w0 W → Kd.R (Kd.int .u8) 5 W w0.heap.size (fun _ => True) (.slice (some ⟨g, 0, none⟩) (m + 2) cap) (parity_sum.acc l0 m kk) → Calls Tryd.prog 25 #[.slice (some ⟨g, 0, none⟩) (m + 2) cap, .slice A1 (l0.getD kk []).length c1] W fun e w' => e = .returned (.tuple #[]) ∧ Kd.R (Kd.int .u8) 5 w' w0.heap.size (fun _ => True) (.slice (some ⟨g, 0, none⟩) (m + 2) cap) (parity_sum.acc l0 m (kk + 1)) ∧ Below w0.heap.size w0 w' := by
    intro W h1 h2
    have := parity_add.calls w0 A1 c1 g cap (l0.getD kk []) (parity_sum.acc l0 m kk) W hs hc1 h1 (by rw [hL]; exact h2) (by rw [hL]; omega) (by rw [hL]; omega)
    rw [hL] at this
    exact this
  have HC := Aside0.mk hcon
  have HB := Aside0.mk hb
  have HX := Aside0.mk hx
  generalize parity_sum.acc l0 m (kk + 1) = r at HC ⊢
  generalize parity_sum.acc l0 m kk = r0 at HC HX
  generalize l0.getD kk [] = y at hcell HC
  clear hcon hb hx hs hL hcell0 hr0 hl hc1
  go_enter Tryd.func39, Tryd.ntmps39
  go_wp2_with (go_at_call 25; refine (HC.out _ HB.out HX.out).mono ?_; rintro e w' ⟨rfl, hx', hb'⟩)
  go_ret
  exact ⟨rfl, hx', hb'⟩
theorem parity_sum.over2 (w0 : World) (A0 : Option Addr) (c0 : Nat) (l0 : List (List Int)) (b g cap m : Nat) (w : World) (hbig : l0.length ≤ 9223372036854775807) (hm : m < 900000000) (hr0 : Kd.C (Kd.slice 5 (Kd.int .u8)) w0 A0 l0.length l0) (hbox : w0.cell? ⟨b, 0, none⟩ = some (.slice A0 l0.length c0)) (hb : Below w0.heap.size w0 w) (hx : Kd.R (Kd.int .u8) 5 w w0.heap.size (fun _ => True) (.slice (some ⟨g, 0, none⟩) (m + 2) cap) (parity_sum.acc l0 m 0)) (hl : ∀ k, k < l0.length → (l0.getD k []).length ≤ m) :
    Calls Tryd.prog 38 #[.int .i64 l0.length, .slice (some ⟨g, 0, none⟩) (m + 2) cap, .func (.func 39) #[] #[.pointer (some ⟨b, 0, none⟩)]] w fun e w' => e = .returned (.slice (some ⟨g, 0, none⟩) (m + 2) cap) ∧ Kd.R (Kd.int .u8) 5 w' w0.heap.size (fun _ => True) (.slice (some ⟨g, 0, none⟩) (m + 2) cap) (parity_sum.acc l0 m l0.length) ∧ Below w0.heap.size w0 w' := by
  have HR := Aside0.mk hr0
  have HL := Aside0.mk hl
  have HBX := Aside0.mk hbox
  have HB := Aside0.mk hb
  have HX := Aside0.mk hx
  clear hr0 hl hbox hb hx
  go_enter Tryd.func38, Tryd.ntmps38
  go_wp2
  go_loopg [1, 7, 9] l0.length (fun gg s1 _ s9 wr => ∃ kk : Nat, kk ≤ l0.length ∧ l0.length - kk ≤ gg ∧ s1 = .slice (some ⟨g, 0, none⟩) (m + 2) cap ∧ s9 = .int .i64 kk ∧ Aside0 (Kd.R (Kd.int .u8) 5 wr w0.heap.size (fun _ => True) (.slice (some ⟨g, 0, none⟩) (m + 2) cap) (parity_sum.acc l0 m kk)) ∧ Aside0 (Below w0.heap.size w0 wr))
  case atStart => exact ⟨0, Nat.zero_le _, by omega, rfl, rfl, HX, HB⟩
  case round =>
    clear HX HB
    obtain ⟨kk, hkk, hg, rfl, rfl, HX, HB⟩ := hrel
    by_cases hlt : kk < l0.length
    · have hltz : (kk : Int) < (l0.length : Int) := by omega
      obtain ⟨ad, _, _, e, _⟩ := parity_sum.item A0 l0 w0 HR.out kk hlt
      subst e
      have HC := Aside0.mk (fun (W : World) (h1 : Below w0.heap.size w0 W) h2 => parity_sum.step w0 ad c0 l0 b g cap m kk W hm hlt HR.out ((h1.cell (World.block_lt_of_cell? w0 _ HBX.out)).trans HBX.out) h1 h2 (HL.out kk hlt))
      go_wp2_with (go_at_call 39; refine (HC.out _ HB.out HX.out).mono ?_; rintro e w' ⟨rfl, hx', hb'⟩)
      go_roundg (l0.length - (kk + 1))
      case measure => omega
      case rel => exact ⟨kk + 1, by omega, Nat.le_refl _, rfl, by go_num, Aside0.mk hx', Aside0.mk hb'⟩
    · have hltz : ¬ (kk : Int) < (l0.length : Int) := by omega
      have : kk = l0.length := by omega
      subst this
      go_wp2
      go_ret
      exact ⟨rfl, HX.out, HB.out⟩
theorem parity_sum.wide_le (l : List (List Int)) : ∀ n k : Nat, k < n → (l.getD k []).length ≤ parity_sum.wide l n
  | 0, _, h => absurd h (Nat.not_lt_zero _)
  | n + 1, k, h => by
    rw [parity_sum.wide]
    rcases Nat.lt_succ_iff_lt_or_eq.mp h with h | h
    · have := parity_sum.wide_le l n k h; omega
    · subst h; omega
/-- A group's parity. -/
def parity_sum.f (l0 : List (List Int)) : Option (List Int) := if l0.length ≤ 1000000 ∧ parity_sum.wide l0 l0.length < 900000000 then some (parity_sum.acc l0 (parity_sum.wide l0 l0.length) l0.length) else none
theorem parity_sum.calls (A0 : Option Addr) (c0 : Nat) (l0 : List (List Int)) (r : List Int) (w : World) (hr0 : Kd.C (Kd.slice 5 (Kd.int .u8)) w A0 l0.length l0) (hc0 : l0.length ≤ c0) (h : parity_sum.f l0 = some r) :
    Calls Tryd.prog 23 #[.slice A0 l0.length c0] w fun e w' => ∃ v0_ : Value, e = .returned v0_ ∧ Kd.R (Kd.int .u8) 5 w' w.heap.size (fun _ => True) v0_ r ∧ Below w.heap.size w w' := by
  unfold parity_sum.f at h
  by_cases hc : l0.length ≤ 1000000 ∧ parity_sum.wide l0 l0.length < 900000000
  case neg => rw [if_neg hc] at h; exact absurd h (by simp)
  rw [if_pos hc] at h
  obtain rfl := Option.some.inj h
  clear h
  obtain ⟨hn, hm⟩ := hc
  have H1 : Aside0 (∀ (b : Nat) (W : World), Kd.C (Kd.slice 5 (Kd.int .u8)) W A0 l0.length l0 → W.cell? ⟨b, 0, none⟩ = some (.slice A0 l0.length c0) → Calls Tryd.prog 36 #[.int .i64 l0.length, .int .i64 0, .func (.func 37) #[] #[.pointer (some ⟨b, 0, none⟩)]] W fun e w' => e = .returned (.int .i64 (parity_sum.wide l0 l0.length)) ∧ ∃ q, w' = W.drewN q) := ⟨fun b W h1 h2 => parity_sum.over1 A0 c0 l0 b W (by omega) h1 h2⟩
  have H2 : Aside0 (∀ (W0 W : World) (b g cap : Nat), Kd.C (Kd.slice 5 (Kd.int .u8)) W0 A0 l0.length l0 → W0.cell? ⟨b, 0, none⟩ = some (.slice A0 l0.length c0) → Below W0.heap.size W0 W → Kd.R (Kd.int .u8) 5 W W0.heap.size (fun _ => True) (.slice (some ⟨g, 0, none⟩) (parity_sum.wide l0 l0.length + 2) cap) (List.replicate (parity_sum.wide l0 l0.length + 2) 0) → Calls Tryd.prog 38 #[.int .i64 l0.length, .slice (some ⟨g, 0, none⟩) (parity_sum.wide l0 l0.length + 2) cap, .func (.func 39) #[] #[.pointer (some ⟨b, 0, none⟩)]] W fun e w' => e = .returned (.slice (some ⟨g, 0, none⟩) (parity_sum.wide l0 l0.length + 2) cap) ∧ Kd.R (Kd.int .u8) 5 w' W0.heap.size (fun _ => True) (.slice (some ⟨g, 0, none⟩) (parity_sum.wide l0 l0.length + 2) cap) (parity_sum.acc l0 (parity_sum.wide l0 l0.length) l0.length) ∧ Below W0.heap.size W0 w') := ⟨fun W0 W b g cap h1 h2 h3 h4 => parity_sum.over2 W0 A0 c0 l0 b g cap _ W (by omega) hm h1 h2 h3 h4 (parity_sum.wide_le l0 l0.length)⟩
  generalize parity_sum.acc l0 (parity_sum.wide l0 l0.length) l0.length = r at H2 ⊢
  generalize parity_sum.wide l0 l0.length = m at H1 H2 hm
  have HR := Aside0.mk hr0
  have HB := Aside0.mk (Below.refl w.heap.size w)
  clear hr0
  go_enter Tryd.func23, Tryd.ntmps23
  go_wp2_with (first | ((with_reducible refine gate_dst (N := 1) rfl ?_); refine box_event ?hg (N := 1) ?hd (cs := #[.slice A0 l0.length c0]) (t := 22) ?hr ?_; (case hd => rfl); (case hg => rfl); (case hr => first | (go_simp; done) | (go_simp; rfl)); intro gb hg w1 hbox hb; have HB1 := Aside0.mk (below_step HB.out hb); have BK := Aside0.mk hbox; have HC1 := Aside0.mk (Kd.C_below HR.out HB1.out); have hcz : w1.cell? ⟨gb, 0, none⟩ = some (.slice A0 l0.length c0) := (blk_cell BK.out 0).trans rfl; clear hbox hb hg) | (go_at_call 36; refine (H1.out gb w1 HC1.out hcz).mono ?_; rintro e w' ⟨rfl, q, rfl⟩))
  have HCW := Aside0.mk (Kd.C_drewN HC1.out q)
  have HBW := Aside0.mk (pw_below_drewN HB1.out q)
  have hczW : (w1.drewN q).cell? ⟨gb, 0, none⟩ = some (.slice A0 l0.length c0) := hcz
  clear HB1 BK HC1 hcz
  generalize w1.drewN q = w2 at HCW HBW hczW ⊢
  refine start_ (n := 8) (S := fun w' => w'.cell? ⟨gb, 0, none⟩ = some (.slice A0 l0.length c0)) (ds := [6, 7]) #[false, false, false, false, false, false, false, false] (by kernel_rfl) rfl rfl hczW (fun hHeld => ?_)
  have HCX := Aside0.mk (Kd.C_drew HCW.out)
  have HBX := Aside0.mk (below_drew1 HBW.out)
  clear HCW HBW hczW
  generalize w2.drew = w3 at HCX HBX hHeld ⊢
  have hwr : wrap64 (2 + (m : Int)) = 2 + (m : Int) := by rw [wrap64]; omega
  have hwi : IntKind.i64.wrap (2 + (m : Int)) = 2 + (m : Int) := by rw [i64_w, hwr]
  refine take_ (i := 0) (N := some 8) (v := ?_) (a' := ?_) #[true, false, false, false, false, false, false, false] rfl rfl (by kernel_rfl) (fun _ _ _ h => h) (Or.inl ⟨by rfl, ?_⟩) hHeld ?_ ?_; rotate_left
  · intro w' s0; go_simp
    with_reducible rfl
  rotate_left
  · simp only [Act.put, setIfInBounds_toArray, set_cons_zero, set_cons_succ, i64_w, i32_w]; rfl
  refine take_ (i := 1) (N := some 9) (v := ?_) (a' := ?_) #[true, true, false, false, false, false, false, false] rfl rfl (by kernel_rfl) (fun _ _ _ h => h) (Or.inl ⟨by rfl, ?_⟩) hHeld ?_ ?_; rotate_left
  · intro w' s0; go_simp
    with_reducible rfl
  rotate_left
  · simp only [Act.put, setIfInBounds_toArray, set_cons_zero, set_cons_succ, i64_w, i32_w]; rfl
  refine take_ (i := 2) (N := some 10) (v := ?_) (a' := ?_) #[true, true, true, false, false, false, false, false] rfl rfl (by kernel_rfl) (fun _ _ _ h => h) (Or.inl ⟨by rfl, ?_⟩) hHeld ?_ ?_; rotate_left
  · intro w' s0; go_simp
    with_reducible rfl
  rotate_left
  · simp only [Act.put, setIfInBounds_toArray, set_cons_zero, set_cons_succ, i64_w, i32_w]; rfl
  refine take_ (i := 3) (N := some 11) (v := ?_) (a' := ?_) #[true, true, true, true, false, false, false, false] rfl rfl (by kernel_rfl) (fun _ _ _ h => h) (Or.inl ⟨by rfl, ?_⟩) hHeld ?_ ?_; rotate_left
  · intro w' s0; go_simp
    with_reducible rfl
  rotate_left
  · simp only [Act.put, setIfInBounds_toArray, set_cons_zero, set_cons_succ, i64_w, i32_w]; rfl
  refine take_ (i := 5) (N := some 13) (v := ?_) (a' := ?_) #[true, true, true, true, false, true, false, false] rfl rfl (by kernel_rfl) (fun _ _ _ h => h) (Or.inl ⟨by rfl, ?_⟩) hHeld ?_ ?_; rotate_left
  · intro w' s0; go_simp
    with_reducible rfl
  rotate_left
  · simp only [Act.put, setIfInBounds_toArray, set_cons_zero, set_cons_succ, i64_w, i32_w]; rfl
  refine one_ (i := 4) (N := some 12) #[true, true, true, true, true, true, false, false] rfl rfl (by kernel_rfl) (by decide) (fun K hK => ?_)
  refine Kd.R_make_step (Kd.int .u8) (w0 := w3) w3.heap.size 5 (by rfl) (N := 12) rfl 23 _ _ rfl (2 + (m : Int)) rfl rfl Tryd.underlying23 (.int .u8 0) 1 (by kernel_rfl) rfl (by decide) (by omega) 0 (ok := fun _ => True) (okp := fun _ => True) rfl (fun _ hk => hk) trivial (by omega) (by omega) (Below.refl _ _) (Nat.le_refl _) ?_
  intro v12 w4 ho hb hg_ hnew_
  clear hg_ hnew_
  rw [show (2 + (m : Int)).toNat = m + 2 by omega] at ho
  obtain ⟨g, cap, e, _⟩ := Kd.R_form ho (by simp)
  rw [List.length_replicate] at e
  subst e
  have HO := Aside0.mk ho
  have HB4 := Aside0.mk hb
  clear ho hb
  have hcz4 : w4.cell? ⟨gb, 0, none⟩ = some (.slice A0 l0.length c0) := (HB4.out.cell (World.block_lt_of_cell? w3 _ hHeld)).trans hHeld
  refine hK.out _ _ hcz4 (fun hHeld4 => ?_); clear hK K
  refine norm_ (a' := ?_) ?_ ?_; rotate_left
  · show Act.put _ (some 12) _ = _
    simp only [Act.put, setIfInBounds_toArray, set_cons_zero, set_cons_succ, i64_w, i32_w]; rfl
  refine last_ (i := 6) (N := some 14) #[true, true, true, true, true, true, true, false] rfl rfl (by kernel_rfl) (by decide) (fun K hK => ?_)
  refine goes_ Tryd.func38 (by kernel_rfl) rfl #[.int .i64 l0.length, .slice (some ⟨g, 0, none⟩) (m + 2) cap, .func (.func 39) #[] #[.pointer (some ⟨gb, 0, none⟩)]] (by rfl) rfl rfl (by (try simp only [List.map_toArray, List.map_cons, List.map_nil]); first | done | rfl) ?_
  refine (H2.out w3 w4 gb g cap HCX.out hHeld HB4.out HO.out).mono ?_
  rintro e w5 ⟨rfl, hr, hb5⟩
  refine ⟨_, rfl, ?_⟩
  refine hK.out _ _ ?_; clear hK K
  refine norm_ (a' := ?_) ?_ ?_; rotate_left
  · show Act.put _ (some 14) _ = _
    simp only [Act.put, setIfInBounds_toArray, set_cons_zero, set_cons_succ, i64_w, i32_w]; rfl
  refine pure_ (i := 7) (N := some 2) (v := ?_) (a' := ?_) #[true, true, true, true, true, true, true, true] rfl rfl (by kernel_rfl) (fun _ _ _ h => h) (Or.inl ⟨by rfl, ?_⟩) ?_ ?_; rotate_left
  · intro w'; go_simp
    with_reducible rfl
  rotate_left
  · simp only [Act.put, setIfInBounds_toArray, set_cons_zero, set_cons_succ, i64_w, i32_w]; rfl
  refine done_ (by kernel_rfl) ?_
  go_wp2
  go_ret
  exact ⟨_, rfl, Kd.R_lower hr (below_size HBX.out), below_step HBX.out hb5⟩

-- NOT PRINTED: function 47 (slices_Chunk_byte_byte)

/-! ### parity_groups: function 29 -/
section GroupsS
open Go.Shelf
attribute [local go_sem] Oper.semAt_some
abbrev parity_groups.hE (x : Option Addr × Nat × Nat) : Value := .slice x.1 x.2.1 x.2.2
/-- The head of the chunk that begins at i. -/
def parity_groups.hdr (A0 : Option Addr) (len g i : Nat) : Option Addr × Nat × Nat := (A0.map (·.add (i * 1)), min g (len - i), min g (len - i))
def parity_groups.upto (A0 : Option Addr) (len g k : Nat) : List (Option Addr × Nat × Nat) := (List.range k).map fun j => parity_groups.hdr A0 len g (j * g)
theorem parity_groups.upto_succ (A0 : Option Addr) (len g k : Nat) : parity_groups.upto A0 len g (k + 1) = parity_groups.upto A0 len g k ++ [parity_groups.hdr A0 len g (k * g)] := by simp [parity_groups.upto, List.range_succ]
theorem parity_groups.upto_length (A0 : Option Addr) (len g k : Nat) : (parity_groups.upto A0 len g k).length = k := by simp [parity_groups.upto]
/-- What a round keeps: the blocks below n₀ but one. -/
def parity_groups.Kp (n₀ O : Nat) (W W' : World) : Prop := ∀ k, k < n₀ → k ≠ O → W'.heap[k]? = W.heap[k]?
theorem parity_groups.Kp_t {n₀ O : Nat} {A B C : World} (h : parity_groups.Kp n₀ O A B) (k : parity_groups.Kp n₀ O B C) : parity_groups.Kp n₀ O A C := fun j h1 h2 => (k j h1 h2).trans (h j h1 h2)
theorem parity_groups.Kp_b {n₀ O : Nat} {w : World} (hn : n₀ ≤ w.heap.size) (W : World) (l : Nat) (o o' : Obj) (hl : w.heap.size ≤ l) (h : W.heap[l]? = some o) (_ : o.isCells = false) (_ : o.isWalk = false) : parity_groups.Kp n₀ O W (W.putObj l o') := fun k h1 _ => World.putObj_heap_other (by omega)
theorem parity_groups.cut3 {P : Program} (t e : TypeId) {i : TypeInfo} (ht : P.underlying t = some (.slice e)) (hi : P.info? e = some i) (hsz : i.size = 1) (A : Option Addr) (n c j m : Nat) (h0 : 0 < m) (h1 : j + m ≤ c) :
    ∀ W : World, (Instr.slice t (.slice A n c) (some (.int .i64 (j : Int))) (some (.int .i64 ((j : Int) + (m : Int)))) (some (.int .i64 ((j : Int) + (m : Int))))).run P W = .ok (.slice (A.map (·.add (j * 1))) m m) W := by
  intro W
  have hel : P.elem t = e := by simp [Program.elem, ht]
  have hu : P.underlying t = some (.slice (P.elem t)) := by rw [hel]; exact ht
  have e1 : ((j : Int) + (m : Int)).toNat = j + m := by omega
  have e2 : j + m - j = m := by omega
  have e3 : ¬ j + m = j := by omega
  rw [run_slice_lhm W t A n c hu .i64 .i64 .i64 _ _ _ (by omega) (by omega) (by omega) (by omega), hel]
  simp [sizeOf, typeInfo, hi, hsz, sliced, Result.andThen, e1, e2, e3]
  omega
set_option maxRecDepth 100000 in
set_option maxHeartbeats 2000000 in
/-- slices.Chunk's closure, at whatever loop body keeps its two variables. -/
theorem parity_groups.chunk1 (F : Fence) (n : Nat) (h54 : F.fn 54) (hro : F.round = none) (hn : 1 ≤ n) (l Bs Bn O n₀ : Nat) (A0 : Option Addr) (len cap g : Nat) (hg1 : 1 ≤ g) (hg2 : g ≤ 1000) (hlen : len ≤ 1000000) (hlc : len ≤ cap) (hb1 : Bs < n₀) (hb2 : Bs ≠ O) (hb3 : Bn < n₀) (hb4 : Bn ≠ O) (K : Nat) (hK : ∀ k, k * g < len ↔ k < K) (J Jx : List (Option Addr × Nat × Nat) → World → Prop)
    (hJd : ∀ s W q, J s W → J s (W.drewN q))
    (hY : ∀ pre x W, J pre W → pre.length < K → YieldAt F (n - 1) Tryd.prog l #[parity_groups.hE x] W fun e W' =>
      (e = .returned (.bool true) ∧ J (pre ++ [x]) W' ∧ parity_groups.Kp n₀ O W W') ∨ (e = .returned (.bool false) ∧ Jx (pre ++ [x]) W'))
    (W : World) (hBs : W.heap[Bs]? = some (.cells #[.slice A0 len cap] 22 (0, 0))) (hBn : W.heap[Bn]? = some (.cells #[.int .i64 g] 3 (0, 0))) (h0 : J [] W) :
    CallsIn F n Tryd.prog 54 #[.func (.yield l) #[] #[], .pointer (some ⟨Bs, 0, none⟩), .pointer (some ⟨Bn, 0, none⟩)] W fun e W' => (∃ v, e = .returned v) ∧
      ((∃ ys, ys = parity_groups.upto A0 len g K ∧ J ys W') ∨ (∃ pre, True ∧ Jx pre W')) := by
  obtain ⟨i0, hi0, _, hsz, _⟩ := info_parts (show (Tryd.prog.info? 23).map (fun i => (i.zero, i.size, i.bytes)) = some (some (.slice none 0 0), 1, 24) from by kernel_rfl)
  have HY := Aside0.mk hY
  have HK := Aside0.mk hK
  have HJ := Aside0.mk hJd
  clear hY hK hJd
  refine callsIn_of_wp Tryd.func54 rfl h54 ?_ hro
  simp only [Tryd.ntmps54, List.size_toArray, List.length_cons, List.length_nil, Nat.reduceAdd, Nat.reduceSub, Array.replicate_succ, Array.replicate_zero, List.push_toArray, List.append_toArray, List.nil_append, List.cons_append]
  gi_wp2
  gi_loopw [4, 5] (fun i _ wr => ∃ k : Nat, k ≤ K ∧ i = .int .i64 ((k * g : Nat) : Int) ∧ Aside0 (J (parity_groups.upto A0 len g k) wr) ∧ wr.heap[Bs]? = some (.cells #[.slice A0 len cap] 22 (0, 0)) ∧ wr.heap[Bn]? = some (.cells #[.int .i64 g] 3 (0, 0)))
    (fun i _ _ => len + g - (intOf i).toNat)
  case atStart => exact ⟨0, Nat.zero_le _, by simp, Aside0.mk h0, hBs, hBn⟩
  case round =>
    obtain ⟨k, hk, rfl, hJs, hS, hN⟩ := hrel
    have hcs : wr.cell? ⟨Bs, 0, none⟩ = some (.slice A0 len cap) := (blk_cell hS 0).trans rfl
    have hcn : wr.cell? ⟨Bn, 0, none⟩ = some (.int .i64 g) := (blk_cell hN 0).trans rfl
    clear hBs hBn h0
    by_cases hlt : k * g < len
    · obtain ⟨i, hi⟩ : ∃ i, i = k * g := ⟨_, rfl⟩
      obtain ⟨e, he⟩ : ∃ e, e = min g (len - i) := ⟨_, rfl⟩
      obtain ⟨A1, hA1⟩ : ∃ A1 : Option Addr, A1 = A0.map (·.add (i * 1)) := ⟨_, rfl⟩
      have hk1 : k < K := (HK.out k).mp hlt
      rw [← hi] at hlt ⊢
      have he1 : 0 < e := by omega
      have hie : i + e ≤ len := by omega
      have hcut := cut_from (P := Tryd.prog) 22 23 .i64 Tryd.underlying22 hi0 1 hsz A0 len cap (i : Int) (by omega) (by omega)
      rw [Int.toNat_natCast, if_neg (by omega)] at hcut
      have hcut2 := parity_groups.cut3 (P := Tryd.prog) 22 23 Tryd.underlying22 hi0 hsz A0 len cap i e he1 (by omega)
      have HU : Aside0 (parity_groups.upto A0 len g (k + 1) = parity_groups.upto A0 len g k ++ [(A1, e, e)]) := ⟨by rw [parity_groups.upto_succ, ← hi, hA1, he]; rfl⟩
      have HI : Aside0 ((k + 1) * g = i + g) := ⟨by rw [Nat.succ_mul, hi]⟩
      have HE := Aside0.mk he
      rw [← hA1] at hcut hcut2
      have hlz : (i : Int) < (len : Int) := by omega
      have hmin : (if len - i < g then ((len - i : Nat) : Int) else (g : Int)) = (e : Int) := by split <;> omega
      clear hi he hA1 hi0 hsz
      gi_wp2
      have HM := Aside0.mk hmin
      clear hmin
      gi_region
      all_goals
        rw [HM.out]
        have hcs' : wr.drew.cell? ⟨Bs, 0, none⟩ = some (.slice A0 len cap) := hcs
        have hcn' : wr.drew.cell? ⟨Bn, 0, none⟩ = some (.int .i64 g) := hcn
        obtain ⟨fn, tmps, assign, body, hy, hR⟩ := HY.out (parity_groups.upto A0 len g k) (A1, e, e) wr.drew (HJ.out _ wr 1 hJs.out) (by rw [parity_groups.upto_length]; exact hk1)
        dsimp only [parity_groups.hE] at hy
        have hie2 : (i : Int) + (e : Int) ≤ 9223372036854775807 := by omega
        gi_wp2
        refine hR.mono ?_
        rintro e' W3 (⟨rfl, hJ3, hk3⟩ | ⟨rfl, hJx3⟩)
        · have hS3 : W3.heap[Bs]? = some (.cells #[.slice A0 len cap] 22 (0, 0)) := (hk3 Bs hb1 hb2).trans hS
          have hN3 : W3.heap[Bn]? = some (.cells #[.int .i64 g] 3 (0, 0)) := (hk3 Bn hb3 hb4).trans hN
          have hcs3 : W3.cell? ⟨Bs, 0, none⟩ = some (.slice A0 len cap) := (blk_cell hS3 0).trans rfl
          have hcn3 : W3.cell? ⟨Bn, 0, none⟩ = some (.int .i64 g) := (blk_cell hN3 0).trans rfl
          have hig : (i : Int) + (g : Int) ≤ 9223372036854775807 := by omega
          have HJ3 := Aside0.mk hJ3
          clear hJ3 hk3
          gi_wp2
          go_roundw
          case rel => exact ⟨k + 1, by omega, by rw [HI.out]; go_num, by rw [HU.out]; exact HJ3, hS3, hN3⟩
          case measure => simp [intOf]; omega
        · gi_wp2
          refine bodyPost_ret (results_none rfl _ _ _) rfl ?_
          exact ⟨⟨_, rfl⟩, by first | exact .inr ⟨_, trivial, hJx3⟩ | exact .inr ⟨_, hJx3⟩⟩
    · have : k = K := by
        have hnk : ¬ k < K := fun h => hlt ((HK.out k).mpr h)
        omega
      subst this
      have hltz : ¬ ((k * g : Nat) : Int) < (len : Int) := by omega
      gi_wp2
      go_end0
      exact ⟨⟨_, rfl⟩, by first | exact .inl ⟨_, rfl, hJs.out⟩ | exact .inl hJs.out⟩
/-- What a round leaves, the row told from n₀ on. -/
theorem parity_groups.appended {W w1 : World} {n₀ B m0 : Nat} {t e : TypeId} {v v' : Value} {k m : Nat} {xs ys : List Value} {tmp : Obj} (hv : Boxed W B t v) (hte : t ≠ e) (hrow : W.ownsRow n₀ e 1 v k xs) (hown' : w1.ownsRow n₀ e 1 v' m ys) (hgrow : (W.alloc tmp).grownBy w1 v.ownBlock) (hs : n₀ ≤ W.heap.size) (hB : m0 ≤ B) (hm : m0 ≤ n₀) :
    Boxed w1 B t v ∧ Boxed (w1.setCell ⟨B, 0, none⟩ v') B t v' ∧ (w1.setCell ⟨B, 0, none⟩ v').ownsRow n₀ e 1 v' m ys ∧ KeepsOthers W (w1.setCell ⟨B, 0, none⟩ v') ∧ Below m0 W (w1.setCell ⟨B, 0, none⟩ v') ∧ parity_groups.Kp n₀ B W (w1.setCell ⟨B, 0, none⟩ v') := by
  obtain ⟨a, b, _, d, hb⟩ := Boxed.appended (n₀ := 0) hv hte (own_weaken hrow (Nat.zero_le _)) (Nat.zero_le _) (Nat.zero_le _) (own_weaken hown' (Nat.zero_le _)) hgrow
  have hk : parity_groups.Kp n₀ B W (w1.setCell ⟨B, 0, none⟩ v') := fun k h1 h2 => by
    have h3 : (W.alloc tmp).heap[k]? = W.heap[k]? := by
      show (W.heap.push tmp)[k]? = _
      rw [Array.getElem?_push, if_neg (by omega)]
    rw [Below.heap_setCell _ _ _ k h2, hgrow.block k (by rw [World.size_alloc]; omega) (fun e => by have := own_base hrow k e.symm; omega), h3]
  exact ⟨a, b, hown'.kept (grownBy_setCell' w1 B v') (.inr (a.not_row hte hown').symm), d, ⟨hb.os, hb.tape, hb.output, hb.size, fun k h => hk k (by omega) (by omega)⟩, hk⟩
set_option maxRecDepth 100000 in
set_option maxHeartbeats 1000000 in
theorem parity_groups.chunk0 (F : Fence) (n : Nat) (h47 : F.fn 47) (hro : F.round = none) (A0 : Option Addr) (len cap g : Nat) (hg1 : 1 ≤ g) (w : World) :
    CallsIn F n Tryd.prog 47 #[.slice A0 len cap, .int .i64 g] w fun e w' => e = .returned (.func (.func 54) #[] #[.pointer (some ⟨w.heap.size, 0, none⟩), .pointer (some ⟨w.heap.size + 1, 0, none⟩)]) ∧ w' = (w.alloc (.cells #[.slice A0 len cap] 22)).alloc (.cells #[.int .i64 g] 3) := by
  have hgz : ¬ (g : Int) < 1 := by omega
  refine callsIn_of_wp Tryd.func47 rfl h47 ?_ hro
  simp only [Tryd.ntmps47, List.size_toArray, List.length_cons, List.length_nil, Nat.reduceAdd, Nat.reduceSub, Array.replicate_succ, Array.replicate_zero, List.push_toArray, List.append_toArray, List.nil_append, List.cons_append]
  gi_wp2
  go_ret
  exact ⟨rfl, rfl⟩
/-- The closure as a sequence that stops. -/
theorem parity_groups.stops (F : Fence) (n : Nat) (h54 : F.fn 54) (hro : F.round = none) (hn : 1 ≤ n) (Bs Bn O n₀ : Nat) (A0 : Option Addr) (len cap g : Nat) (hg1 : 1 ≤ g) (hg2 : g ≤ 1000) (hlen : len ≤ 1000000) (hlc : len ≤ cap) (hb1 : Bs < n₀) (hb2 : Bs ≠ O) (hb3 : Bn < n₀) (hb4 : Bn ≠ O) (K : Nat) (hK : ∀ k, k * g < len ↔ k < K) (w : World) (hw : n₀ ≤ w.heap.size)
    (hBs : w.heap[Bs]? = some (.cells #[.slice A0 len cap] 22 (0, 0))) (hBn : w.heap[Bn]? = some (.cells #[.int .i64 g] 3 (0, 0))) :
    SeqStopsK F n Tryd.prog 54 #[.pointer (some ⟨Bs, 0, none⟩), .pointer (some ⟨Bn, 0, none⟩)] (fun x : Option Addr × Nat × Nat => #[parity_groups.hE x]) (parity_groups.Kp n₀ O) (fun ys => ys = parity_groups.upto A0 len g K) (fun _ => True) K w := fun l J Jx W hW hJ _ hY h0 =>
  parity_groups.chunk1 F n h54 hro hn l Bs Bn O n₀ A0 len cap g hg1 hg2 hlen hlc hb1 hb2 hb3 hb4 K hK J Jx (fun s X q hs => hJ s X _ none hs ⟨rfl, rfl, rfl, Nat.le_refl _, fun _ _ _ => rfl⟩ (fun r e => by cases e)) hY W ((hW.block Bs (by omega)).trans hBs) ((hW.block Bn (by omega)).trans hBn) h0
set_option maxRecDepth 100000 in
set_option maxHeartbeats 2000000 in
theorem parity_groups.grp (F : Fence) (n : Nat) (h29 : F.fn 29) (h47 : F.fn 47) (h54 : F.fn 54) (hro : F.round = none) (hn : 3 ≤ n) (A0 : Option Addr) (len cap g : Nat) (hg1 : 1 ≤ g) (hg2 : g ≤ 1000) (hlen : len ≤ 1000000) (hlc : len ≤ cap) (K : Nat) (hK : ∀ k, k * g < len ↔ k < K) (hKl : K ≤ 1000000) (w : World) :
    CallsIn F n Tryd.prog 29 #[.slice A0 len cap, .int .i64 g] w fun e W' => ∃ v, e = .returned v ∧ W'.ownsRow w.heap.size 22 1 v K ((parity_groups.upto A0 len g K).map parity_groups.hE) ∧ Below w.heap.size w W' := by
  have h1 : 1 ≤ n := by omega
  obtain ⟨i0, hi, hz0, hz1, hz2⟩ := info_parts (show (Tryd.prog.info? 22).map (fun i => (i.zero, i.size, i.bytes)) = some (some (.slice none 0 0), 1, 24) from by kernel_rfl)
  have HK := Aside0.mk hK
  clear hK
  refine callsIn_of_wp_marks Tryd.func29 rfl h29 ?_ hro
  simp only [Tryd.ntmps29, List.size_toArray, List.length_cons, List.length_nil, Nat.reduceAdd, Nat.reduceSub, Array.replicate_succ, Array.replicate_zero, List.push_toArray, List.append_toArray, List.nil_append, List.cons_append]
  gi_wp2_with (gi_at_call 47; refine (parity_groups.chunk0 F (n - 1) h47 hro _ _ _ _ hg1 _).mono ?_; rintro e w' ⟨rfl, rfl⟩)
  have bO := Boxed.new w 57 (.slice none 0 0)
  have bS := Boxed.new (w.alloc (.cells #[.slice none 0 0] 57)) 22 (.slice A0 len cap)
  have bN := Boxed.new ((w.alloc (.cells #[.slice none 0 0] 57)).alloc (.cells #[.slice A0 len cap] 22)) 3 (.int .i64 g)
  simp only [World.size_alloc] at bS bN
  have hB0 : Below w.heap.size w (((w.alloc (.cells #[.slice none 0 0] 57)).alloc (.cells #[.slice A0 len cap] 22)).alloc (.cells #[.int .i64 g] 3)) := (((Below.refl _ w).alloc (Nat.le_refl _) _).alloc (by simp) _).alloc (by simp; omega) _
  refine wpIn_rangeFunc_ownG hro h1 (gf := 54) (lb := #[.pointer (some ⟨w.heap.size + 1, 0, none⟩), .pointer (some ⟨w.heap.size + 1 + 1, 0, none⟩)]) (by first | rfl | simp) h54 (enters_of Tryd.func54 (by kernel_rfl) rfl)
    (parity_groups.stops F (n - 1) h54 hro (by omega) (w.heap.size + 1) (w.heap.size + 1 + 1) w.heap.size (w.heap.size + 3) A0 len cap g hg1 hg2 hlen hlc (by omega) (by omega) (by omega) (by omega) K HK.out _ (by simp) (bS.alloc _) bN) parity_groups.Kp_t (parity_groups.Kp_b (by simp)) (Below.refl _ _) (fun _ => rfl)
    (fun pre W => (∃ v, Boxed W w.heap.size 57 v ∧ W.ownsRow (w.heap.size + 3) 22 1 v pre.length (pre.map parity_groups.hE) ∧ True) ∧ Below w.heap.size w W ∧ w.heap.size + 3 ≤ W.heap.size)
    (fun _ _ _ => False)
    (OwnFrom.and (Own.from (holdsRow_own (w.heap.size + 3) w.heap.size 57 22 1 (fun pre : List (Option Addr × Nat × Nat) => pre.length) (fun pre => pre.map parity_groups.hE) (fun _ _ => True)) _) (OwnFrom.and (ownFrom_below (Nat.le_refl _) (by simp; omega)) (fun s W W' row hs hg _ => Nat.le_trans hs hg.size)))
    (fun _ _ _ _ _ hs _ _ => hs)
    ⟨⟨_, (bO.alloc _).alloc _, World.ownsRow_nil _ _ _ _, trivial⟩, hB0, by simp⟩
    (fun x => { tmps := #[.slice A0 len cap, .int .i64 g, undef, undef, .slice none 0 0, .pointer (some ⟨w.heap.size, 0, none⟩), parity_groups.hE x, .slice A0 len cap, .int .i64 g, .func (.func 54) #[] #[.pointer (some ⟨w.heap.size + 1, 0, none⟩), .pointer (some ⟨w.heap.size + 1 + 1, 0, none⟩)], parity_groups.hE x, undef, undef, undef, undef, undef], defers := [] }) ?assign ?body ?done ?stop
  case assign =>
    intro l x W K hK
    gi_wp2
    exact hK
  case body =>
    rintro l pre ⟨xa, xl, xc⟩ W ⟨⟨v, hv, hrow, _⟩, hB, hsz⟩ hlt
    dsimp only [parity_groups.hE]
    have hc := hv.cell
    have hpl : pre.length < 1000000 := by omega
    gi_wp2_with (gi_at_builtin; refine wpListIn_append_own _ rfl _ _ 57 rfl (w.heap.size + 3) 22 i0 (.slice none 0 0) 1 24 Tryd.underlying57 hi hz0 hz1 hz2 rfl (by decide) _ _ _ rfl (hrow.alloc _) ⟨W.heap.size, 0, none⟩ 1 1 [.slice xa xl xc] rfl rfl (cell_one_new _ _ _) (by simp [Value.oneCell']) (by unfold maxLen; omega) (by omega) (by simp; omega) ?_; intro v' w1 hown' hgrow _; obtain ⟨g', cap', rfl⟩ := ownsRow_succ hown'; obtain ⟨hv1, hv2, hr2, hk2, hb2, hkp⟩ := parity_groups.appended (m0 := w.heap.size) hv (by decide) hrow hown' hgrow hsz (Nat.le_refl _) (by omega); have hc1 := hv1.cell; have hf1 := hv1.frozen)
    exact ⟨hk2.from _, hkp, ⟨_, hv2, by simpa using hr2, trivial⟩, hB.trans hb2, Nat.le_trans hsz hb2.size⟩
  case done =>
    rintro D ys W hD rfl ⟨⟨v, hv, hrow, _⟩, hB, hsz⟩ hK
    have hc := hv.cell
    gi_wp2
    refine ⟨by simp, .inl ⟨_, _, rfl, run_takeDeferred hK, ?_⟩⟩
    rw [parity_groups.upto_length] at hrow
    exact ⟨_, results_tmp rfl _ _ _, v, rfl, ownsRow_putObj (own_weaken hrow (by omega)) _ hK rfl, hB.trans (belowK_b (w := w) (Nat.le_refl _) W D _ _ (by simp at hD; omega) hK rfl rfl)⟩
  case stop =>
    rintro D c pre W _ _ h _
    exact h.elim
end GroupsS
theorem parity_groups.reps1 (hs : List (Option Addr × Nat × Nat)) : Reps (fun x cs => cs = x ∧ cs.length = 1 ∧ ∀ u ∈ cs, u.oneCell' = true) 1 (hs.map fun h => [parity_groups.hE h]) (hs.map parity_groups.hE) := by
  refine ⟨by simp, fun j p hj => ?_⟩
  rw [List.getElem?_map] at hj
  obtain ⟨x, hx, rfl⟩ := Option.map_eq_some_iff.mp hj
  obtain ⟨hjl, rfl⟩ := List.getElem?_eq_some_iff.mp hx
  have e : ((hs.map parity_groups.hE).drop (j * 1)).take 1 = [parity_groups.hE hs[j]] := by
    rw [Nat.mul_one, List.drop_eq_getElem_cons (by simpa using hjl), List.getElem_map]
    rfl
  rw [e]
  exact ⟨rfl, rfl, fun u hu => by rw [List.mem_singleton.mp hu]; rfl⟩
/-- The groups of a list. -/
def parity_groups.chunks (l : List (List Int)) (g : Nat) : List (List (List Int)) := (List.range ((l.length + g - 1) / g)).map fun k => (l.drop (k * g)).take g
def parity_groups.f (l0 : List (List Int)) (a1 : Int) : Option (List (List (List Int))) := if 1 ≤ a1 ∧ a1 ≤ 1000 ∧ l0.length ≤ 1000000 then some (parity_groups.chunks l0 a1.toNat) else none
theorem parity_groups.count (len g : Nat) (hg : 1 ≤ g) (k : Nat) : k * g < len ↔ k < (len + g - 1) / g := by
  have h := Nat.le_div_iff_mul_le (x := k + 1) (y := len + g - 1) (k := g) (by omega)
  rw [Nat.succ_mul] at h
  exact ⟨fun q => h.mpr (by omega), fun q => by have := h.mp q; omega⟩
theorem parity_groups.calls (P0_ : Nat → Prop) (A0 : Option Addr) (c0 : Nat) (l0 : List (List Int)) (a1 : Int) (r : List (List (List Int))) (w : World) (hs0 : Kd.V (Kd.slice 5 (Kd.int .u8)) 23 w w.heap.size (fun k_ => P0_ k_) (.slice A0 l0.length c0) l0) (h : parity_groups.f l0 a1 = some r) :
    Calls Tryd.prog 29 #[.slice A0 l0.length c0, .int .i64 a1] w fun e w' => ∃ v0_ : Value, e = .returned v0_ ∧ Kd.N (Kd.slice 23 (Kd.slice 5 (Kd.int .u8))) 22 w' w.heap.size (fun k_ => (P0_ k_ ∨ w.heap.size ≤ k_)) v0_ r ∧ Below w.heap.size w w' := by
  unfold parity_groups.f at h
  by_cases hc : 1 ≤ a1 ∧ a1 ≤ 1000 ∧ l0.length ≤ 1000000
  case neg => rw [if_neg hc] at h; cases h
  rw [if_pos hc] at h
  obtain rfl := Option.some.inj h
  clear h
  obtain ⟨g, rfl⟩ := Int.eq_ofNat_of_zero_le (show 0 ≤ a1 by omega)
  obtain ⟨A, c, e, hlc, hF⟩ := hs0
  cases e
  have hK := parity_groups.count l0.length g (by omega)
  have hKl : (l0.length + g - 1) / g ≤ l0.length := by
    rcases Nat.eq_zero_or_pos ((l0.length + g - 1) / g) with e | e
    · omega
    · have h1 := (hK ((l0.length + g - 1) / g - 1)).mpr (by omega)
      have h2 : ((l0.length + g - 1) / g - 1) * 1 ≤ ((l0.length + g - 1) / g - 1) * g := Nat.mul_le_mul_left _ (by omega)
      omega
  refine (callsIn_wide (n := 3)).1 ((parity_groups.grp Fence.wide 3 trivial trivial trivial rfl (Nat.le_refl _) A0 l0.length c0 g (by omega) (by omega) hc.2.2 hlc _ hK (by omega) w).mono ?_)
  rintro e W' ⟨v, rfl, hrow, hB⟩
  have hr : (Kd.raw 1).R 22 W' w.heap.size (fun k => some k = v.ownBlock) v ((parity_groups.upto A0 l0.length g ((l0.length + g - 1) / g)).map fun h => [parity_groups.hE h]) := by
    refine ⟨fun k hk => hk.symm, (parity_groups.upto A0 l0.length g ((l0.length + g - 1) / g)).map parity_groups.hE, ?_, parity_groups.reps1 _⟩
    rw [List.length_map, parity_groups.upto_length]
    exact hrow
  refine ⟨v, rfl, ⟨fun k hk => .inr (own_base hrow k hk), _, ?_, hr, fun j x cs hx hcs => ?_⟩, hB⟩
  · rw [List.length_map, parity_groups.upto_length, parity_groups.chunks, List.length_map, List.length_range, Int.toNat_natCast]
  · rw [parity_groups.chunks, List.getElem?_map, Int.toNat_natCast] at hx
    rw [List.getElem?_map, parity_groups.upto, List.getElem?_map] at hcs
    obtain ⟨j', hj, rfl⟩ := Option.map_eq_some_iff.mp hx
    rw [hj] at hcs
    obtain ⟨hjl, hj2⟩ := List.getElem?_eq_some_iff.mp hj
    rw [List.getElem_range] at hj2
    subst hj2
    rw [List.length_range] at hjl
    have hlt := (hK j).mpr hjl
    simp only [Option.map_some, Option.some.injEq] at hcs
    subst hcs
    have hle : ((l0.drop (j * g)).take g).length = min g (l0.length - j * g) := by rw [List.length_take, List.length_drop]
    have ht : (l0.drop (j * g)).take (min g (l0.length - j * g)) = (l0.drop (j * g)).take g := by
      rcases Nat.le_total g (l0.length - j * g) with h | h
      · rw [Nat.min_eq_left h]
      · rw [Nat.min_eq_right h, List.take_of_length_le (by rw [List.length_drop]; exact Nat.le_refl _), List.take_of_length_le (by rw [List.length_drop]; exact h)]
    have hF1 := Kd.F_take (m := min g (l0.length - j * g)) (Kd.F_cut (m := j * g) (c := c0) hF (by omega) hlc) (by rw [List.length_drop]; omega)
    rw [if_neg (by omega), ht] at hF1
    have hF2 := Kd.F_mono (Kd.F_below (Kd.F_bound hF1) hB) (ok' := fun k => (P0_ k ∨ w.heap.size ≤ k) ∧ some k ≠ v.ownBlock) (fun k hk => ⟨.inl hk.1, fun e => by have := own_base hrow k e.symm; have := hk.2; omega⟩)
    have hF3 := Kd.FK_slice_mk (e := 23) (c := min g (l0.length - j * g)) (by rw [hle]; exact Nat.le_refl _) hF2
    have e3 : parity_groups.hE (parity_groups.hdr A0 l0.length g (j * g)) = .slice (A0.map (·.add (j * g * 1))) ((l0.drop (j * g)).take g).length (min g (l0.length - j * g)) := by rw [hle]; rfl
    rw [e3]
    exact hF3

/-! ### slices_ContainsFunc_byte_byte_parity_long: function 21 -/
/-- Is one of them too long? -/
def slices_ContainsFunc_byte_byte_parity_long.f (l0 : List (List Int)) : Option (Bool) := if l0.length > 9223372036854775807 then none else some (l0.any fun x => decide (5000 < x.length))
theorem slices_ContainsFunc_byte_byte_parity_long.getD_ (l : List (List Int)) (k : Nat) (hk : k < l.length) : l.getD k [] = l[k] := by
  simp [List.getD_eq_getElem?_getD, hk]
theorem slices_ContainsFunc_byte_byte_parity_long.item (A0 : Option Addr) (l0 : List (List Int)) (w : World) (hr0 : Kd.C (Kd.slice 5 (Kd.int .u8)) w A0 l0.length l0) (k : Nat) (hk : k < l0.length) :
    ∃ ad A c, A0 = some ad ∧ w.cell? (ad.add k) = some (.slice A (l0.getD k []).length c) := by
  obtain ⟨ad, c, e, hl, hK, hc⟩ := ReadsRow.get_ hr0 [] (k : Int) (by omega) (by omega)
  obtain ⟨A1, c1, h0, hl1, hg1⟩ := hK
  refine ⟨ad, A1, c1, e, ?_⟩
  have := hc 0 (.slice A1 (l0.getD k []).length c1) (by rw [h0]; rfl)
  rw [Int.toNat_natCast, show (Kd.slice 5 (Kd.int .u8)).sz = 1 from rfl, Nat.mul_one, Nat.add_zero] at this
  exact this
theorem slices_ContainsFunc_byte_byte_parity_long.index (A0 : Option Addr) (c0 : Nat) (l0 : List (List Int)) (w : World) (hbig : l0.length ≤ 9223372036854775807) (hr0 : Kd.C (Kd.slice 5 (Kd.int .u8)) w A0 l0.length l0) :
    Calls Tryd.prog 35 #[.slice A0 l0.length c0, .func (.func 22) #[] #[]] w fun e w' => ∃ i : Int, (0 ≤ i ↔ ∃ x, x ∈ l0 ∧ 5000 < x.length) ∧ e = .returned (.int .i64 i) ∧ ∃ q, w' = w.drewN q := by
  have hit := slices_ContainsFunc_byte_byte_parity_long.item A0 l0 w hr0
  clear hr0
  go_enter Tryd.func35, Tryd.ntmps35
  go_wp2
  go_loopg [5, 8] l0.length (fun gg _ s8 wr => ∃ kk q : Nat, kk ≤ l0.length ∧ l0.length - kk ≤ gg ∧ s8 = .int .i64 kk ∧ wr = w.drewN q ∧ Aside0 (∀ j, j < kk → ¬ 5000 < (l0.getD j []).length))
  case atStart => exact ⟨0, 0, Nat.zero_le _, by omega, rfl, rfl, Aside0.mk (fun j hj => absurd hj (Nat.not_lt_zero _))⟩
  case round =>
    obtain ⟨kk, q, hkk, hg, rfl, rfl, A⟩ := hrel
    by_cases hlt : kk < l0.length
    · have hltz : (kk : Int) < (l0.length : Int) := by omega
      obtain ⟨ad, A1, c1, e, hcell⟩ := hit kk hlt
      subst e
      clear hit
      rw [slices_ContainsFunc_byte_byte_parity_long.getD_ _ _ hlt] at hcell
      have B : Aside0 (l0.getD kk [] = l0[kk]) := Aside0.mk (slices_ContainsFunc_byte_byte_parity_long.getD_ _ _ hlt)
      generalize hy : l0[kk] = y at hcell B
      clear hy
      by_cases c2 : 5000 < y.length
      · have c2z : (5000 : Int) < (y.length : Int) := by omega
        go_wp2
        go_ret
        refine ⟨(kk : Int), ⟨fun _ => ⟨l0.getD kk [], by rw [slices_ContainsFunc_byte_byte_parity_long.getD_ _ _ hlt]; exact List.getElem_mem _, by rw [B.out]; exact c2⟩, fun _ => by omega⟩, rfl, q, rfl⟩
      · have c2z : ¬ (5000 : Int) < (y.length : Int) := by omega
        go_wp2
        go_roundg (l0.length - (kk + 1))
        case measure => omega
        case rel =>
          refine ⟨kk + 1, _, by omega, by omega, by go_num, rfl, Aside0.mk (fun j hj => ?_)⟩
          by_cases e : j = kk
          · subst e
            rw [B.out]; exact c2
          · exact A.out j (by omega)
    · have hltz : ¬ (kk : Int) < (l0.length : Int) := by omega
      have : kk = l0.length := by omega
      subst this
      go_wp2
      go_ret
      refine ⟨-1, ⟨fun h => absurd h (by decide), fun h => ?_⟩, rfl, q, rfl⟩
      exfalso
      obtain ⟨x, hx, hd⟩ := h
      obtain ⟨j, hj, e⟩ := List.getElem_of_mem hx
      have := A.out j hj
      rw [slices_ContainsFunc_byte_byte_parity_long.getD_ _ _ hj, e] at this
      exact this hd
theorem slices_ContainsFunc_byte_byte_parity_long.calls (A0 : Option Addr) (c0 : Nat) (l0 : List (List Int)) (r : Bool) (w : World) (hr0 : Kd.C (Kd.slice 5 (Kd.int .u8)) w A0 l0.length l0) (hc0 : l0.length ≤ c0) (h : slices_ContainsFunc_byte_byte_parity_long.f l0 = some r) :
    Calls Tryd.prog 21 #[.slice A0 l0.length c0, .func (.func 22) #[] #[]] w fun e w' => e = .returned (.bool r) ∧ Drawn0 w w' := by
  unfold slices_ContainsFunc_byte_byte_parity_long.f at h
  by_cases hbig : l0.length > 9223372036854775807
  · rw [if_pos hbig] at h; exact absurd h (by simp)
  rw [if_neg hbig] at h
  simp only [Option.some.injEq] at h
  have hcon := slices_ContainsFunc_byte_byte_parity_long.index A0 c0 l0 w (by omega) hr0
  have hr : (∃ x, x ∈ l0 ∧ 5000 < x.length) ↔ r = true := by
    rw [← h]
    exact ⟨fun ⟨x, hx, hd⟩ => List.any_eq_true.mpr ⟨x, hx, decide_eq_true hd⟩, fun e => by obtain ⟨x, hx, hd⟩ := List.any_eq_true.mp e; exact ⟨x, hx, of_decide_eq_true hd⟩⟩
  rw [hr] at hcon
  clear hr0 h hbig hr
  go_enter Tryd.func21, Tryd.ntmps21
  go_wp2_with (go_at_call 35; refine hcon.mono ?_; rintro e w' ⟨i, hi, rfl, q, rfl⟩)
  go_ret
  exact ⟨rfl, q, rfl⟩

end Go.Proofs.YtejamobohmljfaaDoor.XParityMends
