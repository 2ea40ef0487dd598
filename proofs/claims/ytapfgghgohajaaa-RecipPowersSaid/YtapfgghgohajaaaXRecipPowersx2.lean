-- Laid by a program of this session (wip/mkxprint.py, over the kit's print): Lean checks it.
import Derived.Test.YtapfgghgohajaaaXRecipPowersx0
import Derived.Test.YtapfgghgohajaaaXRecipPowersx1
namespace Go.Proofs.Ytapfgghgohajaaa.XRecipPowers
open Go.RowKit Go.Proofs.YtapfgghgohajaaaW.PrintWords Go.Proofs.YtapfgghgohajaaaW.PrintLast Go.Proofs.YtapfgghgohajaaaW.PrintMore
attribute [local go_sem] max2_int min2_int max_two min_two max_three min_three max_four min_four   -- for this text's walks alone
set_option linter.unusedVariables false
set_option linter.unusedSimpArgs false

/-! ### bitloftlaw05_RecipPowers: function 6 -/
mutual
def bitloftlaw05_RecipPowers.j0 : Nat → Int → Int → Int → Int → Bool → Option (Bool)
  | 0, _, _, _, _, _ => none
  | k + 1, x0, x1, x2, x3, x20 => if x20 = true then (if 0 ≤ x1 then ((recip_Div.f x0 (shl .i32 1 x1)).bind fun bt118 => (if bt118.2 = 0 then (if bt118.1 = (shr .i32 x0 x1) then (bitloftlaw05_RecipPowers.j1 k x2 x3) else (some false)) else (some false))) else (none)) else (bitloftlaw05_RecipPowers.j1 k x2 x3)
def bitloftlaw05_RecipPowers.j1 : Nat → Int → Int → Option (Bool)
  | 0, _, _ => none
  | k + 1, x2, x3 => (recip_Of.f x2).bind fun bt120 => ((recip_Of.f x3).bind fun bt122 => (if bt120.2 = 0 then (bitloftlaw05_RecipPowers.j2 k x2 x3 bt120.1 bt120.2 bt122.1 bt122.2 (bt122.2 != 0)) else (bitloftlaw05_RecipPowers.j2 k x2 x3 bt120.1 bt120.2 bt122.1 bt122.2 true)))
def bitloftlaw05_RecipPowers.j2 : Nat → Int → Int → Int → Int → Int → Int → Bool → Option (Bool)
  | 0, _, _, _, _, _, _, _ => none
  | k + 1, x2, x3, x11, x12, x13, x14, x52 => if x52 = true then ((bitloftref05_Fits.f x2).bind fun t124 => (if ((x12 == 0) == t124) = true then ((bitloftref05_Fits.f x3).bind fun t125 => (if ((x14 == 0) == t125) = true then ((bitloftlaw05_alive.f k).bind fun t126 => (some t126)) else (some false))) else (some false))) else (if (wrap32 (x11 * x2)) ≤ 65536 then (if (wrap32 ((wrap32 (x11 + 1)) * x2)) > 65536 then (if x2 > x3 then ((bitloftlaw05_alive.f k).bind fun t127 => (some t127)) else (if x11 ≥ x13 then ((bitloftlaw05_alive.f k).bind fun t128 => (some t128)) else (some false))) else (some false)) else (some false))
end
def bitloftlaw05_RecipPowers.f (k : Nat) (a0 : Int) (a1 : Int) (a2 : Int) (a3 : Int) : Option (Bool) := if a1 ≥ 0 then (bitloftlaw05_RecipPowers.j0 k a0 a1 a2 a3 (decide (a1 ≤ 10))) else (bitloftlaw05_RecipPowers.j0 k a0 a1 a2 a3 false)
theorem bitloftlaw05_RecipPowers.mono_l : ∀ k, (∀ y0 y1 y2 y3 y4, LeO (bitloftlaw05_RecipPowers.j0 k y0 y1 y2 y3 y4) (bitloftlaw05_RecipPowers.j0 (k + 1) y0 y1 y2 y3 y4)) ∧ (∀ y0 y1, LeO (bitloftlaw05_RecipPowers.j1 k y0 y1) (bitloftlaw05_RecipPowers.j1 (k + 1) y0 y1)) ∧ (∀ y0 y1 y2 y3 y4 y5 y6, LeO (bitloftlaw05_RecipPowers.j2 k y0 y1 y2 y3 y4 y5 y6) (bitloftlaw05_RecipPowers.j2 (k + 1) y0 y1 y2 y3 y4 y5 y6))
  | 0 => ⟨fun _ _ _ _ _ r h => by simp [bitloftlaw05_RecipPowers.j0] at h, fun _ _ r h => by simp [bitloftlaw05_RecipPowers.j1] at h, fun _ _ _ _ _ _ _ r h => by simp [bitloftlaw05_RecipPowers.j2] at h⟩
  | k + 1 => by
    obtain ⟨ih0, ih1, ih2⟩ := bitloftlaw05_RecipPowers.mono_l k
    refine ⟨?_, ?_, ?_⟩
    · intro y0 y1 y2 y3 y4
      unfold bitloftlaw05_RecipPowers.j0
      repeat' first
      | (with_reducible exact ih0 _ _ _ _ _)
      | (with_reducible exact ih1 _ _)
      | (with_reducible exact ih2 _ _ _ _ _ _ _)
      | (with_reducible exact bitloftlaw05_alive.mono _)
      | (with_reducible exact LeO.refl _)
      | (with_reducible exact LeO.none _)
      | (with_reducible refine LeO.ite ?_ ?_)
      | (with_reducible refine LeO.bind ?_ (fun _ => ?_))
      | exact ih0 _ _ _ _ _
      | exact ih1 _ _
      | exact ih2 _ _ _ _ _ _ _
      | exact bitloftlaw05_alive.mono _
      | exact LeO.none _
      | refine LeO.ite ?_ ?_
      | refine LeO.bind ?_ (fun _ => ?_)
    · intro y0 y1
      unfold bitloftlaw05_RecipPowers.j1
      repeat' first
      | (with_reducible exact ih0 _ _ _ _ _)
      | (with_reducible exact ih1 _ _)
      | (with_reducible exact ih2 _ _ _ _ _ _ _)
      | (with_reducible exact bitloftlaw05_alive.mono _)
      | (with_reducible exact LeO.refl _)
      | (with_reducible exact LeO.none _)
      | (with_reducible refine LeO.ite ?_ ?_)
      | (with_reducible refine LeO.bind ?_ (fun _ => ?_))
      | exact ih0 _ _ _ _ _
      | exact ih1 _ _
      | exact ih2 _ _ _ _ _ _ _
      | exact bitloftlaw05_alive.mono _
      | exact LeO.none _
      | refine LeO.ite ?_ ?_
      | refine LeO.bind ?_ (fun _ => ?_)
    · intro y0 y1 y2 y3 y4 y5 y6
      unfold bitloftlaw05_RecipPowers.j2
      repeat' first
      | (with_reducible exact ih0 _ _ _ _ _)
      | (with_reducible exact ih1 _ _)
      | (with_reducible exact ih2 _ _ _ _ _ _ _)
      | (with_reducible exact bitloftlaw05_alive.mono _)
      | (with_reducible exact LeO.refl _)
      | (with_reducible exact LeO.none _)
      | (with_reducible refine LeO.ite ?_ ?_)
      | (with_reducible refine LeO.bind ?_ (fun _ => ?_))
      | exact ih0 _ _ _ _ _
      | exact ih1 _ _
      | exact ih2 _ _ _ _ _ _ _
      | exact bitloftlaw05_alive.mono _
      | exact LeO.none _
      | refine LeO.ite ?_ ?_
      | refine LeO.bind ?_ (fun _ => ?_)
theorem bitloftlaw05_RecipPowers.mono : ∀ a0 a1 a2 a3 k, LeO (bitloftlaw05_RecipPowers.f k a0 a1 a2 a3) (bitloftlaw05_RecipPowers.f (k + 1) a0 a1 a2 a3) := by
  intro a0 a1 a2 a3 k
  obtain ⟨ih0, ih1, ih2⟩ := bitloftlaw05_RecipPowers.mono_l k
  unfold bitloftlaw05_RecipPowers.f
  repeat' first
      | (with_reducible exact ih0 _ _ _ _ _)
      | (with_reducible exact ih1 _ _)
      | (with_reducible exact ih2 _ _ _ _ _ _ _)
      | (with_reducible exact bitloftlaw05_alive.mono _)
      | (with_reducible exact LeO.refl _)
      | (with_reducible exact LeO.none _)
      | (with_reducible refine LeO.ite ?_ ?_)
      | (with_reducible refine LeO.bind ?_ (fun _ => ?_))
      | exact ih0 _ _ _ _ _
      | exact ih1 _ _
      | exact ih2 _ _ _ _ _ _ _
      | exact bitloftlaw05_alive.mono _
      | exact LeO.none _
      | refine LeO.ite ?_ ?_
      | refine LeO.bind ?_ (fun _ => ?_)
set_option maxHeartbeats 8000000 in
set_option maxRecDepth 100000 in
theorem bitloftlaw05_RecipPowers.calls (k : Nat) (a0 : Int) (a1 : Int) (a2 : Int) (a3 : Int) (r : Bool) (w : World) (h : bitloftlaw05_RecipPowers.f k a0 a1 a2 a3 = some r) :
    Calls Try.prog 6 #[.int .i32 a0, .int .i64 a1, .int .i32 a2, .int .i32 a3] w fun e w' => e = .returned (.bool r) ∧ Below w.heap.size w w' := by
  have HB := Aside0.mk (Below.refl w.heap.size w)
  have H : (if a1 ≥ 0 then (bitloftlaw05_RecipPowers.j0 k a0 a1 a2 a3 (decide (a1 ≤ 10))) else (bitloftlaw05_RecipPowers.j0 k a0 a1 a2 a3 false)) = some r := h
  clear h
  have HC5 := Aside0.mk H
  clear H
  go_enter Try.func6, Try.ntmps6
  go_upto_region 1 with (fail)
  go_cut [20] (fun v20 wc => ∃ (kq : Nat) (x20_4 : Bool), v20 = .bool x20_4 ∧ Aside0 (bitloftlaw05_RecipPowers.j0 kq a0 a1 a2 a3 x20_4 = some r) ∧ Aside0 (kq ≤ k) ∧ Aside0 (Below w.heap.size w wc))
  case first =>
    have H := HC5.out
    clear HC5
    by_cases c6 : a1 ≥ 0
    · rw [if_pos c6] at H
      have c6b0 : decide (0 ≤ a1) = true := decide_eq_true c6
      clear c6
      (first | rw [c6b0] | (simp only [i64_w, i32_w]; rw [c6b0]) | skip)
      have H' := Aside0.mk H
      clear H
      go_wp2
      go_meet
      case rel => exact ⟨_, (decide (a1 ≤ 10)), (by first | rfl | (simp; done) | (simp [*]; done)), H', ⟨by first | omega | exact Nat.le_refl _⟩, ⟨by repeat (first | (with_reducible first | exact HB.out | apply below_alloc | apply pw_below_drewN | apply below_drew1) | exact HB.out)⟩⟩
    · rw [if_neg c6] at H
      have c6b0 : decide (0 ≤ a1) = false := decide_eq_false c6
      clear c6
      (first | rw [c6b0] | (simp only [i64_w, i32_w]; rw [c6b0]) | skip)
      have H' := Aside0.mk H
      clear H
      go_wp2
      go_meet
      case rel => exact ⟨_, (false), (by first | rfl | (simp; done) | (simp [*]; done)), H', ⟨by first | omega | exact Nat.le_refl _⟩, ⟨by repeat (first | (with_reducible first | exact HB.out | apply below_alloc | apply pw_below_drewN | apply below_drew1) | exact HB.out)⟩⟩
  case rest =>
    clear HC5
    try clear p2
    try clear c6
    try clear c6b0
    obtain ⟨kq, x20_4, rfl, HA, HJ4, HB⟩ := hcut
    cases kq with
    | zero => exact absurd HA.out (by simp [bitloftlaw05_RecipPowers.j0])
    | succ kj4 =>
      have H := HA.out
      clear HA
      simp only [bitloftlaw05_RecipPowers.j0] at H
      have HC7 := Aside0.mk H
      clear H
      go_upto_if 20 with (fail)
      go_cut [] (fun wc => ∃ (kq : Nat), Aside0 (bitloftlaw05_RecipPowers.j1 kq a2 a3 = some r) ∧ Aside0 (kq ≤ kj4) ∧ Aside0 (Below w.heap.size w wc))
      case first =>
        have H := HC7.out
        clear HC7
        by_cases c8 : x20_4 = true
        · subst c8
          have H1 : (if 0 ≤ a1 then ((recip_Div.f a0 (shl .i32 1 a1)).bind fun bt118 => (if bt118.2 = 0 then (if bt118.1 = (shr .i32 a0 a1) then (bitloftlaw05_RecipPowers.j1 kj4 a2 a3) else (some false)) else (some false))) else (none)) = some r := by rw [if_pos rfl] at H; exact H
          clear H
          have H := H1
          clear H1
          by_cases c9 : 0 ≤ a1
          · rw [if_pos c9] at H
            have c9b0 := eq_true c9
            have c9b1 : decide (0 ≤ a1) = true := decide_eq_true c9
            clear c9
            obtain ⟨ji10, hji10⟩ : ∃ j_ : Int, (shl .i32 1 a1) = j_ := ⟨_, rfl⟩
            replace H : ((recip_Div.f a0 (ji10)).bind fun bt118 => (if bt118.2 = 0 then (if bt118.1 = (shr .i32 a0 a1) then (bitloftlaw05_RecipPowers.j1 kj4 a2 a3) else (some false)) else (some false))) = some r := by first | (rw [hji10] at H; exact H) | (simp only [hji10] at H ⊢; exact H)
            have hji10_ : (IntKind.i32.wrap (1 * 2 ^ min a1.toNat 32)) = ji10 := hji10
            have hji10z : a1 ≤ 32 → (IntKind.i32.wrap (1 * 2 ^ a1.toNat)) = ji10 := shl_small hji10
            have hji10u : (IntKind.i32.wrap (2 ^ min a1.toNat 32)) = ji10 := by have h_ := hji10_; rw [Int.one_mul] at h_; exact h_
            have hji10v : a1 ≤ 32 → (IntKind.i32.wrap (2 ^ a1.toNat)) = ji10 := fun hle_ => by have h_ := hji10z hle_; rw [Int.one_mul] at h_; exact h_
            have hji10y : (wrap32 (1 * 2 ^ min a1.toNat 32)) = ji10 := (i32_w _).symm.trans hji10_
            have hji10x : a1 ≤ 32 → (wrap32 (1 * 2 ^ a1.toNat)) = ji10 := fun h_ => (i32_w _).symm.trans (hji10z h_)
            replace H := Option.bind_eq_some_iff.mp H
            obtain ⟨⟨t118, t119⟩, A110, H⟩ := H
            replace H : (if t119 = 0 then (if t118 = (shr .i32 a0 a1) then (bitloftlaw05_RecipPowers.j1 kj4 a2 a3) else (some false)) else (some false)) = some r := H
            have A11 := Aside0.mk A110
            clear A110
            by_cases c12 : t119 = 0
            · rw [if_pos c12] at H
              have c12b0 : (t119 == 0) = true := beq_iff_eq.mpr c12
              have c12b1 : (t119 != 0) = false := bne_eq_false_iff_eq.mpr c12
              clear c12
              (first | rw [c12b0] | (simp only [i64_w, i32_w]; rw [c12b0]) | skip)
              have c13b0 := eq_true (of_decide_eq_true (by first | (with_reducible assumption) | assumption) : 0 ≤ a1)
              obtain ⟨ji14, hji14⟩ : ∃ j_ : Int, (shr .i32 a0 a1) = j_ := ⟨_, rfl⟩
              replace H : (if t118 = (ji14) then (bitloftlaw05_RecipPowers.j1 kj4 a2 a3) else (some false)) = some r := by first | (rw [hji14] at H; exact H) | (simp only [hji14] at H ⊢; exact H)
              (try rw [hji14] at A11)
              have hji14_ : (a0 / 2 ^ min a1.toNat 32) = ji14 := hji14
              have hji14z : a1 ≤ 32 → (a0 / 2 ^ a1.toNat) = ji14 := shr_small hji14
              by_cases c15 : t118 = (ji14)
              · rw [if_pos c15] at H
                have c15b0 : (t118 == (ji14)) = true := beq_iff_eq.mpr c15
                have c15b1 : (t118 != (ji14)) = false := bne_eq_false_iff_eq.mpr c15
                clear c15
                have H' := Aside0.mk H
                clear H
                go_wp2_with (first | ((with_reducible refine gate_callee (f := 10) rfl ?_); refine goesL_ (some 25) rfl rfl Try.func10 (by kernel_rfl) rfl #[.int .i32 a0, .int .i32 ji10] rfl (by (try simp only [List.map_toArray, List.map_cons, List.map_nil]); first | done | (simp only [hji10]; rfl) | rfl | (simp only [List.length_drop, List.length_take]; rfl)) ?_; (with_reducible refine (recip_Div.calls a0 ji10 t118 t119 _ A11.out).mono ?_); rintro e w' ⟨rfl, ⟨nd, rfl⟩⟩; refine ⟨_, rfl, ?_⟩))
                go_meet
                case rel => exact ⟨_, H', ⟨by have := HJ4.out; first | omega | exact Nat.le_refl _⟩, ⟨by repeat (first | (with_reducible first | exact HB.out | apply below_alloc | apply pw_below_drewN | apply below_drew1) | exact HB.out)⟩⟩
              · rw [if_neg c15] at H
                have c15b0 : (t118 == (ji14)) = false := beq_eq_false_iff_ne.mpr c15
                have c15b1 : (t118 != (ji14)) = true := bne_iff_ne.mpr c15
                obtain rfl := Option.some.inj H
                go_wp2_with (first | ((with_reducible refine gate_callee (f := 10) rfl ?_); refine goesL_ (some 25) rfl rfl Try.func10 (by kernel_rfl) rfl #[.int .i32 a0, .int .i32 ji10] rfl (by (try simp only [List.map_toArray, List.map_cons, List.map_nil]); first | done | (simp only [hji10]; rfl) | rfl | (simp only [List.length_drop, List.length_take]; rfl)) ?_; (with_reducible refine (recip_Div.calls a0 ji10 t118 t119 _ A11.out).mono ?_); rintro e w' ⟨rfl, ⟨nd, rfl⟩⟩; refine ⟨_, rfl, ?_⟩))
                go_ret
                exact ⟨by first | rfl | (simp [errW_none, errW_some] <;> rfl) | (simp only [← hji10, ← hji14]; first | rfl | (simp [errW_none, errW_some] <;> rfl)) | (simp [*, errW_none, errW_some] <;> rfl), by repeat (first | (with_reducible first | exact HB.out | apply below_alloc | apply pw_below_drewN | apply below_drew1) | exact HB.out)⟩
            · rw [if_neg c12] at H
              have c12b0 : (t119 == 0) = false := beq_eq_false_iff_ne.mpr c12
              have c12b1 : (t119 != 0) = true := bne_iff_ne.mpr c12
              (first | rw [c12b0] | (simp only [i64_w, i32_w]; rw [c12b0]) | skip)
              obtain rfl := Option.some.inj H
              go_wp2_with (first | ((with_reducible refine gate_callee (f := 10) rfl ?_); refine goesL_ (some 25) rfl rfl Try.func10 (by kernel_rfl) rfl #[.int .i32 a0, .int .i32 ji10] rfl (by (try simp only [List.map_toArray, List.map_cons, List.map_nil]); first | done | (simp only [hji10]; rfl) | rfl | (simp only [List.length_drop, List.length_take]; rfl)) ?_; (with_reducible refine (recip_Div.calls a0 ji10 t118 t119 _ A11.out).mono ?_); rintro e w' ⟨rfl, ⟨nd, rfl⟩⟩; refine ⟨_, rfl, ?_⟩))
              go_ret
              exact ⟨by first | rfl | (simp [errW_none, errW_some] <;> rfl) | (simp only [← hji10]; first | rfl | (simp [errW_none, errW_some] <;> rfl)) | (simp [*, errW_none, errW_some] <;> rfl), by repeat (first | (with_reducible first | exact HB.out | apply below_alloc | apply pw_below_drewN | apply below_drew1) | exact HB.out)⟩
          · rw [if_neg c9] at H
            exact absurd H (by simp)
        · replace c8 := Bool.eq_false_iff.mpr c8
          subst c8
          have H1 : (bitloftlaw05_RecipPowers.j1 kj4 a2 a3) = some r := by rw [if_neg (show ¬ (false = true) by decide)] at H; exact H
          clear H
          have H := H1
          clear H1
          have H' := Aside0.mk H
          clear H
          go_wp2
          go_meet
          case rel => exact ⟨_, H', ⟨by have := HJ4.out; first | omega | exact Nat.le_refl _⟩, ⟨by repeat (first | (with_reducible first | exact HB.out | apply below_alloc | apply pw_below_drewN | apply below_drew1) | exact HB.out)⟩⟩
      case rest =>
        clear HC7
        try clear c1
        try clear p2
        try clear p3
        try clear c6
        try clear c6b0
        try clear c8
        try clear c9
        try clear c9b0
        try clear c9b1
        try clear c10
        try clear c12
        try clear c12b0
        try clear c12b1
        try clear c13
        try clear c13b0
        try clear c15
        try clear c15b0
        try clear c15b1
        try clear p2
        obtain ⟨kq, HA, HJ6, HB⟩ := hcut
        cases kq with
        | zero => exact absurd HA.out (by simp [bitloftlaw05_RecipPowers.j1])
        | succ kj6 =>
          have H := HA.out
          clear HA
          simp only [bitloftlaw05_RecipPowers.j1] at H
          replace H := Option.bind_eq_some_iff.mp H
          obtain ⟨⟨t120, t121⟩, A160, H⟩ := H
          replace H : ((recip_Of.f a3).bind fun bt122 => (if t121 = 0 then (bitloftlaw05_RecipPowers.j2 kj6 a2 a3 t120 t121 bt122.1 bt122.2 (bt122.2 != 0)) else (bitloftlaw05_RecipPowers.j2 kj6 a2 a3 t120 t121 bt122.1 bt122.2 true))) = some r := H
          have A16 := Aside0.mk A160
          clear A160
          replace H := Option.bind_eq_some_iff.mp H
          obtain ⟨⟨t122, t123⟩, A170, H⟩ := H
          replace H : (if t121 = 0 then (bitloftlaw05_RecipPowers.j2 kj6 a2 a3 t120 t121 t122 t123 (t123 != 0)) else (bitloftlaw05_RecipPowers.j2 kj6 a2 a3 t120 t121 t122 t123 true)) = some r := H
          have A17 := Aside0.mk A170
          clear A170
          have HC18 := Aside0.mk H
          clear H
          go_upto_region 7 with (first | ((with_reducible refine gate_callee (f := 9) rfl ?_); refine goesL_ (some 39) rfl rfl Try.func9 (by kernel_rfl) rfl #[.int .i32 a2] rfl (by (try simp only [List.map_toArray, List.map_cons, List.map_nil]); first | done | rfl | (simp only [List.length_drop, List.length_take]; rfl)) ?_; (with_reducible refine (recip_Of.calls a2 t120 t121 _ A16.out).mono ?_); rintro e w' ⟨rfl, ⟨nd, rfl⟩⟩; refine ⟨_, rfl, ?_⟩) | ((with_reducible refine gate_callee (f := 9) rfl ?_); refine goesL_ (some 44) rfl rfl Try.func9 (by kernel_rfl) rfl #[.int .i32 a3] rfl (by (try simp only [List.map_toArray, List.map_cons, List.map_nil]); first | done | rfl | (simp only [List.length_drop, List.length_take]; rfl)) ?_; (with_reducible refine (recip_Of.calls a3 t122 t123 _ A17.out).mono ?_); rintro e w' ⟨rfl, ⟨nd, rfl⟩⟩; refine ⟨_, rfl, ?_⟩))
          (try simp only [Act.put, List.setIfInBounds_toArray, List.set_cons_zero, List.set_cons_succ])
          go_cut [52] (fun v52 wc => ∃ (kq : Nat) (x52_17 : Bool), v52 = .bool x52_17 ∧ Aside0 (bitloftlaw05_RecipPowers.j2 kq a2 a3 t120 t121 t122 t123 x52_17 = some r) ∧ Aside0 (kq ≤ kj6) ∧ Aside0 (Below w.heap.size w wc))
          case first =>
            have H := HC18.out
            clear HC18
            by_cases c19 : t121 = 0
            · rw [if_pos c19] at H
              have c19b0 : (t121 == 0) = true := beq_iff_eq.mpr c19
              have c19b1 : (t121 != 0) = false := bne_eq_false_iff_eq.mpr c19
              clear c19
              (first | rw [c19b0] | (simp only [i64_w, i32_w]; rw [c19b0]) | skip)
              have H' := Aside0.mk H
              clear H
              go_wp2
              go_meet
              case rel => exact ⟨_, ((t123 != 0)), (by first | rfl | (simp; done) | (simp [*]; done)), H', ⟨by have := HJ4.out; have := HJ6.out; first | omega | exact Nat.le_refl _⟩, ⟨by repeat (first | (with_reducible first | exact HB.out | apply below_alloc | apply pw_below_drewN | apply below_drew1) | exact HB.out)⟩⟩
            · rw [if_neg c19] at H
              have c19b0 : (t121 == 0) = false := beq_eq_false_iff_ne.mpr c19
              have c19b1 : (t121 != 0) = true := bne_iff_ne.mpr c19
              (first | rw [c19b0] | (simp only [i64_w, i32_w]; rw [c19b0]) | skip)
              have H' := Aside0.mk H
              clear H
              go_wp2
              go_meet
              case rel => exact ⟨_, (true), (by first | rfl | (simp; done) | (simp [*]; done)), H', ⟨by have := HJ4.out; have := HJ6.out; first | omega | exact Nat.le_refl _⟩, ⟨by repeat (first | (with_reducible first | exact HB.out | apply below_alloc | apply pw_below_drewN | apply below_drew1) | exact HB.out)⟩⟩
          case rest =>
            clear HC18
            try clear c1
            try clear p2
            try clear p3
            try clear c6
            try clear c6b0
            try clear c8
            try clear c9
            try clear c9b0
            try clear c9b1
            try clear c10
            try clear c12
            try clear c12b0
            try clear c12b1
            try clear c13
            try clear c13b0
            try clear c15
            try clear c15b0
            try clear c15b1
            try clear c19
            try clear c19b0
            try clear c19b1
            try clear p2
            try clear p3
            obtain ⟨kq, x52_17, rfl, HA, HJ17, HB⟩ := hcut
            cases kq with
            | zero => exact absurd HA.out (by simp [bitloftlaw05_RecipPowers.j2])
            | succ kj17 =>
              have H := HA.out
              clear HA
              simp only [bitloftlaw05_RecipPowers.j2] at H
              by_cases c20 : x52_17 = true
              · subst c20
                have H1 : ((bitloftref05_Fits.f a2).bind fun t124 => (if ((t121 == 0) == t124) = true then ((bitloftref05_Fits.f a3).bind fun t125 => (if ((t123 == 0) == t125) = true then ((bitloftlaw05_alive.f kj17).bind fun t126 => (some t126)) else (some false))) else (some false))) = some r := by rw [if_pos rfl] at H; exact H
                clear H
                have H := H1
                clear H1
                replace H := Option.bind_eq_some_iff.mp H
                obtain ⟨t124, A210, H⟩ := H
                replace H : (if ((t121 == 0) == t124) = true then ((bitloftref05_Fits.f a3).bind fun t125 => (if ((t123 == 0) == t125) = true then ((bitloftlaw05_alive.f kj17).bind fun t126 => (some t126)) else (some false))) else (some false)) = some r := H
                have A21 := Aside0.mk A210
                clear A210
                by_cases c22 : ((t121 == 0) == t124) = true
                · rw [if_pos c22] at H
                  have c22b0 : ((t121 == 0) == t124) = true := c22
                  (try (have c22b1 : decide ((t121 == 0) = t124) = true := by simpa using c22))
                  (try (have c22b2 : ((t121 == 0) == t124) = true := by simpa using c22))
                  clear c22
                  replace H := Option.bind_eq_some_iff.mp H
                  obtain ⟨t125, A230, H⟩ := H
                  replace H : (if ((t123 == 0) == t125) = true then ((bitloftlaw05_alive.f kj17).bind fun t126 => (some t126)) else (some false)) = some r := H
                  have A23 := Aside0.mk A230
                  clear A230
                  by_cases c24 : ((t123 == 0) == t125) = true
                  · rw [if_pos c24] at H
                    have c24b0 : ((t123 == 0) == t125) = true := c24
                    (try (have c24b1 : decide ((t123 == 0) = t125) = true := by simpa using c24))
                    (try (have c24b2 : ((t123 == 0) == t125) = true := by simpa using c24))
                    clear c24
                    replace H := Option.bind_eq_some_iff.mp H
                    obtain ⟨t126, A250, H⟩ := H
                    replace H : (some t126) = some r := H
                    have A25 := Aside0.mk A250
                    clear A250
                    obtain rfl := Option.some.inj H
                    go_wp2_with (first | ((with_reducible refine gate_callee (f := 18) rfl ?_); refine goesL_ (some 56) rfl rfl Try.func18 (by kernel_rfl) rfl #[.int .i32 a2] rfl (by (try simp only [List.map_toArray, List.map_cons, List.map_nil]); first | done | rfl | (simp only [List.length_drop, List.length_take]; rfl)) ?_; (with_reducible refine (bitloftref05_Fits.calls a2 t124 _ A21.out).mono ?_); rintro e w' ⟨rfl, ⟨nd, rfl⟩⟩; refine ⟨_, rfl, ?_⟩) | (go_at_call 18; (with_reducible refine (bitloftref05_Fits.calls a3 t125 _ A23.out).mono ?_); rintro e w' ⟨rfl, ⟨nd, rfl⟩⟩) | (go_at_call 14; (with_reducible refine (bitloftlaw05_alive.calls kj17  t126 _ A25.out).mono ?_); rintro e w26 ⟨rfl, hb⟩; have n0_ := Aside0.mk (below_step (by repeat (first | (with_reducible first | exact HB.out | apply below_alloc | apply pw_below_drewN | apply below_drew1) | exact HB.out)) hb); clear HB; have HB := n0_; clear n0_; (try clear hb); (try clear hb2); (try clear hk); (try clear hi)))
                    go_ret
                    exact ⟨by first | rfl | (simp [errW_none, errW_some] <;> rfl) | (simp [*, errW_none, errW_some] <;> rfl), by repeat (first | (with_reducible first | exact HB.out | apply below_alloc | apply pw_below_drewN | apply below_drew1) | exact HB.out)⟩
                  · rw [if_neg c24] at H
                    have c24b0 : ((t123 == 0) == t125) = false := by simpa using c24
                    (try (have c24b1 : decide ((t123 == 0) = t125) = false := by simpa using c24))
                    (try (have c24b2 : ((t123 == 0) == t125) = false := by simpa using c24))
                    (try (have c24b3 : ¬ ((t123 == 0) = t125) := by simpa using c24))
                    clear c24
                    obtain rfl := Option.some.inj H
                    go_wp2_with (first | ((with_reducible refine gate_callee (f := 18) rfl ?_); refine goesL_ (some 56) rfl rfl Try.func18 (by kernel_rfl) rfl #[.int .i32 a2] rfl (by (try simp only [List.map_toArray, List.map_cons, List.map_nil]); first | done | rfl | (simp only [List.length_drop, List.length_take]; rfl)) ?_; (with_reducible refine (bitloftref05_Fits.calls a2 t124 _ A21.out).mono ?_); rintro e w' ⟨rfl, ⟨nd, rfl⟩⟩; refine ⟨_, rfl, ?_⟩) | (go_at_call 18; (with_reducible refine (bitloftref05_Fits.calls a3 t125 _ A23.out).mono ?_); rintro e w' ⟨rfl, ⟨nd, rfl⟩⟩))
                    go_ret
                    exact ⟨by first | rfl | (simp [errW_none, errW_some] <;> rfl) | (simp [*, errW_none, errW_some] <;> rfl), by repeat (first | (with_reducible first | exact HB.out | apply below_alloc | apply pw_below_drewN | apply below_drew1) | exact HB.out)⟩
                · rw [if_neg c22] at H
                  have c22b0 : ((t121 == 0) == t124) = false := by simpa using c22
                  (try (have c22b1 : decide ((t121 == 0) = t124) = false := by simpa using c22))
                  (try (have c22b2 : ((t121 == 0) == t124) = false := by simpa using c22))
                  (try (have c22b3 : ¬ ((t121 == 0) = t124) := by simpa using c22))
                  clear c22
                  obtain rfl := Option.some.inj H
                  go_wp2_with (first | ((with_reducible refine gate_callee (f := 18) rfl ?_); refine goesL_ (some 56) rfl rfl Try.func18 (by kernel_rfl) rfl #[.int .i32 a2] rfl (by (try simp only [List.map_toArray, List.map_cons, List.map_nil]); first | done | rfl | (simp only [List.length_drop, List.length_take]; rfl)) ?_; (with_reducible refine (bitloftref05_Fits.calls a2 t124 _ A21.out).mono ?_); rintro e w' ⟨rfl, ⟨nd, rfl⟩⟩; refine ⟨_, rfl, ?_⟩))
                  go_ret
                  exact ⟨by first | rfl | (simp [errW_none, errW_some] <;> rfl) | (simp [*, errW_none, errW_some] <;> rfl), by repeat (first | (with_reducible first | exact HB.out | apply below_alloc | apply pw_below_drewN | apply below_drew1) | exact HB.out)⟩
              · replace c20 := Bool.eq_false_iff.mpr c20
                subst c20
                have H1 : (if (wrap32 (t120 * a2)) ≤ 65536 then (if (wrap32 ((wrap32 (t120 + 1)) * a2)) > 65536 then (if a2 > a3 then ((bitloftlaw05_alive.f kj17).bind fun t127 => (some t127)) else (if t120 ≥ t122 then ((bitloftlaw05_alive.f kj17).bind fun t128 => (some t128)) else (some false))) else (some false)) else (some false)) = some r := by rw [if_neg (show ¬ (false = true) by decide)] at H; exact H
                clear H
                have H := H1
                clear H1
                by_cases c27 : (wrap32 (t120 * a2)) ≤ 65536
                · rw [if_pos c27] at H
                  have c27b0 : decide ((wrap32 (t120 * a2)) ≤ 65536) = true := decide_eq_true c27
                  clear c27
                  by_cases c28 : (wrap32 ((wrap32 (t120 + 1)) * a2)) > 65536
                  · rw [if_pos c28] at H
                    have c28b0 : decide (65536 < (wrap32 ((wrap32 (t120 + 1)) * a2))) = true := decide_eq_true c28
                    clear c28
                    by_cases c29 : a2 > a3
                    · rw [if_pos c29] at H
                      have c29b0 : decide (a3 < a2) = true := decide_eq_true c29
                      clear c29
                      replace H := Option.bind_eq_some_iff.mp H
                      obtain ⟨t127, A300, H⟩ := H
                      replace H : (some t127) = some r := H
                      have A30 := Aside0.mk A300
                      clear A300
                      obtain rfl := Option.some.inj H
                      go_wp2_with (first | (go_at_call 14; (with_reducible refine (bitloftlaw05_alive.calls kj17  t127 _ A30.out).mono ?_); rintro e w31 ⟨rfl, hb⟩; have n0_ := Aside0.mk (below_step (by repeat (first | (with_reducible first | exact HB.out | apply below_alloc | apply pw_below_drewN | apply below_drew1) | exact HB.out)) hb); clear HB; have HB := n0_; clear n0_; (try clear hb); (try clear hb2); (try clear hk); (try clear hi)))
                      go_ret
                      exact ⟨by first | rfl | (simp [errW_none, errW_some] <;> rfl) | (simp [*, errW_none, errW_some] <;> rfl), by repeat (first | (with_reducible first | exact HB.out | apply below_alloc | apply pw_below_drewN | apply below_drew1) | exact HB.out)⟩
                    · rw [if_neg c29] at H
                      have c29b0 : decide (a3 < a2) = false := decide_eq_false c29
                      clear c29
                      by_cases c32 : t120 ≥ t122
                      · rw [if_pos c32] at H
                        have c32b0 : decide (t122 ≤ t120) = true := decide_eq_true c32
                        clear c32
                        replace H := Option.bind_eq_some_iff.mp H
                        obtain ⟨t128, A330, H⟩ := H
                        replace H : (some t128) = some r := H
                        have A33 := Aside0.mk A330
                        clear A330
                        obtain rfl := Option.some.inj H
                        go_wp2_with (first | (go_at_call 14; (with_reducible refine (bitloftlaw05_alive.calls kj17  t128 _ A33.out).mono ?_); rintro e w34 ⟨rfl, hb⟩; have n0_ := Aside0.mk (below_step (by repeat (first | (with_reducible first | exact HB.out | apply below_alloc | apply pw_below_drewN | apply below_drew1) | exact HB.out)) hb); clear HB; have HB := n0_; clear n0_; (try clear hb); (try clear hb2); (try clear hk); (try clear hi)))
                        go_ret
                        exact ⟨by first | rfl | (simp [errW_none, errW_some] <;> rfl) | (simp [*, errW_none, errW_some] <;> rfl), by repeat (first | (with_reducible first | exact HB.out | apply below_alloc | apply pw_below_drewN | apply below_drew1) | exact HB.out)⟩
                      · rw [if_neg c32] at H
                        have c32b0 : decide (t122 ≤ t120) = false := decide_eq_false c32
                        clear c32
                        obtain rfl := Option.some.inj H
                        go_wp2
                        go_ret
                        exact ⟨by first | rfl | (simp [errW_none, errW_some] <;> rfl) | (simp [*, errW_none, errW_some] <;> rfl), by repeat (first | (with_reducible first | exact HB.out | apply below_alloc | apply pw_below_drewN | apply below_drew1) | exact HB.out)⟩
                  · rw [if_neg c28] at H
                    have c28b0 : decide (65536 < (wrap32 ((wrap32 (t120 + 1)) * a2))) = false := decide_eq_false c28
                    clear c28
                    obtain rfl := Option.some.inj H
                    go_wp2
                    go_ret
                    exact ⟨by first | rfl | (simp [errW_none, errW_some] <;> rfl) | (simp [*, errW_none, errW_some] <;> rfl), by repeat (first | (with_reducible first | exact HB.out | apply below_alloc | apply pw_below_drewN | apply below_drew1) | exact HB.out)⟩
                · rw [if_neg c27] at H
                  have c27b0 : decide ((wrap32 (t120 * a2)) ≤ 65536) = false := decide_eq_false c27
                  clear c27
                  obtain rfl := Option.some.inj H
                  go_wp2
                  go_ret
                  exact ⟨by first | rfl | (simp [errW_none, errW_some] <;> rfl) | (simp [*, errW_none, errW_some] <;> rfl), by repeat (first | (with_reducible first | exact HB.out | apply below_alloc | apply pw_below_drewN | apply below_drew1) | exact HB.out)⟩

/-- THE ONE PURE STATEMENT of bitloftlaw05_RecipPowers: yours. -/
def bitloftlaw05_RecipPowers.Pure : Prop := ∀ (a0 : Int) (a1 : Int) (a2 : Int) (a3 : Int), (Lit.int .i32 a0).wf = true → (Lit.int .i64 a1).wf = true → (Lit.int .i32 a2).wf = true → (Lit.int .i32 a3).wf = true → ∃ k, bitloftlaw05_RecipPowers.f k a0 a1 a2 a3 = some true
theorem bitloftlaw05_RecipPowers.walk (P : bitloftlaw05_RecipPowers.Pure) (a0 : Int) (a1 : Int) (a2 : Int) (a3 : Int) (w : World) (w0 : (Lit.int .i32 a0).wf = true) (w1 : (Lit.int .i64 a1).wf = true) (w2 : (Lit.int .i32 a2).wf = true) (w3 : (Lit.int .i32 a3).wf = true) :
    Calls Try.prog 6 #[.int .i32 a0, .int .i64 a1, .int .i32 a2, .int .i32 a3] w fun e w' => e = .returned (.bool true) ∧ Below w.heap.size w w' := by
  obtain ⟨k, h⟩ := P a0 a1 a2 a3 w0 w1 w2 w3
  refine (bitloftlaw05_RecipPowers.calls k a0 a1 a2 a3 true w h).mono ?_
  rintro e w' ⟨rfl, hd⟩
  exact ⟨rfl, hd⟩

end Go.Proofs.Ytapfgghgohajaaa.XRecipPowers
