-- Laid by a program of this session (wip/mkxprint.py, over the kit's print): Lean checks it.
import Derived.Test.YtimjmbaonkpmpaaDoorXSquashStretchesx0
namespace Go.Proofs.YtimjmbaonkpmpaaDoor.XSquashStretches
open List (setIfInBounds_toArray set_cons_zero set_cons_succ)
open Go.RowKit Go.Proofs.YtimjmbaonkpmpaaDoorW.PrintWords Go.Proofs.YtimjmbaonkpmpaaDoorW.PrintLast Go.Proofs.YtimjmbaonkpmpaaDoorW.PrintMore
attribute [local go_sem] max2_int min2_int max_two min_two max_three min_three max_four min_four   -- for this text's walks alone
set_option linter.unusedVariables false
set_option linter.unusedSimpArgs false

-- NOT PRINTED: function 17 (sort_Search)

/-! ### squash_Squash: function 10 -/
/-- The row. -/
def sqRow : List Int := [1, 2, 3, 6, 10, 16, 27, 45, 73, 120, 194, 310, 488, 747, 1101, 1546, 2047, 2549, 2994, 3348, 3607, 3785, 3901, 3975, 4022, 4050, 4068, 4079, 4085, 4089, 4092, 4093, 4094]
/-- What the package variable reads as. -/
structure Tab_ (w : World) : Prop where mk :: (out : ∀ i : Nat, i < 33 → w.cell? ⟨0, i, none⟩ = some (.int .i32 (rd sqRow (i : Int))))
theorem tab_bel {w w' : World} (h : Tab_ w) (b : Below w.heap.size w w') : Tab_ w' := ⟨fun i hi => by
  have c := h.out i hi
  exact (b.cell (p := ⟨0, i, none⟩) (World.block_lt_of_cell? w _ c)).trans c⟩
/-- A number between the places. -/
def squash_Squash.mid (d : Int) : Int := (rd sqRow (d / 128 + 16) * 128 + (rd sqRow (d / 128 + 17) - rd sqRow (d / 128 + 16)) * (d % 128) + 64) / 128
def squash_Squash.f (a0 : Int) : Option (Int) := if a0 > 2047 then some 4095 else if a0 < -2047 then some 0 else some (squash_Squash.mid a0)
theorem squash_Squash.far (a0 : Int) (w : World) (h : a0 > 2047) :
    Calls Tryd.prog 10 #[.int .i32 a0] w fun e w' => e = .returned (.int .i32 4095) ∧ ∃ m, w' = w.drewN m := by
  have h0 : decide (2047 < a0) = true := decide_eq_true h
  clear h
  go_enter Tryd.func10, Tryd.ntmps10
  go_wp2
  go_ret
  exact ⟨rfl, 0, rfl⟩
theorem squash_Squash.low (a0 : Int) (w : World) (h : a0 < -2047) :
    Calls Tryd.prog 10 #[.int .i32 a0] w fun e w' => e = .returned (.int .i32 0) ∧ ∃ m, w' = w.drewN m := by
  have h0 : decide (2047 < a0) = false := decide_eq_false (by omega)
  have h1 : decide (a0 < -2047) = true := decide_eq_true h
  clear h
  go_enter Tryd.func10, Tryd.ntmps10
  go_wp2
  go_ret
  exact ⟨rfl, 0, rfl⟩
theorem and127 (a : Int) : bits .and .i32 a 127 = a % 128 := by
  unfold bits
  show IntKind.i32.wrap ((BitVec.ofInt 32 a &&& BitVec.ofInt 32 127).toNat : Int) = _
  rw [BitVec.toNat_and, BitVec.toNat_ofInt, BitVec.toNat_ofInt]
  rw [show ((127 : Int) % ((2 ^ 32 : Nat) : Int)).toNat = 2 ^ 7 - 1 from by decide, Nat.and_two_pow_sub_one_eq_mod]
  rw [IntKind.wrap_i32]
  have : ((a % ((2 ^ 32 : Nat) : Int)).toNat : Int) = a % 4294967296 := by
    rw [Int.toNat_of_nonneg (Int.emod_nonneg _ (by decide))]; rfl
  rw [Int.natCast_emod, this]
  omega
theorem sq_rows : ∀ i : Fin 32, 0 ≤ rd sqRow (i.val : Int) ∧ rd sqRow (i.val : Int) ≤ 4094 ∧ 0 ≤ rd sqRow ((i.val : Int) + 1) - rd sqRow (i.val : Int) ∧ rd sqRow ((i.val : Int) + 1) - rd sqRow (i.val : Int) ≤ 503 := by decide +kernel
theorem squash_Squash.nest (a0 : Int) (i : Nat) (hi : a0 / 128 + 16 = (i : Int)) (hi0 : i < 32) :
    wrap32 (wrap32 (wrap32 (rd sqRow (i : Int) * 128) + wrap32 (wrap32 (rd sqRow ((i : Int) + 1) - rd sqRow (i : Int)) * (a0 % 128))) + 64) / 128 = squash_Squash.mid a0 := by
  unfold squash_Squash.mid
  rw [show a0 / 128 + 17 = (i : Int) + 1 from by omega, hi]
  have h := sq_rows ⟨i, hi0⟩
  dsimp only at h
  generalize rd sqRow (i : Int) = x at h ⊢
  generalize rd sqRow ((i : Int) + 1) = y at h ⊢
  have w0 : 0 ≤ a0 % 128 := by omega
  have w1 : a0 % 128 ≤ 127 := by omega
  generalize a0 % 128 = m at w0 w1 ⊢
  obtain ⟨q, hq⟩ : ∃ q, y - x = q := ⟨_, rfl⟩
  rw [hq] at h ⊢
  have p0 : 0 ≤ q * m := Int.mul_nonneg h.2.2.1 w0
  have p1 : q * m ≤ 503 * 127 := Int.mul_le_mul h.2.2.2 w1 w0 (by decide)
  have u : ∀ z : Int, -2147483648 ≤ z → z ≤ 2147483647 → wrap32 z = z := fun z a b => by unfold wrap32; omega
  rw [u q (by omega) (by omega)]
  generalize q * m = r at p0 p1 ⊢
  rw [u r (by omega) (by omega), u (x * 128) (by omega) (by omega), u (x * 128 + r) (by omega) (by omega), u (x * 128 + r + 64) (by omega) (by omega)]
theorem squash_Squash.in_ (a0 : Int) (w : World) (hT : Tab_ w) (h0 : -2047 ≤ a0) (h1 : a0 ≤ 2047) :
    Calls Tryd.prog 10 #[.int .i32 a0] w fun e w' => e = .returned (.int .i32 (squash_Squash.mid a0)) ∧ ∃ m, w' = w.drewN m := by
  obtain ⟨i, hi⟩ : ∃ i : Nat, a0 / 128 + 16 = (i : Int) := ⟨(a0 / 128 + 16).toNat, by omega⟩
  have hi0 : i < 32 := by omega
  have c0 := hT.out i (by omega)
  have c1 := hT.out (i + 1) (by omega)
  have e1 : bits .and .i32 a0 127 = a0 % 128 := and127 a0
  clear hT
  go_enter Tryd.func10, Tryd.ntmps10
  go_wp2
  (try rw [e1]); (try rw [hi])
  have iw : wrap32 ((i : Int) + 1) = ((i + 1 : Nat) : Int) := by rw [wrap32]; omega
  have j0 : (0 : Int) ≤ (i : Int) := by omega
  have j1 : (i : Int) < 33 := by omega
  have j2 : (0 : Int) ≤ ((i + 1 : Nat) : Int) := by omega
  have j3 : ((i + 1 : Nat) : Int) < 33 := by omega
  have eM := squash_Squash.nest a0 i hi hi0
  go_region
  go_wp2
  go_ret
  exact ⟨rfl, 1, rfl⟩
theorem squash_Squash.quiet (a0 : Int) (r : Int) (w : World) (hT : Tab_ w) (h : squash_Squash.f a0 = some r) :
    Calls Tryd.prog 10 #[.int .i32 a0] w fun e w' => e = .returned (.int .i32 r) ∧ ∃ m, w' = w.drewN m := by
  unfold squash_Squash.f at h
  by_cases c1 : a0 > 2047
  · rw [if_pos c1] at h
    simp only [Option.some.injEq] at h
    subst h
    exact squash_Squash.far a0 w c1
  rw [if_neg c1] at h
  by_cases c2 : a0 < -2047
  · rw [if_pos c2] at h
    simp only [Option.some.injEq] at h
    subst h
    exact squash_Squash.low a0 w c2
  · rw [if_neg c2] at h
    simp only [Option.some.injEq] at h
    subst h
    exact squash_Squash.in_ a0 w hT (by omega) (by omega)
theorem squash_Squash.calls (a0 : Int) (r : Int) (w : World) (hT : Tab_ w) (h : squash_Squash.f a0 = some r) :
    Calls Tryd.prog 10 #[.int .i32 a0] w fun e w' => e = .returned (.int .i32 r) ∧ Drawn0 w w' := by
  refine (squash_Squash.quiet a0 r w hT h).mono ?_
  rintro e w' ⟨rfl, m, rfl⟩
  exact ⟨rfl, ⟨m, rfl⟩⟩
def sq (d : Int) : Int := if d > 2047 then 4095 else if d < -2047 then 0 else squash_Squash.mid d
theorem sq_f (d : Int) : squash_Squash.f d = some (sq d) := by
  unfold squash_Squash.f sq
  split
  · rfl
  · split <;> rfl

/-! ### squash_Stretch: function 14 -/
theorem sq_steps : ∀ i j : Fin 64, ((i.val : Int) * 64 + j.val < 4093) → sq ((i.val : Int) * 64 + j.val - 2047) ≤ sq ((i.val : Int) * 64 + j.val + 1 - 2047) := by decide +kernel
theorem sq_step (i : Nat) (h : i < 4093) : sq ((i : Int) - 2047) ≤ sq ((i : Int) + 1 - 2047) := by
  have := sq_steps ⟨i / 64, by omega⟩ ⟨i % 64, by omega⟩
  dsimp only at this
  rw [show ((i / 64 : Nat) : Int) * 64 + ((i % 64 : Nat) : Int) = (i : Int) from by omega] at this
  exact this (by omega)
theorem sq_mono (a b : Nat) (h : a ≤ b) (hb : b < 4094) : sq ((a : Int) - 2047) ≤ sq ((b : Int) - 2047) := by
  induction b with
  | zero => obtain rfl : a = 0 := by omega
            exact Int.le_refl _
  | succ b ih =>
    by_cases e : a = b + 1
    · subst e; exact Int.le_refl _
    · exact Int.le_trans (ih (by omega) (by omega)) (by have := sq_step b (by omega); simpa using this)
/-- How many of the numbers from -2047 to 2046 are squashed to less. -/
def lessS (p : Int) : Nat := (List.range 4094).countP fun i : Nat => decide (sq ((i : Int) - 2047) < p)
def squash_Stretch.f (a0 : Int) : Option (Int) := some ((lessS a0 : Int) - 2047)
theorem squash_Stretch.cl (p : Int) (W : World) (B : Nat) (hT : Tab_ W) (hc : W.cell? ⟨B, 0, none⟩ = some (.int .i32 p)) (i : Nat) (hi : i < 4094) :
    Calls Tryd.prog 18 #[.int .i64 i, .pointer (some ⟨B, 0, none⟩)] W fun e w' => e = .returned (.bool (decide (p ≤ sq ((i : Int) - 2047)))) ∧ Below W.heap.size W w' := by
  have hB := World.block_lt_of_cell? _ _ hc
  have hS : ∀ n, Calls Tryd.prog 10 #[.int .i32 ((i : Int) - 2047)] (W.drewN n) fun e w' => e = .returned (.int .i32 (sq ((i : Int) - 2047))) ∧ ∃ m, w' = (W.drewN n).drewN m := fun n => squash_Squash.quiet _ _ _ (tab_bel hT (pw_below_drewN (Below.refl _ _) n)) (sq_f _)
  clear hT
  have i0 : (0 : Int) ≤ (i : Int) := by omega
  have i1 : (i : Int) < 4094 := by omega
  go_enter Tryd.func18, Tryd.ntmps18
  go_wp2
  have iw : wrap32 ((i : Int)) = (i : Int) := by rw [wrap32]; omega
  have iw2 : wrap32 ((i : Int) - 2047) = (i : Int) - 2047 := by rw [wrap32]; omega
  go_quiet (first | (go_at_call 10; exact Calls.quiet_of (hS _)))
  go_wp2
  go_ret
  exact ⟨rfl, pw_below_drewN (Below.refl _ _) _⟩
theorem squash_Stretch.countP_cut (q : Nat → Bool) (n k : Nat) (hk : k ≤ n) (h0 : ∀ t, t < k → q t = true) (h1 : ∀ t, k ≤ t → t < n → q t = false) : (List.range n).countP q = k := by
  induction n with
  | zero => obtain rfl : k = 0 := by omega
            rfl
  | succ n ih =>
    rw [List.range_succ, List.countP_append]
    by_cases e : k = n + 1
    · subst e
      have : (List.range n).countP q = n := by
        rw [List.countP_eq_length.mpr (fun a ha => h0 a (by have := List.mem_range.mp ha; omega)), List.length_range]
      rw [this]
      simp [h0 n (by omega)]
    · rw [ih (by omega) (fun t a b => h1 t a (by omega))]
      simp [h1 n (by omega) (by omega)]
theorem squash_Stretch.search (p : Int) (w : World) (B : Nat) (hT : Tab_ w) (hc : w.cell? ⟨B, 0, none⟩ = some (.int .i32 p)) :
    Calls Tryd.prog 17 #[.int .i64 4094, .func (.func 18) #[] #[.pointer (some ⟨B, 0, none⟩)]] w fun e w' => e = .returned (.int .i64 (lessS p)) ∧ Below w.heap.size w w' := by
  have hB := World.block_lt_of_cell? _ _ hc
  have HF : Aside0 (∀ (W : World) (i : Nat), Below w.heap.size w W → i < 4094 → Calls Tryd.prog 18 #[.int .i64 i, .pointer (some ⟨B, 0, none⟩)] W fun e w' => e = .returned (.bool (decide (p ≤ sq ((i : Int) - 2047)))) ∧ Below W.heap.size W w') :=
    Aside0.mk fun W i b hi => squash_Stretch.cl p W B (tab_bel hT b) ((b.cell (p := ⟨B, 0, none⟩) hB).trans hc) i hi
  clear hT hc
  go_enter Tryd.func17, Tryd.ntmps17
  go_wp2
  go_loopg [5, 6] 4094 (fun kx s5 s6 wr => ∃ (lo hi : Nat), s5 = .int .i64 lo ∧ s6 = .int .i64 hi ∧ lo ≤ hi ∧ hi ≤ 4094 ∧ hi - lo ≤ kx ∧ Aside0 (Below w.heap.size w wr) ∧
    Aside0 ((∀ t : Nat, t < lo → sq ((t : Int) - 2047) < p) ∧ (∀ t : Nat, hi ≤ t → t < 4094 → p ≤ sq ((t : Int) - 2047))))
  case atStart => exact ⟨0, 4094, rfl, rfl, by omega, by omega, by omega, Aside0.mk (by repeat (first | exact Below.refl _ _ | apply below_alloc | apply pw_below_drewN | apply below_drew)), Aside0.mk ⟨fun t ht => absurd ht (Nat.not_lt_zero _), fun t h1 h2 => by omega⟩⟩
  case round =>
    obtain ⟨lo, hi, rfl, rfl, hlh, hin, hg, HB, I⟩ := hrel
    by_cases hlt : lo < hi
    · have hc := fun W b => HF.out W ((lo + hi) / 2) b (by omega)
      rw [show (((lo + hi) / 2 : Nat) : Int) = ((lo : Int) + (hi : Int)) / 2 by omega] at hc
      by_cases hp : p ≤ sq (((lo : Int) + (hi : Int)) / 2 - 2047)
      · rw [decide_eq_true hp] at hc
        have HP := Aside0.mk hp
        clear hp
        go_wp2_with (go_at_call 18; refine (hc _ (by repeat (first | exact HB.out | apply below_alloc | apply pw_below_drewN | apply below_drew))).mono ?_; rintro e w' ⟨rfl, hb⟩; have n0_ := Aside0.mk (below_step (by repeat (first | exact HB.out | apply below_alloc | apply pw_below_drewN | apply below_drew)) hb); clear HB; have HB := n0_; clear n0_ hb)
        go_roundg ((lo + hi) / 2 - lo)
        case measure => omega
        case rel =>
          exact ⟨lo, (lo + hi) / 2, rfl, by rw [show ((lo : Int) + (hi : Int)) / 2 = (((lo + hi) / 2 : Nat) : Int) by omega], by omega, by omega, Nat.le_refl _, Aside0.mk (by repeat (first | exact HB.out | apply below_alloc | apply pw_below_drewN | apply below_drew)), Aside0.mk ⟨I.out.1, fun t h1 h2 => by
            have h3 := sq_mono ((lo + hi) / 2) t h1 h2
            have h4 := HP.out
            rw [show ((lo : Int) + (hi : Int)) / 2 = (((lo + hi) / 2 : Nat) : Int) by omega] at h4
            exact Int.le_trans h4 h3⟩⟩
      · rw [decide_eq_false hp] at hc
        have HP := Aside0.mk hp
        clear hp
        go_wp2_with (go_at_call 18; refine (hc _ (by repeat (first | exact HB.out | apply below_alloc | apply pw_below_drewN | apply below_drew))).mono ?_; rintro e w' ⟨rfl, hb⟩; have n0_ := Aside0.mk (below_step (by repeat (first | exact HB.out | apply below_alloc | apply pw_below_drewN | apply below_drew)) hb); clear HB; have HB := n0_; clear n0_ hb)
        go_roundg (hi - ((lo + hi) / 2 + 1))
        case measure => omega
        case rel =>
          exact ⟨(lo + hi) / 2 + 1, hi, by rw [show ((lo : Int) + (hi : Int)) / 2 + 1 = (((lo + hi) / 2 + 1 : Nat) : Int) by omega], rfl, by omega, hin, Nat.le_refl _, Aside0.mk (by repeat (first | exact HB.out | apply below_alloc | apply pw_below_drewN | apply below_drew)), Aside0.mk ⟨fun t ht => by
            have h3 := sq_mono t ((lo + hi) / 2) (by omega) (by omega)
            have h4 := HP.out
            rw [show ((lo : Int) + (hi : Int)) / 2 = (((lo + hi) / 2 : Nat) : Int) by omega] at h4
            omega, I.out.2⟩⟩
    · obtain rfl : hi = lo := by omega
      have ec : lessS p = hi := squash_Stretch.countP_cut _ 4094 hi hin (fun t ht => decide_eq_true (I.out.1 t ht)) (fun t h1 h2 => decide_eq_false (by have := I.out.2 t h1 h2; omega))
      have EC := Aside0.mk ec
      clear ec
      go_wp2
      go_ret
      exact ⟨by rw [EC.out]; rfl, by repeat (first | exact HB.out | apply below_alloc | apply pw_below_drewN | apply below_drew)⟩
theorem squash_Stretch.calls (a0 : Int) (r : Int) (w : World) (hT : Tab_ w) (h : squash_Stretch.f a0 = some r) :
    Calls Tryd.prog 14 #[.int .i32 a0] w fun e w' => e = .returned (.int .i32 r) ∧ Below w.heap.size w w' := by
  have hb4 : lessS a0 ≤ 4094 := by
    have := List.countP_le_length (p := fun i : Nat => decide (sq ((i : Int) - 2047) < a0)) (l := List.range 4094)
    rw [List.length_range] at this
    exact this
  simp only [squash_Stretch.f, Option.some.injEq] at h
  subst h
  have hS : Aside0 (∀ (W : World) (B : Nat), Below w.heap.size w W → W.cell? ⟨B, 0, none⟩ = some (.int .i32 a0) → Calls Tryd.prog 17 #[.int .i64 4094, .func (.func 18) #[] #[.pointer (some ⟨B, 0, none⟩)]] W fun e w' => e = .returned (.int .i64 (lessS a0)) ∧ Below W.heap.size W w') :=
    Aside0.mk fun W B b c => squash_Stretch.search a0 W B (tab_bel hT b) c
  clear hT
  generalize lessS a0 = q at hS hb4 ⊢
  have iw : wrap32 ((q : Int)) = (q : Int) := by rw [wrap32]; omega
  have iw2 : wrap32 ((q : Int) - 2047) = (q : Int) - 2047 := by rw [wrap32]; omega
  go_enter Tryd.func14, Tryd.ntmps14
  go_wp2_with (go_at_call 17; refine (hS.out _ _ (by repeat (first | exact Below.refl _ _ | apply below_alloc | apply pw_below_drewN | apply below_drew)) (by simp)).mono ?_; rintro e w' ⟨rfl, hb⟩)
  go_ret
  exact ⟨rfl, below_step (by repeat (first | exact Below.refl _ _ | apply below_alloc | apply pw_below_drewN | apply below_drew)) hb⟩

/-! ### bitloftref04_Row: function 13 -/
def bitloftref04_Row.f  : Option (Int × Int × Int × Int × Int × Int × Int × Int × Int × Int × Int × Int × Int × Int × Int × Int × Int × Int × Int × Int × Int × Int × Int × Int × Int × Int × Int × Int × Int × Int × Int × Int × Int) := some (1, 2, 3, 6, 10, 16, 27, 45, 73, 120, 194, 310, 488, 747, 1101, 1546, 2047, 2549, 2994, 3348, 3607, 3785, 3901, 3975, 4022, 4050, 4068, 4079, 4085, 4089, 4092, 4093, 4094)
set_option maxHeartbeats 8000000 in
set_option maxRecDepth 100000 in
theorem bitloftref04_Row.calls  (r1 : Int) (r2 : Int) (r3 : Int) (r4 : Int) (r5 : Int) (r6 : Int) (r7 : Int) (r8 : Int) (r9 : Int) (r10 : Int) (r11 : Int) (r12 : Int) (r13 : Int) (r14 : Int) (r15 : Int) (r16 : Int) (r17 : Int) (r18 : Int) (r19 : Int) (r20 : Int) (r21 : Int) (r22 : Int) (r23 : Int) (r24 : Int) (r25 : Int) (r26 : Int) (r27 : Int) (r28 : Int) (r29 : Int) (r30 : Int) (r31 : Int) (r32 : Int) (r33 : Int) (w : World) (h : bitloftref04_Row.f  = some (r1, r2, r3, r4, r5, r6, r7, r8, r9, r10, r11, r12, r13, r14, r15, r16, r17, r18, r19, r20, r21, r22, r23, r24, r25, r26, r27, r28, r29, r30, r31, r32, r33)) :
    Calls Tryd.prog 13 #[] w fun e w' => e = .returned (.agg #[.int .i32 r1, .int .i32 r2, .int .i32 r3, .int .i32 r4, .int .i32 r5, .int .i32 r6, .int .i32 r7, .int .i32 r8, .int .i32 r9, .int .i32 r10, .int .i32 r11, .int .i32 r12, .int .i32 r13, .int .i32 r14, .int .i32 r15, .int .i32 r16, .int .i32 r17, .int .i32 r18, .int .i32 r19, .int .i32 r20, .int .i32 r21, .int .i32 r22, .int .i32 r23, .int .i32 r24, .int .i32 r25, .int .i32 r26, .int .i32 r27, .int .i32 r28, .int .i32 r29, .int .i32 r30, .int .i32 r31, .int .i32 r32, .int .i32 r33]) ∧ Below w.heap.size w w' := by
  have hu23 := Tryd.underlying23
  have HB := Aside0.mk (Below.refl w.heap.size w)
  have H : (some (1, 2, 3, 6, 10, 16, 27, 45, 73, 120, 194, 310, 488, 747, 1101, 1546, 2047, 2549, 2994, 3348, 3607, 3785, 3901, 3975, 4022, 4050, 4068, 4079, 4085, 4089, 4092, 4093, 4094)) = some (r1, r2, r3, r4, r5, r6, r7, r8, r9, r10, r11, r12, r13, r14, r15, r16, r17, r18, r19, r20, r21, r22, r23, r24, r25, r26, r27, r28, r29, r30, r31, r32, r33) := h
  clear h
  simp only [Option.some.injEq, Prod.mk.injEq] at H
  obtain ⟨rfl, rfl, rfl, rfl, rfl, rfl, rfl, rfl, rfl, rfl, rfl, rfl, rfl, rfl, rfl, rfl, rfl, rfl, rfl, rfl, rfl, rfl, rfl, rfl, rfl, rfl, rfl, rfl, rfl, rfl, rfl, rfl, rfl⟩ := H
  go_enter Tryd.func13, Tryd.ntmps13
  go_wp2_with (first | ((with_reducible refine gate_dst (N := 0) rfl ?_); refine box_event ?hg (N := 0) ?hd (cs := #[.int .i32 0, .int .i32 0, .int .i32 0, .int .i32 0, .int .i32 0, .int .i32 0, .int .i32 0, .int .i32 0, .int .i32 0, .int .i32 0, .int .i32 0, .int .i32 0, .int .i32 0, .int .i32 0, .int .i32 0, .int .i32 0, .int .i32 0, .int .i32 0, .int .i32 0, .int .i32 0, .int .i32 0, .int .i32 0, .int .i32 0, .int .i32 0, .int .i32 0, .int .i32 0, .int .i32 0, .int .i32 0, .int .i32 0, .int .i32 0, .int .i32 0, .int .i32 0, .int .i32 0]) (t := 23) ?hr ?_; (case hd => rfl); (case hg => rfl); (case hr => first | (go_simp; done) | (go_simp; rfl)); intro gb101 hg w1 hbox hb; have n0_ := Aside0.mk (below_step (by repeat (first | (with_reducible first | exact HB.out | apply below_alloc | apply bN_ | apply below_drew1) | exact HB.out)) hb); have n1_ := Aside0.mk (hbox); have n2_ := Aside0.mk ((by rw [hg]; exact (below_size (by repeat (first | (with_reducible first | exact HB.out | apply below_alloc | apply bN_ | apply below_drew1) | exact HB.out))) : w.heap.size ≤ gb101)); have n3_ := Aside0.mk ((by rw [hg]; exact (below_size (by repeat (first | (with_reducible first | exact HB.out | apply below_alloc | apply bN_ | apply below_drew1) | exact HB.out))) : w.heap.size ≤ gb101)); clear HB; have HB := n0_; have BK101 := n1_; have GW101 := n2_; have GE101 := n3_; clear n0_ n1_ n2_ n3_; clear hb hbox hg) | ((with_reducible refine gate_store (t := 23) (p := 0) rfl ?_); refine wstore_event (t := 23) (p := 0) (v := ?vo_w2) (cs := #[.int .i32 1, .int .i32 2, .int .i32 3, .int .i32 6, .int .i32 10, .int .i32 16, .int .i32 27, .int .i32 45, .int .i32 73, .int .i32 120, .int .i32 194, .int .i32 310, .int .i32 488, .int .i32 747, .int .i32 1101, .int .i32 1546, .int .i32 2047, .int .i32 2549, .int .i32 2994, .int .i32 3348, .int .i32 3607, .int .i32 3785, .int .i32 3901, .int .i32 3975, .int .i32 4022, .int .i32 4050, .int .i32 4068, .int .i32 4079, .int .i32 4085, .int .i32 4089, .int .i32 4092, .int .i32 4093, .int .i32 4094]) ?hg ?ho ?hn ?hx ?hy BK101.out (by kernel_rfl) (by rfl) (by rfl) ?_; (case ho => rfl); (case hg => rfl); (case hn => rfl); (case hx => first | rfl | (go_simp; done) | (go_simp; rfl)); (case hy => first | rfl | (go_simp; done) | (go_simp; rfl)); intro w2 hbox hg; have n0_ := Aside0.mk (hbox); have n1_ := Aside0.mk (pw_below_grown (by repeat (first | (with_reducible first | exact HB.out | apply below_alloc | apply bN_ | apply below_drew1 | refine below_set ?_ GE101.out) | exact HB.out)) _ ((below_size (by repeat (first | (with_reducible first | exact HB.out | apply below_alloc | apply bN_ | apply below_drew1 | refine below_set ?_ GE101.out) | exact HB.out)))) hg (fun k_ e_ => by injection e_ with e_; subst e_; exact GE101.out)); clear BK101; clear HB; have BK101 := n0_; have HB := n1_; clear n0_ n1_; clear hg hbox))
  refine bodyPost_ret (results_cell_row rfl _ _ gb101 23 #[.int .i32 1, .int .i32 2, .int .i32 3, .int .i32 6, .int .i32 10, .int .i32 16, .int .i32 27, .int .i32 45, .int .i32 73, .int .i32 120, .int .i32 194, .int .i32 310, .int .i32 488, .int .i32 747, .int .i32 1101, .int .i32 1546, .int .i32 2047, .int .i32 2549, .int .i32 2994, .int .i32 3348, .int .i32 3607, .int .i32 3785, .int .i32 3901, .int .i32 3975, .int .i32 4022, .int .i32 4050, .int .i32 4068, .int .i32 4079, .int .i32 4085, .int .i32 4089, .int .i32 4092, .int .i32 4093, .int .i32 4094] (0, 0) _ rfl (by (with_reducible repeat (first | refine blk_drewN ?_ _ | refine blk_drew ?_ | refine blk_alloc ?_ _)); exact BK101.out) Tryd.underlying23 rfl (by kernel_rfl)) rfl ?_
  exact ⟨by first | rfl | (simp [errW_none, errW_some] <;> rfl) | (simp [*, errW_none, errW_some] <;> rfl), by repeat (first | (with_reducible first | exact HB.out | apply below_alloc | apply bN_ | apply below_drew1 | refine below_set ?_ GE101.out) | exact HB.out)⟩

/-! ### bitloftref04_Squash: function 11 -/
def bitloftref04_Squash.f (a0 : Int) : Option (Int) := if a0 > 2047 then (some 4095) else (if a0 < (-2047) then (some 0) else (if 0 ≤ (wrap32 (Int.tdiv (wrap32 (a0 + 2048)) 128)) then (if (wrap32 (Int.tdiv (wrap32 (a0 + 2048)) 128)) < 33 then (if 0 ≤ (wrap32 ((wrap32 (Int.tdiv (wrap32 (a0 + 2048)) 128)) + 1)) then (if (wrap32 ((wrap32 (Int.tdiv (wrap32 (a0 + 2048)) 128)) + 1)) < 33 then (some (wrap32 (Int.tdiv (wrap32 ((wrap32 ((wrap32 ((rd [1, 2, 3, 6, 10, 16, 27, 45, 73, 120, 194, 310, 488, 747, 1101, 1546, 2047, 2549, 2994, 3348, 3607, 3785, 3901, 3975, 4022, 4050, 4068, 4079, 4085, 4089, 4092, 4093, 4094] (wrap32 (Int.tdiv (wrap32 (a0 + 2048)) 128))) * (wrap32 (128 - (Int.tmod (wrap32 (a0 + 2048)) 128))))) + (wrap32 ((rd [1, 2, 3, 6, 10, 16, 27, 45, 73, 120, 194, 310, 488, 747, 1101, 1546, 2047, 2549, 2994, 3348, 3607, 3785, 3901, 3975, 4022, 4050, 4068, 4079, 4085, 4089, 4092, 4093, 4094] (wrap32 ((wrap32 (Int.tdiv (wrap32 (a0 + 2048)) 128)) + 1))) * (Int.tmod (wrap32 (a0 + 2048)) 128))))) + 64)) 128))) else (none)) else (none)) else (none)) else (none)))
set_option maxHeartbeats 8000000 in
set_option maxRecDepth 100000 in
theorem bitloftref04_Squash.calls (a0 : Int) (r : Int) (w : World) (h : bitloftref04_Squash.f a0 = some r) :
    Calls Tryd.prog 11 #[.int .i32 a0] w fun e w' => e = .returned (.int .i32 r) ∧ Below w.heap.size w w' := by
  have hu23 := Tryd.underlying23
  have HB := Aside0.mk (Below.refl w.heap.size w)
  have H : (if a0 > 2047 then (some 4095) else (if a0 < (-2047) then (some 0) else (if 0 ≤ (wrap32 (Int.tdiv (wrap32 (a0 + 2048)) 128)) then (if (wrap32 (Int.tdiv (wrap32 (a0 + 2048)) 128)) < 33 then (if 0 ≤ (wrap32 ((wrap32 (Int.tdiv (wrap32 (a0 + 2048)) 128)) + 1)) then (if (wrap32 ((wrap32 (Int.tdiv (wrap32 (a0 + 2048)) 128)) + 1)) < 33 then (some (wrap32 (Int.tdiv (wrap32 ((wrap32 ((wrap32 ((rd [1, 2, 3, 6, 10, 16, 27, 45, 73, 120, 194, 310, 488, 747, 1101, 1546, 2047, 2549, 2994, 3348, 3607, 3785, 3901, 3975, 4022, 4050, 4068, 4079, 4085, 4089, 4092, 4093, 4094] (wrap32 (Int.tdiv (wrap32 (a0 + 2048)) 128))) * (wrap32 (128 - (Int.tmod (wrap32 (a0 + 2048)) 128))))) + (wrap32 ((rd [1, 2, 3, 6, 10, 16, 27, 45, 73, 120, 194, 310, 488, 747, 1101, 1546, 2047, 2549, 2994, 3348, 3607, 3785, 3901, 3975, 4022, 4050, 4068, 4079, 4085, 4089, 4092, 4093, 4094] (wrap32 ((wrap32 (Int.tdiv (wrap32 (a0 + 2048)) 128)) + 1))) * (Int.tmod (wrap32 (a0 + 2048)) 128))))) + 64)) 128))) else (none)) else (none)) else (none)) else (none)))) = some r := h
  clear h
  by_cases c2 : a0 > 2047
  · rw [if_pos c2] at H
    have c2b0 : decide (2047 < a0) = true := decide_eq_true c2
    clear c2
    obtain rfl := Option.some.inj H
    go_enter Tryd.func11, Tryd.ntmps11
    go_wp2
    repeat (go_quiet (fail); try go_wp2)
    go_ret
    exact ⟨by first | rfl | (simp [errW_none, errW_some] <;> rfl) | (simp [*, errW_none, errW_some] <;> rfl), by repeat (first | (with_reducible first | exact HB.out | apply below_alloc | apply bN_ | apply below_drew1) | exact HB.out)⟩
  · rw [if_neg c2] at H
    have c2b0 : decide (2047 < a0) = false := decide_eq_false c2
    clear c2
    by_cases c3 : a0 < (-2047)
    · rw [if_pos c3] at H
      have c3b0 : decide (a0 < (-2047)) = true := decide_eq_true c3
      clear c3
      obtain rfl := Option.some.inj H
      go_enter Tryd.func11, Tryd.ntmps11
      go_wp2
      repeat (go_quiet (fail); try go_wp2)
      go_ret
      exact ⟨by first | rfl | (simp [errW_none, errW_some] <;> rfl) | (simp [*, errW_none, errW_some] <;> rfl), by repeat (first | (with_reducible first | exact HB.out | apply below_alloc | apply bN_ | apply below_drew1) | exact HB.out)⟩
    · rw [if_neg c3] at H
      have c3b0 : decide (a0 < (-2047)) = false := decide_eq_false c3
      clear c3
      have A4 := Aside0.mk (show bitloftref04_Row.f = some (1, 2, 3, 6, 10, 16, 27, 45, 73, 120, 194, 310, 488, 747, 1101, 1546, 2047, 2549, 2994, 3348, 3607, 3785, 3901, 3975, 4022, 4050, 4068, 4079, 4085, 4089, 4092, 4093, 4094) by first | rfl | decide +kernel)
      obtain ⟨ji5, hji5⟩ : ∃ j_ : Int, (wrap32 (Int.tdiv (wrap32 (a0 + 2048)) 128)) = j_ := ⟨_, rfl⟩
      replace H : (if 0 ≤ (ji5) then (if (ji5) < 33 then (if 0 ≤ (wrap32 ((ji5) + 1)) then (if (wrap32 ((ji5) + 1)) < 33 then (some (wrap32 (Int.tdiv (wrap32 ((wrap32 ((wrap32 ((rd [1, 2, 3, 6, 10, 16, 27, 45, 73, 120, 194, 310, 488, 747, 1101, 1546, 2047, 2549, 2994, 3348, 3607, 3785, 3901, 3975, 4022, 4050, 4068, 4079, 4085, 4089, 4092, 4093, 4094] (ji5)) * (wrap32 (128 - (Int.tmod (wrap32 (a0 + 2048)) 128))))) + (wrap32 ((rd [1, 2, 3, 6, 10, 16, 27, 45, 73, 120, 194, 310, 488, 747, 1101, 1546, 2047, 2549, 2994, 3348, 3607, 3785, 3901, 3975, 4022, 4050, 4068, 4079, 4085, 4089, 4092, 4093, 4094] (wrap32 ((ji5) + 1))) * (Int.tmod (wrap32 (a0 + 2048)) 128))))) + 64)) 128))) else (none)) else (none)) else (none)) else (none)) = some r := by first | (rw [hji5] at H; exact H) | (simp only [hji5] at H ⊢; exact H)
      (try rw [hji5] at A4)
      have hji5w : (IntKind.i32.wrap (Int.tdiv (wrap32 (a0 + 2048)) 128)) = ji5 := (i32_w _).trans hji5
      by_cases c6 : 0 ≤ (ji5)
      · rw [if_pos c6] at H
        have c6b0 : decide (0 ≤ (ji5)) = true := decide_eq_true c6
        clear c6
        by_cases c7 : (ji5) < 33
        · rw [if_pos c7] at H
          have c7b0 : decide ((ji5) < 33) = true := decide_eq_true c7
          clear c7
          obtain ⟨ji8, hji8⟩ : ∃ j_ : Int, (wrap32 ((ji5) + 1)) = j_ := ⟨_, rfl⟩
          replace H : (if 0 ≤ (ji8) then (if (ji8) < 33 then (some (wrap32 (Int.tdiv (wrap32 ((wrap32 ((wrap32 ((rd [1, 2, 3, 6, 10, 16, 27, 45, 73, 120, 194, 310, 488, 747, 1101, 1546, 2047, 2549, 2994, 3348, 3607, 3785, 3901, 3975, 4022, 4050, 4068, 4079, 4085, 4089, 4092, 4093, 4094] (ji5)) * (wrap32 (128 - (Int.tmod (wrap32 (a0 + 2048)) 128))))) + (wrap32 ((rd [1, 2, 3, 6, 10, 16, 27, 45, 73, 120, 194, 310, 488, 747, 1101, 1546, 2047, 2549, 2994, 3348, 3607, 3785, 3901, 3975, 4022, 4050, 4068, 4079, 4085, 4089, 4092, 4093, 4094] (ji8)) * (Int.tmod (wrap32 (a0 + 2048)) 128))))) + 64)) 128))) else (none)) else (none)) = some r := by first | (rw [hji8] at H; exact H) | (simp only [hji8] at H ⊢; exact H)
          (try rw [hji8] at A4)
          have hji8w : (IntKind.i32.wrap ((ji5) + 1)) = ji8 := (i32_w _).trans hji8
          by_cases c9 : 0 ≤ (ji8)
          · rw [if_pos c9] at H
            have c9b0 : decide (0 ≤ (ji8)) = true := decide_eq_true c9
            clear c9
            by_cases c10 : (ji8) < 33
            · rw [if_pos c10] at H
              have c10b0 : decide ((ji8) < 33) = true := decide_eq_true c10
              clear c10
              obtain rfl := Option.some.inj H
              go_enter Tryd.func11, Tryd.ntmps11
              go_wp2_with (first | (go_at_call 13; (with_reducible refine (bitloftref04_Row.calls  1 2 3 6 10 16 27 45 73 120 194 310 488 747 1101 1546 2047 2549 2994 3348 3607 3785 3901 3975 4022 4050 4068 4079 4085 4089 4092 4093 4094 _ A4.out).mono ?_); rintro e w11 ⟨rfl, hb⟩; have n0_ := Aside0.mk (below_step (by repeat (first | (with_reducible first | exact HB.out | apply below_alloc | apply bN_ | apply below_drew1) | exact HB.out)) hb); clear HB; have HB := n0_; clear n0_; (try clear hb)) | ((with_reducible refine gate_dst (N := 4) rfl ?_); refine box_event ?hg (N := 4) ?hd (cs := #[.int .i32 0, .int .i32 0, .int .i32 0, .int .i32 0, .int .i32 0, .int .i32 0, .int .i32 0, .int .i32 0, .int .i32 0, .int .i32 0, .int .i32 0, .int .i32 0, .int .i32 0, .int .i32 0, .int .i32 0, .int .i32 0, .int .i32 0, .int .i32 0, .int .i32 0, .int .i32 0, .int .i32 0, .int .i32 0, .int .i32 0, .int .i32 0, .int .i32 0, .int .i32 0, .int .i32 0, .int .i32 0, .int .i32 0, .int .i32 0, .int .i32 0, .int .i32 0, .int .i32 0]) (t := 23) ?hr ?_; (case hd => rfl); (case hg => rfl); (case hr => first | (go_simp; done) | (go_simp; rfl)); intro gb102 hg w12 hbox hb; have n0_ := Aside0.mk (below_step (by repeat (first | (with_reducible first | exact HB.out | apply below_alloc | apply bN_ | apply below_drew1) | exact HB.out)) hb); have n1_ := Aside0.mk (hbox); have n2_ := Aside0.mk ((by rw [hg]; exact (below_size (by repeat (first | (with_reducible first | exact HB.out | apply below_alloc | apply bN_ | apply below_drew1) | exact HB.out))) : w.heap.size ≤ gb102)); have n3_ := Aside0.mk ((by rw [hg]; exact (below_size (by repeat (first | (with_reducible first | exact HB.out | apply below_alloc | apply bN_ | apply below_drew1) | exact HB.out))) : w.heap.size ≤ gb102)); clear HB; have HB := n0_; have BK102 := n1_; have GW102 := n2_; have GE102 := n3_; clear n0_ n1_ n2_ n3_; clear hb hbox hg) | ((with_reducible refine gate_store (t := 23) (p := 4) rfl ?_); (try (rw [drewN_self w12]; generalize hq_ : World.drewN w12 _ = w12; have n0_ := Aside0.mk (blk_at hq_ BK102.out); have n1_ := Aside0.mk (below_at hq_ HB.out); clear hq_ BK102 HB; have BK102 := n0_; have HB := n1_; clear n0_ n1_)); refine wstore_event (t := 23) (p := 4) (v := ?vo_w13) (cs := #[.int .i32 1, .int .i32 2, .int .i32 3, .int .i32 6, .int .i32 10, .int .i32 16, .int .i32 27, .int .i32 45, .int .i32 73, .int .i32 120, .int .i32 194, .int .i32 310, .int .i32 488, .int .i32 747, .int .i32 1101, .int .i32 1546, .int .i32 2047, .int .i32 2549, .int .i32 2994, .int .i32 3348, .int .i32 3607, .int .i32 3785, .int .i32 3901, .int .i32 3975, .int .i32 4022, .int .i32 4050, .int .i32 4068, .int .i32 4079, .int .i32 4085, .int .i32 4089, .int .i32 4092, .int .i32 4093, .int .i32 4094]) ?hg ?ho ?hn ?hx ?hy BK102.out (by kernel_rfl) (by rfl) (by rfl) ?_; (case ho => rfl); (case hg => rfl); (case hn => rfl); (case hx => first | rfl | (go_simp; done) | (go_simp; rfl)); (case hy => first | rfl | (go_simp; done) | (go_simp; rfl)); intro w13 hbox hg; have n0_ := Aside0.mk (hbox); have n1_ := Aside0.mk (pw_below_grown (by repeat (first | (with_reducible first | exact HB.out | apply below_alloc | apply bN_ | apply below_drew1 | refine below_set ?_ GE102.out) | exact HB.out)) _ ((below_size (by repeat (first | (with_reducible first | exact HB.out | apply below_alloc | apply bN_ | apply below_drew1 | refine below_set ?_ GE102.out) | exact HB.out)))) hg (fun k_ e_ => by injection e_ with e_; subst e_; exact GE102.out)); clear BK102; clear HB; have BK102 := n0_; have HB := n1_; clear n0_ n1_; clear hg hbox; have hcz14_0 : w13.cell? ⟨gb102, 0, none⟩ = some (.int .i32 1) := (blk_cell BK102.out 0).trans rfl; have hcz14_1 : w13.cell? ⟨gb102, 1, none⟩ = some (.int .i32 2) := (blk_cell BK102.out 1).trans rfl; have hcz14_2 : w13.cell? ⟨gb102, 2, none⟩ = some (.int .i32 3) := (blk_cell BK102.out 2).trans rfl; have hcz14_3 : w13.cell? ⟨gb102, 3, none⟩ = some (.int .i32 6) := (blk_cell BK102.out 3).trans rfl; have hcz14_4 : w13.cell? ⟨gb102, 4, none⟩ = some (.int .i32 10) := (blk_cell BK102.out 4).trans rfl; have hcz14_5 : w13.cell? ⟨gb102, 5, none⟩ = some (.int .i32 16) := (blk_cell BK102.out 5).trans rfl; have hcz14_6 : w13.cell? ⟨gb102, 6, none⟩ = some (.int .i32 27) := (blk_cell BK102.out 6).trans rfl; have hcz14_7 : w13.cell? ⟨gb102, 7, none⟩ = some (.int .i32 45) := (blk_cell BK102.out 7).trans rfl; have hcz14_8 : w13.cell? ⟨gb102, 8, none⟩ = some (.int .i32 73) := (blk_cell BK102.out 8).trans rfl; have hcz14_9 : w13.cell? ⟨gb102, 9, none⟩ = some (.int .i32 120) := (blk_cell BK102.out 9).trans rfl; have hcz14_10 : w13.cell? ⟨gb102, 10, none⟩ = some (.int .i32 194) := (blk_cell BK102.out 10).trans rfl; have hcz14_11 : w13.cell? ⟨gb102, 11, none⟩ = some (.int .i32 310) := (blk_cell BK102.out 11).trans rfl; have hcz14_12 : w13.cell? ⟨gb102, 12, none⟩ = some (.int .i32 488) := (blk_cell BK102.out 12).trans rfl; have hcz14_13 : w13.cell? ⟨gb102, 13, none⟩ = some (.int .i32 747) := (blk_cell BK102.out 13).trans rfl; have hcz14_14 : w13.cell? ⟨gb102, 14, none⟩ = some (.int .i32 1101) := (blk_cell BK102.out 14).trans rfl; have hcz14_15 : w13.cell? ⟨gb102, 15, none⟩ = some (.int .i32 1546) := (blk_cell BK102.out 15).trans rfl; have hcz14_16 : w13.cell? ⟨gb102, 16, none⟩ = some (.int .i32 2047) := (blk_cell BK102.out 16).trans rfl; have hcz14_17 : w13.cell? ⟨gb102, 17, none⟩ = some (.int .i32 2549) := (blk_cell BK102.out 17).trans rfl; have hcz14_18 : w13.cell? ⟨gb102, 18, none⟩ = some (.int .i32 2994) := (blk_cell BK102.out 18).trans rfl; have hcz14_19 : w13.cell? ⟨gb102, 19, none⟩ = some (.int .i32 3348) := (blk_cell BK102.out 19).trans rfl; have hcz14_20 : w13.cell? ⟨gb102, 20, none⟩ = some (.int .i32 3607) := (blk_cell BK102.out 20).trans rfl; have hcz14_21 : w13.cell? ⟨gb102, 21, none⟩ = some (.int .i32 3785) := (blk_cell BK102.out 21).trans rfl; have hcz14_22 : w13.cell? ⟨gb102, 22, none⟩ = some (.int .i32 3901) := (blk_cell BK102.out 22).trans rfl; have hcz14_23 : w13.cell? ⟨gb102, 23, none⟩ = some (.int .i32 3975) := (blk_cell BK102.out 23).trans rfl; have hcz14_24 : w13.cell? ⟨gb102, 24, none⟩ = some (.int .i32 4022) := (blk_cell BK102.out 24).trans rfl; have hcz14_25 : w13.cell? ⟨gb102, 25, none⟩ = some (.int .i32 4050) := (blk_cell BK102.out 25).trans rfl; have hcz14_26 : w13.cell? ⟨gb102, 26, none⟩ = some (.int .i32 4068) := (blk_cell BK102.out 26).trans rfl; have hcz14_27 : w13.cell? ⟨gb102, 27, none⟩ = some (.int .i32 4079) := (blk_cell BK102.out 27).trans rfl; have hcz14_28 : w13.cell? ⟨gb102, 28, none⟩ = some (.int .i32 4085) := (blk_cell BK102.out 28).trans rfl; have hcz14_29 : w13.cell? ⟨gb102, 29, none⟩ = some (.int .i32 4089) := (blk_cell BK102.out 29).trans rfl; have hcz14_30 : w13.cell? ⟨gb102, 30, none⟩ = some (.int .i32 4092) := (blk_cell BK102.out 30).trans rfl; have hcz14_31 : w13.cell? ⟨gb102, 31, none⟩ = some (.int .i32 4093) := (blk_cell BK102.out 31).trans rfl; have hcz14_32 : w13.cell? ⟨gb102, 32, none⟩ = some (.int .i32 4094) := (blk_cell BK102.out 32).trans rfl; have hfz14_0 := blk_frozen BK102.out 0; have hfz14_1 := blk_frozen BK102.out 1; have hfz14_2 := blk_frozen BK102.out 2; have hfz14_3 := blk_frozen BK102.out 3; have hfz14_4 := blk_frozen BK102.out 4; have hfz14_5 := blk_frozen BK102.out 5; have hfz14_6 := blk_frozen BK102.out 6; have hfz14_7 := blk_frozen BK102.out 7; have hfz14_8 := blk_frozen BK102.out 8; have hfz14_9 := blk_frozen BK102.out 9; have hfz14_10 := blk_frozen BK102.out 10; have hfz14_11 := blk_frozen BK102.out 11; have hfz14_12 := blk_frozen BK102.out 12; have hfz14_13 := blk_frozen BK102.out 13; have hfz14_14 := blk_frozen BK102.out 14; have hfz14_15 := blk_frozen BK102.out 15; have hfz14_16 := blk_frozen BK102.out 16; have hfz14_17 := blk_frozen BK102.out 17; have hfz14_18 := blk_frozen BK102.out 18; have hfz14_19 := blk_frozen BK102.out 19; have hfz14_20 := blk_frozen BK102.out 20; have hfz14_21 := blk_frozen BK102.out 21; have hfz14_22 := blk_frozen BK102.out 22; have hfz14_23 := blk_frozen BK102.out 23; have hfz14_24 := blk_frozen BK102.out 24; have hfz14_25 := blk_frozen BK102.out 25; have hfz14_26 := blk_frozen BK102.out 26; have hfz14_27 := blk_frozen BK102.out 27; have hfz14_28 := blk_frozen BK102.out 28; have hfz14_29 := blk_frozen BK102.out 29; have hfz14_30 := blk_frozen BK102.out 30; have hfz14_31 := blk_frozen BK102.out 31; have hfz14_32 := blk_frozen BK102.out 32; have hs15 : w13.cell? ⟨gb102, ((ji5) : Int).toNat, none⟩ = some (.int .i32 (rd [1, 2, 3, 6, 10, 16, 27, 45, 73, 120, 194, 310, 488, 747, 1101, 1546, 2047, 2549, 2994, 3348, 3607, 3785, 3901, 3975, 4022, 4050, 4068, 4079, 4085, 4089, 4092, 4093, 4094] (ji5))) := (blk_cell BK102.out _).trans (arr_sel_ .i32 (n := 33) [1, 2, 3, 6, 10, 16, 27, 45, 73, 120, 194, 310, 488, 747, 1101, 1546, 2047, 2549, 2994, 3348, 3607, 3785, 3901, 3975, 4022, 4050, 4068, 4079, 4085, 4089, 4092, 4093, 4094] rfl (of_decide_eq_true (by first | (with_reducible assumption) | assumption)) (of_decide_eq_true (by first | (with_reducible assumption) | assumption))); have pa15 : 0 ≤ ((ji5) : Int) := of_decide_eq_true (by first | (with_reducible assumption) | assumption); have qa15 : ((ji5) : Int) < 33 := of_decide_eq_true (by first | (with_reducible assumption) | assumption); replace pa15 := eq_true pa15; replace qa15 := eq_true qa15; have hs16 : w13.cell? ⟨gb102, ((ji8) : Int).toNat, none⟩ = some (.int .i32 (rd [1, 2, 3, 6, 10, 16, 27, 45, 73, 120, 194, 310, 488, 747, 1101, 1546, 2047, 2549, 2994, 3348, 3607, 3785, 3901, 3975, 4022, 4050, 4068, 4079, 4085, 4089, 4092, 4093, 4094] (ji8))) := (blk_cell BK102.out _).trans (arr_sel_ .i32 (n := 33) [1, 2, 3, 6, 10, 16, 27, 45, 73, 120, 194, 310, 488, 747, 1101, 1546, 2047, 2549, 2994, 3348, 3607, 3785, 3901, 3975, 4022, 4050, 4068, 4079, 4085, 4089, 4092, 4093, 4094] rfl (of_decide_eq_true (by first | (with_reducible assumption) | assumption)) (of_decide_eq_true (by first | (with_reducible assumption) | assumption))); have pa16 : 0 ≤ ((ji8) : Int) := of_decide_eq_true (by first | (with_reducible assumption) | assumption); have qa16 : ((ji8) : Int) < 33 := of_decide_eq_true (by first | (with_reducible assumption) | assumption); replace pa16 := eq_true pa16; replace qa16 := eq_true qa16))
              repeat (go_quiet (first | (go_at_call 13; (with_reducible refine (bitloftref04_Row.calls  1 2 3 6 10 16 27 45 73 120 194 310 488 747 1101 1546 2047 2549 2994 3348 3607 3785 3901 3975 4022 4050 4068 4079 4085 4089 4092 4093 4094 _ A4.out).mono ?_); rintro e w11 ⟨rfl, hb⟩; have n0_ := Aside0.mk (below_step (by repeat (first | (with_reducible first | exact HB.out | apply below_alloc | apply bN_ | apply below_drew1) | exact HB.out)) hb); clear HB; have HB := n0_; clear n0_; (try clear hb)) | ((with_reducible refine gate_dst (N := 4) rfl ?_); refine box_event ?hg (N := 4) ?hd (cs := #[.int .i32 0, .int .i32 0, .int .i32 0, .int .i32 0, .int .i32 0, .int .i32 0, .int .i32 0, .int .i32 0, .int .i32 0, .int .i32 0, .int .i32 0, .int .i32 0, .int .i32 0, .int .i32 0, .int .i32 0, .int .i32 0, .int .i32 0, .int .i32 0, .int .i32 0, .int .i32 0, .int .i32 0, .int .i32 0, .int .i32 0, .int .i32 0, .int .i32 0, .int .i32 0, .int .i32 0, .int .i32 0, .int .i32 0, .int .i32 0, .int .i32 0, .int .i32 0, .int .i32 0]) (t := 23) ?hr ?_; (case hd => rfl); (case hg => rfl); (case hr => first | (go_simp; done) | (go_simp; rfl)); intro gb102 hg w12 hbox hb; have n0_ := Aside0.mk (below_step (by repeat (first | (with_reducible first | exact HB.out | apply below_alloc | apply bN_ | apply below_drew1) | exact HB.out)) hb); have n1_ := Aside0.mk (hbox); have n2_ := Aside0.mk ((by rw [hg]; exact (below_size (by repeat (first | (with_reducible first | exact HB.out | apply below_alloc | apply bN_ | apply below_drew1) | exact HB.out))) : w.heap.size ≤ gb102)); have n3_ := Aside0.mk ((by rw [hg]; exact (below_size (by repeat (first | (with_reducible first | exact HB.out | apply below_alloc | apply bN_ | apply below_drew1) | exact HB.out))) : w.heap.size ≤ gb102)); clear HB; have HB := n0_; have BK102 := n1_; have GW102 := n2_; have GE102 := n3_; clear n0_ n1_ n2_ n3_; clear hb hbox hg) | ((with_reducible refine gate_store (t := 23) (p := 4) rfl ?_); (try (rw [drewN_self w12]; generalize hq_ : World.drewN w12 _ = w12; have n0_ := Aside0.mk (blk_at hq_ BK102.out); have n1_ := Aside0.mk (below_at hq_ HB.out); clear hq_ BK102 HB; have BK102 := n0_; have HB := n1_; clear n0_ n1_)); refine wstore_event (t := 23) (p := 4) (v := ?vo_w13) (cs := #[.int .i32 1, .int .i32 2, .int .i32 3, .int .i32 6, .int .i32 10, .int .i32 16, .int .i32 27, .int .i32 45, .int .i32 73, .int .i32 120, .int .i32 194, .int .i32 310, .int .i32 488, .int .i32 747, .int .i32 1101, .int .i32 1546, .int .i32 2047, .int .i32 2549, .int .i32 2994, .int .i32 3348, .int .i32 3607, .int .i32 3785, .int .i32 3901, .int .i32 3975, .int .i32 4022, .int .i32 4050, .int .i32 4068, .int .i32 4079, .int .i32 4085, .int .i32 4089, .int .i32 4092, .int .i32 4093, .int .i32 4094]) ?hg ?ho ?hn ?hx ?hy BK102.out (by kernel_rfl) (by rfl) (by rfl) ?_; (case ho => rfl); (case hg => rfl); (case hn => rfl); (case hx => first | rfl | (go_simp; done) | (go_simp; rfl)); (case hy => first | rfl | (go_simp; done) | (go_simp; rfl)); intro w13 hbox hg; have n0_ := Aside0.mk (hbox); have n1_ := Aside0.mk (pw_below_grown (by repeat (first | (with_reducible first | exact HB.out | apply below_alloc | apply bN_ | apply below_drew1 | refine below_set ?_ GE102.out) | exact HB.out)) _ ((below_size (by repeat (first | (with_reducible first | exact HB.out | apply below_alloc | apply bN_ | apply below_drew1 | refine below_set ?_ GE102.out) | exact HB.out)))) hg (fun k_ e_ => by injection e_ with e_; subst e_; exact GE102.out)); clear BK102; clear HB; have BK102 := n0_; have HB := n1_; clear n0_ n1_; clear hg hbox; have hcz14_0 : w13.cell? ⟨gb102, 0, none⟩ = some (.int .i32 1) := (blk_cell BK102.out 0).trans rfl; have hcz14_1 : w13.cell? ⟨gb102, 1, none⟩ = some (.int .i32 2) := (blk_cell BK102.out 1).trans rfl; have hcz14_2 : w13.cell? ⟨gb102, 2, none⟩ = some (.int .i32 3) := (blk_cell BK102.out 2).trans rfl; have hcz14_3 : w13.cell? ⟨gb102, 3, none⟩ = some (.int .i32 6) := (blk_cell BK102.out 3).trans rfl; have hcz14_4 : w13.cell? ⟨gb102, 4, none⟩ = some (.int .i32 10) := (blk_cell BK102.out 4).trans rfl; have hcz14_5 : w13.cell? ⟨gb102, 5, none⟩ = some (.int .i32 16) := (blk_cell BK102.out 5).trans rfl; have hcz14_6 : w13.cell? ⟨gb102, 6, none⟩ = some (.int .i32 27) := (blk_cell BK102.out 6).trans rfl; have hcz14_7 : w13.cell? ⟨gb102, 7, none⟩ = some (.int .i32 45) := (blk_cell BK102.out 7).trans rfl; have hcz14_8 : w13.cell? ⟨gb102, 8, none⟩ = some (.int .i32 73) := (blk_cell BK102.out 8).trans rfl; have hcz14_9 : w13.cell? ⟨gb102, 9, none⟩ = some (.int .i32 120) := (blk_cell BK102.out 9).trans rfl; have hcz14_10 : w13.cell? ⟨gb102, 10, none⟩ = some (.int .i32 194) := (blk_cell BK102.out 10).trans rfl; have hcz14_11 : w13.cell? ⟨gb102, 11, none⟩ = some (.int .i32 310) := (blk_cell BK102.out 11).trans rfl; have hcz14_12 : w13.cell? ⟨gb102, 12, none⟩ = some (.int .i32 488) := (blk_cell BK102.out 12).trans rfl; have hcz14_13 : w13.cell? ⟨gb102, 13, none⟩ = some (.int .i32 747) := (blk_cell BK102.out 13).trans rfl; have hcz14_14 : w13.cell? ⟨gb102, 14, none⟩ = some (.int .i32 1101) := (blk_cell BK102.out 14).trans rfl; have hcz14_15 : w13.cell? ⟨gb102, 15, none⟩ = some (.int .i32 1546) := (blk_cell BK102.out 15).trans rfl; have hcz14_16 : w13.cell? ⟨gb102, 16, none⟩ = some (.int .i32 2047) := (blk_cell BK102.out 16).trans rfl; have hcz14_17 : w13.cell? ⟨gb102, 17, none⟩ = some (.int .i32 2549) := (blk_cell BK102.out 17).trans rfl; have hcz14_18 : w13.cell? ⟨gb102, 18, none⟩ = some (.int .i32 2994) := (blk_cell BK102.out 18).trans rfl; have hcz14_19 : w13.cell? ⟨gb102, 19, none⟩ = some (.int .i32 3348) := (blk_cell BK102.out 19).trans rfl; have hcz14_20 : w13.cell? ⟨gb102, 20, none⟩ = some (.int .i32 3607) := (blk_cell BK102.out 20).trans rfl; have hcz14_21 : w13.cell? ⟨gb102, 21, none⟩ = some (.int .i32 3785) := (blk_cell BK102.out 21).trans rfl; have hcz14_22 : w13.cell? ⟨gb102, 22, none⟩ = some (.int .i32 3901) := (blk_cell BK102.out 22).trans rfl; have hcz14_23 : w13.cell? ⟨gb102, 23, none⟩ = some (.int .i32 3975) := (blk_cell BK102.out 23).trans rfl; have hcz14_24 : w13.cell? ⟨gb102, 24, none⟩ = some (.int .i32 4022) := (blk_cell BK102.out 24).trans rfl; have hcz14_25 : w13.cell? ⟨gb102, 25, none⟩ = some (.int .i32 4050) := (blk_cell BK102.out 25).trans rfl; have hcz14_26 : w13.cell? ⟨gb102, 26, none⟩ = some (.int .i32 4068) := (blk_cell BK102.out 26).trans rfl; have hcz14_27 : w13.cell? ⟨gb102, 27, none⟩ = some (.int .i32 4079) := (blk_cell BK102.out 27).trans rfl; have hcz14_28 : w13.cell? ⟨gb102, 28, none⟩ = some (.int .i32 4085) := (blk_cell BK102.out 28).trans rfl; have hcz14_29 : w13.cell? ⟨gb102, 29, none⟩ = some (.int .i32 4089) := (blk_cell BK102.out 29).trans rfl; have hcz14_30 : w13.cell? ⟨gb102, 30, none⟩ = some (.int .i32 4092) := (blk_cell BK102.out 30).trans rfl; have hcz14_31 : w13.cell? ⟨gb102, 31, none⟩ = some (.int .i32 4093) := (blk_cell BK102.out 31).trans rfl; have hcz14_32 : w13.cell? ⟨gb102, 32, none⟩ = some (.int .i32 4094) := (blk_cell BK102.out 32).trans rfl; have hfz14_0 := blk_frozen BK102.out 0; have hfz14_1 := blk_frozen BK102.out 1; have hfz14_2 := blk_frozen BK102.out 2; have hfz14_3 := blk_frozen BK102.out 3; have hfz14_4 := blk_frozen BK102.out 4; have hfz14_5 := blk_frozen BK102.out 5; have hfz14_6 := blk_frozen BK102.out 6; have hfz14_7 := blk_frozen BK102.out 7; have hfz14_8 := blk_frozen BK102.out 8; have hfz14_9 := blk_frozen BK102.out 9; have hfz14_10 := blk_frozen BK102.out 10; have hfz14_11 := blk_frozen BK102.out 11; have hfz14_12 := blk_frozen BK102.out 12; have hfz14_13 := blk_frozen BK102.out 13; have hfz14_14 := blk_frozen BK102.out 14; have hfz14_15 := blk_frozen BK102.out 15; have hfz14_16 := blk_frozen BK102.out 16; have hfz14_17 := blk_frozen BK102.out 17; have hfz14_18 := blk_frozen BK102.out 18; have hfz14_19 := blk_frozen BK102.out 19; have hfz14_20 := blk_frozen BK102.out 20; have hfz14_21 := blk_frozen BK102.out 21; have hfz14_22 := blk_frozen BK102.out 22; have hfz14_23 := blk_frozen BK102.out 23; have hfz14_24 := blk_frozen BK102.out 24; have hfz14_25 := blk_frozen BK102.out 25; have hfz14_26 := blk_frozen BK102.out 26; have hfz14_27 := blk_frozen BK102.out 27; have hfz14_28 := blk_frozen BK102.out 28; have hfz14_29 := blk_frozen BK102.out 29; have hfz14_30 := blk_frozen BK102.out 30; have hfz14_31 := blk_frozen BK102.out 31; have hfz14_32 := blk_frozen BK102.out 32; have hs15 : w13.cell? ⟨gb102, ((ji5) : Int).toNat, none⟩ = some (.int .i32 (rd [1, 2, 3, 6, 10, 16, 27, 45, 73, 120, 194, 310, 488, 747, 1101, 1546, 2047, 2549, 2994, 3348, 3607, 3785, 3901, 3975, 4022, 4050, 4068, 4079, 4085, 4089, 4092, 4093, 4094] (ji5))) := (blk_cell BK102.out _).trans (arr_sel_ .i32 (n := 33) [1, 2, 3, 6, 10, 16, 27, 45, 73, 120, 194, 310, 488, 747, 1101, 1546, 2047, 2549, 2994, 3348, 3607, 3785, 3901, 3975, 4022, 4050, 4068, 4079, 4085, 4089, 4092, 4093, 4094] rfl (of_decide_eq_true (by first | (with_reducible assumption) | assumption)) (of_decide_eq_true (by first | (with_reducible assumption) | assumption))); have pa15 : 0 ≤ ((ji5) : Int) := of_decide_eq_true (by first | (with_reducible assumption) | assumption); have qa15 : ((ji5) : Int) < 33 := of_decide_eq_true (by first | (with_reducible assumption) | assumption); replace pa15 := eq_true pa15; replace qa15 := eq_true qa15; have hs16 : w13.cell? ⟨gb102, ((ji8) : Int).toNat, none⟩ = some (.int .i32 (rd [1, 2, 3, 6, 10, 16, 27, 45, 73, 120, 194, 310, 488, 747, 1101, 1546, 2047, 2549, 2994, 3348, 3607, 3785, 3901, 3975, 4022, 4050, 4068, 4079, 4085, 4089, 4092, 4093, 4094] (ji8))) := (blk_cell BK102.out _).trans (arr_sel_ .i32 (n := 33) [1, 2, 3, 6, 10, 16, 27, 45, 73, 120, 194, 310, 488, 747, 1101, 1546, 2047, 2549, 2994, 3348, 3607, 3785, 3901, 3975, 4022, 4050, 4068, 4079, 4085, 4089, 4092, 4093, 4094] rfl (of_decide_eq_true (by first | (with_reducible assumption) | assumption)) (of_decide_eq_true (by first | (with_reducible assumption) | assumption))); have pa16 : 0 ≤ ((ji8) : Int) := of_decide_eq_true (by first | (with_reducible assumption) | assumption); have qa16 : ((ji8) : Int) < 33 := of_decide_eq_true (by first | (with_reducible assumption) | assumption); replace pa16 := eq_true pa16; replace qa16 := eq_true qa16)); try go_wp2_with (first | (go_at_call 13; (with_reducible refine (bitloftref04_Row.calls  1 2 3 6 10 16 27 45 73 120 194 310 488 747 1101 1546 2047 2549 2994 3348 3607 3785 3901 3975 4022 4050 4068 4079 4085 4089 4092 4093 4094 _ A4.out).mono ?_); rintro e w11 ⟨rfl, hb⟩; have n0_ := Aside0.mk (below_step (by repeat (first | (with_reducible first | exact HB.out | apply below_alloc | apply bN_ | apply below_drew1) | exact HB.out)) hb); clear HB; have HB := n0_; clear n0_; (try clear hb)) | ((with_reducible refine gate_dst (N := 4) rfl ?_); refine box_event ?hg (N := 4) ?hd (cs := #[.int .i32 0, .int .i32 0, .int .i32 0, .int .i32 0, .int .i32 0, .int .i32 0, .int .i32 0, .int .i32 0, .int .i32 0, .int .i32 0, .int .i32 0, .int .i32 0, .int .i32 0, .int .i32 0, .int .i32 0, .int .i32 0, .int .i32 0, .int .i32 0, .int .i32 0, .int .i32 0, .int .i32 0, .int .i32 0, .int .i32 0, .int .i32 0, .int .i32 0, .int .i32 0, .int .i32 0, .int .i32 0, .int .i32 0, .int .i32 0, .int .i32 0, .int .i32 0, .int .i32 0]) (t := 23) ?hr ?_; (case hd => rfl); (case hg => rfl); (case hr => first | (go_simp; done) | (go_simp; rfl)); intro gb102 hg w12 hbox hb; have n0_ := Aside0.mk (below_step (by repeat (first | (with_reducible first | exact HB.out | apply below_alloc | apply bN_ | apply below_drew1) | exact HB.out)) hb); have n1_ := Aside0.mk (hbox); have n2_ := Aside0.mk ((by rw [hg]; exact (below_size (by repeat (first | (with_reducible first | exact HB.out | apply below_alloc | apply bN_ | apply below_drew1) | exact HB.out))) : w.heap.size ≤ gb102)); have n3_ := Aside0.mk ((by rw [hg]; exact (below_size (by repeat (first | (with_reducible first | exact HB.out | apply below_alloc | apply bN_ | apply below_drew1) | exact HB.out))) : w.heap.size ≤ gb102)); clear HB; have HB := n0_; have BK102 := n1_; have GW102 := n2_; have GE102 := n3_; clear n0_ n1_ n2_ n3_; clear hb hbox hg) | ((with_reducible refine gate_store (t := 23) (p := 4) rfl ?_); (try (rw [drewN_self w12]; generalize hq_ : World.drewN w12 _ = w12; have n0_ := Aside0.mk (blk_at hq_ BK102.out); have n1_ := Aside0.mk (below_at hq_ HB.out); clear hq_ BK102 HB; have BK102 := n0_; have HB := n1_; clear n0_ n1_)); refine wstore_event (t := 23) (p := 4) (v := ?vo_w13) (cs := #[.int .i32 1, .int .i32 2, .int .i32 3, .int .i32 6, .int .i32 10, .int .i32 16, .int .i32 27, .int .i32 45, .int .i32 73, .int .i32 120, .int .i32 194, .int .i32 310, .int .i32 488, .int .i32 747, .int .i32 1101, .int .i32 1546, .int .i32 2047, .int .i32 2549, .int .i32 2994, .int .i32 3348, .int .i32 3607, .int .i32 3785, .int .i32 3901, .int .i32 3975, .int .i32 4022, .int .i32 4050, .int .i32 4068, .int .i32 4079, .int .i32 4085, .int .i32 4089, .int .i32 4092, .int .i32 4093, .int .i32 4094]) ?hg ?ho ?hn ?hx ?hy BK102.out (by kernel_rfl) (by rfl) (by rfl) ?_; (case ho => rfl); (case hg => rfl); (case hn => rfl); (case hx => first | rfl | (go_simp; done) | (go_simp; rfl)); (case hy => first | rfl | (go_simp; done) | (go_simp; rfl)); intro w13 hbox hg; have n0_ := Aside0.mk (hbox); have n1_ := Aside0.mk (pw_below_grown (by repeat (first | (with_reducible first | exact HB.out | apply below_alloc | apply bN_ | apply below_drew1 | refine below_set ?_ GE102.out) | exact HB.out)) _ ((below_size (by repeat (first | (with_reducible first | exact HB.out | apply below_alloc | apply bN_ | apply below_drew1 | refine below_set ?_ GE102.out) | exact HB.out)))) hg (fun k_ e_ => by injection e_ with e_; subst e_; exact GE102.out)); clear BK102; clear HB; have BK102 := n0_; have HB := n1_; clear n0_ n1_; clear hg hbox; have hcz14_0 : w13.cell? ⟨gb102, 0, none⟩ = some (.int .i32 1) := (blk_cell BK102.out 0).trans rfl; have hcz14_1 : w13.cell? ⟨gb102, 1, none⟩ = some (.int .i32 2) := (blk_cell BK102.out 1).trans rfl; have hcz14_2 : w13.cell? ⟨gb102, 2, none⟩ = some (.int .i32 3) := (blk_cell BK102.out 2).trans rfl; have hcz14_3 : w13.cell? ⟨gb102, 3, none⟩ = some (.int .i32 6) := (blk_cell BK102.out 3).trans rfl; have hcz14_4 : w13.cell? ⟨gb102, 4, none⟩ = some (.int .i32 10) := (blk_cell BK102.out 4).trans rfl; have hcz14_5 : w13.cell? ⟨gb102, 5, none⟩ = some (.int .i32 16) := (blk_cell BK102.out 5).trans rfl; have hcz14_6 : w13.cell? ⟨gb102, 6, none⟩ = some (.int .i32 27) := (blk_cell BK102.out 6).trans rfl; have hcz14_7 : w13.cell? ⟨gb102, 7, none⟩ = some (.int .i32 45) := (blk_cell BK102.out 7).trans rfl; have hcz14_8 : w13.cell? ⟨gb102, 8, none⟩ = some (.int .i32 73) := (blk_cell BK102.out 8).trans rfl; have hcz14_9 : w13.cell? ⟨gb102, 9, none⟩ = some (.int .i32 120) := (blk_cell BK102.out 9).trans rfl; have hcz14_10 : w13.cell? ⟨gb102, 10, none⟩ = some (.int .i32 194) := (blk_cell BK102.out 10).trans rfl; have hcz14_11 : w13.cell? ⟨gb102, 11, none⟩ = some (.int .i32 310) := (blk_cell BK102.out 11).trans rfl; have hcz14_12 : w13.cell? ⟨gb102, 12, none⟩ = some (.int .i32 488) := (blk_cell BK102.out 12).trans rfl; have hcz14_13 : w13.cell? ⟨gb102, 13, none⟩ = some (.int .i32 747) := (blk_cell BK102.out 13).trans rfl; have hcz14_14 : w13.cell? ⟨gb102, 14, none⟩ = some (.int .i32 1101) := (blk_cell BK102.out 14).trans rfl; have hcz14_15 : w13.cell? ⟨gb102, 15, none⟩ = some (.int .i32 1546) := (blk_cell BK102.out 15).trans rfl; have hcz14_16 : w13.cell? ⟨gb102, 16, none⟩ = some (.int .i32 2047) := (blk_cell BK102.out 16).trans rfl; have hcz14_17 : w13.cell? ⟨gb102, 17, none⟩ = some (.int .i32 2549) := (blk_cell BK102.out 17).trans rfl; have hcz14_18 : w13.cell? ⟨gb102, 18, none⟩ = some (.int .i32 2994) := (blk_cell BK102.out 18).trans rfl; have hcz14_19 : w13.cell? ⟨gb102, 19, none⟩ = some (.int .i32 3348) := (blk_cell BK102.out 19).trans rfl; have hcz14_20 : w13.cell? ⟨gb102, 20, none⟩ = some (.int .i32 3607) := (blk_cell BK102.out 20).trans rfl; have hcz14_21 : w13.cell? ⟨gb102, 21, none⟩ = some (.int .i32 3785) := (blk_cell BK102.out 21).trans rfl; have hcz14_22 : w13.cell? ⟨gb102, 22, none⟩ = some (.int .i32 3901) := (blk_cell BK102.out 22).trans rfl; have hcz14_23 : w13.cell? ⟨gb102, 23, none⟩ = some (.int .i32 3975) := (blk_cell BK102.out 23).trans rfl; have hcz14_24 : w13.cell? ⟨gb102, 24, none⟩ = some (.int .i32 4022) := (blk_cell BK102.out 24).trans rfl; have hcz14_25 : w13.cell? ⟨gb102, 25, none⟩ = some (.int .i32 4050) := (blk_cell BK102.out 25).trans rfl; have hcz14_26 : w13.cell? ⟨gb102, 26, none⟩ = some (.int .i32 4068) := (blk_cell BK102.out 26).trans rfl; have hcz14_27 : w13.cell? ⟨gb102, 27, none⟩ = some (.int .i32 4079) := (blk_cell BK102.out 27).trans rfl; have hcz14_28 : w13.cell? ⟨gb102, 28, none⟩ = some (.int .i32 4085) := (blk_cell BK102.out 28).trans rfl; have hcz14_29 : w13.cell? ⟨gb102, 29, none⟩ = some (.int .i32 4089) := (blk_cell BK102.out 29).trans rfl; have hcz14_30 : w13.cell? ⟨gb102, 30, none⟩ = some (.int .i32 4092) := (blk_cell BK102.out 30).trans rfl; have hcz14_31 : w13.cell? ⟨gb102, 31, none⟩ = some (.int .i32 4093) := (blk_cell BK102.out 31).trans rfl; have hcz14_32 : w13.cell? ⟨gb102, 32, none⟩ = some (.int .i32 4094) := (blk_cell BK102.out 32).trans rfl; have hfz14_0 := blk_frozen BK102.out 0; have hfz14_1 := blk_frozen BK102.out 1; have hfz14_2 := blk_frozen BK102.out 2; have hfz14_3 := blk_frozen BK102.out 3; have hfz14_4 := blk_frozen BK102.out 4; have hfz14_5 := blk_frozen BK102.out 5; have hfz14_6 := blk_frozen BK102.out 6; have hfz14_7 := blk_frozen BK102.out 7; have hfz14_8 := blk_frozen BK102.out 8; have hfz14_9 := blk_frozen BK102.out 9; have hfz14_10 := blk_frozen BK102.out 10; have hfz14_11 := blk_frozen BK102.out 11; have hfz14_12 := blk_frozen BK102.out 12; have hfz14_13 := blk_frozen BK102.out 13; have hfz14_14 := blk_frozen BK102.out 14; have hfz14_15 := blk_frozen BK102.out 15; have hfz14_16 := blk_frozen BK102.out 16; have hfz14_17 := blk_frozen BK102.out 17; have hfz14_18 := blk_frozen BK102.out 18; have hfz14_19 := blk_frozen BK102.out 19; have hfz14_20 := blk_frozen BK102.out 20; have hfz14_21 := blk_frozen BK102.out 21; have hfz14_22 := blk_frozen BK102.out 22; have hfz14_23 := blk_frozen BK102.out 23; have hfz14_24 := blk_frozen BK102.out 24; have hfz14_25 := blk_frozen BK102.out 25; have hfz14_26 := blk_frozen BK102.out 26; have hfz14_27 := blk_frozen BK102.out 27; have hfz14_28 := blk_frozen BK102.out 28; have hfz14_29 := blk_frozen BK102.out 29; have hfz14_30 := blk_frozen BK102.out 30; have hfz14_31 := blk_frozen BK102.out 31; have hfz14_32 := blk_frozen BK102.out 32; have hs15 : w13.cell? ⟨gb102, ((ji5) : Int).toNat, none⟩ = some (.int .i32 (rd [1, 2, 3, 6, 10, 16, 27, 45, 73, 120, 194, 310, 488, 747, 1101, 1546, 2047, 2549, 2994, 3348, 3607, 3785, 3901, 3975, 4022, 4050, 4068, 4079, 4085, 4089, 4092, 4093, 4094] (ji5))) := (blk_cell BK102.out _).trans (arr_sel_ .i32 (n := 33) [1, 2, 3, 6, 10, 16, 27, 45, 73, 120, 194, 310, 488, 747, 1101, 1546, 2047, 2549, 2994, 3348, 3607, 3785, 3901, 3975, 4022, 4050, 4068, 4079, 4085, 4089, 4092, 4093, 4094] rfl (of_decide_eq_true (by first | (with_reducible assumption) | assumption)) (of_decide_eq_true (by first | (with_reducible assumption) | assumption))); have pa15 : 0 ≤ ((ji5) : Int) := of_decide_eq_true (by first | (with_reducible assumption) | assumption); have qa15 : ((ji5) : Int) < 33 := of_decide_eq_true (by first | (with_reducible assumption) | assumption); replace pa15 := eq_true pa15; replace qa15 := eq_true qa15; have hs16 : w13.cell? ⟨gb102, ((ji8) : Int).toNat, none⟩ = some (.int .i32 (rd [1, 2, 3, 6, 10, 16, 27, 45, 73, 120, 194, 310, 488, 747, 1101, 1546, 2047, 2549, 2994, 3348, 3607, 3785, 3901, 3975, 4022, 4050, 4068, 4079, 4085, 4089, 4092, 4093, 4094] (ji8))) := (blk_cell BK102.out _).trans (arr_sel_ .i32 (n := 33) [1, 2, 3, 6, 10, 16, 27, 45, 73, 120, 194, 310, 488, 747, 1101, 1546, 2047, 2549, 2994, 3348, 3607, 3785, 3901, 3975, 4022, 4050, 4068, 4079, 4085, 4089, 4092, 4093, 4094] rfl (of_decide_eq_true (by first | (with_reducible assumption) | assumption)) (of_decide_eq_true (by first | (with_reducible assumption) | assumption))); have pa16 : 0 ≤ ((ji8) : Int) := of_decide_eq_true (by first | (with_reducible assumption) | assumption); have qa16 : ((ji8) : Int) < 33 := of_decide_eq_true (by first | (with_reducible assumption) | assumption); replace pa16 := eq_true pa16; replace qa16 := eq_true qa16)))
              go_ret
              exact ⟨by first | rfl | (simp [errW_none, errW_some] <;> rfl) | (simp only [← hji5, ← hji8]; first | rfl | (simp [errW_none, errW_some] <;> rfl)) | (simp [*, errW_none, errW_some] <;> rfl), by repeat (first | (with_reducible first | exact HB.out | apply below_alloc | apply bN_ | apply below_drew1 | refine below_set ?_ GE102.out) | exact HB.out)⟩
            · rw [if_neg c10] at H
              exact absurd H (by simp)
          · rw [if_neg c9] at H
            exact absurd H (by simp)
        · rw [if_neg c7] at H
          exact absurd H (by simp)
      · rw [if_neg c6] at H
        exact absurd H (by simp)

/-! ### bitloftref04_Stretch: function 15 -/
def bitloftref04_Stretch.l0 : Nat → Int → Int → Option (Int)
  | 0, _, _ => none
  | k + 1, x0, x3 => if x3 < 2047 then ((bitloftref04_Squash.f x3).bind fun t103 => (if t103 < x0 then (bitloftref04_Stretch.l0 k x0 (wrap32 (x3 + 1))) else (some x3))) else (some x3)
def bitloftref04_Stretch.f (k : Nat) (a0 : Int) : Option (Int) := bitloftref04_Stretch.l0 k a0 (-2047)
theorem bitloftref04_Stretch.mono_l : ∀ k, (∀ y0 y1, LeO (bitloftref04_Stretch.l0 k y0 y1) (bitloftref04_Stretch.l0 (k + 1) y0 y1))
  | 0 => fun _ _ r h => by simp [bitloftref04_Stretch.l0] at h
  | k + 1 => by
    have ih0 := bitloftref04_Stretch.mono_l k
    · intro y0 y1
      unfold bitloftref04_Stretch.l0
      repeat' first
      | (with_reducible exact ih0 _ _)
      | (with_reducible exact LeO.refl _)
      | (with_reducible exact LeO.none _)
      | (with_reducible refine LeO.ite ?_ ?_)
      | (with_reducible refine LeO.bind ?_ (fun _ => ?_))
      | exact ih0 _ _
      | exact LeO.none _
      | refine LeO.ite ?_ ?_
      | refine LeO.bind ?_ (fun _ => ?_)
theorem bitloftref04_Stretch.mono : ∀ a0 k, LeO (bitloftref04_Stretch.f k a0) (bitloftref04_Stretch.f (k + 1) a0) := by
  intro a0 k
  have ih0 := bitloftref04_Stretch.mono_l k
  unfold bitloftref04_Stretch.f
  repeat' first
      | (with_reducible exact ih0 _ _)
      | (with_reducible exact LeO.refl _)
      | (with_reducible exact LeO.none _)
      | (with_reducible refine LeO.ite ?_ ?_)
      | (with_reducible refine LeO.bind ?_ (fun _ => ?_))
      | exact ih0 _ _
      | exact LeO.none _
      | refine LeO.ite ?_ ?_
      | refine LeO.bind ?_ (fun _ => ?_)
set_option maxHeartbeats 8000000 in
set_option maxRecDepth 100000 in
theorem bitloftref04_Stretch.calls (k : Nat) (a0 : Int) (r : Int) (w : World) (h : bitloftref04_Stretch.f k a0 = some r) :
    Calls Tryd.prog 15 #[.int .i32 a0] w fun e w' => e = .returned (.int .i32 r) ∧ Below w.heap.size w w' := by
  have HB := Aside0.mk (Below.refl w.heap.size w)
  have H : (bitloftref04_Stretch.l0 k a0 (-2047)) = some r := h
  clear h
  have H' := Aside0.mk H
  clear H
  go_enter Tryd.func15, Tryd.ntmps15
  go_wp2
  go_loopg [3] k (fun kq v3 w' => ∃ (x3_1 : Int), v3 = .int .i32 x3_1 ∧ Aside0 (bitloftref04_Stretch.l0 kq a0 x3_1 = some r) ∧ Aside0 (kq ≤ k) ∧ Aside0 (Below w.heap.size w w'))
  case atStart => exact ⟨((-2047)), (by first | rfl | (simp; done) | (simp [*]; done)), H', ⟨Nat.le_refl _⟩, ⟨by repeat (first | (with_reducible first | exact HB.out | apply below_alloc | apply bN_ | apply below_drew1) | exact HB.out)⟩⟩
  case round =>
    clear H'
    try clear c1
    obtain ⟨x3_1, rfl, HA, HK1, HB⟩ := hrel
    cases gk with
    | zero => exact absurd HA.out (by simp [bitloftref04_Stretch.l0])
    | succ k1 =>
      have H := HA.out
      clear HA
      simp only [bitloftref04_Stretch.l0] at H
      by_cases c2 : x3_1 < 2047
      · rw [if_pos c2] at H
        have c2b0 : decide (x3_1 < 2047) = true := decide_eq_true c2
        clear c2
        replace H := Option.bind_eq_some_iff.mp H
        obtain ⟨t103, A30, H⟩ := H
        replace H : (if t103 < a0 then (bitloftref04_Stretch.l0 k1 a0 (wrap32 (x3_1 + 1))) else (some x3_1)) = some r := H
        have A3 := Aside0.mk A30
        clear A30
        by_cases c4 : t103 < a0
        · rw [if_pos c4] at H
          have c4b0 : decide (t103 < a0) = true := decide_eq_true c4
          clear c4
          have H' := Aside0.mk H
          clear H
          go_wp2_with (first | (go_at_call 11; (with_reducible refine (bitloftref04_Squash.calls x3_1 t103 _ A3.out).mono ?_); rintro e w5 ⟨rfl, hb⟩; have n0_ := Aside0.mk (below_step (by repeat (first | (with_reducible first | exact HB.out | apply below_alloc | apply bN_ | apply below_drew1) | exact HB.out)) hb); clear HB; have HB := n0_; clear n0_; (try clear hb)))
          go_roundg k1
          case measure => have := HK1.out; omega
          case rel => exact ⟨(wrap32 (x3_1 + 1)), (by first | rfl | (simp; done) | (simp [*]; done)), H', ⟨by have := HK1.out; omega⟩, ⟨by repeat (first | (with_reducible first | exact HB.out | apply below_alloc | apply bN_ | apply below_drew1) | exact HB.out)⟩⟩
        · rw [if_neg c4] at H
          have c4b0 : decide (t103 < a0) = false := decide_eq_false c4
          clear c4
          obtain rfl := Option.some.inj H
          go_wp2_with (first | (go_at_call 11; (with_reducible refine (bitloftref04_Squash.calls x3_1 t103 _ A3.out).mono ?_); rintro e w6 ⟨rfl, hb⟩; have n0_ := Aside0.mk (below_step (by repeat (first | (with_reducible first | exact HB.out | apply below_alloc | apply bN_ | apply below_drew1) | exact HB.out)) hb); clear HB; have HB := n0_; clear n0_; (try clear hb)))
          go_ret
          exact ⟨by first | rfl | (simp [errW_none, errW_some] <;> rfl) | (simp [*, errW_none, errW_some] <;> rfl), by repeat (first | (with_reducible first | exact HB.out | apply below_alloc | apply bN_ | apply below_drew1) | exact HB.out)⟩
      · rw [if_neg c2] at H
        have c2b0 : decide (x3_1 < 2047) = false := decide_eq_false c2
        clear c2
        obtain rfl := Option.some.inj H
        go_wp2
        go_ret
        exact ⟨by first | rfl | (simp [errW_none, errW_some] <;> rfl) | (simp [*, errW_none, errW_some] <;> rfl), by repeat (first | (with_reducible first | exact HB.out | apply below_alloc | apply bN_ | apply below_drew1) | exact HB.out)⟩

/-! ### bitloftlaw04_SquashStretches: function 4 -/
def bitloftlaw04_SquashStretches.f (k : Nat) (a0 : Int) : Option (Bool) := (squash_Stretch.f a0).bind fun t104 => ((bitloftref04_Stretch.f k a0).bind fun t105 => (some (t104 == t105)))
theorem bitloftlaw04_SquashStretches.mono : ∀ a0 k, LeO (bitloftlaw04_SquashStretches.f k a0) (bitloftlaw04_SquashStretches.f (k + 1) a0) := by
  intro a0 k
  unfold bitloftlaw04_SquashStretches.f
  repeat' first
      | (with_reducible exact bitloftref04_Stretch.mono _ _)
      | (with_reducible exact LeO.refl _)
      | (with_reducible exact LeO.none _)
      | (with_reducible refine LeO.ite ?_ ?_)
      | (with_reducible refine LeO.bind ?_ (fun _ => ?_))
      | exact bitloftref04_Stretch.mono _ _
      | exact LeO.none _
      | refine LeO.ite ?_ ?_
      | refine LeO.bind ?_ (fun _ => ?_)
set_option maxHeartbeats 8000000 in
set_option maxRecDepth 100000 in
theorem bitloftlaw04_SquashStretches.calls (k : Nat) (a0 : Int) (r : Bool) (w : World) (hT : Tab_ w) (h : bitloftlaw04_SquashStretches.f k a0 = some r) :
    Calls Tryd.prog 4 #[.int .i32 a0] w fun e w' => e = .returned (.bool r) ∧ Below w.heap.size w w' := by
  have HB := Aside0.mk (Below.refl w.heap.size w)
  have H : ((squash_Stretch.f a0).bind fun t104 => ((bitloftref04_Stretch.f k a0).bind fun t105 => (some (t104 == t105)))) = some r := h
  clear h
  replace H := Option.bind_eq_some_iff.mp H
  obtain ⟨t104, A20, H⟩ := H
  replace H : ((bitloftref04_Stretch.f k a0).bind fun t105 => (some (t104 == t105))) = some r := H
  have A2 := Aside0.mk A20
  clear A20
  replace H := Option.bind_eq_some_iff.mp H
  obtain ⟨t105, A30, H⟩ := H
  replace H : (some (t104 == t105)) = some r := H
  have A3 := Aside0.mk A30
  clear A30
  obtain rfl := Option.some.inj H
  go_enter Tryd.func4, Tryd.ntmps4
  go_wp2_with (first | ((with_reducible refine gate_callee (f := 14) rfl ?_); refine gL_ (some 4) Tryd.func14 #[.int .i32 a0] ?_; (with_reducible refine (squash_Stretch.calls a0 t104 _ (tab_bel hT (by repeat (first | (with_reducible first | exact HB.out | apply below_alloc | apply bN_ | apply below_drew1) | exact HB.out))) A2.out).mono ?_); rintro e w4 ⟨rfl, hb⟩; refine ⟨_, rfl, ?_⟩; have n0_ := Aside0.mk (below_step (by repeat (first | (with_reducible first | exact HB.out | apply below_alloc | apply bN_ | apply below_drew1) | exact HB.out)) hb); clear HB; have HB := n0_; clear n0_; (try clear hb)) | ((with_reducible refine gate_callee (f := 15) rfl ?_); refine gL_ (some 6) Tryd.func15 #[.int .i32 a0] ?_; (with_reducible refine (bitloftref04_Stretch.calls k a0 t105 _ A3.out).mono ?_); rintro e w5 ⟨rfl, hb⟩; refine ⟨_, rfl, ?_⟩; have n0_ := Aside0.mk (below_step (by repeat (first | (with_reducible first | exact HB.out | apply below_alloc | apply bN_ | apply below_drew1) | exact HB.out)) hb); clear HB; have HB := n0_; clear n0_; (try clear hb)))
  go_ret
  exact ⟨by first | rfl | (simp [errW_none, errW_some] <;> rfl) | (simp [*, errW_none, errW_some] <;> rfl), by repeat (first | (with_reducible first | exact HB.out | apply below_alloc | apply bN_ | apply below_drew1) | exact HB.out)⟩

/-- THE ONE PURE STATEMENT of bitloftlaw04_SquashStretches: yours. -/
def bitloftlaw04_SquashStretches.Pure : Prop := ∀ (a0 : Int), (Lit.int .i32 a0).wf = true → ∃ k, bitloftlaw04_SquashStretches.f k a0 = some true
theorem bitloftlaw04_SquashStretches.walk (P : bitloftlaw04_SquashStretches.Pure) (a0 : Int) (w : World) (w0 : (Lit.int .i32 a0).wf = true) (hT : Tab_ w) :
    Calls Tryd.prog 4 #[.int .i32 a0] w fun e w' => e = .returned (.bool true) ∧ Below w.heap.size w w' := by
  obtain ⟨k, h⟩ := P a0 w0
  refine (bitloftlaw04_SquashStretches.calls k a0 true w hT h).mono ?_
  rintro e w' ⟨rfl, hd⟩
  exact ⟨rfl, hd⟩

end Go.Proofs.YtimjmbaonkpmpaaDoor.XSquashStretches
