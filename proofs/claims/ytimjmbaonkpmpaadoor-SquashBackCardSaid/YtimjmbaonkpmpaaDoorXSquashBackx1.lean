-- Laid by a program of this session (wip/mkxprint.py, over the kit's print): Lean checks it.
import Derived.Test.YtimjmbaonkpmpaaDoorXSquashBackx0
namespace Go.Proofs.YtimjmbaonkpmpaaDoor.XSquashBack
open List (setIfInBounds_toArray set_cons_zero set_cons_succ)
open Go.RowKit Go.Proofs.YtimjmbaonkpmpaaDoorW.PrintWords Go.Proofs.YtimjmbaonkpmpaaDoorW.PrintLast Go.Proofs.YtimjmbaonkpmpaaDoorW.PrintMore
attribute [local go_sem] max2_int min2_int max_two min_two max_three min_three max_four min_four   -- for this text's walks alone
set_option linter.unusedVariables false
set_option linter.unusedSimpArgs false

/-! ### squash_Squash: function 10 -/
/-- The row. -/
def sqRow : List Int := [1, 2, 3, 6, 10, 16, 27, 45, 73, 120, 194, 310, 488, 747, 1101, 1546, 2047, 2549, 2994, 3348, 3607, 3785, 3901, 3975, 4022, 4050, 4068, 4079, 4085, 4089, 4092, 4093, 4094]
/-- What the package variable reads as. -/
structure Tab_ (w : World) : Prop where mk :: (out : ∀ i : Nat, i < 33 → w.cell? ⟨0, i, none⟩ = some (.int .i32 (rd sqRow (i : Int))))
theorem tab_bel {w w' : World} (h : Tab_ w) (b : Below w.heap.size w w') : Tab_ w' := ⟨fun i hi => by
  have c := h.out i hi
  exact (b.cell (p := ⟨0, i, none⟩) (World.block_lt_of_cell? w _ c)).trans c⟩
/-- A number between the places. -/
def squash_Squash.mid (d : Int) : Int := (rd sqRow (d / 128 + 16) * 128 + (rd sqRow (d / 128 + 17) - rd sqRow (d / 128 + 16)) * (d % 128) + 64) / 128
def squash_Squash.f (a0 : Int) : Option (Int) := if a0 > 2047 then some 4095 else if a0 < -2047 then some 0 else some (squash_Squash.mid a0)
theorem squash_Squash.far (a0 : Int) (w : World) (h : a0 > 2047) :
    Calls Tryd.prog 10 #[.int .i32 a0] w fun e w' => e = .returned (.int .i32 4095) ∧ ∃ m, w' = w.drewN m := by
  have h0 : decide (2047 < a0) = true := decide_eq_true h
  clear h
  go_enter Tryd.func10, Tryd.ntmps10
  go_wp2
  go_ret
  exact ⟨rfl, 0, rfl⟩
theorem squash_Squash.low (a0 : Int) (w : World) (h : a0 < -2047) :
    Calls Tryd.prog 10 #[.int .i32 a0] w fun e w' => e = .returned (.int .i32 0) ∧ ∃ m, w' = w.drewN m := by
  have h0 : decide (2047 < a0) = false := decide_eq_false (by omega)
  have h1 : decide (a0 < -2047) = true := decide_eq_true h
  clear h
  go_enter Tryd.func10, Tryd.ntmps10
  go_wp2
  go_ret
  exact ⟨rfl, 0, rfl⟩
theorem and127 (a : Int) : bits .and .i32 a 127 = a % 128 := by
  unfold bits
  show IntKind.i32.wrap ((BitVec.ofInt 32 a &&& BitVec.ofInt 32 127).toNat : Int) = _
  rw [BitVec.toNat_and, BitVec.toNat_ofInt, BitVec.toNat_ofInt]
  rw [show ((127 : Int) % ((2 ^ 32 : Nat) : Int)).toNat = 2 ^ 7 - 1 from by decide, Nat.and_two_pow_sub_one_eq_mod]
  rw [IntKind.wrap_i32]
  have : ((a % ((2 ^ 32 : Nat) : Int)).toNat : Int) = a % 4294967296 := by
    rw [Int.toNat_of_nonneg (Int.emod_nonneg _ (by decide))]; rfl
  rw [Int.natCast_emod, this]
  omega
theorem sq_rows : ∀ i : Fin 32, 0 ≤ rd sqRow (i.val : Int) ∧ rd sqRow (i.val : Int) ≤ 4094 ∧ 0 ≤ rd sqRow ((i.val : Int) + 1) - rd sqRow (i.val : Int) ∧ rd sqRow ((i.val : Int) + 1) - rd sqRow (i.val : Int) ≤ 503 := by decide +kernel
theorem squash_Squash.nest (a0 : Int) (i : Nat) (hi : a0 / 128 + 16 = (i : Int)) (hi0 : i < 32) :
    wrap32 (wrap32 (wrap32 (rd sqRow (i : Int) * 128) + wrap32 (wrap32 (rd sqRow ((i : Int) + 1) - rd sqRow (i : Int)) * (a0 % 128))) + 64) / 128 = squash_Squash.mid a0 := by
  unfold squash_Squash.mid
  rw [show a0 / 128 + 17 = (i : Int) + 1 from by omega, hi]
  have h := sq_rows ⟨i, hi0⟩
  dsimp only at h
  generalize rd sqRow (i : Int) = x at h ⊢
  generalize rd sqRow ((i : Int) + 1) = y at h ⊢
  have w0 : 0 ≤ a0 % 128 := by omega
  have w1 : a0 % 128 ≤ 127 := by omega
  generalize a0 % 128 = m at w0 w1 ⊢
  obtain ⟨q, hq⟩ : ∃ q, y - x = q := ⟨_, rfl⟩
  rw [hq] at h ⊢
  have p0 : 0 ≤ q * m := Int.mul_nonneg h.2.2.1 w0
  have p1 : q * m ≤ 503 * 127 := Int.mul_le_mul h.2.2.2 w1 w0 (by decide)
  have u : ∀ z : Int, -2147483648 ≤ z → z ≤ 2147483647 → wrap32 z = z := fun z a b => by unfold wrap32; omega
  rw [u q (by omega) (by omega)]
  generalize q * m = r at p0 p1 ⊢
  rw [u r (by omega) (by omega), u (x * 128) (by omega) (by omega), u (x * 128 + r) (by omega) (by omega), u (x * 128 + r + 64) (by omega) (by omega)]
theorem squash_Squash.in_ (a0 : Int) (w : World) (hT : Tab_ w) (h0 : -2047 ≤ a0) (h1 : a0 ≤ 2047) :
    Calls Tryd.prog 10 #[.int .i32 a0] w fun e w' => e = .returned (.int .i32 (squash_Squash.mid a0)) ∧ ∃ m, w' = w.drewN m := by
  obtain ⟨i, hi⟩ : ∃ i : Nat, a0 / 128 + 16 = (i : Int) := ⟨(a0 / 128 + 16).toNat, by omega⟩
  have hi0 : i < 32 := by omega
  have c0 := hT.out i (by omega)
  have c1 := hT.out (i + 1) (by omega)
  have e1 : bits .and .i32 a0 127 = a0 % 128 := and127 a0
  clear hT
  go_enter Tryd.func10, Tryd.ntmps10
  go_wp2
  (try rw [e1]); (try rw [hi])
  have iw : wrap32 ((i : Int) + 1) = ((i + 1 : Nat) : Int) := by rw [wrap32]; omega
  have j0 : (0 : Int) ≤ (i : Int) := by omega
  have j1 : (i : Int) < 33 := by omega
  have j2 : (0 : Int) ≤ ((i + 1 : Nat) : Int) := by omega
  have j3 : ((i + 1 : Nat) : Int) < 33 := by omega
  have eM := squash_Squash.nest a0 i hi hi0
  go_region
  go_wp2
  go_ret
  exact ⟨rfl, 1, rfl⟩
theorem squash_Squash.quiet (a0 : Int) (r : Int) (w : World) (hT : Tab_ w) (h : squash_Squash.f a0 = some r) :
    Calls Tryd.prog 10 #[.int .i32 a0] w fun e w' => e = .returned (.int .i32 r) ∧ ∃ m, w' = w.drewN m := by
  unfold squash_Squash.f at h
  by_cases c1 : a0 > 2047
  · rw [if_pos c1] at h
    simp only [Option.some.injEq] at h
    subst h
    exact squash_Squash.far a0 w c1
  rw [if_neg c1] at h
  by_cases c2 : a0 < -2047
  · rw [if_pos c2] at h
    simp only [Option.some.injEq] at h
    subst h
    exact squash_Squash.low a0 w c2
  · rw [if_neg c2] at h
    simp only [Option.some.injEq] at h
    subst h
    exact squash_Squash.in_ a0 w hT (by omega) (by omega)
theorem squash_Squash.calls (a0 : Int) (r : Int) (w : World) (hT : Tab_ w) (h : squash_Squash.f a0 = some r) :
    Calls Tryd.prog 10 #[.int .i32 a0] w fun e w' => e = .returned (.int .i32 r) ∧ Below w.heap.size w w' := by
  refine (squash_Squash.quiet a0 r w hT h).mono ?_
  rintro e w' ⟨rfl, m, rfl⟩
  exact ⟨rfl, pw_below_drewN (Below.refl _ _) m⟩

-- NOT PRINTED: function 17 (sort_Search)

/-! ### squash_Stretch: function 14 -/
def sq (d : Int) : Int := if d > 2047 then 4095 else if d < -2047 then 0 else squash_Squash.mid d
theorem sq_f (d : Int) : squash_Squash.f d = some (sq d) := by
  unfold squash_Squash.f sq
  split
  · rfl
  · split <;> rfl
theorem sq_steps : ∀ i j : Fin 64, ((i.val : Int) * 64 + j.val < 4093) → sq ((i.val : Int) * 64 + j.val - 2047) ≤ sq ((i.val : Int) * 64 + j.val + 1 - 2047) := by decide +kernel
theorem sq_step (i : Nat) (h : i < 4093) : sq ((i : Int) - 2047) ≤ sq ((i : Int) + 1 - 2047) := by
  have := sq_steps ⟨i / 64, by omega⟩ ⟨i % 64, by omega⟩
  dsimp only at this
  rw [show ((i / 64 : Nat) : Int) * 64 + ((i % 64 : Nat) : Int) = (i : Int) from by omega] at this
  exact this (by omega)
theorem sq_mono (a b : Nat) (h : a ≤ b) (hb : b < 4094) : sq ((a : Int) - 2047) ≤ sq ((b : Int) - 2047) := by
  induction b with
  | zero => obtain rfl : a = 0 := by omega
            exact Int.le_refl _
  | succ b ih =>
    by_cases e : a = b + 1
    · subst e; exact Int.le_refl _
    · exact Int.le_trans (ih (by omega) (by omega)) (by have := sq_step b (by omega); simpa using this)
/-- How many of the numbers from -2047 to 2046 are squashed to less. -/
def lessS (p : Int) : Nat := (List.range 4094).countP fun i : Nat => decide (sq ((i : Int) - 2047) < p)
def squash_Stretch.f (a0 : Int) : Option (Int) := some ((lessS a0 : Int) - 2047)
theorem squash_Stretch.cl (p : Int) (W : World) (B : Nat) (hT : Tab_ W) (hc : W.cell? ⟨B, 0, none⟩ = some (.int .i32 p)) (i : Nat) (hi : i < 4094) :
    Calls Tryd.prog 18 #[.int .i64 i, .pointer (some ⟨B, 0, none⟩)] W fun e w' => e = .returned (.bool (decide (p ≤ sq ((i : Int) - 2047)))) ∧ Below W.heap.size W w' := by
  have hB := World.block_lt_of_cell? _ _ hc
  have hS : ∀ n, Calls Tryd.prog 10 #[.int .i32 ((i : Int) - 2047)] (W.drewN n) fun e w' => e = .returned (.int .i32 (sq ((i : Int) - 2047))) ∧ ∃ m, w' = (W.drewN n).drewN m := fun n => squash_Squash.quiet _ _ _ (tab_bel hT (pw_below_drewN (Below.refl _ _) n)) (sq_f _)
  clear hT
  have i0 : (0 : Int) ≤ (i : Int) := by omega
  have i1 : (i : Int) < 4094 := by omega
  go_enter Tryd.func18, Tryd.ntmps18
  go_wp2
  have iw : wrap32 ((i : Int)) = (i : Int) := by rw [wrap32]; omega
  have iw2 : wrap32 ((i : Int) - 2047) = (i : Int) - 2047 := by rw [wrap32]; omega
  go_quiet (first | (go_at_call 10; exact Calls.quiet_of (hS _)))
  go_wp2
  go_ret
  exact ⟨rfl, pw_below_drewN (Below.refl _ _) _⟩
theorem squash_Stretch.countP_cut (q : Nat → Bool) (n k : Nat) (hk : k ≤ n) (h0 : ∀ t, t < k → q t = true) (h1 : ∀ t, k ≤ t → t < n → q t = false) : (List.range n).countP q = k := by
  induction n with
  | zero => obtain rfl : k = 0 := by omega
            rfl
  | succ n ih =>
    rw [List.range_succ, List.countP_append]
    by_cases e : k = n + 1
    · subst e
      have : (List.range n).countP q = n := by
        rw [List.countP_eq_length.mpr (fun a ha => h0 a (by have := List.mem_range.mp ha; omega)), List.length_range]
      rw [this]
      simp [h0 n (by omega)]
    · rw [ih (by omega) (fun t a b => h1 t a (by omega))]
      simp [h1 n (by omega) (by omega)]
theorem squash_Stretch.search (p : Int) (w : World) (B : Nat) (hT : Tab_ w) (hc : w.cell? ⟨B, 0, none⟩ = some (.int .i32 p)) :
    Calls Tryd.prog 17 #[.int .i64 4094, .func (.func 18) #[] #[.pointer (some ⟨B, 0, none⟩)]] w fun e w' => e = .returned (.int .i64 (lessS p)) ∧ Below w.heap.size w w' := by
  have hB := World.block_lt_of_cell? _ _ hc
  have HF : Aside0 (∀ (W : World) (i : Nat), Below w.heap.size w W → i < 4094 → Calls Tryd.prog 18 #[.int .i64 i, .pointer (some ⟨B, 0, none⟩)] W fun e w' => e = .returned (.bool (decide (p ≤ sq ((i : Int) - 2047)))) ∧ Below W.heap.size W w') :=
    Aside0.mk fun W i b hi => squash_Stretch.cl p W B (tab_bel hT b) ((b.cell (p := ⟨B, 0, none⟩) hB).trans hc) i hi
  clear hT hc
  go_enter Tryd.func17, Tryd.ntmps17
  go_wp2
  go_loopg [5, 6] 4094 (fun kx s5 s6 wr => ∃ (lo hi : Nat), s5 = .int .i64 lo ∧ s6 = .int .i64 hi ∧ lo ≤ hi ∧ hi ≤ 4094 ∧ hi - lo ≤ kx ∧ Aside0 (Below w.heap.size w wr) ∧
    Aside0 ((∀ t : Nat, t < lo → sq ((t : Int) - 2047) < p) ∧ (∀ t : Nat, hi ≤ t → t < 4094 → p ≤ sq ((t : Int) - 2047))))
  case atStart => exact ⟨0, 4094, rfl, rfl, by omega, by omega, by omega, Aside0.mk (by repeat (first | exact Below.refl _ _ | apply below_alloc | apply pw_below_drewN | apply below_drew)), Aside0.mk ⟨fun t ht => absurd ht (Nat.not_lt_zero _), fun t h1 h2 => by omega⟩⟩
  case round =>
    obtain ⟨lo, hi, rfl, rfl, hlh, hin, hg, HB, I⟩ := hrel
    by_cases hlt : lo < hi
    · have hc := fun W b => HF.out W ((lo + hi) / 2) b (by omega)
      rw [show (((lo + hi) / 2 : Nat) : Int) = ((lo : Int) + (hi : Int)) / 2 by omega] at hc
      by_cases hp : p ≤ sq (((lo : Int) + (hi : Int)) / 2 - 2047)
      · rw [decide_eq_true hp] at hc
        have HP := Aside0.mk hp
        clear hp
        go_wp2_with (go_at_call 18; refine (hc _ (by repeat (first | exact HB.out | apply below_alloc | apply pw_below_drewN | apply below_drew))).mono ?_; rintro e w' ⟨rfl, hb⟩; have n0_ := Aside0.mk (below_step (by repeat (first | exact HB.out | apply below_alloc | apply pw_below_drewN | apply below_drew)) hb); clear HB; have HB := n0_; clear n0_ hb)
        go_roundg ((lo + hi) / 2 - lo)
        case measure => omega
        case rel =>
          exact ⟨lo, (lo + hi) / 2, rfl, by rw [show ((lo : Int) + (hi : Int)) / 2 = (((lo + hi) / 2 : Nat) : Int) by omega], by omega, by omega, Nat.le_refl _, Aside0.mk (by repeat (first | exact HB.out | apply below_alloc | apply pw_below_drewN | apply below_drew)), Aside0.mk ⟨I.out.1, fun t h1 h2 => by
            have h3 := sq_mono ((lo + hi) / 2) t h1 h2
            have h4 := HP.out
            rw [show ((lo : Int) + (hi : Int)) / 2 = (((lo + hi) / 2 : Nat) : Int) by omega] at h4
            exact Int.le_trans h4 h3⟩⟩
      · rw [decide_eq_false hp] at hc
        have HP := Aside0.mk hp
        clear hp
        go_wp2_with (go_at_call 18; refine (hc _ (by repeat (first | exact HB.out | apply below_alloc | apply pw_below_drewN | apply below_drew))).mono ?_; rintro e w' ⟨rfl, hb⟩; have n0_ := Aside0.mk (below_step (by repeat (first | exact HB.out | apply below_alloc | apply pw_below_drewN | apply below_drew)) hb); clear HB; have HB := n0_; clear n0_ hb)
        go_roundg (hi - ((lo + hi) / 2 + 1))
        case measure => omega
        case rel =>
          exact ⟨(lo + hi) / 2 + 1, hi, by rw [show ((lo : Int) + (hi : Int)) / 2 + 1 = (((lo + hi) / 2 + 1 : Nat) : Int) by omega], rfl, by omega, hin, Nat.le_refl _, Aside0.mk (by repeat (first | exact HB.out | apply below_alloc | apply pw_below_drewN | apply below_drew)), Aside0.mk ⟨fun t ht => by
            have h3 := sq_mono t ((lo + hi) / 2) (by omega) (by omega)
            have h4 := HP.out
            rw [show ((lo : Int) + (hi : Int)) / 2 = (((lo + hi) / 2 : Nat) : Int) by omega] at h4
            omega, I.out.2⟩⟩
    · obtain rfl : hi = lo := by omega
      have ec : lessS p = hi := squash_Stretch.countP_cut _ 4094 hi hin (fun t ht => decide_eq_true (I.out.1 t ht)) (fun t h1 h2 => decide_eq_false (by have := I.out.2 t h1 h2; omega))
      have EC := Aside0.mk ec
      clear ec
      go_wp2
      go_ret
      exact ⟨by rw [EC.out]; rfl, by repeat (first | exact HB.out | apply below_alloc | apply pw_below_drewN | apply below_drew)⟩
theorem squash_Stretch.calls (a0 : Int) (r : Int) (w : World) (hT : Tab_ w) (h : squash_Stretch.f a0 = some r) :
    Calls Tryd.prog 14 #[.int .i32 a0] w fun e w' => e = .returned (.int .i32 r) ∧ Below w.heap.size w w' := by
  have hb4 : lessS a0 ≤ 4094 := by
    have := List.countP_le_length (p := fun i : Nat => decide (sq ((i : Int) - 2047) < a0)) (l := List.range 4094)
    rw [List.length_range] at this
    exact this
  simp only [squash_Stretch.f, Option.some.injEq] at h
  subst h
  have hS : Aside0 (∀ (W : World) (B : Nat), Below w.heap.size w W → W.cell? ⟨B, 0, none⟩ = some (.int .i32 a0) → Calls Tryd.prog 17 #[.int .i64 4094, .func (.func 18) #[] #[.pointer (some ⟨B, 0, none⟩)]] W fun e w' => e = .returned (.int .i64 (lessS a0)) ∧ Below W.heap.size W w') :=
    Aside0.mk fun W B b c => squash_Stretch.search a0 W B (tab_bel hT b) c
  clear hT
  generalize lessS a0 = q at hS hb4 ⊢
  have iw : wrap32 ((q : Int)) = (q : Int) := by rw [wrap32]; omega
  have iw2 : wrap32 ((q : Int) - 2047) = (q : Int) - 2047 := by rw [wrap32]; omega
  go_enter Tryd.func14, Tryd.ntmps14
  go_wp2_with (go_at_call 17; refine (hS.out _ _ (by repeat (first | exact Below.refl _ _ | apply below_alloc | apply pw_below_drewN | apply below_drew)) (by simp)).mono ?_; rintro e w' ⟨rfl, hb⟩)
  go_ret
  exact ⟨rfl, below_step (by repeat (first | exact Below.refl _ _ | apply below_alloc | apply pw_below_drewN | apply below_drew)) hb⟩

/-! ### bitloftlaw04_alive: function 16 -/
def bitloftlaw04_alive.f  : Option (Bool) := some (2047 == 2047)
set_option maxHeartbeats 8000000 in
set_option maxRecDepth 100000 in
theorem bitloftlaw04_alive.calls  (r : Bool) (w : World) (hT : Tab_ w) (h : bitloftlaw04_alive.f  = some r) :
    Calls Tryd.prog 16 #[] w fun e w' => e = .returned (.bool r) ∧ Below w.heap.size w w' := by
  have HB := Aside0.mk (Below.refl w.heap.size w)
  have H : (some (2047 == 2047)) = some r := h
  clear h
  have A1 := Aside0.mk (show squash_Squash.f 0 = some 2047 by decide +kernel)
  have A2 := Aside0.mk (show squash_Squash.f 128 = some 2549 by decide +kernel)
  have A3 := Aside0.mk (show squash_Squash.f 64 = some 2298 by decide +kernel)
  have A4 := Aside0.mk (show squash_Squash.f (-2047) = some 1 by decide +kernel)
  have A5 := Aside0.mk (show squash_Squash.f 2047 = some 4094 by decide +kernel)
  have A6 := Aside0.mk (show squash_Squash.f 2048 = some 4095 by decide +kernel)
  have A7 := Aside0.mk (show squash_Stretch.f 2047 = some 0 by decide +kernel)
  have A8 := Aside0.mk (show squash_Stretch.f 0 = some (-2047) by decide +kernel)
  have A9 := Aside0.mk (show squash_Stretch.f 1 = some (-2047) by decide +kernel)
  have A10 := Aside0.mk (show squash_Stretch.f 4095 = some 2047 by decide +kernel)
  obtain rfl := Option.some.inj H
  go_enter Tryd.func16, Tryd.ntmps16
  go_wp2_with (first | ((with_reducible refine gate_callee (f := 10) rfl ?_); refine gL_ (some 1) Tryd.func10 #[.int .i32 0] ?_; (with_reducible refine (squash_Squash.calls 0 2047 _ (tab_bel hT (by repeat (first | (with_reducible first | exact HB.out | apply below_alloc | apply bN_ | apply below_drew1) | exact HB.out))) A1.out).mono ?_); rintro e w11 ⟨rfl, hb⟩; refine ⟨_, rfl, ?_⟩; have n0_ := Aside0.mk (below_step (by repeat (first | (with_reducible first | exact HB.out | apply below_alloc | apply bN_ | apply below_drew1) | exact HB.out)) hb); clear HB; have HB := n0_; clear n0_; (try clear hb)) | (go_at_call 10; (with_reducible refine (squash_Squash.calls 128 2549 _ (tab_bel hT (by repeat (first | (with_reducible first | exact HB.out | apply below_alloc | apply bN_ | apply below_drew1) | exact HB.out))) A2.out).mono ?_); rintro e w12 ⟨rfl, hb⟩; have n0_ := Aside0.mk (below_step (by repeat (first | (with_reducible first | exact HB.out | apply below_alloc | apply bN_ | apply below_drew1) | exact HB.out)) hb); clear HB; have HB := n0_; clear n0_; (try clear hb)) | (go_at_call 10; (with_reducible refine (squash_Squash.calls 64 2298 _ (tab_bel hT (by repeat (first | (with_reducible first | exact HB.out | apply below_alloc | apply bN_ | apply below_drew1) | exact HB.out))) A3.out).mono ?_); rintro e w13 ⟨rfl, hb⟩; have n0_ := Aside0.mk (below_step (by repeat (first | (with_reducible first | exact HB.out | apply below_alloc | apply bN_ | apply below_drew1) | exact HB.out)) hb); clear HB; have HB := n0_; clear n0_; (try clear hb)) | (go_at_call 10; (with_reducible refine (squash_Squash.calls (-2047) 1 _ (tab_bel hT (by repeat (first | (with_reducible first | exact HB.out | apply below_alloc | apply bN_ | apply below_drew1) | exact HB.out))) A4.out).mono ?_); rintro e w14 ⟨rfl, hb⟩; have n0_ := Aside0.mk (below_step (by repeat (first | (with_reducible first | exact HB.out | apply below_alloc | apply bN_ | apply below_drew1) | exact HB.out)) hb); clear HB; have HB := n0_; clear n0_; (try clear hb)) | (go_at_call 10; (with_reducible refine (squash_Squash.calls 2047 4094 _ (tab_bel hT (by repeat (first | (with_reducible first | exact HB.out | apply below_alloc | apply bN_ | apply below_drew1) | exact HB.out))) A5.out).mono ?_); rintro e w15 ⟨rfl, hb⟩; have n0_ := Aside0.mk (below_step (by repeat (first | (with_reducible first | exact HB.out | apply below_alloc | apply bN_ | apply below_drew1) | exact HB.out)) hb); clear HB; have HB := n0_; clear n0_; (try clear hb)) | (go_at_call 10; (with_reducible refine (squash_Squash.calls 2048 4095 _ (tab_bel hT (by repeat (first | (with_reducible first | exact HB.out | apply below_alloc | apply bN_ | apply below_drew1) | exact HB.out))) A6.out).mono ?_); rintro e w16 ⟨rfl, hb⟩; have n0_ := Aside0.mk (below_step (by repeat (first | (with_reducible first | exact HB.out | apply below_alloc | apply bN_ | apply below_drew1) | exact HB.out)) hb); clear HB; have HB := n0_; clear n0_; (try clear hb)) | (go_at_call 14; (with_reducible refine (squash_Stretch.calls 2047 0 _ (tab_bel hT (by repeat (first | (with_reducible first | exact HB.out | apply below_alloc | apply bN_ | apply below_drew1) | exact HB.out))) A7.out).mono ?_); rintro e w17 ⟨rfl, hb⟩; have n0_ := Aside0.mk (below_step (by repeat (first | (with_reducible first | exact HB.out | apply below_alloc | apply bN_ | apply below_drew1) | exact HB.out)) hb); clear HB; have HB := n0_; clear n0_; (try clear hb)) | (go_at_call 14; (with_reducible refine (squash_Stretch.calls 0 (-2047) _ (tab_bel hT (by repeat (first | (with_reducible first | exact HB.out | apply below_alloc | apply bN_ | apply below_drew1) | exact HB.out))) A8.out).mono ?_); rintro e w18 ⟨rfl, hb⟩; have n0_ := Aside0.mk (below_step (by repeat (first | (with_reducible first | exact HB.out | apply below_alloc | apply bN_ | apply below_drew1) | exact HB.out)) hb); clear HB; have HB := n0_; clear n0_; (try clear hb)) | (go_at_call 14; (with_reducible refine (squash_Stretch.calls 1 (-2047) _ (tab_bel hT (by repeat (first | (with_reducible first | exact HB.out | apply below_alloc | apply bN_ | apply below_drew1) | exact HB.out))) A9.out).mono ?_); rintro e w19 ⟨rfl, hb⟩; have n0_ := Aside0.mk (below_step (by repeat (first | (with_reducible first | exact HB.out | apply below_alloc | apply bN_ | apply below_drew1) | exact HB.out)) hb); clear HB; have HB := n0_; clear n0_; (try clear hb)) | (go_at_call 14; (with_reducible refine (squash_Stretch.calls 4095 2047 _ (tab_bel hT (by repeat (first | (with_reducible first | exact HB.out | apply below_alloc | apply bN_ | apply below_drew1) | exact HB.out))) A10.out).mono ?_); rintro e w20 ⟨rfl, hb⟩; have n0_ := Aside0.mk (below_step (by repeat (first | (with_reducible first | exact HB.out | apply below_alloc | apply bN_ | apply below_drew1) | exact HB.out)) hb); clear HB; have HB := n0_; clear n0_; (try clear hb)))
  go_ret
  exact ⟨by first | rfl | (simp [errW_none, errW_some] <;> rfl) | (simp [*, errW_none, errW_some] <;> rfl), by repeat (first | (with_reducible first | exact HB.out | apply below_alloc | apply bN_ | apply below_drew1) | exact HB.out)⟩

/-! ### bitloftlaw04_SquashBack: function 6 -/
mutual
def bitloftlaw04_SquashBack.j0 : Nat → Int → Int → Int → Bool → Option (Bool)
  | 0, _, _, _, _ => none
  | k + 1, x0, x1, x7, x38 => if x38 = true then (some false) else (if x0 < (-2047) then (bitloftlaw04_SquashBack.j1 k x0 x1 x7 true) else (if x0 > 2047 then (bitloftlaw04_SquashBack.j1 k x0 x1 x7 true) else (bitloftlaw04_SquashBack.j1 k x0 x1 x7 (decide (x1 > 4094)))))
def bitloftlaw04_SquashBack.j1 : Nat → Int → Int → Int → Bool → Option (Bool)
  | 0, _, _, _, _ => none
  | k + 1, x0, x1, x7, x48 => if x48 = true then ((bitloftlaw04_alive.f).bind fun t103 => (some t103)) else ((squash_Squash.f x0).bind fun t104 => (if ((decide (x1 ≤ t104)) == (decide (x7 ≤ x0))) = true then ((squash_Squash.f x7).bind fun t105 => (if t105 ≥ x1 then ((squash_Squash.f x0).bind fun t106 => ((squash_Stretch.f t106).bind fun t107 => (if t107 ≤ x0 then ((bitloftlaw04_alive.f).bind fun t108 => (bitloftlaw04_SquashBack.j2 k t108)) else (bitloftlaw04_SquashBack.j2 k false)))) else (bitloftlaw04_SquashBack.j2 k false))) else (bitloftlaw04_SquashBack.j2 k false)))
def bitloftlaw04_SquashBack.j2 : Nat → Bool → Option (Bool)
  | 0, _ => none
  | k + 1, x6 => some x6
end
def bitloftlaw04_SquashBack.f (k : Nat) (a0 : Int) (a1 : Int) (a2 : Int) : Option (Bool) := (squash_Stretch.f a1).bind fun t101 => ((squash_Stretch.f a2).bind fun t102 => (if t101 < (-2047) then (bitloftlaw04_SquashBack.j0 k a0 a1 t101 true) else (if t101 > 2047 then (bitloftlaw04_SquashBack.j0 k a0 a1 t101 true) else (if a1 ≤ a2 then (if t101 > t102 then (bitloftlaw04_SquashBack.j0 k a0 a1 t101 true) else (if a1 ≥ a2 then (bitloftlaw04_SquashBack.j0 k a0 a1 t101 (decide (t101 < t102))) else (bitloftlaw04_SquashBack.j0 k a0 a1 t101 false))) else (if a1 ≥ a2 then (bitloftlaw04_SquashBack.j0 k a0 a1 t101 (decide (t101 < t102))) else (bitloftlaw04_SquashBack.j0 k a0 a1 t101 false))))))
theorem bitloftlaw04_SquashBack.mono_l : ∀ k, (∀ y0 y1 y2 y3, LeO (bitloftlaw04_SquashBack.j0 k y0 y1 y2 y3) (bitloftlaw04_SquashBack.j0 (k + 1) y0 y1 y2 y3)) ∧ (∀ y0 y1 y2 y3, LeO (bitloftlaw04_SquashBack.j1 k y0 y1 y2 y3) (bitloftlaw04_SquashBack.j1 (k + 1) y0 y1 y2 y3)) ∧ (∀ y0, LeO (bitloftlaw04_SquashBack.j2 k y0) (bitloftlaw04_SquashBack.j2 (k + 1) y0))
  | 0 => ⟨fun _ _ _ _ r h => by simp [bitloftlaw04_SquashBack.j0] at h, fun _ _ _ _ r h => by simp [bitloftlaw04_SquashBack.j1] at h, fun _ r h => by simp [bitloftlaw04_SquashBack.j2] at h⟩
  | k + 1 => by
    obtain ⟨ih0, ih1, ih2⟩ := bitloftlaw04_SquashBack.mono_l k
    refine ⟨?_, ?_, ?_⟩
    · intro y0 y1 y2 y3
      unfold bitloftlaw04_SquashBack.j0
      repeat' first
      | (with_reducible exact ih0 _ _ _ _)
      | (with_reducible exact ih1 _ _ _ _)
      | (with_reducible exact ih2 _)
      | (with_reducible exact LeO.refl _)
      | (with_reducible exact LeO.none _)
      | (with_reducible refine LeO.ite ?_ ?_)
      | (with_reducible refine LeO.bind ?_ (fun _ => ?_))
      | exact ih0 _ _ _ _
      | exact ih1 _ _ _ _
      | exact ih2 _
      | exact LeO.none _
      | refine LeO.ite ?_ ?_
      | refine LeO.bind ?_ (fun _ => ?_)
    · intro y0 y1 y2 y3
      unfold bitloftlaw04_SquashBack.j1
      repeat' first
      | (with_reducible exact ih0 _ _ _ _)
      | (with_reducible exact ih1 _ _ _ _)
      | (with_reducible exact ih2 _)
      | (with_reducible exact LeO.refl _)
      | (with_reducible exact LeO.none _)
      | (with_reducible refine LeO.ite ?_ ?_)
      | (with_reducible refine LeO.bind ?_ (fun _ => ?_))
      | exact ih0 _ _ _ _
      | exact ih1 _ _ _ _
      | exact ih2 _
      | exact LeO.none _
      | refine LeO.ite ?_ ?_
      | refine LeO.bind ?_ (fun _ => ?_)
    · intro y0
      unfold bitloftlaw04_SquashBack.j2
      repeat' first
      | (with_reducible exact ih0 _ _ _ _)
      | (with_reducible exact ih1 _ _ _ _)
      | (with_reducible exact ih2 _)
      | (with_reducible exact LeO.refl _)
      | (with_reducible exact LeO.none _)
      | (with_reducible refine LeO.ite ?_ ?_)
      | (with_reducible refine LeO.bind ?_ (fun _ => ?_))
      | exact ih0 _ _ _ _
      | exact ih1 _ _ _ _
      | exact ih2 _
      | exact LeO.none _
      | refine LeO.ite ?_ ?_
      | refine LeO.bind ?_ (fun _ => ?_)
theorem bitloftlaw04_SquashBack.mono : ∀ a0 a1 a2 k, LeO (bitloftlaw04_SquashBack.f k a0 a1 a2) (bitloftlaw04_SquashBack.f (k + 1) a0 a1 a2) := by
  intro a0 a1 a2 k
  obtain ⟨ih0, ih1, ih2⟩ := bitloftlaw04_SquashBack.mono_l k
  unfold bitloftlaw04_SquashBack.f
  repeat' first
      | (with_reducible exact ih0 _ _ _ _)
      | (with_reducible exact ih1 _ _ _ _)
      | (with_reducible exact ih2 _)
      | (with_reducible exact LeO.refl _)
      | (with_reducible exact LeO.none _)
      | (with_reducible refine LeO.ite ?_ ?_)
      | (with_reducible refine LeO.bind ?_ (fun _ => ?_))
      | exact ih0 _ _ _ _
      | exact ih1 _ _ _ _
      | exact ih2 _
      | exact LeO.none _
      | refine LeO.ite ?_ ?_
      | refine LeO.bind ?_ (fun _ => ?_)
set_option maxHeartbeats 8000000 in
set_option maxRecDepth 100000 in
theorem bitloftlaw04_SquashBack.calls (k : Nat) (a0 : Int) (a1 : Int) (a2 : Int) (r : Bool) (w : World) (hT : Tab_ w) (h : bitloftlaw04_SquashBack.f k a0 a1 a2 = some r) :
    Calls Tryd.prog 6 #[.int .i32 a0, .int .i32 a1, .int .i32 a2] w fun e w' => e = .returned (.bool r) ∧ Below w.heap.size w w' := by
  have HB := Aside0.mk (Below.refl w.heap.size w)
  have H : ((squash_Stretch.f a1).bind fun t101 => ((squash_Stretch.f a2).bind fun t102 => (if t101 < (-2047) then (bitloftlaw04_SquashBack.j0 k a0 a1 t101 true) else (if t101 > 2047 then (bitloftlaw04_SquashBack.j0 k a0 a1 t101 true) else (if a1 ≤ a2 then (if t101 > t102 then (bitloftlaw04_SquashBack.j0 k a0 a1 t101 true) else (if a1 ≥ a2 then (bitloftlaw04_SquashBack.j0 k a0 a1 t101 (decide (t101 < t102))) else (bitloftlaw04_SquashBack.j0 k a0 a1 t101 false))) else (if a1 ≥ a2 then (bitloftlaw04_SquashBack.j0 k a0 a1 t101 (decide (t101 < t102))) else (bitloftlaw04_SquashBack.j0 k a0 a1 t101 false))))))) = some r := h
  clear h
  replace H := Option.bind_eq_some_iff.mp H
  obtain ⟨t101, A40, H⟩ := H
  replace H : ((squash_Stretch.f a2).bind fun t102 => (if t101 < (-2047) then (bitloftlaw04_SquashBack.j0 k a0 a1 t101 true) else (if t101 > 2047 then (bitloftlaw04_SquashBack.j0 k a0 a1 t101 true) else (if a1 ≤ a2 then (if t101 > t102 then (bitloftlaw04_SquashBack.j0 k a0 a1 t101 true) else (if a1 ≥ a2 then (bitloftlaw04_SquashBack.j0 k a0 a1 t101 (decide (t101 < t102))) else (bitloftlaw04_SquashBack.j0 k a0 a1 t101 false))) else (if a1 ≥ a2 then (bitloftlaw04_SquashBack.j0 k a0 a1 t101 (decide (t101 < t102))) else (bitloftlaw04_SquashBack.j0 k a0 a1 t101 false)))))) = some r := H
  have A4 := Aside0.mk A40
  clear A40
  replace H := Option.bind_eq_some_iff.mp H
  obtain ⟨t102, A50, H⟩ := H
  replace H : (if t101 < (-2047) then (bitloftlaw04_SquashBack.j0 k a0 a1 t101 true) else (if t101 > 2047 then (bitloftlaw04_SquashBack.j0 k a0 a1 t101 true) else (if a1 ≤ a2 then (if t101 > t102 then (bitloftlaw04_SquashBack.j0 k a0 a1 t101 true) else (if a1 ≥ a2 then (bitloftlaw04_SquashBack.j0 k a0 a1 t101 (decide (t101 < t102))) else (bitloftlaw04_SquashBack.j0 k a0 a1 t101 false))) else (if a1 ≥ a2 then (bitloftlaw04_SquashBack.j0 k a0 a1 t101 (decide (t101 < t102))) else (bitloftlaw04_SquashBack.j0 k a0 a1 t101 false))))) = some r := H
  have A5 := Aside0.mk A50
  clear A50
  have HC6 := Aside0.mk H
  clear H
  go_enter Tryd.func6, Tryd.ntmps6
  go_upto_region 2 with (first | ((with_reducible refine gate_callee (f := 14) rfl ?_); refine gL_ (some 10) Tryd.func14 #[.int .i32 a1] ?_; (with_reducible refine (squash_Stretch.calls a1 t101 _ (tab_bel hT (by repeat (first | (with_reducible first | exact HB.out | apply below_alloc | apply bN_ | apply below_drew1) | exact HB.out))) A4.out).mono ?_); rintro e w7 ⟨rfl, hb⟩; refine ⟨_, rfl, ?_⟩; have n0_ := Aside0.mk (below_step (by repeat (first | (with_reducible first | exact HB.out | apply below_alloc | apply bN_ | apply below_drew1) | exact HB.out)) hb); clear HB; have HB := n0_; clear n0_; (try clear hb)) | ((with_reducible refine gate_callee (f := 14) rfl ?_); refine gL_ (some 12) Tryd.func14 #[.int .i32 a2] ?_; (with_reducible refine (squash_Stretch.calls a2 t102 _ (tab_bel hT (by repeat (first | (with_reducible first | exact HB.out | apply below_alloc | apply bN_ | apply below_drew1) | exact HB.out))) A5.out).mono ?_); rintro e w8 ⟨rfl, hb⟩; refine ⟨_, rfl, ?_⟩; have n0_ := Aside0.mk (below_step (by repeat (first | (with_reducible first | exact HB.out | apply below_alloc | apply bN_ | apply below_drew1) | exact HB.out)) hb); clear HB; have HB := n0_; clear n0_; (try clear hb)))
  (try simp only [Act.put, setIfInBounds_toArray, set_cons_zero, set_cons_succ])
  go_cut [38] (fun v38 wc => ∃ (kq : Nat) (x38_5 : Bool), v38 = .bool x38_5 ∧ Aside0 (bitloftlaw04_SquashBack.j0 kq a0 a1 t101 x38_5 = some r) ∧ Aside0 (kq ≤ k) ∧ Aside0 (Below w.heap.size w wc))
  case first =>
    have H := HC6.out
    clear HC6
    by_cases c9 : t101 < (-2047)
    · rw [if_pos c9] at H
      have c9b0 : decide (t101 < (-2047)) = true := decide_eq_true c9
      clear c9
      (first | rw [c9b0] | (simp only [i64_w, i32_w]; rw [c9b0]) | skip)
      have H' := Aside0.mk H
      clear H
      go_wp2
      go_meet
      case rel => exact ⟨_, (true), (by first | rfl | (simp; done) | (simp [*]; done)), H', ⟨by first | omega | exact Nat.le_refl _⟩, ⟨by repeat (first | (with_reducible first | exact HB.out | apply below_alloc | apply bN_ | apply below_drew1) | exact HB.out)⟩⟩
    · rw [if_neg c9] at H
      have c9b0 : decide (t101 < (-2047)) = false := decide_eq_false c9
      clear c9
      (first | rw [c9b0] | (simp only [i64_w, i32_w]; rw [c9b0]) | skip)
      by_cases c10 : t101 > 2047
      · rw [if_pos c10] at H
        have c10b0 : decide (2047 < t101) = true := decide_eq_true c10
        clear c10
        have H' := Aside0.mk H
        clear H
        go_wp2
        go_meet
        case rel => exact ⟨_, (true), (by first | rfl | (simp; done) | (simp [*]; done)), H', ⟨by first | omega | exact Nat.le_refl _⟩, ⟨by repeat (first | (with_reducible first | exact HB.out | apply below_alloc | apply bN_ | apply below_drew1) | exact HB.out)⟩⟩
      · rw [if_neg c10] at H
        have c10b0 : decide (2047 < t101) = false := decide_eq_false c10
        clear c10
        by_cases c11 : a1 ≤ a2
        · rw [if_pos c11] at H
          have c11b0 : decide (a1 ≤ a2) = true := decide_eq_true c11
          clear c11
          by_cases c12 : t101 > t102
          · rw [if_pos c12] at H
            have c12b0 : decide (t102 < t101) = true := decide_eq_true c12
            clear c12
            have H' := Aside0.mk H
            clear H
            go_wp2
            go_meet
            case rel => exact ⟨_, (true), (by first | rfl | (simp; done) | (simp [*]; done)), H', ⟨by first | omega | exact Nat.le_refl _⟩, ⟨by repeat (first | (with_reducible first | exact HB.out | apply below_alloc | apply bN_ | apply below_drew1) | exact HB.out)⟩⟩
          · rw [if_neg c12] at H
            have c12b0 : decide (t102 < t101) = false := decide_eq_false c12
            clear c12
            by_cases c13 : a1 ≥ a2
            · rw [if_pos c13] at H
              have c13b0 : decide (a2 ≤ a1) = true := decide_eq_true c13
              clear c13
              have H' := Aside0.mk H
              clear H
              go_wp2
              go_meet
              case rel => exact ⟨_, (decide (t101 < t102)), (by first | rfl | (simp; done) | (simp [*]; done)), H', ⟨by first | omega | exact Nat.le_refl _⟩, ⟨by repeat (first | (with_reducible first | exact HB.out | apply below_alloc | apply bN_ | apply below_drew1) | exact HB.out)⟩⟩
            · rw [if_neg c13] at H
              have c13b0 : decide (a2 ≤ a1) = false := decide_eq_false c13
              clear c13
              have H' := Aside0.mk H
              clear H
              go_wp2
              go_meet
              case rel => exact ⟨_, (false), (by first | rfl | (simp; done) | (simp [*]; done)), H', ⟨by first | omega | exact Nat.le_refl _⟩, ⟨by repeat (first | (with_reducible first | exact HB.out | apply below_alloc | apply bN_ | apply below_drew1) | exact HB.out)⟩⟩
        · rw [if_neg c11] at H
          have c11b0 : decide (a1 ≤ a2) = false := decide_eq_false c11
          clear c11
          by_cases c14 : a1 ≥ a2
          · rw [if_pos c14] at H
            have c14b0 : decide (a2 ≤ a1) = true := decide_eq_true c14
            clear c14
            have H' := Aside0.mk H
            clear H
            go_wp2
            go_meet
            case rel => exact ⟨_, (decide (t101 < t102)), (by first | rfl | (simp; done) | (simp [*]; done)), H', ⟨by first | omega | exact Nat.le_refl _⟩, ⟨by repeat (first | (with_reducible first | exact HB.out | apply below_alloc | apply bN_ | apply below_drew1) | exact HB.out)⟩⟩
          · rw [if_neg c14] at H
            have c14b0 : decide (a2 ≤ a1) = false := decide_eq_false c14
            clear c14
            have H' := Aside0.mk H
            clear H
            go_wp2
            go_meet
            case rel => exact ⟨_, (false), (by first | rfl | (simp; done) | (simp [*]; done)), H', ⟨by first | omega | exact Nat.le_refl _⟩, ⟨by repeat (first | (with_reducible first | exact HB.out | apply below_alloc | apply bN_ | apply below_drew1) | exact HB.out)⟩⟩
  case rest =>
    clear HC6
    try clear c1
    try clear p2
    try clear c6
    try clear c9
    try clear c9b0
    try clear c10
    try clear c10b0
    try clear c11
    try clear c11b0
    try clear c12
    try clear c12b0
    try clear c13
    try clear c13b0
    try clear c14
    try clear c14b0
    obtain ⟨kq, x38_5, rfl, HA, HJ5, HB⟩ := hcut
    cases kq with
    | zero => exact absurd HA.out (by simp [bitloftlaw04_SquashBack.j0])
    | succ kj5 =>
      have H := HA.out
      clear HA
      simp only [bitloftlaw04_SquashBack.j0] at H
      by_cases c15 : x38_5 = true
      · subst c15
        have H1 : (some false) = some r := by rw [if_pos rfl] at H; exact H
        clear H
        have H := H1
        clear H1
        obtain rfl := Option.some.inj H
        go_wp2
        go_ret
        exact ⟨by first | rfl | (simp [errW_none, errW_some] <;> rfl) | (simp [*, errW_none, errW_some] <;> rfl), by repeat (first | (with_reducible first | exact HB.out | apply below_alloc | apply bN_ | apply below_drew1) | exact HB.out)⟩
      · replace c15 := Bool.eq_false_iff.mpr c15
        subst c15
        have H1 : (if a0 < (-2047) then (bitloftlaw04_SquashBack.j1 kj5 a0 a1 t101 true) else (if a0 > 2047 then (bitloftlaw04_SquashBack.j1 kj5 a0 a1 t101 true) else (bitloftlaw04_SquashBack.j1 kj5 a0 a1 t101 (decide (a1 > 4094))))) = some r := by rw [if_neg (show ¬ (false = true) by decide)] at H; exact H
        clear H
        have H := H1
        clear H1
        have HC16 := Aside0.mk H
        clear H
        go_upto_region 4 with (fail)
        go_cut [48] (fun v48 wc => ∃ (kq : Nat) (x48_15 : Bool), v48 = .bool x48_15 ∧ Aside0 (bitloftlaw04_SquashBack.j1 kq a0 a1 t101 x48_15 = some r) ∧ Aside0 (kq ≤ kj5) ∧ Aside0 (Below w.heap.size w wc))
        case first =>
          have H := HC16.out
          clear HC16
          by_cases c17 : a0 < (-2047)
          · rw [if_pos c17] at H
            have c17b0 : decide (a0 < (-2047)) = true := decide_eq_true c17
            clear c17
            (first | rw [c17b0] | (simp only [i64_w, i32_w]; rw [c17b0]) | skip)
            have H' := Aside0.mk H
            clear H
            go_wp2
            go_meet
            case rel => exact ⟨_, (true), (by first | rfl | (simp; done) | (simp [*]; done)), H', ⟨by have := HJ5.out; first | omega | exact Nat.le_refl _⟩, ⟨by repeat (first | (with_reducible first | exact HB.out | apply below_alloc | apply bN_ | apply below_drew1) | exact HB.out)⟩⟩
          · rw [if_neg c17] at H
            have c17b0 : decide (a0 < (-2047)) = false := decide_eq_false c17
            clear c17
            (first | rw [c17b0] | (simp only [i64_w, i32_w]; rw [c17b0]) | skip)
            by_cases c18 : a0 > 2047
            · rw [if_pos c18] at H
              have c18b0 : decide (2047 < a0) = true := decide_eq_true c18
              clear c18
              have H' := Aside0.mk H
              clear H
              go_wp2
              go_meet
              case rel => exact ⟨_, (true), (by first | rfl | (simp; done) | (simp [*]; done)), H', ⟨by have := HJ5.out; first | omega | exact Nat.le_refl _⟩, ⟨by repeat (first | (with_reducible first | exact HB.out | apply below_alloc | apply bN_ | apply below_drew1) | exact HB.out)⟩⟩
            · rw [if_neg c18] at H
              have c18b0 : decide (2047 < a0) = false := decide_eq_false c18
              clear c18
              have H' := Aside0.mk H
              clear H
              go_wp2
              go_meet
              case rel => exact ⟨_, (decide (a1 > 4094)), (by first | rfl | (simp; done) | (simp [*]; done)), H', ⟨by have := HJ5.out; first | omega | exact Nat.le_refl _⟩, ⟨by repeat (first | (with_reducible first | exact HB.out | apply below_alloc | apply bN_ | apply below_drew1) | exact HB.out)⟩⟩
        case rest =>
          clear HC16
          try clear c1
          try clear p2
          try clear c6
          try clear c9
          try clear c9b0
          try clear c10
          try clear c10b0
          try clear c11
          try clear c11b0
          try clear c12
          try clear c12b0
          try clear c13
          try clear c13b0
          try clear c14
          try clear c14b0
          try clear c15
          try clear c17
          try clear c17b0
          try clear c18
          try clear c18b0
          try clear p2
          obtain ⟨kq, x48_15, rfl, HA, HJ15, HB⟩ := hcut
          cases kq with
          | zero => exact absurd HA.out (by simp [bitloftlaw04_SquashBack.j1])
          | succ kj15 =>
            have H := HA.out
            clear HA
            simp only [bitloftlaw04_SquashBack.j1] at H
            by_cases c19 : x48_15 = true
            · subst c19
              have H1 : ((bitloftlaw04_alive.f).bind fun t103 => (some t103)) = some r := by rw [if_pos rfl] at H; exact H
              clear H
              have H := H1
              clear H1
              replace H := Option.bind_eq_some_iff.mp H
              obtain ⟨t103, A200, H⟩ := H
              replace H : (some t103) = some r := H
              have A20 := Aside0.mk A200
              clear A200
              obtain rfl := Option.some.inj H
              go_wp2_with (first | ((with_reducible refine gate_callee (f := 16) rfl ?_); refine gL_ (some 49) Tryd.func16 #[] ?_; (with_reducible refine (bitloftlaw04_alive.calls  t103 _ (tab_bel hT (by repeat (first | (with_reducible first | exact HB.out | apply below_alloc | apply bN_ | apply below_drew1) | exact HB.out))) A20.out).mono ?_); rintro e w21 ⟨rfl, hb⟩; refine ⟨_, rfl, ?_⟩; have n0_ := Aside0.mk (below_step (by repeat (first | (with_reducible first | exact HB.out | apply below_alloc | apply bN_ | apply below_drew1) | exact HB.out)) hb); clear HB; have HB := n0_; clear n0_; (try clear hb)))
              go_ret
              exact ⟨by first | rfl | (simp [errW_none, errW_some] <;> rfl) | (simp [*, errW_none, errW_some] <;> rfl), by repeat (first | (with_reducible first | exact HB.out | apply below_alloc | apply bN_ | apply below_drew1) | exact HB.out)⟩
            · replace c19 := Bool.eq_false_iff.mpr c19
              subst c19
              have H1 : ((squash_Squash.f a0).bind fun t104 => (if ((decide (a1 ≤ t104)) == (decide (t101 ≤ a0))) = true then ((squash_Squash.f t101).bind fun t105 => (if t105 ≥ a1 then ((squash_Squash.f a0).bind fun t106 => ((squash_Stretch.f t106).bind fun t107 => (if t107 ≤ a0 then ((bitloftlaw04_alive.f).bind fun t108 => (bitloftlaw04_SquashBack.j2 kj15 t108)) else (bitloftlaw04_SquashBack.j2 kj15 false)))) else (bitloftlaw04_SquashBack.j2 kj15 false))) else (bitloftlaw04_SquashBack.j2 kj15 false))) = some r := by rw [if_neg (show ¬ (false = true) by decide)] at H; exact H
              clear H
              have H := H1
              clear H1
              have HC22 := Aside0.mk H
              clear H
              go_upto_region 6 with (fail)
              go_cut [6] (fun v6 wc => ∃ (kq : Nat) (x6_21 : Bool), v6 = .bool x6_21 ∧ Aside0 (bitloftlaw04_SquashBack.j2 kq x6_21 = some r) ∧ Aside0 (kq ≤ kj15) ∧ Aside0 (Below w.heap.size w wc))
              case first =>
                have H := HC22.out
                clear HC22
                replace H := Option.bind_eq_some_iff.mp H
                obtain ⟨t104, A230, H⟩ := H
                replace H : (if ((decide (a1 ≤ t104)) == (decide (t101 ≤ a0))) = true then ((squash_Squash.f t101).bind fun t105 => (if t105 ≥ a1 then ((squash_Squash.f a0).bind fun t106 => ((squash_Stretch.f t106).bind fun t107 => (if t107 ≤ a0 then ((bitloftlaw04_alive.f).bind fun t108 => (bitloftlaw04_SquashBack.j2 kj15 t108)) else (bitloftlaw04_SquashBack.j2 kj15 false)))) else (bitloftlaw04_SquashBack.j2 kj15 false))) else (bitloftlaw04_SquashBack.j2 kj15 false)) = some r := H
                have A23 := Aside0.mk A230
                clear A230
                by_cases c24 : ((decide (a1 ≤ t104)) == (decide (t101 ≤ a0))) = true
                · rw [if_pos c24] at H
                  have c24b0 : ((decide (a1 ≤ t104)) == (decide (t101 ≤ a0))) = true := c24
                  (try (have c24b1 : decide ((decide (a1 ≤ t104)) = (decide (t101 ≤ a0))) = true := by simpa using c24))
                  (try (have c24b2 : ((decide (a1 ≤ t104)) == (decide (t101 ≤ a0))) = true := by simpa using c24))
                  clear c24
                  (first | rw [c24b0] | (simp only [i64_w, i32_w]; rw [c24b0]) | skip)
                  replace H := Option.bind_eq_some_iff.mp H
                  obtain ⟨t105, A250, H⟩ := H
                  replace H : (if t105 ≥ a1 then ((squash_Squash.f a0).bind fun t106 => ((squash_Stretch.f t106).bind fun t107 => (if t107 ≤ a0 then ((bitloftlaw04_alive.f).bind fun t108 => (bitloftlaw04_SquashBack.j2 kj15 t108)) else (bitloftlaw04_SquashBack.j2 kj15 false)))) else (bitloftlaw04_SquashBack.j2 kj15 false)) = some r := H
                  have A25 := Aside0.mk A250
                  clear A250
                  by_cases c26 : t105 ≥ a1
                  · rw [if_pos c26] at H
                    have c26b0 : decide (a1 ≤ t105) = true := decide_eq_true c26
                    clear c26
                    replace H := Option.bind_eq_some_iff.mp H
                    obtain ⟨t106, A270, H⟩ := H
                    replace H : ((squash_Stretch.f t106).bind fun t107 => (if t107 ≤ a0 then ((bitloftlaw04_alive.f).bind fun t108 => (bitloftlaw04_SquashBack.j2 kj15 t108)) else (bitloftlaw04_SquashBack.j2 kj15 false))) = some r := H
                    have A27 := Aside0.mk A270
                    clear A270
                    replace H := Option.bind_eq_some_iff.mp H
                    obtain ⟨t107, A280, H⟩ := H
                    replace H : (if t107 ≤ a0 then ((bitloftlaw04_alive.f).bind fun t108 => (bitloftlaw04_SquashBack.j2 kj15 t108)) else (bitloftlaw04_SquashBack.j2 kj15 false)) = some r := H
                    have A28 := Aside0.mk A280
                    clear A280
                    by_cases c29 : t107 ≤ a0
                    · rw [if_pos c29] at H
                      have c29b0 : decide (t107 ≤ a0) = true := decide_eq_true c29
                      clear c29
                      replace H := Option.bind_eq_some_iff.mp H
                      obtain ⟨t108, A300, H⟩ := H
                      replace H : (bitloftlaw04_SquashBack.j2 kj15 t108) = some r := H
                      have A30 := Aside0.mk A300
                      clear A300
                      have H' := Aside0.mk H
                      clear H
                      go_wp2_with (first | ((with_reducible refine gate_callee (f := 10) rfl ?_); refine gL_ (some 52) Tryd.func10 #[.int .i32 a0] ?_; (with_reducible refine (squash_Squash.calls a0 t104 _ (tab_bel hT (by repeat (first | (with_reducible first | exact HB.out | apply below_alloc | apply bN_ | apply below_drew1) | exact HB.out))) A23.out).mono ?_); rintro e w31 ⟨rfl, hb⟩; refine ⟨_, rfl, ?_⟩; have n0_ := Aside0.mk (below_step (by repeat (first | (with_reducible first | exact HB.out | apply below_alloc | apply bN_ | apply below_drew1) | exact HB.out)) hb); clear HB; have HB := n0_; clear n0_; (try clear hb)) | (go_at_call 10; (with_reducible refine (squash_Squash.calls t101 t105 _ (tab_bel hT (by repeat (first | (with_reducible first | exact HB.out | apply below_alloc | apply bN_ | apply below_drew1) | exact HB.out))) A25.out).mono ?_); rintro e w32 ⟨rfl, hb⟩; have n0_ := Aside0.mk (below_step (by repeat (first | (with_reducible first | exact HB.out | apply below_alloc | apply bN_ | apply below_drew1) | exact HB.out)) hb); clear HB; have HB := n0_; clear n0_; (try clear hb)) | (go_at_call 10; (with_reducible refine (squash_Squash.calls a0 t106 _ (tab_bel hT (by repeat (first | (with_reducible first | exact HB.out | apply below_alloc | apply bN_ | apply below_drew1) | exact HB.out))) A27.out).mono ?_); rintro e w33 ⟨rfl, hb⟩; have n0_ := Aside0.mk (below_step (by repeat (first | (with_reducible first | exact HB.out | apply below_alloc | apply bN_ | apply below_drew1) | exact HB.out)) hb); clear HB; have HB := n0_; clear n0_; (try clear hb)) | (go_at_call 14; (with_reducible refine (squash_Stretch.calls t106 t107 _ (tab_bel hT (by repeat (first | (with_reducible first | exact HB.out | apply below_alloc | apply bN_ | apply below_drew1) | exact HB.out))) A28.out).mono ?_); rintro e w34 ⟨rfl, hb⟩; have n0_ := Aside0.mk (below_step (by repeat (first | (with_reducible first | exact HB.out | apply below_alloc | apply bN_ | apply below_drew1) | exact HB.out)) hb); clear HB; have HB := n0_; clear n0_; (try clear hb)) | (go_at_call 16; (with_reducible refine (bitloftlaw04_alive.calls  t108 _ (tab_bel hT (by repeat (first | (with_reducible first | exact HB.out | apply below_alloc | apply bN_ | apply below_drew1) | exact HB.out))) A30.out).mono ?_); rintro e w35 ⟨rfl, hb⟩; have n0_ := Aside0.mk (below_step (by repeat (first | (with_reducible first | exact HB.out | apply below_alloc | apply bN_ | apply below_drew1) | exact HB.out)) hb); clear HB; have HB := n0_; clear n0_; (try clear hb)))
                      go_meet
                      case rel => exact ⟨_, (t108), (by first | rfl | (simp; done) | (simp [*]; done)), H', ⟨by have := HJ5.out; have := HJ15.out; first | omega | exact Nat.le_refl _⟩, ⟨by repeat (first | (with_reducible first | exact HB.out | apply below_alloc | apply bN_ | apply below_drew1) | exact HB.out)⟩⟩
                    · rw [if_neg c29] at H
                      have c29b0 : decide (t107 ≤ a0) = false := decide_eq_false c29
                      clear c29
                      have H' := Aside0.mk H
                      clear H
                      go_wp2_with (first | ((with_reducible refine gate_callee (f := 10) rfl ?_); refine gL_ (some 52) Tryd.func10 #[.int .i32 a0] ?_; (with_reducible refine (squash_Squash.calls a0 t104 _ (tab_bel hT (by repeat (first | (with_reducible first | exact HB.out | apply below_alloc | apply bN_ | apply below_drew1) | exact HB.out))) A23.out).mono ?_); rintro e w36 ⟨rfl, hb⟩; refine ⟨_, rfl, ?_⟩; have n0_ := Aside0.mk (below_step (by repeat (first | (with_reducible first | exact HB.out | apply below_alloc | apply bN_ | apply below_drew1) | exact HB.out)) hb); clear HB; have HB := n0_; clear n0_; (try clear hb)) | (go_at_call 10; (with_reducible refine (squash_Squash.calls t101 t105 _ (tab_bel hT (by repeat (first | (with_reducible first | exact HB.out | apply below_alloc | apply bN_ | apply below_drew1) | exact HB.out))) A25.out).mono ?_); rintro e w37 ⟨rfl, hb⟩; have n0_ := Aside0.mk (below_step (by repeat (first | (with_reducible first | exact HB.out | apply below_alloc | apply bN_ | apply below_drew1) | exact HB.out)) hb); clear HB; have HB := n0_; clear n0_; (try clear hb)) | (go_at_call 10; (with_reducible refine (squash_Squash.calls a0 t106 _ (tab_bel hT (by repeat (first | (with_reducible first | exact HB.out | apply below_alloc | apply bN_ | apply below_drew1) | exact HB.out))) A27.out).mono ?_); rintro e w38 ⟨rfl, hb⟩; have n0_ := Aside0.mk (below_step (by repeat (first | (with_reducible first | exact HB.out | apply below_alloc | apply bN_ | apply below_drew1) | exact HB.out)) hb); clear HB; have HB := n0_; clear n0_; (try clear hb)) | (go_at_call 14; (with_reducible refine (squash_Stretch.calls t106 t107 _ (tab_bel hT (by repeat (first | (with_reducible first | exact HB.out | apply below_alloc | apply bN_ | apply below_drew1) | exact HB.out))) A28.out).mono ?_); rintro e w39 ⟨rfl, hb⟩; have n0_ := Aside0.mk (below_step (by repeat (first | (with_reducible first | exact HB.out | apply below_alloc | apply bN_ | apply below_drew1) | exact HB.out)) hb); clear HB; have HB := n0_; clear n0_; (try clear hb)))
                      go_meet
                      case rel => exact ⟨_, (false), (by first | rfl | (simp; done) | (simp [*]; done)), H', ⟨by have := HJ5.out; have := HJ15.out; first | omega | exact Nat.le_refl _⟩, ⟨by repeat (first | (with_reducible first | exact HB.out | apply below_alloc | apply bN_ | apply below_drew1) | exact HB.out)⟩⟩
                  · rw [if_neg c26] at H
                    have c26b0 : decide (a1 ≤ t105) = false := decide_eq_false c26
                    clear c26
                    have H' := Aside0.mk H
                    clear H
                    go_wp2_with (first | ((with_reducible refine gate_callee (f := 10) rfl ?_); refine gL_ (some 52) Tryd.func10 #[.int .i32 a0] ?_; (with_reducible refine (squash_Squash.calls a0 t104 _ (tab_bel hT (by repeat (first | (with_reducible first | exact HB.out | apply below_alloc | apply bN_ | apply below_drew1) | exact HB.out))) A23.out).mono ?_); rintro e w40 ⟨rfl, hb⟩; refine ⟨_, rfl, ?_⟩; have n0_ := Aside0.mk (below_step (by repeat (first | (with_reducible first | exact HB.out | apply below_alloc | apply bN_ | apply below_drew1) | exact HB.out)) hb); clear HB; have HB := n0_; clear n0_; (try clear hb)) | (go_at_call 10; (with_reducible refine (squash_Squash.calls t101 t105 _ (tab_bel hT (by repeat (first | (with_reducible first | exact HB.out | apply below_alloc | apply bN_ | apply below_drew1) | exact HB.out))) A25.out).mono ?_); rintro e w41 ⟨rfl, hb⟩; have n0_ := Aside0.mk (below_step (by repeat (first | (with_reducible first | exact HB.out | apply below_alloc | apply bN_ | apply below_drew1) | exact HB.out)) hb); clear HB; have HB := n0_; clear n0_; (try clear hb)))
                    go_meet
                    case rel => exact ⟨_, (false), (by first | rfl | (simp; done) | (simp [*]; done)), H', ⟨by have := HJ5.out; have := HJ15.out; first | omega | exact Nat.le_refl _⟩, ⟨by repeat (first | (with_reducible first | exact HB.out | apply below_alloc | apply bN_ | apply below_drew1) | exact HB.out)⟩⟩
                · rw [if_neg c24] at H
                  have c24b0 : ((decide (a1 ≤ t104)) == (decide (t101 ≤ a0))) = false := by simpa using c24
                  (try (have c24b1 : decide ((decide (a1 ≤ t104)) = (decide (t101 ≤ a0))) = false := by simpa using c24))
                  (try (have c24b2 : ((decide (a1 ≤ t104)) == (decide (t101 ≤ a0))) = false := by simpa using c24))
                  (try (have c24b3 : ¬ ((decide (a1 ≤ t104)) = (decide (t101 ≤ a0))) := by simpa using c24))
                  clear c24
                  (first | rw [c24b0] | (simp only [i64_w, i32_w]; rw [c24b0]) | skip)
                  have H' := Aside0.mk H
                  clear H
                  go_wp2_with (first | ((with_reducible refine gate_callee (f := 10) rfl ?_); refine gL_ (some 52) Tryd.func10 #[.int .i32 a0] ?_; (with_reducible refine (squash_Squash.calls a0 t104 _ (tab_bel hT (by repeat (first | (with_reducible first | exact HB.out | apply below_alloc | apply bN_ | apply below_drew1) | exact HB.out))) A23.out).mono ?_); rintro e w42 ⟨rfl, hb⟩; refine ⟨_, rfl, ?_⟩; have n0_ := Aside0.mk (below_step (by repeat (first | (with_reducible first | exact HB.out | apply below_alloc | apply bN_ | apply below_drew1) | exact HB.out)) hb); clear HB; have HB := n0_; clear n0_; (try clear hb)))
                  go_meet
                  case rel => exact ⟨_, (false), (by first | rfl | (simp; done) | (simp [*]; done)), H', ⟨by have := HJ5.out; have := HJ15.out; first | omega | exact Nat.le_refl _⟩, ⟨by repeat (first | (with_reducible first | exact HB.out | apply below_alloc | apply bN_ | apply below_drew1) | exact HB.out)⟩⟩
              case rest =>
                clear HC22
                try clear c1
                try clear c2
                try clear p2
                try clear c6
                try clear c9
                try clear c9b0
                try clear c10
                try clear c10b0
                try clear c11
                try clear c11b0
                try clear c12
                try clear c12b0
                try clear c13
                try clear c13b0
                try clear c14
                try clear c14b0
                try clear c15
                try clear c16
                try clear c17
                try clear c17b0
                try clear c18
                try clear c18b0
                try clear c19
                try clear c24
                try clear c24b0
                try clear c24b1
                try clear c24b2
                try clear c26
                try clear c26b0
                try clear c29
                try clear c29b0
                try clear p2
                obtain ⟨kq, x6_21, rfl, HA, HJ21, HB⟩ := hcut
                cases kq with
                | zero => exact absurd HA.out (by simp [bitloftlaw04_SquashBack.j2])
                | succ kj21 =>
                  have H := HA.out
                  clear HA
                  simp only [bitloftlaw04_SquashBack.j2] at H
                  obtain rfl := Option.some.inj H
                  go_wp2
                  go_ret
                  exact ⟨by first | rfl | (simp [errW_none, errW_some] <;> rfl) | (simp [*, errW_none, errW_some] <;> rfl), by repeat (first | (with_reducible first | exact HB.out | apply below_alloc | apply bN_ | apply below_drew1) | exact HB.out)⟩

/-- THE ONE PURE STATEMENT of bitloftlaw04_SquashBack: yours. -/
def bitloftlaw04_SquashBack.Pure : Prop := ∀ (a0 : Int) (a1 : Int) (a2 : Int), (Lit.int .i32 a0).wf = true → (Lit.int .i32 a1).wf = true → (Lit.int .i32 a2).wf = true → ∃ k, bitloftlaw04_SquashBack.f k a0 a1 a2 = some true
theorem bitloftlaw04_SquashBack.walk (P : bitloftlaw04_SquashBack.Pure) (a0 : Int) (a1 : Int) (a2 : Int) (w : World) (w0 : (Lit.int .i32 a0).wf = true) (w1 : (Lit.int .i32 a1).wf = true) (w2 : (Lit.int .i32 a2).wf = true) (hT : Tab_ w) :
    Calls Tryd.prog 6 #[.int .i32 a0, .int .i32 a1, .int .i32 a2] w fun e w' => e = .returned (.bool true) ∧ Below w.heap.size w w' := by
  obtain ⟨k, h⟩ := P a0 a1 a2 w0 w1 w2
  refine (bitloftlaw04_SquashBack.calls k a0 a1 a2 true w hT h).mono ?_
  rintro e w' ⟨rfl, hd⟩
  exact ⟨rfl, hd⟩

end Go.Proofs.YtimjmbaonkpmpaaDoor.XSquashBack
