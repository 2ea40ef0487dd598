-- Laid by a program of this session (wip/mkxprint.py, over the kit's print): Lean checks it.
import Derived.Test.YtimjmbaonkpmpaaDoorXSquashPlacesx0
namespace Go.Proofs.YtimjmbaonkpmpaaDoor.XSquashPlaces
open List (setIfInBounds_toArray set_cons_zero set_cons_succ)
open Go.RowKit Go.Proofs.YtimjmbaonkpmpaaDoorW.PrintWords Go.Proofs.YtimjmbaonkpmpaaDoorW.PrintLast Go.Proofs.YtimjmbaonkpmpaaDoorW.PrintMore
attribute [local go_sem] max2_int min2_int max_two min_two max_three min_three max_four min_four   -- for this text's walks alone
set_option linter.unusedVariables false
set_option linter.unusedSimpArgs false

/-! ### squash_Squash: function 10 -/
/-- The row. -/
def sqRow : List Int := [1, 2, 3, 6, 10, 16, 27, 45, 73, 120, 194, 310, 488, 747, 1101, 1546, 2047, 2549, 2994, 3348, 3607, 3785, 3901, 3975, 4022, 4050, 4068, 4079, 4085, 4089, 4092, 4093, 4094]
/-- What the package variable reads as. -/
structure Tab_ (w : World) : Prop where mk :: (out : ∀ i : Nat, i < 33 → w.cell? ⟨0, i, none⟩ = some (.int .i32 (rd sqRow (i : Int))))
theorem tab_bel {w w' : World} (h : Tab_ w) (b : Below w.heap.size w w') : Tab_ w' := ⟨fun i hi => by
  have c := h.out i hi
  exact (b.cell (p := ⟨0, i, none⟩) (World.block_lt_of_cell? w _ c)).trans c⟩
/-- A number between the places. -/
def squash_Squash.mid (d : Int) : Int := (rd sqRow (d / 128 + 16) * 128 + (rd sqRow (d / 128 + 17) - rd sqRow (d / 128 + 16)) * (d % 128) + 64) / 128
def squash_Squash.f (a0 : Int) : Option (Int) := if a0 > 2047 then some 4095 else if a0 < -2047 then some 0 else some (squash_Squash.mid a0)
theorem squash_Squash.far (a0 : Int) (w : World) (h : a0 > 2047) :
    Calls Tryd.prog 10 #[.int .i32 a0] w fun e w' => e = .returned (.int .i32 4095) ∧ ∃ m, w' = w.drewN m := by
  have h0 : decide (2047 < a0) = true := decide_eq_true h
  clear h
  go_enter Tryd.func10, Tryd.ntmps10
  go_wp2
  go_ret
  exact ⟨rfl, 0, rfl⟩
theorem squash_Squash.low (a0 : Int) (w : World) (h : a0 < -2047) :
    Calls Tryd.prog 10 #[.int .i32 a0] w fun e w' => e = .returned (.int .i32 0) ∧ ∃ m, w' = w.drewN m := by
  have h0 : decide (2047 < a0) = false := decide_eq_false (by omega)
  have h1 : decide (a0 < -2047) = true := decide_eq_true h
  clear h
  go_enter Tryd.func10, Tryd.ntmps10
  go_wp2
  go_ret
  exact ⟨rfl, 0, rfl⟩
theorem and127 (a : Int) : bits .and .i32 a 127 = a % 128 := by
  unfold bits
  show IntKind.i32.wrap ((BitVec.ofInt 32 a &&& BitVec.ofInt 32 127).toNat : Int) = _
  rw [BitVec.toNat_and, BitVec.toNat_ofInt, BitVec.toNat_ofInt]
  rw [show ((127 : Int) % ((2 ^ 32 : Nat) : Int)).toNat = 2 ^ 7 - 1 from by decide, Nat.and_two_pow_sub_one_eq_mod]
  rw [IntKind.wrap_i32]
  have : ((a % ((2 ^ 32 : Nat) : Int)).toNat : Int) = a % 4294967296 := by
    rw [Int.toNat_of_nonneg (Int.emod_nonneg _ (by decide))]; rfl
  rw [Int.natCast_emod, this]
  omega
theorem sq_rows : ∀ i : Fin 32, 0 ≤ rd sqRow (i.val : Int) ∧ rd sqRow (i.val : Int) ≤ 4094 ∧ 0 ≤ rd sqRow ((i.val : Int) + 1) - rd sqRow (i.val : Int) ∧ rd sqRow ((i.val : Int) + 1) - rd sqRow (i.val : Int) ≤ 503 := by decide +kernel
theorem squash_Squash.nest (a0 : Int) (i : Nat) (hi : a0 / 128 + 16 = (i : Int)) (hi0 : i < 32) :
    wrap32 (wrap32 (wrap32 (rd sqRow (i : Int) * 128) + wrap32 (wrap32 (rd sqRow ((i : Int) + 1) - rd sqRow (i : Int)) * (a0 % 128))) + 64) / 128 = squash_Squash.mid a0 := by
  unfold squash_Squash.mid
  rw [show a0 / 128 + 17 = (i : Int) + 1 from by omega, hi]
  have h := sq_rows ⟨i, hi0⟩
  dsimp only at h
  generalize rd sqRow (i : Int) = x at h ⊢
  generalize rd sqRow ((i : Int) + 1) = y at h ⊢
  have w0 : 0 ≤ a0 % 128 := by omega
  have w1 : a0 % 128 ≤ 127 := by omega
  generalize a0 % 128 = m at w0 w1 ⊢
  obtain ⟨q, hq⟩ : ∃ q, y - x = q := ⟨_, rfl⟩
  rw [hq] at h ⊢
  have p0 : 0 ≤ q * m := Int.mul_nonneg h.2.2.1 w0
  have p1 : q * m ≤ 503 * 127 := Int.mul_le_mul h.2.2.2 w1 w0 (by decide)
  have u : ∀ z : Int, -2147483648 ≤ z → z ≤ 2147483647 → wrap32 z = z := fun z a b => by unfold wrap32; omega
  rw [u q (by omega) (by omega)]
  generalize q * m = r at p0 p1 ⊢
  rw [u r (by omega) (by omega), u (x * 128) (by omega) (by omega), u (x * 128 + r) (by omega) (by omega), u (x * 128 + r + 64) (by omega) (by omega)]
theorem squash_Squash.in_ (a0 : Int) (w : World) (hT : Tab_ w) (h0 : -2047 ≤ a0) (h1 : a0 ≤ 2047) :
    Calls Tryd.prog 10 #[.int .i32 a0] w fun e w' => e = .returned (.int .i32 (squash_Squash.mid a0)) ∧ ∃ m, w' = w.drewN m := by
  obtain ⟨i, hi⟩ : ∃ i : Nat, a0 / 128 + 16 = (i : Int) := ⟨(a0 / 128 + 16).toNat, by omega⟩
  have hi0 : i < 32 := by omega
  have c0 := hT.out i (by omega)
  have c1 := hT.out (i + 1) (by omega)
  have e1 : bits .and .i32 a0 127 = a0 % 128 := and127 a0
  clear hT
  go_enter Tryd.func10, Tryd.ntmps10
  go_wp2
  (try rw [e1]); (try rw [hi])
  have iw : wrap32 ((i : Int) + 1) = ((i + 1 : Nat) : Int) := by rw [wrap32]; omega
  have j0 : (0 : Int) ≤ (i : Int) := by omega
  have j1 : (i : Int) < 33 := by omega
  have j2 : (0 : Int) ≤ ((i + 1 : Nat) : Int) := by omega
  have j3 : ((i + 1 : Nat) : Int) < 33 := by omega
  have eM := squash_Squash.nest a0 i hi hi0
  go_region
  go_wp2
  go_ret
  exact ⟨rfl, 1, rfl⟩
theorem squash_Squash.quiet (a0 : Int) (r : Int) (w : World) (hT : Tab_ w) (h : squash_Squash.f a0 = some r) :
    Calls Tryd.prog 10 #[.int .i32 a0] w fun e w' => e = .returned (.int .i32 r) ∧ ∃ m, w' = w.drewN m := by
  unfold squash_Squash.f at h
  by_cases c1 : a0 > 2047
  · rw [if_pos c1] at h
    simp only [Option.some.injEq] at h
    subst h
    exact squash_Squash.far a0 w c1
  rw [if_neg c1] at h
  by_cases c2 : a0 < -2047
  · rw [if_pos c2] at h
    simp only [Option.some.injEq] at h
    subst h
    exact squash_Squash.low a0 w c2
  · rw [if_neg c2] at h
    simp only [Option.some.injEq] at h
    subst h
    exact squash_Squash.in_ a0 w hT (by omega) (by omega)
theorem squash_Squash.calls (a0 : Int) (r : Int) (w : World) (hT : Tab_ w) (h : squash_Squash.f a0 = some r) :
    Calls Tryd.prog 10 #[.int .i32 a0] w fun e w' => e = .returned (.int .i32 r) ∧ Drawn0 w w' := by
  refine (squash_Squash.quiet a0 r w hT h).mono ?_
  rintro e w' ⟨rfl, m, rfl⟩
  exact ⟨rfl, ⟨m, rfl⟩⟩
def sq (d : Int) : Int := if d > 2047 then 4095 else if d < -2047 then 0 else squash_Squash.mid d
theorem sq_f (d : Int) : squash_Squash.f d = some (sq d) := by
  unfold squash_Squash.f sq
  split
  · rfl
  · split <;> rfl

/-! ### squash_Row: function 12 -/
def squash_Row.f : Option (Int × Int × Int × Int × Int × Int × Int × Int × Int × Int × Int × Int × Int × Int × Int × Int × Int × Int × Int × Int × Int × Int × Int × Int × Int × Int × Int × Int × Int × Int × Int × Int × Int) := some (1, 2, 3, 6, 10, 16, 27, 45, 73, 120, 194, 310, 488, 747, 1101, 1546, 2047, 2549, 2994, 3348, 3607, 3785, 3901, 3975, 4022, 4050, 4068, 4079, 4085, 4089, 4092, 4093, 4094)
def rowAt (k : Nat) : List Int := sqRow.take k ++ List.replicate (33 - k) 0
theorem rowAt_set : ∀ k : Fin 33, (rowAt k.val).set k.val (rd sqRow (k.val : Int)) = rowAt (k.val + 1) := by decide +kernel
theorem rowAt_cells (k : Nat) (h : k < 33) : ((rowAt k).map (fun x => Value.int .i32 x)).toArray.setIfInBounds k (.int .i32 (rd sqRow (k : Int))) = ((rowAt (k + 1)).map (fun x => Value.int .i32 x)).toArray := by
  rw [← rowAt_set ⟨k, h⟩]
  simp
def squash_Row.zs : Array Value := #[.int .i32 0, .int .i32 0, .int .i32 0, .int .i32 0, .int .i32 0, .int .i32 0, .int .i32 0, .int .i32 0, .int .i32 0, .int .i32 0, .int .i32 0, .int .i32 0, .int .i32 0, .int .i32 0, .int .i32 0, .int .i32 0, .int .i32 0, .int .i32 0, .int .i32 0, .int .i32 0, .int .i32 0, .int .i32 0, .int .i32 0, .int .i32 0, .int .i32 0, .int .i32 0, .int .i32 0, .int .i32 0, .int .i32 0, .int .i32 0, .int .i32 0, .int .i32 0, .int .i32 0]
theorem squash_Row.at_ (k : Nat) (h : k < 33) : ((rowAt k).map (fun x => Value.int .i32 x)).toArray[k]? = some (.int .i32 (rd (rowAt k) (k : Int))) := by
  have hl : (rowAt k).length = 33 := by simp [rowAt, sqRow]; omega
  exact arr_sel_ .i32 (rowAt k) hl (i := (k : Int)) (by omega) (by omega)
theorem squash_Row.row_ (w : World) (hT : Tab_ w) :
    Calls Tryd.prog 12 #[] w fun e w' => e = .returned (.agg #[.int .i32 1, .int .i32 2, .int .i32 3, .int .i32 6, .int .i32 10, .int .i32 16, .int .i32 27, .int .i32 45, .int .i32 73, .int .i32 120, .int .i32 194, .int .i32 310, .int .i32 488, .int .i32 747, .int .i32 1101, .int .i32 1546, .int .i32 2047, .int .i32 2549, .int .i32 2994, .int .i32 3348, .int .i32 3607, .int .i32 3785, .int .i32 3901, .int .i32 3975, .int .i32 4022, .int .i32 4050, .int .i32 4068, .int .i32 4079, .int .i32 4085, .int .i32 4089, .int .i32 4092, .int .i32 4093, .int .i32 4094]) ∧ Below w.heap.size w w' := by
  have HT := Aside0.mk hT
  clear hT
  go_enter Tryd.func12, Tryd.ntmps12
  go_wp2
  go_loopg [3] 33 (fun kx s3 wr => ∃ k : Nat, k ≤ 33 ∧ s3 = .int .i64 k ∧ 33 - k ≤ kx ∧ Aside0 (Below w.heap.size w wr) ∧ Aside0 (wr.heap[w.heap.size + 1]? = some (.cells ((rowAt k).map (fun x => Value.int .i32 x)).toArray 23 (0, 0))) ∧ Aside0 (∃ cs, cs.size = 33 ∧ wr.heap[w.heap.size]? = some (.cells cs 23 (0, 0))))
  case atStart => exact ⟨0, by omega, rfl, by omega, Aside0.mk (by repeat (first | exact Below.refl _ _ | apply below_alloc | apply pw_below_drewN | apply below_drew)), Aside0.mk ((show (w.alloc (.cells squash_Row.zs 23 (0, 0))).heap.size = w.heap.size + 1 by simp) ▸ blk_new (w.alloc (.cells squash_Row.zs 23 (0, 0))) _), Aside0.mk ⟨_, rfl, blk_alloc (blk_new w _) _⟩⟩
  case round =>
    obtain ⟨k, hk, rfl, hg, HB, HO, HR⟩ := hrel
    by_cases hlt : k < 33
    · have c0 := (tab_bel HT.out HB.out).out k hlt
      have HC := Aside0.mk (rowAt_cells k hlt)
      have c1 : wr.cell? ⟨w.heap.size + 1, k, none⟩ = some (.int .i32 (rd (rowAt k) (k : Int))) := (blk_cell HO.out k).trans (squash_Row.at_ k hlt)
      have c2 := blk_frozen HO.out k
      go_wp2
      go_roundg (33 - (k + 1))
      case measure => omega
      case rel =>
        refine ⟨k + 1, by omega, by go_num, Nat.le_refl _, Aside0.mk (below_set HB.out (by simp)), Aside0.mk ?_, Aside0.mk ?_⟩
        · rw [← HC.out]; exact blk_set HO.out k _
        · obtain ⟨cs, h1, h2⟩ := HR.out
          exact ⟨cs, h1, blk_far h2 (by simp) _⟩
    · obtain rfl : k = 33 := by omega
      have HO2 : Aside0 (wr.heap[w.heap.size + 1]? = some (.cells #[.int .i32 1, .int .i32 2, .int .i32 3, .int .i32 6, .int .i32 10, .int .i32 16, .int .i32 27, .int .i32 45, .int .i32 73, .int .i32 120, .int .i32 194, .int .i32 310, .int .i32 488, .int .i32 747, .int .i32 1101, .int .i32 1546, .int .i32 2047, .int .i32 2549, .int .i32 2994, .int .i32 3348, .int .i32 3607, .int .i32 3785, .int .i32 3901, .int .i32 3975, .int .i32 4022, .int .i32 4050, .int .i32 4068, .int .i32 4079, .int .i32 4085, .int .i32 4089, .int .i32 4092, .int .i32 4093, .int .i32 4094] 23 (0, 0))) := Aside0.mk (HO.out.trans rfl)
      obtain ⟨cs, h1, h2⟩ := HR.out
      have HR2 := Aside0.mk h2
      have HS := Aside0.mk h1
      clear h1 h2 HO HR
      go_wp2_with (first | (refine wpList_load_row rfl 23 (.tmp 1) rfl (w.heap.size + 1) rfl 23 _ (0, 0) _ HO2.out Tryd.underlying23 rfl (by kernel_rfl) ?_) | ((with_reducible refine gate_store (t := 23) (p := 0) rfl ?_); refine wstore_event (t := 23) (p := 0) (v := ?vo) (cs := #[.int .i32 1, .int .i32 2, .int .i32 3, .int .i32 6, .int .i32 10, .int .i32 16, .int .i32 27, .int .i32 45, .int .i32 73, .int .i32 120, .int .i32 194, .int .i32 310, .int .i32 488, .int .i32 747, .int .i32 1101, .int .i32 1546, .int .i32 2047, .int .i32 2549, .int .i32 2994, .int .i32 3348, .int .i32 3607, .int .i32 3785, .int .i32 3901, .int .i32 3975, .int .i32 4022, .int .i32 4050, .int .i32 4068, .int .i32 4079, .int .i32 4085, .int .i32 4089, .int .i32 4092, .int .i32 4093, .int .i32 4094]) ?hg ?ho ?hn ?hx ?hy HR2.out (by kernel_rfl) (by have := HS.out; simpa using this) (by rfl) ?_; (case ho => rfl); (case hg => rfl); (case hn => rfl); (case hx => first | rfl | (go_simp; done) | (go_simp; rfl)); (case hy => first | rfl | (go_simp; done) | (go_simp; rfl)); intro w2 hbox hgr; have BX := Aside0.mk hbox; have GR := Aside0.mk hgr; clear hbox hgr))
      refine bodyPost_ret (results_cell_row rfl _ _ w.heap.size 23 #[.int .i32 1, .int .i32 2, .int .i32 3, .int .i32 6, .int .i32 10, .int .i32 16, .int .i32 27, .int .i32 45, .int .i32 73, .int .i32 120, .int .i32 194, .int .i32 310, .int .i32 488, .int .i32 747, .int .i32 1101, .int .i32 1546, .int .i32 2047, .int .i32 2549, .int .i32 2994, .int .i32 3348, .int .i32 3607, .int .i32 3785, .int .i32 3901, .int .i32 3975, .int .i32 4022, .int .i32 4050, .int .i32 4068, .int .i32 4079, .int .i32 4085, .int .i32 4089, .int .i32 4092, .int .i32 4093, .int .i32 4094] (0, 0) _ rfl BX.out Tryd.underlying23 rfl (by kernel_rfl)) rfl ?_
      exact ⟨rfl, pw_below_grown HB.out _ (below_size HB.out) GR.out (fun k_ e_ => by injection e_ with e_; omega)⟩
theorem squash_Row.calls (r1 : Int) (r2 : Int) (r3 : Int) (r4 : Int) (r5 : Int) (r6 : Int) (r7 : Int) (r8 : Int) (r9 : Int) (r10 : Int) (r11 : Int) (r12 : Int) (r13 : Int) (r14 : Int) (r15 : Int) (r16 : Int) (r17 : Int) (r18 : Int) (r19 : Int) (r20 : Int) (r21 : Int) (r22 : Int) (r23 : Int) (r24 : Int) (r25 : Int) (r26 : Int) (r27 : Int) (r28 : Int) (r29 : Int) (r30 : Int) (r31 : Int) (r32 : Int) (r33 : Int) (w : World) (hT : Tab_ w) (h : squash_Row.f = some (r1, r2, r3, r4, r5, r6, r7, r8, r9, r10, r11, r12, r13, r14, r15, r16, r17, r18, r19, r20, r21, r22, r23, r24, r25, r26, r27, r28, r29, r30, r31, r32, r33)) :
    Calls Tryd.prog 12 #[] w fun e w' => e = .returned (.agg #[.int .i32 r1, .int .i32 r2, .int .i32 r3, .int .i32 r4, .int .i32 r5, .int .i32 r6, .int .i32 r7, .int .i32 r8, .int .i32 r9, .int .i32 r10, .int .i32 r11, .int .i32 r12, .int .i32 r13, .int .i32 r14, .int .i32 r15, .int .i32 r16, .int .i32 r17, .int .i32 r18, .int .i32 r19, .int .i32 r20, .int .i32 r21, .int .i32 r22, .int .i32 r23, .int .i32 r24, .int .i32 r25, .int .i32 r26, .int .i32 r27, .int .i32 r28, .int .i32 r29, .int .i32 r30, .int .i32 r31, .int .i32 r32, .int .i32 r33]) ∧ Below w.heap.size w w' := by
  simp only [squash_Row.f, Option.some.injEq, Prod.mk.injEq] at h
  obtain ⟨rfl, rfl, rfl, rfl, rfl, rfl, rfl, rfl, rfl, rfl, rfl, rfl, rfl, rfl, rfl, rfl, rfl, rfl, rfl, rfl, rfl, rfl, rfl, rfl, rfl, rfl, rfl, rfl, rfl, rfl, rfl, rfl, rfl⟩ := h
  exact squash_Row.row_ w hT

-- NOT PRINTED: function 17 (sort_Search)

/-! ### squash_Stretch: function 14 -/
theorem sq_steps : ∀ i j : Fin 64, ((i.val : Int) * 64 + j.val < 4093) → sq ((i.val : Int) * 64 + j.val - 2047) ≤ sq ((i.val : Int) * 64 + j.val + 1 - 2047) := by decide +kernel
theorem sq_step (i : Nat) (h : i < 4093) : sq ((i : Int) - 2047) ≤ sq ((i : Int) + 1 - 2047) := by
  have := sq_steps ⟨i / 64, by omega⟩ ⟨i % 64, by omega⟩
  dsimp only at this
  rw [show ((i / 64 : Nat) : Int) * 64 + ((i % 64 : Nat) : Int) = (i : Int) from by omega] at this
  exact this (by omega)
theorem sq_mono (a b : Nat) (h : a ≤ b) (hb : b < 4094) : sq ((a : Int) - 2047) ≤ sq ((b : Int) - 2047) := by
  induction b with
  | zero => obtain rfl : a = 0 := by omega
            exact Int.le_refl _
  | succ b ih =>
    by_cases e : a = b + 1
    · subst e; exact Int.le_refl _
    · exact Int.le_trans (ih (by omega) (by omega)) (by have := sq_step b (by omega); simpa using this)
/-- How many of the numbers from -2047 to 2046 are squashed to less. -/
def lessS (p : Int) : Nat := (List.range 4094).countP fun i : Nat => decide (sq ((i : Int) - 2047) < p)
def squash_Stretch.f (a0 : Int) : Option (Int) := some ((lessS a0 : Int) - 2047)
theorem squash_Stretch.cl (p : Int) (W : World) (B : Nat) (hT : Tab_ W) (hc : W.cell? ⟨B, 0, none⟩ = some (.int .i32 p)) (i : Nat) (hi : i < 4094) :
    Calls Tryd.prog 18 #[.int .i64 i, .pointer (some ⟨B, 0, none⟩)] W fun e w' => e = .returned (.bool (decide (p ≤ sq ((i : Int) - 2047)))) ∧ Below W.heap.size W w' := by
  have hB := World.block_lt_of_cell? _ _ hc
  have hS : ∀ n, Calls Tryd.prog 10 #[.int .i32 ((i : Int) - 2047)] (W.drewN n) fun e w' => e = .returned (.int .i32 (sq ((i : Int) - 2047))) ∧ ∃ m, w' = (W.drewN n).drewN m := fun n => squash_Squash.quiet _ _ _ (tab_bel hT (pw_below_drewN (Below.refl _ _) n)) (sq_f _)
  clear hT
  have i0 : (0 : Int) ≤ (i : Int) := by omega
  have i1 : (i : Int) < 4094 := by omega
  go_enter Tryd.func18, Tryd.ntmps18
  go_wp2
  have iw : wrap32 ((i : Int)) = (i : Int) := by rw [wrap32]; omega
  have iw2 : wrap32 ((i : Int) - 2047) = (i : Int) - 2047 := by rw [wrap32]; omega
  go_quiet (first | (go_at_call 10; exact Calls.quiet_of (hS _)))
  go_wp2
  go_ret
  exact ⟨rfl, pw_below_drewN (Below.refl _ _) _⟩
theorem squash_Stretch.countP_cut (q : Nat → Bool) (n k : Nat) (hk : k ≤ n) (h0 : ∀ t, t < k → q t = true) (h1 : ∀ t, k ≤ t → t < n → q t = false) : (List.range n).countP q = k := by
  induction n with
  | zero => obtain rfl : k = 0 := by omega
            rfl
  | succ n ih =>
    rw [List.range_succ, List.countP_append]
    by_cases e : k = n + 1
    · subst e
      have : (List.range n).countP q = n := by
        rw [List.countP_eq_length.mpr (fun a ha => h0 a (by have := List.mem_range.mp ha; omega)), List.length_range]
      rw [this]
      simp [h0 n (by omega)]
    · rw [ih (by omega) (fun t a b => h1 t a (by omega))]
      simp [h1 n (by omega) (by omega)]
theorem squash_Stretch.search (p : Int) (w : World) (B : Nat) (hT : Tab_ w) (hc : w.cell? ⟨B, 0, none⟩ = some (.int .i32 p)) :
    Calls Tryd.prog 17 #[.int .i64 4094, .func (.func 18) #[] #[.pointer (some ⟨B, 0, none⟩)]] w fun e w' => e = .returned (.int .i64 (lessS p)) ∧ Below w.heap.size w w' := by
  have hB := World.block_lt_of_cell? _ _ hc
  have HF : Aside0 (∀ (W : World) (i : Nat), Below w.heap.size w W → i < 4094 → Calls Tryd.prog 18 #[.int .i64 i, .pointer (some ⟨B, 0, none⟩)] W fun e w' => e = .returned (.bool (decide (p ≤ sq ((i : Int) - 2047)))) ∧ Below W.heap.size W w') :=
    Aside0.mk fun W i b hi => squash_Stretch.cl p W B (tab_bel hT b) ((b.cell (p := ⟨B, 0, none⟩) hB).trans hc) i hi
  clear hT hc
  go_enter Tryd.func17, Tryd.ntmps17
  go_wp2
  go_loopg [5, 6] 4094 (fun kx s5 s6 wr => ∃ (lo hi : Nat), s5 = .int .i64 lo ∧ s6 = .int .i64 hi ∧ lo ≤ hi ∧ hi ≤ 4094 ∧ hi - lo ≤ kx ∧ Aside0 (Below w.heap.size w wr) ∧
    Aside0 ((∀ t : Nat, t < lo → sq ((t : Int) - 2047) < p) ∧ (∀ t : Nat, hi ≤ t → t < 4094 → p ≤ sq ((t : Int) - 2047))))
  case atStart => exact ⟨0, 4094, rfl, rfl, by omega, by omega, by omega, Aside0.mk (by repeat (first | exact Below.refl _ _ | apply below_alloc | apply pw_below_drewN | apply below_drew)), Aside0.mk ⟨fun t ht => absurd ht (Nat.not_lt_zero _), fun t h1 h2 => by omega⟩⟩
  case round =>
    obtain ⟨lo, hi, rfl, rfl, hlh, hin, hg, HB, I⟩ := hrel
    by_cases hlt : lo < hi
    · have hc := fun W b => HF.out W ((lo + hi) / 2) b (by omega)
      rw [show (((lo + hi) / 2 : Nat) : Int) = ((lo : Int) + (hi : Int)) / 2 by omega] at hc
      by_cases hp : p ≤ sq (((lo : Int) + (hi : Int)) / 2 - 2047)
      · rw [decide_eq_true hp] at hc
        have HP := Aside0.mk hp
        clear hp
        go_wp2_with (go_at_call 18; refine (hc _ (by repeat (first | exact HB.out | apply below_alloc | apply pw_below_drewN | apply below_drew))).mono ?_; rintro e w' ⟨rfl, hb⟩; have n0_ := Aside0.mk (below_step (by repeat (first | exact HB.out | apply below_alloc | apply pw_below_drewN | apply below_drew)) hb); clear HB; have HB := n0_; clear n0_ hb)
        go_roundg ((lo + hi) / 2 - lo)
        case measure => omega
        case rel =>
          exact ⟨lo, (lo + hi) / 2, rfl, by rw [show ((lo : Int) + (hi : Int)) / 2 = (((lo + hi) / 2 : Nat) : Int) by omega], by omega, by omega, Nat.le_refl _, Aside0.mk (by repeat (first | exact HB.out | apply below_alloc | apply pw_below_drewN | apply below_drew)), Aside0.mk ⟨I.out.1, fun t h1 h2 => by
            have h3 := sq_mono ((lo + hi) / 2) t h1 h2
            have h4 := HP.out
            rw [show ((lo : Int) + (hi : Int)) / 2 = (((lo + hi) / 2 : Nat) : Int) by omega] at h4
            exact Int.le_trans h4 h3⟩⟩
      · rw [decide_eq_false hp] at hc
        have HP := Aside0.mk hp
        clear hp
        go_wp2_with (go_at_call 18; refine (hc _ (by repeat (first | exact HB.out | apply below_alloc | apply pw_below_drewN | apply below_drew))).mono ?_; rintro e w' ⟨rfl, hb⟩; have n0_ := Aside0.mk (below_step (by repeat (first | exact HB.out | apply below_alloc | apply pw_below_drewN | apply below_drew)) hb); clear HB; have HB := n0_; clear n0_ hb)
        go_roundg (hi - ((lo + hi) / 2 + 1))
        case measure => omega
        case rel =>
          exact ⟨(lo + hi) / 2 + 1, hi, by rw [show ((lo : Int) + (hi : Int)) / 2 + 1 = (((lo + hi) / 2 + 1 : Nat) : Int) by omega], rfl, by omega, hin, Nat.le_refl _, Aside0.mk (by repeat (first | exact HB.out | apply below_alloc | apply pw_below_drewN | apply below_drew)), Aside0.mk ⟨fun t ht => by
            have h3 := sq_mono t ((lo + hi) / 2) (by omega) (by omega)
            have h4 := HP.out
            rw [show ((lo : Int) + (hi : Int)) / 2 = (((lo + hi) / 2 : Nat) : Int) by omega] at h4
            omega, I.out.2⟩⟩
    · obtain rfl : hi = lo := by omega
      have ec : lessS p = hi := squash_Stretch.countP_cut _ 4094 hi hin (fun t ht => decide_eq_true (I.out.1 t ht)) (fun t h1 h2 => decide_eq_false (by have := I.out.2 t h1 h2; omega))
      have EC := Aside0.mk ec
      clear ec
      go_wp2
      go_ret
      exact ⟨by rw [EC.out]; rfl, by repeat (first | exact HB.out | apply below_alloc | apply pw_below_drewN | apply below_drew)⟩
theorem squash_Stretch.calls (a0 : Int) (r : Int) (w : World) (hT : Tab_ w) (h : squash_Stretch.f a0 = some r) :
    Calls Tryd.prog 14 #[.int .i32 a0] w fun e w' => e = .returned (.int .i32 r) ∧ Below w.heap.size w w' := by
  have hb4 : lessS a0 ≤ 4094 := by
    have := List.countP_le_length (p := fun i : Nat => decide (sq ((i : Int) - 2047) < a0)) (l := List.range 4094)
    rw [List.length_range] at this
    exact this
  simp only [squash_Stretch.f, Option.some.injEq] at h
  subst h
  have hS : Aside0 (∀ (W : World) (B : Nat), Below w.heap.size w W → W.cell? ⟨B, 0, none⟩ = some (.int .i32 a0) → Calls Tryd.prog 17 #[.int .i64 4094, .func (.func 18) #[] #[.pointer (some ⟨B, 0, none⟩)]] W fun e w' => e = .returned (.int .i64 (lessS a0)) ∧ Below W.heap.size W w') :=
    Aside0.mk fun W B b c => squash_Stretch.search a0 W B (tab_bel hT b) c
  clear hT
  generalize lessS a0 = q at hS hb4 ⊢
  have iw : wrap32 ((q : Int)) = (q : Int) := by rw [wrap32]; omega
  have iw2 : wrap32 ((q : Int) - 2047) = (q : Int) - 2047 := by rw [wrap32]; omega
  go_enter Tryd.func14, Tryd.ntmps14
  go_wp2_with (go_at_call 17; refine (hS.out _ _ (by repeat (first | exact Below.refl _ _ | apply below_alloc | apply pw_below_drewN | apply below_drew)) (by simp)).mono ?_; rintro e w' ⟨rfl, hb⟩)
  go_ret
  exact ⟨rfl, below_step (by repeat (first | exact Below.refl _ _ | apply below_alloc | apply pw_below_drewN | apply below_drew)) hb⟩

/-! ### bitloftlaw04_alive: function 16 -/
def bitloftlaw04_alive.f  : Option (Bool) := some (2047 == 2047)
set_option maxHeartbeats 8000000 in
set_option maxRecDepth 100000 in
theorem bitloftlaw04_alive.calls  (r : Bool) (w : World) (hT : Tab_ w) (h : bitloftlaw04_alive.f  = some r) :
    Calls Tryd.prog 16 #[] w fun e w' => e = .returned (.bool r) ∧ Below w.heap.size w w' := by
  have HB := Aside0.mk (Below.refl w.heap.size w)
  have H : (some (2047 == 2047)) = some r := h
  clear h
  have A1 := Aside0.mk (show squash_Squash.f 0 = some 2047 by first | rfl | decide +kernel)
  have A2 := Aside0.mk (show squash_Squash.f 128 = some 2549 by first | rfl | decide +kernel)
  have A3 := Aside0.mk (show squash_Squash.f 64 = some 2298 by first | rfl | decide +kernel)
  have A4 := Aside0.mk (show squash_Squash.f (-2047) = some 1 by first | rfl | decide +kernel)
  have A5 := Aside0.mk (show squash_Squash.f 2047 = some 4094 by first | rfl | decide +kernel)
  have A6 := Aside0.mk (show squash_Squash.f 2048 = some 4095 by first | rfl | decide +kernel)
  have A7 := Aside0.mk (show squash_Stretch.f 2047 = some 0 by first | rfl | decide +kernel)
  have A8 := Aside0.mk (show squash_Stretch.f 0 = some (-2047) by first | rfl | decide +kernel)
  have A9 := Aside0.mk (show squash_Stretch.f 1 = some (-2047) by first | rfl | decide +kernel)
  have A10 := Aside0.mk (show squash_Stretch.f 4095 = some 2047 by first | rfl | decide +kernel)
  obtain rfl := Option.some.inj H
  go_enter Tryd.func16, Tryd.ntmps16
  go_wp2_with (first | ((with_reducible refine gate_callee (f := 10) rfl ?_); refine gL_ (some 1) Tryd.func10 #[.int .i32 0] ?_; (with_reducible refine (squash_Squash.calls 0 2047 _ (tab_bel hT (by repeat (first | (with_reducible first | exact HB.out | apply below_alloc | apply bN_ | apply below_drew1) | exact HB.out))) A1.out).mono ?_); rintro e w' ⟨rfl, ⟨nd, rfl⟩⟩; refine ⟨_, rfl, ?_⟩) | (go_at_call 10; (with_reducible refine (squash_Squash.calls 128 2549 _ (tab_bel hT (by repeat (first | (with_reducible first | exact HB.out | apply below_alloc | apply bN_ | apply below_drew1) | exact HB.out))) A2.out).mono ?_); rintro e w' ⟨rfl, ⟨nd, rfl⟩⟩) | (go_at_call 10; (with_reducible refine (squash_Squash.calls 64 2298 _ (tab_bel hT (by repeat (first | (with_reducible first | exact HB.out | apply below_alloc | apply bN_ | apply below_drew1) | exact HB.out))) A3.out).mono ?_); rintro e w' ⟨rfl, ⟨nd, rfl⟩⟩) | (go_at_call 10; (with_reducible refine (squash_Squash.calls (-2047) 1 _ (tab_bel hT (by repeat (first | (with_reducible first | exact HB.out | apply below_alloc | apply bN_ | apply below_drew1) | exact HB.out))) A4.out).mono ?_); rintro e w' ⟨rfl, ⟨nd, rfl⟩⟩) | (go_at_call 10; (with_reducible refine (squash_Squash.calls 2047 4094 _ (tab_bel hT (by repeat (first | (with_reducible first | exact HB.out | apply below_alloc | apply bN_ | apply below_drew1) | exact HB.out))) A5.out).mono ?_); rintro e w' ⟨rfl, ⟨nd, rfl⟩⟩) | (go_at_call 10; (with_reducible refine (squash_Squash.calls 2048 4095 _ (tab_bel hT (by repeat (first | (with_reducible first | exact HB.out | apply below_alloc | apply bN_ | apply below_drew1) | exact HB.out))) A6.out).mono ?_); rintro e w' ⟨rfl, ⟨nd, rfl⟩⟩) | (go_at_call 14; (with_reducible refine (squash_Stretch.calls 2047 0 _ (tab_bel hT (by repeat (first | (with_reducible first | exact HB.out | apply below_alloc | apply bN_ | apply below_drew1) | exact HB.out))) A7.out).mono ?_); rintro e w11 ⟨rfl, hb⟩; have n0_ := Aside0.mk (below_step (by repeat (first | (with_reducible first | exact HB.out | apply below_alloc | apply bN_ | apply below_drew1) | exact HB.out)) hb); clear HB; have HB := n0_; clear n0_; (try clear hb)) | (go_at_call 14; (with_reducible refine (squash_Stretch.calls 0 (-2047) _ (tab_bel hT (by repeat (first | (with_reducible first | exact HB.out | apply below_alloc | apply bN_ | apply below_drew1) | exact HB.out))) A8.out).mono ?_); rintro e w12 ⟨rfl, hb⟩; have n0_ := Aside0.mk (below_step (by repeat (first | (with_reducible first | exact HB.out | apply below_alloc | apply bN_ | apply below_drew1) | exact HB.out)) hb); clear HB; have HB := n0_; clear n0_; (try clear hb)) | (go_at_call 14; (with_reducible refine (squash_Stretch.calls 1 (-2047) _ (tab_bel hT (by repeat (first | (with_reducible first | exact HB.out | apply below_alloc | apply bN_ | apply below_drew1) | exact HB.out))) A9.out).mono ?_); rintro e w13 ⟨rfl, hb⟩; have n0_ := Aside0.mk (below_step (by repeat (first | (with_reducible first | exact HB.out | apply below_alloc | apply bN_ | apply below_drew1) | exact HB.out)) hb); clear HB; have HB := n0_; clear n0_; (try clear hb)) | (go_at_call 14; (with_reducible refine (squash_Stretch.calls 4095 2047 _ (tab_bel hT (by repeat (first | (with_reducible first | exact HB.out | apply below_alloc | apply bN_ | apply below_drew1) | exact HB.out))) A10.out).mono ?_); rintro e w14 ⟨rfl, hb⟩; have n0_ := Aside0.mk (below_step (by repeat (first | (with_reducible first | exact HB.out | apply below_alloc | apply bN_ | apply below_drew1) | exact HB.out)) hb); clear HB; have HB := n0_; clear n0_; (try clear hb)))
  go_ret
  exact ⟨by first | rfl | (simp [errW_none, errW_some] <;> rfl) | (simp [*, errW_none, errW_some] <;> rfl), by repeat (first | (with_reducible first | exact HB.out | apply below_alloc | apply bN_ | apply below_drew1) | exact HB.out)⟩

end Go.Proofs.YtimjmbaonkpmpaaDoor.XSquashPlaces
