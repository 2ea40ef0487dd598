-- Laid by a program of this session (wip/mkxprint.py, over the kit's print): Lean checks it.
import Derived.Test.YtaomhenneenaaaaXSlotsAgainx0
import Derived.Test.YtaomhenneenaaaaXSlotsAgainx3
namespace Go.Proofs.Ytaomhenneenaaaa.XSlotsAgain
open List (setIfInBounds_toArray set_cons_zero set_cons_succ)
open Go.RowKit Go.Proofs.YtaomhenneenaaaaW.PrintWords Go.Proofs.YtaomhenneenaaaaW.PrintLast Go.Proofs.YtaomhenneenaaaaW.PrintMore
attribute [local go_sem] max2_int min2_int max_two min_two max_three min_three max_four min_four   -- for this text's walks alone
set_option linter.unusedVariables false
set_option linter.unusedSimpArgs false

/-! ### slots_Find: function 13 -/
def slots_Find.j0 : Nat → Int → Int → Int → List (S42) → Option (Int × (List (S42)) × Int × Int)
 | 0, _, _, _, _ => none
 | k + 1, x8, x11, x130000, x130001 => if 0 ≤ x8 then (if x8 < (x130001.length : Int) then (some (x130000, (x130001.set (x8 : Int).toNat (⟨x11, (⟨0, 0, 0, 0, 0, 0, 0, 0, 0, 0, 0, 0, 0, 0, 0⟩ : S40)⟩ : S42)), x8, 0)) else (none)) else (none)
def slots_Find.f (k : Nat) (a0_0 : Int) (l0_1 : List (S42)) (a1 : Int) : Option (Int × (List (S42)) × Int × Int) := (slots_Check.f k a0_0 l0_1).bind fun t122 => (if t122 = 0 then ((hashes_Place.f a1 (l0_1.length : Int)).bind fun bt123 => (if bt123.2 = 0 then ((hashes_Check.f a1).bind fun t125 => ((slices_Clone_api_Slot_api_Slot.f l0_1).bind fun t126 => (if 0 ≤ bt123.1 then (if bt123.1 < (l0_1.length : Int) then (if ((rd_T42 l0_1 bt123.1).f0) = t125 then (some (a0_0, t126, bt123.1, 0)) else (if 0 ≤ (Go.bits .xor .i64 bt123.1 1) then (if (Go.bits .xor .i64 bt123.1 1) < (l0_1.length : Int) then (if ((rd_T42 l0_1 (Go.bits .xor .i64 bt123.1 1)).f0) = t125 then (some (a0_0, t126, Go.bits .xor .i64 bt123.1 1, 0)) else ((slots_priority.f ((rd_T42 l0_1 (Go.bits .xor .i64 bt123.1 1)).f0) ((rd_T42 l0_1 (Go.bits .xor .i64 bt123.1 1)).f1.f0) ((rd_T42 l0_1 (Go.bits .xor .i64 bt123.1 1)).f1.f1) ((rd_T42 l0_1 (Go.bits .xor .i64 bt123.1 1)).f1.f2) ((rd_T42 l0_1 (Go.bits .xor .i64 bt123.1 1)).f1.f3) ((rd_T42 l0_1 (Go.bits .xor .i64 bt123.1 1)).f1.f4) ((rd_T42 l0_1 (Go.bits .xor .i64 bt123.1 1)).f1.f5) ((rd_T42 l0_1 (Go.bits .xor .i64 bt123.1 1)).f1.f6) ((rd_T42 l0_1 (Go.bits .xor .i64 bt123.1 1)).f1.f7) ((rd_T42 l0_1 (Go.bits .xor .i64 bt123.1 1)).f1.f8) ((rd_T42 l0_1 (Go.bits .xor .i64 bt123.1 1)).f1.f9) ((rd_T42 l0_1 (Go.bits .xor .i64 bt123.1 1)).f1.f10) ((rd_T42 l0_1 (Go.bits .xor .i64 bt123.1 1)).f1.f11) ((rd_T42 l0_1 (Go.bits .xor .i64 bt123.1 1)).f1.f12) ((rd_T42 l0_1 (Go.bits .xor .i64 bt123.1 1)).f1.f13) ((rd_T42 l0_1 (Go.bits .xor .i64 bt123.1 1)).f1.f14)).bind fun t133 => ((slots_priority.f ((rd_T42 l0_1 bt123.1).f0) ((rd_T42 l0_1 bt123.1).f1.f0) ((rd_T42 l0_1 bt123.1).f1.f1) ((rd_T42 l0_1 bt123.1).f1.f2) ((rd_T42 l0_1 bt123.1).f1.f3) ((rd_T42 l0_1 bt123.1).f1.f4) ((rd_T42 l0_1 bt123.1).f1.f5) ((rd_T42 l0_1 bt123.1).f1.f6) ((rd_T42 l0_1 bt123.1).f1.f7) ((rd_T42 l0_1 bt123.1).f1.f8) ((rd_T42 l0_1 bt123.1).f1.f9) ((rd_T42 l0_1 bt123.1).f1.f10) ((rd_T42 l0_1 bt123.1).f1.f11) ((rd_T42 l0_1 bt123.1).f1.f12) ((rd_T42 l0_1 bt123.1).f1.f13) ((rd_T42 l0_1 bt123.1).f1.f14)).bind fun t135 => (if t133 < t135 then (slots_Find.j0 k (Go.bits .xor .i64 bt123.1 1) t125 a0_0 t126) else (slots_Find.j0 k bt123.1 t125 a0_0 t126))))) else (none)) else (none))) else (none)) else (none)))) else (some (0, ([] : List (S42)), 0, bt123.2)))) else (some (0, ([] : List (S42)), 0, t122)))
theorem slots_Find.mono_l : ∀ k, (∀ y0 y1 y2 y3, LeO (slots_Find.j0 k y0 y1 y2 y3) (slots_Find.j0 (k + 1) y0 y1 y2 y3))
 | 0 => fun _ _ _ _ r h => by simp [slots_Find.j0] at h
 | k + 1 => by
  have ih0 := slots_Find.mono_l k
  ·
   intro y0 y1 y2 y3
   unfold slots_Find.j0
   repeat' first
   | (with_reducible exact ih0 _ _ _ _)
   | (with_reducible exact slots_Check.mono _ _ _)
   | (with_reducible exact LeO.refl _)
   | (with_reducible exact LeO.none _)
   | (with_reducible refine LeO.ite ?_ ?_)
   | (with_reducible refine LeO.bind ?_ (fun _ => ?_))
   | exact ih0 _ _ _ _
   | exact slots_Check.mono _ _ _
   | exact LeO.none _
   | refine LeO.ite ?_ ?_
   | refine LeO.bind ?_ (fun _ => ?_)
theorem slots_Find.mono : ∀ a0 a1 a2 k, LeO (slots_Find.f k a0 a1 a2) (slots_Find.f (k + 1) a0 a1 a2) := by
 intro a0 a1 a2 k
 have ih0 := slots_Find.mono_l k
 unfold slots_Find.f
 repeat' first
   | (with_reducible exact ih0 _ _ _ _)
   | (with_reducible exact slots_Check.mono _ _ _)
   | (with_reducible exact LeO.refl _)
   | (with_reducible exact LeO.none _)
   | (with_reducible refine LeO.ite ?_ ?_)
   | (with_reducible refine LeO.bind ?_ (fun _ => ?_))
   | exact ih0 _ _ _ _
   | exact slots_Check.mono _ _ _
   | exact LeO.none _
   | refine LeO.ite ?_ ?_
   | refine LeO.bind ?_ (fun _ => ?_)
def slots_Find.T8 : Bool × List (List Nat × List Nat) := (true, [([], []), ([0], [0]), ([], []), ([2], [2]), ([3], [3]), ([1, 4], [1, 4]), ([], []), ([6, 5, 4, 0, 1, 2, 3, 4, 5, 6], [5, 6])])
def slots_Find.B8 : List Nat := [0, 1, 0, 4, 12, 31, 0, 127]
theorem slots_Find.tab8 : rtab .any (opsOf Try.f13 8) = slots_Find.T8 := by kernel_rfl
theorem slots_Find.bits8 : waitsOk slots_Find.T8.2 slots_Find.B8 = true := by kernel_rfl
def slots_Find.T13 : Bool × List (List Nat × List Nat) := (true, [([], []), ([0], [0]), ([], []), ([1, 2], [1, 2]), ([3], [3]), ([4], [4]), ([], []), ([6], [6]), ([], []), ([7, 8], [7, 8]), ([9], [9]), ([10, 5], [10]), ([5, 11], [5, 11]), ([12, 11], [12])])
def slots_Find.B13 : List Nat := [0, 1, 0, 7, 15, 31, 0, 64, 0, 448, 960, 2047, 4095, 8191]
theorem slots_Find.tab13 : rtab .any (opsOf Try.f13 13) = slots_Find.T13 := by kernel_rfl
theorem slots_Find.bits13 : waitsOk slots_Find.T13.2 slots_Find.B13 = true := by kernel_rfl
set_option maxHeartbeats 8000000 in
set_option maxRecDepth 100000 in
theorem slots_Find.calls (k : Nat) (a0_0 : Int) (A0_1 : Option Addr) (c0_1 : Nat) (l0_1 : List (S42)) (a1 : Int) (r1 : Int) (r2 : List (S42)) (r3 : Int) (r4 : Int) (w : World) (hr0_1 : Kd.C k42 w A0_1 l0_1.length l0_1) (hc0_1 : l0_1.length ≤ c0_1) (h : slots_Find.f k a0_0 l0_1 a1 = some (r1, r2, r3, r4)) :
  Calls Try.prog 13 #[.agg #[.int .i64 a0_0, .slice A0_1 l0_1.length c0_1], .int .u32 a1] w fun e w' => ∃ v1_ : Value, e = .returned (.tuple #[.agg #[.int .i64 r1, v1_], .int .i64 r3, .int .i64 r4]) ∧ Kd.R k42 42 w' w.heap.size (fun _ => True) v1_ r2 ∧ Below w.heap.size w w' := by
 have hu24 := Try.underlying24
 have hu42 := Try.underlying42
 have HR0_1 := Aside0.mk hr0_1
 have HC0_1 := Aside0.mk hc0_1
 clear hr0_1 hc0_1
 have HB := Aside0.mk (Below.refl w.heap.size w)
 have H : ((slots_Check.f k a0_0 l0_1).bind fun t122 => (if t122 = 0 then ((hashes_Place.f a1 (l0_1.length : Int)).bind fun bt123 => (if bt123.2 = 0 then ((hashes_Check.f a1).bind fun t125 => ((slices_Clone_api_Slot_api_Slot.f l0_1).bind fun t126 => (if 0 ≤ bt123.1 then (if bt123.1 < (l0_1.length : Int) then (if ((rd_T42 l0_1 bt123.1).f0) = t125 then (some (a0_0, t126, bt123.1, 0)) else (if 0 ≤ (Go.bits .xor .i64 bt123.1 1) then (if (Go.bits .xor .i64 bt123.1 1) < (l0_1.length : Int) then (if ((rd_T42 l0_1 (Go.bits .xor .i64 bt123.1 1)).f0) = t125 then (some (a0_0, t126, Go.bits .xor .i64 bt123.1 1, 0)) else ((slots_priority.f ((rd_T42 l0_1 (Go.bits .xor .i64 bt123.1 1)).f0) ((rd_T42 l0_1 (Go.bits .xor .i64 bt123.1 1)).f1.f0) ((rd_T42 l0_1 (Go.bits .xor .i64 bt123.1 1)).f1.f1) ((rd_T42 l0_1 (Go.bits .xor .i64 bt123.1 1)).f1.f2) ((rd_T42 l0_1 (Go.bits .xor .i64 bt123.1 1)).f1.f3) ((rd_T42 l0_1 (Go.bits .xor .i64 bt123.1 1)).f1.f4) ((rd_T42 l0_1 (Go.bits .xor .i64 bt123.1 1)).f1.f5) ((rd_T42 l0_1 (Go.bits .xor .i64 bt123.1 1)).f1.f6) ((rd_T42 l0_1 (Go.bits .xor .i64 bt123.1 1)).f1.f7) ((rd_T42 l0_1 (Go.bits .xor .i64 bt123.1 1)).f1.f8) ((rd_T42 l0_1 (Go.bits .xor .i64 bt123.1 1)).f1.f9) ((rd_T42 l0_1 (Go.bits .xor .i64 bt123.1 1)).f1.f10) ((rd_T42 l0_1 (Go.bits .xor .i64 bt123.1 1)).f1.f11) ((rd_T42 l0_1 (Go.bits .xor .i64 bt123.1 1)).f1.f12) ((rd_T42 l0_1 (Go.bits .xor .i64 bt123.1 1)).f1.f13) ((rd_T42 l0_1 (Go.bits .xor .i64 bt123.1 1)).f1.f14)).bind fun t133 => ((slots_priority.f ((rd_T42 l0_1 bt123.1).f0) ((rd_T42 l0_1 bt123.1).f1.f0) ((rd_T42 l0_1 bt123.1).f1.f1) ((rd_T42 l0_1 bt123.1).f1.f2) ((rd_T42 l0_1 bt123.1).f1.f3) ((rd_T42 l0_1 bt123.1).f1.f4) ((rd_T42 l0_1 bt123.1).f1.f5) ((rd_T42 l0_1 bt123.1).f1.f6) ((rd_T42 l0_1 bt123.1).f1.f7) ((rd_T42 l0_1 bt123.1).f1.f8) ((rd_T42 l0_1 bt123.1).f1.f9) ((rd_T42 l0_1 bt123.1).f1.f10) ((rd_T42 l0_1 bt123.1).f1.f11) ((rd_T42 l0_1 bt123.1).f1.f12) ((rd_T42 l0_1 bt123.1).f1.f13) ((rd_T42 l0_1 bt123.1).f1.f14)).bind fun t135 => (if t133 < t135 then (slots_Find.j0 k (Go.bits .xor .i64 bt123.1 1) t125 a0_0 t126) else (slots_Find.j0 k bt123.1 t125 a0_0 t126))))) else (none)) else (none))) else (none)) else (none)))) else (some (0, ([] : List (S42)), 0, bt123.2)))) else (some (0, ([] : List (S42)), 0, t122)))) = some (r1, r2, r3, r4) := h
 clear h
 replace H := Option.bind_eq_some_iff.mp H
 obtain ⟨t122, A30, H⟩ := H
 replace H : (if t122 = 0 then ((hashes_Place.f a1 (l0_1.length : Int)).bind fun bt123 => (if bt123.2 = 0 then ((hashes_Check.f a1).bind fun t125 => ((slices_Clone_api_Slot_api_Slot.f l0_1).bind fun t126 => (if 0 ≤ bt123.1 then (if bt123.1 < (l0_1.length : Int) then (if ((rd_T42 l0_1 bt123.1).f0) = t125 then (some (a0_0, t126, bt123.1, 0)) else (if 0 ≤ (Go.bits .xor .i64 bt123.1 1) then (if (Go.bits .xor .i64 bt123.1 1) < (l0_1.length : Int) then (if ((rd_T42 l0_1 (Go.bits .xor .i64 bt123.1 1)).f0) = t125 then (some (a0_0, t126, Go.bits .xor .i64 bt123.1 1, 0)) else ((slots_priority.f ((rd_T42 l0_1 (Go.bits .xor .i64 bt123.1 1)).f0) ((rd_T42 l0_1 (Go.bits .xor .i64 bt123.1 1)).f1.f0) ((rd_T42 l0_1 (Go.bits .xor .i64 bt123.1 1)).f1.f1) ((rd_T42 l0_1 (Go.bits .xor .i64 bt123.1 1)).f1.f2) ((rd_T42 l0_1 (Go.bits .xor .i64 bt123.1 1)).f1.f3) ((rd_T42 l0_1 (Go.bits .xor .i64 bt123.1 1)).f1.f4) ((rd_T42 l0_1 (Go.bits .xor .i64 bt123.1 1)).f1.f5) ((rd_T42 l0_1 (Go.bits .xor .i64 bt123.1 1)).f1.f6) ((rd_T42 l0_1 (Go.bits .xor .i64 bt123.1 1)).f1.f7) ((rd_T42 l0_1 (Go.bits .xor .i64 bt123.1 1)).f1.f8) ((rd_T42 l0_1 (Go.bits .xor .i64 bt123.1 1)).f1.f9) ((rd_T42 l0_1 (Go.bits .xor .i64 bt123.1 1)).f1.f10) ((rd_T42 l0_1 (Go.bits .xor .i64 bt123.1 1)).f1.f11) ((rd_T42 l0_1 (Go.bits .xor .i64 bt123.1 1)).f1.f12) ((rd_T42 l0_1 (Go.bits .xor .i64 bt123.1 1)).f1.f13) ((rd_T42 l0_1 (Go.bits .xor .i64 bt123.1 1)).f1.f14)).bind fun t133 => ((slots_priority.f ((rd_T42 l0_1 bt123.1).f0) ((rd_T42 l0_1 bt123.1).f1.f0) ((rd_T42 l0_1 bt123.1).f1.f1) ((rd_T42 l0_1 bt123.1).f1.f2) ((rd_T42 l0_1 bt123.1).f1.f3) ((rd_T42 l0_1 bt123.1).f1.f4) ((rd_T42 l0_1 bt123.1).f1.f5) ((rd_T42 l0_1 bt123.1).f1.f6) ((rd_T42 l0_1 bt123.1).f1.f7) ((rd_T42 l0_1 bt123.1).f1.f8) ((rd_T42 l0_1 bt123.1).f1.f9) ((rd_T42 l0_1 bt123.1).f1.f10) ((rd_T42 l0_1 bt123.1).f1.f11) ((rd_T42 l0_1 bt123.1).f1.f12) ((rd_T42 l0_1 bt123.1).f1.f13) ((rd_T42 l0_1 bt123.1).f1.f14)).bind fun t135 => (if t133 < t135 then (slots_Find.j0 k (Go.bits .xor .i64 bt123.1 1) t125 a0_0 t126) else (slots_Find.j0 k bt123.1 t125 a0_0 t126))))) else (none)) else (none))) else (none)) else (none)))) else (some (0, ([] : List (S42)), 0, bt123.2)))) else (some (0, ([] : List (S42)), 0, t122))) = some (r1, r2, r3, r4) := H
 have A3 := Aside0.mk A30
 clear A30
 by_cases c4 : t122 = 0
 ·
  rw [if_pos c4] at H
  have c4b0 : (t122 == 0) = true := beq_iff_eq.mpr c4
  have c4b1 : (t122 != 0) = false := bne_eq_false_iff_eq.mpr c4
  clear c4
  replace H := Option.bind_eq_some_iff.mp H
  obtain ⟨⟨t123, t124⟩, A50, H⟩ := H
  replace H : (if t124 = 0 then ((hashes_Check.f a1).bind fun t125 => ((slices_Clone_api_Slot_api_Slot.f l0_1).bind fun t126 => (if 0 ≤ t123 then (if t123 < (l0_1.length : Int) then (if ((rd_T42 l0_1 t123).f0) = t125 then (some (a0_0, t126, t123, 0)) else (if 0 ≤ (Go.bits .xor .i64 t123 1) then (if (Go.bits .xor .i64 t123 1) < (l0_1.length : Int) then (if ((rd_T42 l0_1 (Go.bits .xor .i64 t123 1)).f0) = t125 then (some (a0_0, t126, Go.bits .xor .i64 t123 1, 0)) else ((slots_priority.f ((rd_T42 l0_1 (Go.bits .xor .i64 t123 1)).f0) ((rd_T42 l0_1 (Go.bits .xor .i64 t123 1)).f1.f0) ((rd_T42 l0_1 (Go.bits .xor .i64 t123 1)).f1.f1) ((rd_T42 l0_1 (Go.bits .xor .i64 t123 1)).f1.f2) ((rd_T42 l0_1 (Go.bits .xor .i64 t123 1)).f1.f3) ((rd_T42 l0_1 (Go.bits .xor .i64 t123 1)).f1.f4) ((rd_T42 l0_1 (Go.bits .xor .i64 t123 1)).f1.f5) ((rd_T42 l0_1 (Go.bits .xor .i64 t123 1)).f1.f6) ((rd_T42 l0_1 (Go.bits .xor .i64 t123 1)).f1.f7) ((rd_T42 l0_1 (Go.bits .xor .i64 t123 1)).f1.f8) ((rd_T42 l0_1 (Go.bits .xor .i64 t123 1)).f1.f9) ((rd_T42 l0_1 (Go.bits .xor .i64 t123 1)).f1.f10) ((rd_T42 l0_1 (Go.bits .xor .i64 t123 1)).f1.f11) ((rd_T42 l0_1 (Go.bits .xor .i64 t123 1)).f1.f12) ((rd_T42 l0_1 (Go.bits .xor .i64 t123 1)).f1.f13) ((rd_T42 l0_1 (Go.bits .xor .i64 t123 1)).f1.f14)).bind fun t133 => ((slots_priority.f ((rd_T42 l0_1 t123).f0) ((rd_T42 l0_1 t123).f1.f0) ((rd_T42 l0_1 t123).f1.f1) ((rd_T42 l0_1 t123).f1.f2) ((rd_T42 l0_1 t123).f1.f3) ((rd_T42 l0_1 t123).f1.f4) ((rd_T42 l0_1 t123).f1.f5) ((rd_T42 l0_1 t123).f1.f6) ((rd_T42 l0_1 t123).f1.f7) ((rd_T42 l0_1 t123).f1.f8) ((rd_T42 l0_1 t123).f1.f9) ((rd_T42 l0_1 t123).f1.f10) ((rd_T42 l0_1 t123).f1.f11) ((rd_T42 l0_1 t123).f1.f12) ((rd_T42 l0_1 t123).f1.f13) ((rd_T42 l0_1 t123).f1.f14)).bind fun t135 => (if t133 < t135 then (slots_Find.j0 k (Go.bits .xor .i64 t123 1) t125 a0_0 t126) else (slots_Find.j0 k t123 t125 a0_0 t126))))) else (none)) else (none))) else (none)) else (none)))) else (some (0, ([] : List (S42)), 0, t124))) = some (r1, r2, r3, r4) := H
  have A5 := Aside0.mk A50
  clear A50
  by_cases c6 : t124 = 0
  ·
   rw [if_pos c6] at H
   have c6b0 : (t124 == 0) = true := beq_iff_eq.mpr c6
   have c6b1 : (t124 != 0) = false := bne_eq_false_iff_eq.mpr c6
   clear c6
   replace H := Option.bind_eq_some_iff.mp H
   obtain ⟨t125, A70, H⟩ := H
   replace H : ((slices_Clone_api_Slot_api_Slot.f l0_1).bind fun t126 => (if 0 ≤ t123 then (if t123 < (l0_1.length : Int) then (if ((rd_T42 l0_1 t123).f0) = t125 then (some (a0_0, t126, t123, 0)) else (if 0 ≤ (Go.bits .xor .i64 t123 1) then (if (Go.bits .xor .i64 t123 1) < (l0_1.length : Int) then (if ((rd_T42 l0_1 (Go.bits .xor .i64 t123 1)).f0) = t125 then (some (a0_0, t126, Go.bits .xor .i64 t123 1, 0)) else ((slots_priority.f ((rd_T42 l0_1 (Go.bits .xor .i64 t123 1)).f0) ((rd_T42 l0_1 (Go.bits .xor .i64 t123 1)).f1.f0) ((rd_T42 l0_1 (Go.bits .xor .i64 t123 1)).f1.f1) ((rd_T42 l0_1 (Go.bits .xor .i64 t123 1)).f1.f2) ((rd_T42 l0_1 (Go.bits .xor .i64 t123 1)).f1.f3) ((rd_T42 l0_1 (Go.bits .xor .i64 t123 1)).f1.f4) ((rd_T42 l0_1 (Go.bits .xor .i64 t123 1)).f1.f5) ((rd_T42 l0_1 (Go.bits .xor .i64 t123 1)).f1.f6) ((rd_T42 l0_1 (Go.bits .xor .i64 t123 1)).f1.f7) ((rd_T42 l0_1 (Go.bits .xor .i64 t123 1)).f1.f8) ((rd_T42 l0_1 (Go.bits .xor .i64 t123 1)).f1.f9) ((rd_T42 l0_1 (Go.bits .xor .i64 t123 1)).f1.f10) ((rd_T42 l0_1 (Go.bits .xor .i64 t123 1)).f1.f11) ((rd_T42 l0_1 (Go.bits .xor .i64 t123 1)).f1.f12) ((rd_T42 l0_1 (Go.bits .xor .i64 t123 1)).f1.f13) ((rd_T42 l0_1 (Go.bits .xor .i64 t123 1)).f1.f14)).bind fun t133 => ((slots_priority.f ((rd_T42 l0_1 t123).f0) ((rd_T42 l0_1 t123).f1.f0) ((rd_T42 l0_1 t123).f1.f1) ((rd_T42 l0_1 t123).f1.f2) ((rd_T42 l0_1 t123).f1.f3) ((rd_T42 l0_1 t123).f1.f4) ((rd_T42 l0_1 t123).f1.f5) ((rd_T42 l0_1 t123).f1.f6) ((rd_T42 l0_1 t123).f1.f7) ((rd_T42 l0_1 t123).f1.f8) ((rd_T42 l0_1 t123).f1.f9) ((rd_T42 l0_1 t123).f1.f10) ((rd_T42 l0_1 t123).f1.f11) ((rd_T42 l0_1 t123).f1.f12) ((rd_T42 l0_1 t123).f1.f13) ((rd_T42 l0_1 t123).f1.f14)).bind fun t135 => (if t133 < t135 then (slots_Find.j0 k (Go.bits .xor .i64 t123 1) t125 a0_0 t126) else (slots_Find.j0 k t123 t125 a0_0 t126))))) else (none)) else (none))) else (none)) else (none))) = some (r1, r2, r3, r4) := H
   have A7 := Aside0.mk A70
   clear A70
   replace H := Option.bind_eq_some_iff.mp H
   obtain ⟨t126, A80, H⟩ := H
   replace H : (if 0 ≤ t123 then (if t123 < (l0_1.length : Int) then (if ((rd_T42 l0_1 t123).f0) = t125 then (some (a0_0, t126, t123, 0)) else (if 0 ≤ (Go.bits .xor .i64 t123 1) then (if (Go.bits .xor .i64 t123 1) < (l0_1.length : Int) then (if ((rd_T42 l0_1 (Go.bits .xor .i64 t123 1)).f0) = t125 then (some (a0_0, t126, Go.bits .xor .i64 t123 1, 0)) else ((slots_priority.f ((rd_T42 l0_1 (Go.bits .xor .i64 t123 1)).f0) ((rd_T42 l0_1 (Go.bits .xor .i64 t123 1)).f1.f0) ((rd_T42 l0_1 (Go.bits .xor .i64 t123 1)).f1.f1) ((rd_T42 l0_1 (Go.bits .xor .i64 t123 1)).f1.f2) ((rd_T42 l0_1 (Go.bits .xor .i64 t123 1)).f1.f3) ((rd_T42 l0_1 (Go.bits .xor .i64 t123 1)).f1.f4) ((rd_T42 l0_1 (Go.bits .xor .i64 t123 1)).f1.f5) ((rd_T42 l0_1 (Go.bits .xor .i64 t123 1)).f1.f6) ((rd_T42 l0_1 (Go.bits .xor .i64 t123 1)).f1.f7) ((rd_T42 l0_1 (Go.bits .xor .i64 t123 1)).f1.f8) ((rd_T42 l0_1 (Go.bits .xor .i64 t123 1)).f1.f9) ((rd_T42 l0_1 (Go.bits .xor .i64 t123 1)).f1.f10) ((rd_T42 l0_1 (Go.bits .xor .i64 t123 1)).f1.f11) ((rd_T42 l0_1 (Go.bits .xor .i64 t123 1)).f1.f12) ((rd_T42 l0_1 (Go.bits .xor .i64 t123 1)).f1.f13) ((rd_T42 l0_1 (Go.bits .xor .i64 t123 1)).f1.f14)).bind fun t133 => ((slots_priority.f ((rd_T42 l0_1 t123).f0) ((rd_T42 l0_1 t123).f1.f0) ((rd_T42 l0_1 t123).f1.f1) ((rd_T42 l0_1 t123).f1.f2) ((rd_T42 l0_1 t123).f1.f3) ((rd_T42 l0_1 t123).f1.f4) ((rd_T42 l0_1 t123).f1.f5) ((rd_T42 l0_1 t123).f1.f6) ((rd_T42 l0_1 t123).f1.f7) ((rd_T42 l0_1 t123).f1.f8) ((rd_T42 l0_1 t123).f1.f9) ((rd_T42 l0_1 t123).f1.f10) ((rd_T42 l0_1 t123).f1.f11) ((rd_T42 l0_1 t123).f1.f12) ((rd_T42 l0_1 t123).f1.f13) ((rd_T42 l0_1 t123).f1.f14)).bind fun t135 => (if t133 < t135 then (slots_Find.j0 k (Go.bits .xor .i64 t123 1) t125 a0_0 t126) else (slots_Find.j0 k t123 t125 a0_0 t126))))) else (none)) else (none))) else (none)) else (none)) = some (r1, r2, r3, r4) := H
   have A8 := Aside0.mk A80
   clear A80
   by_cases c9 : 0 ≤ t123
   ·
    rw [if_pos c9] at H
    have c9b0 : decide (0 ≤ t123) = true := decide_eq_true c9
    clear c9
    by_cases c10 : t123 < (l0_1.length : Int)
    ·
     rw [if_pos c10] at H
     have c10b0 : decide (t123 < (l0_1.length : Int)) = true := decide_eq_true c10
     clear c10
     by_cases c11 : ((rd_T42 l0_1 t123).f0) = t125
     ·
      rw [if_pos c11] at H
      have c11b0 : (((rd_T42 l0_1 t123).f0) == t125) = true := beq_iff_eq.mpr c11
      have c11b1 : (((rd_T42 l0_1 t123).f0) != t125) = false := bne_eq_false_iff_eq.mpr c11
      clear c11
      simp only [Option.some.injEq, Prod.mk.injEq] at H
      obtain ⟨rfl, rfl, rfl, rfl⟩ := H
      go_enter Try.func13, Try.ntmps13
      try go_wp2_with (first | ((with_reducible refine gate_dst (N := 2) rfl ?_); refine box_event ?hg (N := 2) ?hd (cs := #[.int .i64 a0_0, .slice A0_1 l0_1.length c0_1]) (t := 24) ?hr ?_; (case hd => rfl); (case hg => rfl); (case hr => first | (go_simp; done) | (go_simp; rfl)); intro gb120 hg w12 hbox hb; have n0_ := Aside0.mk (below_step (by repeat (first | (with_reducible first | exact HB.out | apply below_alloc | apply bN_ | apply below_drew1) | exact HB.out)) hb); have n1_ := Aside0.mk (hbox); have n2_ := Aside0.mk ((by rw [hg]; exact (below_size (by repeat (first | (with_reducible first | exact HB.out | apply below_alloc | apply bN_ | apply below_drew1) | exact HB.out))) : w.heap.size ≤ gb120)); have n3_ := Aside0.mk ((by rw [hg]; exact (below_size (by repeat (first | (with_reducible first | exact HB.out | apply below_alloc | apply bN_ | apply below_drew1) | exact HB.out))) : w.heap.size ≤ gb120)); clear HB; have HB := n0_; have BK120 := n1_; have GW120 := n2_; have GE120 := n3_; clear n0_ n1_ n2_ n3_; clear hb hbox hg) | ((with_reducible refine gate_dst (N := 4) rfl ?_); refine box_event ?hg (N := 4) ?hd (cs := #[.int .i64 0, .slice none 0 0]) (t := 24) ?hr ?_; (case hd => rfl); (case hg => rfl); (case hr => first | (go_simp; done) | (go_simp; rfl)); intro gb121 hg w13 hbox hb; have n0_ := Aside0.mk (blk_below (g := gb120) (o := .cells #[.int .i64 a0_0, .slice A0_1 l0_1.length c0_1] 24 (0, 0)) (by (with_reducible repeat (first | refine blk_drewN ?_ _ | refine blk_drew ?_ | refine blk_alloc ?_ _)); exact BK120.out) hb); have n1_ := Aside0.mk (below_step (by repeat (first | (with_reducible first | exact HB.out | apply below_alloc | apply bN_ | apply below_drew1 | refine below_set ?_ GE120.out) | exact HB.out)) hb); have n2_ := Aside0.mk (hbox); have n3_ := Aside0.mk ((by rw [hg]; exact (below_size (by repeat (first | (with_reducible first | exact HB.out | apply below_alloc | apply bN_ | apply below_drew1 | refine below_set ?_ GE120.out) | exact HB.out))) : w.heap.size ≤ gb121)); have n4_ := Aside0.mk ((by rw [hg]; exact (below_size (by repeat (first | (with_reducible first | exact HB.out | apply below_alloc | apply bN_ | apply below_drew1 | refine below_set ?_ GE120.out) | exact HB.out))) : w.heap.size ≤ gb121)); have n5_ := Aside0.mk ((by rw [hg]; exact Nat.ne_of_lt (blk_lt (g := gb120) (o := .cells #[.int .i64 a0_0, .slice A0_1 l0_1.length c0_1] 24 (0, 0)) (by (with_reducible repeat (first | refine blk_drewN ?_ _ | refine blk_drew ?_ | refine blk_alloc ?_ _)); exact BK120.out)) : gb120 ≠ gb121)); have n6_ := Aside0.mk ((by rw [hg]; exact Nat.ne_of_gt (blk_lt (g := gb120) (o := .cells #[.int .i64 a0_0, .slice A0_1 l0_1.length c0_1] 24 (0, 0)) (by (with_reducible repeat (first | refine blk_drewN ?_ _ | refine blk_drew ?_ | refine blk_alloc ?_ _)); exact BK120.out)) : gb121 ≠ gb120)); clear BK120; clear HB; have BK120 := n0_; have HB := n1_; have BK121 := n2_; have GW121 := n3_; have GE121 := n4_; have NB120_121 := n5_; have NB121_120 := n6_; clear n0_ n1_ n2_ n3_ n4_ n5_ n6_; clear hb hbox hg; have hnb14 := NB120_121.out; have hnc14 := NB121_120.out; have hcz15_0 : w13.cell? ⟨gb120, 0, none⟩ = some (.int .i64 a0_0) := (blk_cell BK120.out 0).trans rfl; have hcz15_1 : w13.cell? ⟨gb120, 1, none⟩ = some (.slice A0_1 l0_1.length c0_1) := (blk_cell BK120.out 1).trans rfl; have hfz15_0 := blk_frozen BK120.out 0; have hfz15_1 := blk_frozen BK120.out 1) | ((with_reducible refine gate_callee (f := 16) rfl ?_); refine gL_ (some 14) Try.func16 #[.agg #[.int .i64 a0_0, .slice A0_1 l0_1.length c0_1]] ?_; (with_reducible refine (slots_Check.calls k a0_0 _ _ l0_1 t122 _ ?side1 ?side2 A3.out).mono ?_); (case side1 => repeat (first | exact (Kd.C_below HR0_1.out HB.out) | (with_reducible refine Kd.C_alloc ?_ _) | (with_reducible refine Kd.C_drewN ?_ _) | (with_reducible refine Kd.C_drew ?_))); (case side2 => exact HC0_1.out); rintro e w16 ⟨rfl, hb⟩; refine ⟨_, rfl, ?_⟩; have n0_ := Aside0.mk (blk_below (g := gb120) (o := .cells #[.int .i64 a0_0, .slice A0_1 l0_1.length c0_1] 24 (0, 0)) (by (with_reducible repeat (first | refine blk_drewN ?_ _ | refine blk_drew ?_ | refine blk_alloc ?_ _)); exact BK120.out) hb); have n1_ := Aside0.mk (blk_below (g := gb121) (o := .cells #[.int .i64 0, .slice none 0 0] 24 (0, 0)) (by (with_reducible repeat (first | refine blk_drewN ?_ _ | refine blk_drew ?_ | refine blk_alloc ?_ _)); exact BK121.out) hb); have n2_ := Aside0.mk (below_step (by repeat (first | (with_reducible first | exact HB.out | apply below_alloc | apply bN_ | apply below_drew1 | refine below_set ?_ GE120.out | refine below_set ?_ GE121.out) | exact HB.out)) hb); clear BK120; clear BK121; clear HB; have BK120 := n0_; have BK121 := n1_; have HB := n2_; clear n0_ n1_ n2_; (try clear hb); have hcz17_0 : w16.cell? ⟨gb120, 0, none⟩ = some (.int .i64 a0_0) := (blk_cell BK120.out 0).trans rfl; have hcz17_1 : w16.cell? ⟨gb120, 1, none⟩ = some (.slice A0_1 l0_1.length c0_1) := (blk_cell BK120.out 1).trans rfl; have hfz17_0 := blk_frozen BK120.out 0; have hfz17_1 := blk_frozen BK120.out 1) | ((with_reducible refine gate_callee (f := 26) rfl ?_); refine gL_ (some 24) Try.func26 #[.int .u32 a1, .int .i64 (l0_1.length : Int)] ?_; (with_reducible refine (hashes_Place.calls a1 (l0_1.length : Int) t123 t124 _ A5.out).mono ?_); rintro e w' ⟨rfl, ⟨nd, rfl⟩⟩; refine ⟨_, rfl, ?_⟩; (try (rw [drewN_self w16]; generalize hq_ : World.drewN w16 _ = w16; have n0_ : Aside0 (w16.heap[gb120]? = some (.cells #[.int .i64 a0_0, .slice A0_1 l0_1.length c0_1] 24 (0, 0))) := ⟨by rw [← hq_]; exact (by (with_reducible repeat (first | refine blk_drewN ?_ _ | refine blk_drew ?_ | refine blk_alloc ?_ _)); exact BK120.out)⟩; have n1_ : Aside0 (w16.heap[gb121]? = some (.cells #[.int .i64 0, .slice none 0 0] 24 (0, 0))) := ⟨by rw [← hq_]; exact (by (with_reducible repeat (first | refine blk_drewN ?_ _ | refine blk_drew ?_ | refine blk_alloc ?_ _)); exact BK121.out)⟩; have n2_ : Aside0 (Below w.heap.size w w16) := ⟨by rw [← hq_]; exact (by repeat (first | (with_reducible first | exact HB.out | apply below_alloc | apply bN_ | apply below_drew1 | refine below_set ?_ GE120.out | refine below_set ?_ GE121.out) | exact HB.out))⟩; clear BK120 BK121 HB hq_; have BK120 := n0_; have BK121 := n1_; have HB := n2_; clear n0_ n1_ n2_))) | ((with_reducible refine gate_callee (f := 27) rfl ?_); refine gL_ (some 34) Try.func27 #[.int .u32 a1] ?_; (with_reducible refine (hashes_Check.calls a1 t125 _ A7.out).mono ?_); rintro e w' ⟨rfl, ⟨nd, rfl⟩⟩; refine ⟨_, rfl, ?_⟩; (try (rw [drewN_self w16]; generalize hq_ : World.drewN w16 _ = w16; have n0_ : Aside0 (w16.heap[gb120]? = some (.cells #[.int .i64 a0_0, .slice A0_1 l0_1.length c0_1] 24 (0, 0))) := ⟨by rw [← hq_]; exact (by (with_reducible repeat (first | refine blk_drewN ?_ _ | refine blk_drew ?_ | refine blk_alloc ?_ _)); exact BK120.out)⟩; have n1_ : Aside0 (w16.heap[gb121]? = some (.cells #[.int .i64 0, .slice none 0 0] 24 (0, 0))) := ⟨by rw [← hq_]; exact (by (with_reducible repeat (first | refine blk_drewN ?_ _ | refine blk_drew ?_ | refine blk_alloc ?_ _)); exact BK121.out)⟩; have n2_ : Aside0 (Below w.heap.size w w16) := ⟨by rw [← hq_]; exact (by repeat (first | (with_reducible first | exact HB.out | apply below_alloc | apply bN_ | apply below_drew1 | refine below_set ?_ GE120.out | refine below_set ?_ GE121.out) | exact HB.out))⟩; clear BK120 BK121 HB hq_; have BK120 := n0_; have BK121 := n1_; have HB := n2_; clear n0_ n1_ n2_))))
      have n0_ := Aside0.mk (blk_drew BK120.out)
      have n1_ := Aside0.mk (blk_drew BK121.out)
      have n2_ := Aside0.mk (below_drew1 HB.out)
      clear BK120
      clear BK121
      clear HB
      have BK120 := n0_
      have BK121 := n1_
      have HB := n2_
      clear n0_ n1_ n2_
      refine start_ (n := 8) (S := fun w' => w'.cell? ⟨gb120, 0, none⟩ = some (.int .i64 a0_0) ∧ w'.cell? ⟨gb120, 1, none⟩ = some (.slice A0_1 l0_1.length c0_1)) (ds := []) #[false, false, false, false, false, false, false, false] (by kernel_rfl) rfl rfl ⟨(blk_cell BK120.out 0).trans rfl, (blk_cell BK120.out 1).trans rfl⟩ (fun hHeld => ?_); refine with_tabW slots_Find.tab8 slots_Find.bits8 (fun HT_ HW_ => ?_)
      generalize w16.drew = w18 at BK120 BK121 HB hHeld ⊢
      refine pure_ (i := 0) (N := some 35) (v := ?_) (a' := ?_) #[true, false, false, false, false, false, false, false] rfl rfl (any_of HT_.out (by kernel_rfl)) (fun _ _ _ h => h) (Or.inl ⟨by rfl, ?_⟩) ?_ ?_
      rotate_left
      ·
       intro w'
       go_simp
       with_reducible rfl
      rotate_left
      ·
       simp only [Act.put, setIfInBounds_toArray, set_cons_zero, set_cons_succ, i64_w, i32_w]
       rfl
      refine pure_ (i := 2) (N := some 37) (v := ?_) (a' := ?_) #[true, false, true, false, false, false, false, false] rfl rfl (any_of HT_.out (by kernel_rfl)) (fun _ _ _ h => h) (Or.inl ⟨by rfl, ?_⟩) ?_ ?_
      rotate_left
      ·
       intro w'
       go_simp
       with_reducible rfl
      rotate_left
      ·
       simp only [Act.put, setIfInBounds_toArray, set_cons_zero, set_cons_succ, i64_w, i32_w]
       rfl
      refine take_ (i := 1) (N := some 36) (v := ?_) (a' := ?_) #[true, true, true, false, false, false, false, false] rfl rfl (take_ofW HT_.out HW_.out (by kernel_rfl)) (fun _ _ _ h => h) (Or.inl ⟨by rfl, ?_⟩) hHeld ?_ ?_
      rotate_left
      ·
       rintro w' ⟨s0, s1⟩
       go_simp
       with_reducible rfl
      rotate_left
      ·
       simp only [Act.put, setIfInBounds_toArray, set_cons_zero, set_cons_succ, i64_w, i32_w]
       rfl
      refine take_ (i := 3) (N := some 38) (v := ?_) (a' := ?_) #[true, true, true, true, false, false, false, false] rfl rfl (take_ofW HT_.out HW_.out (by kernel_rfl)) (fun _ _ _ h => h) (Or.inl ⟨by rfl, ?_⟩) hHeld ?_ ?_
      rotate_left
      ·
       rintro w' ⟨s0, s1⟩
       go_simp
       with_reducible rfl
      rotate_left
      ·
       simp only [Act.put, setIfInBounds_toArray, set_cons_zero, set_cons_succ, i64_w, i32_w]
       rfl
      refine join_ (σ := Value × Nat) 1 #[true, true, true, true, true, true, true, false] (fun s_ => [(39, s_.1), (12, .pointer (some ⟨s_.2, 0, none⟩)), (40, .agg #[.int .i64 a0_0, s_.1])]) (fun s_ w' => (w'.cell? ⟨gb120, 0, none⟩ = some (.int .i64 a0_0) ∧ w'.cell? ⟨gb120, 1, none⟩ = some (.slice A0_1 l0_1.length c0_1)) ∧ (Kd.R k42 42 w' w.heap.size (fun _ => True) s_.1 t126) ∧ (w'.heap[gb120]? = some (.cells #[.int .i64 a0_0, .slice A0_1 l0_1.length c0_1] 24 (0, 0))) ∧ (w'.heap[gb121]? = some (.cells #[.int .i64 0, .slice none 0 0] 24 (0, 0))) ∧ (w'.heap[s_.2]? = some (.cells #[.int .i64 0, .slice none 0 0] 24 (0, 0))) ∧ (w.heap.size ≤ s_.2) ∧ (w.heap.size ≤ s_.2) ∧ (gb120 ≠ s_.2) ∧ (s_.2 ≠ gb120) ∧ (gb121 ≠ s_.2) ∧ (s_.2 ≠ gb121) ∧ (Below w.heap.size w w')) ?_ ?_
      rotate_left
      ·
       intro hCont
       refine two_ (i := 4) (j := 6) (Ni := some 39) (Nj := some 12) #[true, true, true, true, true, false, false, false] #[true, true, true, true, false, false, true, false] rfl rfl rfl rfl (two_of HT_.out (by kernel_rfl)) (by decide) (by decide) (fun K hK => ?_) (fun K hK => ?_)
       ·
        skip
        refine goes_ Try.func36 (by kernel_rfl) rfl #[.slice A0_1 l0_1.length c0_1] (by rfl) rfl rfl (by (try simp only [List.map_toArray, List.map_cons, List.map_nil]); first | done | rfl | (simp only [List.length_drop, List.length_take]; rfl)) ?_
        with_reducible refine (slices_Clone_api_Slot_api_Slot.calls _ _ l0_1 t126 _ ?side1 ?side2 A8.out).mono ?_
        (case side1 => repeat (first | exact (Kd.C_below HR0_1.out HB.out) | (with_reducible refine Kd.C_alloc ?_ _) | (with_reducible refine Kd.C_drewN ?_ _) | (with_reducible refine Kd.C_drew ?_)))
        (case side2 => exact HC0_1.out)
        rintro e w19 ⟨v127, rfl, ho0, hb⟩
        refine ⟨_, rfl, ?_⟩
        have n0_ := Aside0.mk (Kd.R_lower ho0 (below_size (by repeat (first | (with_reducible first | exact HB.out | apply below_alloc | apply bN_ | apply below_drew1 | refine below_set ?_ GE120.out | refine below_set ?_ GE121.out) | exact HB.out))))
        have n1_ := Aside0.mk (blk_below (g := gb120) (o := .cells #[.int .i64 a0_0, .slice A0_1 l0_1.length c0_1] 24 (0, 0)) (by (with_reducible repeat (first | refine blk_drewN ?_ _ | refine blk_drew ?_ | refine blk_alloc ?_ _)); exact BK120.out) hb)
        have n2_ := Aside0.mk (blk_below (g := gb121) (o := .cells #[.int .i64 0, .slice none 0 0] 24 (0, 0)) (by (with_reducible repeat (first | refine blk_drewN ?_ _ | refine blk_drew ?_ | refine blk_alloc ?_ _)); exact BK121.out) hb)
        have n3_ := Aside0.mk (below_step (by repeat (first | (with_reducible first | exact HB.out | apply below_alloc | apply bN_ | apply below_drew1 | refine below_set ?_ GE120.out | refine below_set ?_ GE121.out) | exact HB.out)) hb)
        clear BK120
        clear BK121
        clear HB
        have HO128 := n0_
        have BK120 := n1_
        have BK121 := n2_
        have HB := n3_
        clear n0_ n1_ n2_ n3_
        (try clear hb)
        (try clear hb2)
        (try clear hk)
        (try clear hi)
        (try clear ho0)
        obtain ⟨Ao20, co20, eo20⟩ := Kd.R_slice HO128.out
        (first | subst eo20 | (injection eo20 with f1_ f2_ f3_; have f4_ := f1_.symm; have f5_ := f3_.symm; clear f1_ f2_ f3_; subst f4_; subst f5_))
        refine hK.out _ _ ⟨(blk_cell BK120.out 0).trans rfl, (blk_cell BK120.out 1).trans rfl⟩ (fun hHeld => ?_)
        clear hK K
        refine norm_ (a' := ?_) ?_ ?_
        rotate_left
        ·
         show Act.put _ (some 39) _ = _
         simp only [Act.put, setIfInBounds_toArray, set_cons_zero, set_cons_succ, i64_w, i32_w]
         rfl
        refine pure_ (i := 5) (N := some 40) (v := ?_) (a' := ?_) #[true, true, true, true, true, true, false, false] rfl rfl (any_of HT_.out (by kernel_rfl)) (fun _ _ _ h => h) (Or.inl ⟨by rfl, ?_⟩) ?_ ?_
        rotate_left
        ·
         intro w'
         go_simp
         with_reducible rfl
        rotate_left
        ·
         simp only [Act.put, setIfInBounds_toArray, set_cons_zero, set_cons_succ, i64_w, i32_w]
         rfl
        refine one_ (i := 6) (N := some 12) #[true, true, true, true, true, true, true, false] rfl rfl (one_of HT_.out (by kernel_rfl)) (by decide) (fun K hK => ?_)
        refine box_step ?hg (N := 12) ?hd (cs := #[.int .i64 0, .slice none 0 0]) (t := 24) ?hr ?_; (case hd => rfl); (case hg => rfl); (case hr => first | (go_simp; done) | (go_simp; rfl))
        intro gb129 hg w21 hbox hb
        have n0_ := Aside0.mk (Kd.R_below (by (with_reducible repeat (first | apply Kd.R_alloc | apply Kd.R_drewN | apply Kd.R_drew)); exact HO128.out) hb)
        have n1_ := Aside0.mk (blk_below (g := gb120) (o := .cells #[.int .i64 a0_0, .slice A0_1 l0_1.length c0_1] 24 (0, 0)) (by (with_reducible repeat (first | refine blk_drewN ?_ _ | refine blk_drew ?_ | refine blk_alloc ?_ _)); exact BK120.out) hb)
        have n2_ := Aside0.mk (blk_below (g := gb121) (o := .cells #[.int .i64 0, .slice none 0 0] 24 (0, 0)) (by (with_reducible repeat (first | refine blk_drewN ?_ _ | refine blk_drew ?_ | refine blk_alloc ?_ _)); exact BK121.out) hb)
        have n3_ := Aside0.mk (below_step (by repeat (first | (with_reducible first | exact HB.out | apply below_alloc | apply bN_ | apply below_drew1 | refine below_set ?_ GE120.out | refine below_set ?_ GE121.out) | exact HB.out)) hb)
        have n4_ := Aside0.mk (hbox)
        have n5_ := Aside0.mk ((by rw [hg]; exact (below_size (by repeat (first | (with_reducible first | exact HB.out | apply below_alloc | apply bN_ | apply below_drew1 | refine below_set ?_ GE120.out | refine below_set ?_ GE121.out) | exact HB.out))) : w.heap.size ≤ gb129))
        have n6_ := Aside0.mk ((by rw [hg]; exact (below_size (by repeat (first | (with_reducible first | exact HB.out | apply below_alloc | apply bN_ | apply below_drew1 | refine below_set ?_ GE120.out | refine below_set ?_ GE121.out) | exact HB.out))) : w.heap.size ≤ gb129))
        have n7_ := Aside0.mk ((by rw [hg]; exact Nat.ne_of_lt (blk_lt (g := gb120) (o := .cells #[.int .i64 a0_0, .slice A0_1 l0_1.length c0_1] 24 (0, 0)) (by (with_reducible repeat (first | refine blk_drewN ?_ _ | refine blk_drew ?_ | refine blk_alloc ?_ _)); exact BK120.out)) : gb120 ≠ gb129))
        have n8_ := Aside0.mk ((by rw [hg]; exact Nat.ne_of_gt (blk_lt (g := gb120) (o := .cells #[.int .i64 a0_0, .slice A0_1 l0_1.length c0_1] 24 (0, 0)) (by (with_reducible repeat (first | refine blk_drewN ?_ _ | refine blk_drew ?_ | refine blk_alloc ?_ _)); exact BK120.out)) : gb129 ≠ gb120))
        have n9_ := Aside0.mk ((by rw [hg]; exact Nat.ne_of_lt (blk_lt (g := gb121) (o := .cells #[.int .i64 0, .slice none 0 0] 24 (0, 0)) (by (with_reducible repeat (first | refine blk_drewN ?_ _ | refine blk_drew ?_ | refine blk_alloc ?_ _)); exact BK121.out)) : gb121 ≠ gb129))
        have n10_ := Aside0.mk ((by rw [hg]; exact Nat.ne_of_gt (blk_lt (g := gb121) (o := .cells #[.int .i64 0, .slice none 0 0] 24 (0, 0)) (by (with_reducible repeat (first | refine blk_drewN ?_ _ | refine blk_drew ?_ | refine blk_alloc ?_ _)); exact BK121.out)) : gb129 ≠ gb121))
        clear HO128
        clear BK120
        clear BK121
        clear HB
        have HO128 := n0_
        have BK120 := n1_
        have BK121 := n2_
        have HB := n3_
        have BK129 := n4_
        have GW129 := n5_
        have GE129 := n6_
        have NB120_129 := n7_
        have NB129_120 := n8_
        have NB121_129 := n9_
        have NB129_121 := n10_
        clear n0_ n1_ n2_ n3_ n4_ n5_ n6_ n7_ n8_ n9_ n10_
        clear hb hbox hg
        refine hK.out _ _ ⟨(blk_cell BK120.out 0).trans rfl, (blk_cell BK120.out 1).trans rfl⟩ (fun hHeld => ?_)
        clear hK K
        refine norm_ (a' := ?_) ?_ ?_
        rotate_left
        ·
         show Act.put _ (some 12) _ = _
         simp only [Act.put, setIfInBounds_toArray, set_cons_zero, set_cons_succ, i64_w, i32_w]
         rfl
        exact norm_ (by simp only [putAll, Act.put, setIfInBounds_toArray, set_cons_zero, set_cons_succ]) (hCont (.slice Ao20 t126.length co20, gb129) _ ⟨hHeld, (by (with_reducible repeat (first | apply Kd.R_alloc | apply Kd.R_drewN | apply Kd.R_drew)); exact HO128.out), (by (with_reducible repeat (first | refine blk_drewN ?_ _ | refine blk_drew ?_ | refine blk_alloc ?_ _)); exact BK120.out), (by (with_reducible repeat (first | refine blk_drewN ?_ _ | refine blk_drew ?_ | refine blk_alloc ?_ _)); exact BK121.out), (by (with_reducible repeat (first | refine blk_drewN ?_ _ | refine blk_drew ?_ | refine blk_alloc ?_ _)); exact BK129.out), GW129.out, GE129.out, NB120_129.out, NB129_120.out, NB121_129.out, NB129_121.out, (by repeat (first | (with_reducible first | exact HB.out | apply below_alloc | apply bN_ | apply below_drew1 | refine below_set ?_ GE120.out | refine below_set ?_ GE121.out | refine below_set ?_ GE129.out) | exact HB.out))⟩)
       ·
        skip
        refine box_step ?hg (N := 12) ?hd (cs := #[.int .i64 0, .slice none 0 0]) (t := 24) ?hr ?_; (case hd => rfl); (case hg => rfl); (case hr => first | (go_simp; done) | (go_simp; rfl))
        intro gb129 hg w19 hbox hb
        have n0_ := Aside0.mk (blk_below (g := gb120) (o := .cells #[.int .i64 a0_0, .slice A0_1 l0_1.length c0_1] 24 (0, 0)) (by (with_reducible repeat (first | refine blk_drewN ?_ _ | refine blk_drew ?_ | refine blk_alloc ?_ _)); exact BK120.out) hb)
        have n1_ := Aside0.mk (blk_below (g := gb121) (o := .cells #[.int .i64 0, .slice none 0 0] 24 (0, 0)) (by (with_reducible repeat (first | refine blk_drewN ?_ _ | refine blk_drew ?_ | refine blk_alloc ?_ _)); exact BK121.out) hb)
        have n2_ := Aside0.mk (below_step (by repeat (first | (with_reducible first | exact HB.out | apply below_alloc | apply bN_ | apply below_drew1 | refine below_set ?_ GE120.out | refine below_set ?_ GE121.out) | exact HB.out)) hb)
        have n3_ := Aside0.mk (hbox)
        have n4_ := Aside0.mk ((by rw [hg]; exact (below_size (by repeat (first | (with_reducible first | exact HB.out | apply below_alloc | apply bN_ | apply below_drew1 | refine below_set ?_ GE120.out | refine below_set ?_ GE121.out) | exact HB.out))) : w.heap.size ≤ gb129))
        have n5_ := Aside0.mk ((by rw [hg]; exact (below_size (by repeat (first | (with_reducible first | exact HB.out | apply below_alloc | apply bN_ | apply below_drew1 | refine below_set ?_ GE120.out | refine below_set ?_ GE121.out) | exact HB.out))) : w.heap.size ≤ gb129))
        have n6_ := Aside0.mk ((by rw [hg]; exact Nat.ne_of_lt (blk_lt (g := gb120) (o := .cells #[.int .i64 a0_0, .slice A0_1 l0_1.length c0_1] 24 (0, 0)) (by (with_reducible repeat (first | refine blk_drewN ?_ _ | refine blk_drew ?_ | refine blk_alloc ?_ _)); exact BK120.out)) : gb120 ≠ gb129))
        have n7_ := Aside0.mk ((by rw [hg]; exact Nat.ne_of_gt (blk_lt (g := gb120) (o := .cells #[.int .i64 a0_0, .slice A0_1 l0_1.length c0_1] 24 (0, 0)) (by (with_reducible repeat (first | refine blk_drewN ?_ _ | refine blk_drew ?_ | refine blk_alloc ?_ _)); exact BK120.out)) : gb129 ≠ gb120))
        have n8_ := Aside0.mk ((by rw [hg]; exact Nat.ne_of_lt (blk_lt (g := gb121) (o := .cells #[.int .i64 0, .slice none 0 0] 24 (0, 0)) (by (with_reducible repeat (first | refine blk_drewN ?_ _ | refine blk_drew ?_ | refine blk_alloc ?_ _)); exact BK121.out)) : gb121 ≠ gb129))
        have n9_ := Aside0.mk ((by rw [hg]; exact Nat.ne_of_gt (blk_lt (g := gb121) (o := .cells #[.int .i64 0, .slice none 0 0] 24 (0, 0)) (by (with_reducible repeat (first | refine blk_drewN ?_ _ | refine blk_drew ?_ | refine blk_alloc ?_ _)); exact BK121.out)) : gb129 ≠ gb121))
        clear BK120
        clear BK121
        clear HB
        have BK120 := n0_
        have BK121 := n1_
        have HB := n2_
        have BK129 := n3_
        have GW129 := n4_
        have GE129 := n5_
        have NB120_129 := n6_
        have NB129_120 := n7_
        have NB121_129 := n8_
        have NB129_121 := n9_
        clear n0_ n1_ n2_ n3_ n4_ n5_ n6_ n7_ n8_ n9_
        clear hb hbox hg
        refine hK.out _ _ ⟨(blk_cell BK120.out 0).trans rfl, (blk_cell BK120.out 1).trans rfl⟩ (fun hHeld => ?_)
        clear hK K
        refine norm_ (a' := ?_) ?_ ?_
        rotate_left
        ·
         show Act.put _ (some 12) _ = _
         simp only [Act.put, setIfInBounds_toArray, set_cons_zero, set_cons_succ, i64_w, i32_w]
         rfl
        refine one_ (i := 4) (N := some 39) #[true, true, true, true, true, false, true, false] rfl rfl (one_of HT_.out (by kernel_rfl)) (by decide) (fun K hK => ?_)
        refine goes_ Try.func36 (by kernel_rfl) rfl #[.slice A0_1 l0_1.length c0_1] (by rfl) rfl rfl (by (try simp only [List.map_toArray, List.map_cons, List.map_nil]); first | done | rfl | (simp only [List.length_drop, List.length_take]; rfl)) ?_
        with_reducible refine (slices_Clone_api_Slot_api_Slot.calls _ _ l0_1 t126 _ ?side1 ?side2 A8.out).mono ?_
        (case side1 => repeat (first | exact (Kd.C_below HR0_1.out HB.out) | (with_reducible refine Kd.C_alloc ?_ _) | (with_reducible refine Kd.C_drewN ?_ _) | (with_reducible refine Kd.C_drew ?_)))
        (case side2 => exact HC0_1.out)
        rintro e w20 ⟨v127, rfl, ho0, hb⟩
        refine ⟨_, rfl, ?_⟩
        have n0_ := Aside0.mk (Kd.R_lower ho0 (below_size (by repeat (first | (with_reducible first | exact HB.out | apply below_alloc | apply bN_ | apply below_drew1 | refine below_set ?_ GE120.out | refine below_set ?_ GE121.out | refine below_set ?_ GE129.out) | exact HB.out))))
        have n1_ := Aside0.mk (blk_below (g := gb120) (o := .cells #[.int .i64 a0_0, .slice A0_1 l0_1.length c0_1] 24 (0, 0)) (by (with_reducible repeat (first | refine blk_drewN ?_ _ | refine blk_drew ?_ | refine blk_alloc ?_ _)); exact BK120.out) hb)
        have n2_ := Aside0.mk (blk_below (g := gb121) (o := .cells #[.int .i64 0, .slice none 0 0] 24 (0, 0)) (by (with_reducible repeat (first | refine blk_drewN ?_ _ | refine blk_drew ?_ | refine blk_alloc ?_ _)); exact BK121.out) hb)
        have n3_ := Aside0.mk (blk_below (g := gb129) (o := .cells #[.int .i64 0, .slice none 0 0] 24 (0, 0)) (by (with_reducible repeat (first | refine blk_drewN ?_ _ | refine blk_drew ?_ | refine blk_alloc ?_ _)); exact BK129.out) hb)
        have n4_ := Aside0.mk (below_step (by repeat (first | (with_reducible first | exact HB.out | apply below_alloc | apply bN_ | apply below_drew1 | refine below_set ?_ GE120.out | refine below_set ?_ GE121.out | refine below_set ?_ GE129.out) | exact HB.out)) hb)
        clear BK120
        clear BK121
        clear BK129
        clear HB
        have HO128 := n0_
        have BK120 := n1_
        have BK121 := n2_
        have BK129 := n3_
        have HB := n4_
        clear n0_ n1_ n2_ n3_ n4_
        (try clear hb)
        (try clear hb2)
        (try clear hk)
        (try clear hi)
        (try clear ho0)
        obtain ⟨Ao21, co21, eo21⟩ := Kd.R_slice HO128.out
        (first | subst eo21 | (injection eo21 with f1_ f2_ f3_; have f4_ := f1_.symm; have f5_ := f3_.symm; clear f1_ f2_ f3_; subst f4_; subst f5_))
        refine hK.out _ _ ⟨(blk_cell BK120.out 0).trans rfl, (blk_cell BK120.out 1).trans rfl⟩ (fun hHeld => ?_)
        clear hK K
        refine norm_ (a' := ?_) ?_ ?_
        rotate_left
        ·
         show Act.put _ (some 39) _ = _
         simp only [Act.put, setIfInBounds_toArray, set_cons_zero, set_cons_succ, i64_w, i32_w]
         rfl
        refine pure_ (i := 5) (N := some 40) (v := ?_) (a' := ?_) #[true, true, true, true, true, true, true, false] rfl rfl (any_of HT_.out (by kernel_rfl)) (fun _ _ _ h => h) (Or.inl ⟨by rfl, ?_⟩) ?_ ?_
        rotate_left
        ·
         intro w'
         go_simp
         with_reducible rfl
        rotate_left
        ·
         simp only [Act.put, setIfInBounds_toArray, set_cons_zero, set_cons_succ, i64_w, i32_w]
         rfl
        exact norm_ (by simp only [putAll, Act.put, setIfInBounds_toArray, set_cons_zero, set_cons_succ]) (hCont (.slice Ao21 t126.length co21, gb129) _ ⟨hHeld, (by (with_reducible repeat (first | apply Kd.R_alloc | apply Kd.R_drewN | apply Kd.R_drew)); exact HO128.out), (by (with_reducible repeat (first | refine blk_drewN ?_ _ | refine blk_drew ?_ | refine blk_alloc ?_ _)); exact BK120.out), (by (with_reducible repeat (first | refine blk_drewN ?_ _ | refine blk_drew ?_ | refine blk_alloc ?_ _)); exact BK121.out), (by (with_reducible repeat (first | refine blk_drewN ?_ _ | refine blk_drew ?_ | refine blk_alloc ?_ _)); exact BK129.out), GW129.out, GE129.out, NB120_129.out, NB129_120.out, NB121_129.out, NB129_121.out, (by repeat (first | (with_reducible first | exact HB.out | apply below_alloc | apply bN_ | apply below_drew1 | refine below_set ?_ GE120.out | refine below_set ?_ GE121.out | refine below_set ?_ GE129.out) | exact HB.out))⟩)
      rintro ⟨v127, gb129⟩ w22 ⟨hS_, h0_, h1_, h2_, h3_, h4_, h5_, h6_, h7_, h8_, h9_, h10_⟩
      have n0_ : Aside0 (Kd.R k42 42 w22 w.heap.size (fun _ => True) v127 t126) := ⟨h0_⟩
      have n1_ : Aside0 (w22.heap[gb120]? = some (.cells #[.int .i64 a0_0, .slice A0_1 l0_1.length c0_1] 24 (0, 0))) := ⟨h1_⟩
      have n2_ : Aside0 (w22.heap[gb121]? = some (.cells #[.int .i64 0, .slice none 0 0] 24 (0, 0))) := ⟨h2_⟩
      have n3_ : Aside0 (w22.heap[gb129]? = some (.cells #[.int .i64 0, .slice none 0 0] 24 (0, 0))) := ⟨h3_⟩
      have n4_ : Aside0 (w.heap.size ≤ gb129) := ⟨h4_⟩
      have n5_ : Aside0 (w.heap.size ≤ gb129) := ⟨h5_⟩
      have n6_ : Aside0 (gb120 ≠ gb129) := ⟨h6_⟩
      have n7_ : Aside0 (gb129 ≠ gb120) := ⟨h7_⟩
      have n8_ : Aside0 (gb121 ≠ gb129) := ⟨h8_⟩
      have n9_ : Aside0 (gb129 ≠ gb121) := ⟨h9_⟩
      have n10_ : Aside0 (Below w.heap.size w w22) := ⟨h10_⟩
      clear BK120
      clear BK121
      clear HB
      clear h0_ h1_ h2_ h3_ h4_ h5_ h6_ h7_ h8_ h9_ h10_
      have HO128 := n0_
      have BK120 := n1_
      have BK121 := n2_
      have BK129 := n3_
      have GW129 := n4_
      have GE129 := n5_
      have NB120_129 := n6_
      have NB129_120 := n7_
      have NB121_129 := n8_
      have NB129_121 := n9_
      have HB := n10_
      clear n0_ n1_ n2_ n3_ n4_ n5_ n6_ n7_ n8_ n9_ n10_
      have hHeld : w22.cell? ⟨gb120, 0, none⟩ = some (.int .i64 a0_0) ∧ w22.cell? ⟨gb120, 1, none⟩ = some (.slice A0_1 l0_1.length c0_1) := hS_
      obtain ⟨Ao23, co23, eo23⟩ := Kd.R_slice HO128.out
      (first | subst eo23 | (injection eo23 with f1_ f2_ f3_; have f4_ := f1_.symm; have f5_ := f3_.symm; clear f1_ f2_ f3_; subst f4_; subst f5_))
      refine norm_ (a' := ?_) ?_ ?_
      rotate_left
      ·
       simp only [putAll, Act.put, setIfInBounds_toArray, set_cons_zero, set_cons_succ]
       rfl
      refine one_ (i := 7) (N := none) #[true, true, true, true, true, true, true, true] rfl rfl (one_of HT_.out (by kernel_rfl)) (by decide) (fun K hK => ?_)
      have hs24 : w22.cell? ⟨gb129, 0, none⟩ = some (.int .i64 0) := (blk_cell BK129.out 0).trans rfl
      have hfs24 := blk_frozen BK129.out 0
      have hns24_0 := NB120_129.out
      have hns24_1 := NB121_129.out
      have hms24_0 := NB129_120.out
      have hms24_1 := NB129_121.out
      have hs25 : w22.cell? ⟨gb129, 1, none⟩ = some (.slice none 0 0) := (blk_cell BK129.out 1).trans rfl
      have hfs25 := blk_frozen BK129.out 1
      have hns25_0 := NB120_129.out
      have hns25_1 := NB121_129.out
      have hms25_0 := NB129_120.out
      have hms25_1 := NB129_121.out
      refine skip_ (w1 := ?_) (by rfl) rfl ?_ ?_
      rotate_left
      ·
       go_simp
       rfl
      refine hK.out _ _ ⟨((cell_far (p := ⟨gb129, _, none⟩) NB120_129.out _).trans (((cell_far (p := ⟨gb129, _, none⟩) NB120_129.out _).trans (hHeld.1)))), ((cell_far (p := ⟨gb129, _, none⟩) NB120_129.out _).trans (((cell_far (p := ⟨gb129, _, none⟩) NB120_129.out _).trans (hHeld.2))))⟩ (fun hHeld => ?_)
      clear hK K
      refine done_ (done_of HT_.out (by kernel_rfl)) ?_
      have hnb26 := NB120_129.out
      have hnc26 := NB129_120.out
      have hcz27_0 : w22.cell? ⟨gb120, 0, none⟩ = some (.int .i64 a0_0) := (blk_cell BK120.out 0).trans rfl
      have hcz27_1 : w22.cell? ⟨gb120, 1, none⟩ = some (.slice A0_1 l0_1.length c0_1) := (blk_cell BK120.out 1).trans rfl
      have hfz27_0 := blk_frozen BK120.out 0
      have hfz27_1 := blk_frozen BK120.out 1
      have p130 : 0 ≤ (t123 : Int) := of_decide_eq_true (by first | (with_reducible assumption) | assumption)
      have q130 : t123 < (l0_1.length : Int) := of_decide_eq_true (by first | (with_reducible assumption) | assumption)
      obtain ⟨ad130, e130, hx130_0, hx130_1, hx130_2, hx130_3, hx130_4, hx130_5, hx130_6, hx130_7, hx130_8, hx130_9, hx130_10, hx130_11, hx130_12, hx130_13, hx130_14, hx130_15⟩ := at_T42 HR0_1.out t123 p130 q130
      cases e130
      have hn130_0 : ad130.block ≠ gb129 := Nat.ne_of_lt (Nat.lt_of_lt_of_le (by have := World.block_lt_of_cell? _ _ hx130_0; first | rwa [add_block] at this | exact this) GW129.out)
      have hn130_1 : ad130.block ≠ gb129 := Nat.ne_of_lt (Nat.lt_of_lt_of_le (by have := World.block_lt_of_cell? _ _ hx130_0; first | rwa [add_block] at this | exact this) GW129.out)
      replace hx130_0 := (HB.out.cell (World.block_lt_of_cell? w _ hx130_0)).trans hx130_0
      replace hx130_1 := (HB.out.cell (World.block_lt_of_cell? w _ hx130_1)).trans hx130_1
      replace hx130_2 := (HB.out.cell (World.block_lt_of_cell? w _ hx130_2)).trans hx130_2
      replace hx130_3 := (HB.out.cell (World.block_lt_of_cell? w _ hx130_3)).trans hx130_3
      replace hx130_4 := (HB.out.cell (World.block_lt_of_cell? w _ hx130_4)).trans hx130_4
      replace hx130_5 := (HB.out.cell (World.block_lt_of_cell? w _ hx130_5)).trans hx130_5
      replace hx130_6 := (HB.out.cell (World.block_lt_of_cell? w _ hx130_6)).trans hx130_6
      replace hx130_7 := (HB.out.cell (World.block_lt_of_cell? w _ hx130_7)).trans hx130_7
      replace hx130_8 := (HB.out.cell (World.block_lt_of_cell? w _ hx130_8)).trans hx130_8
      replace hx130_9 := (HB.out.cell (World.block_lt_of_cell? w _ hx130_9)).trans hx130_9
      replace hx130_10 := (HB.out.cell (World.block_lt_of_cell? w _ hx130_10)).trans hx130_10
      replace hx130_11 := (HB.out.cell (World.block_lt_of_cell? w _ hx130_11)).trans hx130_11
      replace hx130_12 := (HB.out.cell (World.block_lt_of_cell? w _ hx130_12)).trans hx130_12
      replace hx130_13 := (HB.out.cell (World.block_lt_of_cell? w _ hx130_13)).trans hx130_13
      replace hx130_14 := (HB.out.cell (World.block_lt_of_cell? w _ hx130_14)).trans hx130_14
      replace hx130_15 := (HB.out.cell (World.block_lt_of_cell? w _ hx130_15)).trans hx130_15
      replace hx130_0 := (cell_far (p := ⟨gb129, 0, none⟩) (by first | (rw [add_block]; exact hn130_0) | (show (Addr.add _ _).block ≠ _; rw [add_block]; exact hn130_0) | exact hn130_0) (.int .i64 a0_0)).trans hx130_0
      replace hx130_1 := (cell_far (p := ⟨gb129, 0, none⟩) (by first | (rw [add_block]; exact hn130_0) | (show (Addr.add _ _).block ≠ _; rw [add_block]; exact hn130_0) | exact hn130_0) (.int .i64 a0_0)).trans hx130_1
      replace hx130_2 := (cell_far (p := ⟨gb129, 0, none⟩) (by first | (rw [add_block]; exact hn130_0) | (show (Addr.add _ _).block ≠ _; rw [add_block]; exact hn130_0) | exact hn130_0) (.int .i64 a0_0)).trans hx130_2
      replace hx130_3 := (cell_far (p := ⟨gb129, 0, none⟩) (by first | (rw [add_block]; exact hn130_0) | (show (Addr.add _ _).block ≠ _; rw [add_block]; exact hn130_0) | exact hn130_0) (.int .i64 a0_0)).trans hx130_3
      replace hx130_4 := (cell_far (p := ⟨gb129, 0, none⟩) (by first | (rw [add_block]; exact hn130_0) | (show (Addr.add _ _).block ≠ _; rw [add_block]; exact hn130_0) | exact hn130_0) (.int .i64 a0_0)).trans hx130_4
      replace hx130_5 := (cell_far (p := ⟨gb129, 0, none⟩) (by first | (rw [add_block]; exact hn130_0) | (show (Addr.add _ _).block ≠ _; rw [add_block]; exact hn130_0) | exact hn130_0) (.int .i64 a0_0)).trans hx130_5
      replace hx130_6 := (cell_far (p := ⟨gb129, 0, none⟩) (by first | (rw [add_block]; exact hn130_0) | (show (Addr.add _ _).block ≠ _; rw [add_block]; exact hn130_0) | exact hn130_0) (.int .i64 a0_0)).trans hx130_6
      replace hx130_7 := (cell_far (p := ⟨gb129, 0, none⟩) (by first | (rw [add_block]; exact hn130_0) | (show (Addr.add _ _).block ≠ _; rw [add_block]; exact hn130_0) | exact hn130_0) (.int .i64 a0_0)).trans hx130_7
      replace hx130_8 := (cell_far (p := ⟨gb129, 0, none⟩) (by first | (rw [add_block]; exact hn130_0) | (show (Addr.add _ _).block ≠ _; rw [add_block]; exact hn130_0) | exact hn130_0) (.int .i64 a0_0)).trans hx130_8
      replace hx130_9 := (cell_far (p := ⟨gb129, 0, none⟩) (by first | (rw [add_block]; exact hn130_0) | (show (Addr.add _ _).block ≠ _; rw [add_block]; exact hn130_0) | exact hn130_0) (.int .i64 a0_0)).trans hx130_9
      replace hx130_10 := (cell_far (p := ⟨gb129, 0, none⟩) (by first | (rw [add_block]; exact hn130_0) | (show (Addr.add _ _).block ≠ _; rw [add_block]; exact hn130_0) | exact hn130_0) (.int .i64 a0_0)).trans hx130_10
      replace hx130_11 := (cell_far (p := ⟨gb129, 0, none⟩) (by first | (rw [add_block]; exact hn130_0) | (show (Addr.add _ _).block ≠ _; rw [add_block]; exact hn130_0) | exact hn130_0) (.int .i64 a0_0)).trans hx130_11
      replace hx130_12 := (cell_far (p := ⟨gb129, 0, none⟩) (by first | (rw [add_block]; exact hn130_0) | (show (Addr.add _ _).block ≠ _; rw [add_block]; exact hn130_0) | exact hn130_0) (.int .i64 a0_0)).trans hx130_12
      replace hx130_13 := (cell_far (p := ⟨gb129, 0, none⟩) (by first | (rw [add_block]; exact hn130_0) | (show (Addr.add _ _).block ≠ _; rw [add_block]; exact hn130_0) | exact hn130_0) (.int .i64 a0_0)).trans hx130_13
      replace hx130_14 := (cell_far (p := ⟨gb129, 0, none⟩) (by first | (rw [add_block]; exact hn130_0) | (show (Addr.add _ _).block ≠ _; rw [add_block]; exact hn130_0) | exact hn130_0) (.int .i64 a0_0)).trans hx130_14
      replace hx130_15 := (cell_far (p := ⟨gb129, 0, none⟩) (by first | (rw [add_block]; exact hn130_0) | (show (Addr.add _ _).block ≠ _; rw [add_block]; exact hn130_0) | exact hn130_0) (.int .i64 a0_0)).trans hx130_15
      replace hx130_0 := (cell_far (p := ⟨gb129, 1, none⟩) (by first | (rw [add_block]; exact hn130_1) | (show (Addr.add _ _).block ≠ _; rw [add_block]; exact hn130_1) | exact hn130_1) (.slice Ao23 t126.length co23)).trans hx130_0
      replace hx130_1 := (cell_far (p := ⟨gb129, 1, none⟩) (by first | (rw [add_block]; exact hn130_1) | (show (Addr.add _ _).block ≠ _; rw [add_block]; exact hn130_1) | exact hn130_1) (.slice Ao23 t126.length co23)).trans hx130_1
      replace hx130_2 := (cell_far (p := ⟨gb129, 1, none⟩) (by first | (rw [add_block]; exact hn130_1) | (show (Addr.add _ _).block ≠ _; rw [add_block]; exact hn130_1) | exact hn130_1) (.slice Ao23 t126.length co23)).trans hx130_2
      replace hx130_3 := (cell_far (p := ⟨gb129, 1, none⟩) (by first | (rw [add_block]; exact hn130_1) | (show (Addr.add _ _).block ≠ _; rw [add_block]; exact hn130_1) | exact hn130_1) (.slice Ao23 t126.length co23)).trans hx130_3
      replace hx130_4 := (cell_far (p := ⟨gb129, 1, none⟩) (by first | (rw [add_block]; exact hn130_1) | (show (Addr.add _ _).block ≠ _; rw [add_block]; exact hn130_1) | exact hn130_1) (.slice Ao23 t126.length co23)).trans hx130_4
      replace hx130_5 := (cell_far (p := ⟨gb129, 1, none⟩) (by first | (rw [add_block]; exact hn130_1) | (show (Addr.add _ _).block ≠ _; rw [add_block]; exact hn130_1) | exact hn130_1) (.slice Ao23 t126.length co23)).trans hx130_5
      replace hx130_6 := (cell_far (p := ⟨gb129, 1, none⟩) (by first | (rw [add_block]; exact hn130_1) | (show (Addr.add _ _).block ≠ _; rw [add_block]; exact hn130_1) | exact hn130_1) (.slice Ao23 t126.length co23)).trans hx130_6
      replace hx130_7 := (cell_far (p := ⟨gb129, 1, none⟩) (by first | (rw [add_block]; exact hn130_1) | (show (Addr.add _ _).block ≠ _; rw [add_block]; exact hn130_1) | exact hn130_1) (.slice Ao23 t126.length co23)).trans hx130_7
      replace hx130_8 := (cell_far (p := ⟨gb129, 1, none⟩) (by first | (rw [add_block]; exact hn130_1) | (show (Addr.add _ _).block ≠ _; rw [add_block]; exact hn130_1) | exact hn130_1) (.slice Ao23 t126.length co23)).trans hx130_8
      replace hx130_9 := (cell_far (p := ⟨gb129, 1, none⟩) (by first | (rw [add_block]; exact hn130_1) | (show (Addr.add _ _).block ≠ _; rw [add_block]; exact hn130_1) | exact hn130_1) (.slice Ao23 t126.length co23)).trans hx130_9
      replace hx130_10 := (cell_far (p := ⟨gb129, 1, none⟩) (by first | (rw [add_block]; exact hn130_1) | (show (Addr.add _ _).block ≠ _; rw [add_block]; exact hn130_1) | exact hn130_1) (.slice Ao23 t126.length co23)).trans hx130_10
      replace hx130_11 := (cell_far (p := ⟨gb129, 1, none⟩) (by first | (rw [add_block]; exact hn130_1) | (show (Addr.add _ _).block ≠ _; rw [add_block]; exact hn130_1) | exact hn130_1) (.slice Ao23 t126.length co23)).trans hx130_11
      replace hx130_12 := (cell_far (p := ⟨gb129, 1, none⟩) (by first | (rw [add_block]; exact hn130_1) | (show (Addr.add _ _).block ≠ _; rw [add_block]; exact hn130_1) | exact hn130_1) (.slice Ao23 t126.length co23)).trans hx130_12
      replace hx130_13 := (cell_far (p := ⟨gb129, 1, none⟩) (by first | (rw [add_block]; exact hn130_1) | (show (Addr.add _ _).block ≠ _; rw [add_block]; exact hn130_1) | exact hn130_1) (.slice Ao23 t126.length co23)).trans hx130_13
      replace hx130_14 := (cell_far (p := ⟨gb129, 1, none⟩) (by first | (rw [add_block]; exact hn130_1) | (show (Addr.add _ _).block ≠ _; rw [add_block]; exact hn130_1) | exact hn130_1) (.slice Ao23 t126.length co23)).trans hx130_14
      replace hx130_15 := (cell_far (p := ⟨gb129, 1, none⟩) (by first | (rw [add_block]; exact hn130_1) | (show (Addr.add _ _).block ≠ _; rw [add_block]; exact hn130_1) | exact hn130_1) (.slice Ao23 t126.length co23)).trans hx130_15
      clear hn130_0
      clear hn130_1
      replace p130 := eq_true p130
      replace q130 := eq_true q130
      have hnb28 := NB129_121.out
      have hnc28 := NB121_129.out
      have hcz29_0 : w22.cell? ⟨gb129, 0, none⟩ = some (.int .i64 0) := (blk_cell BK129.out 0).trans rfl
      have hcz29_1 : w22.cell? ⟨gb129, 1, none⟩ = some (.slice none 0 0) := (blk_cell BK129.out 1).trans rfl
      have hfz29_0 := blk_frozen BK129.out 0
      have hfz29_1 := blk_frozen BK129.out 1
      have hcz30_0 : w22.cell? ⟨gb121, 0, none⟩ = some (.int .i64 0) := (blk_cell BK121.out 0).trans rfl
      have hcz30_1 : w22.cell? ⟨gb121, 1, none⟩ = some (.slice none 0 0) := (blk_cell BK121.out 1).trans rfl
      have hfz30_0 := blk_frozen BK121.out 0
      have hfz30_1 := blk_frozen BK121.out 1
      try go_wp2
      refine bodyPost_ret (results_ctt rfl _ _ gb121 24 #[.int .i64 a0_0, .slice Ao23 t126.length co23] (0, 0) _ rfl (by (with_reducible repeat (first | refine blk_drewN ?_ _ | refine blk_drew ?_ | refine blk_alloc ?_ _)); refine blk_put (cs := #[.int .i64 a0_0, .slice none 0 0]) ?_ 1 _ rfl; (with_reducible repeat (first | refine blk_drewN ?_ _ | refine blk_drew ?_ | refine blk_alloc ?_ _)); refine blk_put (cs := #[.int .i64 0, .slice none 0 0]) ?_ 0 _ rfl; (with_reducible repeat (first | refine blk_drewN ?_ _ | refine blk_drew ?_ | refine blk_alloc ?_ _)); refine blk_far ?_ NB121_129.out _; (with_reducible repeat (first | refine blk_drewN ?_ _ | refine blk_drew ?_ | refine blk_alloc ?_ _)); refine blk_far ?_ NB121_129.out _; (with_reducible repeat (first | refine blk_drewN ?_ _ | refine blk_drew ?_ | refine blk_alloc ?_ _)); exact BK121.out) Try.underlying24 rfl (by kernel_rfl)) rfl ?_
      exact ⟨_, by first | rfl | (simp [errW_none, errW_some] <;> rfl) | (simp [*, errW_none, errW_some] <;> rfl), by (with_reducible repeat (first | apply Kd.R_alloc | apply Kd.R_drewN | apply Kd.R_drew)); exact Kd.R_mono (Kd.R_far (p := ⟨gb121, 1, none⟩) (Kd.R_far (p := ⟨gb121, 0, none⟩) (Kd.R_far (p := ⟨gb129, 1, none⟩) (Kd.R_far (p := ⟨gb129, 0, none⟩) (Kd.R_types (Kd.R_types HO128.out BK129.out (by decide)) BK121.out (by decide)) (fun _ hk => hk.1.2) (.int .i64 a0_0)) (fun _ hk => hk.1.2) (.slice Ao23 t126.length co23)) (fun _ hk => hk.2) (.int .i64 a0_0)) (fun _ hk => hk.2) (.slice Ao23 t126.length co23)) (fun _ hk => trivial), by repeat (first | (with_reducible first | exact HB.out | apply below_alloc | apply bN_ | apply below_drew1 | refine below_set ?_ GE120.out | refine below_set ?_ GE121.out | refine below_set ?_ GE129.out) | exact HB.out)⟩
     ·
      rw [if_neg c11] at H
      have c11b0 : (((rd_T42 l0_1 t123).f0) == t125) = false := beq_eq_false_iff_ne.mpr c11
      have c11b1 : (((rd_T42 l0_1 t123).f0) != t125) = true := bne_iff_ne.mpr c11
      by_cases c31 : 0 ≤ (Go.bits .xor .i64 t123 1)
      ·
       rw [if_pos c31] at H
       have c31b0 : decide (0 ≤ (Go.bits .xor .i64 t123 1)) = true := decide_eq_true c31
       clear c31
       by_cases c32 : (Go.bits .xor .i64 t123 1) < (l0_1.length : Int)
       ·
        rw [if_pos c32] at H
        have c32b0 : decide ((Go.bits .xor .i64 t123 1) < (l0_1.length : Int)) = true := decide_eq_true c32
        clear c32
        by_cases c33 : ((rd_T42 l0_1 (Go.bits .xor .i64 t123 1)).f0) = t125
        ·
         rw [if_pos c33] at H
         have c33b0 : (((rd_T42 l0_1 (Go.bits .xor .i64 t123 1)).f0) == t125) = true := beq_iff_eq.mpr c33
         have c33b1 : (((rd_T42 l0_1 (Go.bits .xor .i64 t123 1)).f0) != t125) = false := bne_eq_false_iff_eq.mpr c33
         clear c33
         simp only [Option.some.injEq, Prod.mk.injEq] at H
         obtain ⟨rfl, rfl, rfl, rfl⟩ := H
         go_enter Try.func13, Try.ntmps13
         try go_wp2_with (first | ((with_reducible refine gate_dst (N := 2) rfl ?_); refine box_event ?hg (N := 2) ?hd (cs := #[.int .i64 a0_0, .slice A0_1 l0_1.length c0_1]) (t := 24) ?hr ?_; (case hd => rfl); (case hg => rfl); (case hr => first | (go_simp; done) | (go_simp; rfl)); intro gb120 hg w34 hbox hb; have n0_ := Aside0.mk (below_step (by repeat (first | (with_reducible first | exact HB.out | apply below_alloc | apply bN_ | apply below_drew1) | exact HB.out)) hb); have n1_ := Aside0.mk (hbox); have n2_ := Aside0.mk ((by rw [hg]; exact (below_size (by repeat (first | (with_reducible first | exact HB.out | apply below_alloc | apply bN_ | apply below_drew1) | exact HB.out))) : w.heap.size ≤ gb120)); have n3_ := Aside0.mk ((by rw [hg]; exact (below_size (by repeat (first | (with_reducible first | exact HB.out | apply below_alloc | apply bN_ | apply below_drew1) | exact HB.out))) : w.heap.size ≤ gb120)); clear HB; have HB := n0_; have BK120 := n1_; have GW120 := n2_; have GE120 := n3_; clear n0_ n1_ n2_ n3_; clear hb hbox hg) | ((with_reducible refine gate_dst (N := 4) rfl ?_); refine box_event ?hg (N := 4) ?hd (cs := #[.int .i64 0, .slice none 0 0]) (t := 24) ?hr ?_; (case hd => rfl); (case hg => rfl); (case hr => first | (go_simp; done) | (go_simp; rfl)); intro gb121 hg w35 hbox hb; have n0_ := Aside0.mk (blk_below (g := gb120) (o := .cells #[.int .i64 a0_0, .slice A0_1 l0_1.length c0_1] 24 (0, 0)) (by (with_reducible repeat (first | refine blk_drewN ?_ _ | refine blk_drew ?_ | refine blk_alloc ?_ _)); exact BK120.out) hb); have n1_ := Aside0.mk (below_step (by repeat (first | (with_reducible first | exact HB.out | apply below_alloc | apply bN_ | apply below_drew1 | refine below_set ?_ GE120.out) | exact HB.out)) hb); have n2_ := Aside0.mk (hbox); have n3_ := Aside0.mk ((by rw [hg]; exact (below_size (by repeat (first | (with_reducible first | exact HB.out | apply below_alloc | apply bN_ | apply below_drew1 | refine below_set ?_ GE120.out) | exact HB.out))) : w.heap.size ≤ gb121)); have n4_ := Aside0.mk ((by rw [hg]; exact (below_size (by repeat (first | (with_reducible first | exact HB.out | apply below_alloc | apply bN_ | apply below_drew1 | refine below_set ?_ GE120.out) | exact HB.out))) : w.heap.size ≤ gb121)); have n5_ := Aside0.mk ((by rw [hg]; exact Nat.ne_of_lt (blk_lt (g := gb120) (o := .cells #[.int .i64 a0_0, .slice A0_1 l0_1.length c0_1] 24 (0, 0)) (by (with_reducible repeat (first | refine blk_drewN ?_ _ | refine blk_drew ?_ | refine blk_alloc ?_ _)); exact BK120.out)) : gb120 ≠ gb121)); have n6_ := Aside0.mk ((by rw [hg]; exact Nat.ne_of_gt (blk_lt (g := gb120) (o := .cells #[.int .i64 a0_0, .slice A0_1 l0_1.length c0_1] 24 (0, 0)) (by (with_reducible repeat (first | refine blk_drewN ?_ _ | refine blk_drew ?_ | refine blk_alloc ?_ _)); exact BK120.out)) : gb121 ≠ gb120)); clear BK120; clear HB; have BK120 := n0_; have HB := n1_; have BK121 := n2_; have GW121 := n3_; have GE121 := n4_; have NB120_121 := n5_; have NB121_120 := n6_; clear n0_ n1_ n2_ n3_ n4_ n5_ n6_; clear hb hbox hg; have hnb36 := NB120_121.out; have hnc36 := NB121_120.out; have hcz37_0 : w35.cell? ⟨gb120, 0, none⟩ = some (.int .i64 a0_0) := (blk_cell BK120.out 0).trans rfl; have hcz37_1 : w35.cell? ⟨gb120, 1, none⟩ = some (.slice A0_1 l0_1.length c0_1) := (blk_cell BK120.out 1).trans rfl; have hfz37_0 := blk_frozen BK120.out 0; have hfz37_1 := blk_frozen BK120.out 1) | ((with_reducible refine gate_callee (f := 16) rfl ?_); refine gL_ (some 14) Try.func16 #[.agg #[.int .i64 a0_0, .slice A0_1 l0_1.length c0_1]] ?_; (with_reducible refine (slots_Check.calls k a0_0 _ _ l0_1 t122 _ ?side1 ?side2 A3.out).mono ?_); (case side1 => repeat (first | exact (Kd.C_below HR0_1.out HB.out) | (with_reducible refine Kd.C_alloc ?_ _) | (with_reducible refine Kd.C_drewN ?_ _) | (with_reducible refine Kd.C_drew ?_))); (case side2 => exact HC0_1.out); rintro e w38 ⟨rfl, hb⟩; refine ⟨_, rfl, ?_⟩; have n0_ := Aside0.mk (blk_below (g := gb120) (o := .cells #[.int .i64 a0_0, .slice A0_1 l0_1.length c0_1] 24 (0, 0)) (by (with_reducible repeat (first | refine blk_drewN ?_ _ | refine blk_drew ?_ | refine blk_alloc ?_ _)); exact BK120.out) hb); have n1_ := Aside0.mk (blk_below (g := gb121) (o := .cells #[.int .i64 0, .slice none 0 0] 24 (0, 0)) (by (with_reducible repeat (first | refine blk_drewN ?_ _ | refine blk_drew ?_ | refine blk_alloc ?_ _)); exact BK121.out) hb); have n2_ := Aside0.mk (below_step (by repeat (first | (with_reducible first | exact HB.out | apply below_alloc | apply bN_ | apply below_drew1 | refine below_set ?_ GE120.out | refine below_set ?_ GE121.out) | exact HB.out)) hb); clear BK120; clear BK121; clear HB; have BK120 := n0_; have BK121 := n1_; have HB := n2_; clear n0_ n1_ n2_; (try clear hb); have hcz39_0 : w38.cell? ⟨gb120, 0, none⟩ = some (.int .i64 a0_0) := (blk_cell BK120.out 0).trans rfl; have hcz39_1 : w38.cell? ⟨gb120, 1, none⟩ = some (.slice A0_1 l0_1.length c0_1) := (blk_cell BK120.out 1).trans rfl; have hfz39_0 := blk_frozen BK120.out 0; have hfz39_1 := blk_frozen BK120.out 1) | ((with_reducible refine gate_callee (f := 26) rfl ?_); refine gL_ (some 24) Try.func26 #[.int .u32 a1, .int .i64 (l0_1.length : Int)] ?_; (with_reducible refine (hashes_Place.calls a1 (l0_1.length : Int) t123 t124 _ A5.out).mono ?_); rintro e w' ⟨rfl, ⟨nd, rfl⟩⟩; refine ⟨_, rfl, ?_⟩; (try (rw [drewN_self w38]; generalize hq_ : World.drewN w38 _ = w38; have n0_ : Aside0 (w38.heap[gb120]? = some (.cells #[.int .i64 a0_0, .slice A0_1 l0_1.length c0_1] 24 (0, 0))) := ⟨by rw [← hq_]; exact (by (with_reducible repeat (first | refine blk_drewN ?_ _ | refine blk_drew ?_ | refine blk_alloc ?_ _)); exact BK120.out)⟩; have n1_ : Aside0 (w38.heap[gb121]? = some (.cells #[.int .i64 0, .slice none 0 0] 24 (0, 0))) := ⟨by rw [← hq_]; exact (by (with_reducible repeat (first | refine blk_drewN ?_ _ | refine blk_drew ?_ | refine blk_alloc ?_ _)); exact BK121.out)⟩; have n2_ : Aside0 (Below w.heap.size w w38) := ⟨by rw [← hq_]; exact (by repeat (first | (with_reducible first | exact HB.out | apply below_alloc | apply bN_ | apply below_drew1 | refine below_set ?_ GE120.out | refine below_set ?_ GE121.out) | exact HB.out))⟩; clear BK120 BK121 HB hq_; have BK120 := n0_; have BK121 := n1_; have HB := n2_; clear n0_ n1_ n2_))) | ((with_reducible refine gate_callee (f := 27) rfl ?_); refine gL_ (some 34) Try.func27 #[.int .u32 a1] ?_; (with_reducible refine (hashes_Check.calls a1 t125 _ A7.out).mono ?_); rintro e w' ⟨rfl, ⟨nd, rfl⟩⟩; refine ⟨_, rfl, ?_⟩; (try (rw [drewN_self w38]; generalize hq_ : World.drewN w38 _ = w38; have n0_ : Aside0 (w38.heap[gb120]? = some (.cells #[.int .i64 a0_0, .slice A0_1 l0_1.length c0_1] 24 (0, 0))) := ⟨by rw [← hq_]; exact (by (with_reducible repeat (first | refine blk_drewN ?_ _ | refine blk_drew ?_ | refine blk_alloc ?_ _)); exact BK120.out)⟩; have n1_ : Aside0 (w38.heap[gb121]? = some (.cells #[.int .i64 0, .slice none 0 0] 24 (0, 0))) := ⟨by rw [← hq_]; exact (by (with_reducible repeat (first | refine blk_drewN ?_ _ | refine blk_drew ?_ | refine blk_alloc ?_ _)); exact BK121.out)⟩; have n2_ : Aside0 (Below w.heap.size w w38) := ⟨by rw [← hq_]; exact (by repeat (first | (with_reducible first | exact HB.out | apply below_alloc | apply bN_ | apply below_drew1 | refine below_set ?_ GE120.out | refine below_set ?_ GE121.out) | exact HB.out))⟩; clear BK120 BK121 HB hq_; have BK120 := n0_; have BK121 := n1_; have HB := n2_; clear n0_ n1_ n2_))))
         have n0_ := Aside0.mk (blk_drew BK120.out)
         have n1_ := Aside0.mk (blk_drew BK121.out)
         have n2_ := Aside0.mk (below_drew1 HB.out)
         clear BK120
         clear BK121
         clear HB
         have BK120 := n0_
         have BK121 := n1_
         have HB := n2_
         clear n0_ n1_ n2_
         refine start_ (n := 8) (S := fun w' => w'.cell? ⟨gb120, 0, none⟩ = some (.int .i64 a0_0) ∧ w'.cell? ⟨gb120, 1, none⟩ = some (.slice A0_1 l0_1.length c0_1)) (ds := []) #[false, false, false, false, false, false, false, false] (by kernel_rfl) rfl rfl ⟨(blk_cell BK120.out 0).trans rfl, (blk_cell BK120.out 1).trans rfl⟩ (fun hHeld => ?_); refine with_tabW slots_Find.tab8 slots_Find.bits8 (fun HT_ HW_ => ?_)
         generalize w38.drew = w40 at BK120 BK121 HB hHeld ⊢
         refine pure_ (i := 0) (N := some 35) (v := ?_) (a' := ?_) #[true, false, false, false, false, false, false, false] rfl rfl (any_of HT_.out (by kernel_rfl)) (fun _ _ _ h => h) (Or.inl ⟨by rfl, ?_⟩) ?_ ?_
         rotate_left
         ·
          intro w'
          go_simp
          with_reducible rfl
         rotate_left
         ·
          simp only [Act.put, setIfInBounds_toArray, set_cons_zero, set_cons_succ, i64_w, i32_w]
          rfl
         refine pure_ (i := 2) (N := some 37) (v := ?_) (a' := ?_) #[true, false, true, false, false, false, false, false] rfl rfl (any_of HT_.out (by kernel_rfl)) (fun _ _ _ h => h) (Or.inl ⟨by rfl, ?_⟩) ?_ ?_
         rotate_left
         ·
          intro w'
          go_simp
          with_reducible rfl
         rotate_left
         ·
          simp only [Act.put, setIfInBounds_toArray, set_cons_zero, set_cons_succ, i64_w, i32_w]
          rfl
         refine take_ (i := 1) (N := some 36) (v := ?_) (a' := ?_) #[true, true, true, false, false, false, false, false] rfl rfl (take_ofW HT_.out HW_.out (by kernel_rfl)) (fun _ _ _ h => h) (Or.inl ⟨by rfl, ?_⟩) hHeld ?_ ?_
         rotate_left
         ·
          rintro w' ⟨s0, s1⟩
          go_simp
          with_reducible rfl
         rotate_left
         ·
          simp only [Act.put, setIfInBounds_toArray, set_cons_zero, set_cons_succ, i64_w, i32_w]
          rfl
         refine take_ (i := 3) (N := some 38) (v := ?_) (a' := ?_) #[true, true, true, true, false, false, false, false] rfl rfl (take_ofW HT_.out HW_.out (by kernel_rfl)) (fun _ _ _ h => h) (Or.inl ⟨by rfl, ?_⟩) hHeld ?_ ?_
         rotate_left
         ·
          rintro w' ⟨s0, s1⟩
          go_simp
          with_reducible rfl
         rotate_left
         ·
          simp only [Act.put, setIfInBounds_toArray, set_cons_zero, set_cons_succ, i64_w, i32_w]
          rfl
         refine join_ (σ := Value × Nat) 1 #[true, true, true, true, true, true, true, false] (fun s_ => [(39, s_.1), (12, .pointer (some ⟨s_.2, 0, none⟩)), (40, .agg #[.int .i64 a0_0, s_.1])]) (fun s_ w' => (w'.cell? ⟨gb120, 0, none⟩ = some (.int .i64 a0_0) ∧ w'.cell? ⟨gb120, 1, none⟩ = some (.slice A0_1 l0_1.length c0_1)) ∧ (Kd.R k42 42 w' w.heap.size (fun _ => True) s_.1 t126) ∧ (w'.heap[gb120]? = some (.cells #[.int .i64 a0_0, .slice A0_1 l0_1.length c0_1] 24 (0, 0))) ∧ (w'.heap[gb121]? = some (.cells #[.int .i64 0, .slice none 0 0] 24 (0, 0))) ∧ (w'.heap[s_.2]? = some (.cells #[.int .i64 0, .slice none 0 0] 24 (0, 0))) ∧ (w.heap.size ≤ s_.2) ∧ (w.heap.size ≤ s_.2) ∧ (gb120 ≠ s_.2) ∧ (s_.2 ≠ gb120) ∧ (gb121 ≠ s_.2) ∧ (s_.2 ≠ gb121) ∧ (Below w.heap.size w w')) ?_ ?_
         rotate_left
         ·
          intro hCont
          refine two_ (i := 4) (j := 6) (Ni := some 39) (Nj := some 12) #[true, true, true, true, true, false, false, false] #[true, true, true, true, false, false, true, false] rfl rfl rfl rfl (two_of HT_.out (by kernel_rfl)) (by decide) (by decide) (fun K hK => ?_) (fun K hK => ?_)
          ·
           skip
           refine goes_ Try.func36 (by kernel_rfl) rfl #[.slice A0_1 l0_1.length c0_1] (by rfl) rfl rfl (by (try simp only [List.map_toArray, List.map_cons, List.map_nil]); first | done | rfl | (simp only [List.length_drop, List.length_take]; rfl)) ?_
           with_reducible refine (slices_Clone_api_Slot_api_Slot.calls _ _ l0_1 t126 _ ?side1 ?side2 A8.out).mono ?_
           (case side1 => repeat (first | exact (Kd.C_below HR0_1.out HB.out) | (with_reducible refine Kd.C_alloc ?_ _) | (with_reducible refine Kd.C_drewN ?_ _) | (with_reducible refine Kd.C_drew ?_)))
           (case side2 => exact HC0_1.out)
           rintro e w41 ⟨v127, rfl, ho0, hb⟩
           refine ⟨_, rfl, ?_⟩
           have n0_ := Aside0.mk (Kd.R_lower ho0 (below_size (by repeat (first | (with_reducible first | exact HB.out | apply below_alloc | apply bN_ | apply below_drew1 | refine below_set ?_ GE120.out | refine below_set ?_ GE121.out) | exact HB.out))))
           have n1_ := Aside0.mk (blk_below (g := gb120) (o := .cells #[.int .i64 a0_0, .slice A0_1 l0_1.length c0_1] 24 (0, 0)) (by (with_reducible repeat (first | refine blk_drewN ?_ _ | refine blk_drew ?_ | refine blk_alloc ?_ _)); exact BK120.out) hb)
           have n2_ := Aside0.mk (blk_below (g := gb121) (o := .cells #[.int .i64 0, .slice none 0 0] 24 (0, 0)) (by (with_reducible repeat (first | refine blk_drewN ?_ _ | refine blk_drew ?_ | refine blk_alloc ?_ _)); exact BK121.out) hb)
           have n3_ := Aside0.mk (below_step (by repeat (first | (with_reducible first | exact HB.out | apply below_alloc | apply bN_ | apply below_drew1 | refine below_set ?_ GE120.out | refine below_set ?_ GE121.out) | exact HB.out)) hb)
           clear BK120
           clear BK121
           clear HB
           have HO128 := n0_
           have BK120 := n1_
           have BK121 := n2_
           have HB := n3_
           clear n0_ n1_ n2_ n3_
           (try clear hb)
           (try clear hb2)
           (try clear hk)
           (try clear hi)
           (try clear ho0)
           obtain ⟨Ao42, co42, eo42⟩ := Kd.R_slice HO128.out
           (first | subst eo42 | (injection eo42 with f1_ f2_ f3_; have f4_ := f1_.symm; have f5_ := f3_.symm; clear f1_ f2_ f3_; subst f4_; subst f5_))
           refine hK.out _ _ ⟨(blk_cell BK120.out 0).trans rfl, (blk_cell BK120.out 1).trans rfl⟩ (fun hHeld => ?_)
           clear hK K
           refine norm_ (a' := ?_) ?_ ?_
           rotate_left
           ·
            show Act.put _ (some 39) _ = _
            simp only [Act.put, setIfInBounds_toArray, set_cons_zero, set_cons_succ, i64_w, i32_w]
            rfl
           refine pure_ (i := 5) (N := some 40) (v := ?_) (a' := ?_) #[true, true, true, true, true, true, false, false] rfl rfl (any_of HT_.out (by kernel_rfl)) (fun _ _ _ h => h) (Or.inl ⟨by rfl, ?_⟩) ?_ ?_
           rotate_left
           ·
            intro w'
            go_simp
            with_reducible rfl
           rotate_left
           ·
            simp only [Act.put, setIfInBounds_toArray, set_cons_zero, set_cons_succ, i64_w, i32_w]
            rfl
           refine one_ (i := 6) (N := some 12) #[true, true, true, true, true, true, true, false] rfl rfl (one_of HT_.out (by kernel_rfl)) (by decide) (fun K hK => ?_)
           refine box_step ?hg (N := 12) ?hd (cs := #[.int .i64 0, .slice none 0 0]) (t := 24) ?hr ?_; (case hd => rfl); (case hg => rfl); (case hr => first | (go_simp; done) | (go_simp; rfl))
           intro gb129 hg w43 hbox hb
           have n0_ := Aside0.mk (Kd.R_below (by (with_reducible repeat (first | apply Kd.R_alloc | apply Kd.R_drewN | apply Kd.R_drew)); exact HO128.out) hb)
           have n1_ := Aside0.mk (blk_below (g := gb120) (o := .cells #[.int .i64 a0_0, .slice A0_1 l0_1.length c0_1] 24 (0, 0)) (by (with_reducible repeat (first | refine blk_drewN ?_ _ | refine blk_drew ?_ | refine blk_alloc ?_ _)); exact BK120.out) hb)
           have n2_ := Aside0.mk (blk_below (g := gb121) (o := .cells #[.int .i64 0, .slice none 0 0] 24 (0, 0)) (by (with_reducible repeat (first | refine blk_drewN ?_ _ | refine blk_drew ?_ | refine blk_alloc ?_ _)); exact BK121.out) hb)
           have n3_ := Aside0.mk (below_step (by repeat (first | (with_reducible first | exact HB.out | apply below_alloc | apply bN_ | apply below_drew1 | refine below_set ?_ GE120.out | refine below_set ?_ GE121.out) | exact HB.out)) hb)
           have n4_ := Aside0.mk (hbox)
           have n5_ := Aside0.mk ((by rw [hg]; exact (below_size (by repeat (first | (with_reducible first | exact HB.out | apply below_alloc | apply bN_ | apply below_drew1 | refine below_set ?_ GE120.out | refine below_set ?_ GE121.out) | exact HB.out))) : w.heap.size ≤ gb129))
           have n6_ := Aside0.mk ((by rw [hg]; exact (below_size (by repeat (first | (with_reducible first | exact HB.out | apply below_alloc | apply bN_ | apply below_drew1 | refine below_set ?_ GE120.out | refine below_set ?_ GE121.out) | exact HB.out))) : w.heap.size ≤ gb129))
           have n7_ := Aside0.mk ((by rw [hg]; exact Nat.ne_of_lt (blk_lt (g := gb120) (o := .cells #[.int .i64 a0_0, .slice A0_1 l0_1.length c0_1] 24 (0, 0)) (by (with_reducible repeat (first | refine blk_drewN ?_ _ | refine blk_drew ?_ | refine blk_alloc ?_ _)); exact BK120.out)) : gb120 ≠ gb129))
           have n8_ := Aside0.mk ((by rw [hg]; exact Nat.ne_of_gt (blk_lt (g := gb120) (o := .cells #[.int .i64 a0_0, .slice A0_1 l0_1.length c0_1] 24 (0, 0)) (by (with_reducible repeat (first | refine blk_drewN ?_ _ | refine blk_drew ?_ | refine blk_alloc ?_ _)); exact BK120.out)) : gb129 ≠ gb120))
           have n9_ := Aside0.mk ((by rw [hg]; exact Nat.ne_of_lt (blk_lt (g := gb121) (o := .cells #[.int .i64 0, .slice none 0 0] 24 (0, 0)) (by (with_reducible repeat (first | refine blk_drewN ?_ _ | refine blk_drew ?_ | refine blk_alloc ?_ _)); exact BK121.out)) : gb121 ≠ gb129))
           have n10_ := Aside0.mk ((by rw [hg]; exact Nat.ne_of_gt (blk_lt (g := gb121) (o := .cells #[.int .i64 0, .slice none 0 0] 24 (0, 0)) (by (with_reducible repeat (first | refine blk_drewN ?_ _ | refine blk_drew ?_ | refine blk_alloc ?_ _)); exact BK121.out)) : gb129 ≠ gb121))
           clear HO128
           clear BK120
           clear BK121
           clear HB
           have HO128 := n0_
           have BK120 := n1_
           have BK121 := n2_
           have HB := n3_
           have BK129 := n4_
           have GW129 := n5_
           have GE129 := n6_
           have NB120_129 := n7_
           have NB129_120 := n8_
           have NB121_129 := n9_
           have NB129_121 := n10_
           clear n0_ n1_ n2_ n3_ n4_ n5_ n6_ n7_ n8_ n9_ n10_
           clear hb hbox hg
           refine hK.out _ _ ⟨(blk_cell BK120.out 0).trans rfl, (blk_cell BK120.out 1).trans rfl⟩ (fun hHeld => ?_)
           clear hK K
           refine norm_ (a' := ?_) ?_ ?_
           rotate_left
           ·
            show Act.put _ (some 12) _ = _
            simp only [Act.put, setIfInBounds_toArray, set_cons_zero, set_cons_succ, i64_w, i32_w]
            rfl
           exact norm_ (by simp only [putAll, Act.put, setIfInBounds_toArray, set_cons_zero, set_cons_succ]) (hCont (.slice Ao42 t126.length co42, gb129) _ ⟨hHeld, (by (with_reducible repeat (first | apply Kd.R_alloc | apply Kd.R_drewN | apply Kd.R_drew)); exact HO128.out), (by (with_reducible repeat (first | refine blk_drewN ?_ _ | refine blk_drew ?_ | refine blk_alloc ?_ _)); exact BK120.out), (by (with_reducible repeat (first | refine blk_drewN ?_ _ | refine blk_drew ?_ | refine blk_alloc ?_ _)); exact BK121.out), (by (with_reducible repeat (first | refine blk_drewN ?_ _ | refine blk_drew ?_ | refine blk_alloc ?_ _)); exact BK129.out), GW129.out, GE129.out, NB120_129.out, NB129_120.out, NB121_129.out, NB129_121.out, (by repeat (first | (with_reducible first | exact HB.out | apply below_alloc | apply bN_ | apply below_drew1 | refine below_set ?_ GE120.out | refine below_set ?_ GE121.out | refine below_set ?_ GE129.out) | exact HB.out))⟩)
          ·
           skip
           refine box_step ?hg (N := 12) ?hd (cs := #[.int .i64 0, .slice none 0 0]) (t := 24) ?hr ?_; (case hd => rfl); (case hg => rfl); (case hr => first | (go_simp; done) | (go_simp; rfl))
           intro gb129 hg w41 hbox hb
           have n0_ := Aside0.mk (blk_below (g := gb120) (o := .cells #[.int .i64 a0_0, .slice A0_1 l0_1.length c0_1] 24 (0, 0)) (by (with_reducible repeat (first | refine blk_drewN ?_ _ | refine blk_drew ?_ | refine blk_alloc ?_ _)); exact BK120.out) hb)
           have n1_ := Aside0.mk (blk_below (g := gb121) (o := .cells #[.int .i64 0, .slice none 0 0] 24 (0, 0)) (by (with_reducible repeat (first | refine blk_drewN ?_ _ | refine blk_drew ?_ | refine blk_alloc ?_ _)); exact BK121.out) hb)
           have n2_ := Aside0.mk (below_step (by repeat (first | (with_reducible first | exact HB.out | apply below_alloc | apply bN_ | apply below_drew1 | refine below_set ?_ GE120.out | refine below_set ?_ GE121.out) | exact HB.out)) hb)
           have n3_ := Aside0.mk (hbox)
           have n4_ := Aside0.mk ((by rw [hg]; exact (below_size (by repeat (first | (with_reducible first | exact HB.out | apply below_alloc | apply bN_ | apply below_drew1 | refine below_set ?_ GE120.out | refine below_set ?_ GE121.out) | exact HB.out))) : w.heap.size ≤ gb129))
           have n5_ := Aside0.mk ((by rw [hg]; exact (below_size (by repeat (first | (with_reducible first | exact HB.out | apply below_alloc | apply bN_ | apply below_drew1 | refine below_set ?_ GE120.out | refine below_set ?_ GE121.out) | exact HB.out))) : w.heap.size ≤ gb129))
           have n6_ := Aside0.mk ((by rw [hg]; exact Nat.ne_of_lt (blk_lt (g := gb120) (o := .cells #[.int .i64 a0_0, .slice A0_1 l0_1.length c0_1] 24 (0, 0)) (by (with_reducible repeat (first | refine blk_drewN ?_ _ | refine blk_drew ?_ | refine blk_alloc ?_ _)); exact BK120.out)) : gb120 ≠ gb129))
           have n7_ := Aside0.mk ((by rw [hg]; exact Nat.ne_of_gt (blk_lt (g := gb120) (o := .cells #[.int .i64 a0_0, .slice A0_1 l0_1.length c0_1] 24 (0, 0)) (by (with_reducible repeat (first | refine blk_drewN ?_ _ | refine blk_drew ?_ | refine blk_alloc ?_ _)); exact BK120.out)) : gb129 ≠ gb120))
           have n8_ := Aside0.mk ((by rw [hg]; exact Nat.ne_of_lt (blk_lt (g := gb121) (o := .cells #[.int .i64 0, .slice none 0 0] 24 (0, 0)) (by (with_reducible repeat (first | refine blk_drewN ?_ _ | refine blk_drew ?_ | refine blk_alloc ?_ _)); exact BK121.out)) : gb121 ≠ gb129))
           have n9_ := Aside0.mk ((by rw [hg]; exact Nat.ne_of_gt (blk_lt (g := gb121) (o := .cells #[.int .i64 0, .slice none 0 0] 24 (0, 0)) (by (with_reducible repeat (first | refine blk_drewN ?_ _ | refine blk_drew ?_ | refine blk_alloc ?_ _)); exact BK121.out)) : gb129 ≠ gb121))
           clear BK120
           clear BK121
           clear HB
           have BK120 := n0_
           have BK121 := n1_
           have HB := n2_
           have BK129 := n3_
           have GW129 := n4_
           have GE129 := n5_
           have NB120_129 := n6_
           have NB129_120 := n7_
           have NB121_129 := n8_
           have NB129_121 := n9_
           clear n0_ n1_ n2_ n3_ n4_ n5_ n6_ n7_ n8_ n9_
           clear hb hbox hg
           refine hK.out _ _ ⟨(blk_cell BK120.out 0).trans rfl, (blk_cell BK120.out 1).trans rfl⟩ (fun hHeld => ?_)
           clear hK K
           refine norm_ (a' := ?_) ?_ ?_
           rotate_left
           ·
            show Act.put _ (some 12) _ = _
            simp only [Act.put, setIfInBounds_toArray, set_cons_zero, set_cons_succ, i64_w, i32_w]
            rfl
           refine one_ (i := 4) (N := some 39) #[true, true, true, true, true, false, true, false] rfl rfl (one_of HT_.out (by kernel_rfl)) (by decide) (fun K hK => ?_)
           refine goes_ Try.func36 (by kernel_rfl) rfl #[.slice A0_1 l0_1.length c0_1] (by rfl) rfl rfl (by (try simp only [List.map_toArray, List.map_cons, List.map_nil]); first | done | rfl | (simp only [List.length_drop, List.length_take]; rfl)) ?_
           with_reducible refine (slices_Clone_api_Slot_api_Slot.calls _ _ l0_1 t126 _ ?side1 ?side2 A8.out).mono ?_
           (case side1 => repeat (first | exact (Kd.C_below HR0_1.out HB.out) | (with_reducible refine Kd.C_alloc ?_ _) | (with_reducible refine Kd.C_drewN ?_ _) | (with_reducible refine Kd.C_drew ?_)))
           (case side2 => exact HC0_1.out)
           rintro e w42 ⟨v127, rfl, ho0, hb⟩
           refine ⟨_, rfl, ?_⟩
           have n0_ := Aside0.mk (Kd.R_lower ho0 (below_size (by repeat (first | (with_reducible first | exact HB.out | apply below_alloc | apply bN_ | apply below_drew1 | refine below_set ?_ GE120.out | refine below_set ?_ GE121.out | refine below_set ?_ GE129.out) | exact HB.out))))
           have n1_ := Aside0.mk (blk_below (g := gb120) (o := .cells #[.int .i64 a0_0, .slice A0_1 l0_1.length c0_1] 24 (0, 0)) (by (with_reducible repeat (first | refine blk_drewN ?_ _ | refine blk_drew ?_ | refine blk_alloc ?_ _)); exact BK120.out) hb)
           have n2_ := Aside0.mk (blk_below (g := gb121) (o := .cells #[.int .i64 0, .slice none 0 0] 24 (0, 0)) (by (with_reducible repeat (first | refine blk_drewN ?_ _ | refine blk_drew ?_ | refine blk_alloc ?_ _)); exact BK121.out) hb)
           have n3_ := Aside0.mk (blk_below (g := gb129) (o := .cells #[.int .i64 0, .slice none 0 0] 24 (0, 0)) (by (with_reducible repeat (first | refine blk_drewN ?_ _ | refine blk_drew ?_ | refine blk_alloc ?_ _)); exact BK129.out) hb)
           have n4_ := Aside0.mk (below_step (by repeat (first | (with_reducible first | exact HB.out | apply below_alloc | apply bN_ | apply below_drew1 | refine below_set ?_ GE120.out | refine below_set ?_ GE121.out | refine below_set ?_ GE129.out) | exact HB.out)) hb)
           clear BK120
           clear BK121
           clear BK129
           clear HB
           have HO128 := n0_
           have BK120 := n1_
           have BK121 := n2_
           have BK129 := n3_
           have HB := n4_
           clear n0_ n1_ n2_ n3_ n4_
           (try clear hb)
           (try clear hb2)
           (try clear hk)
           (try clear hi)
           (try clear ho0)
           obtain ⟨Ao43, co43, eo43⟩ := Kd.R_slice HO128.out
           (first | subst eo43 | (injection eo43 with f1_ f2_ f3_; have f4_ := f1_.symm; have f5_ := f3_.symm; clear f1_ f2_ f3_; subst f4_; subst f5_))
           refine hK.out _ _ ⟨(blk_cell BK120.out 0).trans rfl, (blk_cell BK120.out 1).trans rfl⟩ (fun hHeld => ?_)
           clear hK K
           refine norm_ (a' := ?_) ?_ ?_
           rotate_left
           ·
            show Act.put _ (some 39) _ = _
            simp only [Act.put, setIfInBounds_toArray, set_cons_zero, set_cons_succ, i64_w, i32_w]
            rfl
           refine pure_ (i := 5) (N := some 40) (v := ?_) (a' := ?_) #[true, true, true, true, true, true, true, false] rfl rfl (any_of HT_.out (by kernel_rfl)) (fun _ _ _ h => h) (Or.inl ⟨by rfl, ?_⟩) ?_ ?_
           rotate_left
           ·
            intro w'
            go_simp
            with_reducible rfl
           rotate_left
           ·
            simp only [Act.put, setIfInBounds_toArray, set_cons_zero, set_cons_succ, i64_w, i32_w]
            rfl
           exact norm_ (by simp only [putAll, Act.put, setIfInBounds_toArray, set_cons_zero, set_cons_succ]) (hCont (.slice Ao43 t126.length co43, gb129) _ ⟨hHeld, (by (with_reducible repeat (first | apply Kd.R_alloc | apply Kd.R_drewN | apply Kd.R_drew)); exact HO128.out), (by (with_reducible repeat (first | refine blk_drewN ?_ _ | refine blk_drew ?_ | refine blk_alloc ?_ _)); exact BK120.out), (by (with_reducible repeat (first | refine blk_drewN ?_ _ | refine blk_drew ?_ | refine blk_alloc ?_ _)); exact BK121.out), (by (with_reducible repeat (first | refine blk_drewN ?_ _ | refine blk_drew ?_ | refine blk_alloc ?_ _)); exact BK129.out), GW129.out, GE129.out, NB120_129.out, NB129_120.out, NB121_129.out, NB129_121.out, (by repeat (first | (with_reducible first | exact HB.out | apply below_alloc | apply bN_ | apply below_drew1 | refine below_set ?_ GE120.out | refine below_set ?_ GE121.out | refine below_set ?_ GE129.out) | exact HB.out))⟩)
         rintro ⟨v127, gb129⟩ w44 ⟨hS_, h0_, h1_, h2_, h3_, h4_, h5_, h6_, h7_, h8_, h9_, h10_⟩
         have n0_ : Aside0 (Kd.R k42 42 w44 w.heap.size (fun _ => True) v127 t126) := ⟨h0_⟩
         have n1_ : Aside0 (w44.heap[gb120]? = some (.cells #[.int .i64 a0_0, .slice A0_1 l0_1.length c0_1] 24 (0, 0))) := ⟨h1_⟩
         have n2_ : Aside0 (w44.heap[gb121]? = some (.cells #[.int .i64 0, .slice none 0 0] 24 (0, 0))) := ⟨h2_⟩
         have n3_ : Aside0 (w44.heap[gb129]? = some (.cells #[.int .i64 0, .slice none 0 0] 24 (0, 0))) := ⟨h3_⟩
         have n4_ : Aside0 (w.heap.size ≤ gb129) := ⟨h4_⟩
         have n5_ : Aside0 (w.heap.size ≤ gb129) := ⟨h5_⟩
         have n6_ : Aside0 (gb120 ≠ gb129) := ⟨h6_⟩
         have n7_ : Aside0 (gb129 ≠ gb120) := ⟨h7_⟩
         have n8_ : Aside0 (gb121 ≠ gb129) := ⟨h8_⟩
         have n9_ : Aside0 (gb129 ≠ gb121) := ⟨h9_⟩
         have n10_ : Aside0 (Below w.heap.size w w44) := ⟨h10_⟩
         clear BK120
         clear BK121
         clear HB
         clear h0_ h1_ h2_ h3_ h4_ h5_ h6_ h7_ h8_ h9_ h10_
         have HO128 := n0_
         have BK120 := n1_
         have BK121 := n2_
         have BK129 := n3_
         have GW129 := n4_
         have GE129 := n5_
         have NB120_129 := n6_
         have NB129_120 := n7_
         have NB121_129 := n8_
         have NB129_121 := n9_
         have HB := n10_
         clear n0_ n1_ n2_ n3_ n4_ n5_ n6_ n7_ n8_ n9_ n10_
         have hHeld : w44.cell? ⟨gb120, 0, none⟩ = some (.int .i64 a0_0) ∧ w44.cell? ⟨gb120, 1, none⟩ = some (.slice A0_1 l0_1.length c0_1) := hS_
         obtain ⟨Ao45, co45, eo45⟩ := Kd.R_slice HO128.out
         (first | subst eo45 | (injection eo45 with f1_ f2_ f3_; have f4_ := f1_.symm; have f5_ := f3_.symm; clear f1_ f2_ f3_; subst f4_; subst f5_))
         refine norm_ (a' := ?_) ?_ ?_
         rotate_left
         ·
          simp only [putAll, Act.put, setIfInBounds_toArray, set_cons_zero, set_cons_succ]
          rfl
         refine one_ (i := 7) (N := none) #[true, true, true, true, true, true, true, true] rfl rfl (one_of HT_.out (by kernel_rfl)) (by decide) (fun K hK => ?_)
         have hs46 : w44.cell? ⟨gb129, 0, none⟩ = some (.int .i64 0) := (blk_cell BK129.out 0).trans rfl
         have hfs46 := blk_frozen BK129.out 0
         have hns46_0 := NB120_129.out
         have hns46_1 := NB121_129.out
         have hms46_0 := NB129_120.out
         have hms46_1 := NB129_121.out
         have hs47 : w44.cell? ⟨gb129, 1, none⟩ = some (.slice none 0 0) := (blk_cell BK129.out 1).trans rfl
         have hfs47 := blk_frozen BK129.out 1
         have hns47_0 := NB120_129.out
         have hns47_1 := NB121_129.out
         have hms47_0 := NB129_120.out
         have hms47_1 := NB129_121.out
         refine skip_ (w1 := ?_) (by rfl) rfl ?_ ?_
         rotate_left
         ·
          go_simp
          rfl
         refine hK.out _ _ ⟨((cell_far (p := ⟨gb129, _, none⟩) NB120_129.out _).trans (((cell_far (p := ⟨gb129, _, none⟩) NB120_129.out _).trans (hHeld.1)))), ((cell_far (p := ⟨gb129, _, none⟩) NB120_129.out _).trans (((cell_far (p := ⟨gb129, _, none⟩) NB120_129.out _).trans (hHeld.2))))⟩ (fun hHeld => ?_)
         clear hK K
         refine done_ (done_of HT_.out (by kernel_rfl)) ?_
         have hnb48 := NB120_129.out
         have hnc48 := NB129_120.out
         have hcz49_0 : w44.cell? ⟨gb120, 0, none⟩ = some (.int .i64 a0_0) := (blk_cell BK120.out 0).trans rfl
         have hcz49_1 : w44.cell? ⟨gb120, 1, none⟩ = some (.slice A0_1 l0_1.length c0_1) := (blk_cell BK120.out 1).trans rfl
         have hfz49_0 := blk_frozen BK120.out 0
         have hfz49_1 := blk_frozen BK120.out 1
         have p130 : 0 ≤ (t123 : Int) := of_decide_eq_true (by first | (with_reducible assumption) | assumption)
         have q130 : t123 < (l0_1.length : Int) := of_decide_eq_true (by first | (with_reducible assumption) | assumption)
         obtain ⟨ad130, e130, hx130_0, hx130_1, hx130_2, hx130_3, hx130_4, hx130_5, hx130_6, hx130_7, hx130_8, hx130_9, hx130_10, hx130_11, hx130_12, hx130_13, hx130_14, hx130_15⟩ := at_T42 HR0_1.out t123 p130 q130
         cases e130
         have hn130_0 : ad130.block ≠ gb129 := Nat.ne_of_lt (Nat.lt_of_lt_of_le (by have := World.block_lt_of_cell? _ _ hx130_0; first | rwa [add_block] at this | exact this) GW129.out)
         have hn130_1 : ad130.block ≠ gb129 := Nat.ne_of_lt (Nat.lt_of_lt_of_le (by have := World.block_lt_of_cell? _ _ hx130_0; first | rwa [add_block] at this | exact this) GW129.out)
         replace hx130_0 := (HB.out.cell (World.block_lt_of_cell? w _ hx130_0)).trans hx130_0
         replace hx130_1 := (HB.out.cell (World.block_lt_of_cell? w _ hx130_1)).trans hx130_1
         replace hx130_2 := (HB.out.cell (World.block_lt_of_cell? w _ hx130_2)).trans hx130_2
         replace hx130_3 := (HB.out.cell (World.block_lt_of_cell? w _ hx130_3)).trans hx130_3
         replace hx130_4 := (HB.out.cell (World.block_lt_of_cell? w _ hx130_4)).trans hx130_4
         replace hx130_5 := (HB.out.cell (World.block_lt_of_cell? w _ hx130_5)).trans hx130_5
         replace hx130_6 := (HB.out.cell (World.block_lt_of_cell? w _ hx130_6)).trans hx130_6
         replace hx130_7 := (HB.out.cell (World.block_lt_of_cell? w _ hx130_7)).trans hx130_7
         replace hx130_8 := (HB.out.cell (World.block_lt_of_cell? w _ hx130_8)).trans hx130_8
         replace hx130_9 := (HB.out.cell (World.block_lt_of_cell? w _ hx130_9)).trans hx130_9
         replace hx130_10 := (HB.out.cell (World.block_lt_of_cell? w _ hx130_10)).trans hx130_10
         replace hx130_11 := (HB.out.cell (World.block_lt_of_cell? w _ hx130_11)).trans hx130_11
         replace hx130_12 := (HB.out.cell (World.block_lt_of_cell? w _ hx130_12)).trans hx130_12
         replace hx130_13 := (HB.out.cell (World.block_lt_of_cell? w _ hx130_13)).trans hx130_13
         replace hx130_14 := (HB.out.cell (World.block_lt_of_cell? w _ hx130_14)).trans hx130_14
         replace hx130_15 := (HB.out.cell (World.block_lt_of_cell? w _ hx130_15)).trans hx130_15
         replace hx130_0 := (cell_far (p := ⟨gb129, 0, none⟩) (by first | (rw [add_block]; exact hn130_0) | (show (Addr.add _ _).block ≠ _; rw [add_block]; exact hn130_0) | exact hn130_0) (.int .i64 a0_0)).trans hx130_0
         replace hx130_1 := (cell_far (p := ⟨gb129, 0, none⟩) (by first | (rw [add_block]; exact hn130_0) | (show (Addr.add _ _).block ≠ _; rw [add_block]; exact hn130_0) | exact hn130_0) (.int .i64 a0_0)).trans hx130_1
         replace hx130_2 := (cell_far (p := ⟨gb129, 0, none⟩) (by first | (rw [add_block]; exact hn130_0) | (show (Addr.add _ _).block ≠ _; rw [add_block]; exact hn130_0) | exact hn130_0) (.int .i64 a0_0)).trans hx130_2
         replace hx130_3 := (cell_far (p := ⟨gb129, 0, none⟩) (by first | (rw [add_block]; exact hn130_0) | (show (Addr.add _ _).block ≠ _; rw [add_block]; exact hn130_0) | exact hn130_0) (.int .i64 a0_0)).trans hx130_3
         replace hx130_4 := (cell_far (p := ⟨gb129, 0, none⟩) (by first | (rw [add_block]; exact hn130_0) | (show (Addr.add _ _).block ≠ _; rw [add_block]; exact hn130_0) | exact hn130_0) (.int .i64 a0_0)).trans hx130_4
         replace hx130_5 := (cell_far (p := ⟨gb129, 0, none⟩) (by first | (rw [add_block]; exact hn130_0) | (show (Addr.add _ _).block ≠ _; rw [add_block]; exact hn130_0) | exact hn130_0) (.int .i64 a0_0)).trans hx130_5
         replace hx130_6 := (cell_far (p := ⟨gb129, 0, none⟩) (by first | (rw [add_block]; exact hn130_0) | (show (Addr.add _ _).block ≠ _; rw [add_block]; exact hn130_0) | exact hn130_0) (.int .i64 a0_0)).trans hx130_6
         replace hx130_7 := (cell_far (p := ⟨gb129, 0, none⟩) (by first | (rw [add_block]; exact hn130_0) | (show (Addr.add _ _).block ≠ _; rw [add_block]; exact hn130_0) | exact hn130_0) (.int .i64 a0_0)).trans hx130_7
         replace hx130_8 := (cell_far (p := ⟨gb129, 0, none⟩) (by first | (rw [add_block]; exact hn130_0) | (show (Addr.add _ _).block ≠ _; rw [add_block]; exact hn130_0) | exact hn130_0) (.int .i64 a0_0)).trans hx130_8
         replace hx130_9 := (cell_far (p := ⟨gb129, 0, none⟩) (by first | (rw [add_block]; exact hn130_0) | (show (Addr.add _ _).block ≠ _; rw [add_block]; exact hn130_0) | exact hn130_0) (.int .i64 a0_0)).trans hx130_9
         replace hx130_10 := (cell_far (p := ⟨gb129, 0, none⟩) (by first | (rw [add_block]; exact hn130_0) | (show (Addr.add _ _).block ≠ _; rw [add_block]; exact hn130_0) | exact hn130_0) (.int .i64 a0_0)).trans hx130_10
         replace hx130_11 := (cell_far (p := ⟨gb129, 0, none⟩) (by first | (rw [add_block]; exact hn130_0) | (show (Addr.add _ _).block ≠ _; rw [add_block]; exact hn130_0) | exact hn130_0) (.int .i64 a0_0)).trans hx130_11
         replace hx130_12 := (cell_far (p := ⟨gb129, 0, none⟩) (by first | (rw [add_block]; exact hn130_0) | (show (Addr.add _ _).block ≠ _; rw [add_block]; exact hn130_0) | exact hn130_0) (.int .i64 a0_0)).trans hx130_12
         replace hx130_13 := (cell_far (p := ⟨gb129, 0, none⟩) (by first | (rw [add_block]; exact hn130_0) | (show (Addr.add _ _).block ≠ _; rw [add_block]; exact hn130_0) | exact hn130_0) (.int .i64 a0_0)).trans hx130_13
         replace hx130_14 := (cell_far (p := ⟨gb129, 0, none⟩) (by first | (rw [add_block]; exact hn130_0) | (show (Addr.add _ _).block ≠ _; rw [add_block]; exact hn130_0) | exact hn130_0) (.int .i64 a0_0)).trans hx130_14
         replace hx130_15 := (cell_far (p := ⟨gb129, 0, none⟩) (by first | (rw [add_block]; exact hn130_0) | (show (Addr.add _ _).block ≠ _; rw [add_block]; exact hn130_0) | exact hn130_0) (.int .i64 a0_0)).trans hx130_15
         replace hx130_0 := (cell_far (p := ⟨gb129, 1, none⟩) (by first | (rw [add_block]; exact hn130_1) | (show (Addr.add _ _).block ≠ _; rw [add_block]; exact hn130_1) | exact hn130_1) (.slice Ao45 t126.length co45)).trans hx130_0
         replace hx130_1 := (cell_far (p := ⟨gb129, 1, none⟩) (by first | (rw [add_block]; exact hn130_1) | (show (Addr.add _ _).block ≠ _; rw [add_block]; exact hn130_1) | exact hn130_1) (.slice Ao45 t126.length co45)).trans hx130_1
         replace hx130_2 := (cell_far (p := ⟨gb129, 1, none⟩) (by first | (rw [add_block]; exact hn130_1) | (show (Addr.add _ _).block ≠ _; rw [add_block]; exact hn130_1) | exact hn130_1) (.slice Ao45 t126.length co45)).trans hx130_2
         replace hx130_3 := (cell_far (p := ⟨gb129, 1, none⟩) (by first | (rw [add_block]; exact hn130_1) | (show (Addr.add _ _).block ≠ _; rw [add_block]; exact hn130_1) | exact hn130_1) (.slice Ao45 t126.length co45)).trans hx130_3
         replace hx130_4 := (cell_far (p := ⟨gb129, 1, none⟩) (by first | (rw [add_block]; exact hn130_1) | (show (Addr.add _ _).block ≠ _; rw [add_block]; exact hn130_1) | exact hn130_1) (.slice Ao45 t126.length co45)).trans hx130_4
         replace hx130_5 := (cell_far (p := ⟨gb129, 1, none⟩) (by first | (rw [add_block]; exact hn130_1) | (show (Addr.add _ _).block ≠ _; rw [add_block]; exact hn130_1) | exact hn130_1) (.slice Ao45 t126.length co45)).trans hx130_5
         replace hx130_6 := (cell_far (p := ⟨gb129, 1, none⟩) (by first | (rw [add_block]; exact hn130_1) | (show (Addr.add _ _).block ≠ _; rw [add_block]; exact hn130_1) | exact hn130_1) (.slice Ao45 t126.length co45)).trans hx130_6
         replace hx130_7 := (cell_far (p := ⟨gb129, 1, none⟩) (by first | (rw [add_block]; exact hn130_1) | (show (Addr.add _ _).block ≠ _; rw [add_block]; exact hn130_1) | exact hn130_1) (.slice Ao45 t126.length co45)).trans hx130_7
         replace hx130_8 := (cell_far (p := ⟨gb129, 1, none⟩) (by first | (rw [add_block]; exact hn130_1) | (show (Addr.add _ _).block ≠ _; rw [add_block]; exact hn130_1) | exact hn130_1) (.slice Ao45 t126.length co45)).trans hx130_8
         replace hx130_9 := (cell_far (p := ⟨gb129, 1, none⟩) (by first | (rw [add_block]; exact hn130_1) | (show (Addr.add _ _).block ≠ _; rw [add_block]; exact hn130_1) | exact hn130_1) (.slice Ao45 t126.length co45)).trans hx130_9
         replace hx130_10 := (cell_far (p := ⟨gb129, 1, none⟩) (by first | (rw [add_block]; exact hn130_1) | (show (Addr.add _ _).block ≠ _; rw [add_block]; exact hn130_1) | exact hn130_1) (.slice Ao45 t126.length co45)).trans hx130_10
         replace hx130_11 := (cell_far (p := ⟨gb129, 1, none⟩) (by first | (rw [add_block]; exact hn130_1) | (show (Addr.add _ _).block ≠ _; rw [add_block]; exact hn130_1) | exact hn130_1) (.slice Ao45 t126.length co45)).trans hx130_11
         replace hx130_12 := (cell_far (p := ⟨gb129, 1, none⟩) (by first | (rw [add_block]; exact hn130_1) | (show (Addr.add _ _).block ≠ _; rw [add_block]; exact hn130_1) | exact hn130_1) (.slice Ao45 t126.length co45)).trans hx130_12
         replace hx130_13 := (cell_far (p := ⟨gb129, 1, none⟩) (by first | (rw [add_block]; exact hn130_1) | (show (Addr.add _ _).block ≠ _; rw [add_block]; exact hn130_1) | exact hn130_1) (.slice Ao45 t126.length co45)).trans hx130_13
         replace hx130_14 := (cell_far (p := ⟨gb129, 1, none⟩) (by first | (rw [add_block]; exact hn130_1) | (show (Addr.add _ _).block ≠ _; rw [add_block]; exact hn130_1) | exact hn130_1) (.slice Ao45 t126.length co45)).trans hx130_14
         replace hx130_15 := (cell_far (p := ⟨gb129, 1, none⟩) (by first | (rw [add_block]; exact hn130_1) | (show (Addr.add _ _).block ≠ _; rw [add_block]; exact hn130_1) | exact hn130_1) (.slice Ao45 t126.length co45)).trans hx130_15
         clear hn130_0
         clear hn130_1
         replace p130 := eq_true p130
         replace q130 := eq_true q130
         have p131 : 0 ≤ ((Go.bits .xor .i64 t123 1) : Int) := of_decide_eq_true (by first | (with_reducible assumption) | assumption)
         have q131 : (Go.bits .xor .i64 t123 1) < (l0_1.length : Int) := of_decide_eq_true (by first | (with_reducible assumption) | assumption)
         obtain ⟨ad131, e131, hx131_0, hx131_1, hx131_2, hx131_3, hx131_4, hx131_5, hx131_6, hx131_7, hx131_8, hx131_9, hx131_10, hx131_11, hx131_12, hx131_13, hx131_14, hx131_15⟩ := at_T42 HR0_1.out (Go.bits .xor .i64 t123 1) p131 q131
         obtain rfl : ad130 = ad131 := (by injection e131)
         have hn131_0 : ad130.block ≠ gb129 := Nat.ne_of_lt (Nat.lt_of_lt_of_le (by have := World.block_lt_of_cell? _ _ hx131_0; first | rwa [add_block] at this | exact this) GW129.out)
         have hn131_1 : ad130.block ≠ gb129 := Nat.ne_of_lt (Nat.lt_of_lt_of_le (by have := World.block_lt_of_cell? _ _ hx131_0; first | rwa [add_block] at this | exact this) GW129.out)
         replace hx131_0 := (HB.out.cell (World.block_lt_of_cell? w _ hx131_0)).trans hx131_0
         replace hx131_1 := (HB.out.cell (World.block_lt_of_cell? w _ hx131_1)).trans hx131_1
         replace hx131_2 := (HB.out.cell (World.block_lt_of_cell? w _ hx131_2)).trans hx131_2
         replace hx131_3 := (HB.out.cell (World.block_lt_of_cell? w _ hx131_3)).trans hx131_3
         replace hx131_4 := (HB.out.cell (World.block_lt_of_cell? w _ hx131_4)).trans hx131_4
         replace hx131_5 := (HB.out.cell (World.block_lt_of_cell? w _ hx131_5)).trans hx131_5
         replace hx131_6 := (HB.out.cell (World.block_lt_of_cell? w _ hx131_6)).trans hx131_6
         replace hx131_7 := (HB.out.cell (World.block_lt_of_cell? w _ hx131_7)).trans hx131_7
         replace hx131_8 := (HB.out.cell (World.block_lt_of_cell? w _ hx131_8)).trans hx131_8
         replace hx131_9 := (HB.out.cell (World.block_lt_of_cell? w _ hx131_9)).trans hx131_9
         replace hx131_10 := (HB.out.cell (World.block_lt_of_cell? w _ hx131_10)).trans hx131_10
         replace hx131_11 := (HB.out.cell (World.block_lt_of_cell? w _ hx131_11)).trans hx131_11
         replace hx131_12 := (HB.out.cell (World.block_lt_of_cell? w _ hx131_12)).trans hx131_12
         replace hx131_13 := (HB.out.cell (World.block_lt_of_cell? w _ hx131_13)).trans hx131_13
         replace hx131_14 := (HB.out.cell (World.block_lt_of_cell? w _ hx131_14)).trans hx131_14
         replace hx131_15 := (HB.out.cell (World.block_lt_of_cell? w _ hx131_15)).trans hx131_15
         replace hx131_0 := (cell_far (p := ⟨gb129, 0, none⟩) (by first | (rw [add_block]; exact hn131_0) | (show (Addr.add _ _).block ≠ _; rw [add_block]; exact hn131_0) | exact hn131_0) (.int .i64 a0_0)).trans hx131_0
         replace hx131_1 := (cell_far (p := ⟨gb129, 0, none⟩) (by first | (rw [add_block]; exact hn131_0) | (show (Addr.add _ _).block ≠ _; rw [add_block]; exact hn131_0) | exact hn131_0) (.int .i64 a0_0)).trans hx131_1
         replace hx131_2 := (cell_far (p := ⟨gb129, 0, none⟩) (by first | (rw [add_block]; exact hn131_0) | (show (Addr.add _ _).block ≠ _; rw [add_block]; exact hn131_0) | exact hn131_0) (.int .i64 a0_0)).trans hx131_2
         replace hx131_3 := (cell_far (p := ⟨gb129, 0, none⟩) (by first | (rw [add_block]; exact hn131_0) | (show (Addr.add _ _).block ≠ _; rw [add_block]; exact hn131_0) | exact hn131_0) (.int .i64 a0_0)).trans hx131_3
         replace hx131_4 := (cell_far (p := ⟨gb129, 0, none⟩) (by first | (rw [add_block]; exact hn131_0) | (show (Addr.add _ _).block ≠ _; rw [add_block]; exact hn131_0) | exact hn131_0) (.int .i64 a0_0)).trans hx131_4
         replace hx131_5 := (cell_far (p := ⟨gb129, 0, none⟩) (by first | (rw [add_block]; exact hn131_0) | (show (Addr.add _ _).block ≠ _; rw [add_block]; exact hn131_0) | exact hn131_0) (.int .i64 a0_0)).trans hx131_5
         replace hx131_6 := (cell_far (p := ⟨gb129, 0, none⟩) (by first | (rw [add_block]; exact hn131_0) | (show (Addr.add _ _).block ≠ _; rw [add_block]; exact hn131_0) | exact hn131_0) (.int .i64 a0_0)).trans hx131_6
         replace hx131_7 := (cell_far (p := ⟨gb129, 0, none⟩) (by first | (rw [add_block]; exact hn131_0) | (show (Addr.add _ _).block ≠ _; rw [add_block]; exact hn131_0) | exact hn131_0) (.int .i64 a0_0)).trans hx131_7
         replace hx131_8 := (cell_far (p := ⟨gb129, 0, none⟩) (by first | (rw [add_block]; exact hn131_0) | (show (Addr.add _ _).block ≠ _; rw [add_block]; exact hn131_0) | exact hn131_0) (.int .i64 a0_0)).trans hx131_8
         replace hx131_9 := (cell_far (p := ⟨gb129, 0, none⟩) (by first | (rw [add_block]; exact hn131_0) | (show (Addr.add _ _).block ≠ _; rw [add_block]; exact hn131_0) | exact hn131_0) (.int .i64 a0_0)).trans hx131_9
         replace hx131_10 := (cell_far (p := ⟨gb129, 0, none⟩) (by first | (rw [add_block]; exact hn131_0) | (show (Addr.add _ _).block ≠ _; rw [add_block]; exact hn131_0) | exact hn131_0) (.int .i64 a0_0)).trans hx131_10
         replace hx131_11 := (cell_far (p := ⟨gb129, 0, none⟩) (by first | (rw [add_block]; exact hn131_0) | (show (Addr.add _ _).block ≠ _; rw [add_block]; exact hn131_0) | exact hn131_0) (.int .i64 a0_0)).trans hx131_11
         replace hx131_12 := (cell_far (p := ⟨gb129, 0, none⟩) (by first | (rw [add_block]; exact hn131_0) | (show (Addr.add _ _).block ≠ _; rw [add_block]; exact hn131_0) | exact hn131_0) (.int .i64 a0_0)).trans hx131_12
         replace hx131_13 := (cell_far (p := ⟨gb129, 0, none⟩) (by first | (rw [add_block]; exact hn131_0) | (show (Addr.add _ _).block ≠ _; rw [add_block]; exact hn131_0) | exact hn131_0) (.int .i64 a0_0)).trans hx131_13
         replace hx131_14 := (cell_far (p := ⟨gb129, 0, none⟩) (by first | (rw [add_block]; exact hn131_0) | (show (Addr.add _ _).block ≠ _; rw [add_block]; exact hn131_0) | exact hn131_0) (.int .i64 a0_0)).trans hx131_14
         replace hx131_15 := (cell_far (p := ⟨gb129, 0, none⟩) (by first | (rw [add_block]; exact hn131_0) | (show (Addr.add _ _).block ≠ _; rw [add_block]; exact hn131_0) | exact hn131_0) (.int .i64 a0_0)).trans hx131_15
         replace hx131_0 := (cell_far (p := ⟨gb129, 1, none⟩) (by first | (rw [add_block]; exact hn131_1) | (show (Addr.add _ _).block ≠ _; rw [add_block]; exact hn131_1) | exact hn131_1) (.slice Ao45 t126.length co45)).trans hx131_0
         replace hx131_1 := (cell_far (p := ⟨gb129, 1, none⟩) (by first | (rw [add_block]; exact hn131_1) | (show (Addr.add _ _).block ≠ _; rw [add_block]; exact hn131_1) | exact hn131_1) (.slice Ao45 t126.length co45)).trans hx131_1
         replace hx131_2 := (cell_far (p := ⟨gb129, 1, none⟩) (by first | (rw [add_block]; exact hn131_1) | (show (Addr.add _ _).block ≠ _; rw [add_block]; exact hn131_1) | exact hn131_1) (.slice Ao45 t126.length co45)).trans hx131_2
         replace hx131_3 := (cell_far (p := ⟨gb129, 1, none⟩) (by first | (rw [add_block]; exact hn131_1) | (show (Addr.add _ _).block ≠ _; rw [add_block]; exact hn131_1) | exact hn131_1) (.slice Ao45 t126.length co45)).trans hx131_3
         replace hx131_4 := (cell_far (p := ⟨gb129, 1, none⟩) (by first | (rw [add_block]; exact hn131_1) | (show (Addr.add _ _).block ≠ _; rw [add_block]; exact hn131_1) | exact hn131_1) (.slice Ao45 t126.length co45)).trans hx131_4
         replace hx131_5 := (cell_far (p := ⟨gb129, 1, none⟩) (by first | (rw [add_block]; exact hn131_1) | (show (Addr.add _ _).block ≠ _; rw [add_block]; exact hn131_1) | exact hn131_1) (.slice Ao45 t126.length co45)).trans hx131_5
         replace hx131_6 := (cell_far (p := ⟨gb129, 1, none⟩) (by first | (rw [add_block]; exact hn131_1) | (show (Addr.add _ _).block ≠ _; rw [add_block]; exact hn131_1) | exact hn131_1) (.slice Ao45 t126.length co45)).trans hx131_6
         replace hx131_7 := (cell_far (p := ⟨gb129, 1, none⟩) (by first | (rw [add_block]; exact hn131_1) | (show (Addr.add _ _).block ≠ _; rw [add_block]; exact hn131_1) | exact hn131_1) (.slice Ao45 t126.length co45)).trans hx131_7
         replace hx131_8 := (cell_far (p := ⟨gb129, 1, none⟩) (by first | (rw [add_block]; exact hn131_1) | (show (Addr.add _ _).block ≠ _; rw [add_block]; exact hn131_1) | exact hn131_1) (.slice Ao45 t126.length co45)).trans hx131_8
         replace hx131_9 := (cell_far (p := ⟨gb129, 1, none⟩) (by first | (rw [add_block]; exact hn131_1) | (show (Addr.add _ _).block ≠ _; rw [add_block]; exact hn131_1) | exact hn131_1) (.slice Ao45 t126.length co45)).trans hx131_9
         replace hx131_10 := (cell_far (p := ⟨gb129, 1, none⟩) (by first | (rw [add_block]; exact hn131_1) | (show (Addr.add _ _).block ≠ _; rw [add_block]; exact hn131_1) | exact hn131_1) (.slice Ao45 t126.length co45)).trans hx131_10
         replace hx131_11 := (cell_far (p := ⟨gb129, 1, none⟩) (by first | (rw [add_block]; exact hn131_1) | (show (Addr.add _ _).block ≠ _; rw [add_block]; exact hn131_1) | exact hn131_1) (.slice Ao45 t126.length co45)).trans hx131_11
         replace hx131_12 := (cell_far (p := ⟨gb129, 1, none⟩) (by first | (rw [add_block]; exact hn131_1) | (show (Addr.add _ _).block ≠ _; rw [add_block]; exact hn131_1) | exact hn131_1) (.slice Ao45 t126.length co45)).trans hx131_12
         replace hx131_13 := (cell_far (p := ⟨gb129, 1, none⟩) (by first | (rw [add_block]; exact hn131_1) | (show (Addr.add _ _).block ≠ _; rw [add_block]; exact hn131_1) | exact hn131_1) (.slice Ao45 t126.length co45)).trans hx131_13
         replace hx131_14 := (cell_far (p := ⟨gb129, 1, none⟩) (by first | (rw [add_block]; exact hn131_1) | (show (Addr.add _ _).block ≠ _; rw [add_block]; exact hn131_1) | exact hn131_1) (.slice Ao45 t126.length co45)).trans hx131_14
         replace hx131_15 := (cell_far (p := ⟨gb129, 1, none⟩) (by first | (rw [add_block]; exact hn131_1) | (show (Addr.add _ _).block ≠ _; rw [add_block]; exact hn131_1) | exact hn131_1) (.slice Ao45 t126.length co45)).trans hx131_15
         clear hn131_0
         clear hn131_1
         replace p131 := eq_true p131
         replace q131 := eq_true q131
         have hnb50 := NB129_121.out
         have hnc50 := NB121_129.out
         have hcz51_0 : w44.cell? ⟨gb129, 0, none⟩ = some (.int .i64 0) := (blk_cell BK129.out 0).trans rfl
         have hcz51_1 : w44.cell? ⟨gb129, 1, none⟩ = some (.slice none 0 0) := (blk_cell BK129.out 1).trans rfl
         have hfz51_0 := blk_frozen BK129.out 0
         have hfz51_1 := blk_frozen BK129.out 1
         have hcz52_0 : w44.cell? ⟨gb121, 0, none⟩ = some (.int .i64 0) := (blk_cell BK121.out 0).trans rfl
         have hcz52_1 : w44.cell? ⟨gb121, 1, none⟩ = some (.slice none 0 0) := (blk_cell BK121.out 1).trans rfl
         have hfz52_0 := blk_frozen BK121.out 0
         have hfz52_1 := blk_frozen BK121.out 1
         try go_wp2
         refine bodyPost_ret (results_ctt rfl _ _ gb121 24 #[.int .i64 a0_0, .slice Ao45 t126.length co45] (0, 0) _ rfl (by (with_reducible repeat (first | refine blk_drewN ?_ _ | refine blk_drew ?_ | refine blk_alloc ?_ _)); refine blk_put (cs := #[.int .i64 a0_0, .slice none 0 0]) ?_ 1 _ rfl; (with_reducible repeat (first | refine blk_drewN ?_ _ | refine blk_drew ?_ | refine blk_alloc ?_ _)); refine blk_put (cs := #[.int .i64 0, .slice none 0 0]) ?_ 0 _ rfl; (with_reducible repeat (first | refine blk_drewN ?_ _ | refine blk_drew ?_ | refine blk_alloc ?_ _)); refine blk_far ?_ NB121_129.out _; (with_reducible repeat (first | refine blk_drewN ?_ _ | refine blk_drew ?_ | refine blk_alloc ?_ _)); refine blk_far ?_ NB121_129.out _; (with_reducible repeat (first | refine blk_drewN ?_ _ | refine blk_drew ?_ | refine blk_alloc ?_ _)); exact BK121.out) Try.underlying24 rfl (by kernel_rfl)) rfl ?_
         exact ⟨_, by first | rfl | (simp [errW_none, errW_some] <;> rfl) | (simp [*, errW_none, errW_some] <;> rfl), by (with_reducible repeat (first | apply Kd.R_alloc | apply Kd.R_drewN | apply Kd.R_drew)); exact Kd.R_mono (Kd.R_far (p := ⟨gb121, 1, none⟩) (Kd.R_far (p := ⟨gb121, 0, none⟩) (Kd.R_far (p := ⟨gb129, 1, none⟩) (Kd.R_far (p := ⟨gb129, 0, none⟩) (Kd.R_types (Kd.R_types HO128.out BK129.out (by decide)) BK121.out (by decide)) (fun _ hk => hk.1.2) (.int .i64 a0_0)) (fun _ hk => hk.1.2) (.slice Ao45 t126.length co45)) (fun _ hk => hk.2) (.int .i64 a0_0)) (fun _ hk => hk.2) (.slice Ao45 t126.length co45)) (fun _ hk => trivial), by repeat (first | (with_reducible first | exact HB.out | apply below_alloc | apply bN_ | apply below_drew1 | refine below_set ?_ GE120.out | refine below_set ?_ GE121.out | refine below_set ?_ GE129.out) | exact HB.out)⟩
        ·
         rw [if_neg c33] at H
         have c33b0 : (((rd_T42 l0_1 (Go.bits .xor .i64 t123 1)).f0) == t125) = false := beq_eq_false_iff_ne.mpr c33
         have c33b1 : (((rd_T42 l0_1 (Go.bits .xor .i64 t123 1)).f0) != t125) = true := bne_iff_ne.mpr c33
         replace H := Option.bind_eq_some_iff.mp H
         obtain ⟨t133, A530, H⟩ := H
         replace H : ((slots_priority.f ((rd_T42 l0_1 t123).f0) ((rd_T42 l0_1 t123).f1.f0) ((rd_T42 l0_1 t123).f1.f1) ((rd_T42 l0_1 t123).f1.f2) ((rd_T42 l0_1 t123).f1.f3) ((rd_T42 l0_1 t123).f1.f4) ((rd_T42 l0_1 t123).f1.f5) ((rd_T42 l0_1 t123).f1.f6) ((rd_T42 l0_1 t123).f1.f7) ((rd_T42 l0_1 t123).f1.f8) ((rd_T42 l0_1 t123).f1.f9) ((rd_T42 l0_1 t123).f1.f10) ((rd_T42 l0_1 t123).f1.f11) ((rd_T42 l0_1 t123).f1.f12) ((rd_T42 l0_1 t123).f1.f13) ((rd_T42 l0_1 t123).f1.f14)).bind fun t135 => (if t133 < t135 then (slots_Find.j0 k (Go.bits .xor .i64 t123 1) t125 a0_0 t126) else (slots_Find.j0 k t123 t125 a0_0 t126))) = some (r1, r2, r3, r4) := H
         have A53 := Aside0.mk A530
         clear A530
         replace H := Option.bind_eq_some_iff.mp H
         obtain ⟨t135, A540, H⟩ := H
         replace H : (if t133 < t135 then (slots_Find.j0 k (Go.bits .xor .i64 t123 1) t125 a0_0 t126) else (slots_Find.j0 k t123 t125 a0_0 t126)) = some (r1, r2, r3, r4) := H
         have A54 := Aside0.mk A540
         clear A540
         have HC55 := Aside0.mk H
         clear H
         go_enter Try.func13, Try.ntmps13
         try go_wp2_with (first | ((with_reducible refine gate_dst (N := 2) rfl ?_); refine box_event ?hg (N := 2) ?hd (cs := #[.int .i64 a0_0, .slice A0_1 l0_1.length c0_1]) (t := 24) ?hr ?_; (case hd => rfl); (case hg => rfl); (case hr => first | (go_simp; done) | (go_simp; rfl)); intro gb120 hg w56 hbox hb; have n0_ := Aside0.mk (below_step (by repeat (first | (with_reducible first | exact HB.out | apply below_alloc | apply bN_ | apply below_drew1) | exact HB.out)) hb); have n1_ := Aside0.mk (hbox); have n2_ := Aside0.mk ((by rw [hg]; exact (below_size (by repeat (first | (with_reducible first | exact HB.out | apply below_alloc | apply bN_ | apply below_drew1) | exact HB.out))) : w.heap.size ≤ gb120)); have n3_ := Aside0.mk ((by rw [hg]; exact (below_size (by repeat (first | (with_reducible first | exact HB.out | apply below_alloc | apply bN_ | apply below_drew1) | exact HB.out))) : w.heap.size ≤ gb120)); clear HB; have HB := n0_; have BK120 := n1_; have GW120 := n2_; have GE120 := n3_; clear n0_ n1_ n2_ n3_; clear hb hbox hg) | ((with_reducible refine gate_dst (N := 4) rfl ?_); refine box_event ?hg (N := 4) ?hd (cs := #[.int .i64 0, .slice none 0 0]) (t := 24) ?hr ?_; (case hd => rfl); (case hg => rfl); (case hr => first | (go_simp; done) | (go_simp; rfl)); intro gb121 hg w57 hbox hb; have n0_ := Aside0.mk (blk_below (g := gb120) (o := .cells #[.int .i64 a0_0, .slice A0_1 l0_1.length c0_1] 24 (0, 0)) (by (with_reducible repeat (first | refine blk_drewN ?_ _ | refine blk_drew ?_ | refine blk_alloc ?_ _)); exact BK120.out) hb); have n1_ := Aside0.mk (below_step (by repeat (first | (with_reducible first | exact HB.out | apply below_alloc | apply bN_ | apply below_drew1 | refine below_set ?_ GE120.out) | exact HB.out)) hb); have n2_ := Aside0.mk (hbox); have n3_ := Aside0.mk ((by rw [hg]; exact (below_size (by repeat (first | (with_reducible first | exact HB.out | apply below_alloc | apply bN_ | apply below_drew1 | refine below_set ?_ GE120.out) | exact HB.out))) : w.heap.size ≤ gb121)); have n4_ := Aside0.mk ((by rw [hg]; exact (below_size (by repeat (first | (with_reducible first | exact HB.out | apply below_alloc | apply bN_ | apply below_drew1 | refine below_set ?_ GE120.out) | exact HB.out))) : w.heap.size ≤ gb121)); have n5_ := Aside0.mk ((by rw [hg]; exact Nat.ne_of_lt (blk_lt (g := gb120) (o := .cells #[.int .i64 a0_0, .slice A0_1 l0_1.length c0_1] 24 (0, 0)) (by (with_reducible repeat (first | refine blk_drewN ?_ _ | refine blk_drew ?_ | refine blk_alloc ?_ _)); exact BK120.out)) : gb120 ≠ gb121)); have n6_ := Aside0.mk ((by rw [hg]; exact Nat.ne_of_gt (blk_lt (g := gb120) (o := .cells #[.int .i64 a0_0, .slice A0_1 l0_1.length c0_1] 24 (0, 0)) (by (with_reducible repeat (first | refine blk_drewN ?_ _ | refine blk_drew ?_ | refine blk_alloc ?_ _)); exact BK120.out)) : gb121 ≠ gb120)); clear BK120; clear HB; have BK120 := n0_; have HB := n1_; have BK121 := n2_; have GW121 := n3_; have GE121 := n4_; have NB120_121 := n5_; have NB121_120 := n6_; clear n0_ n1_ n2_ n3_ n4_ n5_ n6_; clear hb hbox hg; have hnb58 := NB120_121.out; have hnc58 := NB121_120.out; have hcz59_0 : w57.cell? ⟨gb120, 0, none⟩ = some (.int .i64 a0_0) := (blk_cell BK120.out 0).trans rfl; have hcz59_1 : w57.cell? ⟨gb120, 1, none⟩ = some (.slice A0_1 l0_1.length c0_1) := (blk_cell BK120.out 1).trans rfl; have hfz59_0 := blk_frozen BK120.out 0; have hfz59_1 := blk_frozen BK120.out 1) | ((with_reducible refine gate_callee (f := 16) rfl ?_); refine gL_ (some 14) Try.func16 #[.agg #[.int .i64 a0_0, .slice A0_1 l0_1.length c0_1]] ?_; (with_reducible refine (slots_Check.calls k a0_0 _ _ l0_1 t122 _ ?side1 ?side2 A3.out).mono ?_); (case side1 => repeat (first | exact (Kd.C_below HR0_1.out HB.out) | (with_reducible refine Kd.C_alloc ?_ _) | (with_reducible refine Kd.C_drewN ?_ _) | (with_reducible refine Kd.C_drew ?_))); (case side2 => exact HC0_1.out); rintro e w60 ⟨rfl, hb⟩; refine ⟨_, rfl, ?_⟩; have n0_ := Aside0.mk (blk_below (g := gb120) (o := .cells #[.int .i64 a0_0, .slice A0_1 l0_1.length c0_1] 24 (0, 0)) (by (with_reducible repeat (first | refine blk_drewN ?_ _ | refine blk_drew ?_ | refine blk_alloc ?_ _)); exact BK120.out) hb); have n1_ := Aside0.mk (blk_below (g := gb121) (o := .cells #[.int .i64 0, .slice none 0 0] 24 (0, 0)) (by (with_reducible repeat (first | refine blk_drewN ?_ _ | refine blk_drew ?_ | refine blk_alloc ?_ _)); exact BK121.out) hb); have n2_ := Aside0.mk (below_step (by repeat (first | (with_reducible first | exact HB.out | apply below_alloc | apply bN_ | apply below_drew1 | refine below_set ?_ GE120.out | refine below_set ?_ GE121.out) | exact HB.out)) hb); clear BK120; clear BK121; clear HB; have BK120 := n0_; have BK121 := n1_; have HB := n2_; clear n0_ n1_ n2_; (try clear hb); have hcz61_0 : w60.cell? ⟨gb120, 0, none⟩ = some (.int .i64 a0_0) := (blk_cell BK120.out 0).trans rfl; have hcz61_1 : w60.cell? ⟨gb120, 1, none⟩ = some (.slice A0_1 l0_1.length c0_1) := (blk_cell BK120.out 1).trans rfl; have hfz61_0 := blk_frozen BK120.out 0; have hfz61_1 := blk_frozen BK120.out 1) | ((with_reducible refine gate_callee (f := 26) rfl ?_); refine gL_ (some 24) Try.func26 #[.int .u32 a1, .int .i64 (l0_1.length : Int)] ?_; (with_reducible refine (hashes_Place.calls a1 (l0_1.length : Int) t123 t124 _ A5.out).mono ?_); rintro e w' ⟨rfl, ⟨nd, rfl⟩⟩; refine ⟨_, rfl, ?_⟩; (try (rw [drewN_self w60]; generalize hq_ : World.drewN w60 _ = w60; have n0_ : Aside0 (w60.heap[gb120]? = some (.cells #[.int .i64 a0_0, .slice A0_1 l0_1.length c0_1] 24 (0, 0))) := ⟨by rw [← hq_]; exact (by (with_reducible repeat (first | refine blk_drewN ?_ _ | refine blk_drew ?_ | refine blk_alloc ?_ _)); exact BK120.out)⟩; have n1_ : Aside0 (w60.heap[gb121]? = some (.cells #[.int .i64 0, .slice none 0 0] 24 (0, 0))) := ⟨by rw [← hq_]; exact (by (with_reducible repeat (first | refine blk_drewN ?_ _ | refine blk_drew ?_ | refine blk_alloc ?_ _)); exact BK121.out)⟩; have n2_ : Aside0 (Below w.heap.size w w60) := ⟨by rw [← hq_]; exact (by repeat (first | (with_reducible first | exact HB.out | apply below_alloc | apply bN_ | apply below_drew1 | refine below_set ?_ GE120.out | refine below_set ?_ GE121.out) | exact HB.out))⟩; clear BK120 BK121 HB hq_; have BK120 := n0_; have BK121 := n1_; have HB := n2_; clear n0_ n1_ n2_))) | ((with_reducible refine gate_callee (f := 27) rfl ?_); refine gL_ (some 34) Try.func27 #[.int .u32 a1] ?_; (with_reducible refine (hashes_Check.calls a1 t125 _ A7.out).mono ?_); rintro e w' ⟨rfl, ⟨nd, rfl⟩⟩; refine ⟨_, rfl, ?_⟩; (try (rw [drewN_self w60]; generalize hq_ : World.drewN w60 _ = w60; have n0_ : Aside0 (w60.heap[gb120]? = some (.cells #[.int .i64 a0_0, .slice A0_1 l0_1.length c0_1] 24 (0, 0))) := ⟨by rw [← hq_]; exact (by (with_reducible repeat (first | refine blk_drewN ?_ _ | refine blk_drew ?_ | refine blk_alloc ?_ _)); exact BK120.out)⟩; have n1_ : Aside0 (w60.heap[gb121]? = some (.cells #[.int .i64 0, .slice none 0 0] 24 (0, 0))) := ⟨by rw [← hq_]; exact (by (with_reducible repeat (first | refine blk_drewN ?_ _ | refine blk_drew ?_ | refine blk_alloc ?_ _)); exact BK121.out)⟩; have n2_ : Aside0 (Below w.heap.size w w60) := ⟨by rw [← hq_]; exact (by repeat (first | (with_reducible first | exact HB.out | apply below_alloc | apply bN_ | apply below_drew1 | refine below_set ?_ GE120.out | refine below_set ?_ GE121.out) | exact HB.out))⟩; clear BK120 BK121 HB hq_; have BK120 := n0_; have BK121 := n1_; have HB := n2_; clear n0_ n1_ n2_))))
         have n0_ := Aside0.mk (blk_drew BK120.out)
         have n1_ := Aside0.mk (blk_drew BK121.out)
         have n2_ := Aside0.mk (below_drew1 HB.out)
         clear BK120
         clear BK121
         clear HB
         have BK120 := n0_
         have BK121 := n1_
         have HB := n2_
         clear n0_ n1_ n2_
         refine start_ (n := 8) (S := fun w' => w'.cell? ⟨gb120, 0, none⟩ = some (.int .i64 a0_0) ∧ w'.cell? ⟨gb120, 1, none⟩ = some (.slice A0_1 l0_1.length c0_1)) (ds := []) #[false, false, false, false, false, false, false, false] (by kernel_rfl) rfl rfl ⟨(blk_cell BK120.out 0).trans rfl, (blk_cell BK120.out 1).trans rfl⟩ (fun hHeld => ?_); refine with_tabW slots_Find.tab8 slots_Find.bits8 (fun HT_ HW_ => ?_)
         generalize w60.drew = w62 at BK120 BK121 HB hHeld ⊢
         refine pure_ (i := 0) (N := some 35) (v := ?_) (a' := ?_) #[true, false, false, false, false, false, false, false] rfl rfl (any_of HT_.out (by kernel_rfl)) (fun _ _ _ h => h) (Or.inl ⟨by rfl, ?_⟩) ?_ ?_
         rotate_left
         ·
          intro w'
          go_simp
          with_reducible rfl
         rotate_left
         ·
          simp only [Act.put, setIfInBounds_toArray, set_cons_zero, set_cons_succ, i64_w, i32_w]
          rfl
         refine pure_ (i := 2) (N := some 37) (v := ?_) (a' := ?_) #[true, false, true, false, false, false, false, false] rfl rfl (any_of HT_.out (by kernel_rfl)) (fun _ _ _ h => h) (Or.inl ⟨by rfl, ?_⟩) ?_ ?_
         rotate_left
         ·
          intro w'
          go_simp
          with_reducible rfl
         rotate_left
         ·
          simp only [Act.put, setIfInBounds_toArray, set_cons_zero, set_cons_succ, i64_w, i32_w]
          rfl
         refine take_ (i := 1) (N := some 36) (v := ?_) (a' := ?_) #[true, true, true, false, false, false, false, false] rfl rfl (take_ofW HT_.out HW_.out (by kernel_rfl)) (fun _ _ _ h => h) (Or.inl ⟨by rfl, ?_⟩) hHeld ?_ ?_
         rotate_left
         ·
          rintro w' ⟨s0, s1⟩
          go_simp
          with_reducible rfl
         rotate_left
         ·
          simp only [Act.put, setIfInBounds_toArray, set_cons_zero, set_cons_succ, i64_w, i32_w]
          rfl
         refine take_ (i := 3) (N := some 38) (v := ?_) (a' := ?_) #[true, true, true, true, false, false, false, false] rfl rfl (take_ofW HT_.out HW_.out (by kernel_rfl)) (fun _ _ _ h => h) (Or.inl ⟨by rfl, ?_⟩) hHeld ?_ ?_
         rotate_left
         ·
          rintro w' ⟨s0, s1⟩
          go_simp
          with_reducible rfl
         rotate_left
         ·
          simp only [Act.put, setIfInBounds_toArray, set_cons_zero, set_cons_succ, i64_w, i32_w]
          rfl
         refine join_ (σ := Value × Nat) 1 #[true, true, true, true, true, true, true, false] (fun s_ => [(39, s_.1), (12, .pointer (some ⟨s_.2, 0, none⟩)), (40, .agg #[.int .i64 a0_0, s_.1])]) (fun s_ w' => (w'.cell? ⟨gb120, 0, none⟩ = some (.int .i64 a0_0) ∧ w'.cell? ⟨gb120, 1, none⟩ = some (.slice A0_1 l0_1.length c0_1)) ∧ (Kd.R k42 42 w' w.heap.size (fun _ => True) s_.1 t126) ∧ (w'.heap[gb120]? = some (.cells #[.int .i64 a0_0, .slice A0_1 l0_1.length c0_1] 24 (0, 0))) ∧ (w'.heap[gb121]? = some (.cells #[.int .i64 0, .slice none 0 0] 24 (0, 0))) ∧ (w'.heap[s_.2]? = some (.cells #[.int .i64 0, .slice none 0 0] 24 (0, 0))) ∧ (w.heap.size ≤ s_.2) ∧ (w.heap.size ≤ s_.2) ∧ (gb120 ≠ s_.2) ∧ (s_.2 ≠ gb120) ∧ (gb121 ≠ s_.2) ∧ (s_.2 ≠ gb121) ∧ (Below w.heap.size w w')) ?_ ?_
         rotate_left
         ·
          intro hCont
          refine two_ (i := 4) (j := 6) (Ni := some 39) (Nj := some 12) #[true, true, true, true, true, false, false, false] #[true, true, true, true, false, false, true, false] rfl rfl rfl rfl (two_of HT_.out (by kernel_rfl)) (by decide) (by decide) (fun K hK => ?_) (fun K hK => ?_)
          ·
           skip
           refine goes_ Try.func36 (by kernel_rfl) rfl #[.slice A0_1 l0_1.length c0_1] (by rfl) rfl rfl (by (try simp only [List.map_toArray, List.map_cons, List.map_nil]); first | done | rfl | (simp only [List.length_drop, List.length_take]; rfl)) ?_
           with_reducible refine (slices_Clone_api_Slot_api_Slot.calls _ _ l0_1 t126 _ ?side1 ?side2 A8.out).mono ?_
           (case side1 => repeat (first | exact (Kd.C_below HR0_1.out HB.out) | (with_reducible refine Kd.C_alloc ?_ _) | (with_reducible refine Kd.C_drewN ?_ _) | (with_reducible refine Kd.C_drew ?_)))
           (case side2 => exact HC0_1.out)
           rintro e w63 ⟨v127, rfl, ho0, hb⟩
           refine ⟨_, rfl, ?_⟩
           have n0_ := Aside0.mk (Kd.R_lower ho0 (below_size (by repeat (first | (with_reducible first | exact HB.out | apply below_alloc | apply bN_ | apply below_drew1 | refine below_set ?_ GE120.out | refine below_set ?_ GE121.out) | exact HB.out))))
           have n1_ := Aside0.mk (blk_below (g := gb120) (o := .cells #[.int .i64 a0_0, .slice A0_1 l0_1.length c0_1] 24 (0, 0)) (by (with_reducible repeat (first | refine blk_drewN ?_ _ | refine blk_drew ?_ | refine blk_alloc ?_ _)); exact BK120.out) hb)
           have n2_ := Aside0.mk (blk_below (g := gb121) (o := .cells #[.int .i64 0, .slice none 0 0] 24 (0, 0)) (by (with_reducible repeat (first | refine blk_drewN ?_ _ | refine blk_drew ?_ | refine blk_alloc ?_ _)); exact BK121.out) hb)
           have n3_ := Aside0.mk (below_step (by repeat (first | (with_reducible first | exact HB.out | apply below_alloc | apply bN_ | apply below_drew1 | refine below_set ?_ GE120.out | refine below_set ?_ GE121.out) | exact HB.out)) hb)
           clear BK120
           clear BK121
           clear HB
           have HO128 := n0_
           have BK120 := n1_
           have BK121 := n2_
           have HB := n3_
           clear n0_ n1_ n2_ n3_
           (try clear hb)
           (try clear hb2)
           (try clear hk)
           (try clear hi)
           (try clear ho0)
           obtain ⟨Ao64, co64, eo64⟩ := Kd.R_slice HO128.out
           (first | subst eo64 | (injection eo64 with f1_ f2_ f3_; have f4_ := f1_.symm; have f5_ := f3_.symm; clear f1_ f2_ f3_; subst f4_; subst f5_))
           refine hK.out _ _ ⟨(blk_cell BK120.out 0).trans rfl, (blk_cell BK120.out 1).trans rfl⟩ (fun hHeld => ?_)
           clear hK K
           refine norm_ (a' := ?_) ?_ ?_
           rotate_left
           ·
            show Act.put _ (some 39) _ = _
            simp only [Act.put, setIfInBounds_toArray, set_cons_zero, set_cons_succ, i64_w, i32_w]
            rfl
           refine pure_ (i := 5) (N := some 40) (v := ?_) (a' := ?_) #[true, true, true, true, true, true, false, false] rfl rfl (any_of HT_.out (by kernel_rfl)) (fun _ _ _ h => h) (Or.inl ⟨by rfl, ?_⟩) ?_ ?_
           rotate_left
           ·
            intro w'
            go_simp
            with_reducible rfl
           rotate_left
           ·
            simp only [Act.put, setIfInBounds_toArray, set_cons_zero, set_cons_succ, i64_w, i32_w]
            rfl
           refine one_ (i := 6) (N := some 12) #[true, true, true, true, true, true, true, false] rfl rfl (one_of HT_.out (by kernel_rfl)) (by decide) (fun K hK => ?_)
           refine box_step ?hg (N := 12) ?hd (cs := #[.int .i64 0, .slice none 0 0]) (t := 24) ?hr ?_; (case hd => rfl); (case hg => rfl); (case hr => first | (go_simp; done) | (go_simp; rfl))
           intro gb129 hg w65 hbox hb
           have n0_ := Aside0.mk (Kd.R_below (by (with_reducible repeat (first | apply Kd.R_alloc | apply Kd.R_drewN | apply Kd.R_drew)); exact HO128.out) hb)
           have n1_ := Aside0.mk (blk_below (g := gb120) (o := .cells #[.int .i64 a0_0, .slice A0_1 l0_1.length c0_1] 24 (0, 0)) (by (with_reducible repeat (first | refine blk_drewN ?_ _ | refine blk_drew ?_ | refine blk_alloc ?_ _)); exact BK120.out) hb)
           have n2_ := Aside0.mk (blk_below (g := gb121) (o := .cells #[.int .i64 0, .slice none 0 0] 24 (0, 0)) (by (with_reducible repeat (first | refine blk_drewN ?_ _ | refine blk_drew ?_ | refine blk_alloc ?_ _)); exact BK121.out) hb)
           have n3_ := Aside0.mk (below_step (by repeat (first | (with_reducible first | exact HB.out | apply below_alloc | apply bN_ | apply below_drew1 | refine below_set ?_ GE120.out | refine below_set ?_ GE121.out) | exact HB.out)) hb)
           have n4_ := Aside0.mk (hbox)
           have n5_ := Aside0.mk ((by rw [hg]; exact (below_size (by repeat (first | (with_reducible first | exact HB.out | apply below_alloc | apply bN_ | apply below_drew1 | refine below_set ?_ GE120.out | refine below_set ?_ GE121.out) | exact HB.out))) : w.heap.size ≤ gb129))
           have n6_ := Aside0.mk ((by rw [hg]; exact (below_size (by repeat (first | (with_reducible first | exact HB.out | apply below_alloc | apply bN_ | apply below_drew1 | refine below_set ?_ GE120.out | refine below_set ?_ GE121.out) | exact HB.out))) : w.heap.size ≤ gb129))
           have n7_ := Aside0.mk ((by rw [hg]; exact Nat.ne_of_lt (blk_lt (g := gb120) (o := .cells #[.int .i64 a0_0, .slice A0_1 l0_1.length c0_1] 24 (0, 0)) (by (with_reducible repeat (first | refine blk_drewN ?_ _ | refine blk_drew ?_ | refine blk_alloc ?_ _)); exact BK120.out)) : gb120 ≠ gb129))
           have n8_ := Aside0.mk ((by rw [hg]; exact Nat.ne_of_gt (blk_lt (g := gb120) (o := .cells #[.int .i64 a0_0, .slice A0_1 l0_1.length c0_1] 24 (0, 0)) (by (with_reducible repeat (first | refine blk_drewN ?_ _ | refine blk_drew ?_ | refine blk_alloc ?_ _)); exact BK120.out)) : gb129 ≠ gb120))
           have n9_ := Aside0.mk ((by rw [hg]; exact Nat.ne_of_lt (blk_lt (g := gb121) (o := .cells #[.int .i64 0, .slice none 0 0] 24 (0, 0)) (by (with_reducible repeat (first | refine blk_drewN ?_ _ | refine blk_drew ?_ | refine blk_alloc ?_ _)); exact BK121.out)) : gb121 ≠ gb129))
           have n10_ := Aside0.mk ((by rw [hg]; exact Nat.ne_of_gt (blk_lt (g := gb121) (o := .cells #[.int .i64 0, .slice none 0 0] 24 (0, 0)) (by (with_reducible repeat (first | refine blk_drewN ?_ _ | refine blk_drew ?_ | refine blk_alloc ?_ _)); exact BK121.out)) : gb129 ≠ gb121))
           clear HO128
           clear BK120
           clear BK121
           clear HB
           have HO128 := n0_
           have BK120 := n1_
           have BK121 := n2_
           have HB := n3_
           have BK129 := n4_
           have GW129 := n5_
           have GE129 := n6_
           have NB120_129 := n7_
           have NB129_120 := n8_
           have NB121_129 := n9_
           have NB129_121 := n10_
           clear n0_ n1_ n2_ n3_ n4_ n5_ n6_ n7_ n8_ n9_ n10_
           clear hb hbox hg
           refine hK.out _ _ ⟨(blk_cell BK120.out 0).trans rfl, (blk_cell BK120.out 1).trans rfl⟩ (fun hHeld => ?_)
           clear hK K
           refine norm_ (a' := ?_) ?_ ?_
           rotate_left
           ·
            show Act.put _ (some 12) _ = _
            simp only [Act.put, setIfInBounds_toArray, set_cons_zero, set_cons_succ, i64_w, i32_w]
            rfl
           exact norm_ (by simp only [putAll, Act.put, setIfInBounds_toArray, set_cons_zero, set_cons_succ]) (hCont (.slice Ao64 t126.length co64, gb129) _ ⟨hHeld, (by (with_reducible repeat (first | apply Kd.R_alloc | apply Kd.R_drewN | apply Kd.R_drew)); exact HO128.out), (by (with_reducible repeat (first | refine blk_drewN ?_ _ | refine blk_drew ?_ | refine blk_alloc ?_ _)); exact BK120.out), (by (with_reducible repeat (first | refine blk_drewN ?_ _ | refine blk_drew ?_ | refine blk_alloc ?_ _)); exact BK121.out), (by (with_reducible repeat (first | refine blk_drewN ?_ _ | refine blk_drew ?_ | refine blk_alloc ?_ _)); exact BK129.out), GW129.out, GE129.out, NB120_129.out, NB129_120.out, NB121_129.out, NB129_121.out, (by repeat (first | (with_reducible first | exact HB.out | apply below_alloc | apply bN_ | apply below_drew1 | refine below_set ?_ GE120.out | refine below_set ?_ GE121.out | refine below_set ?_ GE129.out) | exact HB.out))⟩)
          ·
           skip
           refine box_step ?hg (N := 12) ?hd (cs := #[.int .i64 0, .slice none 0 0]) (t := 24) ?hr ?_; (case hd => rfl); (case hg => rfl); (case hr => first | (go_simp; done) | (go_simp; rfl))
           intro gb129 hg w63 hbox hb
           have n0_ := Aside0.mk (blk_below (g := gb120) (o := .cells #[.int .i64 a0_0, .slice A0_1 l0_1.length c0_1] 24 (0, 0)) (by (with_reducible repeat (first | refine blk_drewN ?_ _ | refine blk_drew ?_ | refine blk_alloc ?_ _)); exact BK120.out) hb)
           have n1_ := Aside0.mk (blk_below (g := gb121) (o := .cells #[.int .i64 0, .slice none 0 0] 24 (0, 0)) (by (with_reducible repeat (first | refine blk_drewN ?_ _ | refine blk_drew ?_ | refine blk_alloc ?_ _)); exact BK121.out) hb)
           have n2_ := Aside0.mk (below_step (by repeat (first | (with_reducible first | exact HB.out | apply below_alloc | apply bN_ | apply below_drew1 | refine below_set ?_ GE120.out | refine below_set ?_ GE121.out) | exact HB.out)) hb)
           have n3_ := Aside0.mk (hbox)
           have n4_ := Aside0.mk ((by rw [hg]; exact (below_size (by repeat (first | (with_reducible first | exact HB.out | apply below_alloc | apply bN_ | apply below_drew1 | refine below_set ?_ GE120.out | refine below_set ?_ GE121.out) | exact HB.out))) : w.heap.size ≤ gb129))
           have n5_ := Aside0.mk ((by rw [hg]; exact (below_size (by repeat (first | (with_reducible first | exact HB.out | apply below_alloc | apply bN_ | apply below_drew1 | refine below_set ?_ GE120.out | refine below_set ?_ GE121.out) | exact HB.out))) : w.heap.size ≤ gb129))
           have n6_ := Aside0.mk ((by rw [hg]; exact Nat.ne_of_lt (blk_lt (g := gb120) (o := .cells #[.int .i64 a0_0, .slice A0_1 l0_1.length c0_1] 24 (0, 0)) (by (with_reducible repeat (first | refine blk_drewN ?_ _ | refine blk_drew ?_ | refine blk_alloc ?_ _)); exact BK120.out)) : gb120 ≠ gb129))
           have n7_ := Aside0.mk ((by rw [hg]; exact Nat.ne_of_gt (blk_lt (g := gb120) (o := .cells #[.int .i64 a0_0, .slice A0_1 l0_1.length c0_1] 24 (0, 0)) (by (with_reducible repeat (first | refine blk_drewN ?_ _ | refine blk_drew ?_ | refine blk_alloc ?_ _)); exact BK120.out)) : gb129 ≠ gb120))
           have n8_ := Aside0.mk ((by rw [hg]; exact Nat.ne_of_lt (blk_lt (g := gb121) (o := .cells #[.int .i64 0, .slice none 0 0] 24 (0, 0)) (by (with_reducible repeat (first | refine blk_drewN ?_ _ | refine blk_drew ?_ | refine blk_alloc ?_ _)); exact BK121.out)) : gb121 ≠ gb129))
           have n9_ := Aside0.mk ((by rw [hg]; exact Nat.ne_of_gt (blk_lt (g := gb121) (o := .cells #[.int .i64 0, .slice none 0 0] 24 (0, 0)) (by (with_reducible repeat (first | refine blk_drewN ?_ _ | refine blk_drew ?_ | refine blk_alloc ?_ _)); exact BK121.out)) : gb129 ≠ gb121))
           clear BK120
           clear BK121
           clear HB
           have BK120 := n0_
           have BK121 := n1_
           have HB := n2_
           have BK129 := n3_
           have GW129 := n4_
           have GE129 := n5_
           have NB120_129 := n6_
           have NB129_120 := n7_
           have NB121_129 := n8_
           have NB129_121 := n9_
           clear n0_ n1_ n2_ n3_ n4_ n5_ n6_ n7_ n8_ n9_
           clear hb hbox hg
           refine hK.out _ _ ⟨(blk_cell BK120.out 0).trans rfl, (blk_cell BK120.out 1).trans rfl⟩ (fun hHeld => ?_)
           clear hK K
           refine norm_ (a' := ?_) ?_ ?_
           rotate_left
           ·
            show Act.put _ (some 12) _ = _
            simp only [Act.put, setIfInBounds_toArray, set_cons_zero, set_cons_succ, i64_w, i32_w]
            rfl
           refine one_ (i := 4) (N := some 39) #[true, true, true, true, true, false, true, false] rfl rfl (one_of HT_.out (by kernel_rfl)) (by decide) (fun K hK => ?_)
           refine goes_ Try.func36 (by kernel_rfl) rfl #[.slice A0_1 l0_1.length c0_1] (by rfl) rfl rfl (by (try simp only [List.map_toArray, List.map_cons, List.map_nil]); first | done | rfl | (simp only [List.length_drop, List.length_take]; rfl)) ?_
           with_reducible refine (slices_Clone_api_Slot_api_Slot.calls _ _ l0_1 t126 _ ?side1 ?side2 A8.out).mono ?_
           (case side1 => repeat (first | exact (Kd.C_below HR0_1.out HB.out) | (with_reducible refine Kd.C_alloc ?_ _) | (with_reducible refine Kd.C_drewN ?_ _) | (with_reducible refine Kd.C_drew ?_)))
           (case side2 => exact HC0_1.out)
           rintro e w64 ⟨v127, rfl, ho0, hb⟩
           refine ⟨_, rfl, ?_⟩
           have n0_ := Aside0.mk (Kd.R_lower ho0 (below_size (by repeat (first | (with_reducible first | exact HB.out | apply below_alloc | apply bN_ | apply below_drew1 | refine below_set ?_ GE120.out | refine below_set ?_ GE121.out | refine below_set ?_ GE129.out) | exact HB.out))))
           have n1_ := Aside0.mk (blk_below (g := gb120) (o := .cells #[.int .i64 a0_0, .slice A0_1 l0_1.length c0_1] 24 (0, 0)) (by (with_reducible repeat (first | refine blk_drewN ?_ _ | refine blk_drew ?_ | refine blk_alloc ?_ _)); exact BK120.out) hb)
           have n2_ := Aside0.mk (blk_below (g := gb121) (o := .cells #[.int .i64 0, .slice none 0 0] 24 (0, 0)) (by (with_reducible repeat (first | refine blk_drewN ?_ _ | refine blk_drew ?_ | refine blk_alloc ?_ _)); exact BK121.out) hb)
           have n3_ := Aside0.mk (blk_below (g := gb129) (o := .cells #[.int .i64 0, .slice none 0 0] 24 (0, 0)) (by (with_reducible repeat (first | refine blk_drewN ?_ _ | refine blk_drew ?_ | refine blk_alloc ?_ _)); exact BK129.out) hb)
           have n4_ := Aside0.mk (below_step (by repeat (first | (with_reducible first | exact HB.out | apply below_alloc | apply bN_ | apply below_drew1 | refine below_set ?_ GE120.out | refine below_set ?_ GE121.out | refine below_set ?_ GE129.out) | exact HB.out)) hb)
           clear BK120
           clear BK121
           clear BK129
           clear HB
           have HO128 := n0_
           have BK120 := n1_
           have BK121 := n2_
           have BK129 := n3_
           have HB := n4_
           clear n0_ n1_ n2_ n3_ n4_
           (try clear hb)
           (try clear hb2)
           (try clear hk)
           (try clear hi)
           (try clear ho0)
           obtain ⟨Ao65, co65, eo65⟩ := Kd.R_slice HO128.out
           (first | subst eo65 | (injection eo65 with f1_ f2_ f3_; have f4_ := f1_.symm; have f5_ := f3_.symm; clear f1_ f2_ f3_; subst f4_; subst f5_))
           refine hK.out _ _ ⟨(blk_cell BK120.out 0).trans rfl, (blk_cell BK120.out 1).trans rfl⟩ (fun hHeld => ?_)
           clear hK K
           refine norm_ (a' := ?_) ?_ ?_
           rotate_left
           ·
            show Act.put _ (some 39) _ = _
            simp only [Act.put, setIfInBounds_toArray, set_cons_zero, set_cons_succ, i64_w, i32_w]
            rfl
           refine pure_ (i := 5) (N := some 40) (v := ?_) (a' := ?_) #[true, true, true, true, true, true, true, false] rfl rfl (any_of HT_.out (by kernel_rfl)) (fun _ _ _ h => h) (Or.inl ⟨by rfl, ?_⟩) ?_ ?_
           rotate_left
           ·
            intro w'
            go_simp
            with_reducible rfl
           rotate_left
           ·
            simp only [Act.put, setIfInBounds_toArray, set_cons_zero, set_cons_succ, i64_w, i32_w]
            rfl
           exact norm_ (by simp only [putAll, Act.put, setIfInBounds_toArray, set_cons_zero, set_cons_succ]) (hCont (.slice Ao65 t126.length co65, gb129) _ ⟨hHeld, (by (with_reducible repeat (first | apply Kd.R_alloc | apply Kd.R_drewN | apply Kd.R_drew)); exact HO128.out), (by (with_reducible repeat (first | refine blk_drewN ?_ _ | refine blk_drew ?_ | refine blk_alloc ?_ _)); exact BK120.out), (by (with_reducible repeat (first | refine blk_drewN ?_ _ | refine blk_drew ?_ | refine blk_alloc ?_ _)); exact BK121.out), (by (with_reducible repeat (first | refine blk_drewN ?_ _ | refine blk_drew ?_ | refine blk_alloc ?_ _)); exact BK129.out), GW129.out, GE129.out, NB120_129.out, NB129_120.out, NB121_129.out, NB129_121.out, (by repeat (first | (with_reducible first | exact HB.out | apply below_alloc | apply bN_ | apply below_drew1 | refine below_set ?_ GE120.out | refine below_set ?_ GE121.out | refine below_set ?_ GE129.out) | exact HB.out))⟩)
         rintro ⟨v127, gb129⟩ w66 ⟨hS_, h0_, h1_, h2_, h3_, h4_, h5_, h6_, h7_, h8_, h9_, h10_⟩
         have n0_ : Aside0 (Kd.R k42 42 w66 w.heap.size (fun _ => True) v127 t126) := ⟨h0_⟩
         have n1_ : Aside0 (w66.heap[gb120]? = some (.cells #[.int .i64 a0_0, .slice A0_1 l0_1.length c0_1] 24 (0, 0))) := ⟨h1_⟩
         have n2_ : Aside0 (w66.heap[gb121]? = some (.cells #[.int .i64 0, .slice none 0 0] 24 (0, 0))) := ⟨h2_⟩
         have n3_ : Aside0 (w66.heap[gb129]? = some (.cells #[.int .i64 0, .slice none 0 0] 24 (0, 0))) := ⟨h3_⟩
         have n4_ : Aside0 (w.heap.size ≤ gb129) := ⟨h4_⟩
         have n5_ : Aside0 (w.heap.size ≤ gb129) := ⟨h5_⟩
         have n6_ : Aside0 (gb120 ≠ gb129) := ⟨h6_⟩
         have n7_ : Aside0 (gb129 ≠ gb120) := ⟨h7_⟩
         have n8_ : Aside0 (gb121 ≠ gb129) := ⟨h8_⟩
         have n9_ : Aside0 (gb129 ≠ gb121) := ⟨h9_⟩
         have n10_ : Aside0 (Below w.heap.size w w66) := ⟨h10_⟩
         clear BK120
         clear BK121
         clear HB
         clear h0_ h1_ h2_ h3_ h4_ h5_ h6_ h7_ h8_ h9_ h10_
         have HO128 := n0_
         have BK120 := n1_
         have BK121 := n2_
         have BK129 := n3_
         have GW129 := n4_
         have GE129 := n5_
         have NB120_129 := n6_
         have NB129_120 := n7_
         have NB121_129 := n8_
         have NB129_121 := n9_
         have HB := n10_
         clear n0_ n1_ n2_ n3_ n4_ n5_ n6_ n7_ n8_ n9_ n10_
         have hHeld : w66.cell? ⟨gb120, 0, none⟩ = some (.int .i64 a0_0) ∧ w66.cell? ⟨gb120, 1, none⟩ = some (.slice A0_1 l0_1.length c0_1) := hS_
         obtain ⟨Ao67, co67, eo67⟩ := Kd.R_slice HO128.out
         (first | subst eo67 | (injection eo67 with f1_ f2_ f3_; have f4_ := f1_.symm; have f5_ := f3_.symm; clear f1_ f2_ f3_; subst f4_; subst f5_))
         refine norm_ (a' := ?_) ?_ ?_
         rotate_left
         ·
          simp only [putAll, Act.put, setIfInBounds_toArray, set_cons_zero, set_cons_succ]
          rfl
         refine one_ (i := 7) (N := none) #[true, true, true, true, true, true, true, true] rfl rfl (one_of HT_.out (by kernel_rfl)) (by decide) (fun K hK => ?_)
         have hs68 : w66.cell? ⟨gb129, 0, none⟩ = some (.int .i64 0) := (blk_cell BK129.out 0).trans rfl
         have hfs68 := blk_frozen BK129.out 0
         have hns68_0 := NB120_129.out
         have hns68_1 := NB121_129.out
         have hms68_0 := NB129_120.out
         have hms68_1 := NB129_121.out
         have hs69 : w66.cell? ⟨gb129, 1, none⟩ = some (.slice none 0 0) := (blk_cell BK129.out 1).trans rfl
         have hfs69 := blk_frozen BK129.out 1
         have hns69_0 := NB120_129.out
         have hns69_1 := NB121_129.out
         have hms69_0 := NB129_120.out
         have hms69_1 := NB129_121.out
         refine skip_ (w1 := ?_) (by rfl) rfl ?_ ?_
         rotate_left
         ·
          go_simp
          rfl
         refine hK.out _ _ ⟨((cell_far (p := ⟨gb129, _, none⟩) NB120_129.out _).trans (((cell_far (p := ⟨gb129, _, none⟩) NB120_129.out _).trans (hHeld.1)))), ((cell_far (p := ⟨gb129, _, none⟩) NB120_129.out _).trans (((cell_far (p := ⟨gb129, _, none⟩) NB120_129.out _).trans (hHeld.2))))⟩ (fun hHeld => ?_)
         clear hK K
         refine done_ (done_of HT_.out (by kernel_rfl)) ?_
         have hnb70 := NB120_129.out
         have hnc70 := NB129_120.out
         have hcz71_0 : w66.cell? ⟨gb120, 0, none⟩ = some (.int .i64 a0_0) := (blk_cell BK120.out 0).trans rfl
         have hcz71_1 : w66.cell? ⟨gb120, 1, none⟩ = some (.slice A0_1 l0_1.length c0_1) := (blk_cell BK120.out 1).trans rfl
         have hfz71_0 := blk_frozen BK120.out 0
         have hfz71_1 := blk_frozen BK120.out 1
         have p130 : 0 ≤ (t123 : Int) := of_decide_eq_true (by first | (with_reducible assumption) | assumption)
         have q130 : t123 < (l0_1.length : Int) := of_decide_eq_true (by first | (with_reducible assumption) | assumption)
         obtain ⟨ad130, e130, hx130_0, hx130_1, hx130_2, hx130_3, hx130_4, hx130_5, hx130_6, hx130_7, hx130_8, hx130_9, hx130_10, hx130_11, hx130_12, hx130_13, hx130_14, hx130_15⟩ := at_T42 HR0_1.out t123 p130 q130
         cases e130
         have hn130_0 : ad130.block ≠ gb129 := Nat.ne_of_lt (Nat.lt_of_lt_of_le (by have := World.block_lt_of_cell? _ _ hx130_0; first | rwa [add_block] at this | exact this) GW129.out)
         have hn130_1 : ad130.block ≠ gb129 := Nat.ne_of_lt (Nat.lt_of_lt_of_le (by have := World.block_lt_of_cell? _ _ hx130_0; first | rwa [add_block] at this | exact this) GW129.out)
         replace hx130_0 := (HB.out.cell (World.block_lt_of_cell? w _ hx130_0)).trans hx130_0
         replace hx130_1 := (HB.out.cell (World.block_lt_of_cell? w _ hx130_1)).trans hx130_1
         replace hx130_2 := (HB.out.cell (World.block_lt_of_cell? w _ hx130_2)).trans hx130_2
         replace hx130_3 := (HB.out.cell (World.block_lt_of_cell? w _ hx130_3)).trans hx130_3
         replace hx130_4 := (HB.out.cell (World.block_lt_of_cell? w _ hx130_4)).trans hx130_4
         replace hx130_5 := (HB.out.cell (World.block_lt_of_cell? w _ hx130_5)).trans hx130_5
         replace hx130_6 := (HB.out.cell (World.block_lt_of_cell? w _ hx130_6)).trans hx130_6
         replace hx130_7 := (HB.out.cell (World.block_lt_of_cell? w _ hx130_7)).trans hx130_7
         replace hx130_8 := (HB.out.cell (World.block_lt_of_cell? w _ hx130_8)).trans hx130_8
         replace hx130_9 := (HB.out.cell (World.block_lt_of_cell? w _ hx130_9)).trans hx130_9
         replace hx130_10 := (HB.out.cell (World.block_lt_of_cell? w _ hx130_10)).trans hx130_10
         replace hx130_11 := (HB.out.cell (World.block_lt_of_cell? w _ hx130_11)).trans hx130_11
         replace hx130_12 := (HB.out.cell (World.block_lt_of_cell? w _ hx130_12)).trans hx130_12
         replace hx130_13 := (HB.out.cell (World.block_lt_of_cell? w _ hx130_13)).trans hx130_13
         replace hx130_14 := (HB.out.cell (World.block_lt_of_cell? w _ hx130_14)).trans hx130_14
         replace hx130_15 := (HB.out.cell (World.block_lt_of_cell? w _ hx130_15)).trans hx130_15
         replace hx130_0 := (cell_far (p := ⟨gb129, 0, none⟩) (by first | (rw [add_block]; exact hn130_0) | (show (Addr.add _ _).block ≠ _; rw [add_block]; exact hn130_0) | exact hn130_0) (.int .i64 a0_0)).trans hx130_0
         replace hx130_1 := (cell_far (p := ⟨gb129, 0, none⟩) (by first | (rw [add_block]; exact hn130_0) | (show (Addr.add _ _).block ≠ _; rw [add_block]; exact hn130_0) | exact hn130_0) (.int .i64 a0_0)).trans hx130_1
         replace hx130_2 := (cell_far (p := ⟨gb129, 0, none⟩) (by first | (rw [add_block]; exact hn130_0) | (show (Addr.add _ _).block ≠ _; rw [add_block]; exact hn130_0) | exact hn130_0) (.int .i64 a0_0)).trans hx130_2
         replace hx130_3 := (cell_far (p := ⟨gb129, 0, none⟩) (by first | (rw [add_block]; exact hn130_0) | (show (Addr.add _ _).block ≠ _; rw [add_block]; exact hn130_0) | exact hn130_0) (.int .i64 a0_0)).trans hx130_3
         replace hx130_4 := (cell_far (p := ⟨gb129, 0, none⟩) (by first | (rw [add_block]; exact hn130_0) | (show (Addr.add _ _).block ≠ _; rw [add_block]; exact hn130_0) | exact hn130_0) (.int .i64 a0_0)).trans hx130_4
         replace hx130_5 := (cell_far (p := ⟨gb129, 0, none⟩) (by first | (rw [add_block]; exact hn130_0) | (show (Addr.add _ _).block ≠ _; rw [add_block]; exact hn130_0) | exact hn130_0) (.int .i64 a0_0)).trans hx130_5
         replace hx130_6 := (cell_far (p := ⟨gb129, 0, none⟩) (by first | (rw [add_block]; exact hn130_0) | (show (Addr.add _ _).block ≠ _; rw [add_block]; exact hn130_0) | exact hn130_0) (.int .i64 a0_0)).trans hx130_6
         replace hx130_7 := (cell_far (p := ⟨gb129, 0, none⟩) (by first | (rw [add_block]; exact hn130_0) | (show (Addr.add _ _).block ≠ _; rw [add_block]; exact hn130_0) | exact hn130_0) (.int .i64 a0_0)).trans hx130_7
         replace hx130_8 := (cell_far (p := ⟨gb129, 0, none⟩) (by first | (rw [add_block]; exact hn130_0) | (show (Addr.add _ _).block ≠ _; rw [add_block]; exact hn130_0) | exact hn130_0) (.int .i64 a0_0)).trans hx130_8
         replace hx130_9 := (cell_far (p := ⟨gb129, 0, none⟩) (by first | (rw [add_block]; exact hn130_0) | (show (Addr.add _ _).block ≠ _; rw [add_block]; exact hn130_0) | exact hn130_0) (.int .i64 a0_0)).trans hx130_9
         replace hx130_10 := (cell_far (p := ⟨gb129, 0, none⟩) (by first | (rw [add_block]; exact hn130_0) | (show (Addr.add _ _).block ≠ _; rw [add_block]; exact hn130_0) | exact hn130_0) (.int .i64 a0_0)).trans hx130_10
         replace hx130_11 := (cell_far (p := ⟨gb129, 0, none⟩) (by first | (rw [add_block]; exact hn130_0) | (show (Addr.add _ _).block ≠ _; rw [add_block]; exact hn130_0) | exact hn130_0) (.int .i64 a0_0)).trans hx130_11
         replace hx130_12 := (cell_far (p := ⟨gb129, 0, none⟩) (by first | (rw [add_block]; exact hn130_0) | (show (Addr.add _ _).block ≠ _; rw [add_block]; exact hn130_0) | exact hn130_0) (.int .i64 a0_0)).trans hx130_12
         replace hx130_13 := (cell_far (p := ⟨gb129, 0, none⟩) (by first | (rw [add_block]; exact hn130_0) | (show (Addr.add _ _).block ≠ _; rw [add_block]; exact hn130_0) | exact hn130_0) (.int .i64 a0_0)).trans hx130_13
         replace hx130_14 := (cell_far (p := ⟨gb129, 0, none⟩) (by first | (rw [add_block]; exact hn130_0) | (show (Addr.add _ _).block ≠ _; rw [add_block]; exact hn130_0) | exact hn130_0) (.int .i64 a0_0)).trans hx130_14
         replace hx130_15 := (cell_far (p := ⟨gb129, 0, none⟩) (by first | (rw [add_block]; exact hn130_0) | (show (Addr.add _ _).block ≠ _; rw [add_block]; exact hn130_0) | exact hn130_0) (.int .i64 a0_0)).trans hx130_15
         replace hx130_0 := (cell_far (p := ⟨gb129, 1, none⟩) (by first | (rw [add_block]; exact hn130_1) | (show (Addr.add _ _).block ≠ _; rw [add_block]; exact hn130_1) | exact hn130_1) (.slice Ao67 t126.length co67)).trans hx130_0
         replace hx130_1 := (cell_far (p := ⟨gb129, 1, none⟩) (by first | (rw [add_block]; exact hn130_1) | (show (Addr.add _ _).block ≠ _; rw [add_block]; exact hn130_1) | exact hn130_1) (.slice Ao67 t126.length co67)).trans hx130_1
         replace hx130_2 := (cell_far (p := ⟨gb129, 1, none⟩) (by first | (rw [add_block]; exact hn130_1) | (show (Addr.add _ _).block ≠ _; rw [add_block]; exact hn130_1) | exact hn130_1) (.slice Ao67 t126.length co67)).trans hx130_2
         replace hx130_3 := (cell_far (p := ⟨gb129, 1, none⟩) (by first | (rw [add_block]; exact hn130_1) | (show (Addr.add _ _).block ≠ _; rw [add_block]; exact hn130_1) | exact hn130_1) (.slice Ao67 t126.length co67)).trans hx130_3
         replace hx130_4 := (cell_far (p := ⟨gb129, 1, none⟩) (by first | (rw [add_block]; exact hn130_1) | (show (Addr.add _ _).block ≠ _; rw [add_block]; exact hn130_1) | exact hn130_1) (.slice Ao67 t126.length co67)).trans hx130_4
         replace hx130_5 := (cell_far (p := ⟨gb129, 1, none⟩) (by first | (rw [add_block]; exact hn130_1) | (show (Addr.add _ _).block ≠ _; rw [add_block]; exact hn130_1) | exact hn130_1) (.slice Ao67 t126.length co67)).trans hx130_5
         replace hx130_6 := (cell_far (p := ⟨gb129, 1, none⟩) (by first | (rw [add_block]; exact hn130_1) | (show (Addr.add _ _).block ≠ _; rw [add_block]; exact hn130_1) | exact hn130_1) (.slice Ao67 t126.length co67)).trans hx130_6
         replace hx130_7 := (cell_far (p := ⟨gb129, 1, none⟩) (by first | (rw [add_block]; exact hn130_1) | (show (Addr.add _ _).block ≠ _; rw [add_block]; exact hn130_1) | exact hn130_1) (.slice Ao67 t126.length co67)).trans hx130_7
         replace hx130_8 := (cell_far (p := ⟨gb129, 1, none⟩) (by first | (rw [add_block]; exact hn130_1) | (show (Addr.add _ _).block ≠ _; rw [add_block]; exact hn130_1) | exact hn130_1) (.slice Ao67 t126.length co67)).trans hx130_8
         replace hx130_9 := (cell_far (p := ⟨gb129, 1, none⟩) (by first | (rw [add_block]; exact hn130_1) | (show (Addr.add _ _).block ≠ _; rw [add_block]; exact hn130_1) | exact hn130_1) (.slice Ao67 t126.length co67)).trans hx130_9
         replace hx130_10 := (cell_far (p := ⟨gb129, 1, none⟩) (by first | (rw [add_block]; exact hn130_1) | (show (Addr.add _ _).block ≠ _; rw [add_block]; exact hn130_1) | exact hn130_1) (.slice Ao67 t126.length co67)).trans hx130_10
         replace hx130_11 := (cell_far (p := ⟨gb129, 1, none⟩) (by first | (rw [add_block]; exact hn130_1) | (show (Addr.add _ _).block ≠ _; rw [add_block]; exact hn130_1) | exact hn130_1) (.slice Ao67 t126.length co67)).trans hx130_11
         replace hx130_12 := (cell_far (p := ⟨gb129, 1, none⟩) (by first | (rw [add_block]; exact hn130_1) | (show (Addr.add _ _).block ≠ _; rw [add_block]; exact hn130_1) | exact hn130_1) (.slice Ao67 t126.length co67)).trans hx130_12
         replace hx130_13 := (cell_far (p := ⟨gb129, 1, none⟩) (by first | (rw [add_block]; exact hn130_1) | (show (Addr.add _ _).block ≠ _; rw [add_block]; exact hn130_1) | exact hn130_1) (.slice Ao67 t126.length co67)).trans hx130_13
         replace hx130_14 := (cell_far (p := ⟨gb129, 1, none⟩) (by first | (rw [add_block]; exact hn130_1) | (show (Addr.add _ _).block ≠ _; rw [add_block]; exact hn130_1) | exact hn130_1) (.slice Ao67 t126.length co67)).trans hx130_14
         replace hx130_15 := (cell_far (p := ⟨gb129, 1, none⟩) (by first | (rw [add_block]; exact hn130_1) | (show (Addr.add _ _).block ≠ _; rw [add_block]; exact hn130_1) | exact hn130_1) (.slice Ao67 t126.length co67)).trans hx130_15
         clear hn130_0
         clear hn130_1
         replace p130 := eq_true p130
         replace q130 := eq_true q130
         have p131 : 0 ≤ ((Go.bits .xor .i64 t123 1) : Int) := of_decide_eq_true (by first | (with_reducible assumption) | assumption)
         have q131 : (Go.bits .xor .i64 t123 1) < (l0_1.length : Int) := of_decide_eq_true (by first | (with_reducible assumption) | assumption)
         obtain ⟨ad131, e131, hx131_0, hx131_1, hx131_2, hx131_3, hx131_4, hx131_5, hx131_6, hx131_7, hx131_8, hx131_9, hx131_10, hx131_11, hx131_12, hx131_13, hx131_14, hx131_15⟩ := at_T42 HR0_1.out (Go.bits .xor .i64 t123 1) p131 q131
         obtain rfl : ad130 = ad131 := (by injection e131)
         have hn131_0 : ad130.block ≠ gb129 := Nat.ne_of_lt (Nat.lt_of_lt_of_le (by have := World.block_lt_of_cell? _ _ hx131_0; first | rwa [add_block] at this | exact this) GW129.out)
         have hn131_1 : ad130.block ≠ gb129 := Nat.ne_of_lt (Nat.lt_of_lt_of_le (by have := World.block_lt_of_cell? _ _ hx131_0; first | rwa [add_block] at this | exact this) GW129.out)
         replace hx131_0 := (HB.out.cell (World.block_lt_of_cell? w _ hx131_0)).trans hx131_0
         replace hx131_1 := (HB.out.cell (World.block_lt_of_cell? w _ hx131_1)).trans hx131_1
         replace hx131_2 := (HB.out.cell (World.block_lt_of_cell? w _ hx131_2)).trans hx131_2
         replace hx131_3 := (HB.out.cell (World.block_lt_of_cell? w _ hx131_3)).trans hx131_3
         replace hx131_4 := (HB.out.cell (World.block_lt_of_cell? w _ hx131_4)).trans hx131_4
         replace hx131_5 := (HB.out.cell (World.block_lt_of_cell? w _ hx131_5)).trans hx131_5
         replace hx131_6 := (HB.out.cell (World.block_lt_of_cell? w _ hx131_6)).trans hx131_6
         replace hx131_7 := (HB.out.cell (World.block_lt_of_cell? w _ hx131_7)).trans hx131_7
         replace hx131_8 := (HB.out.cell (World.block_lt_of_cell? w _ hx131_8)).trans hx131_8
         replace hx131_9 := (HB.out.cell (World.block_lt_of_cell? w _ hx131_9)).trans hx131_9
         replace hx131_10 := (HB.out.cell (World.block_lt_of_cell? w _ hx131_10)).trans hx131_10
         replace hx131_11 := (HB.out.cell (World.block_lt_of_cell? w _ hx131_11)).trans hx131_11
         replace hx131_12 := (HB.out.cell (World.block_lt_of_cell? w _ hx131_12)).trans hx131_12
         replace hx131_13 := (HB.out.cell (World.block_lt_of_cell? w _ hx131_13)).trans hx131_13
         replace hx131_14 := (HB.out.cell (World.block_lt_of_cell? w _ hx131_14)).trans hx131_14
         replace hx131_15 := (HB.out.cell (World.block_lt_of_cell? w _ hx131_15)).trans hx131_15
         replace hx131_0 := (cell_far (p := ⟨gb129, 0, none⟩) (by first | (rw [add_block]; exact hn131_0) | (show (Addr.add _ _).block ≠ _; rw [add_block]; exact hn131_0) | exact hn131_0) (.int .i64 a0_0)).trans hx131_0
         replace hx131_1 := (cell_far (p := ⟨gb129, 0, none⟩) (by first | (rw [add_block]; exact hn131_0) | (show (Addr.add _ _).block ≠ _; rw [add_block]; exact hn131_0) | exact hn131_0) (.int .i64 a0_0)).trans hx131_1
         replace hx131_2 := (cell_far (p := ⟨gb129, 0, none⟩) (by first | (rw [add_block]; exact hn131_0) | (show (Addr.add _ _).block ≠ _; rw [add_block]; exact hn131_0) | exact hn131_0) (.int .i64 a0_0)).trans hx131_2
         replace hx131_3 := (cell_far (p := ⟨gb129, 0, none⟩) (by first | (rw [add_block]; exact hn131_0) | (show (Addr.add _ _).block ≠ _; rw [add_block]; exact hn131_0) | exact hn131_0) (.int .i64 a0_0)).trans hx131_3
         replace hx131_4 := (cell_far (p := ⟨gb129, 0, none⟩) (by first | (rw [add_block]; exact hn131_0) | (show (Addr.add _ _).block ≠ _; rw [add_block]; exact hn131_0) | exact hn131_0) (.int .i64 a0_0)).trans hx131_4
         replace hx131_5 := (cell_far (p := ⟨gb129, 0, none⟩) (by first | (rw [add_block]; exact hn131_0) | (show (Addr.add _ _).block ≠ _; rw [add_block]; exact hn131_0) | exact hn131_0) (.int .i64 a0_0)).trans hx131_5
         replace hx131_6 := (cell_far (p := ⟨gb129, 0, none⟩) (by first | (rw [add_block]; exact hn131_0) | (show (Addr.add _ _).block ≠ _; rw [add_block]; exact hn131_0) | exact hn131_0) (.int .i64 a0_0)).trans hx131_6
         replace hx131_7 := (cell_far (p := ⟨gb129, 0, none⟩) (by first | (rw [add_block]; exact hn131_0) | (show (Addr.add _ _).block ≠ _; rw [add_block]; exact hn131_0) | exact hn131_0) (.int .i64 a0_0)).trans hx131_7
         replace hx131_8 := (cell_far (p := ⟨gb129, 0, none⟩) (by first | (rw [add_block]; exact hn131_0) | (show (Addr.add _ _).block ≠ _; rw [add_block]; exact hn131_0) | exact hn131_0) (.int .i64 a0_0)).trans hx131_8
         replace hx131_9 := (cell_far (p := ⟨gb129, 0, none⟩) (by first | (rw [add_block]; exact hn131_0) | (show (Addr.add _ _).block ≠ _; rw [add_block]; exact hn131_0) | exact hn131_0) (.int .i64 a0_0)).trans hx131_9
         replace hx131_10 := (cell_far (p := ⟨gb129, 0, none⟩) (by first | (rw [add_block]; exact hn131_0) | (show (Addr.add _ _).block ≠ _; rw [add_block]; exact hn131_0) | exact hn131_0) (.int .i64 a0_0)).trans hx131_10
         replace hx131_11 := (cell_far (p := ⟨gb129, 0, none⟩) (by first | (rw [add_block]; exact hn131_0) | (show (Addr.add _ _).block ≠ _; rw [add_block]; exact hn131_0) | exact hn131_0) (.int .i64 a0_0)).trans hx131_11
         replace hx131_12 := (cell_far (p := ⟨gb129, 0, none⟩) (by first | (rw [add_block]; exact hn131_0) | (show (Addr.add _ _).block ≠ _; rw [add_block]; exact hn131_0) | exact hn131_0) (.int .i64 a0_0)).trans hx131_12
         replace hx131_13 := (cell_far (p := ⟨gb129, 0, none⟩) (by first | (rw [add_block]; exact hn131_0) | (show (Addr.add _ _).block ≠ _; rw [add_block]; exact hn131_0) | exact hn131_0) (.int .i64 a0_0)).trans hx131_13
         replace hx131_14 := (cell_far (p := ⟨gb129, 0, none⟩) (by first | (rw [add_block]; exact hn131_0) | (show (Addr.add _ _).block ≠ _; rw [add_block]; exact hn131_0) | exact hn131_0) (.int .i64 a0_0)).trans hx131_14
         replace hx131_15 := (cell_far (p := ⟨gb129, 0, none⟩) (by first | (rw [add_block]; exact hn131_0) | (show (Addr.add _ _).block ≠ _; rw [add_block]; exact hn131_0) | exact hn131_0) (.int .i64 a0_0)).trans hx131_15
         replace hx131_0 := (cell_far (p := ⟨gb129, 1, none⟩) (by first | (rw [add_block]; exact hn131_1) | (show (Addr.add _ _).block ≠ _; rw [add_block]; exact hn131_1) | exact hn131_1) (.slice Ao67 t126.length co67)).trans hx131_0
         replace hx131_1 := (cell_far (p := ⟨gb129, 1, none⟩) (by first | (rw [add_block]; exact hn131_1) | (show (Addr.add _ _).block ≠ _; rw [add_block]; exact hn131_1) | exact hn131_1) (.slice Ao67 t126.length co67)).trans hx131_1
         replace hx131_2 := (cell_far (p := ⟨gb129, 1, none⟩) (by first | (rw [add_block]; exact hn131_1) | (show (Addr.add _ _).block ≠ _; rw [add_block]; exact hn131_1) | exact hn131_1) (.slice Ao67 t126.length co67)).trans hx131_2
         replace hx131_3 := (cell_far (p := ⟨gb129, 1, none⟩) (by first | (rw [add_block]; exact hn131_1) | (show (Addr.add _ _).block ≠ _; rw [add_block]; exact hn131_1) | exact hn131_1) (.slice Ao67 t126.length co67)).trans hx131_3
         replace hx131_4 := (cell_far (p := ⟨gb129, 1, none⟩) (by first | (rw [add_block]; exact hn131_1) | (show (Addr.add _ _).block ≠ _; rw [add_block]; exact hn131_1) | exact hn131_1) (.slice Ao67 t126.length co67)).trans hx131_4
         replace hx131_5 := (cell_far (p := ⟨gb129, 1, none⟩) (by first | (rw [add_block]; exact hn131_1) | (show (Addr.add _ _).block ≠ _; rw [add_block]; exact hn131_1) | exact hn131_1) (.slice Ao67 t126.length co67)).trans hx131_5
         replace hx131_6 := (cell_far (p := ⟨gb129, 1, none⟩) (by first | (rw [add_block]; exact hn131_1) | (show (Addr.add _ _).block ≠ _; rw [add_block]; exact hn131_1) | exact hn131_1) (.slice Ao67 t126.length co67)).trans hx131_6
         replace hx131_7 := (cell_far (p := ⟨gb129, 1, none⟩) (by first | (rw [add_block]; exact hn131_1) | (show (Addr.add _ _).block ≠ _; rw [add_block]; exact hn131_1) | exact hn131_1) (.slice Ao67 t126.length co67)).trans hx131_7
         replace hx131_8 := (cell_far (p := ⟨gb129, 1, none⟩) (by first | (rw [add_block]; exact hn131_1) | (show (Addr.add _ _).block ≠ _; rw [add_block]; exact hn131_1) | exact hn131_1) (.slice Ao67 t126.length co67)).trans hx131_8
         replace hx131_9 := (cell_far (p := ⟨gb129, 1, none⟩) (by first | (rw [add_block]; exact hn131_1) | (show (Addr.add _ _).block ≠ _; rw [add_block]; exact hn131_1) | exact hn131_1) (.slice Ao67 t126.length co67)).trans hx131_9
         replace hx131_10 := (cell_far (p := ⟨gb129, 1, none⟩) (by first | (rw [add_block]; exact hn131_1) | (show (Addr.add _ _).block ≠ _; rw [add_block]; exact hn131_1) | exact hn131_1) (.slice Ao67 t126.length co67)).trans hx131_10
         replace hx131_11 := (cell_far (p := ⟨gb129, 1, none⟩) (by first | (rw [add_block]; exact hn131_1) | (show (Addr.add _ _).block ≠ _; rw [add_block]; exact hn131_1) | exact hn131_1) (.slice Ao67 t126.length co67)).trans hx131_11
         replace hx131_12 := (cell_far (p := ⟨gb129, 1, none⟩) (by first | (rw [add_block]; exact hn131_1) | (show (Addr.add _ _).block ≠ _; rw [add_block]; exact hn131_1) | exact hn131_1) (.slice Ao67 t126.length co67)).trans hx131_12
         replace hx131_13 := (cell_far (p := ⟨gb129, 1, none⟩) (by first | (rw [add_block]; exact hn131_1) | (show (Addr.add _ _).block ≠ _; rw [add_block]; exact hn131_1) | exact hn131_1) (.slice Ao67 t126.length co67)).trans hx131_13
         replace hx131_14 := (cell_far (p := ⟨gb129, 1, none⟩) (by first | (rw [add_block]; exact hn131_1) | (show (Addr.add _ _).block ≠ _; rw [add_block]; exact hn131_1) | exact hn131_1) (.slice Ao67 t126.length co67)).trans hx131_14
         replace hx131_15 := (cell_far (p := ⟨gb129, 1, none⟩) (by first | (rw [add_block]; exact hn131_1) | (show (Addr.add _ _).block ≠ _; rw [add_block]; exact hn131_1) | exact hn131_1) (.slice Ao67 t126.length co67)).trans hx131_15
         clear hn131_0
         clear hn131_1
         replace p131 := eq_true p131
         replace q131 := eq_true q131
         try go_wp2
         have n0_ : Aside0 (Kd.R k42 42 ((w66.setCell ⟨gb129, 0, none⟩ (.int .i64 a0_0)).setCell ⟨gb129, 1, none⟩ (.slice Ao67 t126.length co67)) w.heap.size (fun _ => True) (.slice Ao67 t126.length co67) t126) := ⟨by (with_reducible repeat (first | apply Kd.R_alloc | apply Kd.R_drewN | apply Kd.R_drew)); exact Kd.R_mono (Kd.R_far (p := ⟨gb129, 1, none⟩) (Kd.R_far (p := ⟨gb129, 0, none⟩) (Kd.R_types HO128.out BK129.out (by decide)) (fun _ hk => hk.2) (.int .i64 a0_0)) (fun _ hk => hk.2) (.slice Ao67 t126.length co67)) (fun _ hk => trivial)⟩
         have n1_ : Aside0 (((w66.setCell ⟨gb129, 0, none⟩ (.int .i64 a0_0)).setCell ⟨gb129, 1, none⟩ (.slice Ao67 t126.length co67)).heap[gb120]? = some (.cells #[.int .i64 a0_0, .slice (some ad130) l0_1.length c0_1] 24 (0, 0))) := ⟨by (with_reducible repeat (first | refine blk_drewN ?_ _ | refine blk_drew ?_ | refine blk_alloc ?_ _)); refine blk_far ?_ NB120_129.out _; (with_reducible repeat (first | refine blk_drewN ?_ _ | refine blk_drew ?_ | refine blk_alloc ?_ _)); refine blk_far ?_ NB120_129.out _; (with_reducible repeat (first | refine blk_drewN ?_ _ | refine blk_drew ?_ | refine blk_alloc ?_ _)); exact BK120.out⟩
         have n2_ : Aside0 (((w66.setCell ⟨gb129, 0, none⟩ (.int .i64 a0_0)).setCell ⟨gb129, 1, none⟩ (.slice Ao67 t126.length co67)).heap[gb121]? = some (.cells #[.int .i64 0, .slice none 0 0] 24 (0, 0))) := ⟨by (with_reducible repeat (first | refine blk_drewN ?_ _ | refine blk_drew ?_ | refine blk_alloc ?_ _)); refine blk_far ?_ NB121_129.out _; (with_reducible repeat (first | refine blk_drewN ?_ _ | refine blk_drew ?_ | refine blk_alloc ?_ _)); refine blk_far ?_ NB121_129.out _; (with_reducible repeat (first | refine blk_drewN ?_ _ | refine blk_drew ?_ | refine blk_alloc ?_ _)); exact BK121.out⟩
         have n3_ : Aside0 (((w66.setCell ⟨gb129, 0, none⟩ (.int .i64 a0_0)).setCell ⟨gb129, 1, none⟩ (.slice Ao67 t126.length co67)).heap[gb129]? = some (.cells #[.int .i64 a0_0, .slice Ao67 t126.length co67] 24 (0, 0))) := ⟨by (with_reducible repeat (first | refine blk_drewN ?_ _ | refine blk_drew ?_ | refine blk_alloc ?_ _)); refine blk_put (cs := #[.int .i64 a0_0, .slice none 0 0]) ?_ 1 _ rfl; (with_reducible repeat (first | refine blk_drewN ?_ _ | refine blk_drew ?_ | refine blk_alloc ?_ _)); refine blk_put (cs := #[.int .i64 0, .slice none 0 0]) ?_ 0 _ rfl; (with_reducible repeat (first | refine blk_drewN ?_ _ | refine blk_drew ?_ | refine blk_alloc ?_ _)); exact BK129.out⟩
         have n4_ : Aside0 (Below w.heap.size w ((w66.setCell ⟨gb129, 0, none⟩ (.int .i64 a0_0)).setCell ⟨gb129, 1, none⟩ (.slice Ao67 t126.length co67))) := ⟨by repeat (first | (with_reducible first | exact HB.out | apply below_alloc | apply bN_ | apply below_drew1 | refine below_set ?_ GE120.out | refine below_set ?_ GE121.out | refine below_set ?_ GE129.out) | exact HB.out)⟩
         (try clear HO128)
         (try clear BK120)
         (try clear BK121)
         (try clear BK129)
         (try clear HB)
         generalize ((w66.setCell ⟨gb129, 0, none⟩ (.int .i64 a0_0)).setCell ⟨gb129, 1, none⟩ (.slice Ao67 t126.length co67)) = w72 at n0_ n1_ n2_ n3_ n4_ ⊢
         have HO128 := n0_
         have BK120 := n1_
         have BK121 := n2_
         have BK129 := n3_
         have HB := n4_
         clear n0_ n1_ n2_ n3_ n4_
         have n0_ := Aside0.mk (Kd.R_drew HO128.out)
         have n1_ := Aside0.mk (blk_drew BK120.out)
         have n2_ := Aside0.mk (blk_drew BK121.out)
         have n3_ := Aside0.mk (blk_drew BK129.out)
         have n4_ := Aside0.mk (below_drew1 HB.out)
         clear HO128
         clear BK120
         clear BK121
         clear BK129
         clear HB
         have HO128 := n0_
         have BK120 := n1_
         have BK121 := n2_
         have BK129 := n3_
         have HB := n4_
         clear n0_ n1_ n2_ n3_ n4_
         have p132 : 0 ≤ ((Go.bits .xor .i64 t123 1) : Int) := of_decide_eq_true (by first | (with_reducible assumption) | assumption)
         have q132 : (Go.bits .xor .i64 t123 1) < (l0_1.length : Int) := of_decide_eq_true (by first | (with_reducible assumption) | assumption)
         obtain ⟨ad132, e132, hx132_0, hx132_1, hx132_2, hx132_3, hx132_4, hx132_5, hx132_6, hx132_7, hx132_8, hx132_9, hx132_10, hx132_11, hx132_12, hx132_13, hx132_14, hx132_15⟩ := at_T42 HR0_1.out (Go.bits .xor .i64 t123 1) p132 q132
         have hw132_15 := hx132_15
         have hw132_14 := hx132_14
         have hw132_13 := hx132_13
         have hw132_12 := hx132_12
         have hw132_11 := hx132_11
         have hw132_10 := hx132_10
         have hw132_9 := hx132_9
         have hw132_8 := hx132_8
         have hw132_7 := hx132_7
         have hw132_6 := hx132_6
         have hw132_5 := hx132_5
         have hw132_4 := hx132_4
         have hw132_3 := hx132_3
         have hw132_2 := hx132_2
         have hw132_1 := hx132_1
         have hw132_0 := hx132_0
         obtain rfl : ad130 = ad132 := (by injection e132)
         replace hx132_0 := (HB.out.cell (World.block_lt_of_cell? w _ hx132_0)).trans hx132_0
         replace hx132_1 := (HB.out.cell (World.block_lt_of_cell? w _ hx132_1)).trans hx132_1
         replace hx132_2 := (HB.out.cell (World.block_lt_of_cell? w _ hx132_2)).trans hx132_2
         replace hx132_3 := (HB.out.cell (World.block_lt_of_cell? w _ hx132_3)).trans hx132_3
         replace hx132_4 := (HB.out.cell (World.block_lt_of_cell? w _ hx132_4)).trans hx132_4
         replace hx132_5 := (HB.out.cell (World.block_lt_of_cell? w _ hx132_5)).trans hx132_5
         replace hx132_6 := (HB.out.cell (World.block_lt_of_cell? w _ hx132_6)).trans hx132_6
         replace hx132_7 := (HB.out.cell (World.block_lt_of_cell? w _ hx132_7)).trans hx132_7
         replace hx132_8 := (HB.out.cell (World.block_lt_of_cell? w _ hx132_8)).trans hx132_8
         replace hx132_9 := (HB.out.cell (World.block_lt_of_cell? w _ hx132_9)).trans hx132_9
         replace hx132_10 := (HB.out.cell (World.block_lt_of_cell? w _ hx132_10)).trans hx132_10
         replace hx132_11 := (HB.out.cell (World.block_lt_of_cell? w _ hx132_11)).trans hx132_11
         replace hx132_12 := (HB.out.cell (World.block_lt_of_cell? w _ hx132_12)).trans hx132_12
         replace hx132_13 := (HB.out.cell (World.block_lt_of_cell? w _ hx132_13)).trans hx132_13
         replace hx132_14 := (HB.out.cell (World.block_lt_of_cell? w _ hx132_14)).trans hx132_14
         replace hx132_15 := (HB.out.cell (World.block_lt_of_cell? w _ hx132_15)).trans hx132_15
         replace p132 := eq_true p132
         replace q132 := eq_true q132
         have p134 : 0 ≤ (t123 : Int) := of_decide_eq_true (by first | (with_reducible assumption) | assumption)
         have q134 : t123 < (l0_1.length : Int) := of_decide_eq_true (by first | (with_reducible assumption) | assumption)
         obtain ⟨ad134, e134, hx134_0, hx134_1, hx134_2, hx134_3, hx134_4, hx134_5, hx134_6, hx134_7, hx134_8, hx134_9, hx134_10, hx134_11, hx134_12, hx134_13, hx134_14, hx134_15⟩ := at_T42 HR0_1.out t123 p134 q134
         have hw134_15 := hx134_15
         have hw134_14 := hx134_14
         have hw134_13 := hx134_13
         have hw134_12 := hx134_12
         have hw134_11 := hx134_11
         have hw134_10 := hx134_10
         have hw134_9 := hx134_9
         have hw134_8 := hx134_8
         have hw134_7 := hx134_7
         have hw134_6 := hx134_6
         have hw134_5 := hx134_5
         have hw134_4 := hx134_4
         have hw134_3 := hx134_3
         have hw134_2 := hx134_2
         have hw134_1 := hx134_1
         have hw134_0 := hx134_0
         obtain rfl : ad130 = ad134 := (by injection e134)
         replace hx134_0 := (HB.out.cell (World.block_lt_of_cell? w _ hx134_0)).trans hx134_0
         replace hx134_1 := (HB.out.cell (World.block_lt_of_cell? w _ hx134_1)).trans hx134_1
         replace hx134_2 := (HB.out.cell (World.block_lt_of_cell? w _ hx134_2)).trans hx134_2
         replace hx134_3 := (HB.out.cell (World.block_lt_of_cell? w _ hx134_3)).trans hx134_3
         replace hx134_4 := (HB.out.cell (World.block_lt_of_cell? w _ hx134_4)).trans hx134_4
         replace hx134_5 := (HB.out.cell (World.block_lt_of_cell? w _ hx134_5)).trans hx134_5
         replace hx134_6 := (HB.out.cell (World.block_lt_of_cell? w _ hx134_6)).trans hx134_6
         replace hx134_7 := (HB.out.cell (World.block_lt_of_cell? w _ hx134_7)).trans hx134_7
         replace hx134_8 := (HB.out.cell (World.block_lt_of_cell? w _ hx134_8)).trans hx134_8
         replace hx134_9 := (HB.out.cell (World.block_lt_of_cell? w _ hx134_9)).trans hx134_9
         replace hx134_10 := (HB.out.cell (World.block_lt_of_cell? w _ hx134_10)).trans hx134_10
         replace hx134_11 := (HB.out.cell (World.block_lt_of_cell? w _ hx134_11)).trans hx134_11
         replace hx134_12 := (HB.out.cell (World.block_lt_of_cell? w _ hx134_12)).trans hx134_12
         replace hx134_13 := (HB.out.cell (World.block_lt_of_cell? w _ hx134_13)).trans hx134_13
         replace hx134_14 := (HB.out.cell (World.block_lt_of_cell? w _ hx134_14)).trans hx134_14
         replace hx134_15 := (HB.out.cell (World.block_lt_of_cell? w _ hx134_15)).trans hx134_15
         replace p134 := eq_true p134
         replace q134 := eq_true q134
         refine start_ (n := 14) (S := fun w' => w'.cell? ⟨gb120, 0, none⟩ = some (.int .i64 a0_0) ∧ w'.cell? ⟨gb120, 1, none⟩ = some (.slice (some ad130) l0_1.length c0_1) ∧ w'.cell? (ad130.add (((Go.bits .xor .i64 t123 1)).toNat * 16)) = some (.int .u8 ((rd_T42 l0_1 (Go.bits .xor .i64 t123 1)).f0)) ∧ w'.cell? ⟨(ad130.add (((Go.bits .xor .i64 t123 1)).toNat * 16)).block, (ad130.add (((Go.bits .xor .i64 t123 1)).toNat * 16)).off + 1, none⟩ = some (.int .u8 ((rd_T42 l0_1 (Go.bits .xor .i64 t123 1)).f1.f0)) ∧ w'.cell? ⟨(ad130.add (((Go.bits .xor .i64 t123 1)).toNat * 16)).block, (ad130.add (((Go.bits .xor .i64 t123 1)).toNat * 16)).off + 2, none⟩ = some (.int .u8 ((rd_T42 l0_1 (Go.bits .xor .i64 t123 1)).f1.f1)) ∧ w'.cell? ⟨(ad130.add (((Go.bits .xor .i64 t123 1)).toNat * 16)).block, (ad130.add (((Go.bits .xor .i64 t123 1)).toNat * 16)).off + 3, none⟩ = some (.int .u8 ((rd_T42 l0_1 (Go.bits .xor .i64 t123 1)).f1.f2)) ∧ w'.cell? ⟨(ad130.add (((Go.bits .xor .i64 t123 1)).toNat * 16)).block, (ad130.add (((Go.bits .xor .i64 t123 1)).toNat * 16)).off + 4, none⟩ = some (.int .u8 ((rd_T42 l0_1 (Go.bits .xor .i64 t123 1)).f1.f3)) ∧ w'.cell? ⟨(ad130.add (((Go.bits .xor .i64 t123 1)).toNat * 16)).block, (ad130.add (((Go.bits .xor .i64 t123 1)).toNat * 16)).off + 5, none⟩ = some (.int .u8 ((rd_T42 l0_1 (Go.bits .xor .i64 t123 1)).f1.f4)) ∧ w'.cell? ⟨(ad130.add (((Go.bits .xor .i64 t123 1)).toNat * 16)).block, (ad130.add (((Go.bits .xor .i64 t123 1)).toNat * 16)).off + 6, none⟩ = some (.int .u8 ((rd_T42 l0_1 (Go.bits .xor .i64 t123 1)).f1.f5)) ∧ w'.cell? ⟨(ad130.add (((Go.bits .xor .i64 t123 1)).toNat * 16)).block, (ad130.add (((Go.bits .xor .i64 t123 1)).toNat * 16)).off + 7, none⟩ = some (.int .u8 ((rd_T42 l0_1 (Go.bits .xor .i64 t123 1)).f1.f6)) ∧ w'.cell? ⟨(ad130.add (((Go.bits .xor .i64 t123 1)).toNat * 16)).block, (ad130.add (((Go.bits .xor .i64 t123 1)).toNat * 16)).off + 8, none⟩ = some (.int .u8 ((rd_T42 l0_1 (Go.bits .xor .i64 t123 1)).f1.f7)) ∧ w'.cell? ⟨(ad130.add (((Go.bits .xor .i64 t123 1)).toNat * 16)).block, (ad130.add (((Go.bits .xor .i64 t123 1)).toNat * 16)).off + 9, none⟩ = some (.int .u8 ((rd_T42 l0_1 (Go.bits .xor .i64 t123 1)).f1.f8)) ∧ w'.cell? ⟨(ad130.add (((Go.bits .xor .i64 t123 1)).toNat * 16)).block, (ad130.add (((Go.bits .xor .i64 t123 1)).toNat * 16)).off + 10, none⟩ = some (.int .u8 ((rd_T42 l0_1 (Go.bits .xor .i64 t123 1)).f1.f9)) ∧ w'.cell? ⟨(ad130.add (((Go.bits .xor .i64 t123 1)).toNat * 16)).block, (ad130.add (((Go.bits .xor .i64 t123 1)).toNat * 16)).off + 11, none⟩ = some (.int .u8 ((rd_T42 l0_1 (Go.bits .xor .i64 t123 1)).f1.f10)) ∧ w'.cell? ⟨(ad130.add (((Go.bits .xor .i64 t123 1)).toNat * 16)).block, (ad130.add (((Go.bits .xor .i64 t123 1)).toNat * 16)).off + 12, none⟩ = some (.int .u8 ((rd_T42 l0_1 (Go.bits .xor .i64 t123 1)).f1.f11)) ∧ w'.cell? ⟨(ad130.add (((Go.bits .xor .i64 t123 1)).toNat * 16)).block, (ad130.add (((Go.bits .xor .i64 t123 1)).toNat * 16)).off + 13, none⟩ = some (.int .u8 ((rd_T42 l0_1 (Go.bits .xor .i64 t123 1)).f1.f12)) ∧ w'.cell? ⟨(ad130.add (((Go.bits .xor .i64 t123 1)).toNat * 16)).block, (ad130.add (((Go.bits .xor .i64 t123 1)).toNat * 16)).off + 14, none⟩ = some (.int .u8 ((rd_T42 l0_1 (Go.bits .xor .i64 t123 1)).f1.f13)) ∧ w'.cell? ⟨(ad130.add (((Go.bits .xor .i64 t123 1)).toNat * 16)).block, (ad130.add (((Go.bits .xor .i64 t123 1)).toNat * 16)).off + 15, none⟩ = some (.int .u8 ((rd_T42 l0_1 (Go.bits .xor .i64 t123 1)).f1.f14)) ∧ w'.cell? (ad130.add ((t123).toNat * 16)) = some (.int .u8 ((rd_T42 l0_1 t123).f0)) ∧ w'.cell? ⟨(ad130.add ((t123).toNat * 16)).block, (ad130.add ((t123).toNat * 16)).off + 1, none⟩ = some (.int .u8 ((rd_T42 l0_1 t123).f1.f0)) ∧ w'.cell? ⟨(ad130.add ((t123).toNat * 16)).block, (ad130.add ((t123).toNat * 16)).off + 2, none⟩ = some (.int .u8 ((rd_T42 l0_1 t123).f1.f1)) ∧ w'.cell? ⟨(ad130.add ((t123).toNat * 16)).block, (ad130.add ((t123).toNat * 16)).off + 3, none⟩ = some (.int .u8 ((rd_T42 l0_1 t123).f1.f2)) ∧ w'.cell? ⟨(ad130.add ((t123).toNat * 16)).block, (ad130.add ((t123).toNat * 16)).off + 4, none⟩ = some (.int .u8 ((rd_T42 l0_1 t123).f1.f3)) ∧ w'.cell? ⟨(ad130.add ((t123).toNat * 16)).block, (ad130.add ((t123).toNat * 16)).off + 5, none⟩ = some (.int .u8 ((rd_T42 l0_1 t123).f1.f4)) ∧ w'.cell? ⟨(ad130.add ((t123).toNat * 16)).block, (ad130.add ((t123).toNat * 16)).off + 6, none⟩ = some (.int .u8 ((rd_T42 l0_1 t123).f1.f5)) ∧ w'.cell? ⟨(ad130.add ((t123).toNat * 16)).block, (ad130.add ((t123).toNat * 16)).off + 7, none⟩ = some (.int .u8 ((rd_T42 l0_1 t123).f1.f6)) ∧ w'.cell? ⟨(ad130.add ((t123).toNat * 16)).block, (ad130.add ((t123).toNat * 16)).off + 8, none⟩ = some (.int .u8 ((rd_T42 l0_1 t123).f1.f7)) ∧ w'.cell? ⟨(ad130.add ((t123).toNat * 16)).block, (ad130.add ((t123).toNat * 16)).off + 9, none⟩ = some (.int .u8 ((rd_T42 l0_1 t123).f1.f8)) ∧ w'.cell? ⟨(ad130.add ((t123).toNat * 16)).block, (ad130.add ((t123).toNat * 16)).off + 10, none⟩ = some (.int .u8 ((rd_T42 l0_1 t123).f1.f9)) ∧ w'.cell? ⟨(ad130.add ((t123).toNat * 16)).block, (ad130.add ((t123).toNat * 16)).off + 11, none⟩ = some (.int .u8 ((rd_T42 l0_1 t123).f1.f10)) ∧ w'.cell? ⟨(ad130.add ((t123).toNat * 16)).block, (ad130.add ((t123).toNat * 16)).off + 12, none⟩ = some (.int .u8 ((rd_T42 l0_1 t123).f1.f11)) ∧ w'.cell? ⟨(ad130.add ((t123).toNat * 16)).block, (ad130.add ((t123).toNat * 16)).off + 13, none⟩ = some (.int .u8 ((rd_T42 l0_1 t123).f1.f12)) ∧ w'.cell? ⟨(ad130.add ((t123).toNat * 16)).block, (ad130.add ((t123).toNat * 16)).off + 14, none⟩ = some (.int .u8 ((rd_T42 l0_1 t123).f1.f13)) ∧ w'.cell? ⟨(ad130.add ((t123).toNat * 16)).block, (ad130.add ((t123).toNat * 16)).off + 15, none⟩ = some (.int .u8 ((rd_T42 l0_1 t123).f1.f14))) (ds := []) #[false, false, false, false, false, false, false, false, false, false, false, false, false, false] (by kernel_rfl) rfl rfl ⟨(blk_cell BK120.out 0).trans rfl, (blk_cell BK120.out 1).trans rfl, ((HB.out.cell (World.block_lt_of_cell? w _ hw132_0)).trans hw132_0), ((HB.out.cell (World.block_lt_of_cell? w _ hw132_1)).trans hw132_1), ((HB.out.cell (World.block_lt_of_cell? w _ hw132_2)).trans hw132_2), ((HB.out.cell (World.block_lt_of_cell? w _ hw132_3)).trans hw132_3), ((HB.out.cell (World.block_lt_of_cell? w _ hw132_4)).trans hw132_4), ((HB.out.cell (World.block_lt_of_cell? w _ hw132_5)).trans hw132_5), ((HB.out.cell (World.block_lt_of_cell? w _ hw132_6)).trans hw132_6), ((HB.out.cell (World.block_lt_of_cell? w _ hw132_7)).trans hw132_7), ((HB.out.cell (World.block_lt_of_cell? w _ hw132_8)).trans hw132_8), ((HB.out.cell (World.block_lt_of_cell? w _ hw132_9)).trans hw132_9), ((HB.out.cell (World.block_lt_of_cell? w _ hw132_10)).trans hw132_10), ((HB.out.cell (World.block_lt_of_cell? w _ hw132_11)).trans hw132_11), ((HB.out.cell (World.block_lt_of_cell? w _ hw132_12)).trans hw132_12), ((HB.out.cell (World.block_lt_of_cell? w _ hw132_13)).trans hw132_13), ((HB.out.cell (World.block_lt_of_cell? w _ hw132_14)).trans hw132_14), ((HB.out.cell (World.block_lt_of_cell? w _ hw132_15)).trans hw132_15), ((HB.out.cell (World.block_lt_of_cell? w _ hw134_0)).trans hw134_0), ((HB.out.cell (World.block_lt_of_cell? w _ hw134_1)).trans hw134_1), ((HB.out.cell (World.block_lt_of_cell? w _ hw134_2)).trans hw134_2), ((HB.out.cell (World.block_lt_of_cell? w _ hw134_3)).trans hw134_3), ((HB.out.cell (World.block_lt_of_cell? w _ hw134_4)).trans hw134_4), ((HB.out.cell (World.block_lt_of_cell? w _ hw134_5)).trans hw134_5), ((HB.out.cell (World.block_lt_of_cell? w _ hw134_6)).trans hw134_6), ((HB.out.cell (World.block_lt_of_cell? w _ hw134_7)).trans hw134_7), ((HB.out.cell (World.block_lt_of_cell? w _ hw134_8)).trans hw134_8), ((HB.out.cell (World.block_lt_of_cell? w _ hw134_9)).trans hw134_9), ((HB.out.cell (World.block_lt_of_cell? w _ hw134_10)).trans hw134_10), ((HB.out.cell (World.block_lt_of_cell? w _ hw134_11)).trans hw134_11), ((HB.out.cell (World.block_lt_of_cell? w _ hw134_12)).trans hw134_12), ((HB.out.cell (World.block_lt_of_cell? w _ hw134_13)).trans hw134_13), ((HB.out.cell (World.block_lt_of_cell? w _ hw134_14)).trans hw134_14), ((HB.out.cell (World.block_lt_of_cell? w _ hw134_15)).trans hw134_15)⟩ (fun hHeld => ?_); refine with_tabW slots_Find.tab13 slots_Find.bits13 (fun HT_ HW_ => ?_)
         generalize w72.drew = w73 at HO128 BK120 BK121 BK129 HB hx132_0 hx132_1 hx132_10 hx132_11 hx132_12 hx132_13 hx132_14 hx132_15 hx132_2 hx132_3 hx132_4 hx132_5 hx132_6 hx132_7 hx132_8 hx132_9 hx134_0 hx134_1 hx134_10 hx134_11 hx134_12 hx134_13 hx134_14 hx134_15 hx134_2 hx134_3 hx134_4 hx134_5 hx134_6 hx134_7 hx134_8 hx134_9 hHeld ⊢
         refine pure_ (i := 0) (N := some 64) (v := ?_) (a' := ?_) #[true, false, false, false, false, false, false, false, false, false, false, false, false, false] rfl rfl (any_of HT_.out (by kernel_rfl)) (fun _ _ _ h => h) (Or.inl ⟨by rfl, ?_⟩) ?_ ?_
         rotate_left
         ·
          intro w'
          go_simp
          with_reducible rfl
         rotate_left
         ·
          simp only [Act.put, setIfInBounds_toArray, set_cons_zero, set_cons_succ, i64_w, i32_w]
          rfl
         refine pure_ (i := 2) (N := some 66) (v := ?_) (a' := ?_) #[true, false, true, false, false, false, false, false, false, false, false, false, false, false] rfl rfl (any_of HT_.out (by kernel_rfl)) (fun _ _ _ h => h) (Or.inl ⟨by rfl, ?_⟩) ?_ ?_
         rotate_left
         ·
          intro w'
          go_simp
          with_reducible rfl
         rotate_left
         ·
          simp only [Act.put, setIfInBounds_toArray, set_cons_zero, set_cons_succ, i64_w, i32_w]
          rfl
         refine pure_ (i := 6) (N := some 70) (v := ?_) (a' := ?_) #[true, false, true, false, false, false, true, false, false, false, false, false, false, false] rfl rfl (any_of HT_.out (by kernel_rfl)) (fun _ _ _ h => h) (Or.inl ⟨by rfl, ?_⟩) ?_ ?_
         rotate_left
         ·
          intro w'
          go_simp
          with_reducible rfl
         rotate_left
         ·
          simp only [Act.put, setIfInBounds_toArray, set_cons_zero, set_cons_succ, i64_w, i32_w]
          rfl
         refine pure_ (i := 8) (N := some 72) (v := ?_) (a' := ?_) #[true, false, true, false, false, false, true, false, true, false, false, false, false, false] rfl rfl (any_of HT_.out (by kernel_rfl)) (fun _ _ _ h => h) (Or.inl ⟨by rfl, ?_⟩) ?_ ?_
         rotate_left
         ·
          intro w'
          go_simp
          with_reducible rfl
         rotate_left
         ·
          simp only [Act.put, setIfInBounds_toArray, set_cons_zero, set_cons_succ, i64_w, i32_w]
          rfl
         refine take_ (i := 1) (N := some 65) (v := ?_) (a' := ?_) #[true, true, true, false, false, false, true, false, true, false, false, false, false, false] rfl rfl (take_ofW HT_.out HW_.out (by kernel_rfl)) (fun _ _ _ h => h) (Or.inl ⟨by rfl, ?_⟩) hHeld ?_ ?_
         rotate_left
         ·
          rintro w' ⟨s0, s1, s2, s3, s4, s5, s6, s7, s8, s9, s10, s11, s12, s13, s14, s15, s16, s17, s18, s19, s20, s21, s22, s23, s24, s25, s26, s27, s28, s29, s30, s31, s32, s33⟩
          go_simp
          with_reducible rfl
         rotate_left
         ·
          simp only [Act.put, setIfInBounds_toArray, set_cons_zero, set_cons_succ, i64_w, i32_w]
          rfl
         refine pure_ (i := 3) (N := some 67) (v := ?_) (a' := ?_) #[true, true, true, true, false, false, true, false, true, false, false, false, false, false] rfl rfl (any_of HT_.out (by kernel_rfl)) (fun _ _ _ h => h) (Or.inl ⟨by rfl, ?_⟩) ?_ ?_
         rotate_left
         ·
          intro w'
          go_simp
          with_reducible rfl
         rotate_left
         ·
          simp only [Act.put, setIfInBounds_toArray, set_cons_zero, set_cons_succ, i64_w, i32_w]
          rfl
         refine take_ (i := 4) (N := some 68) (v := ?_) (a' := ?_) #[true, true, true, true, true, false, true, false, true, false, false, false, false, false] rfl rfl (take_ofW HT_.out HW_.out (by kernel_rfl)) (fun _ _ _ h => h) (Or.inl ⟨by rfl, ?_⟩) hHeld ?_ ?_
         rotate_left
         ·
          rintro w' ⟨s0, s1, s2, s3, s4, s5, s6, s7, s8, s9, s10, s11, s12, s13, s14, s15, s16, s17, s18, s19, s20, s21, s22, s23, s24, s25, s26, s27, s28, s29, s30, s31, s32, s33⟩
          go_simp
          with_reducible rfl
         rotate_left
         ·
          simp only [Act.put, setIfInBounds_toArray, set_cons_zero, set_cons_succ, i64_w, i32_w]
          rfl
         refine take_ (i := 7) (N := some 71) (v := ?_) (a' := ?_) #[true, true, true, true, true, false, true, true, true, false, false, false, false, false] rfl rfl (take_ofW HT_.out HW_.out (by kernel_rfl)) (fun _ _ _ h => h) (Or.inl ⟨by rfl, ?_⟩) hHeld ?_ ?_
         rotate_left
         ·
          rintro w' ⟨s0, s1, s2, s3, s4, s5, s6, s7, s8, s9, s10, s11, s12, s13, s14, s15, s16, s17, s18, s19, s20, s21, s22, s23, s24, s25, s26, s27, s28, s29, s30, s31, s32, s33⟩
          go_simp
          with_reducible rfl
         rotate_left
         ·
          simp only [Act.put, setIfInBounds_toArray, set_cons_zero, set_cons_succ, i64_w, i32_w]
          rfl
         refine pure_ (i := 9) (N := some 73) (v := ?_) (a' := ?_) #[true, true, true, true, true, false, true, true, true, true, false, false, false, false] rfl rfl (any_of HT_.out (by kernel_rfl)) (fun _ _ _ h => h) (Or.inl ⟨by rfl, ?_⟩) ?_ ?_
         rotate_left
         ·
          intro w'
          go_simp
          with_reducible rfl
         rotate_left
         ·
          simp only [Act.put, setIfInBounds_toArray, set_cons_zero, set_cons_succ, i64_w, i32_w]
          rfl
         refine take_ (i := 10) (N := some 74) (v := ?_) (a' := ?_) #[true, true, true, true, true, false, true, true, true, true, true, false, false, false] rfl rfl (take_ofW HT_.out HW_.out (by kernel_rfl)) (fun _ _ _ h => h) (Or.inl ⟨by rfl, ?_⟩) hHeld ?_ ?_
         rotate_left
         ·
          rintro w' ⟨s0, s1, s2, s3, s4, s5, s6, s7, s8, s9, s10, s11, s12, s13, s14, s15, s16, s17, s18, s19, s20, s21, s22, s23, s24, s25, s26, s27, s28, s29, s30, s31, s32, s33⟩
          go_simp
          with_reducible rfl
         rotate_left
         ·
          simp only [Act.put, setIfInBounds_toArray, set_cons_zero, set_cons_succ, i64_w, i32_w]
          rfl
         refine one_ (i := 5) (N := some 69) #[true, true, true, true, true, true, true, true, true, true, true, false, false, false] rfl rfl (one_of HT_.out (by kernel_rfl)) (by decide) (fun K hK => ?_)
         refine goes_ Try.func37 (by kernel_rfl) rfl #[.agg #[.int .u8 ((rd_T42 l0_1 (Go.bits .xor .i64 t123 1)).f0), .int .u8 ((rd_T42 l0_1 (Go.bits .xor .i64 t123 1)).f1.f0), .int .u8 ((rd_T42 l0_1 (Go.bits .xor .i64 t123 1)).f1.f1), .int .u8 ((rd_T42 l0_1 (Go.bits .xor .i64 t123 1)).f1.f2), .int .u8 ((rd_T42 l0_1 (Go.bits .xor .i64 t123 1)).f1.f3), .int .u8 ((rd_T42 l0_1 (Go.bits .xor .i64 t123 1)).f1.f4), .int .u8 ((rd_T42 l0_1 (Go.bits .xor .i64 t123 1)).f1.f5), .int .u8 ((rd_T42 l0_1 (Go.bits .xor .i64 t123 1)).f1.f6), .int .u8 ((rd_T42 l0_1 (Go.bits .xor .i64 t123 1)).f1.f7), .int .u8 ((rd_T42 l0_1 (Go.bits .xor .i64 t123 1)).f1.f8), .int .u8 ((rd_T42 l0_1 (Go.bits .xor .i64 t123 1)).f1.f9), .int .u8 ((rd_T42 l0_1 (Go.bits .xor .i64 t123 1)).f1.f10), .int .u8 ((rd_T42 l0_1 (Go.bits .xor .i64 t123 1)).f1.f11), .int .u8 ((rd_T42 l0_1 (Go.bits .xor .i64 t123 1)).f1.f12), .int .u8 ((rd_T42 l0_1 (Go.bits .xor .i64 t123 1)).f1.f13), .int .u8 ((rd_T42 l0_1 (Go.bits .xor .i64 t123 1)).f1.f14)]] (by rfl) rfl rfl (by (try simp only [List.map_toArray, List.map_cons, List.map_nil]); first | done | rfl | (simp only [List.length_drop, List.length_take]; rfl)) ?_
         with_reducible refine (slots_priority.calls ((rd_T42 l0_1 (Go.bits .xor .i64 t123 1)).f0) ((rd_T42 l0_1 (Go.bits .xor .i64 t123 1)).f1.f0) ((rd_T42 l0_1 (Go.bits .xor .i64 t123 1)).f1.f1) ((rd_T42 l0_1 (Go.bits .xor .i64 t123 1)).f1.f2) ((rd_T42 l0_1 (Go.bits .xor .i64 t123 1)).f1.f3) ((rd_T42 l0_1 (Go.bits .xor .i64 t123 1)).f1.f4) ((rd_T42 l0_1 (Go.bits .xor .i64 t123 1)).f1.f5) ((rd_T42 l0_1 (Go.bits .xor .i64 t123 1)).f1.f6) ((rd_T42 l0_1 (Go.bits .xor .i64 t123 1)).f1.f7) ((rd_T42 l0_1 (Go.bits .xor .i64 t123 1)).f1.f8) ((rd_T42 l0_1 (Go.bits .xor .i64 t123 1)).f1.f9) ((rd_T42 l0_1 (Go.bits .xor .i64 t123 1)).f1.f10) ((rd_T42 l0_1 (Go.bits .xor .i64 t123 1)).f1.f11) ((rd_T42 l0_1 (Go.bits .xor .i64 t123 1)).f1.f12) ((rd_T42 l0_1 (Go.bits .xor .i64 t123 1)).f1.f13) ((rd_T42 l0_1 (Go.bits .xor .i64 t123 1)).f1.f14) t133 _ A53.out).mono ?_
         rintro e w74 ⟨rfl, hb⟩
         refine ⟨_, rfl, ?_⟩
         have n0_ := Aside0.mk (Kd.R_below (by (with_reducible repeat (first | apply Kd.R_alloc | apply Kd.R_drewN | apply Kd.R_drew)); exact HO128.out) hb)
         have n1_ := Aside0.mk (blk_below (g := gb120) (o := .cells #[.int .i64 a0_0, .slice (some ad130) l0_1.length c0_1] 24 (0, 0)) (by (with_reducible repeat (first | refine blk_drewN ?_ _ | refine blk_drew ?_ | refine blk_alloc ?_ _)); exact BK120.out) hb)
         have n2_ := Aside0.mk (blk_below (g := gb121) (o := .cells #[.int .i64 0, .slice none 0 0] 24 (0, 0)) (by (with_reducible repeat (first | refine blk_drewN ?_ _ | refine blk_drew ?_ | refine blk_alloc ?_ _)); exact BK121.out) hb)
         have n3_ := Aside0.mk (blk_below (g := gb129) (o := .cells #[.int .i64 a0_0, .slice Ao67 t126.length co67] 24 (0, 0)) (by (with_reducible repeat (first | refine blk_drewN ?_ _ | refine blk_drew ?_ | refine blk_alloc ?_ _)); exact BK129.out) hb)
         have n4_ := Aside0.mk (below_step (by repeat (first | (with_reducible first | exact HB.out | apply below_alloc | apply bN_ | apply below_drew1 | refine below_set ?_ GE120.out | refine below_set ?_ GE121.out | refine below_set ?_ GE129.out) | exact HB.out)) hb)
         clear HO128
         clear BK120
         clear BK121
         clear BK129
         clear HB
         have HO128 := n0_
         have BK120 := n1_
         have BK121 := n2_
         have BK129 := n3_
         have HB := n4_
         clear n0_ n1_ n2_ n3_ n4_
         (try clear hb)
         (try clear hb2)
         (try clear hk)
         (try clear hi)
         refine hK.out _ _ ⟨(blk_cell BK120.out 0).trans rfl, (blk_cell BK120.out 1).trans rfl, ((HB.out.cell (World.block_lt_of_cell? w _ hw132_0)).trans hw132_0), ((HB.out.cell (World.block_lt_of_cell? w _ hw132_1)).trans hw132_1), ((HB.out.cell (World.block_lt_of_cell? w _ hw132_2)).trans hw132_2), ((HB.out.cell (World.block_lt_of_cell? w _ hw132_3)).trans hw132_3), ((HB.out.cell (World.block_lt_of_cell? w _ hw132_4)).trans hw132_4), ((HB.out.cell (World.block_lt_of_cell? w _ hw132_5)).trans hw132_5), ((HB.out.cell (World.block_lt_of_cell? w _ hw132_6)).trans hw132_6), ((HB.out.cell (World.block_lt_of_cell? w _ hw132_7)).trans hw132_7), ((HB.out.cell (World.block_lt_of_cell? w _ hw132_8)).trans hw132_8), ((HB.out.cell (World.block_lt_of_cell? w _ hw132_9)).trans hw132_9), ((HB.out.cell (World.block_lt_of_cell? w _ hw132_10)).trans hw132_10), ((HB.out.cell (World.block_lt_of_cell? w _ hw132_11)).trans hw132_11), ((HB.out.cell (World.block_lt_of_cell? w _ hw132_12)).trans hw132_12), ((HB.out.cell (World.block_lt_of_cell? w _ hw132_13)).trans hw132_13), ((HB.out.cell (World.block_lt_of_cell? w _ hw132_14)).trans hw132_14), ((HB.out.cell (World.block_lt_of_cell? w _ hw132_15)).trans hw132_15), ((HB.out.cell (World.block_lt_of_cell? w _ hw134_0)).trans hw134_0), ((HB.out.cell (World.block_lt_of_cell? w _ hw134_1)).trans hw134_1), ((HB.out.cell (World.block_lt_of_cell? w _ hw134_2)).trans hw134_2), ((HB.out.cell (World.block_lt_of_cell? w _ hw134_3)).trans hw134_3), ((HB.out.cell (World.block_lt_of_cell? w _ hw134_4)).trans hw134_4), ((HB.out.cell (World.block_lt_of_cell? w _ hw134_5)).trans hw134_5), ((HB.out.cell (World.block_lt_of_cell? w _ hw134_6)).trans hw134_6), ((HB.out.cell (World.block_lt_of_cell? w _ hw134_7)).trans hw134_7), ((HB.out.cell (World.block_lt_of_cell? w _ hw134_8)).trans hw134_8), ((HB.out.cell (World.block_lt_of_cell? w _ hw134_9)).trans hw134_9), ((HB.out.cell (World.block_lt_of_cell? w _ hw134_10)).trans hw134_10), ((HB.out.cell (World.block_lt_of_cell? w _ hw134_11)).trans hw134_11), ((HB.out.cell (World.block_lt_of_cell? w _ hw134_12)).trans hw134_12), ((HB.out.cell (World.block_lt_of_cell? w _ hw134_13)).trans hw134_13), ((HB.out.cell (World.block_lt_of_cell? w _ hw134_14)).trans hw134_14), ((HB.out.cell (World.block_lt_of_cell? w _ hw134_15)).trans hw134_15)⟩ (fun hHeld => ?_)
         clear hK K
         refine norm_ (a' := ?_) ?_ ?_
         rotate_left
         ·
          show Act.put _ (some 69) _ = _
          simp only [Act.put, setIfInBounds_toArray, set_cons_zero, set_cons_succ, i64_w, i32_w]
          rfl
         refine one_ (i := 11) (N := some 75) #[true, true, true, true, true, true, true, true, true, true, true, true, false, false] rfl rfl (one_of HT_.out (by kernel_rfl)) (by decide) (fun K hK => ?_)
         refine goes_ Try.func37 (by kernel_rfl) rfl #[.agg #[.int .u8 ((rd_T42 l0_1 t123).f0), .int .u8 ((rd_T42 l0_1 t123).f1.f0), .int .u8 ((rd_T42 l0_1 t123).f1.f1), .int .u8 ((rd_T42 l0_1 t123).f1.f2), .int .u8 ((rd_T42 l0_1 t123).f1.f3), .int .u8 ((rd_T42 l0_1 t123).f1.f4), .int .u8 ((rd_T42 l0_1 t123).f1.f5), .int .u8 ((rd_T42 l0_1 t123).f1.f6), .int .u8 ((rd_T42 l0_1 t123).f1.f7), .int .u8 ((rd_T42 l0_1 t123).f1.f8), .int .u8 ((rd_T42 l0_1 t123).f1.f9), .int .u8 ((rd_T42 l0_1 t123).f1.f10), .int .u8 ((rd_T42 l0_1 t123).f1.f11), .int .u8 ((rd_T42 l0_1 t123).f1.f12), .int .u8 ((rd_T42 l0_1 t123).f1.f13), .int .u8 ((rd_T42 l0_1 t123).f1.f14)]] (by rfl) rfl rfl (by (try simp only [List.map_toArray, List.map_cons, List.map_nil]); first | done | rfl | (simp only [List.length_drop, List.length_take]; rfl)) ?_
         with_reducible refine (slots_priority.calls ((rd_T42 l0_1 t123).f0) ((rd_T42 l0_1 t123).f1.f0) ((rd_T42 l0_1 t123).f1.f1) ((rd_T42 l0_1 t123).f1.f2) ((rd_T42 l0_1 t123).f1.f3) ((rd_T42 l0_1 t123).f1.f4) ((rd_T42 l0_1 t123).f1.f5) ((rd_T42 l0_1 t123).f1.f6) ((rd_T42 l0_1 t123).f1.f7) ((rd_T42 l0_1 t123).f1.f8) ((rd_T42 l0_1 t123).f1.f9) ((rd_T42 l0_1 t123).f1.f10) ((rd_T42 l0_1 t123).f1.f11) ((rd_T42 l0_1 t123).f1.f12) ((rd_T42 l0_1 t123).f1.f13) ((rd_T42 l0_1 t123).f1.f14) t135 _ A54.out).mono ?_
         rintro e w75 ⟨rfl, hb⟩
         refine ⟨_, rfl, ?_⟩
         have n0_ := Aside0.mk (Kd.R_below (by (with_reducible repeat (first | apply Kd.R_alloc | apply Kd.R_drewN | apply Kd.R_drew)); exact HO128.out) hb)
         have n1_ := Aside0.mk (blk_below (g := gb120) (o := .cells #[.int .i64 a0_0, .slice (some ad130) l0_1.length c0_1] 24 (0, 0)) (by (with_reducible repeat (first | refine blk_drewN ?_ _ | refine blk_drew ?_ | refine blk_alloc ?_ _)); exact BK120.out) hb)
         have n2_ := Aside0.mk (blk_below (g := gb121) (o := .cells #[.int .i64 0, .slice none 0 0] 24 (0, 0)) (by (with_reducible repeat (first | refine blk_drewN ?_ _ | refine blk_drew ?_ | refine blk_alloc ?_ _)); exact BK121.out) hb)
         have n3_ := Aside0.mk (blk_below (g := gb129) (o := .cells #[.int .i64 a0_0, .slice Ao67 t126.length co67] 24 (0, 0)) (by (with_reducible repeat (first | refine blk_drewN ?_ _ | refine blk_drew ?_ | refine blk_alloc ?_ _)); exact BK129.out) hb)
         have n4_ := Aside0.mk (below_step (by repeat (first | (with_reducible first | exact HB.out | apply below_alloc | apply bN_ | apply below_drew1 | refine below_set ?_ GE120.out | refine below_set ?_ GE121.out | refine below_set ?_ GE129.out) | exact HB.out)) hb)
         clear HO128
         clear BK120
         clear BK121
         clear BK129
         clear HB
         have HO128 := n0_
         have BK120 := n1_
         have BK121 := n2_
         have BK129 := n3_
         have HB := n4_
         clear n0_ n1_ n2_ n3_ n4_
         (try clear hb)
         (try clear hb2)
         (try clear hk)
         (try clear hi)
         refine hK.out _ _ ⟨(blk_cell BK120.out 0).trans rfl, (blk_cell BK120.out 1).trans rfl, ((HB.out.cell (World.block_lt_of_cell? w _ hw132_0)).trans hw132_0), ((HB.out.cell (World.block_lt_of_cell? w _ hw132_1)).trans hw132_1), ((HB.out.cell (World.block_lt_of_cell? w _ hw132_2)).trans hw132_2), ((HB.out.cell (World.block_lt_of_cell? w _ hw132_3)).trans hw132_3), ((HB.out.cell (World.block_lt_of_cell? w _ hw132_4)).trans hw132_4), ((HB.out.cell (World.block_lt_of_cell? w _ hw132_5)).trans hw132_5), ((HB.out.cell (World.block_lt_of_cell? w _ hw132_6)).trans hw132_6), ((HB.out.cell (World.block_lt_of_cell? w _ hw132_7)).trans hw132_7), ((HB.out.cell (World.block_lt_of_cell? w _ hw132_8)).trans hw132_8), ((HB.out.cell (World.block_lt_of_cell? w _ hw132_9)).trans hw132_9), ((HB.out.cell (World.block_lt_of_cell? w _ hw132_10)).trans hw132_10), ((HB.out.cell (World.block_lt_of_cell? w _ hw132_11)).trans hw132_11), ((HB.out.cell (World.block_lt_of_cell? w _ hw132_12)).trans hw132_12), ((HB.out.cell (World.block_lt_of_cell? w _ hw132_13)).trans hw132_13), ((HB.out.cell (World.block_lt_of_cell? w _ hw132_14)).trans hw132_14), ((HB.out.cell (World.block_lt_of_cell? w _ hw132_15)).trans hw132_15), ((HB.out.cell (World.block_lt_of_cell? w _ hw134_0)).trans hw134_0), ((HB.out.cell (World.block_lt_of_cell? w _ hw134_1)).trans hw134_1), ((HB.out.cell (World.block_lt_of_cell? w _ hw134_2)).trans hw134_2), ((HB.out.cell (World.block_lt_of_cell? w _ hw134_3)).trans hw134_3), ((HB.out.cell (World.block_lt_of_cell? w _ hw134_4)).trans hw134_4), ((HB.out.cell (World.block_lt_of_cell? w _ hw134_5)).trans hw134_5), ((HB.out.cell (World.block_lt_of_cell? w _ hw134_6)).trans hw134_6), ((HB.out.cell (World.block_lt_of_cell? w _ hw134_7)).trans hw134_7), ((HB.out.cell (World.block_lt_of_cell? w _ hw134_8)).trans hw134_8), ((HB.out.cell (World.block_lt_of_cell? w _ hw134_9)).trans hw134_9), ((HB.out.cell (World.block_lt_of_cell? w _ hw134_10)).trans hw134_10), ((HB.out.cell (World.block_lt_of_cell? w _ hw134_11)).trans hw134_11), ((HB.out.cell (World.block_lt_of_cell? w _ hw134_12)).trans hw134_12), ((HB.out.cell (World.block_lt_of_cell? w _ hw134_13)).trans hw134_13), ((HB.out.cell (World.block_lt_of_cell? w _ hw134_14)).trans hw134_14), ((HB.out.cell (World.block_lt_of_cell? w _ hw134_15)).trans hw134_15)⟩ (fun hHeld => ?_)
         clear hK K
         refine norm_ (a' := ?_) ?_ ?_
         rotate_left
         ·
          show Act.put _ (some 75) _ = _
          simp only [Act.put, setIfInBounds_toArray, set_cons_zero, set_cons_succ, i64_w, i32_w]
          rfl
         refine pure_ (i := 12) (N := some 76) (v := ?_) (a' := ?_) #[true, true, true, true, true, true, true, true, true, true, true, true, true, false] rfl rfl (any_of HT_.out (by kernel_rfl)) (fun _ _ _ h => h) (Or.inl ⟨by rfl, ?_⟩) ?_ ?_
         rotate_left
         ·
          intro w'
          go_simp
          with_reducible rfl
         rotate_left
         ·
          simp only [Act.put, setIfInBounds_toArray, set_cons_zero, set_cons_succ, i64_w, i32_w]
          rfl
         refine pure_ (i := 13) (N := some 63) (v := ?_) (a' := ?_) #[true, true, true, true, true, true, true, true, true, true, true, true, true, true] rfl rfl (any_of HT_.out (by kernel_rfl)) (fun _ _ _ h => h) (Or.inl ⟨by rfl, ?_⟩) ?_ ?_
         rotate_left
         ·
          intro w'
          go_simp
          with_reducible rfl
         rotate_left
         ·
          simp only [Act.put, setIfInBounds_toArray, set_cons_zero, set_cons_succ, i64_w, i32_w]
          rfl
         refine done_ (done_of HT_.out (by kernel_rfl)) ?_
         go_upto_if 63 with (fail)
         (with_reducible first | refine then_id_ ?_ | (refine wp_tail_ ?_; intro Kt_ hKt_))
         go_cut [8, 63] (fun v8 v63 wc => ∃ (kq : Nat) (x8_54 : Int), v8 = .int .i64 x8_54 ∧ Aside0 (slots_Find.j0 kq x8_54 t125 a0_0 t126 = some (r1, r2, r3, r4)) ∧ Aside0 (kq ≤ k) ∧ Aside0 (Kd.R k42 42 wc w.heap.size (fun _ => True) (.slice Ao67 t126.length co67) t126) ∧ Aside0 (wc.heap[gb120]? = some (.cells #[.int .i64 a0_0, (.slice (some ad130) l0_1.length c0_1)] 24 (0, 0))) ∧ Aside0 (wc.heap[gb121]? = some (.cells #[.int .i64 0, (.slice none 0 0)] 24 (0, 0))) ∧ Aside0 (wc.heap[gb129]? = some (.cells #[.int .i64 a0_0, (.slice Ao67 t126.length co67)] 24 (0, 0))) ∧ Aside0 (Below w.heap.size w wc))
         case first =>
          have H := HC55.out
          clear HC55
          by_cases c76 : t133 < t135
          ·
           rw [if_pos c76] at H
           have c76b0 : decide (t133 < t135) = true := decide_eq_true c76
           clear c76
           (first | rw [c76b0] | (simp only [i64_w, i32_w]; rw [c76b0]) | skip)
           have H' := Aside0.mk H
           clear H
           go_wp2
           go_meet
           case rel => exact ⟨_, (Go.bits .xor .i64 t123 1), (by first | rfl | (simp; done) | (simp [*]; done)), H', ⟨by first | omega | exact Nat.le_refl _⟩, ⟨by (with_reducible repeat (first | apply Kd.R_alloc | apply Kd.R_drewN | apply Kd.R_drew)); exact HO128.out⟩, ⟨by (with_reducible repeat (first | refine blk_drewN ?_ _ | refine blk_drew ?_ | refine blk_alloc ?_ _)); exact BK120.out⟩, ⟨by (with_reducible repeat (first | refine blk_drewN ?_ _ | refine blk_drew ?_ | refine blk_alloc ?_ _)); exact BK121.out⟩, ⟨by (with_reducible repeat (first | refine blk_drewN ?_ _ | refine blk_drew ?_ | refine blk_alloc ?_ _)); exact BK129.out⟩, ⟨by repeat (first | (with_reducible first | exact HB.out | apply below_alloc | apply bN_ | apply below_drew1 | refine below_set ?_ GE120.out | refine below_set ?_ GE121.out | refine below_set ?_ GE129.out) | exact HB.out)⟩⟩
          ·
           rw [if_neg c76] at H
           have c76b0 : decide (t133 < t135) = false := decide_eq_false c76
           clear c76
           (first | rw [c76b0] | (simp only [i64_w, i32_w]; rw [c76b0]) | skip)
           have H' := Aside0.mk H
           clear H
           go_wp2
           go_meet
           case rel => exact ⟨_, (t123), (by first | rfl | (simp; done) | (simp [*]; done)), H', ⟨by first | omega | exact Nat.le_refl _⟩, ⟨by (with_reducible repeat (first | apply Kd.R_alloc | apply Kd.R_drewN | apply Kd.R_drew)); exact HO128.out⟩, ⟨by (with_reducible repeat (first | refine blk_drewN ?_ _ | refine blk_drew ?_ | refine blk_alloc ?_ _)); exact BK120.out⟩, ⟨by (with_reducible repeat (first | refine blk_drewN ?_ _ | refine blk_drew ?_ | refine blk_alloc ?_ _)); exact BK121.out⟩, ⟨by (with_reducible repeat (first | refine blk_drewN ?_ _ | refine blk_drew ?_ | refine blk_alloc ?_ _)); exact BK129.out⟩, ⟨by repeat (first | (with_reducible first | exact HB.out | apply below_alloc | apply bN_ | apply below_drew1 | refine below_set ?_ GE120.out | refine below_set ?_ GE121.out | refine below_set ?_ GE129.out) | exact HB.out)⟩⟩
         case rest =>
          (try (refine hKt_ _ _ ?_; clear hKt_; clear Kt_))
          clear HC55
          try clear p1
          try clear q1
          try clear hx1
          try clear p2
          try clear c3
          try clear c7
          try clear p13
          try clear q13
          try clear hx13
          try clear c36
          try clear c37
          try clear c70
          try clear c76
          try clear c76b0
          try clear hcz71_0
          try clear hcz71_1
          try clear hfz71_0
          try clear hfz71_1
          try clear hx130_0
          try clear hx130_1
          try clear hx130_10
          try clear hx130_11
          try clear hx130_12
          try clear hx130_13
          try clear hx130_14
          try clear hx130_15
          try clear hx130_2
          try clear hx130_3
          try clear hx130_4
          try clear hx130_5
          try clear hx130_6
          try clear hx130_7
          try clear hx130_8
          try clear hx130_9
          try clear hx131_0
          try clear hx131_1
          try clear hx131_10
          try clear hx131_11
          try clear hx131_12
          try clear hx131_13
          try clear hx131_14
          try clear hx131_15
          try clear hx131_2
          try clear hx131_3
          try clear hx131_4
          try clear hx131_5
          try clear hx131_6
          try clear hx131_7
          try clear hx131_8
          try clear hx131_9
          try clear hx132_0
          try clear hx132_1
          try clear hx132_10
          try clear hx132_11
          try clear hx132_12
          try clear hx132_13
          try clear hx132_14
          try clear hx132_15
          try clear hx132_2
          try clear hx132_3
          try clear hx132_4
          try clear hx132_5
          try clear hx132_6
          try clear hx132_7
          try clear hx132_8
          try clear hx132_9
          try clear hx134_0
          try clear hx134_1
          try clear hx134_10
          try clear hx134_11
          try clear hx134_12
          try clear hx134_13
          try clear hx134_14
          try clear hx134_15
          try clear hx134_2
          try clear hx134_3
          try clear hx134_4
          try clear hx134_5
          try clear hx134_6
          try clear hx134_7
          try clear hx134_8
          try clear hx134_9
          try clear p130
          try clear p131
          try clear p132
          try clear p134
          try clear q130
          try clear q131
          try clear q132
          try clear q134
          obtain ⟨kq, x8_54, rfl, HA, HJ54, HO_130001, BK120, BK121, BK129, HB⟩ := hcut
          cases kq with
          | zero => exact absurd HA.out (by simp [slots_Find.j0])
          | succ kj54 =>
           have H := HA.out
           clear HA
           simp only [slots_Find.j0] at H
           by_cases c77 : 0 ≤ x8_54
           ·
            rw [if_pos c77] at H
            have c77b0 : decide (0 ≤ x8_54) = true := decide_eq_true c77
            clear c77
            by_cases c78 : x8_54 < (t126.length : Int)
            ·
             rw [if_pos c78] at H
             have c78b0 : decide (x8_54 < (t126.length : Int)) = true := decide_eq_true c78
             clear c78
             obtain ⟨y136, hy136⟩ : ∃ y_ : List (S42), y_ = (t126.set (x8_54 : Int).toNat (⟨t125, (⟨0, 0, 0, 0, 0, 0, 0, 0, 0, 0, 0, 0, 0, 0, 0⟩ : S40)⟩ : S42)) := ⟨_, rfl⟩
             replace H : (some (a0_0, y136, x8_54, 0)) = some (r1, r2, r3, r4) := by first | (rw [hy136]; with_reducible exact H) | (have H2_ := (Option.bind_some _ _).symm.trans H; rw [hy136]; with_reducible exact H2_) | (have H2_ := (Option.bind_some _ _).symm.trans H; with_reducible exact H2_) | with_reducible exact H | (rw [hy136]; exact H) | exact H
             have Ny136 := Aside0.mk hy136
             clear hy136
             simp only [Option.some.injEq, Prod.mk.injEq] at H
             obtain ⟨rfl, rfl, rfl, rfl⟩ := H
             have hnb80 := NB129_120.out
             have hnc80 := NB120_129.out
             have hnb81 := NB129_121.out
             have hnc81 := NB121_129.out
             have hcz82_0 : wc.cell? ⟨gb129, 0, none⟩ = some (.int .i64 a0_0) := (blk_cell BK129.out 0).trans rfl
             have hcz82_1 : wc.cell? ⟨gb129, 1, none⟩ = some (.slice Ao67 t126.length co67) := (blk_cell BK129.out 1).trans rfl
             have hfz82_0 := blk_frozen BK129.out 0
             have hfz82_1 := blk_frozen BK129.out 1
             have p79 : 0 ≤ (x8_54 : Int) := of_decide_eq_true (by first | (with_reducible assumption) | assumption)
             have q79 : (x8_54 : Int) < ((t126.length : Int) : Int) := of_decide_eq_true (by first | (with_reducible assumption) | assumption)
             obtain ⟨go79, co79, eo79, gb79, gl79, cl79, HG79⟩ := Kd.R_form HO_130001.out (by omega)
             (first | cases eo79 | (injection eo79 with ea_ en_ ec_; (first | subst ea_ | (injection ea_ with ea_; subst ea_)); subst ec_; clear en_))
             have GB79 := Aside0.mk gb79
             have GG79 := Aside0.mk HG79
             clear gb79 gl79 HG79
             obtain ⟨ce79, hcl79, hM79, hcc79, hfr79⟩ := Kd.R_elem HO_130001.out z42 (x8_54 : Int) p79 q79
             obtain rfl := k42_openM hM79
             have hx79_0 : wc.cell? ⟨go79, (x8_54 : Int).toNat * 16, none⟩ = some (.int .u8 ((rd_T42 t126 x8_54).f0)) := hcc79 0 _ rfl
             have hx79_1 : wc.cell? ⟨go79, (x8_54 : Int).toNat * 16 + 1, none⟩ = some (.int .u8 ((rd_T42 t126 x8_54).f1.f0)) := hcc79 1 _ rfl
             have hx79_2 : wc.cell? ⟨go79, (x8_54 : Int).toNat * 16 + 2, none⟩ = some (.int .u8 ((rd_T42 t126 x8_54).f1.f1)) := hcc79 2 _ rfl
             have hx79_3 : wc.cell? ⟨go79, (x8_54 : Int).toNat * 16 + 3, none⟩ = some (.int .u8 ((rd_T42 t126 x8_54).f1.f2)) := hcc79 3 _ rfl
             have hx79_4 : wc.cell? ⟨go79, (x8_54 : Int).toNat * 16 + 4, none⟩ = some (.int .u8 ((rd_T42 t126 x8_54).f1.f3)) := hcc79 4 _ rfl
             have hx79_5 : wc.cell? ⟨go79, (x8_54 : Int).toNat * 16 + 5, none⟩ = some (.int .u8 ((rd_T42 t126 x8_54).f1.f4)) := hcc79 5 _ rfl
             have hx79_6 : wc.cell? ⟨go79, (x8_54 : Int).toNat * 16 + 6, none⟩ = some (.int .u8 ((rd_T42 t126 x8_54).f1.f5)) := hcc79 6 _ rfl
             have hx79_7 : wc.cell? ⟨go79, (x8_54 : Int).toNat * 16 + 7, none⟩ = some (.int .u8 ((rd_T42 t126 x8_54).f1.f6)) := hcc79 7 _ rfl
             have hx79_8 : wc.cell? ⟨go79, (x8_54 : Int).toNat * 16 + 8, none⟩ = some (.int .u8 ((rd_T42 t126 x8_54).f1.f7)) := hcc79 8 _ rfl
             have hx79_9 : wc.cell? ⟨go79, (x8_54 : Int).toNat * 16 + 9, none⟩ = some (.int .u8 ((rd_T42 t126 x8_54).f1.f8)) := hcc79 9 _ rfl
             have hx79_10 : wc.cell? ⟨go79, (x8_54 : Int).toNat * 16 + 10, none⟩ = some (.int .u8 ((rd_T42 t126 x8_54).f1.f9)) := hcc79 10 _ rfl
             have hx79_11 : wc.cell? ⟨go79, (x8_54 : Int).toNat * 16 + 11, none⟩ = some (.int .u8 ((rd_T42 t126 x8_54).f1.f10)) := hcc79 11 _ rfl
             have hx79_12 : wc.cell? ⟨go79, (x8_54 : Int).toNat * 16 + 12, none⟩ = some (.int .u8 ((rd_T42 t126 x8_54).f1.f11)) := hcc79 12 _ rfl
             have hx79_13 : wc.cell? ⟨go79, (x8_54 : Int).toNat * 16 + 13, none⟩ = some (.int .u8 ((rd_T42 t126 x8_54).f1.f12)) := hcc79 13 _ rfl
             have hx79_14 : wc.cell? ⟨go79, (x8_54 : Int).toNat * 16 + 14, none⟩ = some (.int .u8 ((rd_T42 t126 x8_54).f1.f13)) := hcc79 14 _ rfl
             have hx79_15 : wc.cell? ⟨go79, (x8_54 : Int).toNat * 16 + 15, none⟩ = some (.int .u8 ((rd_T42 t126 x8_54).f1.f14)) := hcc79 15 _ rfl
             have hf79_0 : wc.frozen? ⟨go79, (x8_54 : Int).toNat * 16, none⟩ = false := hfr79 0
             have hf79_1 : wc.frozen? ⟨go79, (x8_54 : Int).toNat * 16 + 1, none⟩ = false := hfr79 1
             have hf79_2 : wc.frozen? ⟨go79, (x8_54 : Int).toNat * 16 + 2, none⟩ = false := hfr79 2
             have hf79_3 : wc.frozen? ⟨go79, (x8_54 : Int).toNat * 16 + 3, none⟩ = false := hfr79 3
             have hf79_4 : wc.frozen? ⟨go79, (x8_54 : Int).toNat * 16 + 4, none⟩ = false := hfr79 4
             have hf79_5 : wc.frozen? ⟨go79, (x8_54 : Int).toNat * 16 + 5, none⟩ = false := hfr79 5
             have hf79_6 : wc.frozen? ⟨go79, (x8_54 : Int).toNat * 16 + 6, none⟩ = false := hfr79 6
             have hf79_7 : wc.frozen? ⟨go79, (x8_54 : Int).toNat * 16 + 7, none⟩ = false := hfr79 7
             have hf79_8 : wc.frozen? ⟨go79, (x8_54 : Int).toNat * 16 + 8, none⟩ = false := hfr79 8
             have hf79_9 : wc.frozen? ⟨go79, (x8_54 : Int).toNat * 16 + 9, none⟩ = false := hfr79 9
             have hf79_10 : wc.frozen? ⟨go79, (x8_54 : Int).toNat * 16 + 10, none⟩ = false := hfr79 10
             have hf79_11 : wc.frozen? ⟨go79, (x8_54 : Int).toNat * 16 + 11, none⟩ = false := hfr79 11
             have hf79_12 : wc.frozen? ⟨go79, (x8_54 : Int).toNat * 16 + 12, none⟩ = false := hfr79 12
             have hf79_13 : wc.frozen? ⟨go79, (x8_54 : Int).toNat * 16 + 13, none⟩ = false := hfr79 13
             have hf79_14 : wc.frozen? ⟨go79, (x8_54 : Int).toNat * 16 + 14, none⟩ = false := hfr79 14
             have hf79_15 : wc.frozen? ⟨go79, (x8_54 : Int).toNat * 16 + 15, none⟩ = false := hfr79 15
             clear hcl79 hcc79 hfr79 hM79
             replace p79 := eq_true p79
             replace q79 := eq_true q79
             have HX83 := Aside0.mk (show Kd.R k42 42 wc w.heap.size (fun _ => True) (.slice (some ⟨go79, 0, none⟩) t126.length co67) t126 from (by (with_reducible repeat (first | apply Kd.R_alloc | apply Kd.R_drewN | apply Kd.R_drew)); exact HO_130001.out))
             obtain ⟨ce83, hcl83, hM83, hcc83, hfr83⟩ := Kd.R_elem HX83.out z42 (x8_54 : Int) (of_decide_eq_true (by first | (with_reducible assumption) | assumption)) (by have h_ : (x8_54 : Int) < ((t126.length : Int) : Int) := of_decide_eq_true (by first | (with_reducible assumption) | assumption); first | exact h_ | (have e_ := (Kd.R_reads' HO_130001.out).1; omega) | simpa using h_)
             obtain rfl := k42_openM hM83
             have HP83 := Kd.R_seg HX83.out (x8_54 : Int) (of_decide_eq_true (by first | (with_reducible assumption) | assumption)) (by have h_ : (x8_54 : Int) < ((t126.length : Int) : Int) := of_decide_eq_true (by first | (with_reducible assumption) | assumption); first | exact h_ | (have e_ := (Kd.R_reads' HO_130001.out).1; omega) | simpa using h_) (seg := [.int .u8 t125, .int .u8 0, .int .u8 0, .int .u8 0, .int .u8 0, .int .u8 0, .int .u8 0, .int .u8 0, .int .u8 0, .int .u8 0, .int .u8 0, .int .u8 0, .int .u8 0, .int .u8 0, .int .u8 0, .int .u8 0]) (j := 0) hcl83 hcc83 (show 16 ≤ 16 from by decide) (x' := (⟨t125, (⟨0, 0, 0, 0, 0, 0, 0, 0, 0, 0, 0, 0, 0, 0, 0⟩ : S40)⟩ : S42)) (k42_mkM _ _ _ (⟨t125, (⟨0, 0, 0, 0, 0, 0, 0, 0, 0, 0, 0, 0, 0, 0, 0⟩ : S40)⟩ : S42) ) (fun _ hk => hk)
             have hx83_0 := hcc83 0 _ rfl
             (try simp only [show (k42).sz = 16 from rfl, Nat.mul_one, Nat.add_zero] at hx83_0)
             have hf83_0 := hfr83 0
             (try simp only [show (k42).sz = 16 from rfl, Nat.mul_one, Nat.add_zero] at hf83_0)
             have hx83_1 := hcc83 1 _ rfl
             (try simp only [show (k42).sz = 16 from rfl, Nat.mul_one, Nat.add_zero] at hx83_1)
             have hf83_1 := hfr83 1
             (try simp only [show (k42).sz = 16 from rfl, Nat.mul_one, Nat.add_zero] at hf83_1)
             have hx83_2 := hcc83 2 _ rfl
             (try simp only [show (k42).sz = 16 from rfl, Nat.mul_one, Nat.add_zero] at hx83_2)
             have hf83_2 := hfr83 2
             (try simp only [show (k42).sz = 16 from rfl, Nat.mul_one, Nat.add_zero] at hf83_2)
             have hx83_3 := hcc83 3 _ rfl
             (try simp only [show (k42).sz = 16 from rfl, Nat.mul_one, Nat.add_zero] at hx83_3)
             have hf83_3 := hfr83 3
             (try simp only [show (k42).sz = 16 from rfl, Nat.mul_one, Nat.add_zero] at hf83_3)
             have hx83_4 := hcc83 4 _ rfl
             (try simp only [show (k42).sz = 16 from rfl, Nat.mul_one, Nat.add_zero] at hx83_4)
             have hf83_4 := hfr83 4
             (try simp only [show (k42).sz = 16 from rfl, Nat.mul_one, Nat.add_zero] at hf83_4)
             have hx83_5 := hcc83 5 _ rfl
             (try simp only [show (k42).sz = 16 from rfl, Nat.mul_one, Nat.add_zero] at hx83_5)
             have hf83_5 := hfr83 5
             (try simp only [show (k42).sz = 16 from rfl, Nat.mul_one, Nat.add_zero] at hf83_5)
             have hx83_6 := hcc83 6 _ rfl
             (try simp only [show (k42).sz = 16 from rfl, Nat.mul_one, Nat.add_zero] at hx83_6)
             have hf83_6 := hfr83 6
             (try simp only [show (k42).sz = 16 from rfl, Nat.mul_one, Nat.add_zero] at hf83_6)
             have hx83_7 := hcc83 7 _ rfl
             (try simp only [show (k42).sz = 16 from rfl, Nat.mul_one, Nat.add_zero] at hx83_7)
             have hf83_7 := hfr83 7
             (try simp only [show (k42).sz = 16 from rfl, Nat.mul_one, Nat.add_zero] at hf83_7)
             have hx83_8 := hcc83 8 _ rfl
             (try simp only [show (k42).sz = 16 from rfl, Nat.mul_one, Nat.add_zero] at hx83_8)
             have hf83_8 := hfr83 8
             (try simp only [show (k42).sz = 16 from rfl, Nat.mul_one, Nat.add_zero] at hf83_8)
             have hx83_9 := hcc83 9 _ rfl
             (try simp only [show (k42).sz = 16 from rfl, Nat.mul_one, Nat.add_zero] at hx83_9)
             have hf83_9 := hfr83 9
             (try simp only [show (k42).sz = 16 from rfl, Nat.mul_one, Nat.add_zero] at hf83_9)
             have hx83_10 := hcc83 10 _ rfl
             (try simp only [show (k42).sz = 16 from rfl, Nat.mul_one, Nat.add_zero] at hx83_10)
             have hf83_10 := hfr83 10
             (try simp only [show (k42).sz = 16 from rfl, Nat.mul_one, Nat.add_zero] at hf83_10)
             have hx83_11 := hcc83 11 _ rfl
             (try simp only [show (k42).sz = 16 from rfl, Nat.mul_one, Nat.add_zero] at hx83_11)
             have hf83_11 := hfr83 11
             (try simp only [show (k42).sz = 16 from rfl, Nat.mul_one, Nat.add_zero] at hf83_11)
             have hx83_12 := hcc83 12 _ rfl
             (try simp only [show (k42).sz = 16 from rfl, Nat.mul_one, Nat.add_zero] at hx83_12)
             have hf83_12 := hfr83 12
             (try simp only [show (k42).sz = 16 from rfl, Nat.mul_one, Nat.add_zero] at hf83_12)
             have hx83_13 := hcc83 13 _ rfl
             (try simp only [show (k42).sz = 16 from rfl, Nat.mul_one, Nat.add_zero] at hx83_13)
             have hf83_13 := hfr83 13
             (try simp only [show (k42).sz = 16 from rfl, Nat.mul_one, Nat.add_zero] at hf83_13)
             have hx83_14 := hcc83 14 _ rfl
             (try simp only [show (k42).sz = 16 from rfl, Nat.mul_one, Nat.add_zero] at hx83_14)
             have hf83_14 := hfr83 14
             (try simp only [show (k42).sz = 16 from rfl, Nat.mul_one, Nat.add_zero] at hf83_14)
             have hx83_15 := hcc83 15 _ rfl
             (try simp only [show (k42).sz = 16 from rfl, Nat.mul_one, Nat.add_zero] at hx83_15)
             have hf83_15 := hfr83 15
             (try simp only [show (k42).sz = 16 from rfl, Nat.mul_one, Nat.add_zero] at hf83_15)
             clear hcl83 hcc83 hfr83 hM83
             go_wp2_with (first | ((with_reducible refine gate_store (t := 42) (p := 83) rfl ?_); refine store_event (t := 42) (p := 83) (v := ?vo_w84) (w1 := ((((((((((((((((wc.setCell ⟨go79, (x8_54 : Int).toNat * 16, none⟩ (.int .u8 t125)).setCell ⟨go79, (x8_54 : Int).toNat * 16 + 1, none⟩ (.int .u8 0)).setCell ⟨go79, (x8_54 : Int).toNat * 16 + 2, none⟩ (.int .u8 0)).setCell ⟨go79, (x8_54 : Int).toNat * 16 + 3, none⟩ (.int .u8 0)).setCell ⟨go79, (x8_54 : Int).toNat * 16 + 4, none⟩ (.int .u8 0)).setCell ⟨go79, (x8_54 : Int).toNat * 16 + 5, none⟩ (.int .u8 0)).setCell ⟨go79, (x8_54 : Int).toNat * 16 + 6, none⟩ (.int .u8 0)).setCell ⟨go79, (x8_54 : Int).toNat * 16 + 7, none⟩ (.int .u8 0)).setCell ⟨go79, (x8_54 : Int).toNat * 16 + 8, none⟩ (.int .u8 0)).setCell ⟨go79, (x8_54 : Int).toNat * 16 + 9, none⟩ (.int .u8 0)).setCell ⟨go79, (x8_54 : Int).toNat * 16 + 10, none⟩ (.int .u8 0)).setCell ⟨go79, (x8_54 : Int).toNat * 16 + 11, none⟩ (.int .u8 0)).setCell ⟨go79, (x8_54 : Int).toNat * 16 + 12, none⟩ (.int .u8 0)).setCell ⟨go79, (x8_54 : Int).toNat * 16 + 13, none⟩ (.int .u8 0)).setCell ⟨go79, (x8_54 : Int).toNat * 16 + 14, none⟩ (.int .u8 0)).setCell ⟨go79, (x8_54 : Int).toNat * 16 + 15, none⟩ (.int .u8 0))) ?hg ?ho ?hn ?hr ?_; (case ho => rfl); (case hg => rfl); (case hn => rfl); (case hr => first | (go_simp; done) | (go_simp; rfl)); intro w84 hw; have hg : wc.grownBy w84 (some go79) := (by rw [hw]; exact HP83.2); have hp_ : Kd.R k42 42 w84 w.heap.size (fun _ => True) (.slice (some ⟨go79, 0, none⟩) t126.length co67) y136 := (by rw [hw, Ny136.out]; exact HP83.1); clear HP83; have n0_ := Aside0.mk (hp_); have n1_ := Aside0.mk (blk_grown (g := gb120) (o := .cells #[.int .i64 a0_0, .slice (some ad130) l0_1.length c0_1] 24 (0, 0)) (by (with_reducible repeat (first | refine blk_drewN ?_ _ | refine blk_drew ?_ | refine blk_alloc ?_ _)); exact BK120.out) hg (Kd.R_ne HO_130001.out BK120.out (by decide))); have n2_ := Aside0.mk (blk_grown (g := gb121) (o := .cells #[.int .i64 0, .slice none 0 0] 24 (0, 0)) (by (with_reducible repeat (first | refine blk_drewN ?_ _ | refine blk_drew ?_ | refine blk_alloc ?_ _)); exact BK121.out) hg (Kd.R_ne HO_130001.out BK121.out (by decide))); have n3_ := Aside0.mk (blk_grown (g := gb129) (o := .cells #[.int .i64 a0_0, .slice (some ⟨go79, 0, none⟩) t126.length co67] 24 (0, 0)) (by (with_reducible repeat (first | refine blk_drewN ?_ _ | refine blk_drew ?_ | refine blk_alloc ?_ _)); exact BK129.out) hg (Kd.R_ne HO_130001.out BK129.out (by decide))); have n4_ := Aside0.mk ((by rw [hw]; exact below_set (below_set (below_set (below_set (below_set (below_set (below_set (below_set (below_set (below_set (below_set (below_set (below_set (below_set (below_set (below_set (HB.out) GB79.out) GB79.out) GB79.out) GB79.out) GB79.out) GB79.out) GB79.out) GB79.out) GB79.out) GB79.out) GB79.out) GB79.out) GB79.out) GB79.out) GB79.out) GB79.out : Below w.heap.size w w84)); clear HO_130001; clear BK120; clear BK121; clear BK129; clear HB; have HO_130001 := n0_; have BK120 := n1_; have BK121 := n2_; have BK129 := n3_; have HB := n4_; clear n0_ n1_ n2_ n3_ n4_; clear hg hw hp_; have hcz85_0 : w84.cell? ⟨gb129, 0, none⟩ = some (.int .i64 a0_0) := (blk_cell BK129.out 0).trans rfl; have hcz85_1 : w84.cell? ⟨gb129, 1, none⟩ = some (.slice (some ⟨go79, 0, none⟩) t126.length co67) := (blk_cell BK129.out 1).trans rfl; have hfz85_0 := blk_frozen BK129.out 0; have hfz85_1 := blk_frozen BK129.out 1; have hnb86 := NB121_120.out; have hnc86 := NB120_121.out; have hcz87_0 : w84.cell? ⟨gb121, 0, none⟩ = some (.int .i64 0) := (blk_cell BK121.out 0).trans rfl; have hcz87_1 : w84.cell? ⟨gb121, 1, none⟩ = some (.slice none 0 0) := (blk_cell BK121.out 1).trans rfl; have hfz87_0 := blk_frozen BK121.out 0; have hfz87_1 := blk_frozen BK121.out 1))
             refine bodyPost_ret (results_ctt rfl _ _ gb121 24 #[.int .i64 a0_0, .slice (some ⟨go79, 0, none⟩) t126.length co67] (0, 0) _ rfl (by (with_reducible repeat (first | refine blk_drewN ?_ _ | refine blk_drew ?_ | refine blk_alloc ?_ _)); refine blk_put (cs := #[.int .i64 a0_0, .slice none 0 0]) ?_ 1 _ rfl; (with_reducible repeat (first | refine blk_drewN ?_ _ | refine blk_drew ?_ | refine blk_alloc ?_ _)); refine blk_put (cs := #[.int .i64 0, .slice none 0 0]) ?_ 0 _ rfl; (with_reducible repeat (first | refine blk_drewN ?_ _ | refine blk_drew ?_ | refine blk_alloc ?_ _)); exact BK121.out) Try.underlying24 rfl (by kernel_rfl)) rfl ?_
             exact ⟨_, by first | rfl | (simp [errW_none, errW_some] <;> rfl) | (simp [*, errW_none, errW_some] <;> rfl), by (with_reducible repeat (first | apply Kd.R_alloc | apply Kd.R_drewN | apply Kd.R_drew)); exact Kd.R_mono (Kd.R_far (p := ⟨gb121, 1, none⟩) (Kd.R_far (p := ⟨gb121, 0, none⟩) (Kd.R_types HO_130001.out BK121.out (by decide)) (fun _ hk => hk.2) (.int .i64 a0_0)) (fun _ hk => hk.2) (.slice (some ⟨go79, 0, none⟩) t126.length co67)) (fun _ hk => trivial), by repeat (first | (with_reducible first | exact HB.out | apply below_alloc | apply bN_ | apply below_drew1 | refine below_set ?_ GE120.out | refine below_set ?_ GE121.out | refine below_set ?_ GE129.out) | exact HB.out)⟩
            ·
             rw [if_neg c78] at H
             exact absurd H (by simp)
           ·
            rw [if_neg c77] at H
            exact absurd H (by simp)
       ·
        rw [if_neg c32] at H
        exact absurd H (by simp)
      ·
       rw [if_neg c31] at H
       exact absurd H (by simp)
    ·
     rw [if_neg c10] at H
     exact absurd H (by simp)
   ·
    rw [if_neg c9] at H
    exact absurd H (by simp)
  ·
   rw [if_neg c6] at H
   have c6b0 : (t124 == 0) = false := beq_eq_false_iff_ne.mpr c6
   have c6b1 : (t124 != 0) = true := bne_iff_ne.mpr c6
   simp only [Option.some.injEq, Prod.mk.injEq] at H
   obtain ⟨rfl, rfl, rfl, rfl⟩ := H
   go_enter Try.func13, Try.ntmps13
   go_wp2_with (first | ((with_reducible refine gate_dst (N := 2) rfl ?_); refine box_event ?hg (N := 2) ?hd (cs := #[.int .i64 a0_0, .slice A0_1 l0_1.length c0_1]) (t := 24) ?hr ?_; (case hd => rfl); (case hg => rfl); (case hr => first | (go_simp; done) | (go_simp; rfl)); intro gb120 hg w88 hbox hb; have n0_ := Aside0.mk (below_step (by repeat (first | (with_reducible first | exact HB.out | apply below_alloc | apply bN_ | apply below_drew1) | exact HB.out)) hb); have n1_ := Aside0.mk (hbox); have n2_ := Aside0.mk ((by rw [hg]; exact (below_size (by repeat (first | (with_reducible first | exact HB.out | apply below_alloc | apply bN_ | apply below_drew1) | exact HB.out))) : w.heap.size ≤ gb120)); have n3_ := Aside0.mk ((by rw [hg]; exact (below_size (by repeat (first | (with_reducible first | exact HB.out | apply below_alloc | apply bN_ | apply below_drew1) | exact HB.out))) : w.heap.size ≤ gb120)); clear HB; have HB := n0_; have BK120 := n1_; have GW120 := n2_; have GE120 := n3_; clear n0_ n1_ n2_ n3_; clear hb hbox hg) | ((with_reducible refine gate_dst (N := 4) rfl ?_); refine box_event ?hg (N := 4) ?hd (cs := #[.int .i64 0, .slice none 0 0]) (t := 24) ?hr ?_; (case hd => rfl); (case hg => rfl); (case hr => first | (go_simp; done) | (go_simp; rfl)); intro gb121 hg w89 hbox hb; have n0_ := Aside0.mk (blk_below (g := gb120) (o := .cells #[.int .i64 a0_0, .slice A0_1 l0_1.length c0_1] 24 (0, 0)) (by (with_reducible repeat (first | refine blk_drewN ?_ _ | refine blk_drew ?_ | refine blk_alloc ?_ _)); exact BK120.out) hb); have n1_ := Aside0.mk (below_step (by repeat (first | (with_reducible first | exact HB.out | apply below_alloc | apply bN_ | apply below_drew1 | refine below_set ?_ GE120.out) | exact HB.out)) hb); have n2_ := Aside0.mk (hbox); have n3_ := Aside0.mk ((by rw [hg]; exact (below_size (by repeat (first | (with_reducible first | exact HB.out | apply below_alloc | apply bN_ | apply below_drew1 | refine below_set ?_ GE120.out) | exact HB.out))) : w.heap.size ≤ gb121)); have n4_ := Aside0.mk ((by rw [hg]; exact (below_size (by repeat (first | (with_reducible first | exact HB.out | apply below_alloc | apply bN_ | apply below_drew1 | refine below_set ?_ GE120.out) | exact HB.out))) : w.heap.size ≤ gb121)); have n5_ := Aside0.mk ((by rw [hg]; exact Nat.ne_of_lt (blk_lt (g := gb120) (o := .cells #[.int .i64 a0_0, .slice A0_1 l0_1.length c0_1] 24 (0, 0)) (by (with_reducible repeat (first | refine blk_drewN ?_ _ | refine blk_drew ?_ | refine blk_alloc ?_ _)); exact BK120.out)) : gb120 ≠ gb121)); have n6_ := Aside0.mk ((by rw [hg]; exact Nat.ne_of_gt (blk_lt (g := gb120) (o := .cells #[.int .i64 a0_0, .slice A0_1 l0_1.length c0_1] 24 (0, 0)) (by (with_reducible repeat (first | refine blk_drewN ?_ _ | refine blk_drew ?_ | refine blk_alloc ?_ _)); exact BK120.out)) : gb121 ≠ gb120)); clear BK120; clear HB; have BK120 := n0_; have HB := n1_; have BK121 := n2_; have GW121 := n3_; have GE121 := n4_; have NB120_121 := n5_; have NB121_120 := n6_; clear n0_ n1_ n2_ n3_ n4_ n5_ n6_; clear hb hbox hg; have hnb90 := NB120_121.out; have hnc90 := NB121_120.out; have hcz91_0 : w89.cell? ⟨gb120, 0, none⟩ = some (.int .i64 a0_0) := (blk_cell BK120.out 0).trans rfl; have hcz91_1 : w89.cell? ⟨gb120, 1, none⟩ = some (.slice A0_1 l0_1.length c0_1) := (blk_cell BK120.out 1).trans rfl; have hfz91_0 := blk_frozen BK120.out 0; have hfz91_1 := blk_frozen BK120.out 1) | ((with_reducible refine gate_callee (f := 16) rfl ?_); refine gL_ (some 14) Try.func16 #[.agg #[.int .i64 a0_0, .slice A0_1 l0_1.length c0_1]] ?_; (with_reducible refine (slots_Check.calls k a0_0 _ _ l0_1 t122 _ ?side1 ?side2 A3.out).mono ?_); (case side1 => repeat (first | exact (Kd.C_below HR0_1.out HB.out) | (with_reducible refine Kd.C_alloc ?_ _) | (with_reducible refine Kd.C_drewN ?_ _) | (with_reducible refine Kd.C_drew ?_))); (case side2 => exact HC0_1.out); rintro e w92 ⟨rfl, hb⟩; refine ⟨_, rfl, ?_⟩; have n0_ := Aside0.mk (blk_below (g := gb120) (o := .cells #[.int .i64 a0_0, .slice A0_1 l0_1.length c0_1] 24 (0, 0)) (by (with_reducible repeat (first | refine blk_drewN ?_ _ | refine blk_drew ?_ | refine blk_alloc ?_ _)); exact BK120.out) hb); have n1_ := Aside0.mk (blk_below (g := gb121) (o := .cells #[.int .i64 0, .slice none 0 0] 24 (0, 0)) (by (with_reducible repeat (first | refine blk_drewN ?_ _ | refine blk_drew ?_ | refine blk_alloc ?_ _)); exact BK121.out) hb); have n2_ := Aside0.mk (below_step (by repeat (first | (with_reducible first | exact HB.out | apply below_alloc | apply bN_ | apply below_drew1 | refine below_set ?_ GE120.out | refine below_set ?_ GE121.out) | exact HB.out)) hb); clear BK120; clear BK121; clear HB; have BK120 := n0_; have BK121 := n1_; have HB := n2_; clear n0_ n1_ n2_; (try clear hb); have hcz93_0 : w92.cell? ⟨gb120, 0, none⟩ = some (.int .i64 a0_0) := (blk_cell BK120.out 0).trans rfl; have hcz93_1 : w92.cell? ⟨gb120, 1, none⟩ = some (.slice A0_1 l0_1.length c0_1) := (blk_cell BK120.out 1).trans rfl; have hfz93_0 := blk_frozen BK120.out 0; have hfz93_1 := blk_frozen BK120.out 1) | ((with_reducible refine gate_callee (f := 26) rfl ?_); refine gL_ (some 24) Try.func26 #[.int .u32 a1, .int .i64 (l0_1.length : Int)] ?_; (with_reducible refine (hashes_Place.calls a1 (l0_1.length : Int) t123 t124 _ A5.out).mono ?_); rintro e w' ⟨rfl, ⟨nd, rfl⟩⟩; refine ⟨_, rfl, ?_⟩; (try (rw [drewN_self w92]; generalize hq_ : World.drewN w92 _ = w92; have n0_ : Aside0 (w92.heap[gb120]? = some (.cells #[.int .i64 a0_0, .slice A0_1 l0_1.length c0_1] 24 (0, 0))) := ⟨by rw [← hq_]; exact (by (with_reducible repeat (first | refine blk_drewN ?_ _ | refine blk_drew ?_ | refine blk_alloc ?_ _)); exact BK120.out)⟩; have n1_ : Aside0 (w92.heap[gb121]? = some (.cells #[.int .i64 0, .slice none 0 0] 24 (0, 0))) := ⟨by rw [← hq_]; exact (by (with_reducible repeat (first | refine blk_drewN ?_ _ | refine blk_drew ?_ | refine blk_alloc ?_ _)); exact BK121.out)⟩; have n2_ : Aside0 (Below w.heap.size w w92) := ⟨by rw [← hq_]; exact (by repeat (first | (with_reducible first | exact HB.out | apply below_alloc | apply bN_ | apply below_drew1 | refine below_set ?_ GE120.out | refine below_set ?_ GE121.out) | exact HB.out))⟩; clear BK120 BK121 HB hq_; have BK120 := n0_; have BK121 := n1_; have HB := n2_; clear n0_ n1_ n2_)); have hcz94_0 : w92.cell? ⟨gb121, 0, none⟩ = some (.int .i64 0) := (blk_cell BK121.out 0).trans rfl; have hcz94_1 : w92.cell? ⟨gb121, 1, none⟩ = some (.slice none 0 0) := (blk_cell BK121.out 1).trans rfl; have hfz94_0 := blk_frozen BK121.out 0; have hfz94_1 := blk_frozen BK121.out 1))
   refine bodyPost_ret (results_ctt rfl _ _ gb121 24 #[.int .i64 0, .slice none 0 0] (0, 0) _ rfl (by (with_reducible repeat (first | refine blk_drewN ?_ _ | refine blk_drew ?_ | refine blk_alloc ?_ _)); refine blk_put (cs := #[.int .i64 0, .slice none 0 0]) ?_ 1 _ rfl; (with_reducible repeat (first | refine blk_drewN ?_ _ | refine blk_drew ?_ | refine blk_alloc ?_ _)); refine blk_put (cs := #[.int .i64 0, .slice none 0 0]) ?_ 0 _ rfl; (with_reducible repeat (first | refine blk_drewN ?_ _ | refine blk_drew ?_ | refine blk_alloc ?_ _)); exact BK121.out) Try.underlying24 rfl (by kernel_rfl)) rfl ?_
   exact ⟨_, by first | rfl | (simp [errW_none, errW_some] <;> rfl) | (simp [*, errW_none, errW_some] <;> rfl), by first | exact Kd.R_nil _ _ _ _ _ | exact Kd.N_nil _ _ _ _ _ | exact Kd.V_nil _ _ _ _ _ | exact Kd.Q_nil _ _ _ _ _ | exact Kd.S_nil _ _ _ _ _, by repeat (first | (with_reducible first | exact HB.out | apply below_alloc | apply bN_ | apply below_drew1 | refine below_set ?_ GE120.out | refine below_set ?_ GE121.out) | exact HB.out)⟩
 ·
  rw [if_neg c4] at H
  have c4b0 : (t122 == 0) = false := beq_eq_false_iff_ne.mpr c4
  have c4b1 : (t122 != 0) = true := bne_iff_ne.mpr c4
  simp only [Option.some.injEq, Prod.mk.injEq] at H
  obtain ⟨rfl, rfl, rfl, rfl⟩ := H
  go_enter Try.func13, Try.ntmps13
  go_wp2_with (first | ((with_reducible refine gate_dst (N := 2) rfl ?_); refine box_event ?hg (N := 2) ?hd (cs := #[.int .i64 a0_0, .slice A0_1 l0_1.length c0_1]) (t := 24) ?hr ?_; (case hd => rfl); (case hg => rfl); (case hr => first | (go_simp; done) | (go_simp; rfl)); intro gb120 hg w95 hbox hb; have n0_ := Aside0.mk (below_step (by repeat (first | (with_reducible first | exact HB.out | apply below_alloc | apply bN_ | apply below_drew1) | exact HB.out)) hb); have n1_ := Aside0.mk (hbox); have n2_ := Aside0.mk ((by rw [hg]; exact (below_size (by repeat (first | (with_reducible first | exact HB.out | apply below_alloc | apply bN_ | apply below_drew1) | exact HB.out))) : w.heap.size ≤ gb120)); have n3_ := Aside0.mk ((by rw [hg]; exact (below_size (by repeat (first | (with_reducible first | exact HB.out | apply below_alloc | apply bN_ | apply below_drew1) | exact HB.out))) : w.heap.size ≤ gb120)); clear HB; have HB := n0_; have BK120 := n1_; have GW120 := n2_; have GE120 := n3_; clear n0_ n1_ n2_ n3_; clear hb hbox hg) | ((with_reducible refine gate_dst (N := 4) rfl ?_); refine box_event ?hg (N := 4) ?hd (cs := #[.int .i64 0, .slice none 0 0]) (t := 24) ?hr ?_; (case hd => rfl); (case hg => rfl); (case hr => first | (go_simp; done) | (go_simp; rfl)); intro gb121 hg w96 hbox hb; have n0_ := Aside0.mk (blk_below (g := gb120) (o := .cells #[.int .i64 a0_0, .slice A0_1 l0_1.length c0_1] 24 (0, 0)) (by (with_reducible repeat (first | refine blk_drewN ?_ _ | refine blk_drew ?_ | refine blk_alloc ?_ _)); exact BK120.out) hb); have n1_ := Aside0.mk (below_step (by repeat (first | (with_reducible first | exact HB.out | apply below_alloc | apply bN_ | apply below_drew1 | refine below_set ?_ GE120.out) | exact HB.out)) hb); have n2_ := Aside0.mk (hbox); have n3_ := Aside0.mk ((by rw [hg]; exact (below_size (by repeat (first | (with_reducible first | exact HB.out | apply below_alloc | apply bN_ | apply below_drew1 | refine below_set ?_ GE120.out) | exact HB.out))) : w.heap.size ≤ gb121)); have n4_ := Aside0.mk ((by rw [hg]; exact (below_size (by repeat (first | (with_reducible first | exact HB.out | apply below_alloc | apply bN_ | apply below_drew1 | refine below_set ?_ GE120.out) | exact HB.out))) : w.heap.size ≤ gb121)); have n5_ := Aside0.mk ((by rw [hg]; exact Nat.ne_of_lt (blk_lt (g := gb120) (o := .cells #[.int .i64 a0_0, .slice A0_1 l0_1.length c0_1] 24 (0, 0)) (by (with_reducible repeat (first | refine blk_drewN ?_ _ | refine blk_drew ?_ | refine blk_alloc ?_ _)); exact BK120.out)) : gb120 ≠ gb121)); have n6_ := Aside0.mk ((by rw [hg]; exact Nat.ne_of_gt (blk_lt (g := gb120) (o := .cells #[.int .i64 a0_0, .slice A0_1 l0_1.length c0_1] 24 (0, 0)) (by (with_reducible repeat (first | refine blk_drewN ?_ _ | refine blk_drew ?_ | refine blk_alloc ?_ _)); exact BK120.out)) : gb121 ≠ gb120)); clear BK120; clear HB; have BK120 := n0_; have HB := n1_; have BK121 := n2_; have GW121 := n3_; have GE121 := n4_; have NB120_121 := n5_; have NB121_120 := n6_; clear n0_ n1_ n2_ n3_ n4_ n5_ n6_; clear hb hbox hg; have hnb97 := NB120_121.out; have hnc97 := NB121_120.out; have hcz98_0 : w96.cell? ⟨gb120, 0, none⟩ = some (.int .i64 a0_0) := (blk_cell BK120.out 0).trans rfl; have hcz98_1 : w96.cell? ⟨gb120, 1, none⟩ = some (.slice A0_1 l0_1.length c0_1) := (blk_cell BK120.out 1).trans rfl; have hfz98_0 := blk_frozen BK120.out 0; have hfz98_1 := blk_frozen BK120.out 1) | ((with_reducible refine gate_callee (f := 16) rfl ?_); refine gL_ (some 14) Try.func16 #[.agg #[.int .i64 a0_0, .slice A0_1 l0_1.length c0_1]] ?_; (with_reducible refine (slots_Check.calls k a0_0 _ _ l0_1 t122 _ ?side1 ?side2 A3.out).mono ?_); (case side1 => repeat (first | exact (Kd.C_below HR0_1.out HB.out) | (with_reducible refine Kd.C_alloc ?_ _) | (with_reducible refine Kd.C_drewN ?_ _) | (with_reducible refine Kd.C_drew ?_))); (case side2 => exact HC0_1.out); rintro e w99 ⟨rfl, hb⟩; refine ⟨_, rfl, ?_⟩; have n0_ := Aside0.mk (blk_below (g := gb120) (o := .cells #[.int .i64 a0_0, .slice A0_1 l0_1.length c0_1] 24 (0, 0)) (by (with_reducible repeat (first | refine blk_drewN ?_ _ | refine blk_drew ?_ | refine blk_alloc ?_ _)); exact BK120.out) hb); have n1_ := Aside0.mk (blk_below (g := gb121) (o := .cells #[.int .i64 0, .slice none 0 0] 24 (0, 0)) (by (with_reducible repeat (first | refine blk_drewN ?_ _ | refine blk_drew ?_ | refine blk_alloc ?_ _)); exact BK121.out) hb); have n2_ := Aside0.mk (below_step (by repeat (first | (with_reducible first | exact HB.out | apply below_alloc | apply bN_ | apply below_drew1 | refine below_set ?_ GE120.out | refine below_set ?_ GE121.out) | exact HB.out)) hb); clear BK120; clear BK121; clear HB; have BK120 := n0_; have BK121 := n1_; have HB := n2_; clear n0_ n1_ n2_; (try clear hb); have hcz100_0 : w99.cell? ⟨gb121, 0, none⟩ = some (.int .i64 0) := (blk_cell BK121.out 0).trans rfl; have hcz100_1 : w99.cell? ⟨gb121, 1, none⟩ = some (.slice none 0 0) := (blk_cell BK121.out 1).trans rfl; have hfz100_0 := blk_frozen BK121.out 0; have hfz100_1 := blk_frozen BK121.out 1))
  refine bodyPost_ret (results_ctt rfl _ _ gb121 24 #[.int .i64 0, .slice none 0 0] (0, 0) _ rfl (by (with_reducible repeat (first | refine blk_drewN ?_ _ | refine blk_drew ?_ | refine blk_alloc ?_ _)); refine blk_put (cs := #[.int .i64 0, .slice none 0 0]) ?_ 1 _ rfl; (with_reducible repeat (first | refine blk_drewN ?_ _ | refine blk_drew ?_ | refine blk_alloc ?_ _)); refine blk_put (cs := #[.int .i64 0, .slice none 0 0]) ?_ 0 _ rfl; (with_reducible repeat (first | refine blk_drewN ?_ _ | refine blk_drew ?_ | refine blk_alloc ?_ _)); exact BK121.out) Try.underlying24 rfl (by kernel_rfl)) rfl ?_
  exact ⟨_, by first | rfl | (simp [errW_none, errW_some] <;> rfl) | (simp [*, errW_none, errW_some] <;> rfl), by first | exact Kd.R_nil _ _ _ _ _ | exact Kd.N_nil _ _ _ _ _ | exact Kd.V_nil _ _ _ _ _ | exact Kd.Q_nil _ _ _ _ _ | exact Kd.S_nil _ _ _ _ _, by repeat (first | (with_reducible first | exact HB.out | apply below_alloc | apply bN_ | apply below_drew1 | refine below_set ?_ GE120.out | refine below_set ?_ GE121.out) | exact HB.out)⟩

end Go.Proofs.Ytaomhenneenaaaa.XSlotsAgain
