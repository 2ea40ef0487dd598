-- Laid by a program of this session (wip/mkxprint.py, over the kit's print): Lean checks it.
import Derived.Test.YtpcjjggeipkehaaXCountsNamesx0
import Derived.Test.YtpcjjggeipkehaaXCountsNamesx1
import Derived.Test.YtpcjjggeipkehaaXCountsNamesx2
import Derived.Test.YtpcjjggeipkehaaXCountsNamesx3
namespace Go.Proofs.Ytpcjjggeipkehaa.XCountsNames
open List (setIfInBounds_toArray set_cons_zero set_cons_succ)
open Go.RowKit Go.Proofs.YtpcjjggeipkehaaW.PrintWords Go.Proofs.YtpcjjggeipkehaaW.PrintLast Go.Proofs.YtpcjjggeipkehaaW.PrintMore
attribute [local go_sem] max2_int min2_int max_two min_two max_three min_three max_four min_four   -- for this text's walks alone
set_option linter.unusedVariables false
set_option linter.unusedSimpArgs false

attribute [local go_sem high] eqA23
/-! ### bitloftlaw07_CountsNames: function 8 -/
mutual
def bitloftlaw07_CountsNames.l0 : Nat → List (S23) → Int → Option (Bool)
 | 0, _, _ => none
 | k + 1, x1, x2 => if x2 < (x1.length : Int) then (if 0 ≤ x2 then ((counts_Next.f ((rd_T23 x1 x2).f0) ((rd_T23 x1 x2).f1) ((rd_T23 x1 x2).f2) 2).bind fun bt135 => ((counts_Run.f k ((rd_T23 x1 x2).f0) ((rd_T23 x1 x2).f1) ((rd_T23 x1 x2).f2) (List.replicate 20001 0)).bind fun bt144 => ((counts_Total.f ((rd_T23 x1 x2).f0) ((rd_T23 x1 x2).f1) ((rd_T23 x1 x2).f2)).bind fun bt150 => ((counts_Turn.f ((rd_T23 x1 x2).f0) ((rd_T23 x1 x2).f1) ((rd_T23 x1 x2).f2)).bind fun bt153 => ((counts_Check.f ((rd_T23 x1 x2).f0) ((rd_T23 x1 x2).f1) ((rd_T23 x1 x2).f2)).bind fun t159 => (if t159 = 8 then (if bt135.2.2.2 = 8 then (if bt144.2.2.2 = 8 then (if bt150.2 = 8 then (bitloftlaw07_CountsNames.j1 k x1 x2 (bt153.2.2.2 != 8)) else (bitloftlaw07_CountsNames.j1 k x1 x2 true)) else (bitloftlaw07_CountsNames.j1 k x1 x2 true)) else (bitloftlaw07_CountsNames.j1 k x1 x2 true)) else (bitloftlaw07_CountsNames.j1 k x1 x2 true))))))) else (none)) else (bitloftlaw07_CountsNames.l1 k (([0, 1, 2, 2, 3, 3, 4, 4, 5, 5, 6, 6, 7] : List Int)) 1)
def bitloftlaw07_CountsNames.j1 : Nat → List (S23) → Int → Bool → Option (Bool)
 | 0, _, _, _ => none
 | k + 1, x1, x2, x101 => if x101 = true then (some false) else (bitloftlaw07_CountsNames.l0 k x1 (wrap64 (x2 + 1)))
def bitloftlaw07_CountsNames.l1 : Nat → List Int → Int → Option (Bool)
 | 0, _, _ => none
 | k + 1, x11, x12 => if x12 ≤ 12 then ((counts_Next.f x12 0 0 1).bind fun bt163 => (if bt163.2.2.2 = 0 then (if 0 ≤ x12 then (if x12 < (x11.length : Int) then (if (!(bt163.1 == (rd x11 x12)) || (!(bt163.2.1 == 1) || (!(bt163.2.2.1 == 1)))) = true then (some false) else (bitloftlaw07_CountsNames.l1 k x11 (wrap32 (x12 + 1)))) else (none)) else (none)) else (some false))) else ((counts_Run.f k 0 0 0 (List.replicate 20000 0)).bind fun bt181 => (if bt181.2.2.2 = 0 then (if (bt181.1 == 12 && (bt181.2.1 == 0 && (bt181.2.2.1 == 0))) = true then (bitloftlaw07_CountsNames.j3 k true) else (bitloftlaw07_CountsNames.j3 k false)) else (bitloftlaw07_CountsNames.j3 k false)))
def bitloftlaw07_CountsNames.j3 : Nat → Bool → Option (Bool)
 | 0, _ => none
 | k + 1, x0 => some x0
end
def bitloftlaw07_CountsNames.f (k : Nat)  : Option (Bool) := bitloftlaw07_CountsNames.l0 k (([(⟨0, 0, 1⟩ : S23), (⟨1, 0, 1⟩ : S23), (⟨0, 1, 0⟩ : S23), (⟨13, 0, 0⟩ : S23), (⟨1, 8, 0⟩ : S23), (⟨(-1), 0, 0⟩ : S23), (⟨1, (-1), 0⟩ : S23), (⟨1, 1, 2⟩ : S23), (⟨8, 1, 1⟩ : S23), (⟨0, 13, 1⟩ : S23), (⟨0, 0, 255⟩ : S23)] : List (S23))) 0
theorem bitloftlaw07_CountsNames.mono_l : ∀ k, (∀ y0 y1, LeO (bitloftlaw07_CountsNames.l0 k y0 y1) (bitloftlaw07_CountsNames.l0 (k + 1) y0 y1)) ∧ (∀ y0 y1 y2, LeO (bitloftlaw07_CountsNames.j1 k y0 y1 y2) (bitloftlaw07_CountsNames.j1 (k + 1) y0 y1 y2)) ∧ (∀ y0 y1, LeO (bitloftlaw07_CountsNames.l1 k y0 y1) (bitloftlaw07_CountsNames.l1 (k + 1) y0 y1)) ∧ (∀ y0, LeO (bitloftlaw07_CountsNames.j3 k y0) (bitloftlaw07_CountsNames.j3 (k + 1) y0))
 | 0 => ⟨fun _ _ r h => by simp [bitloftlaw07_CountsNames.l0] at h, fun _ _ _ r h => by simp [bitloftlaw07_CountsNames.j1] at h, fun _ _ r h => by simp [bitloftlaw07_CountsNames.l1] at h, fun _ r h => by simp [bitloftlaw07_CountsNames.j3] at h⟩
 | k + 1 => by
  obtain ⟨ih0, ih1, ih2, ih3⟩ := bitloftlaw07_CountsNames.mono_l k
  refine ⟨?_, ?_, ?_, ?_⟩
  ·
   intro y0 y1
   unfold bitloftlaw07_CountsNames.l0
   repeat' first
   | (with_reducible exact ih0 _ _)
   | (with_reducible exact ih1 _ _ _)
   | (with_reducible exact ih2 _ _)
   | (with_reducible exact ih3 _)
   | (with_reducible exact bitloftlaw07_alive.mono _)
   | (with_reducible exact counts_Run.mono _ _ _ _ _)
   | (with_reducible exact LeO.refl _)
   | (with_reducible exact LeO.none _)
   | (with_reducible refine LeO.ite ?_ ?_)
   | (with_reducible refine LeO.bind ?_ (fun _ => ?_))
   | exact ih0 _ _
   | exact ih1 _ _ _
   | exact ih2 _ _
   | exact ih3 _
   | exact bitloftlaw07_alive.mono _
   | exact counts_Run.mono _ _ _ _ _
   | exact LeO.none _
   | refine LeO.ite ?_ ?_
   | refine LeO.bind ?_ (fun _ => ?_)
  ·
   intro y0 y1 y2
   unfold bitloftlaw07_CountsNames.j1
   repeat' first
   | (with_reducible exact ih0 _ _)
   | (with_reducible exact ih1 _ _ _)
   | (with_reducible exact ih2 _ _)
   | (with_reducible exact ih3 _)
   | (with_reducible exact bitloftlaw07_alive.mono _)
   | (with_reducible exact counts_Run.mono _ _ _ _ _)
   | (with_reducible exact LeO.refl _)
   | (with_reducible exact LeO.none _)
   | (with_reducible refine LeO.ite ?_ ?_)
   | (with_reducible refine LeO.bind ?_ (fun _ => ?_))
   | exact ih0 _ _
   | exact ih1 _ _ _
   | exact ih2 _ _
   | exact ih3 _
   | exact bitloftlaw07_alive.mono _
   | exact counts_Run.mono _ _ _ _ _
   | exact LeO.none _
   | refine LeO.ite ?_ ?_
   | refine LeO.bind ?_ (fun _ => ?_)
  ·
   intro y0 y1
   unfold bitloftlaw07_CountsNames.l1
   repeat' first
   | (with_reducible exact ih0 _ _)
   | (with_reducible exact ih1 _ _ _)
   | (with_reducible exact ih2 _ _)
   | (with_reducible exact ih3 _)
   | (with_reducible exact bitloftlaw07_alive.mono _)
   | (with_reducible exact counts_Run.mono _ _ _ _ _)
   | (with_reducible exact LeO.refl _)
   | (with_reducible exact LeO.none _)
   | (with_reducible refine LeO.ite ?_ ?_)
   | (with_reducible refine LeO.bind ?_ (fun _ => ?_))
   | exact ih0 _ _
   | exact ih1 _ _ _
   | exact ih2 _ _
   | exact ih3 _
   | exact bitloftlaw07_alive.mono _
   | exact counts_Run.mono _ _ _ _ _
   | exact LeO.none _
   | refine LeO.ite ?_ ?_
   | refine LeO.bind ?_ (fun _ => ?_)
  ·
   intro y0
   unfold bitloftlaw07_CountsNames.j3
   repeat' first
   | (with_reducible exact ih0 _ _)
   | (with_reducible exact ih1 _ _ _)
   | (with_reducible exact ih2 _ _)
   | (with_reducible exact ih3 _)
   | (with_reducible exact bitloftlaw07_alive.mono _)
   | (with_reducible exact counts_Run.mono _ _ _ _ _)
   | (with_reducible exact LeO.refl _)
   | (with_reducible exact LeO.none _)
   | (with_reducible refine LeO.ite ?_ ?_)
   | (with_reducible refine LeO.bind ?_ (fun _ => ?_))
   | exact ih0 _ _
   | exact ih1 _ _ _
   | exact ih2 _ _
   | exact ih3 _
   | exact bitloftlaw07_alive.mono _
   | exact counts_Run.mono _ _ _ _ _
   | exact LeO.none _
   | refine LeO.ite ?_ ?_
   | refine LeO.bind ?_ (fun _ => ?_)
theorem bitloftlaw07_CountsNames.mono : ∀ k, LeO (bitloftlaw07_CountsNames.f k ) (bitloftlaw07_CountsNames.f (k + 1) ) := by
 intro  k
 obtain ⟨ih0, ih1, ih2, ih3⟩ := bitloftlaw07_CountsNames.mono_l k
 unfold bitloftlaw07_CountsNames.f
 repeat' first
   | (with_reducible exact ih0 _ _)
   | (with_reducible exact ih1 _ _ _)
   | (with_reducible exact ih2 _ _)
   | (with_reducible exact ih3 _)
   | (with_reducible exact bitloftlaw07_alive.mono _)
   | (with_reducible exact counts_Run.mono _ _ _ _ _)
   | (with_reducible exact LeO.refl _)
   | (with_reducible exact LeO.none _)
   | (with_reducible refine LeO.ite ?_ ?_)
   | (with_reducible refine LeO.bind ?_ (fun _ => ?_))
   | exact ih0 _ _
   | exact ih1 _ _ _
   | exact ih2 _ _
   | exact ih3 _
   | exact bitloftlaw07_alive.mono _
   | exact counts_Run.mono _ _ _ _ _
   | exact LeO.none _
   | refine LeO.ite ?_ ?_
   | refine LeO.bind ?_ (fun _ => ?_)
def bitloftlaw07_CountsNames.T6 : Bool × List (List Nat × List Nat) := (true, [([], []), ([], []), ([0, 1], [0, 1]), ([2], [2]), ([], []), ([3, 4], [3, 4]), ([5], [5]), ([6], [6]), ([6], [6]), ([], []), ([9, 7, 5, 0, 1, 2, 3, 4, 5, 6, 7, 9], [7, 9]), ([8, 10, 0, 1, 2, 3, 4, 5, 6, 7, 8, 9, 10], [8])])
def bitloftlaw07_CountsNames.B6 : List Nat := [0, 0, 3, 7, 0, 31, 63, 127, 127, 0, 767, 2047]
theorem bitloftlaw07_CountsNames.tab6 : rtab .any (opsOf Try.f8 6) = bitloftlaw07_CountsNames.T6 := by kernel_rfl
theorem bitloftlaw07_CountsNames.bits6 : waitsOk bitloftlaw07_CountsNames.T6.2 bitloftlaw07_CountsNames.B6 = true := by kernel_rfl
def bitloftlaw07_CountsNames.T16 : Bool × List (List Nat × List Nat) := (true, [([], []), ([0], [0]), ([1], [1]), ([2], [2]), ([2], [2]), ([2], [2]), ([4, 5, 2], [2, 4, 5]), ([6, 2], [2, 6]), ([7, 2], [2, 7]), ([3, 8, 2], [2, 3, 8]), ([2, 9], [2, 9])])
def bitloftlaw07_CountsNames.B16 : List Nat := [0, 1, 3, 7, 7, 7, 55, 119, 247, 511, 1023]
theorem bitloftlaw07_CountsNames.tab16 : rtab .any (opsOf Try.f8 16) = bitloftlaw07_CountsNames.T16 := by kernel_rfl
theorem bitloftlaw07_CountsNames.bits16 : waitsOk bitloftlaw07_CountsNames.T16.2 bitloftlaw07_CountsNames.B16 = true := by kernel_rfl
set_option maxHeartbeats 8000000 in
set_option maxRecDepth 100000 in
theorem bitloftlaw07_CountsNames.calls (k : Nat)  (r : Bool) (w : World) (h : bitloftlaw07_CountsNames.f k  = some r) :
  Calls Try.prog 8 #[] w fun e w' => e = .returned (.bool r) ∧ Below w.heap.size w w' := by
 have hu23 := Try.underlying23
 have HB := Aside0.mk (Below.refl w.heap.size w)
 have H : (bitloftlaw07_CountsNames.l0 k (([(⟨0, 0, 1⟩ : S23), (⟨1, 0, 1⟩ : S23), (⟨0, 1, 0⟩ : S23), (⟨13, 0, 0⟩ : S23), (⟨1, 8, 0⟩ : S23), (⟨(-1), 0, 0⟩ : S23), (⟨1, (-1), 0⟩ : S23), (⟨1, 1, 2⟩ : S23), (⟨8, 1, 1⟩ : S23), (⟨0, 13, 1⟩ : S23), (⟨0, 0, 255⟩ : S23)] : List (S23))) 0) = some r := h
 clear h
 obtain ⟨y131, hy131⟩ : ∃ y_ : List (S23), y_ = (([(⟨0, 0, 1⟩ : S23), (⟨1, 0, 1⟩ : S23), (⟨0, 1, 0⟩ : S23), (⟨13, 0, 0⟩ : S23), (⟨1, 8, 0⟩ : S23), (⟨(-1), 0, 0⟩ : S23), (⟨1, (-1), 0⟩ : S23), (⟨1, 1, 2⟩ : S23), (⟨8, 1, 1⟩ : S23), (⟨0, 13, 1⟩ : S23), (⟨0, 0, 255⟩ : S23)] : List (S23))) := ⟨_, rfl⟩
 replace H : (bitloftlaw07_CountsNames.l0 k y131 0) = some r := by first | (rw [hy131]; with_reducible exact H) | (have H2_ := (Option.bind_some _ _).symm.trans H; rw [hy131]; with_reducible exact H2_) | (have H2_ := (Option.bind_some _ _).symm.trans H; with_reducible exact H2_) | with_reducible exact H | (rw [hy131]; exact H) | exact H
 have Ny131 := Aside0.mk hy131
 clear hy131
 have H' := Aside0.mk H
 clear H
 go_enter Try.func8, Try.ntmps8
 go_wp2_with (first | ((with_reducible refine gate_dst (N := 40) rfl ?_); refine Kd.R_lit k23 _ 23 ?hg (N := 40) ?hd (xs := ([(⟨0, 0, 1⟩ : S23), (⟨1, 0, 1⟩ : S23), (⟨0, 1, 0⟩ : S23), (⟨13, 0, 0⟩ : S23), (⟨1, 8, 0⟩ : S23), (⟨(-1), 0, 0⟩ : S23), (⟨1, (-1), 0⟩ : S23), (⟨1, 1, 2⟩ : S23), (⟨8, 1, 1⟩ : S23), (⟨0, 13, 1⟩ : S23), (⟨0, 0, 255⟩ : S23)] : List (S23))) (inner := [.int .i32 0, .int .i32 0, .int .u8 1, .int .i32 1, .int .i32 0, .int .u8 1, .int .i32 0, .int .i32 1, .int .u8 0, .int .i32 13, .int .i32 0, .int .u8 0, .int .i32 1, .int .i32 8, .int .u8 0, .int .i32 (-1), .int .i32 0, .int .u8 0, .int .i32 1, .int .i32 (-1), .int .u8 0, .int .i32 1, .int .i32 1, .int .u8 2, .int .i32 8, .int .i32 1, .int .u8 1, .int .i32 0, .int .i32 13, .int .u8 1, .int .i32 0, .int .i32 0, .int .u8 255]) (ok := fun _ => True) (okp := fun _ => True) ?hr ?hp (fun _ hk => hk) trivial (Below.refl _ _) (Nat.le_refl _) (by simp) ?_; (case hd => rfl); (case hg => rfl); (case hr => first | (go_simp; done) | (go_simp; rfl)); (case hp => exact (Reps.c3 (show Kd.M k23 _ _ _ (⟨0, 0, 1⟩ : S23) [.int .i32 0, .int .i32 0, .int .u8 1] from (k23_mkM _ _ _ (⟨0, 0, 1⟩ : S23) )) (Reps.c3 (show Kd.M k23 _ _ _ (⟨1, 0, 1⟩ : S23) [.int .i32 1, .int .i32 0, .int .u8 1] from (k23_mkM _ _ _ (⟨1, 0, 1⟩ : S23) )) (Reps.c3 (show Kd.M k23 _ _ _ (⟨0, 1, 0⟩ : S23) [.int .i32 0, .int .i32 1, .int .u8 0] from (k23_mkM _ _ _ (⟨0, 1, 0⟩ : S23) )) (Reps.c3 (show Kd.M k23 _ _ _ (⟨13, 0, 0⟩ : S23) [.int .i32 13, .int .i32 0, .int .u8 0] from (k23_mkM _ _ _ (⟨13, 0, 0⟩ : S23) )) (Reps.c3 (show Kd.M k23 _ _ _ (⟨1, 8, 0⟩ : S23) [.int .i32 1, .int .i32 8, .int .u8 0] from (k23_mkM _ _ _ (⟨1, 8, 0⟩ : S23) )) (Reps.c3 (show Kd.M k23 _ _ _ (⟨(-1), 0, 0⟩ : S23) [.int .i32 (-1), .int .i32 0, .int .u8 0] from (k23_mkM _ _ _ (⟨(-1), 0, 0⟩ : S23) )) (Reps.c3 (show Kd.M k23 _ _ _ (⟨1, (-1), 0⟩ : S23) [.int .i32 1, .int .i32 (-1), .int .u8 0] from (k23_mkM _ _ _ (⟨1, (-1), 0⟩ : S23) )) (Reps.c3 (show Kd.M k23 _ _ _ (⟨1, 1, 2⟩ : S23) [.int .i32 1, .int .i32 1, .int .u8 2] from (k23_mkM _ _ _ (⟨1, 1, 2⟩ : S23) )) (Reps.c3 (show Kd.M k23 _ _ _ (⟨8, 1, 1⟩ : S23) [.int .i32 8, .int .i32 1, .int .u8 1] from (k23_mkM _ _ _ (⟨8, 1, 1⟩ : S23) )) (Reps.c3 (show Kd.M k23 _ _ _ (⟨0, 13, 1⟩ : S23) [.int .i32 0, .int .i32 13, .int .u8 1] from (k23_mkM _ _ _ (⟨0, 13, 1⟩ : S23) )) (Reps.c3 (show Kd.M k23 _ _ _ (⟨0, 0, 255⟩ : S23) [.int .i32 0, .int .i32 0, .int .u8 255] from (k23_mkM _ _ _ (⟨0, 0, 255⟩ : S23) )) (Reps.none _ _))))))))))))); intro v132 w1 ho2 hb hg_ hnew_; clear hg_ hnew_; (first | rw [← Ny131.out] at ho2 | (simp only [Int.reduceToNat] at ho2; rw [← Ny131.out] at ho2)); have n0_ := Aside0.mk (Kd.R_lower ho2 (below_size (by repeat (first | (with_reducible first | exact HB.out | apply below_alloc | apply bN_ | apply below_drew1) | exact HB.out)))); have n1_ := Aside0.mk (below_step (by repeat (first | (with_reducible first | exact HB.out | apply below_alloc | apply bN_ | apply below_drew1) | exact HB.out)) hb); clear HB; have HO133 := n0_; have HB := n1_; clear n0_ n1_; clear hb ho2))
 go_loopg [2] k (fun kq v2 w' => ∃ (x2_1 : Int), v2 = .int .i64 x2_1 ∧ Aside0 (bitloftlaw07_CountsNames.l0 kq y131 x2_1 = some r) ∧ Aside0 (kq ≤ k) ∧ Aside0 (Kd.R k23 23 w' w.heap.size (fun _ => True) v132 y131) ∧ Aside0 (Below w.heap.size w w'))
 case atStart => exact ⟨(0), (by first | rfl | (simp; done) | (simp [*]; done)), H', ⟨Nat.le_refl _⟩, ⟨by (with_reducible repeat (first | apply Kd.R_alloc | apply Kd.R_drewN | apply Kd.R_drew)); exact HO133.out⟩, ⟨by repeat (first | (with_reducible first | exact HB.out | apply below_alloc | apply bN_ | apply below_drew1) | exact HB.out)⟩⟩
 case round =>
  clear H'
  try clear p2
  obtain ⟨x2_1, rfl, HA, HK1, HO_1, HB⟩ := hrel
  cases gk with
  | zero => exact absurd HA.out (by simp [bitloftlaw07_CountsNames.l0])
  | succ k1 =>
   have H := HA.out
   clear HA
   simp only [bitloftlaw07_CountsNames.l0] at H
   by_cases c3 : x2_1 < (y131.length : Int)
   ·
    rw [if_pos c3] at H
    have c3b0 : decide (x2_1 < (y131.length : Int)) = true := decide_eq_true c3
    clear c3
    by_cases c4 : 0 ≤ x2_1
    ·
     rw [if_pos c4] at H
     have c4b0 : decide (0 ≤ x2_1) = true := decide_eq_true c4
     clear c4
     replace H := Option.bind_eq_some_iff.mp H
     obtain ⟨⟨t135, t136, t137, t138⟩, A50, H⟩ := H
     replace H : ((counts_Run.f k1 ((rd_T23 y131 x2_1).f0) ((rd_T23 y131 x2_1).f1) ((rd_T23 y131 x2_1).f2) (List.replicate 20001 0)).bind fun bt144 => ((counts_Total.f ((rd_T23 y131 x2_1).f0) ((rd_T23 y131 x2_1).f1) ((rd_T23 y131 x2_1).f2)).bind fun bt150 => ((counts_Turn.f ((rd_T23 y131 x2_1).f0) ((rd_T23 y131 x2_1).f1) ((rd_T23 y131 x2_1).f2)).bind fun bt153 => ((counts_Check.f ((rd_T23 y131 x2_1).f0) ((rd_T23 y131 x2_1).f1) ((rd_T23 y131 x2_1).f2)).bind fun t159 => (if t159 = 8 then (if t138 = 8 then (if bt144.2.2.2 = 8 then (if bt150.2 = 8 then (bitloftlaw07_CountsNames.j1 k1 y131 x2_1 (bt153.2.2.2 != 8)) else (bitloftlaw07_CountsNames.j1 k1 y131 x2_1 true)) else (bitloftlaw07_CountsNames.j1 k1 y131 x2_1 true)) else (bitloftlaw07_CountsNames.j1 k1 y131 x2_1 true)) else (bitloftlaw07_CountsNames.j1 k1 y131 x2_1 true)))))) = some r := H
     have A5 := Aside0.mk A50
     clear A50
     obtain ⟨y141, hy141⟩ : ∃ y_ : List Int, y_ = (List.replicate 20001 0) := ⟨_, rfl⟩
     replace H : ((counts_Run.f k1 ((rd_T23 y131 x2_1).f0) ((rd_T23 y131 x2_1).f1) ((rd_T23 y131 x2_1).f2) y141).bind fun bt144 => ((counts_Total.f ((rd_T23 y131 x2_1).f0) ((rd_T23 y131 x2_1).f1) ((rd_T23 y131 x2_1).f2)).bind fun bt150 => ((counts_Turn.f ((rd_T23 y131 x2_1).f0) ((rd_T23 y131 x2_1).f1) ((rd_T23 y131 x2_1).f2)).bind fun bt153 => ((counts_Check.f ((rd_T23 y131 x2_1).f0) ((rd_T23 y131 x2_1).f1) ((rd_T23 y131 x2_1).f2)).bind fun t159 => (if t159 = 8 then (if t138 = 8 then (if bt144.2.2.2 = 8 then (if bt150.2 = 8 then (bitloftlaw07_CountsNames.j1 k1 y131 x2_1 (bt153.2.2.2 != 8)) else (bitloftlaw07_CountsNames.j1 k1 y131 x2_1 true)) else (bitloftlaw07_CountsNames.j1 k1 y131 x2_1 true)) else (bitloftlaw07_CountsNames.j1 k1 y131 x2_1 true)) else (bitloftlaw07_CountsNames.j1 k1 y131 x2_1 true)))))) = some r := by first | (rw [hy141]; with_reducible exact H) | (have H2_ := (Option.bind_some _ _).symm.trans H; rw [hy141]; with_reducible exact H2_) | (have H2_ := (Option.bind_some _ _).symm.trans H; with_reducible exact H2_) | with_reducible exact H | (rw [hy141]; exact H) | exact H
     have Ny141 := Aside0.mk hy141
     clear hy141
     replace H := Option.bind_eq_some_iff.mp H
     obtain ⟨⟨t144, t145, t146, t147⟩, A60, H⟩ := H
     replace H : ((counts_Total.f ((rd_T23 y131 x2_1).f0) ((rd_T23 y131 x2_1).f1) ((rd_T23 y131 x2_1).f2)).bind fun bt150 => ((counts_Turn.f ((rd_T23 y131 x2_1).f0) ((rd_T23 y131 x2_1).f1) ((rd_T23 y131 x2_1).f2)).bind fun bt153 => ((counts_Check.f ((rd_T23 y131 x2_1).f0) ((rd_T23 y131 x2_1).f1) ((rd_T23 y131 x2_1).f2)).bind fun t159 => (if t159 = 8 then (if t138 = 8 then (if t147 = 8 then (if bt150.2 = 8 then (bitloftlaw07_CountsNames.j1 k1 y131 x2_1 (bt153.2.2.2 != 8)) else (bitloftlaw07_CountsNames.j1 k1 y131 x2_1 true)) else (bitloftlaw07_CountsNames.j1 k1 y131 x2_1 true)) else (bitloftlaw07_CountsNames.j1 k1 y131 x2_1 true)) else (bitloftlaw07_CountsNames.j1 k1 y131 x2_1 true))))) = some r := H
     have A6 := Aside0.mk A60
     clear A60
     replace H := Option.bind_eq_some_iff.mp H
     obtain ⟨⟨t150, t151⟩, A70, H⟩ := H
     replace H : ((counts_Turn.f ((rd_T23 y131 x2_1).f0) ((rd_T23 y131 x2_1).f1) ((rd_T23 y131 x2_1).f2)).bind fun bt153 => ((counts_Check.f ((rd_T23 y131 x2_1).f0) ((rd_T23 y131 x2_1).f1) ((rd_T23 y131 x2_1).f2)).bind fun t159 => (if t159 = 8 then (if t138 = 8 then (if t147 = 8 then (if t151 = 8 then (bitloftlaw07_CountsNames.j1 k1 y131 x2_1 (bt153.2.2.2 != 8)) else (bitloftlaw07_CountsNames.j1 k1 y131 x2_1 true)) else (bitloftlaw07_CountsNames.j1 k1 y131 x2_1 true)) else (bitloftlaw07_CountsNames.j1 k1 y131 x2_1 true)) else (bitloftlaw07_CountsNames.j1 k1 y131 x2_1 true)))) = some r := H
     have A7 := Aside0.mk A70
     clear A70
     replace H := Option.bind_eq_some_iff.mp H
     obtain ⟨⟨t153, t154, t155, t156⟩, A80, H⟩ := H
     replace H : ((counts_Check.f ((rd_T23 y131 x2_1).f0) ((rd_T23 y131 x2_1).f1) ((rd_T23 y131 x2_1).f2)).bind fun t159 => (if t159 = 8 then (if t138 = 8 then (if t147 = 8 then (if t151 = 8 then (bitloftlaw07_CountsNames.j1 k1 y131 x2_1 (t156 != 8)) else (bitloftlaw07_CountsNames.j1 k1 y131 x2_1 true)) else (bitloftlaw07_CountsNames.j1 k1 y131 x2_1 true)) else (bitloftlaw07_CountsNames.j1 k1 y131 x2_1 true)) else (bitloftlaw07_CountsNames.j1 k1 y131 x2_1 true))) = some r := H
     have A8 := Aside0.mk A80
     clear A80
     have HC9 := Aside0.mk H
     clear H
     obtain ⟨Ao10, co10, eo10⟩ := Kd.R_slice HO_1.out
     subst eo10
     have p134 : 0 ≤ (x2_1 : Int) := of_decide_eq_true (by first | (with_reducible assumption) | assumption)
     have q134 : x2_1 < (y131.length : Int) := of_decide_eq_true (by first | (with_reducible assumption) | assumption)
     obtain ⟨ad134, e134, hx134_0, hx134_1, hx134_2⟩ := at_T23 (Kd.R_reads' HO_1.out).2.2 x2_1 p134 q134
     cases e134
     replace p134 := eq_true p134
     replace q134 := eq_true q134
     try go_wp2_with (first | ((with_reducible refine gate_callee (f := 10) rfl ?_); refine gL_ (some 52) Try.func10 #[.agg #[.int .i32 ((rd_T23 y131 x2_1).f0), .int .i32 ((rd_T23 y131 x2_1).f1), .int .u8 ((rd_T23 y131 x2_1).f2)], .int .u8 2] ?_; (with_reducible refine (counts_Next.calls ((rd_T23 y131 x2_1).f0) ((rd_T23 y131 x2_1).f1) ((rd_T23 y131 x2_1).f2) 2 t135 t136 t137 t138 _ A5.out).mono ?_); rintro e w11 ⟨rfl, hb⟩; refine ⟨_, rfl, ?_⟩; have n0_ := Aside0.mk (Kd.R_below (by (with_reducible repeat (first | apply Kd.R_alloc | apply Kd.R_drewN | apply Kd.R_drew)); exact HO_1.out) hb); have n1_ := Aside0.mk (below_step (by repeat (first | (with_reducible first | exact HB.out | apply below_alloc | apply bN_ | apply below_drew1) | exact HB.out)) hb); clear HO_1; clear HB; have HO_1 := n0_; have HB := n1_; clear n0_ n1_; (try clear hb)) | ((with_reducible refine gate_dst (N := 3) rfl ?_); refine box_event ?hg (N := 3) ?hd (cs := #[.int .i32 0, .int .i32 0, .int .u8 0]) (t := 23) ?hr ?_; (case hd => rfl); (case hg => rfl); (case hr => first | (go_simp; done) | (go_simp; rfl)); intro gb139 hg w12 hbox hb; have n0_ := Aside0.mk (Kd.R_below (Kd.R_elderB (by (with_reducible repeat (first | apply Kd.R_alloc | apply Kd.R_drewN | apply Kd.R_drew)); exact HO_1.out) gb139 (Nat.le_of_eq hg.symm)) hb); have n1_ := Aside0.mk (below_step (by repeat (first | (with_reducible first | exact HB.out | apply below_alloc | apply bN_ | apply below_drew1) | exact HB.out)) hb); have n2_ := Aside0.mk (hbox); have n3_ := Aside0.mk ((by rw [hg]; exact (below_size (by repeat (first | (with_reducible first | exact HB.out | apply below_alloc | apply bN_ | apply below_drew1) | exact HB.out))) : w.heap.size ≤ gb139)); have n4_ := Aside0.mk ((by rw [hg]; exact (below_size (by repeat (first | (with_reducible first | exact HB.out | apply below_alloc | apply bN_ | apply below_drew1) | exact HB.out))) : w.heap.size ≤ gb139)); clear HO_1; clear HB; have HO_1 := n0_; have HB := n1_; have BK139 := n2_; have GW139 := n3_; have GE139 := n4_; clear n0_ n1_ n2_ n3_ n4_; clear hb hbox hg; have hcz13_0 : w12.cell? ⟨gb139, 0, none⟩ = some (.int .i32 0) := (blk_cell BK139.out 0).trans rfl; have hcz13_1 : w12.cell? ⟨gb139, 1, none⟩ = some (.int .i32 0) := (blk_cell BK139.out 1).trans rfl; have hcz13_2 : w12.cell? ⟨gb139, 2, none⟩ = some (.int .u8 0) := (blk_cell BK139.out 2).trans rfl; have hfz13_0 := blk_frozen BK139.out 0; have hfz13_1 := blk_frozen BK139.out 1; have hfz13_2 := blk_frozen BK139.out 2))
     have n0_ : Aside0 (Kd.R k23 23 (((w12.setCell ⟨gb139, 0, none⟩ (.int .i32 t135)).setCell ⟨gb139, 1, none⟩ (.int .i32 t136)).setCell ⟨gb139, 2, none⟩ (.int .u8 t137)) w.heap.size (fun k_ => k_ ≠ gb139) (.slice (some ad134) y131.length co10) y131) := ⟨by (with_reducible repeat (first | apply Kd.R_alloc | apply Kd.R_drewN | apply Kd.R_drew)); exact Kd.R_mono (Kd.R_far (p := ⟨gb139, 2, none⟩) (Kd.R_far (p := ⟨gb139, 1, none⟩) (Kd.R_far (p := ⟨gb139, 0, none⟩) (Kd.R_mono HO_1.out (fun k_ hk => (⟨hk, hk.2⟩ : _ ∧ k_ ≠ gb139))) (fun _ hk => hk.2) (.int .i32 t135)) (fun _ hk => hk.2) (.int .i32 t136)) (fun _ hk => hk.2) (.int .u8 t137)) (fun _ hk => hk.1.2)⟩
     have n1_ : Aside0 ((((w12.setCell ⟨gb139, 0, none⟩ (.int .i32 t135)).setCell ⟨gb139, 1, none⟩ (.int .i32 t136)).setCell ⟨gb139, 2, none⟩ (.int .u8 t137)).heap[gb139]? = some (.cells #[.int .i32 t135, .int .i32 t136, .int .u8 t137] 23 (0, 0))) := ⟨by (with_reducible repeat (first | refine blk_drewN ?_ _ | refine blk_drew ?_ | refine blk_alloc ?_ _)); refine blk_put (cs := #[.int .i32 t135, .int .i32 t136, .int .u8 0]) ?_ 2 _ rfl; (with_reducible repeat (first | refine blk_drewN ?_ _ | refine blk_drew ?_ | refine blk_alloc ?_ _)); refine blk_put (cs := #[.int .i32 t135, .int .i32 0, .int .u8 0]) ?_ 1 _ rfl; (with_reducible repeat (first | refine blk_drewN ?_ _ | refine blk_drew ?_ | refine blk_alloc ?_ _)); refine blk_put (cs := #[.int .i32 0, .int .i32 0, .int .u8 0]) ?_ 0 _ rfl; (with_reducible repeat (first | refine blk_drewN ?_ _ | refine blk_drew ?_ | refine blk_alloc ?_ _)); exact BK139.out⟩
     have n2_ : Aside0 (Below w.heap.size w (((w12.setCell ⟨gb139, 0, none⟩ (.int .i32 t135)).setCell ⟨gb139, 1, none⟩ (.int .i32 t136)).setCell ⟨gb139, 2, none⟩ (.int .u8 t137))) := ⟨by repeat (first | (with_reducible first | exact HB.out | apply below_alloc | apply bN_ | apply below_drew1 | refine below_set ?_ GE139.out) | exact HB.out)⟩
     (try clear HO_1)
     (try clear BK139)
     (try clear HB)
     generalize (((w12.setCell ⟨gb139, 0, none⟩ (.int .i32 t135)).setCell ⟨gb139, 1, none⟩ (.int .i32 t136)).setCell ⟨gb139, 2, none⟩ (.int .u8 t137)) = w14 at n0_ n1_ n2_ ⊢
     have HO_1 := n0_
     have BK139 := n1_
     have HB := n2_
     clear n0_ n1_ n2_
     have n0_ := Aside0.mk (Kd.R_drew HO_1.out)
     have n1_ := Aside0.mk (blk_drew BK139.out)
     have n2_ := Aside0.mk (below_drew1 HB.out)
     clear HO_1
     clear BK139
     clear HB
     have HO_1 := n0_
     have BK139 := n1_
     have HB := n2_
     clear n0_ n1_ n2_
     have p140 : 0 ≤ (x2_1 : Int) := of_decide_eq_true (by first | (with_reducible assumption) | assumption)
     have q140 : x2_1 < (y131.length : Int) := of_decide_eq_true (by first | (with_reducible assumption) | assumption)
     obtain ⟨ad140, e140, hx140_0, hx140_1, hx140_2⟩ := at_T23 (Kd.R_reads' HO_1.out).2.2 x2_1 p140 q140
     obtain rfl : ad134 = ad140 := (by injection e140)
     replace p140 := eq_true p140
     replace q140 := eq_true q140
     refine start_ (n := 12) (S := fun w' => w'.cell? (ad134.add ((x2_1).toNat * 3)) = some (.int .i32 ((rd_T23 y131 x2_1).f0)) ∧ w'.cell? ⟨(ad134.add ((x2_1).toNat * 3)).block, (ad134.add ((x2_1).toNat * 3)).off + 1, none⟩ = some (.int .i32 ((rd_T23 y131 x2_1).f1)) ∧ w'.cell? ⟨(ad134.add ((x2_1).toNat * 3)).block, (ad134.add ((x2_1).toNat * 3)).off + 2, none⟩ = some (.int .u8 ((rd_T23 y131 x2_1).f2))) (ds := []) #[false, false, false, false, false, false, false, false, false, false, false, false] (by kernel_rfl) rfl rfl ⟨hx140_0, hx140_1, hx140_2⟩ (fun hHeld => ?_); refine with_tabW bitloftlaw07_CountsNames.tab6 bitloftlaw07_CountsNames.bits6 (fun HT_ HW_ => ?_)
     generalize w14.drew = w15 at HO_1 BK139 HB hx140_0 hx140_1 hx140_2 hHeld ⊢
     refine pure_ (i := 0) (N := some 56) (v := ?_) (a' := ?_) #[true, false, false, false, false, false, false, false, false, false, false, false] rfl rfl (any_of HT_.out (by kernel_rfl)) (fun _ _ _ h => h) (Or.inl ⟨by rfl, ?_⟩) ?_ ?_
     rotate_left
     ·
      intro w'
      go_simp
      with_reducible rfl
     rotate_left
     ·
      simp only [Act.put, setIfInBounds_toArray, set_cons_zero, set_cons_succ, i64_w, i32_w]
      rfl
     refine pure_ (i := 1) (N := some 57) (v := ?_) (a' := ?_) #[true, true, false, false, false, false, false, false, false, false, false, false] rfl rfl (any_of HT_.out (by kernel_rfl)) (fun _ _ _ h => h) (Or.inl ⟨by rfl, ?_⟩) ?_ ?_
     rotate_left
     ·
      intro w'
      go_simp
      with_reducible rfl
     rotate_left
     ·
      simp only [Act.put, setIfInBounds_toArray, set_cons_zero, set_cons_succ, i64_w, i32_w]
      rfl
     refine pure_ (i := 2) (N := some 58) (v := ?_) (a' := ?_) #[true, true, true, false, false, false, false, false, false, false, false, false] rfl rfl (any_of HT_.out (by kernel_rfl)) (fun _ _ _ h => h) (Or.inl ⟨by rfl, ?_⟩) ?_ ?_
     rotate_left
     ·
      intro w'
      go_simp
      with_reducible rfl
     rotate_left
     ·
      simp only [Act.put, setIfInBounds_toArray, set_cons_zero, set_cons_succ, i64_w, i32_w]
      rfl
     refine take_ (i := 3) (N := some 59) (v := ?_) (a' := ?_) #[true, true, true, true, false, false, false, false, false, false, false, false] rfl rfl (take_ofW HT_.out HW_.out (by kernel_rfl)) (fun _ _ _ h => h) (Or.inl ⟨by rfl, ?_⟩) hHeld ?_ ?_
     rotate_left
     ·
      rintro w' ⟨s0, s1, s2⟩
      go_simp
      with_reducible rfl
     rotate_left
     ·
      simp only [Act.put, setIfInBounds_toArray, set_cons_zero, set_cons_succ, i64_w, i32_w]
      rfl
     refine join_ (σ := Value × Nat) 2 #[true, true, true, true, true, true, true, true, true, true, false, false] (fun s_ => [(60, s_.1), (61, .tuple #[.agg #[.int .i32 t144, .int .i32 t145, .int .u8 t146], .int .i64 t147]), (5, .pointer (some ⟨s_.2, 0, none⟩)), (55, .tuple #[.agg #[.int .i32 t144, .int .i32 t145, .int .u8 t146], .int .i64 t147]), (62, .agg #[.int .i32 t144, .int .i32 t145, .int .u8 t146]), (63, .int .i64 t147)]) (fun s_ w' => (w'.cell? (ad134.add ((x2_1).toNat * 3)) = some (.int .i32 ((rd_T23 y131 x2_1).f0)) ∧ w'.cell? ⟨(ad134.add ((x2_1).toNat * 3)).block, (ad134.add ((x2_1).toNat * 3)).off + 1, none⟩ = some (.int .i32 ((rd_T23 y131 x2_1).f1)) ∧ w'.cell? ⟨(ad134.add ((x2_1).toNat * 3)).block, (ad134.add ((x2_1).toNat * 3)).off + 2, none⟩ = some (.int .u8 ((rd_T23 y131 x2_1).f2))) ∧ (Kd.R (Kd.int .u8) 5 w' w.heap.size (fun _ => True) s_.1 y141) ∧ (Kd.R k23 23 w' w.heap.size (fun k_ => k_ ≠ gb139 ∧ k_ ≠ s_.2) (.slice (some ad134) y131.length co10) y131) ∧ (w'.heap[gb139]? = some (.cells #[.int .i32 t135, .int .i32 t136, .int .u8 t137] 23 (0, 0))) ∧ (w'.heap[s_.2]? = some (.cells #[.int .i32 0, .int .i32 0, .int .u8 0] 23 (0, 0))) ∧ (w.heap.size ≤ s_.2) ∧ (w.heap.size ≤ s_.2) ∧ (gb139 ≠ s_.2) ∧ (s_.2 ≠ gb139) ∧ (Below w.heap.size w w')) ?_ ?_
     rotate_left
     ·
      intro hCont
      refine two_ (i := 4) (j := 9) (Ni := some 60) (Nj := some 5) #[true, true, true, true, true, false, false, false, false, false, false, false] #[true, true, true, true, false, false, false, false, false, true, false, false] rfl rfl rfl rfl (two_of HT_.out (by kernel_rfl)) (by decide) (by decide) (fun K hK => ?_) (fun K hK => ?_)
      ·
       skip
       refine Kd.R_make_step (Kd.int .u8) _ 5 (by rfl) (N := 60) rfl 38 _ _ rfl 20001 rfl rfl Try.underlying38 (.int .u8 0) 1 info5 rfl (by decide) (by omega) 0 (ok := fun _ => True) (okp := fun _ => True) rfl (fun _ hk => hk) trivial (by omega) (by omega) (Below.refl _ _) (Nat.le_refl _) ?_
       intro v142 w16 ho17 hb hg_ hnew_
       have HS0_ := (hb.cell (World.block_lt_of_cell? _ _ (hHeld.1))).trans (hHeld.1)
       have HS1_ := (hb.cell (World.block_lt_of_cell? _ _ (hHeld.2.1))).trans (hHeld.2.1)
       have HS2_ := (hb.cell (World.block_lt_of_cell? _ _ (hHeld.2.2))).trans (hHeld.2.2)
       clear hg_ hnew_
       (first | rw [← Ny141.out] at ho17 | (simp only [Int.reduceToNat] at ho17; rw [← Ny141.out] at ho17))
       have n0_ := Aside0.mk (Kd.R_below (by (with_reducible repeat (first | apply Kd.R_alloc | apply Kd.R_drewN | apply Kd.R_drew)); exact HO_1.out) hb)
       have n1_ := Aside0.mk (Kd.R_lower ho17 (below_size (by repeat (first | (with_reducible first | exact HB.out | apply below_alloc | apply bN_ | apply below_drew1 | refine below_set ?_ GE139.out) | exact HB.out))))
       have n2_ := Aside0.mk (blk_below (g := gb139) (o := .cells #[.int .i32 t135, .int .i32 t136, .int .u8 t137] 23 (0, 0)) (by (with_reducible repeat (first | refine blk_drewN ?_ _ | refine blk_drew ?_ | refine blk_alloc ?_ _)); exact BK139.out) hb)
       have n3_ := Aside0.mk (below_step (by repeat (first | (with_reducible first | exact HB.out | apply below_alloc | apply bN_ | apply below_drew1 | refine below_set ?_ GE139.out) | exact HB.out)) hb)
       clear HO_1
       clear BK139
       clear HB
       have HO_1 := n0_
       have HO143 := n1_
       have BK139 := n2_
       have HB := n3_
       clear n0_ n1_ n2_ n3_
       clear hb ho17
       obtain ⟨Ao18, co18, eo18⟩ := Kd.R_slice HO143.out
       (first | subst eo18 | (injection eo18 with f1_ f2_ f3_; have f4_ := f1_.symm; have f5_ := f3_.symm; clear f1_ f2_ f3_; subst f4_; subst f5_))
       refine hK.out _ _ ⟨HS0_, HS1_, HS2_⟩ (fun hHeld => ?_)
       clear hK K
       refine norm_ (a' := ?_) ?_ ?_
       rotate_left
       ·
        show Act.put _ (some 60) _ = _
        simp only [Act.put, setIfInBounds_toArray, set_cons_zero, set_cons_succ, i64_w, i32_w]
        rfl
       refine two_ (i := 5) (j := 9) (Ni := some 61) (Nj := some 5) #[true, true, true, true, true, true, false, false, false, false, false, false] #[true, true, true, true, true, false, false, false, false, true, false, false] rfl rfl rfl rfl (two_of HT_.out (by kernel_rfl)) (by decide) (by decide) (fun K hK => ?_) (fun K hK => ?_)
       ·
        skip
        refine goes_ Try.func18 (by kernel_rfl) rfl #[.agg #[.int .i32 ((rd_T23 y131 x2_1).f0), .int .i32 ((rd_T23 y131 x2_1).f1), .int .u8 ((rd_T23 y131 x2_1).f2)], .slice Ao18 y141.length co18] (by rfl) rfl rfl (by (try simp only [List.map_toArray, List.map_cons, List.map_nil]); first | done | rfl | (simp only [List.length_drop, List.length_take]; rfl)) ?_
        with_reducible refine (counts_Run.calls k1 ((rd_T23 y131 x2_1).f0) ((rd_T23 y131 x2_1).f1) ((rd_T23 y131 x2_1).f2) _ _ y141 t144 t145 t146 t147 _ ?side1 ?side2 A6.out).mono ?_
        (case side1 => repeat (first | exact (Kd.R_reads' HO143.out).2.2 | (with_reducible refine Kd.C_alloc ?_ _) | (with_reducible refine Kd.C_drewN ?_ _) | (with_reducible refine Kd.C_drew ?_)))
        (case side2 => exact (Kd.R_reads' HO143.out).2.1)
        rintro e w19 ⟨rfl, hb⟩
        have HS0_ := (hb.cell (World.block_lt_of_cell? _ _ (hHeld.1))).trans (hHeld.1)
        have HS1_ := (hb.cell (World.block_lt_of_cell? _ _ (hHeld.2.1))).trans (hHeld.2.1)
        have HS2_ := (hb.cell (World.block_lt_of_cell? _ _ (hHeld.2.2))).trans (hHeld.2.2)
        refine ⟨_, rfl, ?_⟩
        have n0_ := Aside0.mk (Kd.R_below (by (with_reducible repeat (first | apply Kd.R_alloc | apply Kd.R_drewN | apply Kd.R_drew)); exact HO_1.out) hb)
        have n1_ := Aside0.mk (Kd.R_below (by (with_reducible repeat (first | apply Kd.R_alloc | apply Kd.R_drewN | apply Kd.R_drew)); exact HO143.out) hb)
        have n2_ := Aside0.mk (blk_below (g := gb139) (o := .cells #[.int .i32 t135, .int .i32 t136, .int .u8 t137] 23 (0, 0)) (by (with_reducible repeat (first | refine blk_drewN ?_ _ | refine blk_drew ?_ | refine blk_alloc ?_ _)); exact BK139.out) hb)
        have n3_ := Aside0.mk (below_step (by repeat (first | (with_reducible first | exact HB.out | apply below_alloc | apply bN_ | apply below_drew1 | refine below_set ?_ GE139.out) | exact HB.out)) hb)
        clear HO_1
        clear HO143
        clear BK139
        clear HB
        have HO_1 := n0_
        have HO143 := n1_
        have BK139 := n2_
        have HB := n3_
        clear n0_ n1_ n2_ n3_
        (try clear hb)
        (try clear hb2)
        (try clear hk)
        (try clear hi)
        refine hK.out _ _ ⟨HS0_, HS1_, HS2_⟩ (fun hHeld => ?_)
        clear hK K
        refine norm_ (a' := ?_) ?_ ?_
        rotate_left
        ·
         show Act.put _ (some 61) _ = _
         simp only [Act.put, setIfInBounds_toArray, set_cons_zero, set_cons_succ, i64_w, i32_w]
         rfl
        refine pure_ (i := 6) (N := some 55) (v := ?_) (a' := ?_) #[true, true, true, true, true, true, true, false, false, false, false, false] rfl rfl (any_of HT_.out (by kernel_rfl)) (fun _ _ _ h => h) (Or.inl ⟨by rfl, ?_⟩) ?_ ?_
        rotate_left
        ·
         intro w'
         go_simp
         with_reducible rfl
        rotate_left
        ·
         simp only [Act.put, setIfInBounds_toArray, set_cons_zero, set_cons_succ, i64_w, i32_w]
         rfl
        refine pure_ (i := 7) (N := some 62) (v := ?_) (a' := ?_) #[true, true, true, true, true, true, true, true, false, false, false, false] rfl rfl (any_of HT_.out (by kernel_rfl)) (fun _ _ _ h => h) (Or.inl ⟨by rfl, ?_⟩) ?_ ?_
        rotate_left
        ·
         intro w'
         go_simp
         with_reducible rfl
        rotate_left
        ·
         simp only [Act.put, setIfInBounds_toArray, set_cons_zero, set_cons_succ, i64_w, i32_w]
         rfl
        refine pure_ (i := 8) (N := some 63) (v := ?_) (a' := ?_) #[true, true, true, true, true, true, true, true, true, false, false, false] rfl rfl (any_of HT_.out (by kernel_rfl)) (fun _ _ _ h => h) (Or.inl ⟨by rfl, ?_⟩) ?_ ?_
        rotate_left
        ·
         intro w'
         go_simp
         with_reducible rfl
        rotate_left
        ·
         simp only [Act.put, setIfInBounds_toArray, set_cons_zero, set_cons_succ, i64_w, i32_w]
         rfl
        refine one_ (i := 9) (N := some 5) #[true, true, true, true, true, true, true, true, true, true, false, false] rfl rfl (one_of HT_.out (by kernel_rfl)) (by decide) (fun K hK => ?_)
        refine box_step ?hg (N := 5) ?hd (cs := #[.int .i32 0, .int .i32 0, .int .u8 0]) (t := 23) ?hr ?_; (case hd => rfl); (case hg => rfl); (case hr => first | (go_simp; done) | (go_simp; rfl))
        intro gb148 hg w20 hbox hb
        have HS0_ := (hb.cell (World.block_lt_of_cell? _ _ (hHeld.1))).trans (hHeld.1)
        have HS1_ := (hb.cell (World.block_lt_of_cell? _ _ (hHeld.2.1))).trans (hHeld.2.1)
        have HS2_ := (hb.cell (World.block_lt_of_cell? _ _ (hHeld.2.2))).trans (hHeld.2.2)
        have n0_ := Aside0.mk (Kd.R_below (Kd.R_elderB (by (with_reducible repeat (first | apply Kd.R_alloc | apply Kd.R_drewN | apply Kd.R_drew)); exact HO_1.out) gb148 (Nat.le_of_eq hg.symm)) hb)
        have n1_ := Aside0.mk (Kd.R_below (by (with_reducible repeat (first | apply Kd.R_alloc | apply Kd.R_drewN | apply Kd.R_drew)); exact HO143.out) hb)
        have n2_ := Aside0.mk (blk_below (g := gb139) (o := .cells #[.int .i32 t135, .int .i32 t136, .int .u8 t137] 23 (0, 0)) (by (with_reducible repeat (first | refine blk_drewN ?_ _ | refine blk_drew ?_ | refine blk_alloc ?_ _)); exact BK139.out) hb)
        have n3_ := Aside0.mk (below_step (by repeat (first | (with_reducible first | exact HB.out | apply below_alloc | apply bN_ | apply below_drew1 | refine below_set ?_ GE139.out) | exact HB.out)) hb)
        have n4_ := Aside0.mk (hbox)
        have n5_ := Aside0.mk ((by rw [hg]; exact (below_size (by repeat (first | (with_reducible first | exact HB.out | apply below_alloc | apply bN_ | apply below_drew1 | refine below_set ?_ GE139.out) | exact HB.out))) : w.heap.size ≤ gb148))
        have n6_ := Aside0.mk ((by rw [hg]; exact (below_size (by repeat (first | (with_reducible first | exact HB.out | apply below_alloc | apply bN_ | apply below_drew1 | refine below_set ?_ GE139.out) | exact HB.out))) : w.heap.size ≤ gb148))
        have n7_ := Aside0.mk ((by rw [hg]; exact Nat.ne_of_lt (blk_lt (g := gb139) (o := .cells #[.int .i32 t135, .int .i32 t136, .int .u8 t137] 23 (0, 0)) (by (with_reducible repeat (first | refine blk_drewN ?_ _ | refine blk_drew ?_ | refine blk_alloc ?_ _)); exact BK139.out)) : gb139 ≠ gb148))
        have n8_ := Aside0.mk ((by rw [hg]; exact Nat.ne_of_gt (blk_lt (g := gb139) (o := .cells #[.int .i32 t135, .int .i32 t136, .int .u8 t137] 23 (0, 0)) (by (with_reducible repeat (first | refine blk_drewN ?_ _ | refine blk_drew ?_ | refine blk_alloc ?_ _)); exact BK139.out)) : gb148 ≠ gb139))
        clear HO_1
        clear HO143
        clear BK139
        clear HB
        have HO_1 := n0_
        have HO143 := n1_
        have BK139 := n2_
        have HB := n3_
        have BK148 := n4_
        have GW148 := n5_
        have GE148 := n6_
        have NB139_148 := n7_
        have NB148_139 := n8_
        clear n0_ n1_ n2_ n3_ n4_ n5_ n6_ n7_ n8_
        clear hb hbox hg
        refine hK.out _ _ ⟨HS0_, HS1_, HS2_⟩ (fun hHeld => ?_)
        clear hK K
        refine norm_ (a' := ?_) ?_ ?_
        rotate_left
        ·
         show Act.put _ (some 5) _ = _
         simp only [Act.put, setIfInBounds_toArray, set_cons_zero, set_cons_succ, i64_w, i32_w]
         rfl
        exact norm_ (by simp only [putAll, Act.put, setIfInBounds_toArray, set_cons_zero, set_cons_succ]) (hCont (.slice Ao18 y141.length co18, gb148) _ ⟨hHeld, (by (with_reducible repeat (first | apply Kd.R_alloc | apply Kd.R_drewN | apply Kd.R_drew)); exact HO143.out), (by (with_reducible repeat (first | apply Kd.R_alloc | apply Kd.R_drewN | apply Kd.R_drew)); exact HO_1.out), (by (with_reducible repeat (first | refine blk_drewN ?_ _ | refine blk_drew ?_ | refine blk_alloc ?_ _)); exact BK139.out), (by (with_reducible repeat (first | refine blk_drewN ?_ _ | refine blk_drew ?_ | refine blk_alloc ?_ _)); exact BK148.out), GW148.out, GE148.out, NB139_148.out, NB148_139.out, (by repeat (first | (with_reducible first | exact HB.out | apply below_alloc | apply bN_ | apply below_drew1 | refine below_set ?_ GE139.out | refine below_set ?_ GE148.out) | exact HB.out))⟩)
       ·
        skip
        refine box_step ?hg (N := 5) ?hd (cs := #[.int .i32 0, .int .i32 0, .int .u8 0]) (t := 23) ?hr ?_; (case hd => rfl); (case hg => rfl); (case hr => first | (go_simp; done) | (go_simp; rfl))
        intro gb148 hg w18 hbox hb
        have HS0_ := (hb.cell (World.block_lt_of_cell? _ _ (hHeld.1))).trans (hHeld.1)
        have HS1_ := (hb.cell (World.block_lt_of_cell? _ _ (hHeld.2.1))).trans (hHeld.2.1)
        have HS2_ := (hb.cell (World.block_lt_of_cell? _ _ (hHeld.2.2))).trans (hHeld.2.2)
        have n0_ := Aside0.mk (Kd.R_below (Kd.R_elderB (by (with_reducible repeat (first | apply Kd.R_alloc | apply Kd.R_drewN | apply Kd.R_drew)); exact HO_1.out) gb148 (Nat.le_of_eq hg.symm)) hb)
        have n1_ := Aside0.mk (Kd.R_below (by (with_reducible repeat (first | apply Kd.R_alloc | apply Kd.R_drewN | apply Kd.R_drew)); exact HO143.out) hb)
        have n2_ := Aside0.mk (blk_below (g := gb139) (o := .cells #[.int .i32 t135, .int .i32 t136, .int .u8 t137] 23 (0, 0)) (by (with_reducible repeat (first | refine blk_drewN ?_ _ | refine blk_drew ?_ | refine blk_alloc ?_ _)); exact BK139.out) hb)
        have n3_ := Aside0.mk (below_step (by repeat (first | (with_reducible first | exact HB.out | apply below_alloc | apply bN_ | apply below_drew1 | refine below_set ?_ GE139.out) | exact HB.out)) hb)
        have n4_ := Aside0.mk (hbox)
        have n5_ := Aside0.mk ((by rw [hg]; exact (below_size (by repeat (first | (with_reducible first | exact HB.out | apply below_alloc | apply bN_ | apply below_drew1 | refine below_set ?_ GE139.out) | exact HB.out))) : w.heap.size ≤ gb148))
        have n6_ := Aside0.mk ((by rw [hg]; exact (below_size (by repeat (first | (with_reducible first | exact HB.out | apply below_alloc | apply bN_ | apply below_drew1 | refine below_set ?_ GE139.out) | exact HB.out))) : w.heap.size ≤ gb148))
        have n7_ := Aside0.mk ((by rw [hg]; exact Nat.ne_of_lt (blk_lt (g := gb139) (o := .cells #[.int .i32 t135, .int .i32 t136, .int .u8 t137] 23 (0, 0)) (by (with_reducible repeat (first | refine blk_drewN ?_ _ | refine blk_drew ?_ | refine blk_alloc ?_ _)); exact BK139.out)) : gb139 ≠ gb148))
        have n8_ := Aside0.mk ((by rw [hg]; exact Nat.ne_of_gt (blk_lt (g := gb139) (o := .cells #[.int .i32 t135, .int .i32 t136, .int .u8 t137] 23 (0, 0)) (by (with_reducible repeat (first | refine blk_drewN ?_ _ | refine blk_drew ?_ | refine blk_alloc ?_ _)); exact BK139.out)) : gb148 ≠ gb139))
        clear HO_1
        clear HO143
        clear BK139
        clear HB
        have HO_1 := n0_
        have HO143 := n1_
        have BK139 := n2_
        have HB := n3_
        have BK148 := n4_
        have GW148 := n5_
        have GE148 := n6_
        have NB139_148 := n7_
        have NB148_139 := n8_
        clear n0_ n1_ n2_ n3_ n4_ n5_ n6_ n7_ n8_
        clear hb hbox hg
        obtain ⟨Ao19, co19, eo19⟩ := Kd.R_slice HO143.out
        (first | subst eo19 | (injection eo19 with f1_ f2_ f3_; have f4_ := f1_.symm; have f5_ := f3_.symm; clear f1_ f2_ f3_; subst f4_; subst f5_))
        refine hK.out _ _ ⟨HS0_, HS1_, HS2_⟩ (fun hHeld => ?_)
        clear hK K
        refine norm_ (a' := ?_) ?_ ?_
        rotate_left
        ·
         show Act.put _ (some 5) _ = _
         simp only [Act.put, setIfInBounds_toArray, set_cons_zero, set_cons_succ, i64_w, i32_w]
         rfl
        refine one_ (i := 5) (N := some 61) #[true, true, true, true, true, true, false, false, false, true, false, false] rfl rfl (one_of HT_.out (by kernel_rfl)) (by decide) (fun K hK => ?_)
        refine goes_ Try.func18 (by kernel_rfl) rfl #[.agg #[.int .i32 ((rd_T23 y131 x2_1).f0), .int .i32 ((rd_T23 y131 x2_1).f1), .int .u8 ((rd_T23 y131 x2_1).f2)], .slice Ao19 y141.length co19] (by rfl) rfl rfl (by (try simp only [List.map_toArray, List.map_cons, List.map_nil]); first | done | rfl | (simp only [List.length_drop, List.length_take]; rfl)) ?_
        with_reducible refine (counts_Run.calls k1 ((rd_T23 y131 x2_1).f0) ((rd_T23 y131 x2_1).f1) ((rd_T23 y131 x2_1).f2) _ _ y141 t144 t145 t146 t147 _ ?side1 ?side2 A6.out).mono ?_
        (case side1 => repeat (first | exact (Kd.R_reads' HO143.out).2.2 | (with_reducible refine Kd.C_alloc ?_ _) | (with_reducible refine Kd.C_drewN ?_ _) | (with_reducible refine Kd.C_drew ?_)))
        (case side2 => exact (Kd.R_reads' HO143.out).2.1)
        rintro e w20 ⟨rfl, hb⟩
        have HS0_ := (hb.cell (World.block_lt_of_cell? _ _ (hHeld.1))).trans (hHeld.1)
        have HS1_ := (hb.cell (World.block_lt_of_cell? _ _ (hHeld.2.1))).trans (hHeld.2.1)
        have HS2_ := (hb.cell (World.block_lt_of_cell? _ _ (hHeld.2.2))).trans (hHeld.2.2)
        refine ⟨_, rfl, ?_⟩
        have n0_ := Aside0.mk (Kd.R_below (by (with_reducible repeat (first | apply Kd.R_alloc | apply Kd.R_drewN | apply Kd.R_drew)); exact HO_1.out) hb)
        have n1_ := Aside0.mk (Kd.R_below (by (with_reducible repeat (first | apply Kd.R_alloc | apply Kd.R_drewN | apply Kd.R_drew)); exact HO143.out) hb)
        have n2_ := Aside0.mk (blk_below (g := gb139) (o := .cells #[.int .i32 t135, .int .i32 t136, .int .u8 t137] 23 (0, 0)) (by (with_reducible repeat (first | refine blk_drewN ?_ _ | refine blk_drew ?_ | refine blk_alloc ?_ _)); exact BK139.out) hb)
        have n3_ := Aside0.mk (blk_below (g := gb148) (o := .cells #[.int .i32 0, .int .i32 0, .int .u8 0] 23 (0, 0)) (by (with_reducible repeat (first | refine blk_drewN ?_ _ | refine blk_drew ?_ | refine blk_alloc ?_ _)); exact BK148.out) hb)
        have n4_ := Aside0.mk (below_step (by repeat (first | (with_reducible first | exact HB.out | apply below_alloc | apply bN_ | apply below_drew1 | refine below_set ?_ GE139.out | refine below_set ?_ GE148.out) | exact HB.out)) hb)
        clear HO_1
        clear HO143
        clear BK139
        clear BK148
        clear HB
        have HO_1 := n0_
        have HO143 := n1_
        have BK139 := n2_
        have BK148 := n3_
        have HB := n4_
        clear n0_ n1_ n2_ n3_ n4_
        (try clear hb)
        (try clear hb2)
        (try clear hk)
        (try clear hi)
        refine hK.out _ _ ⟨HS0_, HS1_, HS2_⟩ (fun hHeld => ?_)
        clear hK K
        refine norm_ (a' := ?_) ?_ ?_
        rotate_left
        ·
         show Act.put _ (some 61) _ = _
         simp only [Act.put, setIfInBounds_toArray, set_cons_zero, set_cons_succ, i64_w, i32_w]
         rfl
        refine pure_ (i := 6) (N := some 55) (v := ?_) (a' := ?_) #[true, true, true, true, true, true, true, false, false, true, false, false] rfl rfl (any_of HT_.out (by kernel_rfl)) (fun _ _ _ h => h) (Or.inl ⟨by rfl, ?_⟩) ?_ ?_
        rotate_left
        ·
         intro w'
         go_simp
         with_reducible rfl
        rotate_left
        ·
         simp only [Act.put, setIfInBounds_toArray, set_cons_zero, set_cons_succ, i64_w, i32_w]
         rfl
        refine pure_ (i := 7) (N := some 62) (v := ?_) (a' := ?_) #[true, true, true, true, true, true, true, true, false, true, false, false] rfl rfl (any_of HT_.out (by kernel_rfl)) (fun _ _ _ h => h) (Or.inl ⟨by rfl, ?_⟩) ?_ ?_
        rotate_left
        ·
         intro w'
         go_simp
         with_reducible rfl
        rotate_left
        ·
         simp only [Act.put, setIfInBounds_toArray, set_cons_zero, set_cons_succ, i64_w, i32_w]
         rfl
        refine pure_ (i := 8) (N := some 63) (v := ?_) (a' := ?_) #[true, true, true, true, true, true, true, true, true, true, false, false] rfl rfl (any_of HT_.out (by kernel_rfl)) (fun _ _ _ h => h) (Or.inl ⟨by rfl, ?_⟩) ?_ ?_
        rotate_left
        ·
         intro w'
         go_simp
         with_reducible rfl
        rotate_left
        ·
         simp only [Act.put, setIfInBounds_toArray, set_cons_zero, set_cons_succ, i64_w, i32_w]
         rfl
        exact norm_ (by simp only [putAll, Act.put, setIfInBounds_toArray, set_cons_zero, set_cons_succ]) (hCont (.slice Ao19 y141.length co19, gb148) _ ⟨hHeld, (by (with_reducible repeat (first | apply Kd.R_alloc | apply Kd.R_drewN | apply Kd.R_drew)); exact HO143.out), (by (with_reducible repeat (first | apply Kd.R_alloc | apply Kd.R_drewN | apply Kd.R_drew)); exact HO_1.out), (by (with_reducible repeat (first | refine blk_drewN ?_ _ | refine blk_drew ?_ | refine blk_alloc ?_ _)); exact BK139.out), (by (with_reducible repeat (first | refine blk_drewN ?_ _ | refine blk_drew ?_ | refine blk_alloc ?_ _)); exact BK148.out), GW148.out, GE148.out, NB139_148.out, NB148_139.out, (by repeat (first | (with_reducible first | exact HB.out | apply below_alloc | apply bN_ | apply below_drew1 | refine below_set ?_ GE139.out | refine below_set ?_ GE148.out) | exact HB.out))⟩)
      ·
       skip
       refine box_step ?hg (N := 5) ?hd (cs := #[.int .i32 0, .int .i32 0, .int .u8 0]) (t := 23) ?hr ?_; (case hd => rfl); (case hg => rfl); (case hr => first | (go_simp; done) | (go_simp; rfl))
       intro gb148 hg w16 hbox hb
       have HS0_ := (hb.cell (World.block_lt_of_cell? _ _ (hHeld.1))).trans (hHeld.1)
       have HS1_ := (hb.cell (World.block_lt_of_cell? _ _ (hHeld.2.1))).trans (hHeld.2.1)
       have HS2_ := (hb.cell (World.block_lt_of_cell? _ _ (hHeld.2.2))).trans (hHeld.2.2)
       have n0_ := Aside0.mk (Kd.R_below (Kd.R_elderB (by (with_reducible repeat (first | apply Kd.R_alloc | apply Kd.R_drewN | apply Kd.R_drew)); exact HO_1.out) gb148 (Nat.le_of_eq hg.symm)) hb)
       have n1_ := Aside0.mk (blk_below (g := gb139) (o := .cells #[.int .i32 t135, .int .i32 t136, .int .u8 t137] 23 (0, 0)) (by (with_reducible repeat (first | refine blk_drewN ?_ _ | refine blk_drew ?_ | refine blk_alloc ?_ _)); exact BK139.out) hb)
       have n2_ := Aside0.mk (below_step (by repeat (first | (with_reducible first | exact HB.out | apply below_alloc | apply bN_ | apply below_drew1 | refine below_set ?_ GE139.out) | exact HB.out)) hb)
       have n3_ := Aside0.mk (hbox)
       have n4_ := Aside0.mk ((by rw [hg]; exact (below_size (by repeat (first | (with_reducible first | exact HB.out | apply below_alloc | apply bN_ | apply below_drew1 | refine below_set ?_ GE139.out) | exact HB.out))) : w.heap.size ≤ gb148))
       have n5_ := Aside0.mk ((by rw [hg]; exact (below_size (by repeat (first | (with_reducible first | exact HB.out | apply below_alloc | apply bN_ | apply below_drew1 | refine below_set ?_ GE139.out) | exact HB.out))) : w.heap.size ≤ gb148))
       have n6_ := Aside0.mk ((by rw [hg]; exact Nat.ne_of_lt (blk_lt (g := gb139) (o := .cells #[.int .i32 t135, .int .i32 t136, .int .u8 t137] 23 (0, 0)) (by (with_reducible repeat (first | refine blk_drewN ?_ _ | refine blk_drew ?_ | refine blk_alloc ?_ _)); exact BK139.out)) : gb139 ≠ gb148))
       have n7_ := Aside0.mk ((by rw [hg]; exact Nat.ne_of_gt (blk_lt (g := gb139) (o := .cells #[.int .i32 t135, .int .i32 t136, .int .u8 t137] 23 (0, 0)) (by (with_reducible repeat (first | refine blk_drewN ?_ _ | refine blk_drew ?_ | refine blk_alloc ?_ _)); exact BK139.out)) : gb148 ≠ gb139))
       clear HO_1
       clear BK139
       clear HB
       have HO_1 := n0_
       have BK139 := n1_
       have HB := n2_
       have BK148 := n3_
       have GW148 := n4_
       have GE148 := n5_
       have NB139_148 := n6_
       have NB148_139 := n7_
       clear n0_ n1_ n2_ n3_ n4_ n5_ n6_ n7_
       clear hb hbox hg
       refine hK.out _ _ ⟨HS0_, HS1_, HS2_⟩ (fun hHeld => ?_)
       clear hK K
       refine norm_ (a' := ?_) ?_ ?_
       rotate_left
       ·
        show Act.put _ (some 5) _ = _
        simp only [Act.put, setIfInBounds_toArray, set_cons_zero, set_cons_succ, i64_w, i32_w]
        rfl
       refine one_ (i := 4) (N := some 60) #[true, true, true, true, true, false, false, false, false, true, false, false] rfl rfl (one_of HT_.out (by kernel_rfl)) (by decide) (fun K hK => ?_)
       refine Kd.R_make_step (Kd.int .u8) _ 5 (by rfl) (N := 60) rfl 38 _ _ rfl 20001 rfl rfl Try.underlying38 (.int .u8 0) 1 info5 rfl (by decide) (by omega) 0 (ok := fun _ => True) (okp := fun _ => True) rfl (fun _ hk => hk) trivial (by omega) (by omega) (Below.refl _ _) (Nat.le_refl _) ?_
       intro v142 w17 ho18 hb hg_ hnew_
       have HS0_ := (hb.cell (World.block_lt_of_cell? _ _ (hHeld.1))).trans (hHeld.1)
       have HS1_ := (hb.cell (World.block_lt_of_cell? _ _ (hHeld.2.1))).trans (hHeld.2.1)
       have HS2_ := (hb.cell (World.block_lt_of_cell? _ _ (hHeld.2.2))).trans (hHeld.2.2)
       clear hg_ hnew_
       (first | rw [← Ny141.out] at ho18 | (simp only [Int.reduceToNat] at ho18; rw [← Ny141.out] at ho18))
       have n0_ := Aside0.mk (Kd.R_below (by (with_reducible repeat (first | apply Kd.R_alloc | apply Kd.R_drewN | apply Kd.R_drew)); exact HO_1.out) hb)
       have n1_ := Aside0.mk (Kd.R_lower ho18 (below_size (by repeat (first | (with_reducible first | exact HB.out | apply below_alloc | apply bN_ | apply below_drew1 | refine below_set ?_ GE139.out | refine below_set ?_ GE148.out) | exact HB.out))))
       have n2_ := Aside0.mk (blk_below (g := gb139) (o := .cells #[.int .i32 t135, .int .i32 t136, .int .u8 t137] 23 (0, 0)) (by (with_reducible repeat (first | refine blk_drewN ?_ _ | refine blk_drew ?_ | refine blk_alloc ?_ _)); exact BK139.out) hb)
       have n3_ := Aside0.mk (blk_below (g := gb148) (o := .cells #[.int .i32 0, .int .i32 0, .int .u8 0] 23 (0, 0)) (by (with_reducible repeat (first | refine blk_drewN ?_ _ | refine blk_drew ?_ | refine blk_alloc ?_ _)); exact BK148.out) hb)
       have n4_ := Aside0.mk (below_step (by repeat (first | (with_reducible first | exact HB.out | apply below_alloc | apply bN_ | apply below_drew1 | refine below_set ?_ GE139.out | refine below_set ?_ GE148.out) | exact HB.out)) hb)
       clear HO_1
       clear BK139
       clear BK148
       clear HB
       have HO_1 := n0_
       have HO143 := n1_
       have BK139 := n2_
       have BK148 := n3_
       have HB := n4_
       clear n0_ n1_ n2_ n3_ n4_
       clear hb ho18
       obtain ⟨Ao19, co19, eo19⟩ := Kd.R_slice HO143.out
       (first | subst eo19 | (injection eo19 with f1_ f2_ f3_; have f4_ := f1_.symm; have f5_ := f3_.symm; clear f1_ f2_ f3_; subst f4_; subst f5_))
       refine hK.out _ _ ⟨HS0_, HS1_, HS2_⟩ (fun hHeld => ?_)
       clear hK K
       refine norm_ (a' := ?_) ?_ ?_
       rotate_left
       ·
        show Act.put _ (some 60) _ = _
        simp only [Act.put, setIfInBounds_toArray, set_cons_zero, set_cons_succ, i64_w, i32_w]
        rfl
       refine one_ (i := 5) (N := some 61) #[true, true, true, true, true, true, false, false, false, true, false, false] rfl rfl (one_of HT_.out (by kernel_rfl)) (by decide) (fun K hK => ?_)
       refine goes_ Try.func18 (by kernel_rfl) rfl #[.agg #[.int .i32 ((rd_T23 y131 x2_1).f0), .int .i32 ((rd_T23 y131 x2_1).f1), .int .u8 ((rd_T23 y131 x2_1).f2)], .slice Ao19 y141.length co19] (by rfl) rfl rfl (by (try simp only [List.map_toArray, List.map_cons, List.map_nil]); first | done | rfl | (simp only [List.length_drop, List.length_take]; rfl)) ?_
       with_reducible refine (counts_Run.calls k1 ((rd_T23 y131 x2_1).f0) ((rd_T23 y131 x2_1).f1) ((rd_T23 y131 x2_1).f2) _ _ y141 t144 t145 t146 t147 _ ?side1 ?side2 A6.out).mono ?_
       (case side1 => repeat (first | exact (Kd.R_reads' HO143.out).2.2 | (with_reducible refine Kd.C_alloc ?_ _) | (with_reducible refine Kd.C_drewN ?_ _) | (with_reducible refine Kd.C_drew ?_)))
       (case side2 => exact (Kd.R_reads' HO143.out).2.1)
       rintro e w20 ⟨rfl, hb⟩
       have HS0_ := (hb.cell (World.block_lt_of_cell? _ _ (hHeld.1))).trans (hHeld.1)
       have HS1_ := (hb.cell (World.block_lt_of_cell? _ _ (hHeld.2.1))).trans (hHeld.2.1)
       have HS2_ := (hb.cell (World.block_lt_of_cell? _ _ (hHeld.2.2))).trans (hHeld.2.2)
       refine ⟨_, rfl, ?_⟩
       have n0_ := Aside0.mk (Kd.R_below (by (with_reducible repeat (first | apply Kd.R_alloc | apply Kd.R_drewN | apply Kd.R_drew)); exact HO_1.out) hb)
       have n1_ := Aside0.mk (Kd.R_below (by (with_reducible repeat (first | apply Kd.R_alloc | apply Kd.R_drewN | apply Kd.R_drew)); exact HO143.out) hb)
       have n2_ := Aside0.mk (blk_below (g := gb139) (o := .cells #[.int .i32 t135, .int .i32 t136, .int .u8 t137] 23 (0, 0)) (by (with_reducible repeat (first | refine blk_drewN ?_ _ | refine blk_drew ?_ | refine blk_alloc ?_ _)); exact BK139.out) hb)
       have n3_ := Aside0.mk (blk_below (g := gb148) (o := .cells #[.int .i32 0, .int .i32 0, .int .u8 0] 23 (0, 0)) (by (with_reducible repeat (first | refine blk_drewN ?_ _ | refine blk_drew ?_ | refine blk_alloc ?_ _)); exact BK148.out) hb)
       have n4_ := Aside0.mk (below_step (by repeat (first | (with_reducible first | exact HB.out | apply below_alloc | apply bN_ | apply below_drew1 | refine below_set ?_ GE139.out | refine below_set ?_ GE148.out) | exact HB.out)) hb)
       clear HO_1
       clear HO143
       clear BK139
       clear BK148
       clear HB
       have HO_1 := n0_
       have HO143 := n1_
       have BK139 := n2_
       have BK148 := n3_
       have HB := n4_
       clear n0_ n1_ n2_ n3_ n4_
       (try clear hb)
       (try clear hb2)
       (try clear hk)
       (try clear hi)
       refine hK.out _ _ ⟨HS0_, HS1_, HS2_⟩ (fun hHeld => ?_)
       clear hK K
       refine norm_ (a' := ?_) ?_ ?_
       rotate_left
       ·
        show Act.put _ (some 61) _ = _
        simp only [Act.put, setIfInBounds_toArray, set_cons_zero, set_cons_succ, i64_w, i32_w]
        rfl
       refine pure_ (i := 6) (N := some 55) (v := ?_) (a' := ?_) #[true, true, true, true, true, true, true, false, false, true, false, false] rfl rfl (any_of HT_.out (by kernel_rfl)) (fun _ _ _ h => h) (Or.inl ⟨by rfl, ?_⟩) ?_ ?_
       rotate_left
       ·
        intro w'
        go_simp
        with_reducible rfl
       rotate_left
       ·
        simp only [Act.put, setIfInBounds_toArray, set_cons_zero, set_cons_succ, i64_w, i32_w]
        rfl
       refine pure_ (i := 7) (N := some 62) (v := ?_) (a' := ?_) #[true, true, true, true, true, true, true, true, false, true, false, false] rfl rfl (any_of HT_.out (by kernel_rfl)) (fun _ _ _ h => h) (Or.inl ⟨by rfl, ?_⟩) ?_ ?_
       rotate_left
       ·
        intro w'
        go_simp
        with_reducible rfl
       rotate_left
       ·
        simp only [Act.put, setIfInBounds_toArray, set_cons_zero, set_cons_succ, i64_w, i32_w]
        rfl
       refine pure_ (i := 8) (N := some 63) (v := ?_) (a' := ?_) #[true, true, true, true, true, true, true, true, true, true, false, false] rfl rfl (any_of HT_.out (by kernel_rfl)) (fun _ _ _ h => h) (Or.inl ⟨by rfl, ?_⟩) ?_ ?_
       rotate_left
       ·
        intro w'
        go_simp
        with_reducible rfl
       rotate_left
       ·
        simp only [Act.put, setIfInBounds_toArray, set_cons_zero, set_cons_succ, i64_w, i32_w]
        rfl
       exact norm_ (by simp only [putAll, Act.put, setIfInBounds_toArray, set_cons_zero, set_cons_succ]) (hCont (.slice Ao19 y141.length co19, gb148) _ ⟨hHeld, (by (with_reducible repeat (first | apply Kd.R_alloc | apply Kd.R_drewN | apply Kd.R_drew)); exact HO143.out), (by (with_reducible repeat (first | apply Kd.R_alloc | apply Kd.R_drewN | apply Kd.R_drew)); exact HO_1.out), (by (with_reducible repeat (first | refine blk_drewN ?_ _ | refine blk_drew ?_ | refine blk_alloc ?_ _)); exact BK139.out), (by (with_reducible repeat (first | refine blk_drewN ?_ _ | refine blk_drew ?_ | refine blk_alloc ?_ _)); exact BK148.out), GW148.out, GE148.out, NB139_148.out, NB148_139.out, (by repeat (first | (with_reducible first | exact HB.out | apply below_alloc | apply bN_ | apply below_drew1 | refine below_set ?_ GE139.out | refine below_set ?_ GE148.out) | exact HB.out))⟩)
     rintro ⟨v142, gb148⟩ w21 ⟨hS_, h0_, h1_, h2_, h3_, h4_, h5_, h6_, h7_, h8_⟩
     have n0_ : Aside0 (Kd.R (Kd.int .u8) 5 w21 w.heap.size (fun _ => True) v142 y141) := ⟨h0_⟩
     have n1_ : Aside0 (Kd.R k23 23 w21 w.heap.size (fun k_ => k_ ≠ gb139 ∧ k_ ≠ gb148) (.slice (some ad134) y131.length co10) y131) := ⟨h1_⟩
     have n2_ : Aside0 (w21.heap[gb139]? = some (.cells #[.int .i32 t135, .int .i32 t136, .int .u8 t137] 23 (0, 0))) := ⟨h2_⟩
     have n3_ : Aside0 (w21.heap[gb148]? = some (.cells #[.int .i32 0, .int .i32 0, .int .u8 0] 23 (0, 0))) := ⟨h3_⟩
     have n4_ : Aside0 (w.heap.size ≤ gb148) := ⟨h4_⟩
     have n5_ : Aside0 (w.heap.size ≤ gb148) := ⟨h5_⟩
     have n6_ : Aside0 (gb139 ≠ gb148) := ⟨h6_⟩
     have n7_ : Aside0 (gb148 ≠ gb139) := ⟨h7_⟩
     have n8_ : Aside0 (Below w.heap.size w w21) := ⟨h8_⟩
     clear HO_1
     clear BK139
     clear HB
     clear h0_ h1_ h2_ h3_ h4_ h5_ h6_ h7_ h8_
     have HO143 := n0_
     have HO_1 := n1_
     have BK139 := n2_
     have BK148 := n3_
     have GW148 := n4_
     have GE148 := n5_
     have NB139_148 := n6_
     have NB148_139 := n7_
     have HB := n8_
     clear n0_ n1_ n2_ n3_ n4_ n5_ n6_ n7_ n8_
     have hHeld : w21.cell? (ad134.add ((x2_1).toNat * 3)) = some (.int .i32 ((rd_T23 y131 x2_1).f0)) ∧ w21.cell? ⟨(ad134.add ((x2_1).toNat * 3)).block, (ad134.add ((x2_1).toNat * 3)).off + 1, none⟩ = some (.int .i32 ((rd_T23 y131 x2_1).f1)) ∧ w21.cell? ⟨(ad134.add ((x2_1).toNat * 3)).block, (ad134.add ((x2_1).toNat * 3)).off + 2, none⟩ = some (.int .u8 ((rd_T23 y131 x2_1).f2)) := hS_
     refine norm_ (a' := ?_) ?_ ?_
     rotate_left
     ·
      simp only [putAll, Act.put, setIfInBounds_toArray, set_cons_zero, set_cons_succ]
      rfl
     refine one_ (i := 10) (N := none) #[true, true, true, true, true, true, true, true, true, true, true, false] rfl rfl (one_of HT_.out (by kernel_rfl)) (by decide) (fun K hK => ?_)
     have hs22 : w21.cell? ⟨gb148, 0, none⟩ = some (.int .i32 0) := (blk_cell BK148.out 0).trans rfl
     have hfs22 := blk_frozen BK148.out 0
     have hns22_0 := NB139_148.out
     have hms22_0 := NB148_139.out
     have hs23 : w21.cell? ⟨gb148, 1, none⟩ = some (.int .i32 0) := (blk_cell BK148.out 1).trans rfl
     have hfs23 := blk_frozen BK148.out 1
     have hns23_0 := NB139_148.out
     have hms23_0 := NB148_139.out
     have hs24 : w21.cell? ⟨gb148, 2, none⟩ = some (.int .u8 0) := (blk_cell BK148.out 2).trans rfl
     have hfs24 := blk_frozen BK148.out 2
     have hns24_0 := NB139_148.out
     have hms24_0 := NB148_139.out
     refine skip_ (w1 := ?_) (by rfl) rfl ?_ ?_
     rotate_left
     ·
      go_simp
      rfl
     refine hK.out _ _ ⟨((cell_far (p := ⟨gb148, _, none⟩) (by first | exact Kd.own_blk (Kd.R_away HO_1.out (fun _ hk => hk.2)) | (rw [add_block]; exact Kd.own_blk (Kd.R_away HO_1.out (fun _ hk => hk.2))) | (show (Addr.add _ _).block ≠ _; rw [add_block]; exact Kd.own_blk (Kd.R_away HO_1.out (fun _ hk => hk.2))) | (dsimp only; exact Kd.own_blk (Kd.R_away HO_1.out (fun _ hk => hk.2)))) _).trans (((cell_far (p := ⟨gb148, _, none⟩) (by first | exact Kd.own_blk (Kd.R_away HO_1.out (fun _ hk => hk.2)) | (rw [add_block]; exact Kd.own_blk (Kd.R_away HO_1.out (fun _ hk => hk.2))) | (show (Addr.add _ _).block ≠ _; rw [add_block]; exact Kd.own_blk (Kd.R_away HO_1.out (fun _ hk => hk.2))) | (dsimp only; exact Kd.own_blk (Kd.R_away HO_1.out (fun _ hk => hk.2)))) _).trans (((cell_far (p := ⟨gb148, _, none⟩) (by first | exact Kd.own_blk (Kd.R_away HO_1.out (fun _ hk => hk.2)) | (rw [add_block]; exact Kd.own_blk (Kd.R_away HO_1.out (fun _ hk => hk.2))) | (show (Addr.add _ _).block ≠ _; rw [add_block]; exact Kd.own_blk (Kd.R_away HO_1.out (fun _ hk => hk.2))) | (dsimp only; exact Kd.own_blk (Kd.R_away HO_1.out (fun _ hk => hk.2)))) _).trans (hHeld.1)))))), ((cell_far (p := ⟨gb148, _, none⟩) (by first | exact Kd.own_blk (Kd.R_away HO_1.out (fun _ hk => hk.2)) | (rw [add_block]; exact Kd.own_blk (Kd.R_away HO_1.out (fun _ hk => hk.2))) | (show (Addr.add _ _).block ≠ _; rw [add_block]; exact Kd.own_blk (Kd.R_away HO_1.out (fun _ hk => hk.2))) | (dsimp only; exact Kd.own_blk (Kd.R_away HO_1.out (fun _ hk => hk.2)))) _).trans (((cell_far (p := ⟨gb148, _, none⟩) (by first | exact Kd.own_blk (Kd.R_away HO_1.out (fun _ hk => hk.2)) | (rw [add_block]; exact Kd.own_blk (Kd.R_away HO_1.out (fun _ hk => hk.2))) | (show (Addr.add _ _).block ≠ _; rw [add_block]; exact Kd.own_blk (Kd.R_away HO_1.out (fun _ hk => hk.2))) | (dsimp only; exact Kd.own_blk (Kd.R_away HO_1.out (fun _ hk => hk.2)))) _).trans (((cell_far (p := ⟨gb148, _, none⟩) (by first | exact Kd.own_blk (Kd.R_away HO_1.out (fun _ hk => hk.2)) | (rw [add_block]; exact Kd.own_blk (Kd.R_away HO_1.out (fun _ hk => hk.2))) | (show (Addr.add _ _).block ≠ _; rw [add_block]; exact Kd.own_blk (Kd.R_away HO_1.out (fun _ hk => hk.2))) | (dsimp only; exact Kd.own_blk (Kd.R_away HO_1.out (fun _ hk => hk.2)))) _).trans (hHeld.2.1)))))), ((cell_far (p := ⟨gb148, _, none⟩) (by first | exact Kd.own_blk (Kd.R_away HO_1.out (fun _ hk => hk.2)) | (rw [add_block]; exact Kd.own_blk (Kd.R_away HO_1.out (fun _ hk => hk.2))) | (show (Addr.add _ _).block ≠ _; rw [add_block]; exact Kd.own_blk (Kd.R_away HO_1.out (fun _ hk => hk.2))) | (dsimp only; exact Kd.own_blk (Kd.R_away HO_1.out (fun _ hk => hk.2)))) _).trans (((cell_far (p := ⟨gb148, _, none⟩) (by first | exact Kd.own_blk (Kd.R_away HO_1.out (fun _ hk => hk.2)) | (rw [add_block]; exact Kd.own_blk (Kd.R_away HO_1.out (fun _ hk => hk.2))) | (show (Addr.add _ _).block ≠ _; rw [add_block]; exact Kd.own_blk (Kd.R_away HO_1.out (fun _ hk => hk.2))) | (dsimp only; exact Kd.own_blk (Kd.R_away HO_1.out (fun _ hk => hk.2)))) _).trans (((cell_far (p := ⟨gb148, _, none⟩) (by first | exact Kd.own_blk (Kd.R_away HO_1.out (fun _ hk => hk.2)) | (rw [add_block]; exact Kd.own_blk (Kd.R_away HO_1.out (fun _ hk => hk.2))) | (show (Addr.add _ _).block ≠ _; rw [add_block]; exact Kd.own_blk (Kd.R_away HO_1.out (fun _ hk => hk.2))) | (dsimp only; exact Kd.own_blk (Kd.R_away HO_1.out (fun _ hk => hk.2)))) _).trans (hHeld.2.2))))))⟩ (fun hHeld => ?_)
     clear hK K
     refine pure_ (i := 11) (N := some 6) (v := ?_) (a' := ?_) #[true, true, true, true, true, true, true, true, true, true, true, true] rfl rfl (any_of HT_.out (by kernel_rfl)) (fun _ _ _ h => h) (Or.inl ⟨by rfl, ?_⟩) ?_ ?_
     rotate_left
     ·
      intro w'
      go_simp
      with_reducible rfl
     rotate_left
     ·
      simp only [Act.put, setIfInBounds_toArray, set_cons_zero, set_cons_succ, i64_w, i32_w]
      rfl
     refine done_ (done_of HT_.out (by kernel_rfl)) ?_
     have p149 : 0 ≤ (x2_1 : Int) := of_decide_eq_true (by first | (with_reducible assumption) | assumption)
     have q149 : x2_1 < (y131.length : Int) := of_decide_eq_true (by first | (with_reducible assumption) | assumption)
     obtain ⟨ad149, e149, hx149_0, hx149_1, hx149_2⟩ := at_T23 (Kd.R_reads' HO_1.out).2.2 x2_1 p149 q149
     obtain rfl : ad134 = ad149 := (by injection e149)
     have hn149_0 : ad134.block ≠ gb148 := Kd.own_blk (Kd.R_away HO_1.out (fun _ hk => hk.2))
     have hn149_1 : ad134.block ≠ gb148 := Kd.own_blk (Kd.R_away HO_1.out (fun _ hk => hk.2))
     have hn149_2 : ad134.block ≠ gb148 := Kd.own_blk (Kd.R_away HO_1.out (fun _ hk => hk.2))
     replace hx149_0 := (cell_far (p := ⟨gb148, 0, none⟩) (by first | (rw [add_block]; exact hn149_0) | (show (Addr.add _ _).block ≠ _; rw [add_block]; exact hn149_0) | exact hn149_0) (.int .i32 t144)).trans hx149_0
     replace hx149_1 := (cell_far (p := ⟨gb148, 0, none⟩) (by first | (rw [add_block]; exact hn149_0) | (show (Addr.add _ _).block ≠ _; rw [add_block]; exact hn149_0) | exact hn149_0) (.int .i32 t144)).trans hx149_1
     replace hx149_2 := (cell_far (p := ⟨gb148, 0, none⟩) (by first | (rw [add_block]; exact hn149_0) | (show (Addr.add _ _).block ≠ _; rw [add_block]; exact hn149_0) | exact hn149_0) (.int .i32 t144)).trans hx149_2
     replace hx149_0 := (cell_far (p := ⟨gb148, 1, none⟩) (by first | (rw [add_block]; exact hn149_1) | (show (Addr.add _ _).block ≠ _; rw [add_block]; exact hn149_1) | exact hn149_1) (.int .i32 t145)).trans hx149_0
     replace hx149_1 := (cell_far (p := ⟨gb148, 1, none⟩) (by first | (rw [add_block]; exact hn149_1) | (show (Addr.add _ _).block ≠ _; rw [add_block]; exact hn149_1) | exact hn149_1) (.int .i32 t145)).trans hx149_1
     replace hx149_2 := (cell_far (p := ⟨gb148, 1, none⟩) (by first | (rw [add_block]; exact hn149_1) | (show (Addr.add _ _).block ≠ _; rw [add_block]; exact hn149_1) | exact hn149_1) (.int .i32 t145)).trans hx149_2
     replace hx149_0 := (cell_far (p := ⟨gb148, 2, none⟩) (by first | (rw [add_block]; exact hn149_2) | (show (Addr.add _ _).block ≠ _; rw [add_block]; exact hn149_2) | exact hn149_2) (.int .u8 t146)).trans hx149_0
     replace hx149_1 := (cell_far (p := ⟨gb148, 2, none⟩) (by first | (rw [add_block]; exact hn149_2) | (show (Addr.add _ _).block ≠ _; rw [add_block]; exact hn149_2) | exact hn149_2) (.int .u8 t146)).trans hx149_1
     replace hx149_2 := (cell_far (p := ⟨gb148, 2, none⟩) (by first | (rw [add_block]; exact hn149_2) | (show (Addr.add _ _).block ≠ _; rw [add_block]; exact hn149_2) | exact hn149_2) (.int .u8 t146)).trans hx149_2
     clear hn149_0
     clear hn149_1
     clear hn149_2
     replace p149 := eq_true p149
     replace q149 := eq_true q149
     go_upto_region 9 with (first | ((with_reducible refine gate_callee (f := 12) rfl ?_); refine gL_ (some 69) Try.func12 #[.agg #[.int .i32 ((rd_T23 y131 x2_1).f0), .int .i32 ((rd_T23 y131 x2_1).f1), .int .u8 ((rd_T23 y131 x2_1).f2)]] ?_; (with_reducible refine (counts_Total.calls ((rd_T23 y131 x2_1).f0) ((rd_T23 y131 x2_1).f1) ((rd_T23 y131 x2_1).f2) t150 t151 _ A7.out).mono ?_); rintro e w25 ⟨rfl, hb⟩; refine ⟨_, rfl, ?_⟩; have n0_ := Aside0.mk (Kd.R_below (by (with_reducible repeat (first | apply Kd.R_alloc | apply Kd.R_drewN | apply Kd.R_drew)); exact (Kd.R_mono (Kd.R_far (p := ⟨gb148, 2, none⟩) (Kd.R_far (p := ⟨gb148, 1, none⟩) (Kd.R_far (p := ⟨gb148, 0, none⟩) (Kd.R_mono HO_1.out (fun k_ hk => (⟨hk, hk.2⟩ : _ ∧ k_ ≠ gb148))) (fun _ hk => hk.2) (.int .i32 t144)) (fun _ hk => hk.2) (.int .i32 t145)) (fun _ hk => hk.2) (.int .u8 t146)) (fun _ h_ => h_.1))) hb); have n1_ := Aside0.mk (Kd.R_below (by (with_reducible repeat (first | apply Kd.R_alloc | apply Kd.R_drewN | apply Kd.R_drew)); exact (Kd.R_mono (Kd.R_far (p := ⟨gb148, 2, none⟩) (Kd.R_far (p := ⟨gb148, 1, none⟩) (Kd.R_far (p := ⟨gb148, 0, none⟩) (Kd.R_types HO143.out BK148.out (by decide)) (fun _ hk => hk.2) (.int .i32 t144)) (fun _ hk => hk.2) (.int .i32 t145)) (fun _ hk => hk.2) (.int .u8 t146)) (fun _ h_ => h_.1))) hb); have n2_ := Aside0.mk (blk_below (g := gb139) (o := .cells #[.int .i32 t135, .int .i32 t136, .int .u8 t137] 23 (0, 0)) (by (with_reducible repeat (first | refine blk_drewN ?_ _ | refine blk_drew ?_ | refine blk_alloc ?_ _)); refine blk_far ?_ NB139_148.out _; (with_reducible repeat (first | refine blk_drewN ?_ _ | refine blk_drew ?_ | refine blk_alloc ?_ _)); refine blk_far ?_ NB139_148.out _; (with_reducible repeat (first | refine blk_drewN ?_ _ | refine blk_drew ?_ | refine blk_alloc ?_ _)); refine blk_far ?_ NB139_148.out _; (with_reducible repeat (first | refine blk_drewN ?_ _ | refine blk_drew ?_ | refine blk_alloc ?_ _)); exact BK139.out) hb); have n3_ := Aside0.mk (blk_below (g := gb148) (o := .cells #[.int .i32 t144, .int .i32 t145, .int .u8 t146] 23 (0, 0)) (by (with_reducible repeat (first | refine blk_drewN ?_ _ | refine blk_drew ?_ | refine blk_alloc ?_ _)); refine blk_put (cs := #[.int .i32 t144, .int .i32 t145, .int .u8 0]) ?_ 2 _ rfl; (with_reducible repeat (first | refine blk_drewN ?_ _ | refine blk_drew ?_ | refine blk_alloc ?_ _)); refine blk_put (cs := #[.int .i32 t144, .int .i32 0, .int .u8 0]) ?_ 1 _ rfl; (with_reducible repeat (first | refine blk_drewN ?_ _ | refine blk_drew ?_ | refine blk_alloc ?_ _)); refine blk_put (cs := #[.int .i32 0, .int .i32 0, .int .u8 0]) ?_ 0 _ rfl; (with_reducible repeat (first | refine blk_drewN ?_ _ | refine blk_drew ?_ | refine blk_alloc ?_ _)); exact BK148.out) hb); have n4_ := Aside0.mk (below_step (by repeat (first | (with_reducible first | exact HB.out | apply below_alloc | apply bN_ | apply below_drew1 | refine below_set ?_ GE139.out | refine below_set ?_ GE148.out) | exact HB.out)) hb); clear HO_1; clear HO143; clear BK139; clear BK148; clear HB; have HO_1 := n0_; have HO143 := n1_; have BK139 := n2_; have BK148 := n3_; have HB := n4_; clear n0_ n1_ n2_ n3_ n4_; (try clear hb); have p152 : 0 ≤ (x2_1 : Int) := of_decide_eq_true (by first | (with_reducible assumption) | assumption); have q152 : x2_1 < (y131.length : Int) := of_decide_eq_true (by first | (with_reducible assumption) | assumption); obtain ⟨ad152, e152, hx152_0, hx152_1, hx152_2⟩ := at_T23 (Kd.R_reads' HO_1.out).2.2 x2_1 p152 q152; obtain rfl : ad134 = ad152 := (by injection e152); replace p152 := eq_true p152; replace q152 := eq_true q152) | ((with_reducible refine gate_callee (f := 14) rfl ?_); refine gL_ (some 77) Try.func14 #[.agg #[.int .i32 ((rd_T23 y131 x2_1).f0), .int .i32 ((rd_T23 y131 x2_1).f1), .int .u8 ((rd_T23 y131 x2_1).f2)]] ?_; (with_reducible refine (counts_Turn.calls ((rd_T23 y131 x2_1).f0) ((rd_T23 y131 x2_1).f1) ((rd_T23 y131 x2_1).f2) t153 t154 t155 t156 _ A8.out).mono ?_); rintro e w26 ⟨rfl, hb⟩; refine ⟨_, rfl, ?_⟩; have n0_ := Aside0.mk (Kd.R_below (by (with_reducible repeat (first | apply Kd.R_alloc | apply Kd.R_drewN | apply Kd.R_drew)); exact HO_1.out) hb); have n1_ := Aside0.mk (Kd.R_below (by (with_reducible repeat (first | apply Kd.R_alloc | apply Kd.R_drewN | apply Kd.R_drew)); exact HO143.out) hb); have n2_ := Aside0.mk (blk_below (g := gb139) (o := .cells #[.int .i32 t135, .int .i32 t136, .int .u8 t137] 23 (0, 0)) (by (with_reducible repeat (first | refine blk_drewN ?_ _ | refine blk_drew ?_ | refine blk_alloc ?_ _)); exact BK139.out) hb); have n3_ := Aside0.mk (blk_below (g := gb148) (o := .cells #[.int .i32 t144, .int .i32 t145, .int .u8 t146] 23 (0, 0)) (by (with_reducible repeat (first | refine blk_drewN ?_ _ | refine blk_drew ?_ | refine blk_alloc ?_ _)); exact BK148.out) hb); have n4_ := Aside0.mk (below_step (by repeat (first | (with_reducible first | exact HB.out | apply below_alloc | apply bN_ | apply below_drew1 | refine below_set ?_ GE139.out | refine below_set ?_ GE148.out) | exact HB.out)) hb); clear HO_1; clear HO143; clear BK139; clear BK148; clear HB; have HO_1 := n0_; have HO143 := n1_; have BK139 := n2_; have BK148 := n3_; have HB := n4_; clear n0_ n1_ n2_ n3_ n4_; (try clear hb)) | ((with_reducible refine gate_dst (N := 9) rfl ?_); refine box_event ?hg (N := 9) ?hd (cs := #[.int .i32 0, .int .i32 0, .int .u8 0]) (t := 23) ?hr ?_; (case hd => rfl); (case hg => rfl); (case hr => first | (go_simp; done) | (go_simp; rfl)); intro gb157 hg w27 hbox hb; have n0_ := Aside0.mk (Kd.R_below (Kd.R_elderB (by (with_reducible repeat (first | apply Kd.R_alloc | apply Kd.R_drewN | apply Kd.R_drew)); exact HO_1.out) gb157 (Nat.le_of_eq hg.symm)) hb); have n1_ := Aside0.mk (Kd.R_below (by (with_reducible repeat (first | apply Kd.R_alloc | apply Kd.R_drewN | apply Kd.R_drew)); exact HO143.out) hb); have n2_ := Aside0.mk (blk_below (g := gb139) (o := .cells #[.int .i32 t135, .int .i32 t136, .int .u8 t137] 23 (0, 0)) (by (with_reducible repeat (first | refine blk_drewN ?_ _ | refine blk_drew ?_ | refine blk_alloc ?_ _)); exact BK139.out) hb); have n3_ := Aside0.mk (blk_below (g := gb148) (o := .cells #[.int .i32 t144, .int .i32 t145, .int .u8 t146] 23 (0, 0)) (by (with_reducible repeat (first | refine blk_drewN ?_ _ | refine blk_drew ?_ | refine blk_alloc ?_ _)); exact BK148.out) hb); have n4_ := Aside0.mk (below_step (by repeat (first | (with_reducible first | exact HB.out | apply below_alloc | apply bN_ | apply below_drew1 | refine below_set ?_ GE139.out | refine below_set ?_ GE148.out) | exact HB.out)) hb); have n5_ := Aside0.mk (hbox); have n6_ := Aside0.mk ((by rw [hg]; exact (below_size (by repeat (first | (with_reducible first | exact HB.out | apply below_alloc | apply bN_ | apply below_drew1 | refine below_set ?_ GE139.out | refine below_set ?_ GE148.out) | exact HB.out))) : w.heap.size ≤ gb157)); have n7_ := Aside0.mk ((by rw [hg]; exact (below_size (by repeat (first | (with_reducible first | exact HB.out | apply below_alloc | apply bN_ | apply below_drew1 | refine below_set ?_ GE139.out | refine below_set ?_ GE148.out) | exact HB.out))) : w.heap.size ≤ gb157)); have n8_ := Aside0.mk ((by rw [hg]; exact Nat.ne_of_lt (blk_lt (g := gb139) (o := .cells #[.int .i32 t135, .int .i32 t136, .int .u8 t137] 23 (0, 0)) (by (with_reducible repeat (first | refine blk_drewN ?_ _ | refine blk_drew ?_ | refine blk_alloc ?_ _)); exact BK139.out)) : gb139 ≠ gb157)); have n9_ := Aside0.mk ((by rw [hg]; exact Nat.ne_of_gt (blk_lt (g := gb139) (o := .cells #[.int .i32 t135, .int .i32 t136, .int .u8 t137] 23 (0, 0)) (by (with_reducible repeat (first | refine blk_drewN ?_ _ | refine blk_drew ?_ | refine blk_alloc ?_ _)); exact BK139.out)) : gb157 ≠ gb139)); have n10_ := Aside0.mk ((by rw [hg]; exact Nat.ne_of_lt (blk_lt (g := gb148) (o := .cells #[.int .i32 t144, .int .i32 t145, .int .u8 t146] 23 (0, 0)) (by (with_reducible repeat (first | refine blk_drewN ?_ _ | refine blk_drew ?_ | refine blk_alloc ?_ _)); exact BK148.out)) : gb148 ≠ gb157)); have n11_ := Aside0.mk ((by rw [hg]; exact Nat.ne_of_gt (blk_lt (g := gb148) (o := .cells #[.int .i32 t144, .int .i32 t145, .int .u8 t146] 23 (0, 0)) (by (with_reducible repeat (first | refine blk_drewN ?_ _ | refine blk_drew ?_ | refine blk_alloc ?_ _)); exact BK148.out)) : gb157 ≠ gb148)); clear HO_1; clear HO143; clear BK139; clear BK148; clear HB; have HO_1 := n0_; have HO143 := n1_; have BK139 := n2_; have BK148 := n3_; have HB := n4_; have BK157 := n5_; have GW157 := n6_; have GE157 := n7_; have NB139_157 := n8_; have NB157_139 := n9_; have NB148_157 := n10_; have NB157_148 := n11_; clear n0_ n1_ n2_ n3_ n4_ n5_ n6_ n7_ n8_ n9_ n10_ n11_; clear hb hbox hg; have hnb28 := NB157_139.out; have hnc28 := NB139_157.out; have hnb29 := NB157_148.out; have hnc29 := NB148_157.out; have hcz30_0 : w27.cell? ⟨gb157, 0, none⟩ = some (.int .i32 0) := (blk_cell BK157.out 0).trans rfl; have hcz30_1 : w27.cell? ⟨gb157, 1, none⟩ = some (.int .i32 0) := (blk_cell BK157.out 1).trans rfl; have hcz30_2 : w27.cell? ⟨gb157, 2, none⟩ = some (.int .u8 0) := (blk_cell BK157.out 2).trans rfl; have hfz30_0 := blk_frozen BK157.out 0; have hfz30_1 := blk_frozen BK157.out 1; have hfz30_2 := blk_frozen BK157.out 2))
     (try simp only [Act.put, setIfInBounds_toArray, set_cons_zero, set_cons_succ])
     go_cut [101] (fun v101 wc => ∃ (kq : Nat) (x101_8 : Bool), v101 = .bool x101_8 ∧ Aside0 (bitloftlaw07_CountsNames.j1 kq y131 x2_1 x101_8 = some r) ∧ Aside0 (kq ≤ k1) ∧ Aside0 (Kd.R k23 23 wc w.heap.size (fun k_ => k_ ≠ gb139 ∧ k_ ≠ gb148 ∧ k_ ≠ gb157) (.slice (some ad134) y131.length co10) y131) ∧ Aside0 (wc.heap[gb139]? = some (.cells #[.int .i32 t135, .int .i32 t136, .int .u8 t137] 23 (0, 0))) ∧ Aside0 (wc.heap[gb148]? = some (.cells #[.int .i32 t144, .int .i32 t145, .int .u8 t146] 23 (0, 0))) ∧ Aside0 (wc.heap[gb157]? = some (.cells #[.int .i32 t153, .int .i32 t154, .int .u8 t155] 23 (0, 0))) ∧ Aside0 (Below w.heap.size w wc))
     case first =>
      have H := HC9.out
      clear HC9
      replace H := Option.bind_eq_some_iff.mp H
      obtain ⟨t159, A310, H⟩ := H
      replace H : (if t159 = 8 then (if t138 = 8 then (if t147 = 8 then (if t151 = 8 then (bitloftlaw07_CountsNames.j1 k1 y131 x2_1 (t156 != 8)) else (bitloftlaw07_CountsNames.j1 k1 y131 x2_1 true)) else (bitloftlaw07_CountsNames.j1 k1 y131 x2_1 true)) else (bitloftlaw07_CountsNames.j1 k1 y131 x2_1 true)) else (bitloftlaw07_CountsNames.j1 k1 y131 x2_1 true)) = some r := H
      have A31 := Aside0.mk A310
      clear A310
      by_cases c32 : t159 = 8
      ·
       rw [if_pos c32] at H
       have c32b0 : (t159 == 8) = true := beq_iff_eq.mpr c32
       have c32b1 : (t159 != 8) = false := bne_eq_false_iff_eq.mpr c32
       clear c32
       (first | rw [c32b0] | (simp only [i64_w, i32_w]; rw [c32b0]) | skip)
       by_cases c33 : t138 = 8
       ·
        rw [if_pos c33] at H
        have c33b0 : (t138 == 8) = true := beq_iff_eq.mpr c33
        have c33b1 : (t138 != 8) = false := bne_eq_false_iff_eq.mpr c33
        clear c33
        by_cases c34 : t147 = 8
        ·
         rw [if_pos c34] at H
         have c34b0 : (t147 == 8) = true := beq_iff_eq.mpr c34
         have c34b1 : (t147 != 8) = false := bne_eq_false_iff_eq.mpr c34
         clear c34
         by_cases c35 : t151 = 8
         ·
          rw [if_pos c35] at H
          have c35b0 : (t151 == 8) = true := beq_iff_eq.mpr c35
          have c35b1 : (t151 != 8) = false := bne_eq_false_iff_eq.mpr c35
          clear c35
          have H' := Aside0.mk H
          clear H
          have p158 : 0 ≤ (x2_1 : Int) := of_decide_eq_true (by first | (with_reducible assumption) | assumption)
          have q158 : x2_1 < (y131.length : Int) := of_decide_eq_true (by first | (with_reducible assumption) | assumption)
          obtain ⟨ad158, e158, hx158_0, hx158_1, hx158_2⟩ := at_T23 (Kd.R_reads' HO_1.out).2.2 x2_1 p158 q158
          obtain rfl : ad134 = ad158 := (by injection e158)
          have hn158_0 : ad134.block ≠ gb157 := Kd.own_blk (Kd.R_away HO_1.out (fun _ hk => hk.2))
          have hn158_1 : ad134.block ≠ gb157 := Kd.own_blk (Kd.R_away HO_1.out (fun _ hk => hk.2))
          have hn158_2 : ad134.block ≠ gb157 := Kd.own_blk (Kd.R_away HO_1.out (fun _ hk => hk.2))
          replace hx158_0 := (cell_far (p := ⟨gb157, 0, none⟩) (by first | (rw [add_block]; exact hn158_0) | (show (Addr.add _ _).block ≠ _; rw [add_block]; exact hn158_0) | exact hn158_0) (.int .i32 t153)).trans hx158_0
          replace hx158_1 := (cell_far (p := ⟨gb157, 0, none⟩) (by first | (rw [add_block]; exact hn158_0) | (show (Addr.add _ _).block ≠ _; rw [add_block]; exact hn158_0) | exact hn158_0) (.int .i32 t153)).trans hx158_1
          replace hx158_2 := (cell_far (p := ⟨gb157, 0, none⟩) (by first | (rw [add_block]; exact hn158_0) | (show (Addr.add _ _).block ≠ _; rw [add_block]; exact hn158_0) | exact hn158_0) (.int .i32 t153)).trans hx158_2
          replace hx158_0 := (cell_far (p := ⟨gb157, 1, none⟩) (by first | (rw [add_block]; exact hn158_1) | (show (Addr.add _ _).block ≠ _; rw [add_block]; exact hn158_1) | exact hn158_1) (.int .i32 t154)).trans hx158_0
          replace hx158_1 := (cell_far (p := ⟨gb157, 1, none⟩) (by first | (rw [add_block]; exact hn158_1) | (show (Addr.add _ _).block ≠ _; rw [add_block]; exact hn158_1) | exact hn158_1) (.int .i32 t154)).trans hx158_1
          replace hx158_2 := (cell_far (p := ⟨gb157, 1, none⟩) (by first | (rw [add_block]; exact hn158_1) | (show (Addr.add _ _).block ≠ _; rw [add_block]; exact hn158_1) | exact hn158_1) (.int .i32 t154)).trans hx158_2
          replace hx158_0 := (cell_far (p := ⟨gb157, 2, none⟩) (by first | (rw [add_block]; exact hn158_2) | (show (Addr.add _ _).block ≠ _; rw [add_block]; exact hn158_2) | exact hn158_2) (.int .u8 t155)).trans hx158_0
          replace hx158_1 := (cell_far (p := ⟨gb157, 2, none⟩) (by first | (rw [add_block]; exact hn158_2) | (show (Addr.add _ _).block ≠ _; rw [add_block]; exact hn158_2) | exact hn158_2) (.int .u8 t155)).trans hx158_1
          replace hx158_2 := (cell_far (p := ⟨gb157, 2, none⟩) (by first | (rw [add_block]; exact hn158_2) | (show (Addr.add _ _).block ≠ _; rw [add_block]; exact hn158_2) | exact hn158_2) (.int .u8 t155)).trans hx158_2
          clear hn158_0
          clear hn158_1
          clear hn158_2
          replace p158 := eq_true p158
          replace q158 := eq_true q158
          go_wp2_with (first | ((with_reducible refine gate_callee (f := 16) rfl ?_); refine gL_ (some 84) Try.func16 #[.agg #[.int .i32 ((rd_T23 y131 x2_1).f0), .int .i32 ((rd_T23 y131 x2_1).f1), .int .u8 ((rd_T23 y131 x2_1).f2)]] ?_; (with_reducible refine (counts_Check.calls ((rd_T23 y131 x2_1).f0) ((rd_T23 y131 x2_1).f1) ((rd_T23 y131 x2_1).f2) t159 _ A31.out).mono ?_); rintro e w36 ⟨rfl, hb⟩; refine ⟨_, rfl, ?_⟩; have n0_ := Aside0.mk (Kd.R_below (by (with_reducible repeat (first | apply Kd.R_alloc | apply Kd.R_drewN | apply Kd.R_drew)); exact (Kd.R_mono (Kd.R_far (p := ⟨gb157, 2, none⟩) (Kd.R_far (p := ⟨gb157, 1, none⟩) (Kd.R_far (p := ⟨gb157, 0, none⟩) (Kd.R_mono HO_1.out (fun k_ hk => (⟨hk, hk.2⟩ : _ ∧ k_ ≠ gb157))) (fun _ hk => hk.2) (.int .i32 t153)) (fun _ hk => hk.2) (.int .i32 t154)) (fun _ hk => hk.2) (.int .u8 t155)) (fun _ h_ => h_.1))) hb); have n1_ := Aside0.mk (Kd.R_below (by (with_reducible repeat (first | apply Kd.R_alloc | apply Kd.R_drewN | apply Kd.R_drew)); exact (Kd.R_mono (Kd.R_far (p := ⟨gb157, 2, none⟩) (Kd.R_far (p := ⟨gb157, 1, none⟩) (Kd.R_far (p := ⟨gb157, 0, none⟩) (Kd.R_types HO143.out BK157.out (by decide)) (fun _ hk => hk.2) (.int .i32 t153)) (fun _ hk => hk.2) (.int .i32 t154)) (fun _ hk => hk.2) (.int .u8 t155)) (fun _ h_ => h_.1))) hb); have n2_ := Aside0.mk (blk_below (g := gb139) (o := .cells #[.int .i32 t135, .int .i32 t136, .int .u8 t137] 23 (0, 0)) (by (with_reducible repeat (first | refine blk_drewN ?_ _ | refine blk_drew ?_ | refine blk_alloc ?_ _)); refine blk_far ?_ NB139_157.out _; (with_reducible repeat (first | refine blk_drewN ?_ _ | refine blk_drew ?_ | refine blk_alloc ?_ _)); refine blk_far ?_ NB139_157.out _; (with_reducible repeat (first | refine blk_drewN ?_ _ | refine blk_drew ?_ | refine blk_alloc ?_ _)); refine blk_far ?_ NB139_157.out _; (with_reducible repeat (first | refine blk_drewN ?_ _ | refine blk_drew ?_ | refine blk_alloc ?_ _)); exact BK139.out) hb); have n3_ := Aside0.mk (blk_below (g := gb148) (o := .cells #[.int .i32 t144, .int .i32 t145, .int .u8 t146] 23 (0, 0)) (by (with_reducible repeat (first | refine blk_drewN ?_ _ | refine blk_drew ?_ | refine blk_alloc ?_ _)); refine blk_far ?_ NB148_157.out _; (with_reducible repeat (first | refine blk_drewN ?_ _ | refine blk_drew ?_ | refine blk_alloc ?_ _)); refine blk_far ?_ NB148_157.out _; (with_reducible repeat (first | refine blk_drewN ?_ _ | refine blk_drew ?_ | refine blk_alloc ?_ _)); refine blk_far ?_ NB148_157.out _; (with_reducible repeat (first | refine blk_drewN ?_ _ | refine blk_drew ?_ | refine blk_alloc ?_ _)); exact BK148.out) hb); have n4_ := Aside0.mk (blk_below (g := gb157) (o := .cells #[.int .i32 t153, .int .i32 t154, .int .u8 t155] 23 (0, 0)) (by (with_reducible repeat (first | refine blk_drewN ?_ _ | refine blk_drew ?_ | refine blk_alloc ?_ _)); refine blk_put (cs := #[.int .i32 t153, .int .i32 t154, .int .u8 0]) ?_ 2 _ rfl; (with_reducible repeat (first | refine blk_drewN ?_ _ | refine blk_drew ?_ | refine blk_alloc ?_ _)); refine blk_put (cs := #[.int .i32 t153, .int .i32 0, .int .u8 0]) ?_ 1 _ rfl; (with_reducible repeat (first | refine blk_drewN ?_ _ | refine blk_drew ?_ | refine blk_alloc ?_ _)); refine blk_put (cs := #[.int .i32 0, .int .i32 0, .int .u8 0]) ?_ 0 _ rfl; (with_reducible repeat (first | refine blk_drewN ?_ _ | refine blk_drew ?_ | refine blk_alloc ?_ _)); exact BK157.out) hb); have n5_ := Aside0.mk (below_step (by repeat (first | (with_reducible first | exact HB.out | apply below_alloc | apply bN_ | apply below_drew1 | refine below_set ?_ GE139.out | refine below_set ?_ GE148.out | refine below_set ?_ GE157.out) | exact HB.out)) hb); clear HO_1; clear HO143; clear BK139; clear BK148; clear BK157; clear HB; have HO_1 := n0_; have HO143 := n1_; have BK139 := n2_; have BK148 := n3_; have BK157 := n4_; have HB := n5_; clear n0_ n1_ n2_ n3_ n4_ n5_; (try clear hb)))
          go_meet
          case rel => exact ⟨_, ((t156 != 8)), (by first | rfl | (simp; done) | (simp [*]; done)), H', ⟨by have := HK1.out; first | omega | exact Nat.le_refl _⟩, ⟨by (with_reducible repeat (first | apply Kd.R_alloc | apply Kd.R_drewN | apply Kd.R_drew)); exact Kd.R_mono HO_1.out (fun _ hk => ⟨hk.1.1, ⟨hk.1.2, hk.2⟩⟩)⟩, ⟨by (with_reducible repeat (first | refine blk_drewN ?_ _ | refine blk_drew ?_ | refine blk_alloc ?_ _)); exact BK139.out⟩, ⟨by (with_reducible repeat (first | refine blk_drewN ?_ _ | refine blk_drew ?_ | refine blk_alloc ?_ _)); exact BK148.out⟩, ⟨by (with_reducible repeat (first | refine blk_drewN ?_ _ | refine blk_drew ?_ | refine blk_alloc ?_ _)); exact BK157.out⟩, ⟨by repeat (first | (with_reducible first | exact HB.out | apply below_alloc | apply bN_ | apply below_drew1 | refine below_set ?_ GE139.out | refine below_set ?_ GE148.out | refine below_set ?_ GE157.out) | exact HB.out)⟩⟩
         ·
          rw [if_neg c35] at H
          have c35b0 : (t151 == 8) = false := beq_eq_false_iff_ne.mpr c35
          have c35b1 : (t151 != 8) = true := bne_iff_ne.mpr c35
          have H' := Aside0.mk H
          clear H
          have p158 : 0 ≤ (x2_1 : Int) := of_decide_eq_true (by first | (with_reducible assumption) | assumption)
          have q158 : x2_1 < (y131.length : Int) := of_decide_eq_true (by first | (with_reducible assumption) | assumption)
          obtain ⟨ad158, e158, hx158_0, hx158_1, hx158_2⟩ := at_T23 (Kd.R_reads' HO_1.out).2.2 x2_1 p158 q158
          obtain rfl : ad134 = ad158 := (by injection e158)
          have hn158_0 : ad134.block ≠ gb157 := Kd.own_blk (Kd.R_away HO_1.out (fun _ hk => hk.2))
          have hn158_1 : ad134.block ≠ gb157 := Kd.own_blk (Kd.R_away HO_1.out (fun _ hk => hk.2))
          have hn158_2 : ad134.block ≠ gb157 := Kd.own_blk (Kd.R_away HO_1.out (fun _ hk => hk.2))
          replace hx158_0 := (cell_far (p := ⟨gb157, 0, none⟩) (by first | (rw [add_block]; exact hn158_0) | (show (Addr.add _ _).block ≠ _; rw [add_block]; exact hn158_0) | exact hn158_0) (.int .i32 t153)).trans hx158_0
          replace hx158_1 := (cell_far (p := ⟨gb157, 0, none⟩) (by first | (rw [add_block]; exact hn158_0) | (show (Addr.add _ _).block ≠ _; rw [add_block]; exact hn158_0) | exact hn158_0) (.int .i32 t153)).trans hx158_1
          replace hx158_2 := (cell_far (p := ⟨gb157, 0, none⟩) (by first | (rw [add_block]; exact hn158_0) | (show (Addr.add _ _).block ≠ _; rw [add_block]; exact hn158_0) | exact hn158_0) (.int .i32 t153)).trans hx158_2
          replace hx158_0 := (cell_far (p := ⟨gb157, 1, none⟩) (by first | (rw [add_block]; exact hn158_1) | (show (Addr.add _ _).block ≠ _; rw [add_block]; exact hn158_1) | exact hn158_1) (.int .i32 t154)).trans hx158_0
          replace hx158_1 := (cell_far (p := ⟨gb157, 1, none⟩) (by first | (rw [add_block]; exact hn158_1) | (show (Addr.add _ _).block ≠ _; rw [add_block]; exact hn158_1) | exact hn158_1) (.int .i32 t154)).trans hx158_1
          replace hx158_2 := (cell_far (p := ⟨gb157, 1, none⟩) (by first | (rw [add_block]; exact hn158_1) | (show (Addr.add _ _).block ≠ _; rw [add_block]; exact hn158_1) | exact hn158_1) (.int .i32 t154)).trans hx158_2
          replace hx158_0 := (cell_far (p := ⟨gb157, 2, none⟩) (by first | (rw [add_block]; exact hn158_2) | (show (Addr.add _ _).block ≠ _; rw [add_block]; exact hn158_2) | exact hn158_2) (.int .u8 t155)).trans hx158_0
          replace hx158_1 := (cell_far (p := ⟨gb157, 2, none⟩) (by first | (rw [add_block]; exact hn158_2) | (show (Addr.add _ _).block ≠ _; rw [add_block]; exact hn158_2) | exact hn158_2) (.int .u8 t155)).trans hx158_1
          replace hx158_2 := (cell_far (p := ⟨gb157, 2, none⟩) (by first | (rw [add_block]; exact hn158_2) | (show (Addr.add _ _).block ≠ _; rw [add_block]; exact hn158_2) | exact hn158_2) (.int .u8 t155)).trans hx158_2
          clear hn158_0
          clear hn158_1
          clear hn158_2
          replace p158 := eq_true p158
          replace q158 := eq_true q158
          go_wp2_with (first | ((with_reducible refine gate_callee (f := 16) rfl ?_); refine gL_ (some 84) Try.func16 #[.agg #[.int .i32 ((rd_T23 y131 x2_1).f0), .int .i32 ((rd_T23 y131 x2_1).f1), .int .u8 ((rd_T23 y131 x2_1).f2)]] ?_; (with_reducible refine (counts_Check.calls ((rd_T23 y131 x2_1).f0) ((rd_T23 y131 x2_1).f1) ((rd_T23 y131 x2_1).f2) t159 _ A31.out).mono ?_); rintro e w37 ⟨rfl, hb⟩; refine ⟨_, rfl, ?_⟩; have n0_ := Aside0.mk (Kd.R_below (by (with_reducible repeat (first | apply Kd.R_alloc | apply Kd.R_drewN | apply Kd.R_drew)); exact (Kd.R_mono (Kd.R_far (p := ⟨gb157, 2, none⟩) (Kd.R_far (p := ⟨gb157, 1, none⟩) (Kd.R_far (p := ⟨gb157, 0, none⟩) (Kd.R_mono HO_1.out (fun k_ hk => (⟨hk, hk.2⟩ : _ ∧ k_ ≠ gb157))) (fun _ hk => hk.2) (.int .i32 t153)) (fun _ hk => hk.2) (.int .i32 t154)) (fun _ hk => hk.2) (.int .u8 t155)) (fun _ h_ => h_.1))) hb); have n1_ := Aside0.mk (Kd.R_below (by (with_reducible repeat (first | apply Kd.R_alloc | apply Kd.R_drewN | apply Kd.R_drew)); exact (Kd.R_mono (Kd.R_far (p := ⟨gb157, 2, none⟩) (Kd.R_far (p := ⟨gb157, 1, none⟩) (Kd.R_far (p := ⟨gb157, 0, none⟩) (Kd.R_types HO143.out BK157.out (by decide)) (fun _ hk => hk.2) (.int .i32 t153)) (fun _ hk => hk.2) (.int .i32 t154)) (fun _ hk => hk.2) (.int .u8 t155)) (fun _ h_ => h_.1))) hb); have n2_ := Aside0.mk (blk_below (g := gb139) (o := .cells #[.int .i32 t135, .int .i32 t136, .int .u8 t137] 23 (0, 0)) (by (with_reducible repeat (first | refine blk_drewN ?_ _ | refine blk_drew ?_ | refine blk_alloc ?_ _)); refine blk_far ?_ NB139_157.out _; (with_reducible repeat (first | refine blk_drewN ?_ _ | refine blk_drew ?_ | refine blk_alloc ?_ _)); refine blk_far ?_ NB139_157.out _; (with_reducible repeat (first | refine blk_drewN ?_ _ | refine blk_drew ?_ | refine blk_alloc ?_ _)); refine blk_far ?_ NB139_157.out _; (with_reducible repeat (first | refine blk_drewN ?_ _ | refine blk_drew ?_ | refine blk_alloc ?_ _)); exact BK139.out) hb); have n3_ := Aside0.mk (blk_below (g := gb148) (o := .cells #[.int .i32 t144, .int .i32 t145, .int .u8 t146] 23 (0, 0)) (by (with_reducible repeat (first | refine blk_drewN ?_ _ | refine blk_drew ?_ | refine blk_alloc ?_ _)); refine blk_far ?_ NB148_157.out _; (with_reducible repeat (first | refine blk_drewN ?_ _ | refine blk_drew ?_ | refine blk_alloc ?_ _)); refine blk_far ?_ NB148_157.out _; (with_reducible repeat (first | refine blk_drewN ?_ _ | refine blk_drew ?_ | refine blk_alloc ?_ _)); refine blk_far ?_ NB148_157.out _; (with_reducible repeat (first | refine blk_drewN ?_ _ | refine blk_drew ?_ | refine blk_alloc ?_ _)); exact BK148.out) hb); have n4_ := Aside0.mk (blk_below (g := gb157) (o := .cells #[.int .i32 t153, .int .i32 t154, .int .u8 t155] 23 (0, 0)) (by (with_reducible repeat (first | refine blk_drewN ?_ _ | refine blk_drew ?_ | refine blk_alloc ?_ _)); refine blk_put (cs := #[.int .i32 t153, .int .i32 t154, .int .u8 0]) ?_ 2 _ rfl; (with_reducible repeat (first | refine blk_drewN ?_ _ | refine blk_drew ?_ | refine blk_alloc ?_ _)); refine blk_put (cs := #[.int .i32 t153, .int .i32 0, .int .u8 0]) ?_ 1 _ rfl; (with_reducible repeat (first | refine blk_drewN ?_ _ | refine blk_drew ?_ | refine blk_alloc ?_ _)); refine blk_put (cs := #[.int .i32 0, .int .i32 0, .int .u8 0]) ?_ 0 _ rfl; (with_reducible repeat (first | refine blk_drewN ?_ _ | refine blk_drew ?_ | refine blk_alloc ?_ _)); exact BK157.out) hb); have n5_ := Aside0.mk (below_step (by repeat (first | (with_reducible first | exact HB.out | apply below_alloc | apply bN_ | apply below_drew1 | refine below_set ?_ GE139.out | refine below_set ?_ GE148.out | refine below_set ?_ GE157.out) | exact HB.out)) hb); clear HO_1; clear HO143; clear BK139; clear BK148; clear BK157; clear HB; have HO_1 := n0_; have HO143 := n1_; have BK139 := n2_; have BK148 := n3_; have BK157 := n4_; have HB := n5_; clear n0_ n1_ n2_ n3_ n4_ n5_; (try clear hb)))
          go_meet
          case rel => exact ⟨_, (true), (by first | rfl | (simp; done) | (simp [*]; done)), H', ⟨by have := HK1.out; first | omega | exact Nat.le_refl _⟩, ⟨by (with_reducible repeat (first | apply Kd.R_alloc | apply Kd.R_drewN | apply Kd.R_drew)); exact Kd.R_mono HO_1.out (fun _ hk => ⟨hk.1.1, ⟨hk.1.2, hk.2⟩⟩)⟩, ⟨by (with_reducible repeat (first | refine blk_drewN ?_ _ | refine blk_drew ?_ | refine blk_alloc ?_ _)); exact BK139.out⟩, ⟨by (with_reducible repeat (first | refine blk_drewN ?_ _ | refine blk_drew ?_ | refine blk_alloc ?_ _)); exact BK148.out⟩, ⟨by (with_reducible repeat (first | refine blk_drewN ?_ _ | refine blk_drew ?_ | refine blk_alloc ?_ _)); exact BK157.out⟩, ⟨by repeat (first | (with_reducible first | exact HB.out | apply below_alloc | apply bN_ | apply below_drew1 | refine below_set ?_ GE139.out | refine below_set ?_ GE148.out | refine below_set ?_ GE157.out) | exact HB.out)⟩⟩
        ·
         rw [if_neg c34] at H
         have c34b0 : (t147 == 8) = false := beq_eq_false_iff_ne.mpr c34
         have c34b1 : (t147 != 8) = true := bne_iff_ne.mpr c34
         have H' := Aside0.mk H
         clear H
         have p158 : 0 ≤ (x2_1 : Int) := of_decide_eq_true (by first | (with_reducible assumption) | assumption)
         have q158 : x2_1 < (y131.length : Int) := of_decide_eq_true (by first | (with_reducible assumption) | assumption)
         obtain ⟨ad158, e158, hx158_0, hx158_1, hx158_2⟩ := at_T23 (Kd.R_reads' HO_1.out).2.2 x2_1 p158 q158
         obtain rfl : ad134 = ad158 := (by injection e158)
         have hn158_0 : ad134.block ≠ gb157 := Kd.own_blk (Kd.R_away HO_1.out (fun _ hk => hk.2))
         have hn158_1 : ad134.block ≠ gb157 := Kd.own_blk (Kd.R_away HO_1.out (fun _ hk => hk.2))
         have hn158_2 : ad134.block ≠ gb157 := Kd.own_blk (Kd.R_away HO_1.out (fun _ hk => hk.2))
         replace hx158_0 := (cell_far (p := ⟨gb157, 0, none⟩) (by first | (rw [add_block]; exact hn158_0) | (show (Addr.add _ _).block ≠ _; rw [add_block]; exact hn158_0) | exact hn158_0) (.int .i32 t153)).trans hx158_0
         replace hx158_1 := (cell_far (p := ⟨gb157, 0, none⟩) (by first | (rw [add_block]; exact hn158_0) | (show (Addr.add _ _).block ≠ _; rw [add_block]; exact hn158_0) | exact hn158_0) (.int .i32 t153)).trans hx158_1
         replace hx158_2 := (cell_far (p := ⟨gb157, 0, none⟩) (by first | (rw [add_block]; exact hn158_0) | (show (Addr.add _ _).block ≠ _; rw [add_block]; exact hn158_0) | exact hn158_0) (.int .i32 t153)).trans hx158_2
         replace hx158_0 := (cell_far (p := ⟨gb157, 1, none⟩) (by first | (rw [add_block]; exact hn158_1) | (show (Addr.add _ _).block ≠ _; rw [add_block]; exact hn158_1) | exact hn158_1) (.int .i32 t154)).trans hx158_0
         replace hx158_1 := (cell_far (p := ⟨gb157, 1, none⟩) (by first | (rw [add_block]; exact hn158_1) | (show (Addr.add _ _).block ≠ _; rw [add_block]; exact hn158_1) | exact hn158_1) (.int .i32 t154)).trans hx158_1
         replace hx158_2 := (cell_far (p := ⟨gb157, 1, none⟩) (by first | (rw [add_block]; exact hn158_1) | (show (Addr.add _ _).block ≠ _; rw [add_block]; exact hn158_1) | exact hn158_1) (.int .i32 t154)).trans hx158_2
         replace hx158_0 := (cell_far (p := ⟨gb157, 2, none⟩) (by first | (rw [add_block]; exact hn158_2) | (show (Addr.add _ _).block ≠ _; rw [add_block]; exact hn158_2) | exact hn158_2) (.int .u8 t155)).trans hx158_0
         replace hx158_1 := (cell_far (p := ⟨gb157, 2, none⟩) (by first | (rw [add_block]; exact hn158_2) | (show (Addr.add _ _).block ≠ _; rw [add_block]; exact hn158_2) | exact hn158_2) (.int .u8 t155)).trans hx158_1
         replace hx158_2 := (cell_far (p := ⟨gb157, 2, none⟩) (by first | (rw [add_block]; exact hn158_2) | (show (Addr.add _ _).block ≠ _; rw [add_block]; exact hn158_2) | exact hn158_2) (.int .u8 t155)).trans hx158_2
         clear hn158_0
         clear hn158_1
         clear hn158_2
         replace p158 := eq_true p158
         replace q158 := eq_true q158
         go_wp2_with (first | ((with_reducible refine gate_callee (f := 16) rfl ?_); refine gL_ (some 84) Try.func16 #[.agg #[.int .i32 ((rd_T23 y131 x2_1).f0), .int .i32 ((rd_T23 y131 x2_1).f1), .int .u8 ((rd_T23 y131 x2_1).f2)]] ?_; (with_reducible refine (counts_Check.calls ((rd_T23 y131 x2_1).f0) ((rd_T23 y131 x2_1).f1) ((rd_T23 y131 x2_1).f2) t159 _ A31.out).mono ?_); rintro e w38 ⟨rfl, hb⟩; refine ⟨_, rfl, ?_⟩; have n0_ := Aside0.mk (Kd.R_below (by (with_reducible repeat (first | apply Kd.R_alloc | apply Kd.R_drewN | apply Kd.R_drew)); exact (Kd.R_mono (Kd.R_far (p := ⟨gb157, 2, none⟩) (Kd.R_far (p := ⟨gb157, 1, none⟩) (Kd.R_far (p := ⟨gb157, 0, none⟩) (Kd.R_mono HO_1.out (fun k_ hk => (⟨hk, hk.2⟩ : _ ∧ k_ ≠ gb157))) (fun _ hk => hk.2) (.int .i32 t153)) (fun _ hk => hk.2) (.int .i32 t154)) (fun _ hk => hk.2) (.int .u8 t155)) (fun _ h_ => h_.1))) hb); have n1_ := Aside0.mk (Kd.R_below (by (with_reducible repeat (first | apply Kd.R_alloc | apply Kd.R_drewN | apply Kd.R_drew)); exact (Kd.R_mono (Kd.R_far (p := ⟨gb157, 2, none⟩) (Kd.R_far (p := ⟨gb157, 1, none⟩) (Kd.R_far (p := ⟨gb157, 0, none⟩) (Kd.R_types HO143.out BK157.out (by decide)) (fun _ hk => hk.2) (.int .i32 t153)) (fun _ hk => hk.2) (.int .i32 t154)) (fun _ hk => hk.2) (.int .u8 t155)) (fun _ h_ => h_.1))) hb); have n2_ := Aside0.mk (blk_below (g := gb139) (o := .cells #[.int .i32 t135, .int .i32 t136, .int .u8 t137] 23 (0, 0)) (by (with_reducible repeat (first | refine blk_drewN ?_ _ | refine blk_drew ?_ | refine blk_alloc ?_ _)); refine blk_far ?_ NB139_157.out _; (with_reducible repeat (first | refine blk_drewN ?_ _ | refine blk_drew ?_ | refine blk_alloc ?_ _)); refine blk_far ?_ NB139_157.out _; (with_reducible repeat (first | refine blk_drewN ?_ _ | refine blk_drew ?_ | refine blk_alloc ?_ _)); refine blk_far ?_ NB139_157.out _; (with_reducible repeat (first | refine blk_drewN ?_ _ | refine blk_drew ?_ | refine blk_alloc ?_ _)); exact BK139.out) hb); have n3_ := Aside0.mk (blk_below (g := gb148) (o := .cells #[.int .i32 t144, .int .i32 t145, .int .u8 t146] 23 (0, 0)) (by (with_reducible repeat (first | refine blk_drewN ?_ _ | refine blk_drew ?_ | refine blk_alloc ?_ _)); refine blk_far ?_ NB148_157.out _; (with_reducible repeat (first | refine blk_drewN ?_ _ | refine blk_drew ?_ | refine blk_alloc ?_ _)); refine blk_far ?_ NB148_157.out _; (with_reducible repeat (first | refine blk_drewN ?_ _ | refine blk_drew ?_ | refine blk_alloc ?_ _)); refine blk_far ?_ NB148_157.out _; (with_reducible repeat (first | refine blk_drewN ?_ _ | refine blk_drew ?_ | refine blk_alloc ?_ _)); exact BK148.out) hb); have n4_ := Aside0.mk (blk_below (g := gb157) (o := .cells #[.int .i32 t153, .int .i32 t154, .int .u8 t155] 23 (0, 0)) (by (with_reducible repeat (first | refine blk_drewN ?_ _ | refine blk_drew ?_ | refine blk_alloc ?_ _)); refine blk_put (cs := #[.int .i32 t153, .int .i32 t154, .int .u8 0]) ?_ 2 _ rfl; (with_reducible repeat (first | refine blk_drewN ?_ _ | refine blk_drew ?_ | refine blk_alloc ?_ _)); refine blk_put (cs := #[.int .i32 t153, .int .i32 0, .int .u8 0]) ?_ 1 _ rfl; (with_reducible repeat (first | refine blk_drewN ?_ _ | refine blk_drew ?_ | refine blk_alloc ?_ _)); refine blk_put (cs := #[.int .i32 0, .int .i32 0, .int .u8 0]) ?_ 0 _ rfl; (with_reducible repeat (first | refine blk_drewN ?_ _ | refine blk_drew ?_ | refine blk_alloc ?_ _)); exact BK157.out) hb); have n5_ := Aside0.mk (below_step (by repeat (first | (with_reducible first | exact HB.out | apply below_alloc | apply bN_ | apply below_drew1 | refine below_set ?_ GE139.out | refine below_set ?_ GE148.out | refine below_set ?_ GE157.out) | exact HB.out)) hb); clear HO_1; clear HO143; clear BK139; clear BK148; clear BK157; clear HB; have HO_1 := n0_; have HO143 := n1_; have BK139 := n2_; have BK148 := n3_; have BK157 := n4_; have HB := n5_; clear n0_ n1_ n2_ n3_ n4_ n5_; (try clear hb)))
         go_meet
         case rel => exact ⟨_, (true), (by first | rfl | (simp; done) | (simp [*]; done)), H', ⟨by have := HK1.out; first | omega | exact Nat.le_refl _⟩, ⟨by (with_reducible repeat (first | apply Kd.R_alloc | apply Kd.R_drewN | apply Kd.R_drew)); exact Kd.R_mono HO_1.out (fun _ hk => ⟨hk.1.1, ⟨hk.1.2, hk.2⟩⟩)⟩, ⟨by (with_reducible repeat (first | refine blk_drewN ?_ _ | refine blk_drew ?_ | refine blk_alloc ?_ _)); exact BK139.out⟩, ⟨by (with_reducible repeat (first | refine blk_drewN ?_ _ | refine blk_drew ?_ | refine blk_alloc ?_ _)); exact BK148.out⟩, ⟨by (with_reducible repeat (first | refine blk_drewN ?_ _ | refine blk_drew ?_ | refine blk_alloc ?_ _)); exact BK157.out⟩, ⟨by repeat (first | (with_reducible first | exact HB.out | apply below_alloc | apply bN_ | apply below_drew1 | refine below_set ?_ GE139.out | refine below_set ?_ GE148.out | refine below_set ?_ GE157.out) | exact HB.out)⟩⟩
       ·
        rw [if_neg c33] at H
        have c33b0 : (t138 == 8) = false := beq_eq_false_iff_ne.mpr c33
        have c33b1 : (t138 != 8) = true := bne_iff_ne.mpr c33
        have H' := Aside0.mk H
        clear H
        have p158 : 0 ≤ (x2_1 : Int) := of_decide_eq_true (by first | (with_reducible assumption) | assumption)
        have q158 : x2_1 < (y131.length : Int) := of_decide_eq_true (by first | (with_reducible assumption) | assumption)
        obtain ⟨ad158, e158, hx158_0, hx158_1, hx158_2⟩ := at_T23 (Kd.R_reads' HO_1.out).2.2 x2_1 p158 q158
        obtain rfl : ad134 = ad158 := (by injection e158)
        have hn158_0 : ad134.block ≠ gb157 := Kd.own_blk (Kd.R_away HO_1.out (fun _ hk => hk.2))
        have hn158_1 : ad134.block ≠ gb157 := Kd.own_blk (Kd.R_away HO_1.out (fun _ hk => hk.2))
        have hn158_2 : ad134.block ≠ gb157 := Kd.own_blk (Kd.R_away HO_1.out (fun _ hk => hk.2))
        replace hx158_0 := (cell_far (p := ⟨gb157, 0, none⟩) (by first | (rw [add_block]; exact hn158_0) | (show (Addr.add _ _).block ≠ _; rw [add_block]; exact hn158_0) | exact hn158_0) (.int .i32 t153)).trans hx158_0
        replace hx158_1 := (cell_far (p := ⟨gb157, 0, none⟩) (by first | (rw [add_block]; exact hn158_0) | (show (Addr.add _ _).block ≠ _; rw [add_block]; exact hn158_0) | exact hn158_0) (.int .i32 t153)).trans hx158_1
        replace hx158_2 := (cell_far (p := ⟨gb157, 0, none⟩) (by first | (rw [add_block]; exact hn158_0) | (show (Addr.add _ _).block ≠ _; rw [add_block]; exact hn158_0) | exact hn158_0) (.int .i32 t153)).trans hx158_2
        replace hx158_0 := (cell_far (p := ⟨gb157, 1, none⟩) (by first | (rw [add_block]; exact hn158_1) | (show (Addr.add _ _).block ≠ _; rw [add_block]; exact hn158_1) | exact hn158_1) (.int .i32 t154)).trans hx158_0
        replace hx158_1 := (cell_far (p := ⟨gb157, 1, none⟩) (by first | (rw [add_block]; exact hn158_1) | (show (Addr.add _ _).block ≠ _; rw [add_block]; exact hn158_1) | exact hn158_1) (.int .i32 t154)).trans hx158_1
        replace hx158_2 := (cell_far (p := ⟨gb157, 1, none⟩) (by first | (rw [add_block]; exact hn158_1) | (show (Addr.add _ _).block ≠ _; rw [add_block]; exact hn158_1) | exact hn158_1) (.int .i32 t154)).trans hx158_2
        replace hx158_0 := (cell_far (p := ⟨gb157, 2, none⟩) (by first | (rw [add_block]; exact hn158_2) | (show (Addr.add _ _).block ≠ _; rw [add_block]; exact hn158_2) | exact hn158_2) (.int .u8 t155)).trans hx158_0
        replace hx158_1 := (cell_far (p := ⟨gb157, 2, none⟩) (by first | (rw [add_block]; exact hn158_2) | (show (Addr.add _ _).block ≠ _; rw [add_block]; exact hn158_2) | exact hn158_2) (.int .u8 t155)).trans hx158_1
        replace hx158_2 := (cell_far (p := ⟨gb157, 2, none⟩) (by first | (rw [add_block]; exact hn158_2) | (show (Addr.add _ _).block ≠ _; rw [add_block]; exact hn158_2) | exact hn158_2) (.int .u8 t155)).trans hx158_2
        clear hn158_0
        clear hn158_1
        clear hn158_2
        replace p158 := eq_true p158
        replace q158 := eq_true q158
        go_wp2_with (first | ((with_reducible refine gate_callee (f := 16) rfl ?_); refine gL_ (some 84) Try.func16 #[.agg #[.int .i32 ((rd_T23 y131 x2_1).f0), .int .i32 ((rd_T23 y131 x2_1).f1), .int .u8 ((rd_T23 y131 x2_1).f2)]] ?_; (with_reducible refine (counts_Check.calls ((rd_T23 y131 x2_1).f0) ((rd_T23 y131 x2_1).f1) ((rd_T23 y131 x2_1).f2) t159 _ A31.out).mono ?_); rintro e w39 ⟨rfl, hb⟩; refine ⟨_, rfl, ?_⟩; have n0_ := Aside0.mk (Kd.R_below (by (with_reducible repeat (first | apply Kd.R_alloc | apply Kd.R_drewN | apply Kd.R_drew)); exact (Kd.R_mono (Kd.R_far (p := ⟨gb157, 2, none⟩) (Kd.R_far (p := ⟨gb157, 1, none⟩) (Kd.R_far (p := ⟨gb157, 0, none⟩) (Kd.R_mono HO_1.out (fun k_ hk => (⟨hk, hk.2⟩ : _ ∧ k_ ≠ gb157))) (fun _ hk => hk.2) (.int .i32 t153)) (fun _ hk => hk.2) (.int .i32 t154)) (fun _ hk => hk.2) (.int .u8 t155)) (fun _ h_ => h_.1))) hb); have n1_ := Aside0.mk (Kd.R_below (by (with_reducible repeat (first | apply Kd.R_alloc | apply Kd.R_drewN | apply Kd.R_drew)); exact (Kd.R_mono (Kd.R_far (p := ⟨gb157, 2, none⟩) (Kd.R_far (p := ⟨gb157, 1, none⟩) (Kd.R_far (p := ⟨gb157, 0, none⟩) (Kd.R_types HO143.out BK157.out (by decide)) (fun _ hk => hk.2) (.int .i32 t153)) (fun _ hk => hk.2) (.int .i32 t154)) (fun _ hk => hk.2) (.int .u8 t155)) (fun _ h_ => h_.1))) hb); have n2_ := Aside0.mk (blk_below (g := gb139) (o := .cells #[.int .i32 t135, .int .i32 t136, .int .u8 t137] 23 (0, 0)) (by (with_reducible repeat (first | refine blk_drewN ?_ _ | refine blk_drew ?_ | refine blk_alloc ?_ _)); refine blk_far ?_ NB139_157.out _; (with_reducible repeat (first | refine blk_drewN ?_ _ | refine blk_drew ?_ | refine blk_alloc ?_ _)); refine blk_far ?_ NB139_157.out _; (with_reducible repeat (first | refine blk_drewN ?_ _ | refine blk_drew ?_ | refine blk_alloc ?_ _)); refine blk_far ?_ NB139_157.out _; (with_reducible repeat (first | refine blk_drewN ?_ _ | refine blk_drew ?_ | refine blk_alloc ?_ _)); exact BK139.out) hb); have n3_ := Aside0.mk (blk_below (g := gb148) (o := .cells #[.int .i32 t144, .int .i32 t145, .int .u8 t146] 23 (0, 0)) (by (with_reducible repeat (first | refine blk_drewN ?_ _ | refine blk_drew ?_ | refine blk_alloc ?_ _)); refine blk_far ?_ NB148_157.out _; (with_reducible repeat (first | refine blk_drewN ?_ _ | refine blk_drew ?_ | refine blk_alloc ?_ _)); refine blk_far ?_ NB148_157.out _; (with_reducible repeat (first | refine blk_drewN ?_ _ | refine blk_drew ?_ | refine blk_alloc ?_ _)); refine blk_far ?_ NB148_157.out _; (with_reducible repeat (first | refine blk_drewN ?_ _ | refine blk_drew ?_ | refine blk_alloc ?_ _)); exact BK148.out) hb); have n4_ := Aside0.mk (blk_below (g := gb157) (o := .cells #[.int .i32 t153, .int .i32 t154, .int .u8 t155] 23 (0, 0)) (by (with_reducible repeat (first | refine blk_drewN ?_ _ | refine blk_drew ?_ | refine blk_alloc ?_ _)); refine blk_put (cs := #[.int .i32 t153, .int .i32 t154, .int .u8 0]) ?_ 2 _ rfl; (with_reducible repeat (first | refine blk_drewN ?_ _ | refine blk_drew ?_ | refine blk_alloc ?_ _)); refine blk_put (cs := #[.int .i32 t153, .int .i32 0, .int .u8 0]) ?_ 1 _ rfl; (with_reducible repeat (first | refine blk_drewN ?_ _ | refine blk_drew ?_ | refine blk_alloc ?_ _)); refine blk_put (cs := #[.int .i32 0, .int .i32 0, .int .u8 0]) ?_ 0 _ rfl; (with_reducible repeat (first | refine blk_drewN ?_ _ | refine blk_drew ?_ | refine blk_alloc ?_ _)); exact BK157.out) hb); have n5_ := Aside0.mk (below_step (by repeat (first | (with_reducible first | exact HB.out | apply below_alloc | apply bN_ | apply below_drew1 | refine below_set ?_ GE139.out | refine below_set ?_ GE148.out | refine below_set ?_ GE157.out) | exact HB.out)) hb); clear HO_1; clear HO143; clear BK139; clear BK148; clear BK157; clear HB; have HO_1 := n0_; have HO143 := n1_; have BK139 := n2_; have BK148 := n3_; have BK157 := n4_; have HB := n5_; clear n0_ n1_ n2_ n3_ n4_ n5_; (try clear hb)))
        go_meet
        case rel => exact ⟨_, (true), (by first | rfl | (simp; done) | (simp [*]; done)), H', ⟨by have := HK1.out; first | omega | exact Nat.le_refl _⟩, ⟨by (with_reducible repeat (first | apply Kd.R_alloc | apply Kd.R_drewN | apply Kd.R_drew)); exact Kd.R_mono HO_1.out (fun _ hk => ⟨hk.1.1, ⟨hk.1.2, hk.2⟩⟩)⟩, ⟨by (with_reducible repeat (first | refine blk_drewN ?_ _ | refine blk_drew ?_ | refine blk_alloc ?_ _)); exact BK139.out⟩, ⟨by (with_reducible repeat (first | refine blk_drewN ?_ _ | refine blk_drew ?_ | refine blk_alloc ?_ _)); exact BK148.out⟩, ⟨by (with_reducible repeat (first | refine blk_drewN ?_ _ | refine blk_drew ?_ | refine blk_alloc ?_ _)); exact BK157.out⟩, ⟨by repeat (first | (with_reducible first | exact HB.out | apply below_alloc | apply bN_ | apply below_drew1 | refine below_set ?_ GE139.out | refine below_set ?_ GE148.out | refine below_set ?_ GE157.out) | exact HB.out)⟩⟩
      ·
       rw [if_neg c32] at H
       have c32b0 : (t159 == 8) = false := beq_eq_false_iff_ne.mpr c32
       have c32b1 : (t159 != 8) = true := bne_iff_ne.mpr c32
       (first | rw [c32b0] | (simp only [i64_w, i32_w]; rw [c32b0]) | skip)
       have H' := Aside0.mk H
       clear H
       have p158 : 0 ≤ (x2_1 : Int) := of_decide_eq_true (by first | (with_reducible assumption) | assumption)
       have q158 : x2_1 < (y131.length : Int) := of_decide_eq_true (by first | (with_reducible assumption) | assumption)
       obtain ⟨ad158, e158, hx158_0, hx158_1, hx158_2⟩ := at_T23 (Kd.R_reads' HO_1.out).2.2 x2_1 p158 q158
       obtain rfl : ad134 = ad158 := (by injection e158)
       have hn158_0 : ad134.block ≠ gb157 := Kd.own_blk (Kd.R_away HO_1.out (fun _ hk => hk.2))
       have hn158_1 : ad134.block ≠ gb157 := Kd.own_blk (Kd.R_away HO_1.out (fun _ hk => hk.2))
       have hn158_2 : ad134.block ≠ gb157 := Kd.own_blk (Kd.R_away HO_1.out (fun _ hk => hk.2))
       replace hx158_0 := (cell_far (p := ⟨gb157, 0, none⟩) (by first | (rw [add_block]; exact hn158_0) | (show (Addr.add _ _).block ≠ _; rw [add_block]; exact hn158_0) | exact hn158_0) (.int .i32 t153)).trans hx158_0
       replace hx158_1 := (cell_far (p := ⟨gb157, 0, none⟩) (by first | (rw [add_block]; exact hn158_0) | (show (Addr.add _ _).block ≠ _; rw [add_block]; exact hn158_0) | exact hn158_0) (.int .i32 t153)).trans hx158_1
       replace hx158_2 := (cell_far (p := ⟨gb157, 0, none⟩) (by first | (rw [add_block]; exact hn158_0) | (show (Addr.add _ _).block ≠ _; rw [add_block]; exact hn158_0) | exact hn158_0) (.int .i32 t153)).trans hx158_2
       replace hx158_0 := (cell_far (p := ⟨gb157, 1, none⟩) (by first | (rw [add_block]; exact hn158_1) | (show (Addr.add _ _).block ≠ _; rw [add_block]; exact hn158_1) | exact hn158_1) (.int .i32 t154)).trans hx158_0
       replace hx158_1 := (cell_far (p := ⟨gb157, 1, none⟩) (by first | (rw [add_block]; exact hn158_1) | (show (Addr.add _ _).block ≠ _; rw [add_block]; exact hn158_1) | exact hn158_1) (.int .i32 t154)).trans hx158_1
       replace hx158_2 := (cell_far (p := ⟨gb157, 1, none⟩) (by first | (rw [add_block]; exact hn158_1) | (show (Addr.add _ _).block ≠ _; rw [add_block]; exact hn158_1) | exact hn158_1) (.int .i32 t154)).trans hx158_2
       replace hx158_0 := (cell_far (p := ⟨gb157, 2, none⟩) (by first | (rw [add_block]; exact hn158_2) | (show (Addr.add _ _).block ≠ _; rw [add_block]; exact hn158_2) | exact hn158_2) (.int .u8 t155)).trans hx158_0
       replace hx158_1 := (cell_far (p := ⟨gb157, 2, none⟩) (by first | (rw [add_block]; exact hn158_2) | (show (Addr.add _ _).block ≠ _; rw [add_block]; exact hn158_2) | exact hn158_2) (.int .u8 t155)).trans hx158_1
       replace hx158_2 := (cell_far (p := ⟨gb157, 2, none⟩) (by first | (rw [add_block]; exact hn158_2) | (show (Addr.add _ _).block ≠ _; rw [add_block]; exact hn158_2) | exact hn158_2) (.int .u8 t155)).trans hx158_2
       clear hn158_0
       clear hn158_1
       clear hn158_2
       replace p158 := eq_true p158
       replace q158 := eq_true q158
       go_wp2_with (first | ((with_reducible refine gate_callee (f := 16) rfl ?_); refine gL_ (some 84) Try.func16 #[.agg #[.int .i32 ((rd_T23 y131 x2_1).f0), .int .i32 ((rd_T23 y131 x2_1).f1), .int .u8 ((rd_T23 y131 x2_1).f2)]] ?_; (with_reducible refine (counts_Check.calls ((rd_T23 y131 x2_1).f0) ((rd_T23 y131 x2_1).f1) ((rd_T23 y131 x2_1).f2) t159 _ A31.out).mono ?_); rintro e w40 ⟨rfl, hb⟩; refine ⟨_, rfl, ?_⟩; have n0_ := Aside0.mk (Kd.R_below (by (with_reducible repeat (first | apply Kd.R_alloc | apply Kd.R_drewN | apply Kd.R_drew)); exact (Kd.R_mono (Kd.R_far (p := ⟨gb157, 2, none⟩) (Kd.R_far (p := ⟨gb157, 1, none⟩) (Kd.R_far (p := ⟨gb157, 0, none⟩) (Kd.R_mono HO_1.out (fun k_ hk => (⟨hk, hk.2⟩ : _ ∧ k_ ≠ gb157))) (fun _ hk => hk.2) (.int .i32 t153)) (fun _ hk => hk.2) (.int .i32 t154)) (fun _ hk => hk.2) (.int .u8 t155)) (fun _ h_ => h_.1))) hb); have n1_ := Aside0.mk (Kd.R_below (by (with_reducible repeat (first | apply Kd.R_alloc | apply Kd.R_drewN | apply Kd.R_drew)); exact (Kd.R_mono (Kd.R_far (p := ⟨gb157, 2, none⟩) (Kd.R_far (p := ⟨gb157, 1, none⟩) (Kd.R_far (p := ⟨gb157, 0, none⟩) (Kd.R_types HO143.out BK157.out (by decide)) (fun _ hk => hk.2) (.int .i32 t153)) (fun _ hk => hk.2) (.int .i32 t154)) (fun _ hk => hk.2) (.int .u8 t155)) (fun _ h_ => h_.1))) hb); have n2_ := Aside0.mk (blk_below (g := gb139) (o := .cells #[.int .i32 t135, .int .i32 t136, .int .u8 t137] 23 (0, 0)) (by (with_reducible repeat (first | refine blk_drewN ?_ _ | refine blk_drew ?_ | refine blk_alloc ?_ _)); refine blk_far ?_ NB139_157.out _; (with_reducible repeat (first | refine blk_drewN ?_ _ | refine blk_drew ?_ | refine blk_alloc ?_ _)); refine blk_far ?_ NB139_157.out _; (with_reducible repeat (first | refine blk_drewN ?_ _ | refine blk_drew ?_ | refine blk_alloc ?_ _)); refine blk_far ?_ NB139_157.out _; (with_reducible repeat (first | refine blk_drewN ?_ _ | refine blk_drew ?_ | refine blk_alloc ?_ _)); exact BK139.out) hb); have n3_ := Aside0.mk (blk_below (g := gb148) (o := .cells #[.int .i32 t144, .int .i32 t145, .int .u8 t146] 23 (0, 0)) (by (with_reducible repeat (first | refine blk_drewN ?_ _ | refine blk_drew ?_ | refine blk_alloc ?_ _)); refine blk_far ?_ NB148_157.out _; (with_reducible repeat (first | refine blk_drewN ?_ _ | refine blk_drew ?_ | refine blk_alloc ?_ _)); refine blk_far ?_ NB148_157.out _; (with_reducible repeat (first | refine blk_drewN ?_ _ | refine blk_drew ?_ | refine blk_alloc ?_ _)); refine blk_far ?_ NB148_157.out _; (with_reducible repeat (first | refine blk_drewN ?_ _ | refine blk_drew ?_ | refine blk_alloc ?_ _)); exact BK148.out) hb); have n4_ := Aside0.mk (blk_below (g := gb157) (o := .cells #[.int .i32 t153, .int .i32 t154, .int .u8 t155] 23 (0, 0)) (by (with_reducible repeat (first | refine blk_drewN ?_ _ | refine blk_drew ?_ | refine blk_alloc ?_ _)); refine blk_put (cs := #[.int .i32 t153, .int .i32 t154, .int .u8 0]) ?_ 2 _ rfl; (with_reducible repeat (first | refine blk_drewN ?_ _ | refine blk_drew ?_ | refine blk_alloc ?_ _)); refine blk_put (cs := #[.int .i32 t153, .int .i32 0, .int .u8 0]) ?_ 1 _ rfl; (with_reducible repeat (first | refine blk_drewN ?_ _ | refine blk_drew ?_ | refine blk_alloc ?_ _)); refine blk_put (cs := #[.int .i32 0, .int .i32 0, .int .u8 0]) ?_ 0 _ rfl; (with_reducible repeat (first | refine blk_drewN ?_ _ | refine blk_drew ?_ | refine blk_alloc ?_ _)); exact BK157.out) hb); have n5_ := Aside0.mk (below_step (by repeat (first | (with_reducible first | exact HB.out | apply below_alloc | apply bN_ | apply below_drew1 | refine below_set ?_ GE139.out | refine below_set ?_ GE148.out | refine below_set ?_ GE157.out) | exact HB.out)) hb); clear HO_1; clear HO143; clear BK139; clear BK148; clear BK157; clear HB; have HO_1 := n0_; have HO143 := n1_; have BK139 := n2_; have BK148 := n3_; have BK157 := n4_; have HB := n5_; clear n0_ n1_ n2_ n3_ n4_ n5_; (try clear hb)))
       go_meet
       case rel => exact ⟨_, (true), (by first | rfl | (simp; done) | (simp [*]; done)), H', ⟨by have := HK1.out; first | omega | exact Nat.le_refl _⟩, ⟨by (with_reducible repeat (first | apply Kd.R_alloc | apply Kd.R_drewN | apply Kd.R_drew)); exact Kd.R_mono HO_1.out (fun _ hk => ⟨hk.1.1, ⟨hk.1.2, hk.2⟩⟩)⟩, ⟨by (with_reducible repeat (first | refine blk_drewN ?_ _ | refine blk_drew ?_ | refine blk_alloc ?_ _)); exact BK139.out⟩, ⟨by (with_reducible repeat (first | refine blk_drewN ?_ _ | refine blk_drew ?_ | refine blk_alloc ?_ _)); exact BK148.out⟩, ⟨by (with_reducible repeat (first | refine blk_drewN ?_ _ | refine blk_drew ?_ | refine blk_alloc ?_ _)); exact BK157.out⟩, ⟨by repeat (first | (with_reducible first | exact HB.out | apply below_alloc | apply bN_ | apply below_drew1 | refine below_set ?_ GE139.out | refine below_set ?_ GE148.out | refine below_set ?_ GE157.out) | exact HB.out)⟩⟩
     case rest =>
      clear HC9
      try clear c1
      try clear p1
      try clear q1
      try clear hx1
      try clear c2
      try clear p2
      try clear c3
      try clear c12
      try clear c14
      try clear p14
      try clear q14
      try clear hx14
      try clear p15
      try clear q15
      try clear hx15
      try clear c16
      try clear c18
      try clear c28
      try clear c29
      try clear c32
      try clear c32b0
      try clear c32b1
      try clear c33
      try clear c33b0
      try clear c33b1
      try clear c34
      try clear c34b0
      try clear c34b1
      try clear c35
      try clear c35b0
      try clear c35b1
      try clear hcz30_0
      try clear hcz30_1
      try clear hcz30_2
      try clear hfz30_0
      try clear hfz30_1
      try clear hfz30_2
      try clear hx149_0
      try clear hx149_1
      try clear hx149_2
      try clear hx152_0
      try clear hx152_1
      try clear hx152_2
      try clear hx158_0
      try clear hx158_1
      try clear hx158_2
      try clear p149
      try clear p152
      try clear p158
      try clear q149
      try clear q152
      try clear q158
      obtain ⟨kq, x101_8, rfl, HA, HJ8, HO_1, BK139, BK148, BK157, HB⟩ := hcut
      cases kq with
      | zero => exact absurd HA.out (by simp [bitloftlaw07_CountsNames.j1])
      | succ kj8 =>
       have H := HA.out
       clear HA
       simp only [bitloftlaw07_CountsNames.j1] at H
       by_cases c41 : x101_8 = true
       ·
        subst c41
        have H1 : (some false) = some r := by rw [if_pos rfl] at H; exact H
        clear H
        have H := H1
        clear H1
        obtain rfl := Option.some.inj H
        go_wp2
        go_ret
        exact ⟨by first | rfl | (simp [errW_none, errW_some] <;> rfl) | (simp [*, errW_none, errW_some] <;> rfl), by repeat (first | (with_reducible first | exact HB.out | apply below_alloc | apply bN_ | apply below_drew1 | refine below_set ?_ GE139.out | refine below_set ?_ GE148.out | refine below_set ?_ GE157.out) | exact HB.out)⟩
       ·
        replace c41 := Bool.eq_false_iff.mpr c41
        subst c41
        have H1 : (bitloftlaw07_CountsNames.l0 kj8 y131 (wrap64 (x2_1 + 1))) = some r := by rw [if_neg (show ¬ (false = true) by decide)] at H; exact H
        clear H
        have H := H1
        clear H1
        have H' := Aside0.mk H
        clear H
        go_wp2
        go_roundg kj8
        case measure => have := HK1.out; have := HJ8.out; omega
        case rel => exact ⟨(wrap64 (x2_1 + 1)), (by first | rfl | (simp; done) | (simp [*]; done)), H', ⟨by have := HK1.out; have := HJ8.out; omega⟩, ⟨by (with_reducible repeat (first | apply Kd.R_alloc | apply Kd.R_drewN | apply Kd.R_drew)); exact Kd.R_mono HO_1.out (fun _ hk => trivial)⟩, ⟨by repeat (first | (with_reducible first | exact HB.out | apply below_alloc | apply bN_ | apply below_drew1 | refine below_set ?_ GE139.out | refine below_set ?_ GE148.out | refine below_set ?_ GE157.out) | exact HB.out)⟩⟩
    ·
     rw [if_neg c4] at H
     exact absurd H (by simp)
   ·
    rw [if_neg c3] at H
    have c3b0 : decide (x2_1 < (y131.length : Int)) = false := decide_eq_false c3
    clear c3
    obtain ⟨y160, hy160⟩ : ∃ y_ : List Int, y_ = (([0, 1, 2, 2, 3, 3, 4, 4, 5, 5, 6, 6, 7] : List Int)) := ⟨_, rfl⟩
    replace H : (bitloftlaw07_CountsNames.l1 k1 y160 1) = some r := by first | (rw [hy160]; with_reducible exact H) | (have H2_ := (Option.bind_some _ _).symm.trans H; rw [hy160]; with_reducible exact H2_) | (have H2_ := (Option.bind_some _ _).symm.trans H; with_reducible exact H2_) | with_reducible exact H | (rw [hy160]; exact H) | exact H
    have Ny160 := Aside0.mk hy160
    clear hy160
    have H' := Aside0.mk H
    clear H
    obtain ⟨Ao42, co42, eo42⟩ := Kd.R_slice HO_1.out
    subst eo42
    go_wp2_with (first | ((with_reducible refine gate_dst (N := 102) rfl ?_); refine Kd.R_lit (Kd.int .i32) _ 21 ?hg (N := 102) ?hd (xs := ([0, 1, 2, 2, 3, 3, 4, 4, 5, 5, 6, 6, 7] : List Int)) (inner := [.int .i32 0, .int .i32 1, .int .i32 2, .int .i32 2, .int .i32 3, .int .i32 3, .int .i32 4, .int .i32 4, .int .i32 5, .int .i32 5, .int .i32 6, .int .i32 6, .int .i32 7]) (ok := fun _ => True) (okp := fun _ => True) ?hr ?hp (fun _ hk => hk) trivial (Below.refl _ _) (Nat.le_refl _) (by simp) ?_; (case hd => rfl); (case hg => rfl); (case hr => first | (go_simp; done) | (go_simp; rfl)); (case hp => exact (Reps.one (show Kd.M (Kd.int .i32) _ _ _ 0 [.int .i32 0] from rfl) (Reps.one (show Kd.M (Kd.int .i32) _ _ _ 1 [.int .i32 1] from rfl) (Reps.one (show Kd.M (Kd.int .i32) _ _ _ 2 [.int .i32 2] from rfl) (Reps.one (show Kd.M (Kd.int .i32) _ _ _ 2 [.int .i32 2] from rfl) (Reps.one (show Kd.M (Kd.int .i32) _ _ _ 3 [.int .i32 3] from rfl) (Reps.one (show Kd.M (Kd.int .i32) _ _ _ 3 [.int .i32 3] from rfl) (Reps.one (show Kd.M (Kd.int .i32) _ _ _ 4 [.int .i32 4] from rfl) (Reps.one (show Kd.M (Kd.int .i32) _ _ _ 4 [.int .i32 4] from rfl) (Reps.one (show Kd.M (Kd.int .i32) _ _ _ 5 [.int .i32 5] from rfl) (Reps.one (show Kd.M (Kd.int .i32) _ _ _ 5 [.int .i32 5] from rfl) (Reps.one (show Kd.M (Kd.int .i32) _ _ _ 6 [.int .i32 6] from rfl) (Reps.one (show Kd.M (Kd.int .i32) _ _ _ 6 [.int .i32 6] from rfl) (Reps.one (show Kd.M (Kd.int .i32) _ _ _ 7 [.int .i32 7] from rfl) (Reps.none _ _))))))))))))))); intro v161 w43 ho44 hb hg_ hnew_; clear hg_ hnew_; (first | rw [← Ny160.out] at ho44 | (simp only [Int.reduceToNat] at ho44; rw [← Ny160.out] at ho44)); have n0_ := Aside0.mk (Kd.R_below (by (with_reducible repeat (first | apply Kd.R_alloc | apply Kd.R_drewN | apply Kd.R_drew)); exact HO_1.out) hb); have n1_ := Aside0.mk (Kd.R_lower ho44 (below_size (by repeat (first | (with_reducible first | exact HB.out | apply below_alloc | apply bN_ | apply below_drew1) | exact HB.out)))); have n2_ := Aside0.mk (below_step (by repeat (first | (with_reducible first | exact HB.out | apply below_alloc | apply bN_ | apply below_drew1) | exact HB.out)) hb); clear HO_1; clear HB; have HO_1 := n0_; have HO162 := n1_; have HB := n2_; clear n0_ n1_ n2_; clear hb ho44))
    go_loopg [12] k1 (fun kq v12 w' => ∃ (x12_2 : Int), v12 = .int .i32 x12_2 ∧ Aside0 (bitloftlaw07_CountsNames.l1 kq y160 x12_2 = some r) ∧ Aside0 (kq ≤ k1) ∧ Aside0 (Kd.R (Kd.int .i32) 21 w' w.heap.size (fun _ => True) v161 y160) ∧ Aside0 (Below w.heap.size w w'))
    case atStart => exact ⟨(1), (by first | rfl | (simp; done) | (simp [*]; done)), H', ⟨Nat.le_refl _⟩, ⟨by (with_reducible repeat (first | apply Kd.R_alloc | apply Kd.R_drewN | apply Kd.R_drew)); exact HO162.out⟩, ⟨by repeat (first | (with_reducible first | exact HB.out | apply below_alloc | apply bN_ | apply below_drew1) | exact HB.out)⟩⟩
    case round =>
     clear H'
     try clear c1
     try clear p1
     try clear q1
     try clear hx1
     try clear c2
     try clear p2
     try clear c3
     try clear c3b0
     try clear c4
     try clear p6
     try clear c12
     try clear c14
     try clear p14
     try clear q14
     try clear hx14
     try clear p15
     try clear q15
     try clear hx15
     try clear c16
     try clear c18
     try clear c28
     try clear c29
     try clear c32
     try clear c32b0
     try clear c32b1
     try clear c33
     try clear c33b0
     try clear c33b1
     try clear c34
     try clear c34b0
     try clear c34b1
     try clear c35
     try clear c35b0
     try clear c35b1
     try clear c41
     try clear hcz30_0
     try clear hcz30_1
     try clear hcz30_2
     try clear hfz30_0
     try clear hfz30_1
     try clear hfz30_2
     try clear hx149_0
     try clear hx149_1
     try clear hx149_2
     try clear hx152_0
     try clear hx152_1
     try clear hx152_2
     try clear hx158_0
     try clear hx158_1
     try clear hx158_2
     try clear p1
     try clear p14
     try clear p149
     try clear p15
     try clear p152
     try clear p158
     try clear p2
     try clear q1
     try clear q14
     try clear q149
     try clear q15
     try clear q152
     try clear q158
     obtain ⟨x12_2, rfl, HA, HK2, HO_11, HB⟩ := hrel
     cases gk with
     | zero => exact absurd HA.out (by simp [bitloftlaw07_CountsNames.l1])
     | succ k2 =>
      have H := HA.out
      clear HA
      simp only [bitloftlaw07_CountsNames.l1] at H
      by_cases c45 : x12_2 ≤ 12
      ·
       rw [if_pos c45] at H
       have c45b0 : decide (x12_2 ≤ 12) = true := decide_eq_true c45
       clear c45
       replace H := Option.bind_eq_some_iff.mp H
       obtain ⟨⟨t163, t164, t165, t166⟩, A460, H⟩ := H
       replace H : (if t166 = 0 then (if 0 ≤ x12_2 then (if x12_2 < (y160.length : Int) then (if (!(t163 == (rd y160 x12_2)) || (!(t164 == 1) || (!(t165 == 1)))) = true then (some false) else (bitloftlaw07_CountsNames.l1 k2 y160 (wrap32 (x12_2 + 1)))) else (none)) else (none)) else (some false)) = some r := H
       have A46 := Aside0.mk A460
       clear A460
       by_cases c47 : t166 = 0
       ·
        rw [if_pos c47] at H
        have c47b0 : (t166 == 0) = true := beq_iff_eq.mpr c47
        have c47b1 : (t166 != 0) = false := bne_eq_false_iff_eq.mpr c47
        clear c47
        by_cases c48 : 0 ≤ x12_2
        ·
         rw [if_pos c48] at H
         have c48b0 : decide (0 ≤ x12_2) = true := decide_eq_true c48
         clear c48
         by_cases c49 : x12_2 < (y160.length : Int)
         ·
          rw [if_pos c49] at H
          have c49b0 : decide (x12_2 < (y160.length : Int)) = true := decide_eq_true c49
          clear c49
          by_cases c50 : (!(t163 == (rd y160 x12_2)) || (!(t164 == 1) || (!(t165 == 1)))) = true
          ·
           rw [if_pos c50] at H
           have c50b0 : (!(t163 == (rd y160 x12_2)) || (!(t164 == 1) || (!(t165 == 1)))) = true := c50
           clear c50
           obtain rfl := Option.some.inj H
           try go_wp2_with (first | ((with_reducible refine gate_callee (f := 10) rfl ?_); refine gL_ (some 110) Try.func10 #[.agg #[.int .i32 x12_2, .int .i32 0, .int .u8 0], .int .u8 1] ?_; (with_reducible refine (counts_Next.calls x12_2 0 0 1 t163 t164 t165 t166 _ A46.out).mono ?_); rintro e w51 ⟨rfl, hb⟩; refine ⟨_, rfl, ?_⟩; have n0_ := Aside0.mk (Kd.R_below (by (with_reducible repeat (first | apply Kd.R_alloc | apply Kd.R_drewN | apply Kd.R_drew)); exact HO_11.out) hb); have n1_ := Aside0.mk (below_step (by repeat (first | (with_reducible first | exact HB.out | apply below_alloc | apply bN_ | apply below_drew1) | exact HB.out)) hb); clear HO_11; clear HB; have HO_11 := n0_; have HB := n1_; clear n0_ n1_; (try clear hb)) | ((with_reducible refine gate_dst (N := 13) rfl ?_); refine box_event ?hg (N := 13) ?hd (cs := #[.int .i32 0, .int .i32 0, .int .u8 0]) (t := 23) ?hr ?_; (case hd => rfl); (case hg => rfl); (case hr => first | (go_simp; done) | (go_simp; rfl)); intro gb167 hg w52 hbox hb; have n0_ := Aside0.mk (Kd.R_below (by (with_reducible repeat (first | apply Kd.R_alloc | apply Kd.R_drewN | apply Kd.R_drew)); exact HO_11.out) hb); have n1_ := Aside0.mk (below_step (by repeat (first | (with_reducible first | exact HB.out | apply below_alloc | apply bN_ | apply below_drew1) | exact HB.out)) hb); have n2_ := Aside0.mk (hbox); have n3_ := Aside0.mk ((by rw [hg]; exact (below_size (by repeat (first | (with_reducible first | exact HB.out | apply below_alloc | apply bN_ | apply below_drew1) | exact HB.out))) : w.heap.size ≤ gb167)); have n4_ := Aside0.mk ((by rw [hg]; exact (below_size (by repeat (first | (with_reducible first | exact HB.out | apply below_alloc | apply bN_ | apply below_drew1) | exact HB.out))) : w.heap.size ≤ gb167)); clear HO_11; clear HB; have HO_11 := n0_; have HB := n1_; have BK167 := n2_; have GW167 := n3_; have GE167 := n4_; clear n0_ n1_ n2_ n3_ n4_; clear hb hbox hg; have hcz53_0 : w52.cell? ⟨gb167, 0, none⟩ = some (.int .i32 0) := (blk_cell BK167.out 0).trans rfl; have hcz53_1 : w52.cell? ⟨gb167, 1, none⟩ = some (.int .i32 0) := (blk_cell BK167.out 1).trans rfl; have hcz53_2 : w52.cell? ⟨gb167, 2, none⟩ = some (.int .u8 0) := (blk_cell BK167.out 2).trans rfl; have hfz53_0 := blk_frozen BK167.out 0; have hfz53_1 := blk_frozen BK167.out 1; have hfz53_2 := blk_frozen BK167.out 2))
           have n0_ : Aside0 (Kd.R (Kd.int .i32) 21 (((w52.setCell ⟨gb167, 0, none⟩ (.int .i32 t163)).setCell ⟨gb167, 1, none⟩ (.int .i32 t164)).setCell ⟨gb167, 2, none⟩ (.int .u8 t165)) w.heap.size (fun _ => True) v161 y160) := ⟨by (with_reducible repeat (first | apply Kd.R_alloc | apply Kd.R_drewN | apply Kd.R_drew)); exact Kd.R_mono (Kd.R_far (p := ⟨gb167, 2, none⟩) (Kd.R_far (p := ⟨gb167, 1, none⟩) (Kd.R_far (p := ⟨gb167, 0, none⟩) (Kd.R_types HO_11.out BK167.out (by decide)) (fun _ hk => hk.2) (.int .i32 t163)) (fun _ hk => hk.2) (.int .i32 t164)) (fun _ hk => hk.2) (.int .u8 t165)) (fun _ hk => trivial)⟩
           have n1_ : Aside0 ((((w52.setCell ⟨gb167, 0, none⟩ (.int .i32 t163)).setCell ⟨gb167, 1, none⟩ (.int .i32 t164)).setCell ⟨gb167, 2, none⟩ (.int .u8 t165)).heap[gb167]? = some (.cells #[.int .i32 t163, .int .i32 t164, .int .u8 t165] 23 (0, 0))) := ⟨by (with_reducible repeat (first | refine blk_drewN ?_ _ | refine blk_drew ?_ | refine blk_alloc ?_ _)); refine blk_put (cs := #[.int .i32 t163, .int .i32 t164, .int .u8 0]) ?_ 2 _ rfl; (with_reducible repeat (first | refine blk_drewN ?_ _ | refine blk_drew ?_ | refine blk_alloc ?_ _)); refine blk_put (cs := #[.int .i32 t163, .int .i32 0, .int .u8 0]) ?_ 1 _ rfl; (with_reducible repeat (first | refine blk_drewN ?_ _ | refine blk_drew ?_ | refine blk_alloc ?_ _)); refine blk_put (cs := #[.int .i32 0, .int .i32 0, .int .u8 0]) ?_ 0 _ rfl; (with_reducible repeat (first | refine blk_drewN ?_ _ | refine blk_drew ?_ | refine blk_alloc ?_ _)); exact BK167.out⟩
           have n2_ : Aside0 (Below w.heap.size w (((w52.setCell ⟨gb167, 0, none⟩ (.int .i32 t163)).setCell ⟨gb167, 1, none⟩ (.int .i32 t164)).setCell ⟨gb167, 2, none⟩ (.int .u8 t165))) := ⟨by repeat (first | (with_reducible first | exact HB.out | apply below_alloc | apply bN_ | apply below_drew1 | refine below_set ?_ GE167.out) | exact HB.out)⟩
           (try clear HO_11)
           (try clear BK167)
           (try clear HB)
           generalize (((w52.setCell ⟨gb167, 0, none⟩ (.int .i32 t163)).setCell ⟨gb167, 1, none⟩ (.int .i32 t164)).setCell ⟨gb167, 2, none⟩ (.int .u8 t165)) = w54 at n0_ n1_ n2_ ⊢
           have HO_11 := n0_
           have BK167 := n1_
           have HB := n2_
           clear n0_ n1_ n2_
           have n0_ := Aside0.mk (Kd.R_drew HO_11.out)
           have n1_ := Aside0.mk (blk_drew BK167.out)
           have n2_ := Aside0.mk (below_drew1 HB.out)
           clear HO_11
           clear BK167
           clear HB
           have HO_11 := n0_
           have BK167 := n1_
           have HB := n2_
           clear n0_ n1_ n2_
           obtain ⟨Ao56, co56, eo56⟩ := Kd.R_slice HO_11.out
           (first | subst eo56 | (injection eo56 with f1_ f2_ f3_; have f4_ := f1_.symm; have f5_ := f3_.symm; clear f1_ f2_ f3_; subst f4_; subst f5_))
           have p168 : 0 ≤ (x12_2 : Int) := of_decide_eq_true (by first | (with_reducible assumption) | assumption)
           have q168 : x12_2 < (y160.length : Int) := of_decide_eq_true (by first | (with_reducible assumption) | assumption)
           obtain ⟨ad168, e168, hx168_0⟩ := Kd.at_int (Kd.R_reads' HO_11.out).2.2 x12_2 p168 q168
           cases e168
           replace p168 := eq_true p168
           replace q168 := eq_true q168
           refine start_ (n := 11) (S := fun w' => w'.cell? ⟨gb167, 0, none⟩ = some (.int .i32 t163) ∧ w'.cell? ⟨gb167, 1, none⟩ = some (.int .i32 t164) ∧ w'.cell? ⟨gb167, 2, none⟩ = some (.int .u8 t165) ∧ w'.cell? (ad168.add (x12_2).toNat) = some (.int .i32 (rd y160 x12_2))) (ds := []) #[false, false, false, false, false, false, false, false, false, false, false] (by kernel_rfl) rfl rfl ⟨(blk_cell BK167.out 0).trans rfl, (blk_cell BK167.out 1).trans rfl, (blk_cell BK167.out 2).trans rfl, hx168_0⟩ (fun hHeld => ?_); refine with_tabW bitloftlaw07_CountsNames.tab16 bitloftlaw07_CountsNames.bits16 (fun HT_ HW_ => ?_)
           generalize w54.drew = w55 at HO_11 BK167 HB hx168_0 hHeld ⊢
           refine pure_ (i := 0) (N := some 113) (v := ?_) (a' := ?_) #[true, false, false, false, false, false, false, false, false, false, false] rfl rfl (any_of HT_.out (by kernel_rfl)) (fun _ _ _ h => h) (Or.inl ⟨by rfl, ?_⟩) ?_ ?_
           rotate_left
           ·
            intro w'
            go_simp
            with_reducible rfl
           rotate_left
           ·
            simp only [Act.put, setIfInBounds_toArray, set_cons_zero, set_cons_succ, i64_w, i32_w]
            rfl
           refine pure_ (i := 1) (N := some 114) (v := ?_) (a' := ?_) #[true, true, false, false, false, false, false, false, false, false, false] rfl rfl (any_of HT_.out (by kernel_rfl)) (fun _ _ _ h => h) (Or.inl ⟨by rfl, ?_⟩) ?_ ?_
           rotate_left
           ·
            intro w'
            go_simp
            with_reducible rfl
           rotate_left
           ·
            simp only [Act.put, setIfInBounds_toArray, set_cons_zero, set_cons_succ, i64_w, i32_w]
            rfl
           refine pure_ (i := 2) (N := some 115) (v := ?_) (a' := ?_) #[true, true, true, false, false, false, false, false, false, false, false] rfl rfl (any_of HT_.out (by kernel_rfl)) (fun _ _ _ h => h) (Or.inl ⟨by rfl, ?_⟩) ?_ ?_
           rotate_left
           ·
            intro w'
            go_simp
            with_reducible rfl
           rotate_left
           ·
            simp only [Act.put, setIfInBounds_toArray, set_cons_zero, set_cons_succ, i64_w, i32_w]
            rfl
           refine pure_ (i := 4) (N := some 117) (v := ?_) (a' := ?_) #[true, true, true, false, true, false, false, false, false, false, false] rfl rfl (any_of HT_.out (by kernel_rfl)) (fun _ _ _ h => h) (Or.inl ⟨by rfl, ?_⟩) ?_ ?_
           rotate_left
           ·
            intro w'
            go_simp
            with_reducible rfl
           rotate_left
           ·
            simp only [Act.put, setIfInBounds_toArray, set_cons_zero, set_cons_succ, i64_w, i32_w]
            rfl
           refine pure_ (i := 5) (N := some 118) (v := ?_) (a' := ?_) #[true, true, true, false, true, true, false, false, false, false, false] rfl rfl (any_of HT_.out (by kernel_rfl)) (fun _ _ _ h => h) (Or.inl ⟨by rfl, ?_⟩) ?_ ?_
           rotate_left
           ·
            intro w'
            go_simp
            with_reducible rfl
           rotate_left
           ·
            simp only [Act.put, setIfInBounds_toArray, set_cons_zero, set_cons_succ, i64_w, i32_w]
            rfl
           refine pure_ (i := 6) (N := some 119) (v := ?_) (a' := ?_) #[true, true, true, false, true, true, true, false, false, false, false] rfl rfl (any_of HT_.out (by kernel_rfl)) (fun _ _ _ h => h) (Or.inl ⟨by rfl, ?_⟩) ?_ ?_
           rotate_left
           ·
            intro w'
            go_simp
            with_reducible rfl
           rotate_left
           ·
            simp only [Act.put, setIfInBounds_toArray, set_cons_zero, set_cons_succ, i64_w, i32_w]
            rfl
           refine take_ (i := 3) (N := some 116) (v := ?_) (a' := ?_) #[true, true, true, true, true, true, true, false, false, false, false] rfl rfl (take_ofW HT_.out HW_.out (by kernel_rfl)) (fun _ _ _ h => h) (Or.inl ⟨by rfl, ?_⟩) hHeld ?_ ?_
           rotate_left
           ·
            rintro w' ⟨s0, s1, s2, s3⟩
            go_simp
            with_reducible rfl
           rotate_left
           ·
            simp only [Act.put, setIfInBounds_toArray, set_cons_zero, set_cons_succ, i64_w, i32_w]
            rfl
           refine take_ (i := 7) (N := some 120) (v := ?_) (a' := ?_) #[true, true, true, true, true, true, true, true, false, false, false] rfl rfl (take_ofW HT_.out HW_.out (by kernel_rfl)) (fun _ _ _ h => h) (Or.inl ⟨by rfl, ?_⟩) hHeld ?_ ?_
           rotate_left
           ·
            rintro w' ⟨s0, s1, s2, s3⟩
            go_simp
            with_reducible rfl
           rotate_left
           ·
            simp only [Act.put, setIfInBounds_toArray, set_cons_zero, set_cons_succ, i64_w, i32_w]
            rfl
           refine pure_ (i := 8) (N := some 121) (v := ?_) (a' := ?_) #[true, true, true, true, true, true, true, true, true, false, false] rfl rfl (any_of HT_.out (by kernel_rfl)) (fun _ _ _ h => h) (Or.inl ⟨by rfl, ?_⟩) ?_ ?_
           rotate_left
           ·
            intro w'
            go_simp
            with_reducible rfl
           rotate_left
           ·
            simp only [Act.put, setIfInBounds_toArray, set_cons_zero, set_cons_succ, i64_w, i32_w]
            rfl
           refine pure_ (i := 9) (N := some 122) (v := ?_) (a' := ?_) #[true, true, true, true, true, true, true, true, true, true, false] rfl rfl (any_of HT_.out (by kernel_rfl)) (fun _ _ _ h => h) (Or.inl ⟨by rfl, ?_⟩) ?_ ?_
           rotate_left
           ·
            intro w'
            go_simp
            with_reducible rfl
           rotate_left
           ·
            simp only [Act.put, setIfInBounds_toArray, set_cons_zero, set_cons_succ, i64_w, i32_w]
            rfl
           refine pure_ (i := 10) (N := some 123) (v := ?_) (a' := ?_) #[true, true, true, true, true, true, true, true, true, true, true] rfl rfl (any_of HT_.out (by kernel_rfl)) (fun _ _ _ h => h) (Or.inl ⟨by rfl, ?_⟩) ?_ ?_
           rotate_left
           ·
            intro w'
            go_simp
            with_reducible rfl
           rotate_left
           ·
            simp only [Act.put, setIfInBounds_toArray, set_cons_zero, set_cons_succ, i64_w, i32_w]
            rfl
           refine done_ (done_of HT_.out (by kernel_rfl)) ?_
           try go_wp2
           go_ret
           exact ⟨by first | rfl | (simp [errW_none, errW_some] <;> rfl) | (simp [*, errW_none, errW_some] <;> rfl), by repeat (first | (with_reducible first | exact HB.out | apply below_alloc | apply bN_ | apply below_drew1 | refine below_set ?_ GE167.out) | exact HB.out)⟩
          ·
           rw [if_neg c50] at H
           have c50b0 : (!(t163 == (rd y160 x12_2)) || (!(t164 == 1) || (!(t165 == 1)))) = false := by simpa using c50
           clear c50
           have H' := Aside0.mk H
           clear H
           try go_wp2_with (first | ((with_reducible refine gate_callee (f := 10) rfl ?_); refine gL_ (some 110) Try.func10 #[.agg #[.int .i32 x12_2, .int .i32 0, .int .u8 0], .int .u8 1] ?_; (with_reducible refine (counts_Next.calls x12_2 0 0 1 t163 t164 t165 t166 _ A46.out).mono ?_); rintro e w57 ⟨rfl, hb⟩; refine ⟨_, rfl, ?_⟩; have n0_ := Aside0.mk (Kd.R_below (by (with_reducible repeat (first | apply Kd.R_alloc | apply Kd.R_drewN | apply Kd.R_drew)); exact HO_11.out) hb); have n1_ := Aside0.mk (below_step (by repeat (first | (with_reducible first | exact HB.out | apply below_alloc | apply bN_ | apply below_drew1) | exact HB.out)) hb); clear HO_11; clear HB; have HO_11 := n0_; have HB := n1_; clear n0_ n1_; (try clear hb)) | ((with_reducible refine gate_dst (N := 13) rfl ?_); refine box_event ?hg (N := 13) ?hd (cs := #[.int .i32 0, .int .i32 0, .int .u8 0]) (t := 23) ?hr ?_; (case hd => rfl); (case hg => rfl); (case hr => first | (go_simp; done) | (go_simp; rfl)); intro gb167 hg w58 hbox hb; have n0_ := Aside0.mk (Kd.R_below (by (with_reducible repeat (first | apply Kd.R_alloc | apply Kd.R_drewN | apply Kd.R_drew)); exact HO_11.out) hb); have n1_ := Aside0.mk (below_step (by repeat (first | (with_reducible first | exact HB.out | apply below_alloc | apply bN_ | apply below_drew1) | exact HB.out)) hb); have n2_ := Aside0.mk (hbox); have n3_ := Aside0.mk ((by rw [hg]; exact (below_size (by repeat (first | (with_reducible first | exact HB.out | apply below_alloc | apply bN_ | apply below_drew1) | exact HB.out))) : w.heap.size ≤ gb167)); have n4_ := Aside0.mk ((by rw [hg]; exact (below_size (by repeat (first | (with_reducible first | exact HB.out | apply below_alloc | apply bN_ | apply below_drew1) | exact HB.out))) : w.heap.size ≤ gb167)); clear HO_11; clear HB; have HO_11 := n0_; have HB := n1_; have BK167 := n2_; have GW167 := n3_; have GE167 := n4_; clear n0_ n1_ n2_ n3_ n4_; clear hb hbox hg; have hcz59_0 : w58.cell? ⟨gb167, 0, none⟩ = some (.int .i32 0) := (blk_cell BK167.out 0).trans rfl; have hcz59_1 : w58.cell? ⟨gb167, 1, none⟩ = some (.int .i32 0) := (blk_cell BK167.out 1).trans rfl; have hcz59_2 : w58.cell? ⟨gb167, 2, none⟩ = some (.int .u8 0) := (blk_cell BK167.out 2).trans rfl; have hfz59_0 := blk_frozen BK167.out 0; have hfz59_1 := blk_frozen BK167.out 1; have hfz59_2 := blk_frozen BK167.out 2))
           have n0_ : Aside0 (Kd.R (Kd.int .i32) 21 (((w58.setCell ⟨gb167, 0, none⟩ (.int .i32 t163)).setCell ⟨gb167, 1, none⟩ (.int .i32 t164)).setCell ⟨gb167, 2, none⟩ (.int .u8 t165)) w.heap.size (fun _ => True) v161 y160) := ⟨by (with_reducible repeat (first | apply Kd.R_alloc | apply Kd.R_drewN | apply Kd.R_drew)); exact Kd.R_mono (Kd.R_far (p := ⟨gb167, 2, none⟩) (Kd.R_far (p := ⟨gb167, 1, none⟩) (Kd.R_far (p := ⟨gb167, 0, none⟩) (Kd.R_types HO_11.out BK167.out (by decide)) (fun _ hk => hk.2) (.int .i32 t163)) (fun _ hk => hk.2) (.int .i32 t164)) (fun _ hk => hk.2) (.int .u8 t165)) (fun _ hk => trivial)⟩
           have n1_ : Aside0 ((((w58.setCell ⟨gb167, 0, none⟩ (.int .i32 t163)).setCell ⟨gb167, 1, none⟩ (.int .i32 t164)).setCell ⟨gb167, 2, none⟩ (.int .u8 t165)).heap[gb167]? = some (.cells #[.int .i32 t163, .int .i32 t164, .int .u8 t165] 23 (0, 0))) := ⟨by (with_reducible repeat (first | refine blk_drewN ?_ _ | refine blk_drew ?_ | refine blk_alloc ?_ _)); refine blk_put (cs := #[.int .i32 t163, .int .i32 t164, .int .u8 0]) ?_ 2 _ rfl; (with_reducible repeat (first | refine blk_drewN ?_ _ | refine blk_drew ?_ | refine blk_alloc ?_ _)); refine blk_put (cs := #[.int .i32 t163, .int .i32 0, .int .u8 0]) ?_ 1 _ rfl; (with_reducible repeat (first | refine blk_drewN ?_ _ | refine blk_drew ?_ | refine blk_alloc ?_ _)); refine blk_put (cs := #[.int .i32 0, .int .i32 0, .int .u8 0]) ?_ 0 _ rfl; (with_reducible repeat (first | refine blk_drewN ?_ _ | refine blk_drew ?_ | refine blk_alloc ?_ _)); exact BK167.out⟩
           have n2_ : Aside0 (Below w.heap.size w (((w58.setCell ⟨gb167, 0, none⟩ (.int .i32 t163)).setCell ⟨gb167, 1, none⟩ (.int .i32 t164)).setCell ⟨gb167, 2, none⟩ (.int .u8 t165))) := ⟨by repeat (first | (with_reducible first | exact HB.out | apply below_alloc | apply bN_ | apply below_drew1 | refine below_set ?_ GE167.out) | exact HB.out)⟩
           (try clear HO_11)
           (try clear BK167)
           (try clear HB)
           generalize (((w58.setCell ⟨gb167, 0, none⟩ (.int .i32 t163)).setCell ⟨gb167, 1, none⟩ (.int .i32 t164)).setCell ⟨gb167, 2, none⟩ (.int .u8 t165)) = w60 at n0_ n1_ n2_ ⊢
           have HO_11 := n0_
           have BK167 := n1_
           have HB := n2_
           clear n0_ n1_ n2_
           have n0_ := Aside0.mk (Kd.R_drew HO_11.out)
           have n1_ := Aside0.mk (blk_drew BK167.out)
           have n2_ := Aside0.mk (below_drew1 HB.out)
           clear HO_11
           clear BK167
           clear HB
           have HO_11 := n0_
           have BK167 := n1_
           have HB := n2_
           clear n0_ n1_ n2_
           obtain ⟨Ao62, co62, eo62⟩ := Kd.R_slice HO_11.out
           (first | subst eo62 | (injection eo62 with f1_ f2_ f3_; have f4_ := f1_.symm; have f5_ := f3_.symm; clear f1_ f2_ f3_; subst f4_; subst f5_))
           have p168 : 0 ≤ (x12_2 : Int) := of_decide_eq_true (by first | (with_reducible assumption) | assumption)
           have q168 : x12_2 < (y160.length : Int) := of_decide_eq_true (by first | (with_reducible assumption) | assumption)
           obtain ⟨ad168, e168, hx168_0⟩ := Kd.at_int (Kd.R_reads' HO_11.out).2.2 x12_2 p168 q168
           cases e168
           replace p168 := eq_true p168
           replace q168 := eq_true q168
           refine start_ (n := 11) (S := fun w' => w'.cell? ⟨gb167, 0, none⟩ = some (.int .i32 t163) ∧ w'.cell? ⟨gb167, 1, none⟩ = some (.int .i32 t164) ∧ w'.cell? ⟨gb167, 2, none⟩ = some (.int .u8 t165) ∧ w'.cell? (ad168.add (x12_2).toNat) = some (.int .i32 (rd y160 x12_2))) (ds := []) #[false, false, false, false, false, false, false, false, false, false, false] (by kernel_rfl) rfl rfl ⟨(blk_cell BK167.out 0).trans rfl, (blk_cell BK167.out 1).trans rfl, (blk_cell BK167.out 2).trans rfl, hx168_0⟩ (fun hHeld => ?_); refine with_tabW bitloftlaw07_CountsNames.tab16 bitloftlaw07_CountsNames.bits16 (fun HT_ HW_ => ?_)
           generalize w60.drew = w61 at HO_11 BK167 HB hx168_0 hHeld ⊢
           refine pure_ (i := 0) (N := some 113) (v := ?_) (a' := ?_) #[true, false, false, false, false, false, false, false, false, false, false] rfl rfl (any_of HT_.out (by kernel_rfl)) (fun _ _ _ h => h) (Or.inl ⟨by rfl, ?_⟩) ?_ ?_
           rotate_left
           ·
            intro w'
            go_simp
            with_reducible rfl
           rotate_left
           ·
            simp only [Act.put, setIfInBounds_toArray, set_cons_zero, set_cons_succ, i64_w, i32_w]
            rfl
           refine pure_ (i := 1) (N := some 114) (v := ?_) (a' := ?_) #[true, true, false, false, false, false, false, false, false, false, false] rfl rfl (any_of HT_.out (by kernel_rfl)) (fun _ _ _ h => h) (Or.inl ⟨by rfl, ?_⟩) ?_ ?_
           rotate_left
           ·
            intro w'
            go_simp
            with_reducible rfl
           rotate_left
           ·
            simp only [Act.put, setIfInBounds_toArray, set_cons_zero, set_cons_succ, i64_w, i32_w]
            rfl
           refine pure_ (i := 2) (N := some 115) (v := ?_) (a' := ?_) #[true, true, true, false, false, false, false, false, false, false, false] rfl rfl (any_of HT_.out (by kernel_rfl)) (fun _ _ _ h => h) (Or.inl ⟨by rfl, ?_⟩) ?_ ?_
           rotate_left
           ·
            intro w'
            go_simp
            with_reducible rfl
           rotate_left
           ·
            simp only [Act.put, setIfInBounds_toArray, set_cons_zero, set_cons_succ, i64_w, i32_w]
            rfl
           refine pure_ (i := 4) (N := some 117) (v := ?_) (a' := ?_) #[true, true, true, false, true, false, false, false, false, false, false] rfl rfl (any_of HT_.out (by kernel_rfl)) (fun _ _ _ h => h) (Or.inl ⟨by rfl, ?_⟩) ?_ ?_
           rotate_left
           ·
            intro w'
            go_simp
            with_reducible rfl
           rotate_left
           ·
            simp only [Act.put, setIfInBounds_toArray, set_cons_zero, set_cons_succ, i64_w, i32_w]
            rfl
           refine pure_ (i := 5) (N := some 118) (v := ?_) (a' := ?_) #[true, true, true, false, true, true, false, false, false, false, false] rfl rfl (any_of HT_.out (by kernel_rfl)) (fun _ _ _ h => h) (Or.inl ⟨by rfl, ?_⟩) ?_ ?_
           rotate_left
           ·
            intro w'
            go_simp
            with_reducible rfl
           rotate_left
           ·
            simp only [Act.put, setIfInBounds_toArray, set_cons_zero, set_cons_succ, i64_w, i32_w]
            rfl
           refine pure_ (i := 6) (N := some 119) (v := ?_) (a' := ?_) #[true, true, true, false, true, true, true, false, false, false, false] rfl rfl (any_of HT_.out (by kernel_rfl)) (fun _ _ _ h => h) (Or.inl ⟨by rfl, ?_⟩) ?_ ?_
           rotate_left
           ·
            intro w'
            go_simp
            with_reducible rfl
           rotate_left
           ·
            simp only [Act.put, setIfInBounds_toArray, set_cons_zero, set_cons_succ, i64_w, i32_w]
            rfl
           refine take_ (i := 3) (N := some 116) (v := ?_) (a' := ?_) #[true, true, true, true, true, true, true, false, false, false, false] rfl rfl (take_ofW HT_.out HW_.out (by kernel_rfl)) (fun _ _ _ h => h) (Or.inl ⟨by rfl, ?_⟩) hHeld ?_ ?_
           rotate_left
           ·
            rintro w' ⟨s0, s1, s2, s3⟩
            go_simp
            with_reducible rfl
           rotate_left
           ·
            simp only [Act.put, setIfInBounds_toArray, set_cons_zero, set_cons_succ, i64_w, i32_w]
            rfl
           refine take_ (i := 7) (N := some 120) (v := ?_) (a' := ?_) #[true, true, true, true, true, true, true, true, false, false, false] rfl rfl (take_ofW HT_.out HW_.out (by kernel_rfl)) (fun _ _ _ h => h) (Or.inl ⟨by rfl, ?_⟩) hHeld ?_ ?_
           rotate_left
           ·
            rintro w' ⟨s0, s1, s2, s3⟩
            go_simp
            with_reducible rfl
           rotate_left
           ·
            simp only [Act.put, setIfInBounds_toArray, set_cons_zero, set_cons_succ, i64_w, i32_w]
            rfl
           refine pure_ (i := 8) (N := some 121) (v := ?_) (a' := ?_) #[true, true, true, true, true, true, true, true, true, false, false] rfl rfl (any_of HT_.out (by kernel_rfl)) (fun _ _ _ h => h) (Or.inl ⟨by rfl, ?_⟩) ?_ ?_
           rotate_left
           ·
            intro w'
            go_simp
            with_reducible rfl
           rotate_left
           ·
            simp only [Act.put, setIfInBounds_toArray, set_cons_zero, set_cons_succ, i64_w, i32_w]
            rfl
           refine pure_ (i := 9) (N := some 122) (v := ?_) (a' := ?_) #[true, true, true, true, true, true, true, true, true, true, false] rfl rfl (any_of HT_.out (by kernel_rfl)) (fun _ _ _ h => h) (Or.inl ⟨by rfl, ?_⟩) ?_ ?_
           rotate_left
           ·
            intro w'
            go_simp
            with_reducible rfl
           rotate_left
           ·
            simp only [Act.put, setIfInBounds_toArray, set_cons_zero, set_cons_succ, i64_w, i32_w]
            rfl
           refine pure_ (i := 10) (N := some 123) (v := ?_) (a' := ?_) #[true, true, true, true, true, true, true, true, true, true, true] rfl rfl (any_of HT_.out (by kernel_rfl)) (fun _ _ _ h => h) (Or.inl ⟨by rfl, ?_⟩) ?_ ?_
           rotate_left
           ·
            intro w'
            go_simp
            with_reducible rfl
           rotate_left
           ·
            simp only [Act.put, setIfInBounds_toArray, set_cons_zero, set_cons_succ, i64_w, i32_w]
            rfl
           refine done_ (done_of HT_.out (by kernel_rfl)) ?_
           try go_wp2
           go_roundg k2
           case measure => have := HK1.out; have := HK2.out; omega
           case rel => exact ⟨(wrap32 (x12_2 + 1)), (by first | rfl | (simp; done) | (simp [*]; done)), H', ⟨by have := HK1.out; have := HK2.out; omega⟩, ⟨by (with_reducible repeat (first | apply Kd.R_alloc | apply Kd.R_drewN | apply Kd.R_drew)); exact HO_11.out⟩, ⟨by repeat (first | (with_reducible first | exact HB.out | apply below_alloc | apply bN_ | apply below_drew1 | refine below_set ?_ GE167.out) | exact HB.out)⟩⟩
         ·
          rw [if_neg c49] at H
          exact absurd H (by simp)
        ·
         rw [if_neg c48] at H
         exact absurd H (by simp)
       ·
        rw [if_neg c47] at H
        have c47b0 : (t166 == 0) = false := beq_eq_false_iff_ne.mpr c47
        have c47b1 : (t166 != 0) = true := bne_iff_ne.mpr c47
        obtain rfl := Option.some.inj H
        try go_wp2_with (first | ((with_reducible refine gate_callee (f := 10) rfl ?_); refine gL_ (some 110) Try.func10 #[.agg #[.int .i32 x12_2, .int .i32 0, .int .u8 0], .int .u8 1] ?_; (with_reducible refine (counts_Next.calls x12_2 0 0 1 t163 t164 t165 t166 _ A46.out).mono ?_); rintro e w63 ⟨rfl, hb⟩; refine ⟨_, rfl, ?_⟩; have n0_ := Aside0.mk (Kd.R_below (by (with_reducible repeat (first | apply Kd.R_alloc | apply Kd.R_drewN | apply Kd.R_drew)); exact HO_11.out) hb); have n1_ := Aside0.mk (below_step (by repeat (first | (with_reducible first | exact HB.out | apply below_alloc | apply bN_ | apply below_drew1) | exact HB.out)) hb); clear HO_11; clear HB; have HO_11 := n0_; have HB := n1_; clear n0_ n1_; (try clear hb)) | ((with_reducible refine gate_dst (N := 13) rfl ?_); refine box_event ?hg (N := 13) ?hd (cs := #[.int .i32 0, .int .i32 0, .int .u8 0]) (t := 23) ?hr ?_; (case hd => rfl); (case hg => rfl); (case hr => first | (go_simp; done) | (go_simp; rfl)); intro gb167 hg w64 hbox hb; have n0_ := Aside0.mk (Kd.R_below (by (with_reducible repeat (first | apply Kd.R_alloc | apply Kd.R_drewN | apply Kd.R_drew)); exact HO_11.out) hb); have n1_ := Aside0.mk (below_step (by repeat (first | (with_reducible first | exact HB.out | apply below_alloc | apply bN_ | apply below_drew1) | exact HB.out)) hb); have n2_ := Aside0.mk (hbox); have n3_ := Aside0.mk ((by rw [hg]; exact (below_size (by repeat (first | (with_reducible first | exact HB.out | apply below_alloc | apply bN_ | apply below_drew1) | exact HB.out))) : w.heap.size ≤ gb167)); have n4_ := Aside0.mk ((by rw [hg]; exact (below_size (by repeat (first | (with_reducible first | exact HB.out | apply below_alloc | apply bN_ | apply below_drew1) | exact HB.out))) : w.heap.size ≤ gb167)); clear HO_11; clear HB; have HO_11 := n0_; have HB := n1_; have BK167 := n2_; have GW167 := n3_; have GE167 := n4_; clear n0_ n1_ n2_ n3_ n4_; clear hb hbox hg; have hcz65_0 : w64.cell? ⟨gb167, 0, none⟩ = some (.int .i32 0) := (blk_cell BK167.out 0).trans rfl; have hcz65_1 : w64.cell? ⟨gb167, 1, none⟩ = some (.int .i32 0) := (blk_cell BK167.out 1).trans rfl; have hcz65_2 : w64.cell? ⟨gb167, 2, none⟩ = some (.int .u8 0) := (blk_cell BK167.out 2).trans rfl; have hfz65_0 := blk_frozen BK167.out 0; have hfz65_1 := blk_frozen BK167.out 1; have hfz65_2 := blk_frozen BK167.out 2))
        have n0_ : Aside0 (Kd.R (Kd.int .i32) 21 (((w64.setCell ⟨gb167, 0, none⟩ (.int .i32 t163)).setCell ⟨gb167, 1, none⟩ (.int .i32 t164)).setCell ⟨gb167, 2, none⟩ (.int .u8 t165)) w.heap.size (fun _ => True) v161 y160) := ⟨by (with_reducible repeat (first | apply Kd.R_alloc | apply Kd.R_drewN | apply Kd.R_drew)); exact Kd.R_mono (Kd.R_far (p := ⟨gb167, 2, none⟩) (Kd.R_far (p := ⟨gb167, 1, none⟩) (Kd.R_far (p := ⟨gb167, 0, none⟩) (Kd.R_types HO_11.out BK167.out (by decide)) (fun _ hk => hk.2) (.int .i32 t163)) (fun _ hk => hk.2) (.int .i32 t164)) (fun _ hk => hk.2) (.int .u8 t165)) (fun _ hk => trivial)⟩
        have n1_ : Aside0 ((((w64.setCell ⟨gb167, 0, none⟩ (.int .i32 t163)).setCell ⟨gb167, 1, none⟩ (.int .i32 t164)).setCell ⟨gb167, 2, none⟩ (.int .u8 t165)).heap[gb167]? = some (.cells #[.int .i32 t163, .int .i32 t164, .int .u8 t165] 23 (0, 0))) := ⟨by (with_reducible repeat (first | refine blk_drewN ?_ _ | refine blk_drew ?_ | refine blk_alloc ?_ _)); refine blk_put (cs := #[.int .i32 t163, .int .i32 t164, .int .u8 0]) ?_ 2 _ rfl; (with_reducible repeat (first | refine blk_drewN ?_ _ | refine blk_drew ?_ | refine blk_alloc ?_ _)); refine blk_put (cs := #[.int .i32 t163, .int .i32 0, .int .u8 0]) ?_ 1 _ rfl; (with_reducible repeat (first | refine blk_drewN ?_ _ | refine blk_drew ?_ | refine blk_alloc ?_ _)); refine blk_put (cs := #[.int .i32 0, .int .i32 0, .int .u8 0]) ?_ 0 _ rfl; (with_reducible repeat (first | refine blk_drewN ?_ _ | refine blk_drew ?_ | refine blk_alloc ?_ _)); exact BK167.out⟩
        have n2_ : Aside0 (Below w.heap.size w (((w64.setCell ⟨gb167, 0, none⟩ (.int .i32 t163)).setCell ⟨gb167, 1, none⟩ (.int .i32 t164)).setCell ⟨gb167, 2, none⟩ (.int .u8 t165))) := ⟨by repeat (first | (with_reducible first | exact HB.out | apply below_alloc | apply bN_ | apply below_drew1 | refine below_set ?_ GE167.out) | exact HB.out)⟩
        (try clear HO_11)
        (try clear BK167)
        (try clear HB)
        generalize (((w64.setCell ⟨gb167, 0, none⟩ (.int .i32 t163)).setCell ⟨gb167, 1, none⟩ (.int .i32 t164)).setCell ⟨gb167, 2, none⟩ (.int .u8 t165)) = w66 at n0_ n1_ n2_ ⊢
        have HO_11 := n0_
        have BK167 := n1_
        have HB := n2_
        clear n0_ n1_ n2_
        have n0_ := Aside0.mk (Kd.R_drew HO_11.out)
        have n1_ := Aside0.mk (blk_drew BK167.out)
        have n2_ := Aside0.mk (below_drew1 HB.out)
        clear HO_11
        clear BK167
        clear HB
        have HO_11 := n0_
        have BK167 := n1_
        have HB := n2_
        clear n0_ n1_ n2_
        refine start_ (n := 11) (S := fun w' => True) (ds := []) #[false, false, false, false, false, false, false, false, false, false, false] (by kernel_rfl) rfl rfl trivial (fun hHeld => ?_); refine with_tabW bitloftlaw07_CountsNames.tab16 bitloftlaw07_CountsNames.bits16 (fun HT_ HW_ => ?_)
        generalize w66.drew = w67 at HO_11 BK167 HB hHeld ⊢
        refine pure_ (i := 0) (N := some 113) (v := ?_) (a' := ?_) #[true, false, false, false, false, false, false, false, false, false, false] rfl rfl (any_of HT_.out (by kernel_rfl)) (fun _ _ _ h => h) (Or.inl ⟨by rfl, ?_⟩) ?_ ?_
        rotate_left
        ·
         intro w'
         go_simp
         with_reducible rfl
        rotate_left
        ·
         simp only [Act.put, setIfInBounds_toArray, set_cons_zero, set_cons_succ, i64_w, i32_w]
         rfl
        refine pure_ (i := 1) (N := some 114) (v := ?_) (a' := ?_) #[true, true, false, false, false, false, false, false, false, false, false] rfl rfl (any_of HT_.out (by kernel_rfl)) (fun _ _ _ h => h) (Or.inl ⟨by rfl, ?_⟩) ?_ ?_
        rotate_left
        ·
         intro w'
         go_simp
         with_reducible rfl
        rotate_left
        ·
         simp only [Act.put, setIfInBounds_toArray, set_cons_zero, set_cons_succ, i64_w, i32_w]
         rfl
        refine pure_ (i := 2) (N := some 115) (v := ?_) (a' := ?_) #[true, true, true, false, false, false, false, false, false, false, false] rfl rfl (any_of HT_.out (by kernel_rfl)) (fun _ _ _ h => h) (Or.inl ⟨by rfl, ?_⟩) ?_ ?_
        rotate_left
        ·
         intro w'
         go_simp
         with_reducible rfl
        rotate_left
        ·
         simp only [Act.put, setIfInBounds_toArray, set_cons_zero, set_cons_succ, i64_w, i32_w]
         rfl
        refine pure_ (i := 3) (N := some 116) (v := undef) (a' := ?_) #[true, true, true, true, false, false, false, false, false, false, false] rfl rfl (any_of HT_.out (by kernel_rfl)) (fun _ _ _ h => h) (Or.inr ⟨by rfl, rfl⟩) ?_ ?_
        rotate_left
        ·
         simp only [Act.put, setIfInBounds_toArray, set_cons_zero, set_cons_succ, i64_w, i32_w]
         rfl
        refine pure_ (i := 4) (N := some 117) (v := undef) (a' := ?_) #[true, true, true, true, true, false, false, false, false, false, false] rfl rfl (any_of HT_.out (by kernel_rfl)) (fun _ _ _ h => h) (Or.inr ⟨by rfl, rfl⟩) ?_ ?_
        rotate_left
        ·
         simp only [Act.put, setIfInBounds_toArray, set_cons_zero, set_cons_succ, i64_w, i32_w]
         rfl
        refine pure_ (i := 5) (N := some 118) (v := undef) (a' := ?_) #[true, true, true, true, true, true, false, false, false, false, false] rfl rfl (any_of HT_.out (by kernel_rfl)) (fun _ _ _ h => h) (Or.inr ⟨by rfl, rfl⟩) ?_ ?_
        rotate_left
        ·
         simp only [Act.put, setIfInBounds_toArray, set_cons_zero, set_cons_succ, i64_w, i32_w]
         rfl
        refine pure_ (i := 6) (N := some 119) (v := undef) (a' := ?_) #[true, true, true, true, true, true, true, false, false, false, false] rfl rfl (any_of HT_.out (by kernel_rfl)) (fun _ _ _ h => h) (Or.inr ⟨by rfl, rfl⟩) ?_ ?_
        rotate_left
        ·
         simp only [Act.put, setIfInBounds_toArray, set_cons_zero, set_cons_succ, i64_w, i32_w]
         rfl
        refine pure_ (i := 7) (N := some 120) (v := undef) (a' := ?_) #[true, true, true, true, true, true, true, true, false, false, false] rfl rfl (any_of HT_.out (by kernel_rfl)) (fun _ _ _ h => h) (Or.inr ⟨by rfl, rfl⟩) ?_ ?_
        rotate_left
        ·
         simp only [Act.put, setIfInBounds_toArray, set_cons_zero, set_cons_succ, i64_w, i32_w]
         rfl
        refine pure_ (i := 8) (N := some 121) (v := undef) (a' := ?_) #[true, true, true, true, true, true, true, true, true, false, false] rfl rfl (any_of HT_.out (by kernel_rfl)) (fun _ _ _ h => h) (Or.inr ⟨by rfl, rfl⟩) ?_ ?_
        rotate_left
        ·
         simp only [Act.put, setIfInBounds_toArray, set_cons_zero, set_cons_succ, i64_w, i32_w]
         rfl
        refine pure_ (i := 9) (N := some 122) (v := undef) (a' := ?_) #[true, true, true, true, true, true, true, true, true, true, false] rfl rfl (any_of HT_.out (by kernel_rfl)) (fun _ _ _ h => h) (Or.inr ⟨by rfl, rfl⟩) ?_ ?_
        rotate_left
        ·
         simp only [Act.put, setIfInBounds_toArray, set_cons_zero, set_cons_succ, i64_w, i32_w]
         rfl
        refine pure_ (i := 10) (N := some 123) (v := ?_) (a' := ?_) #[true, true, true, true, true, true, true, true, true, true, true] rfl rfl (any_of HT_.out (by kernel_rfl)) (fun _ _ _ h => h) (Or.inl ⟨by rfl, ?_⟩) ?_ ?_
        rotate_left
        ·
         intro w'
         go_simp
         with_reducible rfl
        rotate_left
        ·
         simp only [Act.put, setIfInBounds_toArray, set_cons_zero, set_cons_succ, i64_w, i32_w]
         rfl
        refine done_ (done_of HT_.out (by kernel_rfl)) ?_
        try go_wp2
        go_ret
        exact ⟨by first | rfl | (simp [errW_none, errW_some] <;> rfl) | (simp [*, errW_none, errW_some] <;> rfl), by repeat (first | (with_reducible first | exact HB.out | apply below_alloc | apply bN_ | apply below_drew1 | refine below_set ?_ GE167.out) | exact HB.out)⟩
      ·
       rw [if_neg c45] at H
       have c45b0 : decide (x12_2 ≤ 12) = false := decide_eq_false c45
       clear c45
       have A68 := Aside0.mk (show counts_Next.f 0 0 0 2 = some (0, 0, 0, 2) by decide +kernel)
       obtain ⟨y170, hy170⟩ : ∃ y_ : List Int, y_ = (List.replicate 20001 0) := ⟨_, rfl⟩
       replace H : ((counts_Run.f k2 0 0 0 (List.replicate 20000 0)).bind fun bt181 => (if bt181.2.2.2 = 0 then (if (bt181.1 == 12 && (bt181.2.1 == 0 && (bt181.2.2.1 == 0))) = true then (bitloftlaw07_CountsNames.j3 k2 true) else (bitloftlaw07_CountsNames.j3 k2 false)) else (bitloftlaw07_CountsNames.j3 k2 false))) = some r := by first | (rw [hy170]; with_reducible exact H) | (have H2_ := (Option.bind_some _ _).symm.trans H; rw [hy170]; with_reducible exact H2_) | (have H2_ := (Option.bind_some _ _).symm.trans H; with_reducible exact H2_) | with_reducible exact H | (rw [hy170]; exact H) | exact H
       have Ny170 := Aside0.mk hy170
       clear hy170
       have A69 := Aside0.mk (show counts_Run.f 2000 0 0 0 y170 = some (0, 0, 0, 4) by (try rw [Ny170.out]); decide +kernel)
       obtain ⟨y174, hy174⟩ : ∃ y_ : List Int, y_ = (([0, 1, 2] : List Int)) := ⟨_, rfl⟩
       replace H : ((counts_Run.f k2 0 0 0 (List.replicate 20000 0)).bind fun bt181 => (if bt181.2.2.2 = 0 then (if (bt181.1 == 12 && (bt181.2.1 == 0 && (bt181.2.2.1 == 0))) = true then (bitloftlaw07_CountsNames.j3 k2 true) else (bitloftlaw07_CountsNames.j3 k2 false)) else (bitloftlaw07_CountsNames.j3 k2 false))) = some r := by first | (rw [hy174]; with_reducible exact H) | (have H2_ := (Option.bind_some _ _).symm.trans H; rw [hy174]; with_reducible exact H2_) | (have H2_ := (Option.bind_some _ _).symm.trans H; with_reducible exact H2_) | with_reducible exact H | (rw [hy174]; exact H) | exact H
       have Ny174 := Aside0.mk hy174
       clear hy174
       have A70 := Aside0.mk (show counts_Run.f 2000 0 0 0 y174 = some (0, 0, 0, 2) by (try rw [Ny174.out]); decide +kernel)
       obtain ⟨y178, hy178⟩ : ∃ y_ : List Int, y_ = (List.replicate 20000 0) := ⟨_, rfl⟩
       replace H : ((counts_Run.f k2 0 0 0 y178).bind fun bt181 => (if bt181.2.2.2 = 0 then (if (bt181.1 == 12 && (bt181.2.1 == 0 && (bt181.2.2.1 == 0))) = true then (bitloftlaw07_CountsNames.j3 k2 true) else (bitloftlaw07_CountsNames.j3 k2 false)) else (bitloftlaw07_CountsNames.j3 k2 false))) = some r := by first | (rw [hy178]; with_reducible exact H) | (have H2_ := (Option.bind_some _ _).symm.trans H; rw [hy178]; with_reducible exact H2_) | (have H2_ := (Option.bind_some _ _).symm.trans H; with_reducible exact H2_) | with_reducible exact H | (rw [hy178]; exact H) | exact H
       have Ny178 := Aside0.mk hy178
       clear hy178
       replace H := Option.bind_eq_some_iff.mp H
       obtain ⟨⟨t181, t182, t183, t184⟩, A710, H⟩ := H
       replace H : (if t184 = 0 then (if (t181 == 12 && (t182 == 0 && (t183 == 0))) = true then (bitloftlaw07_CountsNames.j3 k2 true) else (bitloftlaw07_CountsNames.j3 k2 false)) else (bitloftlaw07_CountsNames.j3 k2 false)) = some r := H
       have A71 := Aside0.mk A710
       clear A710
       have A72 := Aside0.mk (show counts_Turn.f 0 0 0 = some (0, 0, 0, 0) by decide +kernel)
       have A73 := Aside0.mk (show counts_Run.f 2000 3 7 0 ([] : List Int) = some (3, 7, 0, 0) by decide +kernel)
       have A74 := Aside0.mk (show counts_Total.f 7 12 1 = some (19, 0) by decide +kernel)
       have HC75 := Aside0.mk H
       clear H
       go_upto_region 25 with (first | ((with_reducible refine gate_callee (f := 10) rfl ?_); refine gL_ (some 126) Try.func10 #[.agg #[.int .i32 0, .int .i32 0, .int .u8 0], .int .u8 2] ?_; (with_reducible refine (counts_Next.calls 0 0 0 2 0 0 0 2 _ A68.out).mono ?_); rintro e w76 ⟨rfl, hb⟩; refine ⟨_, rfl, ?_⟩; have n0_ := Aside0.mk (Kd.R_below (by (with_reducible repeat (first | apply Kd.R_alloc | apply Kd.R_drewN | apply Kd.R_drew)); exact HO_11.out) hb); have n1_ := Aside0.mk (below_step (by repeat (first | (with_reducible first | exact HB.out | apply below_alloc | apply bN_ | apply below_drew1) | exact HB.out)) hb); clear HO_11; clear HB; have HO_11 := n0_; have HB := n1_; clear n0_ n1_; (try clear hb)) | ((with_reducible refine gate_dst (N := 15) rfl ?_); refine box_event ?hg (N := 15) ?hd (cs := #[.int .i32 0, .int .i32 0, .int .u8 0]) (t := 23) ?hr ?_; (case hd => rfl); (case hg => rfl); (case hr => first | (go_simp; done) | (go_simp; rfl)); intro gb169 hg w77 hbox hb; have n0_ := Aside0.mk (Kd.R_below (by (with_reducible repeat (first | apply Kd.R_alloc | apply Kd.R_drewN | apply Kd.R_drew)); exact HO_11.out) hb); have n1_ := Aside0.mk (below_step (by repeat (first | (with_reducible first | exact HB.out | apply below_alloc | apply bN_ | apply below_drew1) | exact HB.out)) hb); have n2_ := Aside0.mk (hbox); have n3_ := Aside0.mk ((by rw [hg]; exact (below_size (by repeat (first | (with_reducible first | exact HB.out | apply below_alloc | apply bN_ | apply below_drew1) | exact HB.out))) : w.heap.size ≤ gb169)); have n4_ := Aside0.mk ((by rw [hg]; exact (below_size (by repeat (first | (with_reducible first | exact HB.out | apply below_alloc | apply bN_ | apply below_drew1) | exact HB.out))) : w.heap.size ≤ gb169)); clear HO_11; clear HB; have HO_11 := n0_; have HB := n1_; have BK169 := n2_; have GW169 := n3_; have GE169 := n4_; clear n0_ n1_ n2_ n3_ n4_; clear hb hbox hg; have hcz78_0 : w77.cell? ⟨gb169, 0, none⟩ = some (.int .i32 0) := (blk_cell BK169.out 0).trans rfl; have hcz78_1 : w77.cell? ⟨gb169, 1, none⟩ = some (.int .i32 0) := (blk_cell BK169.out 1).trans rfl; have hcz78_2 : w77.cell? ⟨gb169, 2, none⟩ = some (.int .u8 0) := (blk_cell BK169.out 2).trans rfl; have hfz78_0 := blk_frozen BK169.out 0; have hfz78_1 := blk_frozen BK169.out 1; have hfz78_2 := blk_frozen BK169.out 2) | ((with_reducible refine gate_dst (N := 131) rfl ?_); refine Kd.R_make (Kd.int .u8) _ 5 rfl (N := 131) rfl 38 _ _ rfl 20001 rfl rfl Try.underlying38 (.int .u8 0) 1 info5 rfl (by decide) (by omega) 0 (ok := fun _ => True) (okp := fun _ => True) rfl (fun _ hk => hk) trivial (by omega) (by omega) (Below.refl _ _) (Nat.le_refl _) ?_; intro v171 w79 ho80 hb hg_ hnew_; clear hg_ hnew_; (first | rw [← Ny170.out] at ho80 | (simp only [Int.reduceToNat] at ho80; rw [← Ny170.out] at ho80)); have n0_ := Aside0.mk (Kd.R_below (by (with_reducible repeat (first | apply Kd.R_alloc | apply Kd.R_drewN | apply Kd.R_drew)); exact (Kd.R_mono (Kd.R_far (p := ⟨gb169, 2, none⟩) (Kd.R_far (p := ⟨gb169, 1, none⟩) (Kd.R_far (p := ⟨gb169, 0, none⟩) (Kd.R_types HO_11.out BK169.out (by decide)) (fun _ hk => hk.2) (.int .i32 0)) (fun _ hk => hk.2) (.int .i32 0)) (fun _ hk => hk.2) (.int .u8 0)) (fun _ h_ => h_.1))) hb); have n1_ := Aside0.mk (Kd.R_lower ho80 (below_size (by repeat (first | (with_reducible first | exact HB.out | apply below_alloc | apply bN_ | apply below_drew1 | refine below_set ?_ GE169.out) | exact HB.out)))); have n2_ := Aside0.mk (blk_below (g := gb169) (o := .cells #[.int .i32 0, .int .i32 0, .int .u8 0] 23 (0, 0)) (by (with_reducible repeat (first | refine blk_drewN ?_ _ | refine blk_drew ?_ | refine blk_alloc ?_ _)); refine blk_put (cs := #[.int .i32 0, .int .i32 0, .int .u8 0]) ?_ 2 _ rfl; (with_reducible repeat (first | refine blk_drewN ?_ _ | refine blk_drew ?_ | refine blk_alloc ?_ _)); refine blk_put (cs := #[.int .i32 0, .int .i32 0, .int .u8 0]) ?_ 1 _ rfl; (with_reducible repeat (first | refine blk_drewN ?_ _ | refine blk_drew ?_ | refine blk_alloc ?_ _)); refine blk_put (cs := #[.int .i32 0, .int .i32 0, .int .u8 0]) ?_ 0 _ rfl; (with_reducible repeat (first | refine blk_drewN ?_ _ | refine blk_drew ?_ | refine blk_alloc ?_ _)); exact BK169.out) hb); have n3_ := Aside0.mk (below_step (by repeat (first | (with_reducible first | exact HB.out | apply below_alloc | apply bN_ | apply below_drew1 | refine below_set ?_ GE169.out) | exact HB.out)) hb); clear HO_11; clear BK169; clear HB; have HO_11 := n0_; have HO172 := n1_; have BK169 := n2_; have HB := n3_; clear n0_ n1_ n2_ n3_; clear hb ho80; obtain ⟨Ao81, co81, eo81⟩ := Kd.R_slice HO172.out; subst eo81) | ((with_reducible refine gate_callee (f := 18) rfl ?_); refine gL_ (some 132) Try.func18 #[.agg #[.int .i32 0, .int .i32 0, .int .u8 0], .slice Ao81 y170.length co81] ?_; (with_reducible refine (counts_Run.calls 2000 0 0 0 _ _ y170 0 0 0 4 _ ?side1 ?side2 A69.out).mono ?_); (case side1 => repeat (first | exact (Kd.R_reads' HO172.out).2.2 | (with_reducible refine Kd.C_alloc ?_ _) | (with_reducible refine Kd.C_drewN ?_ _) | (with_reducible refine Kd.C_drew ?_))); (case side2 => exact (Kd.R_reads' HO172.out).2.1); rintro e w82 ⟨rfl, hb⟩; refine ⟨_, rfl, ?_⟩; have n0_ := Aside0.mk (Kd.R_below (by (with_reducible repeat (first | apply Kd.R_alloc | apply Kd.R_drewN | apply Kd.R_drew)); exact HO_11.out) hb); have n1_ := Aside0.mk (Kd.R_below (by (with_reducible repeat (first | apply Kd.R_alloc | apply Kd.R_drewN | apply Kd.R_drew)); exact HO172.out) hb); have n2_ := Aside0.mk (blk_below (g := gb169) (o := .cells #[.int .i32 0, .int .i32 0, .int .u8 0] 23 (0, 0)) (by (with_reducible repeat (first | refine blk_drewN ?_ _ | refine blk_drew ?_ | refine blk_alloc ?_ _)); exact BK169.out) hb); have n3_ := Aside0.mk (below_step (by repeat (first | (with_reducible first | exact HB.out | apply below_alloc | apply bN_ | apply below_drew1 | refine below_set ?_ GE169.out) | exact HB.out)) hb); clear HO_11; clear HO172; clear BK169; clear HB; have HO_11 := n0_; have HO172 := n1_; have BK169 := n2_; have HB := n3_; clear n0_ n1_ n2_ n3_; (try clear hb)) | ((with_reducible refine gate_dst (N := 17) rfl ?_); refine box_event ?hg (N := 17) ?hd (cs := #[.int .i32 0, .int .i32 0, .int .u8 0]) (t := 23) ?hr ?_; (case hd => rfl); (case hg => rfl); (case hr => first | (go_simp; done) | (go_simp; rfl)); intro gb173 hg w83 hbox hb; have n0_ := Aside0.mk (Kd.R_below (by (with_reducible repeat (first | apply Kd.R_alloc | apply Kd.R_drewN | apply Kd.R_drew)); exact HO_11.out) hb); have n1_ := Aside0.mk (Kd.R_below (by (with_reducible repeat (first | apply Kd.R_alloc | apply Kd.R_drewN | apply Kd.R_drew)); exact HO172.out) hb); have n2_ := Aside0.mk (blk_below (g := gb169) (o := .cells #[.int .i32 0, .int .i32 0, .int .u8 0] 23 (0, 0)) (by (with_reducible repeat (first | refine blk_drewN ?_ _ | refine blk_drew ?_ | refine blk_alloc ?_ _)); exact BK169.out) hb); have n3_ := Aside0.mk (below_step (by repeat (first | (with_reducible first | exact HB.out | apply below_alloc | apply bN_ | apply below_drew1 | refine below_set ?_ GE169.out) | exact HB.out)) hb); have n4_ := Aside0.mk (hbox); have n5_ := Aside0.mk ((by rw [hg]; exact (below_size (by repeat (first | (with_reducible first | exact HB.out | apply below_alloc | apply bN_ | apply below_drew1 | refine below_set ?_ GE169.out) | exact HB.out))) : w.heap.size ≤ gb173)); have n6_ := Aside0.mk ((by rw [hg]; exact (below_size (by repeat (first | (with_reducible first | exact HB.out | apply below_alloc | apply bN_ | apply below_drew1 | refine below_set ?_ GE169.out) | exact HB.out))) : w.heap.size ≤ gb173)); have n7_ := Aside0.mk ((by rw [hg]; exact Nat.ne_of_lt (blk_lt (g := gb169) (o := .cells #[.int .i32 0, .int .i32 0, .int .u8 0] 23 (0, 0)) (by (with_reducible repeat (first | refine blk_drewN ?_ _ | refine blk_drew ?_ | refine blk_alloc ?_ _)); exact BK169.out)) : gb169 ≠ gb173)); have n8_ := Aside0.mk ((by rw [hg]; exact Nat.ne_of_gt (blk_lt (g := gb169) (o := .cells #[.int .i32 0, .int .i32 0, .int .u8 0] 23 (0, 0)) (by (with_reducible repeat (first | refine blk_drewN ?_ _ | refine blk_drew ?_ | refine blk_alloc ?_ _)); exact BK169.out)) : gb173 ≠ gb169)); clear HO_11; clear HO172; clear BK169; clear HB; have HO_11 := n0_; have HO172 := n1_; have BK169 := n2_; have HB := n3_; have BK173 := n4_; have GW173 := n5_; have GE173 := n6_; have NB169_173 := n7_; have NB173_169 := n8_; clear n0_ n1_ n2_ n3_ n4_ n5_ n6_ n7_ n8_; clear hb hbox hg; have hnb84 := NB173_169.out; have hnc84 := NB169_173.out; have hcz85_0 : w83.cell? ⟨gb173, 0, none⟩ = some (.int .i32 0) := (blk_cell BK173.out 0).trans rfl; have hcz85_1 : w83.cell? ⟨gb173, 1, none⟩ = some (.int .i32 0) := (blk_cell BK173.out 1).trans rfl; have hcz85_2 : w83.cell? ⟨gb173, 2, none⟩ = some (.int .u8 0) := (blk_cell BK173.out 2).trans rfl; have hfz85_0 := blk_frozen BK173.out 0; have hfz85_1 := blk_frozen BK173.out 1; have hfz85_2 := blk_frozen BK173.out 2) | ((with_reducible refine gate_dst (N := 137) rfl ?_); refine Kd.R_lit (Kd.int .u8) _ 5 ?hg (N := 137) ?hd (xs := ([0, 1, 2] : List Int)) (inner := [.int .u8 0, .int .u8 1, .int .u8 2]) (ok := fun _ => True) (okp := fun _ => True) ?hr ?hp (fun _ hk => hk) trivial (Below.refl _ _) (Nat.le_refl _) (by simp) ?_; (case hd => rfl); (case hg => rfl); (case hr => first | (go_simp; done) | (go_simp; rfl)); (case hp => exact (Reps.one (show Kd.M (Kd.int .u8) _ _ _ 0 [.int .u8 0] from rfl) (Reps.one (show Kd.M (Kd.int .u8) _ _ _ 1 [.int .u8 1] from rfl) (Reps.one (show Kd.M (Kd.int .u8) _ _ _ 2 [.int .u8 2] from rfl) (Reps.none _ _))))); intro v175 w86 ho87 hb hg_ hnew_; clear hg_ hnew_; (first | rw [← Ny174.out] at ho87 | (simp only [Int.reduceToNat] at ho87; rw [← Ny174.out] at ho87)); have n0_ := Aside0.mk (Kd.R_below (by (with_reducible repeat (first | apply Kd.R_alloc | apply Kd.R_drewN | apply Kd.R_drew)); exact (Kd.R_mono (Kd.R_far (p := ⟨gb173, 2, none⟩) (Kd.R_far (p := ⟨gb173, 1, none⟩) (Kd.R_far (p := ⟨gb173, 0, none⟩) (Kd.R_types HO_11.out BK173.out (by decide)) (fun _ hk => hk.2) (.int .i32 0)) (fun _ hk => hk.2) (.int .i32 0)) (fun _ hk => hk.2) (.int .u8 0)) (fun _ h_ => h_.1))) hb); have n1_ := Aside0.mk (Kd.R_elder' (by (with_reducible repeat (first | apply Kd.R_alloc | apply Kd.R_drewN | apply Kd.R_drew)); exact (Kd.R_mono (Kd.R_far (p := ⟨gb173, 2, none⟩) (Kd.R_far (p := ⟨gb173, 1, none⟩) (Kd.R_far (p := ⟨gb173, 0, none⟩) (Kd.R_types HO172.out BK173.out (by decide)) (fun _ hk => hk.2) (.int .i32 0)) (fun _ hk => hk.2) (.int .i32 0)) (fun _ hk => hk.2) (.int .u8 0)) (fun _ h_ => h_.1))) (Kd.R_base ho87) hb); have n2_ := Aside0.mk (Kd.R_lower (Kd.R_new' ho87 (Kd.R_lt (by (with_reducible repeat (first | apply Kd.R_alloc | apply Kd.R_drewN | apply Kd.R_drew)); exact (Kd.R_mono (Kd.R_far (p := ⟨gb173, 2, none⟩) (Kd.R_far (p := ⟨gb173, 1, none⟩) (Kd.R_far (p := ⟨gb173, 0, none⟩) (Kd.R_types HO172.out BK173.out (by decide)) (fun _ hk => hk.2) (.int .i32 0)) (fun _ hk => hk.2) (.int .i32 0)) (fun _ hk => hk.2) (.int .u8 0)) (fun _ h_ => h_.1))))) (below_size (by repeat (first | (with_reducible first | exact HB.out | apply below_alloc | apply bN_ | apply below_drew1 | refine below_set ?_ GE169.out | refine below_set ?_ GE173.out) | exact HB.out)))); have n3_ := Aside0.mk (blk_below (g := gb169) (o := .cells #[.int .i32 0, .int .i32 0, .int .u8 0] 23 (0, 0)) (by (with_reducible repeat (first | refine blk_drewN ?_ _ | refine blk_drew ?_ | refine blk_alloc ?_ _)); refine blk_far ?_ NB169_173.out _; (with_reducible repeat (first | refine blk_drewN ?_ _ | refine blk_drew ?_ | refine blk_alloc ?_ _)); refine blk_far ?_ NB169_173.out _; (with_reducible repeat (first | refine blk_drewN ?_ _ | refine blk_drew ?_ | refine blk_alloc ?_ _)); refine blk_far ?_ NB169_173.out _; (with_reducible repeat (first | refine blk_drewN ?_ _ | refine blk_drew ?_ | refine blk_alloc ?_ _)); exact BK169.out) hb); have n4_ := Aside0.mk (blk_below (g := gb173) (o := .cells #[.int .i32 0, .int .i32 0, .int .u8 0] 23 (0, 0)) (by (with_reducible repeat (first | refine blk_drewN ?_ _ | refine blk_drew ?_ | refine blk_alloc ?_ _)); refine blk_put (cs := #[.int .i32 0, .int .i32 0, .int .u8 0]) ?_ 2 _ rfl; (with_reducible repeat (first | refine blk_drewN ?_ _ | refine blk_drew ?_ | refine blk_alloc ?_ _)); refine blk_put (cs := #[.int .i32 0, .int .i32 0, .int .u8 0]) ?_ 1 _ rfl; (with_reducible repeat (first | refine blk_drewN ?_ _ | refine blk_drew ?_ | refine blk_alloc ?_ _)); refine blk_put (cs := #[.int .i32 0, .int .i32 0, .int .u8 0]) ?_ 0 _ rfl; (with_reducible repeat (first | refine blk_drewN ?_ _ | refine blk_drew ?_ | refine blk_alloc ?_ _)); exact BK173.out) hb); have n5_ := Aside0.mk (below_step (by repeat (first | (with_reducible first | exact HB.out | apply below_alloc | apply bN_ | apply below_drew1 | refine below_set ?_ GE169.out | refine below_set ?_ GE173.out) | exact HB.out)) hb); clear HO_11; clear HO172; clear BK169; clear BK173; clear HB; have HO_11 := n0_; have HO172 := n1_; have HO176 := n2_; have BK169 := n3_; have BK173 := n4_; have HB := n5_; clear n0_ n1_ n2_ n3_ n4_ n5_; clear hb ho87; obtain ⟨Ao88, co88, eo88⟩ := Kd.R_slice HO176.out; subst eo88) | ((with_reducible refine gate_callee (f := 18) rfl ?_); refine gL_ (some 138) Try.func18 #[.agg #[.int .i32 0, .int .i32 0, .int .u8 0], .slice Ao88 y174.length co88] ?_; (with_reducible refine (counts_Run.calls 2000 0 0 0 _ _ y174 0 0 0 2 _ ?side1 ?side2 A70.out).mono ?_); (case side1 => repeat (first | exact (Kd.R_reads' HO176.out).2.2 | (with_reducible refine Kd.C_alloc ?_ _) | (with_reducible refine Kd.C_drewN ?_ _) | (with_reducible refine Kd.C_drew ?_))); (case side2 => exact (Kd.R_reads' HO176.out).2.1); rintro e w89 ⟨rfl, hb⟩; refine ⟨_, rfl, ?_⟩; have n0_ := Aside0.mk (Kd.R_below (by (with_reducible repeat (first | apply Kd.R_alloc | apply Kd.R_drewN | apply Kd.R_drew)); exact HO_11.out) hb); have n1_ := Aside0.mk (Kd.R_below (by (with_reducible repeat (first | apply Kd.R_alloc | apply Kd.R_drewN | apply Kd.R_drew)); exact HO172.out) hb); have n2_ := Aside0.mk (Kd.R_below (by (with_reducible repeat (first | apply Kd.R_alloc | apply Kd.R_drewN | apply Kd.R_drew)); exact HO176.out) hb); have n3_ := Aside0.mk (blk_below (g := gb169) (o := .cells #[.int .i32 0, .int .i32 0, .int .u8 0] 23 (0, 0)) (by (with_reducible repeat (first | refine blk_drewN ?_ _ | refine blk_drew ?_ | refine blk_alloc ?_ _)); exact BK169.out) hb); have n4_ := Aside0.mk (blk_below (g := gb173) (o := .cells #[.int .i32 0, .int .i32 0, .int .u8 0] 23 (0, 0)) (by (with_reducible repeat (first | refine blk_drewN ?_ _ | refine blk_drew ?_ | refine blk_alloc ?_ _)); exact BK173.out) hb); have n5_ := Aside0.mk (below_step (by repeat (first | (with_reducible first | exact HB.out | apply below_alloc | apply bN_ | apply below_drew1 | refine below_set ?_ GE169.out | refine below_set ?_ GE173.out) | exact HB.out)) hb); clear HO_11; clear HO172; clear HO176; clear BK169; clear BK173; clear HB; have HO_11 := n0_; have HO172 := n1_; have HO176 := n2_; have BK169 := n3_; have BK173 := n4_; have HB := n5_; clear n0_ n1_ n2_ n3_ n4_ n5_; (try clear hb)) | ((with_reducible refine gate_dst (N := 19) rfl ?_); refine box_event ?hg (N := 19) ?hd (cs := #[.int .i32 0, .int .i32 0, .int .u8 0]) (t := 23) ?hr ?_; (case hd => rfl); (case hg => rfl); (case hr => first | (go_simp; done) | (go_simp; rfl)); intro gb177 hg w90 hbox hb; have n0_ := Aside0.mk (Kd.R_below (by (with_reducible repeat (first | apply Kd.R_alloc | apply Kd.R_drewN | apply Kd.R_drew)); exact HO_11.out) hb); have n1_ := Aside0.mk (Kd.R_below (by (with_reducible repeat (first | apply Kd.R_alloc | apply Kd.R_drewN | apply Kd.R_drew)); exact HO172.out) hb); have n2_ := Aside0.mk (Kd.R_below (by (with_reducible repeat (first | apply Kd.R_alloc | apply Kd.R_drewN | apply Kd.R_drew)); exact HO176.out) hb); have n3_ := Aside0.mk (blk_below (g := gb169) (o := .cells #[.int .i32 0, .int .i32 0, .int .u8 0] 23 (0, 0)) (by (with_reducible repeat (first | refine blk_drewN ?_ _ | refine blk_drew ?_ | refine blk_alloc ?_ _)); exact BK169.out) hb); have n4_ := Aside0.mk (blk_below (g := gb173) (o := .cells #[.int .i32 0, .int .i32 0, .int .u8 0] 23 (0, 0)) (by (with_reducible repeat (first | refine blk_drewN ?_ _ | refine blk_drew ?_ | refine blk_alloc ?_ _)); exact BK173.out) hb); have n5_ := Aside0.mk (below_step (by repeat (first | (with_reducible first | exact HB.out | apply below_alloc | apply bN_ | apply below_drew1 | refine below_set ?_ GE169.out | refine below_set ?_ GE173.out) | exact HB.out)) hb); have n6_ := Aside0.mk (hbox); have n7_ := Aside0.mk ((by rw [hg]; exact (below_size (by repeat (first | (with_reducible first | exact HB.out | apply below_alloc | apply bN_ | apply below_drew1 | refine below_set ?_ GE169.out | refine below_set ?_ GE173.out) | exact HB.out))) : w.heap.size ≤ gb177)); have n8_ := Aside0.mk ((by rw [hg]; exact (below_size (by repeat (first | (with_reducible first | exact HB.out | apply below_alloc | apply bN_ | apply below_drew1 | refine below_set ?_ GE169.out | refine below_set ?_ GE173.out) | exact HB.out))) : w.heap.size ≤ gb177)); have n9_ := Aside0.mk ((by rw [hg]; exact Nat.ne_of_lt (blk_lt (g := gb169) (o := .cells #[.int .i32 0, .int .i32 0, .int .u8 0] 23 (0, 0)) (by (with_reducible repeat (first | refine blk_drewN ?_ _ | refine blk_drew ?_ | refine blk_alloc ?_ _)); exact BK169.out)) : gb169 ≠ gb177)); have n10_ := Aside0.mk ((by rw [hg]; exact Nat.ne_of_gt (blk_lt (g := gb169) (o := .cells #[.int .i32 0, .int .i32 0, .int .u8 0] 23 (0, 0)) (by (with_reducible repeat (first | refine blk_drewN ?_ _ | refine blk_drew ?_ | refine blk_alloc ?_ _)); exact BK169.out)) : gb177 ≠ gb169)); have n11_ := Aside0.mk ((by rw [hg]; exact Nat.ne_of_lt (blk_lt (g := gb173) (o := .cells #[.int .i32 0, .int .i32 0, .int .u8 0] 23 (0, 0)) (by (with_reducible repeat (first | refine blk_drewN ?_ _ | refine blk_drew ?_ | refine blk_alloc ?_ _)); exact BK173.out)) : gb173 ≠ gb177)); have n12_ := Aside0.mk ((by rw [hg]; exact Nat.ne_of_gt (blk_lt (g := gb173) (o := .cells #[.int .i32 0, .int .i32 0, .int .u8 0] 23 (0, 0)) (by (with_reducible repeat (first | refine blk_drewN ?_ _ | refine blk_drew ?_ | refine blk_alloc ?_ _)); exact BK173.out)) : gb177 ≠ gb173)); clear HO_11; clear HO172; clear HO176; clear BK169; clear BK173; clear HB; have HO_11 := n0_; have HO172 := n1_; have HO176 := n2_; have BK169 := n3_; have BK173 := n4_; have HB := n5_; have BK177 := n6_; have GW177 := n7_; have GE177 := n8_; have NB169_177 := n9_; have NB177_169 := n10_; have NB173_177 := n11_; have NB177_173 := n12_; clear n0_ n1_ n2_ n3_ n4_ n5_ n6_ n7_ n8_ n9_ n10_ n11_ n12_; clear hb hbox hg; have hnb91 := NB177_169.out; have hnc91 := NB169_177.out; have hnb92 := NB177_173.out; have hnc92 := NB173_177.out; have hcz93_0 : w90.cell? ⟨gb177, 0, none⟩ = some (.int .i32 0) := (blk_cell BK177.out 0).trans rfl; have hcz93_1 : w90.cell? ⟨gb177, 1, none⟩ = some (.int .i32 0) := (blk_cell BK177.out 1).trans rfl; have hcz93_2 : w90.cell? ⟨gb177, 2, none⟩ = some (.int .u8 0) := (blk_cell BK177.out 2).trans rfl; have hfz93_0 := blk_frozen BK177.out 0; have hfz93_1 := blk_frozen BK177.out 1; have hfz93_2 := blk_frozen BK177.out 2) | ((with_reducible refine gate_dst (N := 143) rfl ?_); refine Kd.R_make (Kd.int .u8) _ 5 rfl (N := 143) rfl 38 _ _ rfl 20000 rfl rfl Try.underlying38 (.int .u8 0) 1 info5 rfl (by decide) (by omega) 0 (ok := fun _ => True) (okp := fun _ => True) rfl (fun _ hk => hk) trivial (by omega) (by omega) (Below.refl _ _) (Nat.le_refl _) ?_; intro v179 w94 ho95 hb hg_ hnew_; clear hg_ hnew_; (first | rw [← Ny178.out] at ho95 | (simp only [Int.reduceToNat] at ho95; rw [← Ny178.out] at ho95)); have n0_ := Aside0.mk (Kd.R_below (by (with_reducible repeat (first | apply Kd.R_alloc | apply Kd.R_drewN | apply Kd.R_drew)); exact (Kd.R_mono (Kd.R_far (p := ⟨gb177, 2, none⟩) (Kd.R_far (p := ⟨gb177, 1, none⟩) (Kd.R_far (p := ⟨gb177, 0, none⟩) (Kd.R_types HO_11.out BK177.out (by decide)) (fun _ hk => hk.2) (.int .i32 0)) (fun _ hk => hk.2) (.int .i32 0)) (fun _ hk => hk.2) (.int .u8 0)) (fun _ h_ => h_.1))) hb); have n1_ := Aside0.mk (Kd.R_elder' (by (with_reducible repeat (first | apply Kd.R_alloc | apply Kd.R_drewN | apply Kd.R_drew)); exact (Kd.R_mono (Kd.R_far (p := ⟨gb177, 2, none⟩) (Kd.R_far (p := ⟨gb177, 1, none⟩) (Kd.R_far (p := ⟨gb177, 0, none⟩) (Kd.R_types HO172.out BK177.out (by decide)) (fun _ hk => hk.2) (.int .i32 0)) (fun _ hk => hk.2) (.int .i32 0)) (fun _ hk => hk.2) (.int .u8 0)) (fun _ h_ => h_.1))) (Kd.R_base ho95) hb); have n2_ := Aside0.mk (Kd.R_elder' (by (with_reducible repeat (first | apply Kd.R_alloc | apply Kd.R_drewN | apply Kd.R_drew)); exact (Kd.R_mono (Kd.R_far (p := ⟨gb177, 2, none⟩) (Kd.R_far (p := ⟨gb177, 1, none⟩) (Kd.R_far (p := ⟨gb177, 0, none⟩) (Kd.R_types HO176.out BK177.out (by decide)) (fun _ hk => hk.2) (.int .i32 0)) (fun _ hk => hk.2) (.int .i32 0)) (fun _ hk => hk.2) (.int .u8 0)) (fun _ h_ => h_.1))) (Kd.R_base ho95) hb); have n3_ := Aside0.mk (Kd.R_lower (Kd.R_new' (Kd.R_new' ho95 (Kd.R_lt (by (with_reducible repeat (first | apply Kd.R_alloc | apply Kd.R_drewN | apply Kd.R_drew)); exact (Kd.R_mono (Kd.R_far (p := ⟨gb177, 2, none⟩) (Kd.R_far (p := ⟨gb177, 1, none⟩) (Kd.R_far (p := ⟨gb177, 0, none⟩) (Kd.R_types HO172.out BK177.out (by decide)) (fun _ hk => hk.2) (.int .i32 0)) (fun _ hk => hk.2) (.int .i32 0)) (fun _ hk => hk.2) (.int .u8 0)) (fun _ h_ => h_.1))))) (Kd.R_lt (by (with_reducible repeat (first | apply Kd.R_alloc | apply Kd.R_drewN | apply Kd.R_drew)); exact (Kd.R_mono (Kd.R_far (p := ⟨gb177, 2, none⟩) (Kd.R_far (p := ⟨gb177, 1, none⟩) (Kd.R_far (p := ⟨gb177, 0, none⟩) (Kd.R_types HO176.out BK177.out (by decide)) (fun _ hk => hk.2) (.int .i32 0)) (fun _ hk => hk.2) (.int .i32 0)) (fun _ hk => hk.2) (.int .u8 0)) (fun _ h_ => h_.1))))) (below_size (by repeat (first | (with_reducible first | exact HB.out | apply below_alloc | apply bN_ | apply below_drew1 | refine below_set ?_ GE169.out | refine below_set ?_ GE173.out | refine below_set ?_ GE177.out) | exact HB.out)))); have n4_ := Aside0.mk (blk_below (g := gb169) (o := .cells #[.int .i32 0, .int .i32 0, .int .u8 0] 23 (0, 0)) (by (with_reducible repeat (first | refine blk_drewN ?_ _ | refine blk_drew ?_ | refine blk_alloc ?_ _)); refine blk_far ?_ NB169_177.out _; (with_reducible repeat (first | refine blk_drewN ?_ _ | refine blk_drew ?_ | refine blk_alloc ?_ _)); refine blk_far ?_ NB169_177.out _; (with_reducible repeat (first | refine blk_drewN ?_ _ | refine blk_drew ?_ | refine blk_alloc ?_ _)); refine blk_far ?_ NB169_177.out _; (with_reducible repeat (first | refine blk_drewN ?_ _ | refine blk_drew ?_ | refine blk_alloc ?_ _)); exact BK169.out) hb); have n5_ := Aside0.mk (blk_below (g := gb173) (o := .cells #[.int .i32 0, .int .i32 0, .int .u8 0] 23 (0, 0)) (by (with_reducible repeat (first | refine blk_drewN ?_ _ | refine blk_drew ?_ | refine blk_alloc ?_ _)); refine blk_far ?_ NB173_177.out _; (with_reducible repeat (first | refine blk_drewN ?_ _ | refine blk_drew ?_ | refine blk_alloc ?_ _)); refine blk_far ?_ NB173_177.out _; (with_reducible repeat (first | refine blk_drewN ?_ _ | refine blk_drew ?_ | refine blk_alloc ?_ _)); refine blk_far ?_ NB173_177.out _; (with_reducible repeat (first | refine blk_drewN ?_ _ | refine blk_drew ?_ | refine blk_alloc ?_ _)); exact BK173.out) hb); have n6_ := Aside0.mk (blk_below (g := gb177) (o := .cells #[.int .i32 0, .int .i32 0, .int .u8 0] 23 (0, 0)) (by (with_reducible repeat (first | refine blk_drewN ?_ _ | refine blk_drew ?_ | refine blk_alloc ?_ _)); refine blk_put (cs := #[.int .i32 0, .int .i32 0, .int .u8 0]) ?_ 2 _ rfl; (with_reducible repeat (first | refine blk_drewN ?_ _ | refine blk_drew ?_ | refine blk_alloc ?_ _)); refine blk_put (cs := #[.int .i32 0, .int .i32 0, .int .u8 0]) ?_ 1 _ rfl; (with_reducible repeat (first | refine blk_drewN ?_ _ | refine blk_drew ?_ | refine blk_alloc ?_ _)); refine blk_put (cs := #[.int .i32 0, .int .i32 0, .int .u8 0]) ?_ 0 _ rfl; (with_reducible repeat (first | refine blk_drewN ?_ _ | refine blk_drew ?_ | refine blk_alloc ?_ _)); exact BK177.out) hb); have n7_ := Aside0.mk (below_step (by repeat (first | (with_reducible first | exact HB.out | apply below_alloc | apply bN_ | apply below_drew1 | refine below_set ?_ GE169.out | refine below_set ?_ GE173.out | refine below_set ?_ GE177.out) | exact HB.out)) hb); clear HO_11; clear HO172; clear HO176; clear BK169; clear BK173; clear BK177; clear HB; have HO_11 := n0_; have HO172 := n1_; have HO176 := n2_; have HO180 := n3_; have BK169 := n4_; have BK173 := n5_; have BK177 := n6_; have HB := n7_; clear n0_ n1_ n2_ n3_ n4_ n5_ n6_ n7_; clear hb ho95; obtain ⟨Ao96, co96, eo96⟩ := Kd.R_slice HO180.out; subst eo96) | ((with_reducible refine gate_callee (f := 18) rfl ?_); refine gL_ (some 144) Try.func18 #[.agg #[.int .i32 0, .int .i32 0, .int .u8 0], .slice Ao96 y178.length co96] ?_; (with_reducible refine (counts_Run.calls k2 0 0 0 _ _ y178 t181 t182 t183 t184 _ ?side1 ?side2 A71.out).mono ?_); (case side1 => repeat (first | exact (Kd.R_reads' HO180.out).2.2 | (with_reducible refine Kd.C_alloc ?_ _) | (with_reducible refine Kd.C_drewN ?_ _) | (with_reducible refine Kd.C_drew ?_))); (case side2 => exact (Kd.R_reads' HO180.out).2.1); rintro e w97 ⟨rfl, hb⟩; refine ⟨_, rfl, ?_⟩; have n0_ := Aside0.mk (Kd.R_below (by (with_reducible repeat (first | apply Kd.R_alloc | apply Kd.R_drewN | apply Kd.R_drew)); exact HO_11.out) hb); have n1_ := Aside0.mk (Kd.R_below (by (with_reducible repeat (first | apply Kd.R_alloc | apply Kd.R_drewN | apply Kd.R_drew)); exact HO172.out) hb); have n2_ := Aside0.mk (Kd.R_below (by (with_reducible repeat (first | apply Kd.R_alloc | apply Kd.R_drewN | apply Kd.R_drew)); exact HO176.out) hb); have n3_ := Aside0.mk (Kd.R_below (by (with_reducible repeat (first | apply Kd.R_alloc | apply Kd.R_drewN | apply Kd.R_drew)); exact HO180.out) hb); have n4_ := Aside0.mk (blk_below (g := gb169) (o := .cells #[.int .i32 0, .int .i32 0, .int .u8 0] 23 (0, 0)) (by (with_reducible repeat (first | refine blk_drewN ?_ _ | refine blk_drew ?_ | refine blk_alloc ?_ _)); exact BK169.out) hb); have n5_ := Aside0.mk (blk_below (g := gb173) (o := .cells #[.int .i32 0, .int .i32 0, .int .u8 0] 23 (0, 0)) (by (with_reducible repeat (first | refine blk_drewN ?_ _ | refine blk_drew ?_ | refine blk_alloc ?_ _)); exact BK173.out) hb); have n6_ := Aside0.mk (blk_below (g := gb177) (o := .cells #[.int .i32 0, .int .i32 0, .int .u8 0] 23 (0, 0)) (by (with_reducible repeat (first | refine blk_drewN ?_ _ | refine blk_drew ?_ | refine blk_alloc ?_ _)); exact BK177.out) hb); have n7_ := Aside0.mk (below_step (by repeat (first | (with_reducible first | exact HB.out | apply below_alloc | apply bN_ | apply below_drew1 | refine below_set ?_ GE169.out | refine below_set ?_ GE173.out | refine below_set ?_ GE177.out) | exact HB.out)) hb); clear HO_11; clear HO172; clear HO176; clear HO180; clear BK169; clear BK173; clear BK177; clear HB; have HO_11 := n0_; have HO172 := n1_; have HO176 := n2_; have HO180 := n3_; have BK169 := n4_; have BK173 := n5_; have BK177 := n6_; have HB := n7_; clear n0_ n1_ n2_ n3_ n4_ n5_ n6_ n7_; (try clear hb)) | ((with_reducible refine gate_dst (N := 21) rfl ?_); refine box_event ?hg (N := 21) ?hd (cs := #[.int .i32 0, .int .i32 0, .int .u8 0]) (t := 23) ?hr ?_; (case hd => rfl); (case hg => rfl); (case hr => first | (go_simp; done) | (go_simp; rfl)); intro gb185 hg w98 hbox hb; have n0_ := Aside0.mk (Kd.R_below (by (with_reducible repeat (first | apply Kd.R_alloc | apply Kd.R_drewN | apply Kd.R_drew)); exact HO_11.out) hb); have n1_ := Aside0.mk (Kd.R_below (by (with_reducible repeat (first | apply Kd.R_alloc | apply Kd.R_drewN | apply Kd.R_drew)); exact HO172.out) hb); have n2_ := Aside0.mk (Kd.R_below (by (with_reducible repeat (first | apply Kd.R_alloc | apply Kd.R_drewN | apply Kd.R_drew)); exact HO176.out) hb); have n3_ := Aside0.mk (Kd.R_below (by (with_reducible repeat (first | apply Kd.R_alloc | apply Kd.R_drewN | apply Kd.R_drew)); exact HO180.out) hb); have n4_ := Aside0.mk (blk_below (g := gb169) (o := .cells #[.int .i32 0, .int .i32 0, .int .u8 0] 23 (0, 0)) (by (with_reducible repeat (first | refine blk_drewN ?_ _ | refine blk_drew ?_ | refine blk_alloc ?_ _)); exact BK169.out) hb); have n5_ := Aside0.mk (blk_below (g := gb173) (o := .cells #[.int .i32 0, .int .i32 0, .int .u8 0] 23 (0, 0)) (by (with_reducible repeat (first | refine blk_drewN ?_ _ | refine blk_drew ?_ | refine blk_alloc ?_ _)); exact BK173.out) hb); have n6_ := Aside0.mk (blk_below (g := gb177) (o := .cells #[.int .i32 0, .int .i32 0, .int .u8 0] 23 (0, 0)) (by (with_reducible repeat (first | refine blk_drewN ?_ _ | refine blk_drew ?_ | refine blk_alloc ?_ _)); exact BK177.out) hb); have n7_ := Aside0.mk (below_step (by repeat (first | (with_reducible first | exact HB.out | apply below_alloc | apply bN_ | apply below_drew1 | refine below_set ?_ GE169.out | refine below_set ?_ GE173.out | refine below_set ?_ GE177.out) | exact HB.out)) hb); have n8_ := Aside0.mk (hbox); have n9_ := Aside0.mk ((by rw [hg]; exact (below_size (by repeat (first | (with_reducible first | exact HB.out | apply below_alloc | apply bN_ | apply below_drew1 | refine below_set ?_ GE169.out | refine below_set ?_ GE173.out | refine below_set ?_ GE177.out) | exact HB.out))) : w.heap.size ≤ gb185)); have n10_ := Aside0.mk ((by rw [hg]; exact (below_size (by repeat (first | (with_reducible first | exact HB.out | apply below_alloc | apply bN_ | apply below_drew1 | refine below_set ?_ GE169.out | refine below_set ?_ GE173.out | refine below_set ?_ GE177.out) | exact HB.out))) : w.heap.size ≤ gb185)); have n11_ := Aside0.mk ((by rw [hg]; exact Nat.ne_of_lt (blk_lt (g := gb169) (o := .cells #[.int .i32 0, .int .i32 0, .int .u8 0] 23 (0, 0)) (by (with_reducible repeat (first | refine blk_drewN ?_ _ | refine blk_drew ?_ | refine blk_alloc ?_ _)); exact BK169.out)) : gb169 ≠ gb185)); have n12_ := Aside0.mk ((by rw [hg]; exact Nat.ne_of_gt (blk_lt (g := gb169) (o := .cells #[.int .i32 0, .int .i32 0, .int .u8 0] 23 (0, 0)) (by (with_reducible repeat (first | refine blk_drewN ?_ _ | refine blk_drew ?_ | refine blk_alloc ?_ _)); exact BK169.out)) : gb185 ≠ gb169)); have n13_ := Aside0.mk ((by rw [hg]; exact Nat.ne_of_lt (blk_lt (g := gb173) (o := .cells #[.int .i32 0, .int .i32 0, .int .u8 0] 23 (0, 0)) (by (with_reducible repeat (first | refine blk_drewN ?_ _ | refine blk_drew ?_ | refine blk_alloc ?_ _)); exact BK173.out)) : gb173 ≠ gb185)); have n14_ := Aside0.mk ((by rw [hg]; exact Nat.ne_of_gt (blk_lt (g := gb173) (o := .cells #[.int .i32 0, .int .i32 0, .int .u8 0] 23 (0, 0)) (by (with_reducible repeat (first | refine blk_drewN ?_ _ | refine blk_drew ?_ | refine blk_alloc ?_ _)); exact BK173.out)) : gb185 ≠ gb173)); have n15_ := Aside0.mk ((by rw [hg]; exact Nat.ne_of_lt (blk_lt (g := gb177) (o := .cells #[.int .i32 0, .int .i32 0, .int .u8 0] 23 (0, 0)) (by (with_reducible repeat (first | refine blk_drewN ?_ _ | refine blk_drew ?_ | refine blk_alloc ?_ _)); exact BK177.out)) : gb177 ≠ gb185)); have n16_ := Aside0.mk ((by rw [hg]; exact Nat.ne_of_gt (blk_lt (g := gb177) (o := .cells #[.int .i32 0, .int .i32 0, .int .u8 0] 23 (0, 0)) (by (with_reducible repeat (first | refine blk_drewN ?_ _ | refine blk_drew ?_ | refine blk_alloc ?_ _)); exact BK177.out)) : gb185 ≠ gb177)); clear HO_11; clear HO172; clear HO176; clear HO180; clear BK169; clear BK173; clear BK177; clear HB; have HO_11 := n0_; have HO172 := n1_; have HO176 := n2_; have HO180 := n3_; have BK169 := n4_; have BK173 := n5_; have BK177 := n6_; have HB := n7_; have BK185 := n8_; have GW185 := n9_; have GE185 := n10_; have NB169_185 := n11_; have NB185_169 := n12_; have NB173_185 := n13_; have NB185_173 := n14_; have NB177_185 := n15_; have NB185_177 := n16_; clear n0_ n1_ n2_ n3_ n4_ n5_ n6_ n7_ n8_ n9_ n10_ n11_ n12_ n13_ n14_ n15_ n16_; clear hb hbox hg; have hnb99 := NB185_169.out; have hnc99 := NB169_185.out; have hnb100 := NB185_173.out; have hnc100 := NB173_185.out; have hnb101 := NB185_177.out; have hnc101 := NB177_185.out; have hcz102_0 : w98.cell? ⟨gb185, 0, none⟩ = some (.int .i32 0) := (blk_cell BK185.out 0).trans rfl; have hcz102_1 : w98.cell? ⟨gb185, 1, none⟩ = some (.int .i32 0) := (blk_cell BK185.out 1).trans rfl; have hcz102_2 : w98.cell? ⟨gb185, 2, none⟩ = some (.int .u8 0) := (blk_cell BK185.out 2).trans rfl; have hfz102_0 := blk_frozen BK185.out 0; have hfz102_1 := blk_frozen BK185.out 1; have hfz102_2 := blk_frozen BK185.out 2) | ((with_reducible refine gate_callee (f := 14) rfl ?_); refine gL_ (some 149) Try.func14 #[.agg #[.int .i32 0, .int .i32 0, .int .u8 0]] ?_; (with_reducible refine (counts_Turn.calls 0 0 0 0 0 0 0 _ A72.out).mono ?_); rintro e w103 ⟨rfl, hb⟩; refine ⟨_, rfl, ?_⟩; have n0_ := Aside0.mk (Kd.R_below (by (with_reducible repeat (first | apply Kd.R_alloc | apply Kd.R_drewN | apply Kd.R_drew)); exact (Kd.R_mono (Kd.R_far (p := ⟨gb185, 2, none⟩) (Kd.R_far (p := ⟨gb185, 1, none⟩) (Kd.R_far (p := ⟨gb185, 0, none⟩) (Kd.R_types HO_11.out BK185.out (by decide)) (fun _ hk => hk.2) (.int .i32 t181)) (fun _ hk => hk.2) (.int .i32 t182)) (fun _ hk => hk.2) (.int .u8 t183)) (fun _ h_ => h_.1))) hb); have n1_ := Aside0.mk (Kd.R_below (by (with_reducible repeat (first | apply Kd.R_alloc | apply Kd.R_drewN | apply Kd.R_drew)); exact (Kd.R_mono (Kd.R_far (p := ⟨gb185, 2, none⟩) (Kd.R_far (p := ⟨gb185, 1, none⟩) (Kd.R_far (p := ⟨gb185, 0, none⟩) (Kd.R_types HO172.out BK185.out (by decide)) (fun _ hk => hk.2) (.int .i32 t181)) (fun _ hk => hk.2) (.int .i32 t182)) (fun _ hk => hk.2) (.int .u8 t183)) (fun _ h_ => h_.1))) hb); have n2_ := Aside0.mk (Kd.R_below (by (with_reducible repeat (first | apply Kd.R_alloc | apply Kd.R_drewN | apply Kd.R_drew)); exact (Kd.R_mono (Kd.R_far (p := ⟨gb185, 2, none⟩) (Kd.R_far (p := ⟨gb185, 1, none⟩) (Kd.R_far (p := ⟨gb185, 0, none⟩) (Kd.R_types HO176.out BK185.out (by decide)) (fun _ hk => hk.2) (.int .i32 t181)) (fun _ hk => hk.2) (.int .i32 t182)) (fun _ hk => hk.2) (.int .u8 t183)) (fun _ h_ => h_.1))) hb); have n3_ := Aside0.mk (Kd.R_below (by (with_reducible repeat (first | apply Kd.R_alloc | apply Kd.R_drewN | apply Kd.R_drew)); exact (Kd.R_mono (Kd.R_far (p := ⟨gb185, 2, none⟩) (Kd.R_far (p := ⟨gb185, 1, none⟩) (Kd.R_far (p := ⟨gb185, 0, none⟩) (Kd.R_types HO180.out BK185.out (by decide)) (fun _ hk => hk.2) (.int .i32 t181)) (fun _ hk => hk.2) (.int .i32 t182)) (fun _ hk => hk.2) (.int .u8 t183)) (fun _ h_ => h_.1))) hb); have n4_ := Aside0.mk (blk_below (g := gb169) (o := .cells #[.int .i32 0, .int .i32 0, .int .u8 0] 23 (0, 0)) (by (with_reducible repeat (first | refine blk_drewN ?_ _ | refine blk_drew ?_ | refine blk_alloc ?_ _)); refine blk_far ?_ NB169_185.out _; (with_reducible repeat (first | refine blk_drewN ?_ _ | refine blk_drew ?_ | refine blk_alloc ?_ _)); refine blk_far ?_ NB169_185.out _; (with_reducible repeat (first | refine blk_drewN ?_ _ | refine blk_drew ?_ | refine blk_alloc ?_ _)); refine blk_far ?_ NB169_185.out _; (with_reducible repeat (first | refine blk_drewN ?_ _ | refine blk_drew ?_ | refine blk_alloc ?_ _)); exact BK169.out) hb); have n5_ := Aside0.mk (blk_below (g := gb173) (o := .cells #[.int .i32 0, .int .i32 0, .int .u8 0] 23 (0, 0)) (by (with_reducible repeat (first | refine blk_drewN ?_ _ | refine blk_drew ?_ | refine blk_alloc ?_ _)); refine blk_far ?_ NB173_185.out _; (with_reducible repeat (first | refine blk_drewN ?_ _ | refine blk_drew ?_ | refine blk_alloc ?_ _)); refine blk_far ?_ NB173_185.out _; (with_reducible repeat (first | refine blk_drewN ?_ _ | refine blk_drew ?_ | refine blk_alloc ?_ _)); refine blk_far ?_ NB173_185.out _; (with_reducible repeat (first | refine blk_drewN ?_ _ | refine blk_drew ?_ | refine blk_alloc ?_ _)); exact BK173.out) hb); have n6_ := Aside0.mk (blk_below (g := gb177) (o := .cells #[.int .i32 0, .int .i32 0, .int .u8 0] 23 (0, 0)) (by (with_reducible repeat (first | refine blk_drewN ?_ _ | refine blk_drew ?_ | refine blk_alloc ?_ _)); refine blk_far ?_ NB177_185.out _; (with_reducible repeat (first | refine blk_drewN ?_ _ | refine blk_drew ?_ | refine blk_alloc ?_ _)); refine blk_far ?_ NB177_185.out _; (with_reducible repeat (first | refine blk_drewN ?_ _ | refine blk_drew ?_ | refine blk_alloc ?_ _)); refine blk_far ?_ NB177_185.out _; (with_reducible repeat (first | refine blk_drewN ?_ _ | refine blk_drew ?_ | refine blk_alloc ?_ _)); exact BK177.out) hb); have n7_ := Aside0.mk (blk_below (g := gb185) (o := .cells #[.int .i32 t181, .int .i32 t182, .int .u8 t183] 23 (0, 0)) (by (with_reducible repeat (first | refine blk_drewN ?_ _ | refine blk_drew ?_ | refine blk_alloc ?_ _)); refine blk_put (cs := #[.int .i32 t181, .int .i32 t182, .int .u8 0]) ?_ 2 _ rfl; (with_reducible repeat (first | refine blk_drewN ?_ _ | refine blk_drew ?_ | refine blk_alloc ?_ _)); refine blk_put (cs := #[.int .i32 t181, .int .i32 0, .int .u8 0]) ?_ 1 _ rfl; (with_reducible repeat (first | refine blk_drewN ?_ _ | refine blk_drew ?_ | refine blk_alloc ?_ _)); refine blk_put (cs := #[.int .i32 0, .int .i32 0, .int .u8 0]) ?_ 0 _ rfl; (with_reducible repeat (first | refine blk_drewN ?_ _ | refine blk_drew ?_ | refine blk_alloc ?_ _)); exact BK185.out) hb); have n8_ := Aside0.mk (below_step (by repeat (first | (with_reducible first | exact HB.out | apply below_alloc | apply bN_ | apply below_drew1 | refine below_set ?_ GE169.out | refine below_set ?_ GE173.out | refine below_set ?_ GE177.out | refine below_set ?_ GE185.out) | exact HB.out)) hb); clear HO_11; clear HO172; clear HO176; clear HO180; clear BK169; clear BK173; clear BK177; clear BK185; clear HB; have HO_11 := n0_; have HO172 := n1_; have HO176 := n2_; have HO180 := n3_; have BK169 := n4_; have BK173 := n5_; have BK177 := n6_; have BK185 := n7_; have HB := n8_; clear n0_ n1_ n2_ n3_ n4_ n5_ n6_ n7_ n8_; (try clear hb)) | ((with_reducible refine gate_dst (N := 23) rfl ?_); refine box_event ?hg (N := 23) ?hd (cs := #[.int .i32 0, .int .i32 0, .int .u8 0]) (t := 23) ?hr ?_; (case hd => rfl); (case hg => rfl); (case hr => first | (go_simp; done) | (go_simp; rfl)); intro gb186 hg w104 hbox hb; have n0_ := Aside0.mk (Kd.R_below (by (with_reducible repeat (first | apply Kd.R_alloc | apply Kd.R_drewN | apply Kd.R_drew)); exact HO_11.out) hb); have n1_ := Aside0.mk (Kd.R_below (by (with_reducible repeat (first | apply Kd.R_alloc | apply Kd.R_drewN | apply Kd.R_drew)); exact HO172.out) hb); have n2_ := Aside0.mk (Kd.R_below (by (with_reducible repeat (first | apply Kd.R_alloc | apply Kd.R_drewN | apply Kd.R_drew)); exact HO176.out) hb); have n3_ := Aside0.mk (Kd.R_below (by (with_reducible repeat (first | apply Kd.R_alloc | apply Kd.R_drewN | apply Kd.R_drew)); exact HO180.out) hb); have n4_ := Aside0.mk (blk_below (g := gb169) (o := .cells #[.int .i32 0, .int .i32 0, .int .u8 0] 23 (0, 0)) (by (with_reducible repeat (first | refine blk_drewN ?_ _ | refine blk_drew ?_ | refine blk_alloc ?_ _)); exact BK169.out) hb); have n5_ := Aside0.mk (blk_below (g := gb173) (o := .cells #[.int .i32 0, .int .i32 0, .int .u8 0] 23 (0, 0)) (by (with_reducible repeat (first | refine blk_drewN ?_ _ | refine blk_drew ?_ | refine blk_alloc ?_ _)); exact BK173.out) hb); have n6_ := Aside0.mk (blk_below (g := gb177) (o := .cells #[.int .i32 0, .int .i32 0, .int .u8 0] 23 (0, 0)) (by (with_reducible repeat (first | refine blk_drewN ?_ _ | refine blk_drew ?_ | refine blk_alloc ?_ _)); exact BK177.out) hb); have n7_ := Aside0.mk (blk_below (g := gb185) (o := .cells #[.int .i32 t181, .int .i32 t182, .int .u8 t183] 23 (0, 0)) (by (with_reducible repeat (first | refine blk_drewN ?_ _ | refine blk_drew ?_ | refine blk_alloc ?_ _)); exact BK185.out) hb); have n8_ := Aside0.mk (below_step (by repeat (first | (with_reducible first | exact HB.out | apply below_alloc | apply bN_ | apply below_drew1 | refine below_set ?_ GE169.out | refine below_set ?_ GE173.out | refine below_set ?_ GE177.out | refine below_set ?_ GE185.out) | exact HB.out)) hb); have n9_ := Aside0.mk (hbox); have n10_ := Aside0.mk ((by rw [hg]; exact (below_size (by repeat (first | (with_reducible first | exact HB.out | apply below_alloc | apply bN_ | apply below_drew1 | refine below_set ?_ GE169.out | refine below_set ?_ GE173.out | refine below_set ?_ GE177.out | refine below_set ?_ GE185.out) | exact HB.out))) : w.heap.size ≤ gb186)); have n11_ := Aside0.mk ((by rw [hg]; exact (below_size (by repeat (first | (with_reducible first | exact HB.out | apply below_alloc | apply bN_ | apply below_drew1 | refine below_set ?_ GE169.out | refine below_set ?_ GE173.out | refine below_set ?_ GE177.out | refine below_set ?_ GE185.out) | exact HB.out))) : w.heap.size ≤ gb186)); have n12_ := Aside0.mk ((by rw [hg]; exact Nat.ne_of_lt (blk_lt (g := gb169) (o := .cells #[.int .i32 0, .int .i32 0, .int .u8 0] 23 (0, 0)) (by (with_reducible repeat (first | refine blk_drewN ?_ _ | refine blk_drew ?_ | refine blk_alloc ?_ _)); exact BK169.out)) : gb169 ≠ gb186)); have n13_ := Aside0.mk ((by rw [hg]; exact Nat.ne_of_gt (blk_lt (g := gb169) (o := .cells #[.int .i32 0, .int .i32 0, .int .u8 0] 23 (0, 0)) (by (with_reducible repeat (first | refine blk_drewN ?_ _ | refine blk_drew ?_ | refine blk_alloc ?_ _)); exact BK169.out)) : gb186 ≠ gb169)); have n14_ := Aside0.mk ((by rw [hg]; exact Nat.ne_of_lt (blk_lt (g := gb173) (o := .cells #[.int .i32 0, .int .i32 0, .int .u8 0] 23 (0, 0)) (by (with_reducible repeat (first | refine blk_drewN ?_ _ | refine blk_drew ?_ | refine blk_alloc ?_ _)); exact BK173.out)) : gb173 ≠ gb186)); have n15_ := Aside0.mk ((by rw [hg]; exact Nat.ne_of_gt (blk_lt (g := gb173) (o := .cells #[.int .i32 0, .int .i32 0, .int .u8 0] 23 (0, 0)) (by (with_reducible repeat (first | refine blk_drewN ?_ _ | refine blk_drew ?_ | refine blk_alloc ?_ _)); exact BK173.out)) : gb186 ≠ gb173)); have n16_ := Aside0.mk ((by rw [hg]; exact Nat.ne_of_lt (blk_lt (g := gb177) (o := .cells #[.int .i32 0, .int .i32 0, .int .u8 0] 23 (0, 0)) (by (with_reducible repeat (first | refine blk_drewN ?_ _ | refine blk_drew ?_ | refine blk_alloc ?_ _)); exact BK177.out)) : gb177 ≠ gb186)); have n17_ := Aside0.mk ((by rw [hg]; exact Nat.ne_of_gt (blk_lt (g := gb177) (o := .cells #[.int .i32 0, .int .i32 0, .int .u8 0] 23 (0, 0)) (by (with_reducible repeat (first | refine blk_drewN ?_ _ | refine blk_drew ?_ | refine blk_alloc ?_ _)); exact BK177.out)) : gb186 ≠ gb177)); have n18_ := Aside0.mk ((by rw [hg]; exact Nat.ne_of_lt (blk_lt (g := gb185) (o := .cells #[.int .i32 t181, .int .i32 t182, .int .u8 t183] 23 (0, 0)) (by (with_reducible repeat (first | refine blk_drewN ?_ _ | refine blk_drew ?_ | refine blk_alloc ?_ _)); exact BK185.out)) : gb185 ≠ gb186)); have n19_ := Aside0.mk ((by rw [hg]; exact Nat.ne_of_gt (blk_lt (g := gb185) (o := .cells #[.int .i32 t181, .int .i32 t182, .int .u8 t183] 23 (0, 0)) (by (with_reducible repeat (first | refine blk_drewN ?_ _ | refine blk_drew ?_ | refine blk_alloc ?_ _)); exact BK185.out)) : gb186 ≠ gb185)); clear HO_11; clear HO172; clear HO176; clear HO180; clear BK169; clear BK173; clear BK177; clear BK185; clear HB; have HO_11 := n0_; have HO172 := n1_; have HO176 := n2_; have HO180 := n3_; have BK169 := n4_; have BK173 := n5_; have BK177 := n6_; have BK185 := n7_; have HB := n8_; have BK186 := n9_; have GW186 := n10_; have GE186 := n11_; have NB169_186 := n12_; have NB186_169 := n13_; have NB173_186 := n14_; have NB186_173 := n15_; have NB177_186 := n16_; have NB186_177 := n17_; have NB185_186 := n18_; have NB186_185 := n19_; clear n0_ n1_ n2_ n3_ n4_ n5_ n6_ n7_ n8_ n9_ n10_ n11_ n12_ n13_ n14_ n15_ n16_ n17_ n18_ n19_; clear hb hbox hg; have hnb105 := NB186_169.out; have hnc105 := NB169_186.out; have hnb106 := NB186_173.out; have hnc106 := NB173_186.out; have hnb107 := NB186_177.out; have hnc107 := NB177_186.out; have hnb108 := NB186_185.out; have hnc108 := NB185_186.out; have hcz109_0 : w104.cell? ⟨gb186, 0, none⟩ = some (.int .i32 0) := (blk_cell BK186.out 0).trans rfl; have hcz109_1 : w104.cell? ⟨gb186, 1, none⟩ = some (.int .i32 0) := (blk_cell BK186.out 1).trans rfl; have hcz109_2 : w104.cell? ⟨gb186, 2, none⟩ = some (.int .u8 0) := (blk_cell BK186.out 2).trans rfl; have hfz109_0 := blk_frozen BK186.out 0; have hfz109_1 := blk_frozen BK186.out 1; have hfz109_2 := blk_frozen BK186.out 2) | ((with_reducible refine gate_callee (f := 18) rfl ?_); refine gL_ (some 154) Try.func18 #[.agg #[.int .i32 3, .int .i32 7, .int .u8 0], .slice none 0 0] ?_; (refine (counts_Run.calls 2000 3 7 0 _ _ ([] : List Int) 3 7 0 0 _ ?side1 ?side2 A73.out).mono ?_); (case side1 => exact Kd.C_nil _ _); (case side2 => exact Nat.le_refl _); rintro e w110 ⟨rfl, hb⟩; refine ⟨_, rfl, ?_⟩; have n0_ := Aside0.mk (Kd.R_below (by (with_reducible repeat (first | apply Kd.R_alloc | apply Kd.R_drewN | apply Kd.R_drew)); exact (Kd.R_mono (Kd.R_far (p := ⟨gb186, 2, none⟩) (Kd.R_far (p := ⟨gb186, 1, none⟩) (Kd.R_far (p := ⟨gb186, 0, none⟩) (Kd.R_types HO_11.out BK186.out (by decide)) (fun _ hk => hk.2) (.int .i32 0)) (fun _ hk => hk.2) (.int .i32 0)) (fun _ hk => hk.2) (.int .u8 0)) (fun _ h_ => h_.1))) hb); have n1_ := Aside0.mk (Kd.R_below (by (with_reducible repeat (first | apply Kd.R_alloc | apply Kd.R_drewN | apply Kd.R_drew)); exact (Kd.R_mono (Kd.R_far (p := ⟨gb186, 2, none⟩) (Kd.R_far (p := ⟨gb186, 1, none⟩) (Kd.R_far (p := ⟨gb186, 0, none⟩) (Kd.R_types HO172.out BK186.out (by decide)) (fun _ hk => hk.2) (.int .i32 0)) (fun _ hk => hk.2) (.int .i32 0)) (fun _ hk => hk.2) (.int .u8 0)) (fun _ h_ => h_.1))) hb); have n2_ := Aside0.mk (Kd.R_below (by (with_reducible repeat (first | apply Kd.R_alloc | apply Kd.R_drewN | apply Kd.R_drew)); exact (Kd.R_mono (Kd.R_far (p := ⟨gb186, 2, none⟩) (Kd.R_far (p := ⟨gb186, 1, none⟩) (Kd.R_far (p := ⟨gb186, 0, none⟩) (Kd.R_types HO176.out BK186.out (by decide)) (fun _ hk => hk.2) (.int .i32 0)) (fun _ hk => hk.2) (.int .i32 0)) (fun _ hk => hk.2) (.int .u8 0)) (fun _ h_ => h_.1))) hb); have n3_ := Aside0.mk (Kd.R_below (by (with_reducible repeat (first | apply Kd.R_alloc | apply Kd.R_drewN | apply Kd.R_drew)); exact (Kd.R_mono (Kd.R_far (p := ⟨gb186, 2, none⟩) (Kd.R_far (p := ⟨gb186, 1, none⟩) (Kd.R_far (p := ⟨gb186, 0, none⟩) (Kd.R_types HO180.out BK186.out (by decide)) (fun _ hk => hk.2) (.int .i32 0)) (fun _ hk => hk.2) (.int .i32 0)) (fun _ hk => hk.2) (.int .u8 0)) (fun _ h_ => h_.1))) hb); have n4_ := Aside0.mk (blk_below (g := gb169) (o := .cells #[.int .i32 0, .int .i32 0, .int .u8 0] 23 (0, 0)) (by (with_reducible repeat (first | refine blk_drewN ?_ _ | refine blk_drew ?_ | refine blk_alloc ?_ _)); refine blk_far ?_ NB169_186.out _; (with_reducible repeat (first | refine blk_drewN ?_ _ | refine blk_drew ?_ | refine blk_alloc ?_ _)); refine blk_far ?_ NB169_186.out _; (with_reducible repeat (first | refine blk_drewN ?_ _ | refine blk_drew ?_ | refine blk_alloc ?_ _)); refine blk_far ?_ NB169_186.out _; (with_reducible repeat (first | refine blk_drewN ?_ _ | refine blk_drew ?_ | refine blk_alloc ?_ _)); exact BK169.out) hb); have n5_ := Aside0.mk (blk_below (g := gb173) (o := .cells #[.int .i32 0, .int .i32 0, .int .u8 0] 23 (0, 0)) (by (with_reducible repeat (first | refine blk_drewN ?_ _ | refine blk_drew ?_ | refine blk_alloc ?_ _)); refine blk_far ?_ NB173_186.out _; (with_reducible repeat (first | refine blk_drewN ?_ _ | refine blk_drew ?_ | refine blk_alloc ?_ _)); refine blk_far ?_ NB173_186.out _; (with_reducible repeat (first | refine blk_drewN ?_ _ | refine blk_drew ?_ | refine blk_alloc ?_ _)); refine blk_far ?_ NB173_186.out _; (with_reducible repeat (first | refine blk_drewN ?_ _ | refine blk_drew ?_ | refine blk_alloc ?_ _)); exact BK173.out) hb); have n6_ := Aside0.mk (blk_below (g := gb177) (o := .cells #[.int .i32 0, .int .i32 0, .int .u8 0] 23 (0, 0)) (by (with_reducible repeat (first | refine blk_drewN ?_ _ | refine blk_drew ?_ | refine blk_alloc ?_ _)); refine blk_far ?_ NB177_186.out _; (with_reducible repeat (first | refine blk_drewN ?_ _ | refine blk_drew ?_ | refine blk_alloc ?_ _)); refine blk_far ?_ NB177_186.out _; (with_reducible repeat (first | refine blk_drewN ?_ _ | refine blk_drew ?_ | refine blk_alloc ?_ _)); refine blk_far ?_ NB177_186.out _; (with_reducible repeat (first | refine blk_drewN ?_ _ | refine blk_drew ?_ | refine blk_alloc ?_ _)); exact BK177.out) hb); have n7_ := Aside0.mk (blk_below (g := gb185) (o := .cells #[.int .i32 t181, .int .i32 t182, .int .u8 t183] 23 (0, 0)) (by (with_reducible repeat (first | refine blk_drewN ?_ _ | refine blk_drew ?_ | refine blk_alloc ?_ _)); refine blk_far ?_ NB185_186.out _; (with_reducible repeat (first | refine blk_drewN ?_ _ | refine blk_drew ?_ | refine blk_alloc ?_ _)); refine blk_far ?_ NB185_186.out _; (with_reducible repeat (first | refine blk_drewN ?_ _ | refine blk_drew ?_ | refine blk_alloc ?_ _)); refine blk_far ?_ NB185_186.out _; (with_reducible repeat (first | refine blk_drewN ?_ _ | refine blk_drew ?_ | refine blk_alloc ?_ _)); exact BK185.out) hb); have n8_ := Aside0.mk (blk_below (g := gb186) (o := .cells #[.int .i32 0, .int .i32 0, .int .u8 0] 23 (0, 0)) (by (with_reducible repeat (first | refine blk_drewN ?_ _ | refine blk_drew ?_ | refine blk_alloc ?_ _)); refine blk_put (cs := #[.int .i32 0, .int .i32 0, .int .u8 0]) ?_ 2 _ rfl; (with_reducible repeat (first | refine blk_drewN ?_ _ | refine blk_drew ?_ | refine blk_alloc ?_ _)); refine blk_put (cs := #[.int .i32 0, .int .i32 0, .int .u8 0]) ?_ 1 _ rfl; (with_reducible repeat (first | refine blk_drewN ?_ _ | refine blk_drew ?_ | refine blk_alloc ?_ _)); refine blk_put (cs := #[.int .i32 0, .int .i32 0, .int .u8 0]) ?_ 0 _ rfl; (with_reducible repeat (first | refine blk_drewN ?_ _ | refine blk_drew ?_ | refine blk_alloc ?_ _)); exact BK186.out) hb); have n9_ := Aside0.mk (below_step (by repeat (first | (with_reducible first | exact HB.out | apply below_alloc | apply bN_ | apply below_drew1 | refine below_set ?_ GE169.out | refine below_set ?_ GE173.out | refine below_set ?_ GE177.out | refine below_set ?_ GE185.out | refine below_set ?_ GE186.out) | exact HB.out)) hb); clear HO_11; clear HO172; clear HO176; clear HO180; clear BK169; clear BK173; clear BK177; clear BK185; clear BK186; clear HB; have HO_11 := n0_; have HO172 := n1_; have HO176 := n2_; have HO180 := n3_; have BK169 := n4_; have BK173 := n5_; have BK177 := n6_; have BK185 := n7_; have BK186 := n8_; have HB := n9_; clear n0_ n1_ n2_ n3_ n4_ n5_ n6_ n7_ n8_ n9_; (try clear hb)) | ((with_reducible refine gate_dst (N := 25) rfl ?_); refine box_event ?hg (N := 25) ?hd (cs := #[.int .i32 0, .int .i32 0, .int .u8 0]) (t := 23) ?hr ?_; (case hd => rfl); (case hg => rfl); (case hr => first | (go_simp; done) | (go_simp; rfl)); intro gb187 hg w111 hbox hb; have n0_ := Aside0.mk (Kd.R_below (by (with_reducible repeat (first | apply Kd.R_alloc | apply Kd.R_drewN | apply Kd.R_drew)); exact HO_11.out) hb); have n1_ := Aside0.mk (Kd.R_below (by (with_reducible repeat (first | apply Kd.R_alloc | apply Kd.R_drewN | apply Kd.R_drew)); exact HO172.out) hb); have n2_ := Aside0.mk (Kd.R_below (by (with_reducible repeat (first | apply Kd.R_alloc | apply Kd.R_drewN | apply Kd.R_drew)); exact HO176.out) hb); have n3_ := Aside0.mk (Kd.R_below (by (with_reducible repeat (first | apply Kd.R_alloc | apply Kd.R_drewN | apply Kd.R_drew)); exact HO180.out) hb); have n4_ := Aside0.mk (blk_below (g := gb169) (o := .cells #[.int .i32 0, .int .i32 0, .int .u8 0] 23 (0, 0)) (by (with_reducible repeat (first | refine blk_drewN ?_ _ | refine blk_drew ?_ | refine blk_alloc ?_ _)); exact BK169.out) hb); have n5_ := Aside0.mk (blk_below (g := gb173) (o := .cells #[.int .i32 0, .int .i32 0, .int .u8 0] 23 (0, 0)) (by (with_reducible repeat (first | refine blk_drewN ?_ _ | refine blk_drew ?_ | refine blk_alloc ?_ _)); exact BK173.out) hb); have n6_ := Aside0.mk (blk_below (g := gb177) (o := .cells #[.int .i32 0, .int .i32 0, .int .u8 0] 23 (0, 0)) (by (with_reducible repeat (first | refine blk_drewN ?_ _ | refine blk_drew ?_ | refine blk_alloc ?_ _)); exact BK177.out) hb); have n7_ := Aside0.mk (blk_below (g := gb185) (o := .cells #[.int .i32 t181, .int .i32 t182, .int .u8 t183] 23 (0, 0)) (by (with_reducible repeat (first | refine blk_drewN ?_ _ | refine blk_drew ?_ | refine blk_alloc ?_ _)); exact BK185.out) hb); have n8_ := Aside0.mk (blk_below (g := gb186) (o := .cells #[.int .i32 0, .int .i32 0, .int .u8 0] 23 (0, 0)) (by (with_reducible repeat (first | refine blk_drewN ?_ _ | refine blk_drew ?_ | refine blk_alloc ?_ _)); exact BK186.out) hb); have n9_ := Aside0.mk (below_step (by repeat (first | (with_reducible first | exact HB.out | apply below_alloc | apply bN_ | apply below_drew1 | refine below_set ?_ GE169.out | refine below_set ?_ GE173.out | refine below_set ?_ GE177.out | refine below_set ?_ GE185.out | refine below_set ?_ GE186.out) | exact HB.out)) hb); have n10_ := Aside0.mk (hbox); have n11_ := Aside0.mk ((by rw [hg]; exact (below_size (by repeat (first | (with_reducible first | exact HB.out | apply below_alloc | apply bN_ | apply below_drew1 | refine below_set ?_ GE169.out | refine below_set ?_ GE173.out | refine below_set ?_ GE177.out | refine below_set ?_ GE185.out | refine below_set ?_ GE186.out) | exact HB.out))) : w.heap.size ≤ gb187)); have n12_ := Aside0.mk ((by rw [hg]; exact (below_size (by repeat (first | (with_reducible first | exact HB.out | apply below_alloc | apply bN_ | apply below_drew1 | refine below_set ?_ GE169.out | refine below_set ?_ GE173.out | refine below_set ?_ GE177.out | refine below_set ?_ GE185.out | refine below_set ?_ GE186.out) | exact HB.out))) : w.heap.size ≤ gb187)); have n13_ := Aside0.mk ((by rw [hg]; exact Nat.ne_of_lt (blk_lt (g := gb169) (o := .cells #[.int .i32 0, .int .i32 0, .int .u8 0] 23 (0, 0)) (by (with_reducible repeat (first | refine blk_drewN ?_ _ | refine blk_drew ?_ | refine blk_alloc ?_ _)); exact BK169.out)) : gb169 ≠ gb187)); have n14_ := Aside0.mk ((by rw [hg]; exact Nat.ne_of_gt (blk_lt (g := gb169) (o := .cells #[.int .i32 0, .int .i32 0, .int .u8 0] 23 (0, 0)) (by (with_reducible repeat (first | refine blk_drewN ?_ _ | refine blk_drew ?_ | refine blk_alloc ?_ _)); exact BK169.out)) : gb187 ≠ gb169)); have n15_ := Aside0.mk ((by rw [hg]; exact Nat.ne_of_lt (blk_lt (g := gb173) (o := .cells #[.int .i32 0, .int .i32 0, .int .u8 0] 23 (0, 0)) (by (with_reducible repeat (first | refine blk_drewN ?_ _ | refine blk_drew ?_ | refine blk_alloc ?_ _)); exact BK173.out)) : gb173 ≠ gb187)); have n16_ := Aside0.mk ((by rw [hg]; exact Nat.ne_of_gt (blk_lt (g := gb173) (o := .cells #[.int .i32 0, .int .i32 0, .int .u8 0] 23 (0, 0)) (by (with_reducible repeat (first | refine blk_drewN ?_ _ | refine blk_drew ?_ | refine blk_alloc ?_ _)); exact BK173.out)) : gb187 ≠ gb173)); have n17_ := Aside0.mk ((by rw [hg]; exact Nat.ne_of_lt (blk_lt (g := gb177) (o := .cells #[.int .i32 0, .int .i32 0, .int .u8 0] 23 (0, 0)) (by (with_reducible repeat (first | refine blk_drewN ?_ _ | refine blk_drew ?_ | refine blk_alloc ?_ _)); exact BK177.out)) : gb177 ≠ gb187)); have n18_ := Aside0.mk ((by rw [hg]; exact Nat.ne_of_gt (blk_lt (g := gb177) (o := .cells #[.int .i32 0, .int .i32 0, .int .u8 0] 23 (0, 0)) (by (with_reducible repeat (first | refine blk_drewN ?_ _ | refine blk_drew ?_ | refine blk_alloc ?_ _)); exact BK177.out)) : gb187 ≠ gb177)); have n19_ := Aside0.mk ((by rw [hg]; exact Nat.ne_of_lt (blk_lt (g := gb185) (o := .cells #[.int .i32 t181, .int .i32 t182, .int .u8 t183] 23 (0, 0)) (by (with_reducible repeat (first | refine blk_drewN ?_ _ | refine blk_drew ?_ | refine blk_alloc ?_ _)); exact BK185.out)) : gb185 ≠ gb187)); have n20_ := Aside0.mk ((by rw [hg]; exact Nat.ne_of_gt (blk_lt (g := gb185) (o := .cells #[.int .i32 t181, .int .i32 t182, .int .u8 t183] 23 (0, 0)) (by (with_reducible repeat (first | refine blk_drewN ?_ _ | refine blk_drew ?_ | refine blk_alloc ?_ _)); exact BK185.out)) : gb187 ≠ gb185)); have n21_ := Aside0.mk ((by rw [hg]; exact Nat.ne_of_lt (blk_lt (g := gb186) (o := .cells #[.int .i32 0, .int .i32 0, .int .u8 0] 23 (0, 0)) (by (with_reducible repeat (first | refine blk_drewN ?_ _ | refine blk_drew ?_ | refine blk_alloc ?_ _)); exact BK186.out)) : gb186 ≠ gb187)); have n22_ := Aside0.mk ((by rw [hg]; exact Nat.ne_of_gt (blk_lt (g := gb186) (o := .cells #[.int .i32 0, .int .i32 0, .int .u8 0] 23 (0, 0)) (by (with_reducible repeat (first | refine blk_drewN ?_ _ | refine blk_drew ?_ | refine blk_alloc ?_ _)); exact BK186.out)) : gb187 ≠ gb186)); clear HO_11; clear HO172; clear HO176; clear HO180; clear BK169; clear BK173; clear BK177; clear BK185; clear BK186; clear HB; have HO_11 := n0_; have HO172 := n1_; have HO176 := n2_; have HO180 := n3_; have BK169 := n4_; have BK173 := n5_; have BK177 := n6_; have BK185 := n7_; have BK186 := n8_; have HB := n9_; have BK187 := n10_; have GW187 := n11_; have GE187 := n12_; have NB169_187 := n13_; have NB187_169 := n14_; have NB173_187 := n15_; have NB187_173 := n16_; have NB177_187 := n17_; have NB187_177 := n18_; have NB185_187 := n19_; have NB187_185 := n20_; have NB186_187 := n21_; have NB187_186 := n22_; clear n0_ n1_ n2_ n3_ n4_ n5_ n6_ n7_ n8_ n9_ n10_ n11_ n12_ n13_ n14_ n15_ n16_ n17_ n18_ n19_ n20_ n21_ n22_; clear hb hbox hg; have hnb112 := NB187_169.out; have hnc112 := NB169_187.out; have hnb113 := NB187_173.out; have hnc113 := NB173_187.out; have hnb114 := NB187_177.out; have hnc114 := NB177_187.out; have hnb115 := NB187_185.out; have hnc115 := NB185_187.out; have hnb116 := NB187_186.out; have hnc116 := NB186_187.out; have hcz117_0 : w111.cell? ⟨gb187, 0, none⟩ = some (.int .i32 0) := (blk_cell BK187.out 0).trans rfl; have hcz117_1 : w111.cell? ⟨gb187, 1, none⟩ = some (.int .i32 0) := (blk_cell BK187.out 1).trans rfl; have hcz117_2 : w111.cell? ⟨gb187, 2, none⟩ = some (.int .u8 0) := (blk_cell BK187.out 2).trans rfl; have hfz117_0 := blk_frozen BK187.out 0; have hfz117_1 := blk_frozen BK187.out 1; have hfz117_2 := blk_frozen BK187.out 2) | ((with_reducible refine gate_callee (f := 12) rfl ?_); refine gL_ (some 159) Try.func12 #[.agg #[.int .i32 7, .int .i32 12, .int .u8 1]] ?_; (with_reducible refine (counts_Total.calls 7 12 1 19 0 _ A74.out).mono ?_); rintro e w118 ⟨rfl, hb⟩; refine ⟨_, rfl, ?_⟩; have n0_ := Aside0.mk (Kd.R_below (by (with_reducible repeat (first | apply Kd.R_alloc | apply Kd.R_drewN | apply Kd.R_drew)); exact (Kd.R_mono (Kd.R_far (p := ⟨gb187, 2, none⟩) (Kd.R_far (p := ⟨gb187, 1, none⟩) (Kd.R_far (p := ⟨gb187, 0, none⟩) (Kd.R_types HO_11.out BK187.out (by decide)) (fun _ hk => hk.2) (.int .i32 3)) (fun _ hk => hk.2) (.int .i32 7)) (fun _ hk => hk.2) (.int .u8 0)) (fun _ h_ => h_.1))) hb); have n1_ := Aside0.mk (Kd.R_below (by (with_reducible repeat (first | apply Kd.R_alloc | apply Kd.R_drewN | apply Kd.R_drew)); exact (Kd.R_mono (Kd.R_far (p := ⟨gb187, 2, none⟩) (Kd.R_far (p := ⟨gb187, 1, none⟩) (Kd.R_far (p := ⟨gb187, 0, none⟩) (Kd.R_types HO172.out BK187.out (by decide)) (fun _ hk => hk.2) (.int .i32 3)) (fun _ hk => hk.2) (.int .i32 7)) (fun _ hk => hk.2) (.int .u8 0)) (fun _ h_ => h_.1))) hb); have n2_ := Aside0.mk (Kd.R_below (by (with_reducible repeat (first | apply Kd.R_alloc | apply Kd.R_drewN | apply Kd.R_drew)); exact (Kd.R_mono (Kd.R_far (p := ⟨gb187, 2, none⟩) (Kd.R_far (p := ⟨gb187, 1, none⟩) (Kd.R_far (p := ⟨gb187, 0, none⟩) (Kd.R_types HO176.out BK187.out (by decide)) (fun _ hk => hk.2) (.int .i32 3)) (fun _ hk => hk.2) (.int .i32 7)) (fun _ hk => hk.2) (.int .u8 0)) (fun _ h_ => h_.1))) hb); have n3_ := Aside0.mk (Kd.R_below (by (with_reducible repeat (first | apply Kd.R_alloc | apply Kd.R_drewN | apply Kd.R_drew)); exact (Kd.R_mono (Kd.R_far (p := ⟨gb187, 2, none⟩) (Kd.R_far (p := ⟨gb187, 1, none⟩) (Kd.R_far (p := ⟨gb187, 0, none⟩) (Kd.R_types HO180.out BK187.out (by decide)) (fun _ hk => hk.2) (.int .i32 3)) (fun _ hk => hk.2) (.int .i32 7)) (fun _ hk => hk.2) (.int .u8 0)) (fun _ h_ => h_.1))) hb); have n4_ := Aside0.mk (blk_below (g := gb169) (o := .cells #[.int .i32 0, .int .i32 0, .int .u8 0] 23 (0, 0)) (by (with_reducible repeat (first | refine blk_drewN ?_ _ | refine blk_drew ?_ | refine blk_alloc ?_ _)); refine blk_far ?_ NB169_187.out _; (with_reducible repeat (first | refine blk_drewN ?_ _ | refine blk_drew ?_ | refine blk_alloc ?_ _)); refine blk_far ?_ NB169_187.out _; (with_reducible repeat (first | refine blk_drewN ?_ _ | refine blk_drew ?_ | refine blk_alloc ?_ _)); refine blk_far ?_ NB169_187.out _; (with_reducible repeat (first | refine blk_drewN ?_ _ | refine blk_drew ?_ | refine blk_alloc ?_ _)); exact BK169.out) hb); have n5_ := Aside0.mk (blk_below (g := gb173) (o := .cells #[.int .i32 0, .int .i32 0, .int .u8 0] 23 (0, 0)) (by (with_reducible repeat (first | refine blk_drewN ?_ _ | refine blk_drew ?_ | refine blk_alloc ?_ _)); refine blk_far ?_ NB173_187.out _; (with_reducible repeat (first | refine blk_drewN ?_ _ | refine blk_drew ?_ | refine blk_alloc ?_ _)); refine blk_far ?_ NB173_187.out _; (with_reducible repeat (first | refine blk_drewN ?_ _ | refine blk_drew ?_ | refine blk_alloc ?_ _)); refine blk_far ?_ NB173_187.out _; (with_reducible repeat (first | refine blk_drewN ?_ _ | refine blk_drew ?_ | refine blk_alloc ?_ _)); exact BK173.out) hb); have n6_ := Aside0.mk (blk_below (g := gb177) (o := .cells #[.int .i32 0, .int .i32 0, .int .u8 0] 23 (0, 0)) (by (with_reducible repeat (first | refine blk_drewN ?_ _ | refine blk_drew ?_ | refine blk_alloc ?_ _)); refine blk_far ?_ NB177_187.out _; (with_reducible repeat (first | refine blk_drewN ?_ _ | refine blk_drew ?_ | refine blk_alloc ?_ _)); refine blk_far ?_ NB177_187.out _; (with_reducible repeat (first | refine blk_drewN ?_ _ | refine blk_drew ?_ | refine blk_alloc ?_ _)); refine blk_far ?_ NB177_187.out _; (with_reducible repeat (first | refine blk_drewN ?_ _ | refine blk_drew ?_ | refine blk_alloc ?_ _)); exact BK177.out) hb); have n7_ := Aside0.mk (blk_below (g := gb185) (o := .cells #[.int .i32 t181, .int .i32 t182, .int .u8 t183] 23 (0, 0)) (by (with_reducible repeat (first | refine blk_drewN ?_ _ | refine blk_drew ?_ | refine blk_alloc ?_ _)); refine blk_far ?_ NB185_187.out _; (with_reducible repeat (first | refine blk_drewN ?_ _ | refine blk_drew ?_ | refine blk_alloc ?_ _)); refine blk_far ?_ NB185_187.out _; (with_reducible repeat (first | refine blk_drewN ?_ _ | refine blk_drew ?_ | refine blk_alloc ?_ _)); refine blk_far ?_ NB185_187.out _; (with_reducible repeat (first | refine blk_drewN ?_ _ | refine blk_drew ?_ | refine blk_alloc ?_ _)); exact BK185.out) hb); have n8_ := Aside0.mk (blk_below (g := gb186) (o := .cells #[.int .i32 0, .int .i32 0, .int .u8 0] 23 (0, 0)) (by (with_reducible repeat (first | refine blk_drewN ?_ _ | refine blk_drew ?_ | refine blk_alloc ?_ _)); refine blk_far ?_ NB186_187.out _; (with_reducible repeat (first | refine blk_drewN ?_ _ | refine blk_drew ?_ | refine blk_alloc ?_ _)); refine blk_far ?_ NB186_187.out _; (with_reducible repeat (first | refine blk_drewN ?_ _ | refine blk_drew ?_ | refine blk_alloc ?_ _)); refine blk_far ?_ NB186_187.out _; (with_reducible repeat (first | refine blk_drewN ?_ _ | refine blk_drew ?_ | refine blk_alloc ?_ _)); exact BK186.out) hb); have n9_ := Aside0.mk (blk_below (g := gb187) (o := .cells #[.int .i32 3, .int .i32 7, .int .u8 0] 23 (0, 0)) (by (with_reducible repeat (first | refine blk_drewN ?_ _ | refine blk_drew ?_ | refine blk_alloc ?_ _)); refine blk_put (cs := #[.int .i32 3, .int .i32 7, .int .u8 0]) ?_ 2 _ rfl; (with_reducible repeat (first | refine blk_drewN ?_ _ | refine blk_drew ?_ | refine blk_alloc ?_ _)); refine blk_put (cs := #[.int .i32 3, .int .i32 0, .int .u8 0]) ?_ 1 _ rfl; (with_reducible repeat (first | refine blk_drewN ?_ _ | refine blk_drew ?_ | refine blk_alloc ?_ _)); refine blk_put (cs := #[.int .i32 0, .int .i32 0, .int .u8 0]) ?_ 0 _ rfl; (with_reducible repeat (first | refine blk_drewN ?_ _ | refine blk_drew ?_ | refine blk_alloc ?_ _)); exact BK187.out) hb); have n10_ := Aside0.mk (below_step (by repeat (first | (with_reducible first | exact HB.out | apply below_alloc | apply bN_ | apply below_drew1 | refine below_set ?_ GE169.out | refine below_set ?_ GE173.out | refine below_set ?_ GE177.out | refine below_set ?_ GE185.out | refine below_set ?_ GE186.out | refine below_set ?_ GE187.out) | exact HB.out)) hb); clear HO_11; clear HO172; clear HO176; clear HO180; clear BK169; clear BK173; clear BK177; clear BK185; clear BK186; clear BK187; clear HB; have HO_11 := n0_; have HO172 := n1_; have HO176 := n2_; have HO180 := n3_; have BK169 := n4_; have BK173 := n5_; have BK177 := n6_; have BK185 := n7_; have BK186 := n8_; have BK187 := n9_; have HB := n10_; clear n0_ n1_ n2_ n3_ n4_ n5_ n6_ n7_ n8_ n9_ n10_; (try clear hb)))
       (try simp only [Act.put, setIfInBounds_toArray, set_cons_zero, set_cons_succ])
       go_cut [0] (fun v0 wc => ∃ (kq : Nat) (x0_74 : Bool), v0 = .bool x0_74 ∧ Aside0 (bitloftlaw07_CountsNames.j3 kq x0_74 = some r) ∧ Aside0 (kq ≤ k2) ∧ Aside0 (wc.heap[gb169]? = some (.cells #[.int .i32 0, .int .i32 0, .int .u8 0] 23 (0, 0))) ∧ Aside0 (wc.heap[gb173]? = some (.cells #[.int .i32 0, .int .i32 0, .int .u8 0] 23 (0, 0))) ∧ Aside0 (wc.heap[gb177]? = some (.cells #[.int .i32 0, .int .i32 0, .int .u8 0] 23 (0, 0))) ∧ Aside0 (wc.heap[gb185]? = some (.cells #[.int .i32 t181, .int .i32 t182, .int .u8 t183] 23 (0, 0))) ∧ Aside0 (wc.heap[gb186]? = some (.cells #[.int .i32 0, .int .i32 0, .int .u8 0] 23 (0, 0))) ∧ Aside0 (wc.heap[gb187]? = some (.cells #[.int .i32 3, .int .i32 7, .int .u8 0] 23 (0, 0))) ∧ Aside0 (Below w.heap.size w wc))
       case first =>
        have H := HC75.out
        clear HC75
        by_cases c119 : t184 = 0
        ·
         rw [if_pos c119] at H
         have c119b0 : (t184 == 0) = true := beq_iff_eq.mpr c119
         have c119b1 : (t184 != 0) = false := bne_eq_false_iff_eq.mpr c119
         clear c119
         (first | rw [c119b0] | (simp only [i64_w, i32_w]; rw [c119b0]) | skip)
         by_cases c120 : (t181 == 12 && (t182 == 0 && (t183 == 0))) = true
         ·
          rw [if_pos c120] at H
          have c120b0 : (t181 == 12 && (t182 == 0 && (t183 == 0))) = true := c120
          (try (have c120b1 : decide (t181 = 12 && (t182 == 0 && (t183 == 0))) = true := by simpa using c120))
          (try (have c120b2 : (t181 == 12 && (t182 == 0 && (t183 == 0))) = true := by simpa using c120))
          clear c120
          have A121 := Aside0.mk (show bitloftlaw07_alive.f 2000 = some true by decide +kernel)
          have H' := Aside0.mk H
          clear H
          have hnb122 := NB185_169.out
          have hnc122 := NB169_185.out
          have hnb123 := NB185_173.out
          have hnc123 := NB173_185.out
          have hnb124 := NB185_177.out
          have hnc124 := NB177_185.out
          have hnb125 := NB185_186.out
          have hnc125 := NB186_185.out
          have hnb126 := NB185_187.out
          have hnc126 := NB187_185.out
          have hcz127_0 : w118.cell? ⟨gb185, 0, none⟩ = some (.int .i32 t181) := (blk_cell BK185.out 0).trans rfl
          have hcz127_1 : w118.cell? ⟨gb185, 1, none⟩ = some (.int .i32 t182) := (blk_cell BK185.out 1).trans rfl
          have hcz127_2 : w118.cell? ⟨gb185, 2, none⟩ = some (.int .u8 t183) := (blk_cell BK185.out 2).trans rfl
          have hfz127_0 := blk_frozen BK185.out 0
          have hfz127_1 := blk_frozen BK185.out 1
          have hfz127_2 := blk_frozen BK185.out 2
          have hnb128 := NB186_169.out
          have hnc128 := NB169_186.out
          have hnb129 := NB186_173.out
          have hnc129 := NB173_186.out
          have hnb130 := NB186_177.out
          have hnc130 := NB177_186.out
          have hnb131 := NB186_187.out
          have hnc131 := NB187_186.out
          have hcz132_0 : w118.cell? ⟨gb186, 0, none⟩ = some (.int .i32 0) := (blk_cell BK186.out 0).trans rfl
          have hcz132_1 : w118.cell? ⟨gb186, 1, none⟩ = some (.int .i32 0) := (blk_cell BK186.out 1).trans rfl
          have hcz132_2 : w118.cell? ⟨gb186, 2, none⟩ = some (.int .u8 0) := (blk_cell BK186.out 2).trans rfl
          have hfz132_0 := blk_frozen BK186.out 0
          have hfz132_1 := blk_frozen BK186.out 1
          have hfz132_2 := blk_frozen BK186.out 2
          have hnb133 := NB187_169.out
          have hnc133 := NB169_187.out
          have hnb134 := NB187_173.out
          have hnc134 := NB173_187.out
          have hnb135 := NB187_177.out
          have hnc135 := NB177_187.out
          have hcz136_0 : w118.cell? ⟨gb187, 0, none⟩ = some (.int .i32 3) := (blk_cell BK187.out 0).trans rfl
          have hcz136_1 : w118.cell? ⟨gb187, 1, none⟩ = some (.int .i32 7) := (blk_cell BK187.out 1).trans rfl
          have hcz136_2 : w118.cell? ⟨gb187, 2, none⟩ = some (.int .u8 0) := (blk_cell BK187.out 2).trans rfl
          have hfz136_0 := blk_frozen BK187.out 0
          have hfz136_1 := blk_frozen BK187.out 1
          have hfz136_2 := blk_frozen BK187.out 2
          go_wp2_with (first | (go_at_call 21; (with_reducible refine (bitloftlaw07_alive.calls 2000  true _ A121.out).mono ?_); rintro e w137 ⟨rfl, hb⟩; have n0_ := Aside0.mk (Kd.R_below (by (with_reducible repeat (first | apply Kd.R_alloc | apply Kd.R_drewN | apply Kd.R_drew)); exact HO_11.out) hb); have n1_ := Aside0.mk (Kd.R_below (by (with_reducible repeat (first | apply Kd.R_alloc | apply Kd.R_drewN | apply Kd.R_drew)); exact HO172.out) hb); have n2_ := Aside0.mk (Kd.R_below (by (with_reducible repeat (first | apply Kd.R_alloc | apply Kd.R_drewN | apply Kd.R_drew)); exact HO176.out) hb); have n3_ := Aside0.mk (Kd.R_below (by (with_reducible repeat (first | apply Kd.R_alloc | apply Kd.R_drewN | apply Kd.R_drew)); exact HO180.out) hb); have n4_ := Aside0.mk (blk_below (g := gb169) (o := .cells #[.int .i32 0, .int .i32 0, .int .u8 0] 23 (0, 0)) (by (with_reducible repeat (first | refine blk_drewN ?_ _ | refine blk_drew ?_ | refine blk_alloc ?_ _)); exact BK169.out) hb); have n5_ := Aside0.mk (blk_below (g := gb173) (o := .cells #[.int .i32 0, .int .i32 0, .int .u8 0] 23 (0, 0)) (by (with_reducible repeat (first | refine blk_drewN ?_ _ | refine blk_drew ?_ | refine blk_alloc ?_ _)); exact BK173.out) hb); have n6_ := Aside0.mk (blk_below (g := gb177) (o := .cells #[.int .i32 0, .int .i32 0, .int .u8 0] 23 (0, 0)) (by (with_reducible repeat (first | refine blk_drewN ?_ _ | refine blk_drew ?_ | refine blk_alloc ?_ _)); exact BK177.out) hb); have n7_ := Aside0.mk (blk_below (g := gb185) (o := .cells #[.int .i32 t181, .int .i32 t182, .int .u8 t183] 23 (0, 0)) (by (with_reducible repeat (first | refine blk_drewN ?_ _ | refine blk_drew ?_ | refine blk_alloc ?_ _)); exact BK185.out) hb); have n8_ := Aside0.mk (blk_below (g := gb186) (o := .cells #[.int .i32 0, .int .i32 0, .int .u8 0] 23 (0, 0)) (by (with_reducible repeat (first | refine blk_drewN ?_ _ | refine blk_drew ?_ | refine blk_alloc ?_ _)); exact BK186.out) hb); have n9_ := Aside0.mk (blk_below (g := gb187) (o := .cells #[.int .i32 3, .int .i32 7, .int .u8 0] 23 (0, 0)) (by (with_reducible repeat (first | refine blk_drewN ?_ _ | refine blk_drew ?_ | refine blk_alloc ?_ _)); exact BK187.out) hb); have n10_ := Aside0.mk (below_step (by repeat (first | (with_reducible first | exact HB.out | apply below_alloc | apply bN_ | apply below_drew1 | refine below_set ?_ GE169.out | refine below_set ?_ GE173.out | refine below_set ?_ GE177.out | refine below_set ?_ GE185.out | refine below_set ?_ GE186.out | refine below_set ?_ GE187.out) | exact HB.out)) hb); clear HO_11; clear HO172; clear HO176; clear HO180; clear BK169; clear BK173; clear BK177; clear BK185; clear BK186; clear BK187; clear HB; have HO_11 := n0_; have HO172 := n1_; have HO176 := n2_; have HO180 := n3_; have BK169 := n4_; have BK173 := n5_; have BK177 := n6_; have BK185 := n7_; have BK186 := n8_; have BK187 := n9_; have HB := n10_; clear n0_ n1_ n2_ n3_ n4_ n5_ n6_ n7_ n8_ n9_ n10_; (try clear hb)))
          go_meet
          case rel => exact ⟨_, (true), (by first | rfl | (simp; done) | (simp [*]; done)), H', ⟨by have := HK1.out; have := HK2.out; first | omega | exact Nat.le_refl _⟩, ⟨by (with_reducible repeat (first | refine blk_drewN ?_ _ | refine blk_drew ?_ | refine blk_alloc ?_ _)); exact BK169.out⟩, ⟨by (with_reducible repeat (first | refine blk_drewN ?_ _ | refine blk_drew ?_ | refine blk_alloc ?_ _)); exact BK173.out⟩, ⟨by (with_reducible repeat (first | refine blk_drewN ?_ _ | refine blk_drew ?_ | refine blk_alloc ?_ _)); exact BK177.out⟩, ⟨by (with_reducible repeat (first | refine blk_drewN ?_ _ | refine blk_drew ?_ | refine blk_alloc ?_ _)); exact BK185.out⟩, ⟨by (with_reducible repeat (first | refine blk_drewN ?_ _ | refine blk_drew ?_ | refine blk_alloc ?_ _)); exact BK186.out⟩, ⟨by (with_reducible repeat (first | refine blk_drewN ?_ _ | refine blk_drew ?_ | refine blk_alloc ?_ _)); exact BK187.out⟩, ⟨by repeat (first | (with_reducible first | exact HB.out | apply below_alloc | apply bN_ | apply below_drew1 | refine below_set ?_ GE169.out | refine below_set ?_ GE173.out | refine below_set ?_ GE177.out | refine below_set ?_ GE185.out | refine below_set ?_ GE186.out | refine below_set ?_ GE187.out) | exact HB.out)⟩⟩
         ·
          rw [if_neg c120] at H
          have c120b0 : (t181 == 12 && (t182 == 0 && (t183 == 0))) = false := by simpa using c120
          (try (have c120b1 : decide (t181 = 12 && (t182 == 0 && (t183 == 0))) = false := by simpa using c120))
          (try (have c120b2 : (t181 == 12 && (t182 == 0 && (t183 == 0))) = false := by simpa using c120))
          (try (have c120b3 : ¬ (t181 = 12 && (t182 == 0 && (t183 == 0))) := by simpa using c120))
          clear c120
          have H' := Aside0.mk H
          clear H
          have hnb138 := NB185_169.out
          have hnc138 := NB169_185.out
          have hnb139 := NB185_173.out
          have hnc139 := NB173_185.out
          have hnb140 := NB185_177.out
          have hnc140 := NB177_185.out
          have hnb141 := NB185_186.out
          have hnc141 := NB186_185.out
          have hnb142 := NB185_187.out
          have hnc142 := NB187_185.out
          have hcz143_0 : w118.cell? ⟨gb185, 0, none⟩ = some (.int .i32 t181) := (blk_cell BK185.out 0).trans rfl
          have hcz143_1 : w118.cell? ⟨gb185, 1, none⟩ = some (.int .i32 t182) := (blk_cell BK185.out 1).trans rfl
          have hcz143_2 : w118.cell? ⟨gb185, 2, none⟩ = some (.int .u8 t183) := (blk_cell BK185.out 2).trans rfl
          have hfz143_0 := blk_frozen BK185.out 0
          have hfz143_1 := blk_frozen BK185.out 1
          have hfz143_2 := blk_frozen BK185.out 2
          go_wp2
          go_meet
          case rel => exact ⟨_, (false), (by first | rfl | (simp; done) | (simp [*]; done)), H', ⟨by have := HK1.out; have := HK2.out; first | omega | exact Nat.le_refl _⟩, ⟨by (with_reducible repeat (first | refine blk_drewN ?_ _ | refine blk_drew ?_ | refine blk_alloc ?_ _)); exact BK169.out⟩, ⟨by (with_reducible repeat (first | refine blk_drewN ?_ _ | refine blk_drew ?_ | refine blk_alloc ?_ _)); exact BK173.out⟩, ⟨by (with_reducible repeat (first | refine blk_drewN ?_ _ | refine blk_drew ?_ | refine blk_alloc ?_ _)); exact BK177.out⟩, ⟨by (with_reducible repeat (first | refine blk_drewN ?_ _ | refine blk_drew ?_ | refine blk_alloc ?_ _)); exact BK185.out⟩, ⟨by (with_reducible repeat (first | refine blk_drewN ?_ _ | refine blk_drew ?_ | refine blk_alloc ?_ _)); exact BK186.out⟩, ⟨by (with_reducible repeat (first | refine blk_drewN ?_ _ | refine blk_drew ?_ | refine blk_alloc ?_ _)); exact BK187.out⟩, ⟨by repeat (first | (with_reducible first | exact HB.out | apply below_alloc | apply bN_ | apply below_drew1 | refine below_set ?_ GE169.out | refine below_set ?_ GE173.out | refine below_set ?_ GE177.out | refine below_set ?_ GE185.out | refine below_set ?_ GE186.out | refine below_set ?_ GE187.out) | exact HB.out)⟩⟩
        ·
         rw [if_neg c119] at H
         have c119b0 : (t184 == 0) = false := beq_eq_false_iff_ne.mpr c119
         have c119b1 : (t184 != 0) = true := bne_iff_ne.mpr c119
         (first | rw [c119b0] | (simp only [i64_w, i32_w]; rw [c119b0]) | skip)
         have H' := Aside0.mk H
         clear H
         go_wp2
         go_meet
         case rel => exact ⟨_, (false), (by first | rfl | (simp; done) | (simp [*]; done)), H', ⟨by have := HK1.out; have := HK2.out; first | omega | exact Nat.le_refl _⟩, ⟨by (with_reducible repeat (first | refine blk_drewN ?_ _ | refine blk_drew ?_ | refine blk_alloc ?_ _)); exact BK169.out⟩, ⟨by (with_reducible repeat (first | refine blk_drewN ?_ _ | refine blk_drew ?_ | refine blk_alloc ?_ _)); exact BK173.out⟩, ⟨by (with_reducible repeat (first | refine blk_drewN ?_ _ | refine blk_drew ?_ | refine blk_alloc ?_ _)); exact BK177.out⟩, ⟨by (with_reducible repeat (first | refine blk_drewN ?_ _ | refine blk_drew ?_ | refine blk_alloc ?_ _)); exact BK185.out⟩, ⟨by (with_reducible repeat (first | refine blk_drewN ?_ _ | refine blk_drew ?_ | refine blk_alloc ?_ _)); exact BK186.out⟩, ⟨by (with_reducible repeat (first | refine blk_drewN ?_ _ | refine blk_drew ?_ | refine blk_alloc ?_ _)); exact BK187.out⟩, ⟨by repeat (first | (with_reducible first | exact HB.out | apply below_alloc | apply bN_ | apply below_drew1 | refine below_set ?_ GE169.out | refine below_set ?_ GE173.out | refine below_set ?_ GE177.out | refine below_set ?_ GE185.out | refine below_set ?_ GE186.out | refine below_set ?_ GE187.out) | exact HB.out)⟩⟩
       case rest =>
        clear HC75
        try clear c1
        try clear p1
        try clear q1
        try clear hx1
        try clear c2
        try clear p2
        try clear c3
        try clear c3b0
        try clear p3
        try clear c4
        try clear c5
        try clear p6
        try clear c8
        try clear c9
        try clear c10
        try clear c11
        try clear c12
        try clear c13
        try clear c14
        try clear p14
        try clear q14
        try clear hx14
        try clear p15
        try clear q15
        try clear hx15
        try clear c16
        try clear p16
        try clear q16
        try clear hx16
        try clear c18
        try clear c28
        try clear c29
        try clear c32
        try clear c32b0
        try clear c32b1
        try clear p32
        try clear c33
        try clear c33b0
        try clear c33b1
        try clear c34
        try clear c34b0
        try clear c34b1
        try clear c35
        try clear c35b0
        try clear c35b1
        try clear c41
        try clear c45
        try clear c45b0
        try clear c47
        try clear c47b0
        try clear c47b1
        try clear c48
        try clear c48b0
        try clear c49
        try clear c49b0
        try clear c50
        try clear c50b0
        try clear p64
        try clear c84
        try clear c91
        try clear c92
        try clear c99
        try clear c100
        try clear c101
        try clear c105
        try clear c106
        try clear c107
        try clear c108
        try clear c112
        try clear c113
        try clear c114
        try clear c115
        try clear c116
        try clear c119
        try clear c119b0
        try clear c119b1
        try clear c120
        try clear c120b0
        try clear c120b1
        try clear c120b2
        try clear c122
        try clear c123
        try clear c124
        try clear c125
        try clear c126
        try clear c128
        try clear c129
        try clear c130
        try clear c131
        try clear c133
        try clear c134
        try clear c135
        try clear c138
        try clear c139
        try clear c140
        try clear c141
        try clear c142
        try clear hcz102_0
        try clear hcz102_1
        try clear hcz102_2
        try clear hcz109_0
        try clear hcz109_1
        try clear hcz109_2
        try clear hcz117_0
        try clear hcz117_1
        try clear hcz117_2
        try clear hcz127_0
        try clear hcz127_1
        try clear hcz127_2
        try clear hcz132_0
        try clear hcz132_1
        try clear hcz132_2
        try clear hcz136_0
        try clear hcz136_1
        try clear hcz136_2
        try clear hcz143_0
        try clear hcz143_1
        try clear hcz143_2
        try clear hcz30_0
        try clear hcz30_1
        try clear hcz30_2
        try clear hcz53_0
        try clear hcz53_1
        try clear hcz53_2
        try clear hcz59_0
        try clear hcz59_1
        try clear hcz59_2
        try clear hcz65_0
        try clear hcz65_1
        try clear hcz65_2
        try clear hcz78_0
        try clear hcz78_1
        try clear hcz78_2
        try clear hcz85_0
        try clear hcz85_1
        try clear hcz85_2
        try clear hcz93_0
        try clear hcz93_1
        try clear hcz93_2
        try clear hfz102_0
        try clear hfz102_1
        try clear hfz102_2
        try clear hfz109_0
        try clear hfz109_1
        try clear hfz109_2
        try clear hfz117_0
        try clear hfz117_1
        try clear hfz117_2
        try clear hfz127_0
        try clear hfz127_1
        try clear hfz127_2
        try clear hfz132_0
        try clear hfz132_1
        try clear hfz132_2
        try clear hfz136_0
        try clear hfz136_1
        try clear hfz136_2
        try clear hfz143_0
        try clear hfz143_1
        try clear hfz143_2
        try clear hfz30_0
        try clear hfz30_1
        try clear hfz30_2
        try clear hfz53_0
        try clear hfz53_1
        try clear hfz53_2
        try clear hfz59_0
        try clear hfz59_1
        try clear hfz59_2
        try clear hfz65_0
        try clear hfz65_1
        try clear hfz65_2
        try clear hfz78_0
        try clear hfz78_1
        try clear hfz78_2
        try clear hfz85_0
        try clear hfz85_1
        try clear hfz85_2
        try clear hfz93_0
        try clear hfz93_1
        try clear hfz93_2
        try clear hx149_0
        try clear hx149_1
        try clear hx149_2
        try clear hx152_0
        try clear hx152_1
        try clear hx152_2
        try clear hx158_0
        try clear hx158_1
        try clear hx158_2
        try clear hx168_0
        try clear p1
        try clear p14
        try clear p149
        try clear p15
        try clear p152
        try clear p158
        try clear p168
        try clear p2
        try clear p6
        try clear q1
        try clear q14
        try clear q149
        try clear q15
        try clear q152
        try clear q158
        try clear q168
        obtain ⟨kq, x0_74, rfl, HA, HJ74, BK169, BK173, BK177, BK185, BK186, BK187, HB⟩ := hcut
        cases kq with
        | zero => exact absurd HA.out (by simp [bitloftlaw07_CountsNames.j3])
        | succ kj74 =>
         have H := HA.out
         clear HA
         simp only [bitloftlaw07_CountsNames.j3] at H
         obtain rfl := Option.some.inj H
         go_wp2
         go_ret
         exact ⟨by first | rfl | (simp [errW_none, errW_some] <;> rfl) | (simp [*, errW_none, errW_some] <;> rfl), by repeat (first | (with_reducible first | exact HB.out | apply below_alloc | apply bN_ | apply below_drew1 | refine below_set ?_ GE169.out | refine below_set ?_ GE173.out | refine below_set ?_ GE177.out | refine below_set ?_ GE185.out | refine below_set ?_ GE186.out | refine below_set ?_ GE187.out) | exact HB.out)⟩

/-- THE ONE PURE STATEMENT of bitloftlaw07_CountsNames: yours. -/
def bitloftlaw07_CountsNames.Pure : Prop := ∃ k, bitloftlaw07_CountsNames.f k  = some true
theorem bitloftlaw07_CountsNames.walk (P : bitloftlaw07_CountsNames.Pure)  (w : World)  :
  Calls Try.prog 8 #[] w fun e w' => e = .returned (.bool true) ∧ Below w.heap.size w w' := by
 obtain ⟨k, h⟩ := P  
 refine (bitloftlaw07_CountsNames.calls k  true w h).mono ?_
 rintro e w' ⟨rfl, hd⟩
 exact ⟨rfl, hd⟩

end Go.Proofs.Ytpcjjggeipkehaa.XCountsNames
