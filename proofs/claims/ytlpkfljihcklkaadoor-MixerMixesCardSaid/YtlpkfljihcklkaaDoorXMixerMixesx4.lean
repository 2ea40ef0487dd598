-- Laid by a program of this session (wip/mkxprint.py, over the kit's print): Lean checks it.
import Derived.Test.YtlpkfljihcklkaaDoorXMixerMixesx0
import Derived.Test.YtlpkfljihcklkaaDoorXMixerMixesx1
import Derived.Test.YtlpkfljihcklkaaDoorXMixerMixesx2
import Derived.Test.YtlpkfljihcklkaaDoorXMixerMixesx3
namespace Go.Proofs.YtlpkfljihcklkaaDoor.XMixerMixes
open List (setIfInBounds_toArray set_cons_zero set_cons_succ)
open Go.RowKit Go.Proofs.YtlpkfljihcklkaaDoorW.PrintWords Go.Proofs.YtlpkfljihcklkaaDoorW.PrintLast Go.Proofs.YtlpkfljihcklkaaDoorW.PrintMore
attribute [local go_sem] max2_int min2_int max_two min_two max_three min_three max_four min_four   -- for this text's walks alone
set_option linter.unusedVariables false
set_option linter.unusedSimpArgs false
theorem Kd.S_at {α : Type} {d : Kd α} {e base m : Nat} {ok : Nat → Prop} {w w' : World} {v : Value} {xs : List α} (hq : w.drewN m = w') (h : Kd.S d e w base ok v xs) : Kd.S d e w' base ok v xs := by subst hq; exact Kd.S_drewN h m

/-! ### bitloftlaw16_MixerMixes: function 3 -/
mutual
def bitloftlaw16_MixerMixes.j0 : Nat → Int → Int → Int → List Int → Int → Bool → Bool → List (List Int) → Option (Bool)
 | 0, _, _, _, _, _, _, _, _ => none
 | k + 1, x0, x1, x3, x4, x5, x6, x36, x173000 => if x36 = true then (some true) else ((mixer_New.f k x0 x1).bind fun bt174 => ((bitloftref16_New.f k x0 x1).bind fun bt179 => ((mixer_Mix.f k x173000 x3 x4).bind fun bt184 => ((bitloftref16_Mix.f k x173000 x3 x4).bind fun bt187 => ((mixer_Wrong.f x5 x6).bind fun bt190 => ((bitloftref16_Wrong.f x5 x6).bind fun bt192 => ((bitloftref16_Same.f k bt174.1 bt179.1).bind fun t194 => (if t194 = true then (if bt174.2 = bt179.2 then ((mixer_Check.f x173000).bind fun t195 => ((bitloftref16_Check.f k x173000).bind fun t196 => (if t195 = t196 then (if bt184.1 = bt187.1 then (if bt184.2.1 = bt187.2.1 then (if bt184.2.2 = bt187.2.2 then (if bt190.1 = bt192.1 then (bitloftlaw16_MixerMixes.j1 k (bt190.2 == bt192.2)) else (bitloftlaw16_MixerMixes.j1 k false)) else (bitloftlaw16_MixerMixes.j1 k false)) else (bitloftlaw16_MixerMixes.j1 k false)) else (bitloftlaw16_MixerMixes.j1 k false)) else (bitloftlaw16_MixerMixes.j1 k false)))) else (bitloftlaw16_MixerMixes.j1 k false)) else (bitloftlaw16_MixerMixes.j1 k false)))))))))
def bitloftlaw16_MixerMixes.j1 : Nat → Bool → Option (Bool)
 | 0, _ => none
 | k + 1, x14 => some x14
end
def bitloftlaw16_MixerMixes.f (k : Nat) (a0 : Int) (a1 : Int) (l2_0 : List (List Int)) (a3 : Int) (l4 : List Int) (a5 : Int) (a6 : Bool) : Option (Bool) := (bitloftref16_GreatRows.f k l2_0).bind fun t173 => (if t173 = true then (bitloftlaw16_MixerMixes.j0 k a0 a1 a3 l4 a5 a6 true l2_0) else (bitloftlaw16_MixerMixes.j0 k a0 a1 a3 l4 a5 a6 (decide ((l4.length : Int) > 100)) l2_0))
theorem bitloftlaw16_MixerMixes.mono_l : ∀ k, (∀ y0 y1 y2 y3 y4 y5 y6 y7, LeO (bitloftlaw16_MixerMixes.j0 k y0 y1 y2 y3 y4 y5 y6 y7) (bitloftlaw16_MixerMixes.j0 (k + 1) y0 y1 y2 y3 y4 y5 y6 y7)) ∧ (∀ y0, LeO (bitloftlaw16_MixerMixes.j1 k y0) (bitloftlaw16_MixerMixes.j1 (k + 1) y0))
 | 0 => ⟨fun _ _ _ _ _ _ _ _ r h => by simp [bitloftlaw16_MixerMixes.j0] at h, fun _ r h => by simp [bitloftlaw16_MixerMixes.j1] at h⟩
 | k + 1 => by
  obtain ⟨ih0, ih1⟩ := bitloftlaw16_MixerMixes.mono_l k; refine ⟨?_, ?_⟩
  ·
   intro y0 y1 y2 y3 y4 y5 y6 y7
   unfold bitloftlaw16_MixerMixes.j0
   repeat' first
   | (with_reducible exact ih0 _ _ _ _ _ _ _ _)
   | (with_reducible exact ih1 _)
   | (with_reducible exact bitloftref16_Check.mono _ _)
   | (with_reducible exact bitloftref16_GreatRows.mono _ _)
   | (with_reducible exact bitloftref16_Mix.mono _ _ _ _)
   | (with_reducible exact bitloftref16_New.mono _ _ _)
   | (with_reducible exact bitloftref16_Same.mono _ _ _)
   | (with_reducible exact mixer_Mix.mono _ _ _ _)
   | (with_reducible exact mixer_New.mono _ _ _)
   | (with_reducible exact LeO.refl _)
   | (with_reducible exact LeO.none _)
   | (with_reducible refine LeO.ite ?_ ?_)
   | (with_reducible refine LeO.bind ?_ (fun _ => ?_))
   | exact ih0 _ _ _ _ _ _ _ _
   | exact ih1 _
   | exact bitloftref16_Check.mono _ _
   | exact bitloftref16_GreatRows.mono _ _
   | exact bitloftref16_Mix.mono _ _ _ _
   | exact bitloftref16_New.mono _ _ _
   | exact bitloftref16_Same.mono _ _ _
   | exact mixer_Mix.mono _ _ _ _
   | exact mixer_New.mono _ _ _
   | exact LeO.none _
   | refine LeO.ite ?_ ?_
   | refine LeO.bind ?_ (fun _ => ?_)
  ·
   intro y0
   unfold bitloftlaw16_MixerMixes.j1
   repeat' first
   | (with_reducible exact ih0 _ _ _ _ _ _ _ _)
   | (with_reducible exact ih1 _)
   | (with_reducible exact bitloftref16_Check.mono _ _)
   | (with_reducible exact bitloftref16_GreatRows.mono _ _)
   | (with_reducible exact bitloftref16_Mix.mono _ _ _ _)
   | (with_reducible exact bitloftref16_New.mono _ _ _)
   | (with_reducible exact bitloftref16_Same.mono _ _ _)
   | (with_reducible exact mixer_Mix.mono _ _ _ _)
   | (with_reducible exact mixer_New.mono _ _ _)
   | (with_reducible exact LeO.refl _)
   | (with_reducible exact LeO.none _)
   | (with_reducible refine LeO.ite ?_ ?_)
   | (with_reducible refine LeO.bind ?_ (fun _ => ?_))
   | exact ih0 _ _ _ _ _ _ _ _
   | exact ih1 _
   | exact bitloftref16_Check.mono _ _
   | exact bitloftref16_GreatRows.mono _ _
   | exact bitloftref16_Mix.mono _ _ _ _
   | exact bitloftref16_New.mono _ _ _
   | exact bitloftref16_Same.mono _ _ _
   | exact mixer_Mix.mono _ _ _ _
   | exact mixer_New.mono _ _ _
   | exact LeO.none _
   | refine LeO.ite ?_ ?_
   | refine LeO.bind ?_ (fun _ => ?_)
theorem bitloftlaw16_MixerMixes.mono : ∀ a0 a1 a2 a3 a4 a5 a6 k, LeO (bitloftlaw16_MixerMixes.f k a0 a1 a2 a3 a4 a5 a6) (bitloftlaw16_MixerMixes.f (k + 1) a0 a1 a2 a3 a4 a5 a6) := by
 intro a0 a1 a2 a3 a4 a5 a6 k; obtain ⟨ih0, ih1⟩ := bitloftlaw16_MixerMixes.mono_l k
 unfold bitloftlaw16_MixerMixes.f
 repeat' first
   | (with_reducible exact ih0 _ _ _ _ _ _ _ _)
   | (with_reducible exact ih1 _)
   | (with_reducible exact bitloftref16_Check.mono _ _)
   | (with_reducible exact bitloftref16_GreatRows.mono _ _)
   | (with_reducible exact bitloftref16_Mix.mono _ _ _ _)
   | (with_reducible exact bitloftref16_New.mono _ _ _)
   | (with_reducible exact bitloftref16_Same.mono _ _ _)
   | (with_reducible exact mixer_Mix.mono _ _ _ _)
   | (with_reducible exact mixer_New.mono _ _ _)
   | (with_reducible exact LeO.refl _)
   | (with_reducible exact LeO.none _)
   | (with_reducible refine LeO.ite ?_ ?_)
   | (with_reducible refine LeO.bind ?_ (fun _ => ?_))
   | exact ih0 _ _ _ _ _ _ _ _
   | exact ih1 _
   | exact bitloftref16_Check.mono _ _
   | exact bitloftref16_GreatRows.mono _ _
   | exact bitloftref16_Mix.mono _ _ _ _
   | exact bitloftref16_New.mono _ _ _
   | exact bitloftref16_Same.mono _ _ _
   | exact mixer_Mix.mono _ _ _ _
   | exact mixer_New.mono _ _ _
   | exact LeO.none _
   | refine LeO.ite ?_ ?_
   | refine LeO.bind ?_ (fun _ => ?_)
def bitloftlaw16_MixerMixes.T9 : Bool × List (List Nat × List Nat) := (true, [([], []), ([], []), ([0, 1], [0, 1]), ([2, 2], [2]), ([3], [3]), ([3], [3]), ([4, 5, 3], [3, 4, 5]), ([3, 6], [3, 6]), ([7, 3], [7]), ([8], [8]), ([9, 8, 8], [8, 9]), ([8], [8]), ([11, 10, 8], [8, 11]), ([10, 12, 8], [8, 10, 12]), ([8, 13], [8, 13]), ([14, 12], [14]), ([15], [15]), ([15], [15]), ([16, 17, 15], [15, 16, 17]), ([15, 18], [15, 18]), ([19, 15], [19]), ([20], [20]), ([20], [20]), ([21, 22, 20], [20, 21, 22]), ([20, 23], [20, 23]), ([24, 20], [24]), ([25], [25]), ([25], [25]), ([26, 27, 25], [25, 26, 27]), ([25, 28], [25, 28]), ([29, 25], [29]), ([30], [30]), ([30], [30]), ([31, 32, 30], [30, 31, 32]), ([30, 33], [30, 33]), ([34, 30], [34]), ([35], [35]), ([35], [35]), ([36, 37, 35], [35, 36, 37]), ([35, 38], [35, 38]), ([39, 35, 0, 1, 2, 3, 4, 5, 6, 7, 8, 9, 10, 11, 12, 13, 14, 15, 16, 17, 18, 19, 20, 21, 22, 23, 24, 25, 26, 27, 28, 29, 30, 31, 32, 33, 34, 35, 36, 37, 38, 39], [39])])
def bitloftlaw16_MixerMixes.B9 : List Nat := [0, 0, 3, 7, 15, 15, 63, 127, 255, 511, 1023, 511, 4095, 8191, 16383, 32767, 65535, 65535, 262143, 524287, 1048575, 2097151, 2097151, 8388607, 16777215, 33554431, 67108863, 67108863, 268435455, 536870911, 1073741823, 2147483647, 2147483647, 8589934591, 17179869183, 34359738367, 68719476735, 68719476735, 274877906943, 549755813887, 1099511627775]
theorem bitloftlaw16_MixerMixes.tab9 : rtab .any (opsOf Tryd.f3 9) = bitloftlaw16_MixerMixes.T9 := by kernel_rfl
theorem bitloftlaw16_MixerMixes.bits9 : waitsOk bitloftlaw16_MixerMixes.T9.2 bitloftlaw16_MixerMixes.B9 = true := by kernel_rfl
set_option maxHeartbeats 8000000 in
set_option maxRecDepth 100000 in
theorem bitloftlaw16_MixerMixes.calls (k : Nat) (a0 : Int) (a1 : Int) (A2_0 : Option Addr) (c2_0 : Nat) (l2_0 : List (List Int)) (a3 : Int) (A4 : Option Addr) (c4 : Nat) (l4 : List Int) (a5 : Int) (a6 : Bool) (r : Bool) (w : World) (hr2_0 : Kd.C (Kd.slice 21 (Kd.int .i32)) w A2_0 l2_0.length l2_0) (hc2_0 : l2_0.length ≤ c2_0) (hr4 : Kd.C (Kd.int .i32) w A4 l4.length l4) (hc4 : l4.length ≤ c4) (hT : Tab_ w) (hr_ : r = true) (h : bitloftlaw16_MixerMixes.f k a0 a1 l2_0 a3 l4 a5 a6 = some r) :
  Calls Tryd.prog 3 #[.int .i64 a0, .int .i32 a1, .agg #[.slice A2_0 l2_0.length c2_0], .int .i64 a3, .slice A4 l4.length c4, .int .i32 a5, .bool a6] w fun e w' => e = .returned (.bool r) ∧ Below w.heap.size w w' := by
 have hu24 := Tryd.underlying24; have HRT_ := Aside0.mk hr_; clear hr_; have HR2_0 := Aside0.mk hr2_0; have HC2_0 := Aside0.mk hc2_0; clear hr2_0 hc2_0; have HR4 := Aside0.mk hr4; have HC4 := Aside0.mk hc4; clear hr4 hc4; have HB := Aside0.mk (Below.refl w.heap.size w); have H : ((bitloftref16_GreatRows.f k l2_0).bind fun t173 => (if t173 = true then (bitloftlaw16_MixerMixes.j0 k a0 a1 a3 l4 a5 a6 true l2_0) else (bitloftlaw16_MixerMixes.j0 k a0 a1 a3 l4 a5 a6 (decide ((l4.length : Int) > 100)) l2_0))) = some r := h; clear h; have HC8 := Aside0.mk H; clear H
 go_enter Tryd.func3, Tryd.ntmps3
 go_upto_region 1 with (first | ((with_reducible refine gate_dst (N := 9) rfl ?_); (try (refine gate_guard (by rfl) ?_; dsimp only)); refine box_event ?hg (N := 9) ?hd (cs := #[.slice A2_0 l2_0.length c2_0]) (t := 24) ?hr ?_; (case hd => rfl); (case hg => rfl); (case hr => first | (go_simp; done) | (go_simp; rfl)); intro gb172 hg w9 hbox hb; have n0_ := Aside0.mk (below_step (pH_ HB.out) hb); have n1_ := Aside0.mk (hbox); have n2_ := Aside0.mk ((by rw [hg]; exact (below_size (pH_ HB.out)) : w.heap.size ≤ gb172)); have n3_ := Aside0.mk ((by rw [hg]; exact (below_size (pH_ HB.out)) : w.heap.size ≤ gb172)); clear HB; have HB := n0_; have BK172 := n1_; have GW172 := n2_; have GE172 := n3_; clear n0_ n1_ n2_ n3_; clear hb hbox hg))
 (try simp only [Act.put, sA_, sZ_, sS_]); (with_reducible first | refine then_id_ ?_ | (refine wp_tail_ ?_; intro Kt_ hKt_))
 go_cut [36] (fun v36 wc => ∃ (kq : Nat) (x36_7 : Bool), v36 = .bool x36_7 ∧ Aside0 (bitloftlaw16_MixerMixes.j0 kq a0 a1 a3 l4 a5 a6 x36_7 l2_0 = some r) ∧ Aside0 (kq ≤ k) ∧ Aside0 (wc.heap[gb172]? = some (.cells #[(.slice A2_0 l2_0.length c2_0)] 24 (0, 0))) ∧ Aside0 (Below w.heap.size w wc))
 case first =>
  have H := HC8.out; clear HC8; replace H := Option.bind_eq_some_iff.mp H; obtain ⟨t173, A100, H⟩ := H; replace H : (if t173 = true then (bitloftlaw16_MixerMixes.j0 k a0 a1 a3 l4 a5 a6 true l2_0) else (bitloftlaw16_MixerMixes.j0 k a0 a1 a3 l4 a5 a6 (decide ((l4.length : Int) > 100)) l2_0)) = some r := H; have A10 := Aside0.mk A100; clear A100
  by_cases c11 : t173 = true
  ·
   subst c11
   have H1 : (bitloftlaw16_MixerMixes.j0 k a0 a1 a3 l4 a5 a6 true l2_0) = some r := by rw [if_pos rfl] at H; exact H
   clear H; have H := H1; clear H1; have H' := Aside0.mk H; clear H; have hcz12_0 : w9.cell? ⟨gb172, 0, none⟩ = some (.slice A2_0 l2_0.length c2_0) := (blk_cell BK172.out 0).trans rfl; have hfz12_0 := blk_frozen BK172.out 0
   go_wp2_with (first | ((with_reducible refine gate_callee (f := 8) rfl ?_); refine gL_ (some 31) Tryd.func8 #[.slice A2_0 l2_0.length c2_0] ?_; (with_reducible refine (bitloftref16_GreatRows.calls k _ _ l2_0 true _ ?side1 ?side2 A10.out).mono ?_); (case side1 => repeat (first | exact (Kd.C_below HR2_0.out HB.out) | (with_reducible refine Kd.C_alloc ?_ _) | (with_reducible refine Kd.C_drewN ?_ _) | (with_reducible refine Kd.C_drew ?_))); (case side2 => exact HC2_0.out); rintro e w' ⟨rfl, ⟨nd, rfl⟩⟩; refine ⟨_, rfl, ?_⟩))
   go_meet
   case rel => exact ⟨_, (true), (by first | rfl | (simp; done) | (simp [*]; done)), H', ⟨by first | omega | exact Nat.le_refl _⟩, ⟨pG_ BK172.out⟩, ⟨pH_ HB.out⟩⟩
  ·
   replace c11 := Bool.eq_false_iff.mpr c11
   subst c11
   have H1 : (bitloftlaw16_MixerMixes.j0 k a0 a1 a3 l4 a5 a6 (decide ((l4.length : Int) > 100)) l2_0) = some r := by rw [if_neg (show ¬ (false = true) by decide)] at H; exact H
   clear H; have H := H1; clear H1; have H' := Aside0.mk H; clear H; have hcz13_0 : w9.cell? ⟨gb172, 0, none⟩ = some (.slice A2_0 l2_0.length c2_0) := (blk_cell BK172.out 0).trans rfl; have hfz13_0 := blk_frozen BK172.out 0
   go_wp2_with (first | ((with_reducible refine gate_callee (f := 8) rfl ?_); refine gL_ (some 31) Tryd.func8 #[.slice A2_0 l2_0.length c2_0] ?_; (with_reducible refine (bitloftref16_GreatRows.calls k _ _ l2_0 false _ ?side1 ?side2 A10.out).mono ?_); (case side1 => repeat (first | exact (Kd.C_below HR2_0.out HB.out) | (with_reducible refine Kd.C_alloc ?_ _) | (with_reducible refine Kd.C_drewN ?_ _) | (with_reducible refine Kd.C_drew ?_))); (case side2 => exact HC2_0.out); rintro e w' ⟨rfl, ⟨nd, rfl⟩⟩; refine ⟨_, rfl, ?_⟩))
   go_meet
   case rel => exact ⟨_, (decide ((l4.length : Int) > 100)), (by first | rfl | (simp; done) | (simp [*]; done)), H', ⟨by first | omega | exact Nat.le_refl _⟩, ⟨pG_ BK172.out⟩, ⟨pH_ HB.out⟩⟩
 case rest =>
  (try (refine hKt_ _ _ ?_; clear hKt_; clear Kt_)); clear HC8
  try clear c1
  try clear c2
  try clear p2
  try clear c3
  try clear c4
  try clear c8
  try clear c11
  try clear hcz12_0
  try clear hcz13_0
  try clear hfz12_0
  try clear hfz13_0
  obtain ⟨kq, x36_7, rfl, HA, HJ7, BK172, HB⟩ := hcut
  cases kq with
  | zero => exact absurd HA.out (by simp [bitloftlaw16_MixerMixes.j0])
  | succ kj7 =>
   have H := HA.out; clear HA; simp only [bitloftlaw16_MixerMixes.j0] at H
   by_cases c14 : x36_7 = true
   ·
    subst c14
    have H1 : (some true) = some r := by rw [if_pos rfl] at H; exact H
    clear H; have H := H1; clear H1; obtain rfl := Option.some.inj H
    go_wp2
    go_ret
    exact ⟨by first | rfl | (simp [errW_none, errW_some] <;> rfl) | (simp [*, errW_none, errW_some] <;> rfl), pH_ HB.out⟩
   ·
    replace c14 := Bool.eq_false_iff.mpr c14
    subst c14
    have H1 : ((mixer_New.f kj7 a0 a1).bind fun bt174 => ((bitloftref16_New.f kj7 a0 a1).bind fun bt179 => ((mixer_Mix.f kj7 l2_0 a3 l4).bind fun bt184 => ((bitloftref16_Mix.f kj7 l2_0 a3 l4).bind fun bt187 => ((mixer_Wrong.f a5 a6).bind fun bt190 => ((bitloftref16_Wrong.f a5 a6).bind fun bt192 => ((bitloftref16_Same.f kj7 bt174.1 bt179.1).bind fun t194 => (if t194 = true then (if bt174.2 = bt179.2 then ((mixer_Check.f l2_0).bind fun t195 => ((bitloftref16_Check.f kj7 l2_0).bind fun t196 => (if t195 = t196 then (if bt184.1 = bt187.1 then (if bt184.2.1 = bt187.2.1 then (if bt184.2.2 = bt187.2.2 then (if bt190.1 = bt192.1 then (bitloftlaw16_MixerMixes.j1 kj7 (bt190.2 == bt192.2)) else (bitloftlaw16_MixerMixes.j1 kj7 false)) else (bitloftlaw16_MixerMixes.j1 kj7 false)) else (bitloftlaw16_MixerMixes.j1 kj7 false)) else (bitloftlaw16_MixerMixes.j1 kj7 false)) else (bitloftlaw16_MixerMixes.j1 kj7 false)))) else (bitloftlaw16_MixerMixes.j1 kj7 false)) else (bitloftlaw16_MixerMixes.j1 kj7 false))))))))) = some r := by rw [if_neg (show ¬ (false = true) by decide)] at H; exact H
    clear H; have H := H1; clear H1; replace H := Option.bind_eq_some_iff.mp H; obtain ⟨⟨t174, t177⟩, A150, H⟩ := H; replace H : ((bitloftref16_New.f kj7 a0 a1).bind fun bt179 => ((mixer_Mix.f kj7 l2_0 a3 l4).bind fun bt184 => ((bitloftref16_Mix.f kj7 l2_0 a3 l4).bind fun bt187 => ((mixer_Wrong.f a5 a6).bind fun bt190 => ((bitloftref16_Wrong.f a5 a6).bind fun bt192 => ((bitloftref16_Same.f kj7 t174 bt179.1).bind fun t194 => (if t194 = true then (if t177 = bt179.2 then ((mixer_Check.f l2_0).bind fun t195 => ((bitloftref16_Check.f kj7 l2_0).bind fun t196 => (if t195 = t196 then (if bt184.1 = bt187.1 then (if bt184.2.1 = bt187.2.1 then (if bt184.2.2 = bt187.2.2 then (if bt190.1 = bt192.1 then (bitloftlaw16_MixerMixes.j1 kj7 (bt190.2 == bt192.2)) else (bitloftlaw16_MixerMixes.j1 kj7 false)) else (bitloftlaw16_MixerMixes.j1 kj7 false)) else (bitloftlaw16_MixerMixes.j1 kj7 false)) else (bitloftlaw16_MixerMixes.j1 kj7 false)) else (bitloftlaw16_MixerMixes.j1 kj7 false)))) else (bitloftlaw16_MixerMixes.j1 kj7 false)) else (bitloftlaw16_MixerMixes.j1 kj7 false)))))))) = some r := H; have A15 := Aside0.mk A150; clear A150; replace H := Option.bind_eq_some_iff.mp H; obtain ⟨⟨t179, t182⟩, A160, H⟩ := H; replace H : ((mixer_Mix.f kj7 l2_0 a3 l4).bind fun bt184 => ((bitloftref16_Mix.f kj7 l2_0 a3 l4).bind fun bt187 => ((mixer_Wrong.f a5 a6).bind fun bt190 => ((bitloftref16_Wrong.f a5 a6).bind fun bt192 => ((bitloftref16_Same.f kj7 t174 t179).bind fun t194 => (if t194 = true then (if t177 = t182 then ((mixer_Check.f l2_0).bind fun t195 => ((bitloftref16_Check.f kj7 l2_0).bind fun t196 => (if t195 = t196 then (if bt184.1 = bt187.1 then (if bt184.2.1 = bt187.2.1 then (if bt184.2.2 = bt187.2.2 then (if bt190.1 = bt192.1 then (bitloftlaw16_MixerMixes.j1 kj7 (bt190.2 == bt192.2)) else (bitloftlaw16_MixerMixes.j1 kj7 false)) else (bitloftlaw16_MixerMixes.j1 kj7 false)) else (bitloftlaw16_MixerMixes.j1 kj7 false)) else (bitloftlaw16_MixerMixes.j1 kj7 false)) else (bitloftlaw16_MixerMixes.j1 kj7 false)))) else (bitloftlaw16_MixerMixes.j1 kj7 false)) else (bitloftlaw16_MixerMixes.j1 kj7 false))))))) = some r := H; have A16 := Aside0.mk A160; clear A160; replace H := Option.bind_eq_some_iff.mp H; obtain ⟨⟨t184, t185, t186⟩, A170, H⟩ := H; replace H : ((bitloftref16_Mix.f kj7 l2_0 a3 l4).bind fun bt187 => ((mixer_Wrong.f a5 a6).bind fun bt190 => ((bitloftref16_Wrong.f a5 a6).bind fun bt192 => ((bitloftref16_Same.f kj7 t174 t179).bind fun t194 => (if t194 = true then (if t177 = t182 then ((mixer_Check.f l2_0).bind fun t195 => ((bitloftref16_Check.f kj7 l2_0).bind fun t196 => (if t195 = t196 then (if t184 = bt187.1 then (if t185 = bt187.2.1 then (if t186 = bt187.2.2 then (if bt190.1 = bt192.1 then (bitloftlaw16_MixerMixes.j1 kj7 (bt190.2 == bt192.2)) else (bitloftlaw16_MixerMixes.j1 kj7 false)) else (bitloftlaw16_MixerMixes.j1 kj7 false)) else (bitloftlaw16_MixerMixes.j1 kj7 false)) else (bitloftlaw16_MixerMixes.j1 kj7 false)) else (bitloftlaw16_MixerMixes.j1 kj7 false)))) else (bitloftlaw16_MixerMixes.j1 kj7 false)) else (bitloftlaw16_MixerMixes.j1 kj7 false)))))) = some r := H; have A17 := Aside0.mk A170; clear A170; replace H := Option.bind_eq_some_iff.mp H; obtain ⟨⟨t187, t188, t189⟩, A180, H⟩ := H; replace H : ((mixer_Wrong.f a5 a6).bind fun bt190 => ((bitloftref16_Wrong.f a5 a6).bind fun bt192 => ((bitloftref16_Same.f kj7 t174 t179).bind fun t194 => (if t194 = true then (if t177 = t182 then ((mixer_Check.f l2_0).bind fun t195 => ((bitloftref16_Check.f kj7 l2_0).bind fun t196 => (if t195 = t196 then (if t184 = t187 then (if t185 = t188 then (if t186 = t189 then (if bt190.1 = bt192.1 then (bitloftlaw16_MixerMixes.j1 kj7 (bt190.2 == bt192.2)) else (bitloftlaw16_MixerMixes.j1 kj7 false)) else (bitloftlaw16_MixerMixes.j1 kj7 false)) else (bitloftlaw16_MixerMixes.j1 kj7 false)) else (bitloftlaw16_MixerMixes.j1 kj7 false)) else (bitloftlaw16_MixerMixes.j1 kj7 false)))) else (bitloftlaw16_MixerMixes.j1 kj7 false)) else (bitloftlaw16_MixerMixes.j1 kj7 false))))) = some r := H; have A18 := Aside0.mk A180; clear A180; replace H := Option.bind_eq_some_iff.mp H; obtain ⟨⟨t190, t191⟩, A190, H⟩ := H; replace H : ((bitloftref16_Wrong.f a5 a6).bind fun bt192 => ((bitloftref16_Same.f kj7 t174 t179).bind fun t194 => (if t194 = true then (if t177 = t182 then ((mixer_Check.f l2_0).bind fun t195 => ((bitloftref16_Check.f kj7 l2_0).bind fun t196 => (if t195 = t196 then (if t184 = t187 then (if t185 = t188 then (if t186 = t189 then (if t190 = bt192.1 then (bitloftlaw16_MixerMixes.j1 kj7 (t191 == bt192.2)) else (bitloftlaw16_MixerMixes.j1 kj7 false)) else (bitloftlaw16_MixerMixes.j1 kj7 false)) else (bitloftlaw16_MixerMixes.j1 kj7 false)) else (bitloftlaw16_MixerMixes.j1 kj7 false)) else (bitloftlaw16_MixerMixes.j1 kj7 false)))) else (bitloftlaw16_MixerMixes.j1 kj7 false)) else (bitloftlaw16_MixerMixes.j1 kj7 false)))) = some r := H; have A19 := Aside0.mk A190; clear A190; replace H := Option.bind_eq_some_iff.mp H; obtain ⟨⟨t192, t193⟩, A200, H⟩ := H; replace H : ((bitloftref16_Same.f kj7 t174 t179).bind fun t194 => (if t194 = true then (if t177 = t182 then ((mixer_Check.f l2_0).bind fun t195 => ((bitloftref16_Check.f kj7 l2_0).bind fun t196 => (if t195 = t196 then (if t184 = t187 then (if t185 = t188 then (if t186 = t189 then (if t190 = t192 then (bitloftlaw16_MixerMixes.j1 kj7 (t191 == t193)) else (bitloftlaw16_MixerMixes.j1 kj7 false)) else (bitloftlaw16_MixerMixes.j1 kj7 false)) else (bitloftlaw16_MixerMixes.j1 kj7 false)) else (bitloftlaw16_MixerMixes.j1 kj7 false)) else (bitloftlaw16_MixerMixes.j1 kj7 false)))) else (bitloftlaw16_MixerMixes.j1 kj7 false)) else (bitloftlaw16_MixerMixes.j1 kj7 false))) = some r := H; have A20 := Aside0.mk A200; clear A200; have HC21 := Aside0.mk H; clear H
    go_upto_region 9 with (first | ((with_reducible refine gate_callee (f := 9) rfl ?_); refine gL_ (some 40) Tryd.func9 #[.int .i64 a0, .int .i32 a1] ?_; (with_reducible refine (mixer_New.calls kj7 a0 a1 t174 t177 _ A15.out).mono ?_); rintro e w22 ⟨v175, rfl, ho0, hb⟩; refine ⟨_, rfl, ?_⟩; have n0_ := Aside0.mk (Kd.S_lower ho0 (below_size (pH_ HB.out))); have n1_ := Aside0.mk (blk_below (pG_ BK172.out) hb); have n2_ := Aside0.mk (below_step (pH_ HB.out) hb); clear BK172; clear HB; have HO176 := n0_; have BK172 := n1_; have HB := n2_; clear n0_ n1_ n2_; (try clear hb); (try clear ho0)) | ((with_reducible refine gate_dst (N := 15) rfl ?_); (try (refine gate_guard (by rfl) ?_; dsimp only)); refine box_event ?hg (N := 15) ?hd (cs := #[.slice none 0 0]) (t := 24) ?hr ?_; (case hd => rfl); (case hg => rfl); (case hr => first | (go_simp; done) | (go_simp; rfl)); intro gb178 hg w23 hbox hb; have n0_ := Aside0.mk (Kd.S_below (by (with_reducible repeat (first | apply Kd.S_alloc | apply Kd.S_drewN | apply Kd.S_drew)); exact HO176.out) hb); have n1_ := Aside0.mk (blk_below (pG_ BK172.out) hb); have n2_ := Aside0.mk (below_step (pH_ HB.out) hb); have n3_ := Aside0.mk (hbox); have n4_ := Aside0.mk ((by rw [hg]; exact (below_size (pH_ HB.out)) : w.heap.size ≤ gb178)); have n5_ := Aside0.mk ((by rw [hg]; exact (below_size (pH_ HB.out)) : w.heap.size ≤ gb178)); have n6_ := Aside0.mk ((by rw [hg]; exact Nat.ne_of_lt (blk_lt (pG_ BK172.out)) : gb172 ≠ gb178)); have n7_ := Aside0.mk ((by rw [hg]; exact Nat.ne_of_gt (blk_lt (pG_ BK172.out)) : gb178 ≠ gb172)); clear HO176; clear BK172; clear HB; have HO176 := n0_; have BK172 := n1_; have HB := n2_; have BK178 := n3_; have GW178 := n4_; have GE178 := n5_; have NB172_178 := n6_; have NB178_172 := n7_; clear n0_ n1_ n2_ n3_ n4_ n5_ n6_ n7_; clear hb hbox hg; obtain ⟨Ao24, co24, eo24⟩ := Kd.S_slice HO176.out; subst eo24; have hnb25 := NB178_172.out; have hnc25 := NB172_178.out; have hcz26_0 : w23.cell? ⟨gb178, 0, none⟩ = some (.slice none 0 0) := (blk_cell BK178.out 0).trans rfl; have hfz26_0 := blk_frozen BK178.out 0) | ((with_reducible refine gate_callee (f := 10) rfl ?_); refine gL_ (some 46) Tryd.func10 #[.int .i64 a0, .int .i32 a1] ?_; (with_reducible refine (bitloftref16_New.calls kj7 a0 a1 t179 t182 _ A16.out).mono ?_); rintro e w27 ⟨v180, rfl, ho0, hb⟩; refine ⟨_, rfl, ?_⟩; have n0_ := Aside0.mk (Kd.S_elder' (by (with_reducible repeat (first | apply Kd.S_alloc | apply Kd.S_drewN | apply Kd.S_drew)); exact (Kd.S_mono (Kd.S_far (p := ⟨gb178, 0, none⟩) (Kd.S_types HO176.out BK178.out (by decide)) (fun _ hk => hk.2) (.slice Ao24 t174.length co24)) (fun _ h_ => h_.1))) (Kd.S_base ho0) hb); have n1_ := Aside0.mk (Kd.S_lower (Kd.S_new' ho0 (Kd.S_lt (by (with_reducible repeat (first | apply Kd.S_alloc | apply Kd.S_drewN | apply Kd.S_drew)); exact (Kd.S_mono (Kd.S_far (p := ⟨gb178, 0, none⟩) (Kd.S_types HO176.out BK178.out (by decide)) (fun _ hk => hk.2) (.slice Ao24 t174.length co24)) (fun _ h_ => h_.1))))) (below_size (pH_ HB.out))); have n2_ := Aside0.mk (blk_below (g := gb172) (o := .cells #[.slice A2_0 l2_0.length c2_0] 24 (0, 0)) (by (with_reducible repeat (first | refine blk_drewN ?_ _ | refine blk_drew ?_ | refine blk_alloc ?_ _)); refine blk_far ?_ NB172_178.out _; (with_reducible repeat (first | refine blk_drewN ?_ _ | refine blk_drew ?_ | refine blk_alloc ?_ _)); exact BK172.out) hb); have n3_ := Aside0.mk (blk_below (g := gb178) (o := .cells #[.slice Ao24 t174.length co24] 24 (0, 0)) (by (with_reducible repeat (first | refine blk_drewN ?_ _ | refine blk_drew ?_ | refine blk_alloc ?_ _)); refine blk_put (cs := #[.slice none 0 0]) ?_ 0 _ rfl; (with_reducible repeat (first | refine blk_drewN ?_ _ | refine blk_drew ?_ | refine blk_alloc ?_ _)); exact BK178.out) hb); have n4_ := Aside0.mk (below_step (pH_ HB.out) hb); clear HO176; clear BK172; clear BK178; clear HB; have HO176 := n0_; have HO181 := n1_; have BK172 := n2_; have BK178 := n3_; have HB := n4_; clear n0_ n1_ n2_ n3_ n4_; (try clear hb); (try clear ho0)) | ((with_reducible refine gate_dst (N := 17) rfl ?_); (try (refine gate_guard (by rfl) ?_; dsimp only)); refine box_event ?hg (N := 17) ?hd (cs := #[.slice none 0 0]) (t := 24) ?hr ?_; (case hd => rfl); (case hg => rfl); (case hr => first | (go_simp; done) | (go_simp; rfl)); intro gb183 hg w28 hbox hb; have n0_ := Aside0.mk (Kd.S_below (by (with_reducible repeat (first | apply Kd.S_alloc | apply Kd.S_drewN | apply Kd.S_drew)); exact HO176.out) hb); have n1_ := Aside0.mk (Kd.S_below (by (with_reducible repeat (first | apply Kd.S_alloc | apply Kd.S_drewN | apply Kd.S_drew)); exact HO181.out) hb); have n2_ := Aside0.mk (blk_below (pG_ BK172.out) hb); have n3_ := Aside0.mk (blk_below (pG_ BK178.out) hb); have n4_ := Aside0.mk (below_step (pH_ HB.out) hb); have n5_ := Aside0.mk (hbox); have n6_ := Aside0.mk ((by rw [hg]; exact (below_size (pH_ HB.out)) : w.heap.size ≤ gb183)); have n7_ := Aside0.mk ((by rw [hg]; exact (below_size (pH_ HB.out)) : w.heap.size ≤ gb183)); have n8_ := Aside0.mk ((by rw [hg]; exact Nat.ne_of_lt (blk_lt (pG_ BK172.out)) : gb172 ≠ gb183)); have n9_ := Aside0.mk ((by rw [hg]; exact Nat.ne_of_gt (blk_lt (pG_ BK172.out)) : gb183 ≠ gb172)); have n10_ := Aside0.mk ((by rw [hg]; exact Nat.ne_of_lt (blk_lt (pG_ BK178.out)) : gb178 ≠ gb183)); have n11_ := Aside0.mk ((by rw [hg]; exact Nat.ne_of_gt (blk_lt (pG_ BK178.out)) : gb183 ≠ gb178)); clear HO176; clear HO181; clear BK172; clear BK178; clear HB; have HO176 := n0_; have HO181 := n1_; have BK172 := n2_; have BK178 := n3_; have HB := n4_; have BK183 := n5_; have GW183 := n6_; have GE183 := n7_; have NB172_183 := n8_; have NB183_172 := n9_; have NB178_183 := n10_; have NB183_178 := n11_; clear n0_ n1_ n2_ n3_ n4_ n5_ n6_ n7_ n8_ n9_ n10_ n11_; clear hb hbox hg; obtain ⟨Ao29, co29, eo29⟩ := Kd.S_slice HO181.out; subst eo29; have hnb30 := NB183_172.out; have hnc30 := NB172_183.out; have hnb31 := NB183_178.out; have hnc31 := NB178_183.out; have hcz32_0 : w28.cell? ⟨gb183, 0, none⟩ = some (.slice none 0 0) := (blk_cell BK183.out 0).trans rfl; have hfz32_0 := blk_frozen BK183.out 0; have hcz33_0 : w28.cell? ⟨gb172, 0, none⟩ = some (.slice A2_0 l2_0.length c2_0) := (blk_cell BK172.out 0).trans rfl; have hfz33_0 := blk_frozen BK172.out 0) | ((with_reducible refine gate_callee (f := 11) rfl ?_); refine gL_ (some 53) Tryd.func11 #[.agg #[.slice A2_0 l2_0.length c2_0], .int .i64 a3, .slice A4 l4.length c4] ?_; (with_reducible refine (mixer_Mix.calls kj7 _ _ l2_0 a3 _ _ l4 t184 t185 t186 _ ?side1 ?side2 ?side3 ?side4 (tab_bel hT (pH_ HB.out)) A17.out).mono ?_); (case side1 => exact Kd.C_below HR2_0.out (pH_ HB.out)); (case side2 => exact HC2_0.out); (case side3 => exact Kd.C_below HR4.out (pH_ HB.out)); (case side4 => exact HC4.out); rintro e w34 ⟨rfl, hb⟩; refine ⟨_, rfl, ?_⟩; have n0_ := Aside0.mk (Kd.S_below (by (with_reducible repeat (first | apply Kd.S_alloc | apply Kd.S_drewN | apply Kd.S_drew)); exact (Kd.S_mono (Kd.S_far (p := ⟨gb183, 0, none⟩) (Kd.S_types HO176.out BK183.out (by decide)) (fun _ hk => hk.2) (.slice Ao29 t179.length co29)) (fun _ h_ => h_.1))) hb); have n1_ := Aside0.mk (Kd.S_below (by (with_reducible repeat (first | apply Kd.S_alloc | apply Kd.S_drewN | apply Kd.S_drew)); exact (Kd.S_mono (Kd.S_far (p := ⟨gb183, 0, none⟩) (Kd.S_types HO181.out BK183.out (by decide)) (fun _ hk => hk.2) (.slice Ao29 t179.length co29)) (fun _ h_ => h_.1))) hb); have n2_ := Aside0.mk (blk_below (g := gb172) (o := .cells #[.slice A2_0 l2_0.length c2_0] 24 (0, 0)) (by (with_reducible repeat (first | refine blk_drewN ?_ _ | refine blk_drew ?_ | refine blk_alloc ?_ _)); refine blk_far ?_ NB172_183.out _; (with_reducible repeat (first | refine blk_drewN ?_ _ | refine blk_drew ?_ | refine blk_alloc ?_ _)); exact BK172.out) hb); have n3_ := Aside0.mk (blk_below (g := gb178) (o := .cells #[.slice Ao24 t174.length co24] 24 (0, 0)) (by (with_reducible repeat (first | refine blk_drewN ?_ _ | refine blk_drew ?_ | refine blk_alloc ?_ _)); refine blk_far ?_ NB178_183.out _; (with_reducible repeat (first | refine blk_drewN ?_ _ | refine blk_drew ?_ | refine blk_alloc ?_ _)); exact BK178.out) hb); have n4_ := Aside0.mk (blk_below (g := gb183) (o := .cells #[.slice Ao29 t179.length co29] 24 (0, 0)) (by (with_reducible repeat (first | refine blk_drewN ?_ _ | refine blk_drew ?_ | refine blk_alloc ?_ _)); refine blk_put (cs := #[.slice none 0 0]) ?_ 0 _ rfl; (with_reducible repeat (first | refine blk_drewN ?_ _ | refine blk_drew ?_ | refine blk_alloc ?_ _)); exact BK183.out) hb); have n5_ := Aside0.mk (below_step (pH_ HB.out) hb); clear HO176; clear HO181; clear BK172; clear BK178; clear BK183; clear HB; have HO176 := n0_; have HO181 := n1_; have BK172 := n2_; have BK178 := n3_; have BK183 := n4_; have HB := n5_; clear n0_ n1_ n2_ n3_ n4_ n5_; (try clear hb); have hcz35_0 : w34.cell? ⟨gb172, 0, none⟩ = some (.slice A2_0 l2_0.length c2_0) := (blk_cell BK172.out 0).trans rfl; have hfz35_0 := blk_frozen BK172.out 0) | ((with_reducible refine gate_callee (f := 12) rfl ?_); refine gL_ (some 61) Tryd.func12 #[.agg #[.slice A2_0 l2_0.length c2_0], .int .i64 a3, .slice A4 l4.length c4] ?_; (with_reducible refine (bitloftref16_Mix.calls kj7 _ _ l2_0 a3 _ _ l4 t187 t188 t189 _ ?side1 ?side2 ?side3 ?side4 A18.out).mono ?_); (case side1 => repeat (first | exact (Kd.C_below HR2_0.out HB.out) | (with_reducible refine Kd.C_alloc ?_ _) | (with_reducible refine Kd.C_drewN ?_ _) | (with_reducible refine Kd.C_drew ?_))); (case side2 => exact HC2_0.out); (case side3 => repeat (first | exact (Kd.C_below HR4.out HB.out) | (with_reducible refine Kd.C_alloc ?_ _) | (with_reducible refine Kd.C_drewN ?_ _) | (with_reducible refine Kd.C_drew ?_))); (case side4 => exact HC4.out); rintro e w36 ⟨rfl, hb⟩; refine ⟨_, rfl, ?_⟩; have n0_ := Aside0.mk (Kd.S_below (by (with_reducible repeat (first | apply Kd.S_alloc | apply Kd.S_drewN | apply Kd.S_drew)); exact HO176.out) hb); have n1_ := Aside0.mk (Kd.S_below (by (with_reducible repeat (first | apply Kd.S_alloc | apply Kd.S_drewN | apply Kd.S_drew)); exact HO181.out) hb); have n2_ := Aside0.mk (blk_below (pG_ BK172.out) hb); have n3_ := Aside0.mk (blk_below (pG_ BK178.out) hb); have n4_ := Aside0.mk (blk_below (pG_ BK183.out) hb); have n5_ := Aside0.mk (below_step (pH_ HB.out) hb); clear HO176; clear HO181; clear BK172; clear BK178; clear BK183; clear HB; have HO176 := n0_; have HO181 := n1_; have BK172 := n2_; have BK178 := n3_; have BK183 := n4_; have HB := n5_; clear n0_ n1_ n2_ n3_ n4_ n5_; (try clear hb)) | ((with_reducible refine gate_callee (f := 13) rfl ?_); refine gL_ (some 68) Tryd.func13 #[.int .i32 a5, .bool a6] ?_; (with_reducible refine (mixer_Wrong.calls a5 a6 t190 t191 _ A19.out).mono ?_); rintro e w' ⟨rfl, ⟨nd, rfl⟩⟩; refine ⟨_, rfl, ?_⟩) | ((with_reducible refine gate_callee (f := 14) rfl ?_); refine gL_ (some 74) Tryd.func14 #[.int .i32 a5, .bool a6] ?_; (with_reducible refine (bitloftref16_Wrong.calls a5 a6 t192 t193 _ A20.out).mono ?_); rintro e w' ⟨rfl, ⟨nd, rfl⟩⟩; refine ⟨_, rfl, ?_⟩))
    (try simp only [Act.put, sA_, sZ_, sS_]); (with_reducible first | refine then_id_ ?_ | (refine wp_tail_ ?_; intro Kt_ hKt_))
    go_cut [14] (fun v14 wc => ∃ (kq : Nat) (x14_20 : Bool), v14 = .bool x14_20 ∧ Aside0 (bitloftlaw16_MixerMixes.j1 kq x14_20 = some r) ∧ Aside0 (kq ≤ kj7) ∧ Aside0 (Kd.S (Kd.slice 21 (Kd.int .i32)) 25 wc w.heap.size (fun k_ => some k_ ≠ ((.slice Ao29 t179.length co29) : Value).ownBlock) (.slice Ao24 t174.length co24) t174) ∧ Aside0 (Kd.S (Kd.slice 21 (Kd.int .i32)) 25 wc w.heap.size (fun k_ => some k_ ≠ ((.slice Ao24 t174.length co24) : Value).ownBlock) (.slice Ao29 t179.length co29) t179) ∧ Aside0 (wc.heap[gb172]? = some (.cells #[(.slice A2_0 l2_0.length c2_0)] 24 (0, 0))) ∧ Aside0 (wc.heap[gb178]? = some (.cells #[(.slice Ao24 t174.length co24)] 24 (0, 0))) ∧ Aside0 (wc.heap[gb183]? = some (.cells #[(.slice Ao29 t179.length co29)] 24 (0, 0))) ∧ Aside0 (Below w.heap.size w wc))
    case first =>
     have H := HC21.out; clear HC21; replace H := Option.bind_eq_some_iff.mp H; obtain ⟨t194, A370, H⟩ := H; replace H : (if t194 = true then (if t177 = t182 then ((mixer_Check.f l2_0).bind fun t195 => ((bitloftref16_Check.f kj7 l2_0).bind fun t196 => (if t195 = t196 then (if t184 = t187 then (if t185 = t188 then (if t186 = t189 then (if t190 = t192 then (bitloftlaw16_MixerMixes.j1 kj7 (t191 == t193)) else (bitloftlaw16_MixerMixes.j1 kj7 false)) else (bitloftlaw16_MixerMixes.j1 kj7 false)) else (bitloftlaw16_MixerMixes.j1 kj7 false)) else (bitloftlaw16_MixerMixes.j1 kj7 false)) else (bitloftlaw16_MixerMixes.j1 kj7 false)))) else (bitloftlaw16_MixerMixes.j1 kj7 false)) else (bitloftlaw16_MixerMixes.j1 kj7 false)) = some r := H; have A37 := Aside0.mk A370; clear A370
     by_cases c38 : t194 = true
     ·
      subst c38
      have H1 : (if t177 = t182 then ((mixer_Check.f l2_0).bind fun t195 => ((bitloftref16_Check.f kj7 l2_0).bind fun t196 => (if t195 = t196 then (if t184 = t187 then (if t185 = t188 then (if t186 = t189 then (if t190 = t192 then (bitloftlaw16_MixerMixes.j1 kj7 (t191 == t193)) else (bitloftlaw16_MixerMixes.j1 kj7 false)) else (bitloftlaw16_MixerMixes.j1 kj7 false)) else (bitloftlaw16_MixerMixes.j1 kj7 false)) else (bitloftlaw16_MixerMixes.j1 kj7 false)) else (bitloftlaw16_MixerMixes.j1 kj7 false)))) else (bitloftlaw16_MixerMixes.j1 kj7 false)) = some r := by rw [if_pos rfl] at H; exact H
      clear H; have H := H1; clear H1
      by_cases c39 : t177 = t182
      ·
       rw [if_pos c39] at H; have c39b0 : (t177 == t182) = true := beq_iff_eq.mpr c39; have c39b1 : (t177 != t182) = false := bne_eq_false_iff_eq.mpr c39; clear c39; (first | rw [c39b0] | (simp only [i64_w, i32_w]; rw [c39b0]) | skip); replace H := Option.bind_eq_some_iff.mp H; obtain ⟨t195, A400, H⟩ := H; replace H : ((bitloftref16_Check.f kj7 l2_0).bind fun t196 => (if t195 = t196 then (if t184 = t187 then (if t185 = t188 then (if t186 = t189 then (if t190 = t192 then (bitloftlaw16_MixerMixes.j1 kj7 (t191 == t193)) else (bitloftlaw16_MixerMixes.j1 kj7 false)) else (bitloftlaw16_MixerMixes.j1 kj7 false)) else (bitloftlaw16_MixerMixes.j1 kj7 false)) else (bitloftlaw16_MixerMixes.j1 kj7 false)) else (bitloftlaw16_MixerMixes.j1 kj7 false))) = some r := H; have A40 := Aside0.mk A400; clear A400; replace H := Option.bind_eq_some_iff.mp H; obtain ⟨t196, A410, H⟩ := H; replace H : (if t195 = t196 then (if t184 = t187 then (if t185 = t188 then (if t186 = t189 then (if t190 = t192 then (bitloftlaw16_MixerMixes.j1 kj7 (t191 == t193)) else (bitloftlaw16_MixerMixes.j1 kj7 false)) else (bitloftlaw16_MixerMixes.j1 kj7 false)) else (bitloftlaw16_MixerMixes.j1 kj7 false)) else (bitloftlaw16_MixerMixes.j1 kj7 false)) else (bitloftlaw16_MixerMixes.j1 kj7 false)) = some r := H; have A41 := Aside0.mk A410; clear A410
       by_cases c42 : t195 = t196
       ·
        rw [if_pos c42] at H; have c42b0 : (t195 == t196) = true := beq_iff_eq.mpr c42; have c42b1 : (t195 != t196) = false := bne_eq_false_iff_eq.mpr c42; clear c42
        by_cases c43 : t184 = t187
        ·
         rw [if_pos c43] at H; have c43b0 : (t184 == t187) = true := beq_iff_eq.mpr c43; have c43b1 : (t184 != t187) = false := bne_eq_false_iff_eq.mpr c43; clear c43
         by_cases c44 : t185 = t188
         ·
          rw [if_pos c44] at H; have c44b0 : (t185 == t188) = true := beq_iff_eq.mpr c44; have c44b1 : (t185 != t188) = false := bne_eq_false_iff_eq.mpr c44; clear c44
          by_cases c45 : t186 = t189
          ·
           rw [if_pos c45] at H; have c45b0 : (t186 == t189) = true := beq_iff_eq.mpr c45; have c45b1 : (t186 != t189) = false := bne_eq_false_iff_eq.mpr c45; clear c45
           by_cases c46 : t190 = t192
           ·
            rw [if_pos c46] at H; have c46b0 : (t190 == t192) = true := beq_iff_eq.mpr c46; have c46b1 : (t190 != t192) = false := bne_eq_false_iff_eq.mpr c46; clear c46; have H' := Aside0.mk H; clear H
            try go_wp2
            (try (rw [drewN_self w36]; generalize hq_ : World.drewN w36 _ = w36; have n0_ := Aside0.mk (Kd.S_at hq_ HO176.out); have n1_ := Aside0.mk (Kd.S_at hq_ HO181.out); have n2_ := Aside0.mk (blk_at hq_ BK172.out); have n3_ := Aside0.mk (blk_at hq_ BK178.out); have n4_ := Aside0.mk (blk_at hq_ BK183.out); have n5_ := Aside0.mk (below_at hq_ HB.out); clear hq_ HO176 HO181 BK172 BK178 BK183 HB; have HO176 := n0_; have HO181 := n1_; have BK172 := n2_; have BK178 := n3_; have BK183 := n4_; have HB := n5_; clear n0_ n1_ n2_ n3_ n4_ n5_)); have n0_ := Aside0.mk (Kd.S_drew HO176.out); have n1_ := Aside0.mk (Kd.S_drew HO181.out); have n2_ := Aside0.mk (blk_drew BK172.out); have n3_ := Aside0.mk (blk_drew BK178.out); have n4_ := Aside0.mk (blk_drew BK183.out); have n5_ := Aside0.mk (below_drew1 HB.out); clear HO176; clear HO181; clear BK172; clear BK178; clear BK183; clear HB; have HO176 := n0_; have HO181 := n1_; have BK172 := n2_; have BK178 := n3_; have BK183 := n4_; have HB := n5_; clear n0_ n1_ n2_ n3_ n4_ n5_; refine start_ (n := 41) (S := fun w' => w'.cell? ⟨gb178, 0, none⟩ = some (.slice Ao24 t174.length co24) ∧ w'.cell? ⟨gb183, 0, none⟩ = some (.slice Ao29 t179.length co29) ∧ w'.cell? ⟨gb172, 0, none⟩ = some (.slice A2_0 l2_0.length c2_0)) (ds := []) #[f_, f_, f_, f_, f_, f_, f_, f_, f_, f_, f_, f_, f_, f_, f_, f_, f_, f_, f_, f_, f_, f_, f_, f_, f_, f_, f_, f_, f_, f_, f_, f_, f_, f_, f_, f_, f_, f_, f_, f_, f_] (by kernel_rfl) rfl rfl ⟨(blk_cell BK178.out 0).trans rfl, (blk_cell BK183.out 0).trans rfl, (blk_cell BK172.out 0).trans rfl⟩ (fun hHeld => ?_); refine with_tabW bitloftlaw16_MixerMixes.tab9 bitloftlaw16_MixerMixes.bits9 (fun HT_ HW_ => ?_)
            generalize w36.drew = w47 at HO176 HO181 BK172 BK178 BK183 HB hHeld ⊢
            refine take_ (i := 0) (N := some 77) (v := ?_) (a' := ?_) #[t_, f_, f_, f_, f_, f_, f_, f_, f_, f_, f_, f_, f_, f_, f_, f_, f_, f_, f_, f_, f_, f_, f_, f_, f_, f_, f_, f_, f_, f_, f_, f_, f_, f_, f_, f_, f_, f_, f_, f_, f_] rfl rfl (take_ofW HT_.out HW_.out (by kernel_rfl)) (fun _ _ _ h => h) (Or.inl ⟨by rfl, ?_⟩) hHeld ?_ ?_; rotate_left
            ·
             rintro w' ⟨s0, s1, s2⟩
             go_simp
             with_reducible rfl
            rotate_left
            ·
             simp only [Act.put, sA_, sZ_, sS_, i64_w, i32_w]; rfl
            refine take_ (i := 1) (N := some 78) (v := ?_) (a' := ?_) #[t_, t_, f_, f_, f_, f_, f_, f_, f_, f_, f_, f_, f_, f_, f_, f_, f_, f_, f_, f_, f_, f_, f_, f_, f_, f_, f_, f_, f_, f_, f_, f_, f_, f_, f_, f_, f_, f_, f_, f_, f_] rfl rfl (take_ofW HT_.out HW_.out (by kernel_rfl)) (fun _ _ _ h => h) (Or.inl ⟨by rfl, ?_⟩) hHeld ?_ ?_; rotate_left
            ·
             rintro w' ⟨s0, s1, s2⟩
             go_simp
             with_reducible rfl
            rotate_left
            ·
             simp only [Act.put, sA_, sZ_, sS_, i64_w, i32_w]; rfl
            refine one_ (i := 2) (N := some 79) #[t_, t_, t_, f_, f_, f_, f_, f_, f_, f_, f_, f_, f_, f_, f_, f_, f_, f_, f_, f_, f_, f_, f_, f_, f_, f_, f_, f_, f_, f_, f_, f_, f_, f_, f_, f_, f_, f_, f_, f_, f_] rfl rfl (one_of HT_.out (by kernel_rfl)) (by decide) (fun K hK => ?_); refine goes_ Tryd.func15 (by kernel_rfl) rfl #[.agg #[.slice Ao24 t174.length co24], .agg #[.slice Ao29 t179.length co29]] (by rfl) rfl rfl (by (try simp only [List.map_toArray, List.map_cons, List.map_nil]); first | done | rfl | (simp only [List.length_drop, List.length_take]; rfl)) ?_
            with_reducible refine (bitloftref16_Same.calls kj7 _ _ t174 _ _ t179 true _ ?side1 ?side2 ?side3 ?side4 A37.out).mono ?_
            (case side1 => repeat (first | exact (Kd.S_reads' HO176.out).2.2 | (with_reducible refine Kd.C_alloc ?_ _) | (with_reducible refine Kd.C_drewN ?_ _) | (with_reducible refine Kd.C_drew ?_))); (case side2 => exact (Kd.S_reads' HO176.out).2.1); (case side3 => repeat (first | exact (Kd.S_reads' HO181.out).2.2 | (with_reducible refine Kd.C_alloc ?_ _) | (with_reducible refine Kd.C_drewN ?_ _) | (with_reducible refine Kd.C_drew ?_))); (case side4 => exact (Kd.S_reads' HO181.out).2.1)
            rintro e w48 ⟨rfl, hb⟩
            refine ⟨_, rfl, ?_⟩; have n0_ := Aside0.mk (Kd.S_below (by (with_reducible repeat (first | apply Kd.S_alloc | apply Kd.S_drewN | apply Kd.S_drew)); exact HO176.out) hb); have n1_ := Aside0.mk (Kd.S_below (by (with_reducible repeat (first | apply Kd.S_alloc | apply Kd.S_drewN | apply Kd.S_drew)); exact HO181.out) hb); have n2_ := Aside0.mk (blk_below (pG_ BK172.out) hb); have n3_ := Aside0.mk (blk_below (pG_ BK178.out) hb); have n4_ := Aside0.mk (blk_below (pG_ BK183.out) hb); have n5_ := Aside0.mk (below_step (pH_ HB.out) hb); clear HO176; clear HO181; clear BK172; clear BK178; clear BK183; clear HB; have HO176 := n0_; have HO181 := n1_; have BK172 := n2_; have BK178 := n3_; have BK183 := n4_; have HB := n5_; clear n0_ n1_ n2_ n3_ n4_ n5_; (try clear hb); (try clear hb2); (try clear hk); (try clear hi); refine hK.out _ _ ⟨(blk_cell BK178.out 0).trans rfl, (blk_cell BK183.out 0).trans rfl, (blk_cell BK172.out 0).trans rfl⟩ (fun hHeld => ?_); clear hK K; refine norm_ (a' := ?_) ?_ ?_; rotate_left
            ·
             show Act.put _ (some 79) _ = _
             simp only [Act.put, sA_, sZ_, sS_, i64_w, i32_w]; rfl
            refine pure_ (i := 3) (N := some 80) (v := ?_) (a' := ?_) #[t_, t_, t_, t_, f_, f_, f_, f_, f_, f_, f_, f_, f_, f_, f_, f_, f_, f_, f_, f_, f_, f_, f_, f_, f_, f_, f_, f_, f_, f_, f_, f_, f_, f_, f_, f_, f_, f_, f_, f_, f_] rfl rfl (any_of HT_.out (by kernel_rfl)) (fun _ _ _ h => h) (Or.inl ⟨by rfl, ?_⟩) ?_ ?_; rotate_left
            ·
             intro w'; go_simp
             with_reducible rfl
            rotate_left
            ·
             simp only [Act.put, sA_, sZ_, sS_, i64_w, i32_w]; rfl
            refine pure_ (i := 4) (N := some 81) (v := ?_) (a' := ?_) #[t_, t_, t_, t_, t_, f_, f_, f_, f_, f_, f_, f_, f_, f_, f_, f_, f_, f_, f_, f_, f_, f_, f_, f_, f_, f_, f_, f_, f_, f_, f_, f_, f_, f_, f_, f_, f_, f_, f_, f_, f_] rfl rfl (any_of HT_.out (by kernel_rfl)) (fun _ _ _ h => h) (Or.inl ⟨by rfl, ?_⟩) ?_ ?_; rotate_left
            ·
             intro w'; go_simp
             with_reducible rfl
            rotate_left
            ·
             simp only [Act.put, sA_, sZ_, sS_, i64_w, i32_w]; rfl
            refine pure_ (i := 5) (N := some 82) (v := ?_) (a' := ?_) #[t_, t_, t_, t_, t_, t_, f_, f_, f_, f_, f_, f_, f_, f_, f_, f_, f_, f_, f_, f_, f_, f_, f_, f_, f_, f_, f_, f_, f_, f_, f_, f_, f_, f_, f_, f_, f_, f_, f_, f_, f_] rfl rfl (any_of HT_.out (by kernel_rfl)) (fun _ _ _ h => h) (Or.inl ⟨by rfl, ?_⟩) ?_ ?_; rotate_left
            ·
             intro w'; go_simp
             with_reducible rfl
            rotate_left
            ·
             simp only [Act.put, sA_, sZ_, sS_, i64_w, i32_w]; rfl
            refine pure_ (i := 6) (N := some 83) (v := ?_) (a' := ?_) #[t_, t_, t_, t_, t_, t_, t_, f_, f_, f_, f_, f_, f_, f_, f_, f_, f_, f_, f_, f_, f_, f_, f_, f_, f_, f_, f_, f_, f_, f_, f_, f_, f_, f_, f_, f_, f_, f_, f_, f_, f_] rfl rfl (any_of HT_.out (by kernel_rfl)) (fun _ _ _ h => h) (Or.inl ⟨by rfl, ?_⟩) ?_ ?_; rotate_left
            ·
             intro w'; go_simp
             with_reducible rfl
            rotate_left
            ·
             simp only [Act.put, sA_, sZ_, sS_, i64_w, i32_w]; rfl
            refine pure_ (i := 7) (N := some 84) (v := ?_) (a' := ?_) #[t_, t_, t_, t_, t_, t_, t_, t_, f_, f_, f_, f_, f_, f_, f_, f_, f_, f_, f_, f_, f_, f_, f_, f_, f_, f_, f_, f_, f_, f_, f_, f_, f_, f_, f_, f_, f_, f_, f_, f_, f_] rfl rfl (any_of HT_.out (by kernel_rfl)) (fun _ _ _ h => h) (Or.inl ⟨by rfl, ?_⟩) ?_ ?_; rotate_left
            ·
             intro w'; go_simp
             with_reducible rfl
            rotate_left
            ·
             simp only [Act.put, sA_, sZ_, sS_, i64_w, i32_w]; rfl
            refine pure_ (i := 8) (N := some 85) (v := ?_) (a' := ?_) #[t_, t_, t_, t_, t_, t_, t_, t_, t_, f_, f_, f_, f_, f_, f_, f_, f_, f_, f_, f_, f_, f_, f_, f_, f_, f_, f_, f_, f_, f_, f_, f_, f_, f_, f_, f_, f_, f_, f_, f_, f_] rfl rfl (any_of HT_.out (by kernel_rfl)) (fun _ _ _ h => h) (Or.inl ⟨by rfl, ?_⟩) ?_ ?_; rotate_left
            ·
             intro w'; go_simp
             with_reducible rfl
            rotate_left
            ·
             simp only [Act.put, sA_, sZ_, sS_, i64_w, i32_w]; rfl
            refine take_ (i := 9) (N := some 86) (v := ?_) (a' := ?_) #[t_, t_, t_, t_, t_, t_, t_, t_, t_, t_, f_, f_, f_, f_, f_, f_, f_, f_, f_, f_, f_, f_, f_, f_, f_, f_, f_, f_, f_, f_, f_, f_, f_, f_, f_, f_, f_, f_, f_, f_, f_] rfl rfl (take_ofW HT_.out HW_.out (by kernel_rfl)) (fun _ _ _ h => h) (Or.inl ⟨by rfl, ?_⟩) hHeld ?_ ?_; rotate_left
            ·
             rintro w' ⟨s0, s1, s2⟩
             go_simp
             with_reducible rfl
            rotate_left
            ·
             simp only [Act.put, sA_, sZ_, sS_, i64_w, i32_w]; rfl
            refine take_ (i := 11) (N := some 88) (v := ?_) (a' := ?_) #[t_, t_, t_, t_, t_, t_, t_, t_, t_, t_, f_, t_, f_, f_, f_, f_, f_, f_, f_, f_, f_, f_, f_, f_, f_, f_, f_, f_, f_, f_, f_, f_, f_, f_, f_, f_, f_, f_, f_, f_, f_] rfl rfl (take_ofW HT_.out HW_.out (by kernel_rfl)) (fun _ _ _ h => h) (Or.inl ⟨by rfl, ?_⟩) hHeld ?_ ?_; rotate_left
            ·
             rintro w' ⟨s0, s1, s2⟩
             go_simp
             with_reducible rfl
            rotate_left
            ·
             simp only [Act.put, sA_, sZ_, sS_, i64_w, i32_w]; rfl
            refine one_ (i := 10) (N := some 87) #[t_, t_, t_, t_, t_, t_, t_, t_, t_, t_, t_, t_, f_, f_, f_, f_, f_, f_, f_, f_, f_, f_, f_, f_, f_, f_, f_, f_, f_, f_, f_, f_, f_, f_, f_, f_, f_, f_, f_, f_, f_] rfl rfl (one_of HT_.out (by kernel_rfl)) (by decide) (fun K hK => ?_); refine goes_ Tryd.func16 (by kernel_rfl) rfl #[.agg #[.slice A2_0 l2_0.length c2_0]] (by rfl) rfl rfl (by (try simp only [List.map_toArray, List.map_cons, List.map_nil]); first | done | rfl | (simp only [List.length_drop, List.length_take]; rfl)) ?_
            with_reducible refine (mixer_Check.calls _ _ l2_0 t195 _ ?side1 ?side2 A40.out).mono ?_
            (case side1 => repeat (first | exact (Kd.C_below HR2_0.out HB.out) | (with_reducible refine Kd.C_alloc ?_ _) | (with_reducible refine Kd.C_drewN ?_ _) | (with_reducible refine Kd.C_drew ?_))); (case side2 => exact HC2_0.out)
            rintro e w49 ⟨rfl, hb⟩
            refine ⟨_, rfl, ?_⟩; have n0_ := Aside0.mk (Kd.S_below (by (with_reducible repeat (first | apply Kd.S_alloc | apply Kd.S_drewN | apply Kd.S_drew)); exact HO176.out) hb); have n1_ := Aside0.mk (Kd.S_below (by (with_reducible repeat (first | apply Kd.S_alloc | apply Kd.S_drewN | apply Kd.S_drew)); exact HO181.out) hb); have n2_ := Aside0.mk (blk_below (pG_ BK172.out) hb); have n3_ := Aside0.mk (blk_below (pG_ BK178.out) hb); have n4_ := Aside0.mk (blk_below (pG_ BK183.out) hb); have n5_ := Aside0.mk (below_step (pH_ HB.out) hb); clear HO176; clear HO181; clear BK172; clear BK178; clear BK183; clear HB; have HO176 := n0_; have HO181 := n1_; have BK172 := n2_; have BK178 := n3_; have BK183 := n4_; have HB := n5_; clear n0_ n1_ n2_ n3_ n4_ n5_; (try clear hb); (try clear hb2); (try clear hk); (try clear hi); refine hK.out _ _ ⟨(blk_cell BK178.out 0).trans rfl, (blk_cell BK183.out 0).trans rfl, (blk_cell BK172.out 0).trans rfl⟩ (fun hHeld => ?_); clear hK K; refine norm_ (a' := ?_) ?_ ?_; rotate_left
            ·
             show Act.put _ (some 87) _ = _
             simp only [Act.put, sA_, sZ_, sS_, i64_w, i32_w]; rfl
            refine one_ (i := 12) (N := some 89) #[t_, t_, t_, t_, t_, t_, t_, t_, t_, t_, t_, t_, t_, f_, f_, f_, f_, f_, f_, f_, f_, f_, f_, f_, f_, f_, f_, f_, f_, f_, f_, f_, f_, f_, f_, f_, f_, f_, f_, f_, f_] rfl rfl (one_of HT_.out (by kernel_rfl)) (by decide) (fun K hK => ?_); refine goes_ Tryd.func17 (by kernel_rfl) rfl #[.agg #[.slice A2_0 l2_0.length c2_0]] (by rfl) rfl rfl (by (try simp only [List.map_toArray, List.map_cons, List.map_nil]); first | done | rfl | (simp only [List.length_drop, List.length_take]; rfl)) ?_
            with_reducible refine (bitloftref16_Check.calls kj7 _ _ l2_0 t196 _ ?side1 ?side2 A41.out).mono ?_
            (case side1 => repeat (first | exact (Kd.C_below HR2_0.out HB.out) | (with_reducible refine Kd.C_alloc ?_ _) | (with_reducible refine Kd.C_drewN ?_ _) | (with_reducible refine Kd.C_drew ?_))); (case side2 => exact HC2_0.out)
            rintro e w50 ⟨rfl, hb⟩
            refine ⟨_, rfl, ?_⟩; have n0_ := Aside0.mk (Kd.S_below (by (with_reducible repeat (first | apply Kd.S_alloc | apply Kd.S_drewN | apply Kd.S_drew)); exact HO176.out) hb); have n1_ := Aside0.mk (Kd.S_below (by (with_reducible repeat (first | apply Kd.S_alloc | apply Kd.S_drewN | apply Kd.S_drew)); exact HO181.out) hb); have n2_ := Aside0.mk (blk_below (pG_ BK172.out) hb); have n3_ := Aside0.mk (blk_below (pG_ BK178.out) hb); have n4_ := Aside0.mk (blk_below (pG_ BK183.out) hb); have n5_ := Aside0.mk (below_step (pH_ HB.out) hb); clear HO176; clear HO181; clear BK172; clear BK178; clear BK183; clear HB; have HO176 := n0_; have HO181 := n1_; have BK172 := n2_; have BK178 := n3_; have BK183 := n4_; have HB := n5_; clear n0_ n1_ n2_ n3_ n4_ n5_; (try clear hb); (try clear hb2); (try clear hk); (try clear hi); refine hK.out _ _ ⟨(blk_cell BK178.out 0).trans rfl, (blk_cell BK183.out 0).trans rfl, (blk_cell BK172.out 0).trans rfl⟩ (fun hHeld => ?_); clear hK K; refine norm_ (a' := ?_) ?_ ?_; rotate_left
            ·
             show Act.put _ (some 89) _ = _
             simp only [Act.put, sA_, sZ_, sS_, i64_w, i32_w]; rfl
            refine pure_ (i := 13) (N := some 90) (v := ?_) (a' := ?_) #[t_, t_, t_, t_, t_, t_, t_, t_, t_, t_, t_, t_, t_, t_, f_, f_, f_, f_, f_, f_, f_, f_, f_, f_, f_, f_, f_, f_, f_, f_, f_, f_, f_, f_, f_, f_, f_, f_, f_, f_, f_] rfl rfl (any_of HT_.out (by kernel_rfl)) (fun _ _ _ h => h) (Or.inl ⟨by rfl, ?_⟩) ?_ ?_; rotate_left
            ·
             intro w'; go_simp
             with_reducible rfl
            rotate_left
            ·
             simp only [Act.put, sA_, sZ_, sS_, i64_w, i32_w]; rfl
            refine pure_ (i := 14) (N := some 91) (v := ?_) (a' := ?_) #[t_, t_, t_, t_, t_, t_, t_, t_, t_, t_, t_, t_, t_, t_, t_, f_, f_, f_, f_, f_, f_, f_, f_, f_, f_, f_, f_, f_, f_, f_, f_, f_, f_, f_, f_, f_, f_, f_, f_, f_, f_] rfl rfl (any_of HT_.out (by kernel_rfl)) (fun _ _ _ h => h) (Or.inl ⟨by rfl, ?_⟩) ?_ ?_; rotate_left
            ·
             intro w'; go_simp
             with_reducible rfl
            rotate_left
            ·
             simp only [Act.put, sA_, sZ_, sS_, i64_w, i32_w]; rfl
            refine pure_ (i := 15) (N := some 92) (v := ?_) (a' := ?_) #[t_, t_, t_, t_, t_, t_, t_, t_, t_, t_, t_, t_, t_, t_, t_, t_, f_, f_, f_, f_, f_, f_, f_, f_, f_, f_, f_, f_, f_, f_, f_, f_, f_, f_, f_, f_, f_, f_, f_, f_, f_] rfl rfl (any_of HT_.out (by kernel_rfl)) (fun _ _ _ h => h) (Or.inl ⟨by rfl, ?_⟩) ?_ ?_; rotate_left
            ·
             intro w'; go_simp
             with_reducible rfl
            rotate_left
            ·
             simp only [Act.put, sA_, sZ_, sS_, i64_w, i32_w]; rfl
            refine pure_ (i := 16) (N := some 93) (v := ?_) (a' := ?_) #[t_, t_, t_, t_, t_, t_, t_, t_, t_, t_, t_, t_, t_, t_, t_, t_, t_, f_, f_, f_, f_, f_, f_, f_, f_, f_, f_, f_, f_, f_, f_, f_, f_, f_, f_, f_, f_, f_, f_, f_, f_] rfl rfl (any_of HT_.out (by kernel_rfl)) (fun _ _ _ h => h) (Or.inl ⟨by rfl, ?_⟩) ?_ ?_; rotate_left
            ·
             intro w'; go_simp
             with_reducible rfl
            rotate_left
            ·
             simp only [Act.put, sA_, sZ_, sS_, i64_w, i32_w]; rfl
            refine pure_ (i := 17) (N := some 94) (v := ?_) (a' := ?_) #[t_, t_, t_, t_, t_, t_, t_, t_, t_, t_, t_, t_, t_, t_, t_, t_, t_, t_, f_, f_, f_, f_, f_, f_, f_, f_, f_, f_, f_, f_, f_, f_, f_, f_, f_, f_, f_, f_, f_, f_, f_] rfl rfl (any_of HT_.out (by kernel_rfl)) (fun _ _ _ h => h) (Or.inl ⟨by rfl, ?_⟩) ?_ ?_; rotate_left
            ·
             intro w'; go_simp
             with_reducible rfl
            rotate_left
            ·
             simp only [Act.put, sA_, sZ_, sS_, i64_w, i32_w]; rfl
            refine pure_ (i := 18) (N := some 95) (v := ?_) (a' := ?_) #[t_, t_, t_, t_, t_, t_, t_, t_, t_, t_, t_, t_, t_, t_, t_, t_, t_, t_, t_, f_, f_, f_, f_, f_, f_, f_, f_, f_, f_, f_, f_, f_, f_, f_, f_, f_, f_, f_, f_, f_, f_] rfl rfl (any_of HT_.out (by kernel_rfl)) (fun _ _ _ h => h) (Or.inl ⟨by rfl, ?_⟩) ?_ ?_; rotate_left
            ·
             intro w'; go_simp
             with_reducible rfl
            rotate_left
            ·
             simp only [Act.put, sA_, sZ_, sS_, i64_w, i32_w]; rfl
            refine pure_ (i := 19) (N := some 96) (v := ?_) (a' := ?_) #[t_, t_, t_, t_, t_, t_, t_, t_, t_, t_, t_, t_, t_, t_, t_, t_, t_, t_, t_, t_, f_, f_, f_, f_, f_, f_, f_, f_, f_, f_, f_, f_, f_, f_, f_, f_, f_, f_, f_, f_, f_] rfl rfl (any_of HT_.out (by kernel_rfl)) (fun _ _ _ h => h) (Or.inl ⟨by rfl, ?_⟩) ?_ ?_; rotate_left
            ·
             intro w'; go_simp
             with_reducible rfl
            rotate_left
            ·
             simp only [Act.put, sA_, sZ_, sS_, i64_w, i32_w]; rfl
            refine pure_ (i := 20) (N := some 97) (v := ?_) (a' := ?_) #[t_, t_, t_, t_, t_, t_, t_, t_, t_, t_, t_, t_, t_, t_, t_, t_, t_, t_, t_, t_, t_, f_, f_, f_, f_, f_, f_, f_, f_, f_, f_, f_, f_, f_, f_, f_, f_, f_, f_, f_, f_] rfl rfl (any_of HT_.out (by kernel_rfl)) (fun _ _ _ h => h) (Or.inl ⟨by rfl, ?_⟩) ?_ ?_; rotate_left
            ·
             intro w'; go_simp
             with_reducible rfl
            rotate_left
            ·
             simp only [Act.put, sA_, sZ_, sS_, i64_w, i32_w]; rfl
            refine pure_ (i := 21) (N := some 98) (v := ?_) (a' := ?_) #[t_, t_, t_, t_, t_, t_, t_, t_, t_, t_, t_, t_, t_, t_, t_, t_, t_, t_, t_, t_, t_, t_, f_, f_, f_, f_, f_, f_, f_, f_, f_, f_, f_, f_, f_, f_, f_, f_, f_, f_, f_] rfl rfl (any_of HT_.out (by kernel_rfl)) (fun _ _ _ h => h) (Or.inl ⟨by rfl, ?_⟩) ?_ ?_; rotate_left
            ·
             intro w'; go_simp
             with_reducible rfl
            rotate_left
            ·
             simp only [Act.put, sA_, sZ_, sS_, i64_w, i32_w]; rfl
            refine pure_ (i := 22) (N := some 99) (v := ?_) (a' := ?_) #[t_, t_, t_, t_, t_, t_, t_, t_, t_, t_, t_, t_, t_, t_, t_, t_, t_, t_, t_, t_, t_, t_, t_, f_, f_, f_, f_, f_, f_, f_, f_, f_, f_, f_, f_, f_, f_, f_, f_, f_, f_] rfl rfl (any_of HT_.out (by kernel_rfl)) (fun _ _ _ h => h) (Or.inl ⟨by rfl, ?_⟩) ?_ ?_; rotate_left
            ·
             intro w'; go_simp
             with_reducible rfl
            rotate_left
            ·
             simp only [Act.put, sA_, sZ_, sS_, i64_w, i32_w]; rfl
            refine pure_ (i := 23) (N := some 100) (v := ?_) (a' := ?_) #[t_, t_, t_, t_, t_, t_, t_, t_, t_, t_, t_, t_, t_, t_, t_, t_, t_, t_, t_, t_, t_, t_, t_, t_, f_, f_, f_, f_, f_, f_, f_, f_, f_, f_, f_, f_, f_, f_, f_, f_, f_] rfl rfl (any_of HT_.out (by kernel_rfl)) (fun _ _ _ h => h) (Or.inl ⟨by rfl, ?_⟩) ?_ ?_; rotate_left
            ·
             intro w'; go_simp
             with_reducible rfl
            rotate_left
            ·
             simp only [Act.put, sA_, sZ_, sS_, i64_w, i32_w]; rfl
            refine pure_ (i := 24) (N := some 101) (v := ?_) (a' := ?_) #[t_, t_, t_, t_, t_, t_, t_, t_, t_, t_, t_, t_, t_, t_, t_, t_, t_, t_, t_, t_, t_, t_, t_, t_, t_, f_, f_, f_, f_, f_, f_, f_, f_, f_, f_, f_, f_, f_, f_, f_, f_] rfl rfl (any_of HT_.out (by kernel_rfl)) (fun _ _ _ h => h) (Or.inl ⟨by rfl, ?_⟩) ?_ ?_; rotate_left
            ·
             intro w'; go_simp
             with_reducible rfl
            rotate_left
            ·
             simp only [Act.put, sA_, sZ_, sS_, i64_w, i32_w]; rfl
            refine pure_ (i := 25) (N := some 102) (v := ?_) (a' := ?_) #[t_, t_, t_, t_, t_, t_, t_, t_, t_, t_, t_, t_, t_, t_, t_, t_, t_, t_, t_, t_, t_, t_, t_, t_, t_, t_, f_, f_, f_, f_, f_, f_, f_, f_, f_, f_, f_, f_, f_, f_, f_] rfl rfl (any_of HT_.out (by kernel_rfl)) (fun _ _ _ h => h) (Or.inl ⟨by rfl, ?_⟩) ?_ ?_; rotate_left
            ·
             intro w'; go_simp
             with_reducible rfl
            rotate_left
            ·
             simp only [Act.put, sA_, sZ_, sS_, i64_w, i32_w]; rfl
            refine pure_ (i := 26) (N := some 103) (v := ?_) (a' := ?_) #[t_, t_, t_, t_, t_, t_, t_, t_, t_, t_, t_, t_, t_, t_, t_, t_, t_, t_, t_, t_, t_, t_, t_, t_, t_, t_, t_, f_, f_, f_, f_, f_, f_, f_, f_, f_, f_, f_, f_, f_, f_] rfl rfl (any_of HT_.out (by kernel_rfl)) (fun _ _ _ h => h) (Or.inl ⟨by rfl, ?_⟩) ?_ ?_; rotate_left
            ·
             intro w'; go_simp
             with_reducible rfl
            rotate_left
            ·
             simp only [Act.put, sA_, sZ_, sS_, i64_w, i32_w]; rfl
            refine pure_ (i := 27) (N := some 104) (v := ?_) (a' := ?_) #[t_, t_, t_, t_, t_, t_, t_, t_, t_, t_, t_, t_, t_, t_, t_, t_, t_, t_, t_, t_, t_, t_, t_, t_, t_, t_, t_, t_, f_, f_, f_, f_, f_, f_, f_, f_, f_, f_, f_, f_, f_] rfl rfl (any_of HT_.out (by kernel_rfl)) (fun _ _ _ h => h) (Or.inl ⟨by rfl, ?_⟩) ?_ ?_; rotate_left
            ·
             intro w'; go_simp
             with_reducible rfl
            rotate_left
            ·
             simp only [Act.put, sA_, sZ_, sS_, i64_w, i32_w]; rfl
            refine pure_ (i := 28) (N := some 105) (v := ?_) (a' := ?_) #[t_, t_, t_, t_, t_, t_, t_, t_, t_, t_, t_, t_, t_, t_, t_, t_, t_, t_, t_, t_, t_, t_, t_, t_, t_, t_, t_, t_, t_, f_, f_, f_, f_, f_, f_, f_, f_, f_, f_, f_, f_] rfl rfl (any_of HT_.out (by kernel_rfl)) (fun _ _ _ h => h) (Or.inl ⟨by rfl, ?_⟩) ?_ ?_; rotate_left
            ·
             intro w'; go_simp
             with_reducible rfl
            rotate_left
            ·
             simp only [Act.put, sA_, sZ_, sS_, i64_w, i32_w]; rfl
            refine pure_ (i := 29) (N := some 106) (v := ?_) (a' := ?_) #[t_, t_, t_, t_, t_, t_, t_, t_, t_, t_, t_, t_, t_, t_, t_, t_, t_, t_, t_, t_, t_, t_, t_, t_, t_, t_, t_, t_, t_, t_, f_, f_, f_, f_, f_, f_, f_, f_, f_, f_, f_] rfl rfl (any_of HT_.out (by kernel_rfl)) (fun _ _ _ h => h) (Or.inl ⟨by rfl, ?_⟩) ?_ ?_; rotate_left
            ·
             intro w'; go_simp
             with_reducible rfl
            rotate_left
            ·
             simp only [Act.put, sA_, sZ_, sS_, i64_w, i32_w]; rfl
            refine pure_ (i := 30) (N := some 107) (v := ?_) (a' := ?_) #[t_, t_, t_, t_, t_, t_, t_, t_, t_, t_, t_, t_, t_, t_, t_, t_, t_, t_, t_, t_, t_, t_, t_, t_, t_, t_, t_, t_, t_, t_, t_, f_, f_, f_, f_, f_, f_, f_, f_, f_, f_] rfl rfl (any_of HT_.out (by kernel_rfl)) (fun _ _ _ h => h) (Or.inl ⟨by rfl, ?_⟩) ?_ ?_; rotate_left
            ·
             intro w'; go_simp
             with_reducible rfl
            rotate_left
            ·
             simp only [Act.put, sA_, sZ_, sS_, i64_w, i32_w]; rfl
            refine pure_ (i := 31) (N := some 108) (v := ?_) (a' := ?_) #[t_, t_, t_, t_, t_, t_, t_, t_, t_, t_, t_, t_, t_, t_, t_, t_, t_, t_, t_, t_, t_, t_, t_, t_, t_, t_, t_, t_, t_, t_, t_, t_, f_, f_, f_, f_, f_, f_, f_, f_, f_] rfl rfl (any_of HT_.out (by kernel_rfl)) (fun _ _ _ h => h) (Or.inl ⟨by rfl, ?_⟩) ?_ ?_; rotate_left
            ·
             intro w'; go_simp
             with_reducible rfl
            rotate_left
            ·
             simp only [Act.put, sA_, sZ_, sS_, i64_w, i32_w]; rfl
            refine pure_ (i := 32) (N := some 109) (v := ?_) (a' := ?_) #[t_, t_, t_, t_, t_, t_, t_, t_, t_, t_, t_, t_, t_, t_, t_, t_, t_, t_, t_, t_, t_, t_, t_, t_, t_, t_, t_, t_, t_, t_, t_, t_, t_, f_, f_, f_, f_, f_, f_, f_, f_] rfl rfl (any_of HT_.out (by kernel_rfl)) (fun _ _ _ h => h) (Or.inl ⟨by rfl, ?_⟩) ?_ ?_; rotate_left
            ·
             intro w'; go_simp
             with_reducible rfl
            rotate_left
            ·
             simp only [Act.put, sA_, sZ_, sS_, i64_w, i32_w]; rfl
            refine pure_ (i := 33) (N := some 110) (v := ?_) (a' := ?_) #[t_, t_, t_, t_, t_, t_, t_, t_, t_, t_, t_, t_, t_, t_, t_, t_, t_, t_, t_, t_, t_, t_, t_, t_, t_, t_, t_, t_, t_, t_, t_, t_, t_, t_, f_, f_, f_, f_, f_, f_, f_] rfl rfl (any_of HT_.out (by kernel_rfl)) (fun _ _ _ h => h) (Or.inl ⟨by rfl, ?_⟩) ?_ ?_; rotate_left
            ·
             intro w'; go_simp
             with_reducible rfl
            rotate_left
            ·
             simp only [Act.put, sA_, sZ_, sS_, i64_w, i32_w]; rfl
            refine pure_ (i := 34) (N := some 111) (v := ?_) (a' := ?_) #[t_, t_, t_, t_, t_, t_, t_, t_, t_, t_, t_, t_, t_, t_, t_, t_, t_, t_, t_, t_, t_, t_, t_, t_, t_, t_, t_, t_, t_, t_, t_, t_, t_, t_, t_, f_, f_, f_, f_, f_, f_] rfl rfl (any_of HT_.out (by kernel_rfl)) (fun _ _ _ h => h) (Or.inl ⟨by rfl, ?_⟩) ?_ ?_; rotate_left
            ·
             intro w'; go_simp
             with_reducible rfl
            rotate_left
            ·
             simp only [Act.put, sA_, sZ_, sS_, i64_w, i32_w]; rfl
            refine pure_ (i := 35) (N := some 112) (v := ?_) (a' := ?_) #[t_, t_, t_, t_, t_, t_, t_, t_, t_, t_, t_, t_, t_, t_, t_, t_, t_, t_, t_, t_, t_, t_, t_, t_, t_, t_, t_, t_, t_, t_, t_, t_, t_, t_, t_, t_, f_, f_, f_, f_, f_] rfl rfl (any_of HT_.out (by kernel_rfl)) (fun _ _ _ h => h) (Or.inl ⟨by rfl, ?_⟩) ?_ ?_; rotate_left
            ·
             intro w'; go_simp
             with_reducible rfl
            rotate_left
            ·
             simp only [Act.put, sA_, sZ_, sS_, i64_w, i32_w]; rfl
            refine pure_ (i := 36) (N := some 113) (v := ?_) (a' := ?_) #[t_, t_, t_, t_, t_, t_, t_, t_, t_, t_, t_, t_, t_, t_, t_, t_, t_, t_, t_, t_, t_, t_, t_, t_, t_, t_, t_, t_, t_, t_, t_, t_, t_, t_, t_, t_, t_, f_, f_, f_, f_] rfl rfl (any_of HT_.out (by kernel_rfl)) (fun _ _ _ h => h) (Or.inl ⟨by rfl, ?_⟩) ?_ ?_; rotate_left
            ·
             intro w'; go_simp
             with_reducible rfl
            rotate_left
            ·
             simp only [Act.put, sA_, sZ_, sS_, i64_w, i32_w]; rfl
            refine pure_ (i := 37) (N := some 114) (v := ?_) (a' := ?_) #[t_, t_, t_, t_, t_, t_, t_, t_, t_, t_, t_, t_, t_, t_, t_, t_, t_, t_, t_, t_, t_, t_, t_, t_, t_, t_, t_, t_, t_, t_, t_, t_, t_, t_, t_, t_, t_, t_, f_, f_, f_] rfl rfl (any_of HT_.out (by kernel_rfl)) (fun _ _ _ h => h) (Or.inl ⟨by rfl, ?_⟩) ?_ ?_; rotate_left
            ·
             intro w'; go_simp
             with_reducible rfl
            rotate_left
            ·
             simp only [Act.put, sA_, sZ_, sS_, i64_w, i32_w]; rfl
            refine pure_ (i := 38) (N := some 115) (v := ?_) (a' := ?_) #[t_, t_, t_, t_, t_, t_, t_, t_, t_, t_, t_, t_, t_, t_, t_, t_, t_, t_, t_, t_, t_, t_, t_, t_, t_, t_, t_, t_, t_, t_, t_, t_, t_, t_, t_, t_, t_, t_, t_, f_, f_] rfl rfl (any_of HT_.out (by kernel_rfl)) (fun _ _ _ h => h) (Or.inl ⟨by rfl, ?_⟩) ?_ ?_; rotate_left
            ·
             intro w'; go_simp
             with_reducible rfl
            rotate_left
            ·
             simp only [Act.put, sA_, sZ_, sS_, i64_w, i32_w]; rfl
            refine pure_ (i := 39) (N := some 116) (v := ?_) (a' := ?_) #[t_, t_, t_, t_, t_, t_, t_, t_, t_, t_, t_, t_, t_, t_, t_, t_, t_, t_, t_, t_, t_, t_, t_, t_, t_, t_, t_, t_, t_, t_, t_, t_, t_, t_, t_, t_, t_, t_, t_, t_, f_] rfl rfl (any_of HT_.out (by kernel_rfl)) (fun _ _ _ h => h) (Or.inl ⟨by rfl, ?_⟩) ?_ ?_; rotate_left
            ·
             intro w'; go_simp
             with_reducible rfl
            rotate_left
            ·
             simp only [Act.put, sA_, sZ_, sS_, i64_w, i32_w]; rfl
            refine pure_ (i := 40) (N := some 14) (v := ?_) (a' := ?_) #[t_, t_, t_, t_, t_, t_, t_, t_, t_, t_, t_, t_, t_, t_, t_, t_, t_, t_, t_, t_, t_, t_, t_, t_, t_, t_, t_, t_, t_, t_, t_, t_, t_, t_, t_, t_, t_, t_, t_, t_, t_] rfl rfl (any_of HT_.out (by kernel_rfl)) (fun _ _ _ h => h) (Or.inl ⟨by rfl, ?_⟩) ?_ ?_; rotate_left
            ·
             intro w'; go_simp
             with_reducible rfl
            rotate_left
            ·
             simp only [Act.put, sA_, sZ_, sS_, i64_w, i32_w]; rfl
            refine done_ (done_of HT_.out (by kernel_rfl)) ?_
            try go_wp2
            (first | go_meet | (refine Met.intro ?_; go_step; (repeat apply Exists.intro); refine ⟨?rel, ?eqf_⟩; case eqf_ => ((simp only [c46b0, c45b0, c44b0, c43b0, c42b0, c39b0]) <;> rfl)))
            case rel => exact ⟨_, ((t191 == t193)), (by first | rfl | (simp; done) | (simp [*]; done)), H', ⟨by have := HJ7.out; first | omega | exact Nat.le_refl _⟩, ⟨by (with_reducible repeat (first | apply Kd.S_alloc | apply Kd.S_drewN | apply Kd.S_drew)); exact Kd.S_mono HO176.out (fun _ hk => hk.2)⟩, ⟨by (with_reducible repeat (first | apply Kd.S_alloc | apply Kd.S_drewN | apply Kd.S_drew)); exact Kd.S_mono HO181.out (fun _ hk => hk.2)⟩, ⟨pG_ BK172.out⟩, ⟨pG_ BK178.out⟩, ⟨pG_ BK183.out⟩, ⟨pH_ HB.out⟩⟩
           ·
            rw [if_neg c46] at H; have c46b0 : (t190 == t192) = false := beq_eq_false_iff_ne.mpr c46; have c46b1 : (t190 != t192) = true := bne_iff_ne.mpr c46; exact absurd (H.trans (congrArg some HRT_.out)) (by first | (simp; done) | (generalize kj7 = k_; cases k_ <;> simp [bitloftlaw16_MixerMixes.j0, bitloftlaw16_MixerMixes.j1]))
          ·
           rw [if_neg c45] at H; have c45b0 : (t186 == t189) = false := beq_eq_false_iff_ne.mpr c45; have c45b1 : (t186 != t189) = true := bne_iff_ne.mpr c45; exact absurd (H.trans (congrArg some HRT_.out)) (by first | (simp; done) | (generalize kj7 = k_; cases k_ <;> simp [bitloftlaw16_MixerMixes.j0, bitloftlaw16_MixerMixes.j1]))
         ·
          rw [if_neg c44] at H; have c44b0 : (t185 == t188) = false := beq_eq_false_iff_ne.mpr c44; have c44b1 : (t185 != t188) = true := bne_iff_ne.mpr c44; exact absurd (H.trans (congrArg some HRT_.out)) (by first | (simp; done) | (generalize kj7 = k_; cases k_ <;> simp [bitloftlaw16_MixerMixes.j0, bitloftlaw16_MixerMixes.j1]))
        ·
         rw [if_neg c43] at H; have c43b0 : (t184 == t187) = false := beq_eq_false_iff_ne.mpr c43; have c43b1 : (t184 != t187) = true := bne_iff_ne.mpr c43; exact absurd (H.trans (congrArg some HRT_.out)) (by first | (simp; done) | (generalize kj7 = k_; cases k_ <;> simp [bitloftlaw16_MixerMixes.j0, bitloftlaw16_MixerMixes.j1]))
       ·
        rw [if_neg c42] at H; have c42b0 : (t195 == t196) = false := beq_eq_false_iff_ne.mpr c42; have c42b1 : (t195 != t196) = true := bne_iff_ne.mpr c42; exact absurd (H.trans (congrArg some HRT_.out)) (by first | (simp; done) | (generalize kj7 = k_; cases k_ <;> simp [bitloftlaw16_MixerMixes.j0, bitloftlaw16_MixerMixes.j1]))
      ·
       rw [if_neg c39] at H; have c39b0 : (t177 == t182) = false := beq_eq_false_iff_ne.mpr c39; have c39b1 : (t177 != t182) = true := bne_iff_ne.mpr c39; (first | rw [c39b0] | (simp only [i64_w, i32_w]; rw [c39b0]) | skip); exact absurd (H.trans (congrArg some HRT_.out)) (by first | (simp; done) | (generalize kj7 = k_; cases k_ <;> simp [bitloftlaw16_MixerMixes.j0, bitloftlaw16_MixerMixes.j1]))
     ·
      replace c38 := Bool.eq_false_iff.mpr c38
      subst c38
      have H1 : (bitloftlaw16_MixerMixes.j1 kj7 false) = some r := by rw [if_neg (show ¬ (false = true) by decide)] at H; exact H
      clear H; have H := H1; clear H1; exact absurd (H.trans (congrArg some HRT_.out)) (by first | (simp; done) | (generalize kj7 = k_; cases k_ <;> simp [bitloftlaw16_MixerMixes.j0, bitloftlaw16_MixerMixes.j1]))
    case rest =>
     (try (refine hKt_ _ _ ?_; clear hKt_; clear Kt_)); clear HC21
     try clear c1
     try clear c2
     try clear p2
     try clear c3
     try clear c4
     try clear c9
     try clear c10
     try clear c11
     try clear c12
     try clear c13
     try clear c14
     try clear c15
     try clear c16
     try clear c17
     try clear c25
     try clear c30
     try clear c31
     try clear c38
     try clear c39
     try clear c39b0
     try clear c39b1
     try clear c42
     try clear c42b0
     try clear c42b1
     try clear c43
     try clear c43b0
     try clear c43b1
     try clear c44
     try clear c44b0
     try clear c44b1
     try clear c45
     try clear c45b0
     try clear c45b1
     try clear c46
     try clear c46b0
     try clear c46b1
     try clear hcz12_0
     try clear hcz13_0
     try clear hcz26_0
     try clear hcz32_0
     try clear hcz33_0
     try clear hcz35_0
     try clear hfz12_0
     try clear hfz13_0
     try clear hfz26_0
     try clear hfz32_0
     try clear hfz33_0
     try clear hfz35_0
     obtain ⟨kq, x14_20, rfl, HA, HJ20, HO_179000, HO_184000, BK172, BK178, BK183, HB⟩ := hcut
     cases kq with
     | zero => exact absurd HA.out (by simp [bitloftlaw16_MixerMixes.j1])
     | succ kj20 =>
      have H := HA.out; clear HA; simp only [bitloftlaw16_MixerMixes.j1] at H; obtain rfl := Option.some.inj H
      go_wp2
      go_ret
      exact ⟨by first | rfl | (simp [errW_none, errW_some] <;> rfl) | (simp [*, errW_none, errW_some] <;> rfl), pH_ HB.out⟩

/-- The one plain statement of bitloftlaw16_MixerMixes. -/
def bitloftlaw16_MixerMixes.Pure : Prop := ∀ (a0 : Int) (a1 : Int) (l2_0 : List (List Int)) (a3 : Int) (l4 : List Int) (a5 : Int) (a6 : Bool), (Lit.int .i64 a0).wf = true → (Lit.int .i32 a1).wf = true → l2_0.length ≤ maxLen → (∀ x_ ∈ l2_0, (fun l_ : List Int => l_.length ≤ maxLen ∧ ∀ x_ ∈ l_, (fun n_ : Int => (Lit.int .i32 n_).wf = true) x_) x_) → (Lit.int .i64 a3).wf = true → l4.length ≤ maxLen → l4.length * 4 ≤ 140737488351232 → (∀ x ∈ l4, (Lit.int .i32 x).wf = true) → (Lit.int .i32 a5).wf = true → ∃ k, bitloftlaw16_MixerMixes.f k a0 a1 l2_0 a3 l4 a5 a6 = some true

end Go.Proofs.YtlpkfljihcklkaaDoor.XMixerMixes
