-- Laid by a program of this session (wip/mkxprint.py, over the kit's print): Lean checks it.
import Derived.Test.YthhfigkbjacmeaaDoorXTopKernelx0
import Derived.Test.YthhfigkbjacmeaaDoorXTopKernelx4
import Derived.Test.YthhfigkbjacmeaaDoorXTopKernelx5
namespace Go.Proofs.YthhfigkbjacmeaaDoor.XTopKernel
open List (setIfInBounds_toArray set_cons_zero set_cons_succ)
open Go.RowKit Go.Proofs.YthhfigkbjacmeaaDoorW.PrintWords Go.Proofs.YthhfigkbjacmeaaDoorW.PrintLast Go.Proofs.YthhfigkbjacmeaaDoorW.PrintMore
attribute [local go_sem] max2_int min2_int max_two min_two max_three min_three max_four min_four   -- for this text's walks alone
set_option linter.unusedVariables false
set_option linter.unusedSimpArgs false

/-! ### bitlofttop_led08: function 13 -/
mutual
def bitlofttop_led08.j0 : Nat → Int → Int → Int → Int → Bool → Int → Int → Int → Option (Bool)
 | 0, _, _, _, _, _, _, _, _ => none
 | k + 1, x1, x2, x7, x9, x58, x228000, x228001, x228002 => if x58 = true then (some false) else ((fixed_Dot.f k (([x2, 65536, x2] : List Int)) (([x9, x7, wrap32 (-x9)] : List Int))).bind fun bt239 => ((fixed_Round.f k (wrap64 (bt239.1)) 16).bind fun bt241 => (if bt239.2 = 0 then (if bt241.2 = 0 then (bitlofttop_led08.j1 k x1 bt241.1 (bt241.1 != (wrap64 (x7))) x228000 x228001 x228002) else (bitlofttop_led08.j1 k x1 bt241.1 true x228000 x228001 x228002)) else (bitlofttop_led08.j1 k x1 bt241.1 true x228000 x228001 x228002))))
def bitlofttop_led08.j1 : Nat → Int → Int → Bool → Int → Int → Int → Option (Bool)
 | 0, _, _, _, _, _, _ => none
 | k + 1, x1, x12, x88, x228000, x228001, x228002 => if x88 = true then (some false) else (if x1 = 1 then (bitlofttop_led08.j2 k x12 65535 x228000 x228001 x228002) else (bitlofttop_led08.j2 k x12 0 x228000 x228001 x228002))
def bitlofttop_led08.j2 : Nat → Int → Int → Int → Int → Int → Option (Bool)
 | 0, _, _, _, _, _ => none
 | k + 1, x12, x14, x228000, x228001, x228002 => (squash_Squash.f (wrap32 (x12))).bind fun t243 => ((recip_Step.f k (wrap32 (16 * t243)) x14 (wrap32 ((wrap32 (x228000 + x228001)) + 2))).bind fun bt244 => (if bt244.2 = 0 then (if bt244.1 ≥ (mn (wrap32 (16 * t243)) x14) then (bitlofttop_led08.j3 k (decide (bt244.1 ≤ (mx (wrap32 (16 * t243)) x14)))) else (bitlofttop_led08.j3 k false)) else (bitlofttop_led08.j3 k false)))
def bitlofttop_led08.j3 : Nat → Bool → Option (Bool)
 | 0, _ => none
 | k + 1, x6 => some x6
end
def bitlofttop_led08.f (k : Nat) (a0_0 : Int) (a0_1 : Int) (a0_2 : Int) (a1 : Int) (a2 : Int) : Option (Bool) := (fixed_Sub.f a0_1 a0_0).bind fun t228 => ((fixed_Mul.f t228 170).bind fun t229 => ((squash_Squash.f t229).bind fun t230 => ((squash_Stretch.f t230).bind fun t231 => (if t230 < 1 then (bitlofttop_led08.j0 k a1 a2 t229 t231 true a0_0 a0_1 a0_2) else (if t230 > 4094 then (bitlofttop_led08.j0 k a1 a2 t229 t231 true a0_0 a0_1 a0_2) else (if t231 > t229 then (bitlofttop_led08.j0 k a1 a2 t229 t231 true a0_0 a0_1 a0_2) else ((squash_Squash.f t231).bind fun t232 => (if t232 < t230 then (bitlofttop_led08.j0 k a1 a2 t229 t231 true a0_0 a0_1 a0_2) else (if t231 < (wrap32 (t229 - 128)) then (if t230 > 30 then (bitlofttop_led08.j0 k a1 a2 t229 t231 (decide (t230 < 4000)) a0_0 a0_1 a0_2) else (bitlofttop_led08.j0 k a1 a2 t229 t231 false a0_0 a0_1 a0_2)) else (bitlofttop_led08.j0 k a1 a2 t229 t231 false a0_0 a0_1 a0_2))))))))))
theorem bitlofttop_led08.mono_l : ∀ k, (∀ y0 y1 y2 y3 y4 y5 y6 y7, LeO (bitlofttop_led08.j0 k y0 y1 y2 y3 y4 y5 y6 y7) (bitlofttop_led08.j0 (k + 1) y0 y1 y2 y3 y4 y5 y6 y7)) ∧ (∀ y0 y1 y2 y3 y4 y5, LeO (bitlofttop_led08.j1 k y0 y1 y2 y3 y4 y5) (bitlofttop_led08.j1 (k + 1) y0 y1 y2 y3 y4 y5)) ∧ (∀ y0 y1 y2 y3 y4, LeO (bitlofttop_led08.j2 k y0 y1 y2 y3 y4) (bitlofttop_led08.j2 (k + 1) y0 y1 y2 y3 y4)) ∧ (∀ y0, LeO (bitlofttop_led08.j3 k y0) (bitlofttop_led08.j3 (k + 1) y0))
 | 0 => ⟨fun _ _ _ _ _ _ _ _ r h => by simp [bitlofttop_led08.j0] at h, fun _ _ _ _ _ _ r h => by simp [bitlofttop_led08.j1] at h, fun _ _ _ _ _ r h => by simp [bitlofttop_led08.j2] at h, fun _ r h => by simp [bitlofttop_led08.j3] at h⟩
 | k + 1 => by
  obtain ⟨ih0, ih1, ih2, ih3⟩ := bitlofttop_led08.mono_l k; refine ⟨?_, ?_, ?_, ?_⟩
  ·
   intro y0 y1 y2 y3 y4 y5 y6 y7
   unfold bitlofttop_led08.j0
   repeat' first
   | (with_reducible exact ih0 _ _ _ _ _ _ _ _)
   | (with_reducible exact ih1 _ _ _ _ _ _)
   | (with_reducible exact ih2 _ _ _ _ _)
   | (with_reducible exact ih3 _)
   | (with_reducible exact fixed_Dot.mono _ _ _)
   | (with_reducible exact fixed_Round.mono _ _ _)
   | (with_reducible exact recip_Step.mono _ _ _ _)
   | (with_reducible exact LeO.refl _)
   | (with_reducible exact LeO.none _)
   | (with_reducible refine LeO.ite ?_ ?_)
   | (with_reducible refine LeO.bind ?_ (fun _ => ?_))
   | exact ih0 _ _ _ _ _ _ _ _
   | exact ih1 _ _ _ _ _ _
   | exact ih2 _ _ _ _ _
   | exact ih3 _
   | exact fixed_Dot.mono _ _ _
   | exact fixed_Round.mono _ _ _
   | exact recip_Step.mono _ _ _ _
   | exact LeO.none _
   | refine LeO.ite ?_ ?_
   | refine LeO.bind ?_ (fun _ => ?_)
  ·
   intro y0 y1 y2 y3 y4 y5
   unfold bitlofttop_led08.j1
   repeat' first
   | (with_reducible exact ih0 _ _ _ _ _ _ _ _)
   | (with_reducible exact ih1 _ _ _ _ _ _)
   | (with_reducible exact ih2 _ _ _ _ _)
   | (with_reducible exact ih3 _)
   | (with_reducible exact fixed_Dot.mono _ _ _)
   | (with_reducible exact fixed_Round.mono _ _ _)
   | (with_reducible exact recip_Step.mono _ _ _ _)
   | (with_reducible exact LeO.refl _)
   | (with_reducible exact LeO.none _)
   | (with_reducible refine LeO.ite ?_ ?_)
   | (with_reducible refine LeO.bind ?_ (fun _ => ?_))
   | exact ih0 _ _ _ _ _ _ _ _
   | exact ih1 _ _ _ _ _ _
   | exact ih2 _ _ _ _ _
   | exact ih3 _
   | exact fixed_Dot.mono _ _ _
   | exact fixed_Round.mono _ _ _
   | exact recip_Step.mono _ _ _ _
   | exact LeO.none _
   | refine LeO.ite ?_ ?_
   | refine LeO.bind ?_ (fun _ => ?_)
  ·
   intro y0 y1 y2 y3 y4
   unfold bitlofttop_led08.j2
   repeat' first
   | (with_reducible exact ih0 _ _ _ _ _ _ _ _)
   | (with_reducible exact ih1 _ _ _ _ _ _)
   | (with_reducible exact ih2 _ _ _ _ _)
   | (with_reducible exact ih3 _)
   | (with_reducible exact fixed_Dot.mono _ _ _)
   | (with_reducible exact fixed_Round.mono _ _ _)
   | (with_reducible exact recip_Step.mono _ _ _ _)
   | (with_reducible exact LeO.refl _)
   | (with_reducible exact LeO.none _)
   | (with_reducible refine LeO.ite ?_ ?_)
   | (with_reducible refine LeO.bind ?_ (fun _ => ?_))
   | exact ih0 _ _ _ _ _ _ _ _
   | exact ih1 _ _ _ _ _ _
   | exact ih2 _ _ _ _ _
   | exact ih3 _
   | exact fixed_Dot.mono _ _ _
   | exact fixed_Round.mono _ _ _
   | exact recip_Step.mono _ _ _ _
   | exact LeO.none _
   | refine LeO.ite ?_ ?_
   | refine LeO.bind ?_ (fun _ => ?_)
  ·
   intro y0
   unfold bitlofttop_led08.j3
   repeat' first
   | (with_reducible exact ih0 _ _ _ _ _ _ _ _)
   | (with_reducible exact ih1 _ _ _ _ _ _)
   | (with_reducible exact ih2 _ _ _ _ _)
   | (with_reducible exact ih3 _)
   | (with_reducible exact fixed_Dot.mono _ _ _)
   | (with_reducible exact fixed_Round.mono _ _ _)
   | (with_reducible exact recip_Step.mono _ _ _ _)
   | (with_reducible exact LeO.refl _)
   | (with_reducible exact LeO.none _)
   | (with_reducible refine LeO.ite ?_ ?_)
   | (with_reducible refine LeO.bind ?_ (fun _ => ?_))
   | exact ih0 _ _ _ _ _ _ _ _
   | exact ih1 _ _ _ _ _ _
   | exact ih2 _ _ _ _ _
   | exact ih3 _
   | exact fixed_Dot.mono _ _ _
   | exact fixed_Round.mono _ _ _
   | exact recip_Step.mono _ _ _ _
   | exact LeO.none _
   | refine LeO.ite ?_ ?_
   | refine LeO.bind ?_ (fun _ => ?_)
theorem bitlofttop_led08.mono : ∀ a0 a1 a2 a3 a4 k, LeO (bitlofttop_led08.f k a0 a1 a2 a3 a4) (bitlofttop_led08.f (k + 1) a0 a1 a2 a3 a4) := by
 intro a0 a1 a2 a3 a4 k; obtain ⟨ih0, ih1, ih2, ih3⟩ := bitlofttop_led08.mono_l k
 unfold bitlofttop_led08.f
 repeat' first
   | (with_reducible exact ih0 _ _ _ _ _ _ _ _)
   | (with_reducible exact ih1 _ _ _ _ _ _)
   | (with_reducible exact ih2 _ _ _ _ _)
   | (with_reducible exact ih3 _)
   | (with_reducible exact fixed_Dot.mono _ _ _)
   | (with_reducible exact fixed_Round.mono _ _ _)
   | (with_reducible exact recip_Step.mono _ _ _ _)
   | (with_reducible exact LeO.refl _)
   | (with_reducible exact LeO.none _)
   | (with_reducible refine LeO.ite ?_ ?_)
   | (with_reducible refine LeO.bind ?_ (fun _ => ?_))
   | exact ih0 _ _ _ _ _ _ _ _
   | exact ih1 _ _ _ _ _ _
   | exact ih2 _ _ _ _ _
   | exact ih3 _
   | exact fixed_Dot.mono _ _ _
   | exact fixed_Round.mono _ _ _
   | exact recip_Step.mono _ _ _ _
   | exact LeO.none _
   | refine LeO.ite ?_ ?_
   | refine LeO.bind ?_ (fun _ => ?_)
set_option maxHeartbeats 8000000 in
set_option maxRecDepth 100000 in
theorem bitlofttop_led08.calls (k : Nat) (a0_0 : Int) (a0_1 : Int) (a0_2 : Int) (a1 : Int) (a2 : Int) (r : Bool) (w : World) (hT : Tab_ w) (h : bitlofttop_led08.f k a0_0 a0_1 a0_2 a1 a2 = some r) :
  Calls Tryd.prog 13 #[.agg #[.int .i32 a0_0, .int .i32 a0_1, .int .u8 a0_2], .int .u8 a1, .int .i32 a2] w fun e w' => e = .returned (.bool r) ∧ Below w.heap.size w w' := by
 have hu39 := Tryd.underlying39; have HB := Aside0.mk (Below.refl w.heap.size w); have H : ((fixed_Sub.f a0_1 a0_0).bind fun t228 => ((fixed_Mul.f t228 170).bind fun t229 => ((squash_Squash.f t229).bind fun t230 => ((squash_Stretch.f t230).bind fun t231 => (if t230 < 1 then (bitlofttop_led08.j0 k a1 a2 t229 t231 true a0_0 a0_1 a0_2) else (if t230 > 4094 then (bitlofttop_led08.j0 k a1 a2 t229 t231 true a0_0 a0_1 a0_2) else (if t231 > t229 then (bitlofttop_led08.j0 k a1 a2 t229 t231 true a0_0 a0_1 a0_2) else ((squash_Squash.f t231).bind fun t232 => (if t232 < t230 then (bitlofttop_led08.j0 k a1 a2 t229 t231 true a0_0 a0_1 a0_2) else (if t231 < (wrap32 (t229 - 128)) then (if t230 > 30 then (bitlofttop_led08.j0 k a1 a2 t229 t231 (decide (t230 < 4000)) a0_0 a0_1 a0_2) else (bitlofttop_led08.j0 k a1 a2 t229 t231 false a0_0 a0_1 a0_2)) else (bitlofttop_led08.j0 k a1 a2 t229 t231 false a0_0 a0_1 a0_2))))))))))) = some r := h; clear h; replace H := Option.bind_eq_some_iff.mp H; obtain ⟨t228, A40, H⟩ := H; replace H : ((fixed_Mul.f t228 170).bind fun t229 => ((squash_Squash.f t229).bind fun t230 => ((squash_Stretch.f t230).bind fun t231 => (if t230 < 1 then (bitlofttop_led08.j0 k a1 a2 t229 t231 true a0_0 a0_1 a0_2) else (if t230 > 4094 then (bitlofttop_led08.j0 k a1 a2 t229 t231 true a0_0 a0_1 a0_2) else (if t231 > t229 then (bitlofttop_led08.j0 k a1 a2 t229 t231 true a0_0 a0_1 a0_2) else ((squash_Squash.f t231).bind fun t232 => (if t232 < t230 then (bitlofttop_led08.j0 k a1 a2 t229 t231 true a0_0 a0_1 a0_2) else (if t231 < (wrap32 (t229 - 128)) then (if t230 > 30 then (bitlofttop_led08.j0 k a1 a2 t229 t231 (decide (t230 < 4000)) a0_0 a0_1 a0_2) else (bitlofttop_led08.j0 k a1 a2 t229 t231 false a0_0 a0_1 a0_2)) else (bitlofttop_led08.j0 k a1 a2 t229 t231 false a0_0 a0_1 a0_2)))))))))) = some r := H; have A4 := Aside0.mk A40; clear A40; replace H := Option.bind_eq_some_iff.mp H; obtain ⟨t229, A50, H⟩ := H; replace H : ((squash_Squash.f t229).bind fun t230 => ((squash_Stretch.f t230).bind fun t231 => (if t230 < 1 then (bitlofttop_led08.j0 k a1 a2 t229 t231 true a0_0 a0_1 a0_2) else (if t230 > 4094 then (bitlofttop_led08.j0 k a1 a2 t229 t231 true a0_0 a0_1 a0_2) else (if t231 > t229 then (bitlofttop_led08.j0 k a1 a2 t229 t231 true a0_0 a0_1 a0_2) else ((squash_Squash.f t231).bind fun t232 => (if t232 < t230 then (bitlofttop_led08.j0 k a1 a2 t229 t231 true a0_0 a0_1 a0_2) else (if t231 < (wrap32 (t229 - 128)) then (if t230 > 30 then (bitlofttop_led08.j0 k a1 a2 t229 t231 (decide (t230 < 4000)) a0_0 a0_1 a0_2) else (bitlofttop_led08.j0 k a1 a2 t229 t231 false a0_0 a0_1 a0_2)) else (bitlofttop_led08.j0 k a1 a2 t229 t231 false a0_0 a0_1 a0_2))))))))) = some r := H; have A5 := Aside0.mk A50; clear A50; replace H := Option.bind_eq_some_iff.mp H; obtain ⟨t230, A60, H⟩ := H; replace H : ((squash_Stretch.f t230).bind fun t231 => (if t230 < 1 then (bitlofttop_led08.j0 k a1 a2 t229 t231 true a0_0 a0_1 a0_2) else (if t230 > 4094 then (bitlofttop_led08.j0 k a1 a2 t229 t231 true a0_0 a0_1 a0_2) else (if t231 > t229 then (bitlofttop_led08.j0 k a1 a2 t229 t231 true a0_0 a0_1 a0_2) else ((squash_Squash.f t231).bind fun t232 => (if t232 < t230 then (bitlofttop_led08.j0 k a1 a2 t229 t231 true a0_0 a0_1 a0_2) else (if t231 < (wrap32 (t229 - 128)) then (if t230 > 30 then (bitlofttop_led08.j0 k a1 a2 t229 t231 (decide (t230 < 4000)) a0_0 a0_1 a0_2) else (bitlofttop_led08.j0 k a1 a2 t229 t231 false a0_0 a0_1 a0_2)) else (bitlofttop_led08.j0 k a1 a2 t229 t231 false a0_0 a0_1 a0_2)))))))) = some r := H; have A6 := Aside0.mk A60; clear A60; replace H := Option.bind_eq_some_iff.mp H; obtain ⟨t231, A70, H⟩ := H; replace H : (if t230 < 1 then (bitlofttop_led08.j0 k a1 a2 t229 t231 true a0_0 a0_1 a0_2) else (if t230 > 4094 then (bitlofttop_led08.j0 k a1 a2 t229 t231 true a0_0 a0_1 a0_2) else (if t231 > t229 then (bitlofttop_led08.j0 k a1 a2 t229 t231 true a0_0 a0_1 a0_2) else ((squash_Squash.f t231).bind fun t232 => (if t232 < t230 then (bitlofttop_led08.j0 k a1 a2 t229 t231 true a0_0 a0_1 a0_2) else (if t231 < (wrap32 (t229 - 128)) then (if t230 > 30 then (bitlofttop_led08.j0 k a1 a2 t229 t231 (decide (t230 < 4000)) a0_0 a0_1 a0_2) else (bitlofttop_led08.j0 k a1 a2 t229 t231 false a0_0 a0_1 a0_2)) else (bitlofttop_led08.j0 k a1 a2 t229 t231 false a0_0 a0_1 a0_2))))))) = some r := H; have A7 := Aside0.mk A70; clear A70; have HC8 := Aside0.mk H; clear H
 go_enter Tryd.func13, Tryd.ntmps13
 go_upto_region 4 with (first | ((with_reducible refine gate_dst (N := 3) rfl ?_); (try (refine gate_guard (by rfl) ?_; dsimp only)); refine box_event ?hg (N := 3) ?hd (cs := #[.int .i32 a0_0, .int .i32 a0_1, .int .u8 a0_2]) (t := 39) ?hr ?_; (case hd => rfl); (case hg => rfl); (case hr => first | (go_simp; done) | (go_simp; rfl)); intro gb227 hg w9 hbox hb; have n0_ := Aside0.mk (below_step (pH_ HB.out) hb); have n1_ := Aside0.mk (hbox); have n2_ := Aside0.mk ((by rw [hg]; exact (below_size (pH_ HB.out)) : w.heap.size ≤ gb227)); have n3_ := Aside0.mk ((by rw [hg]; exact (below_size (pH_ HB.out)) : w.heap.size ≤ gb227)); clear HB; have HB := n0_; have BK227 := n1_; have GW227 := n2_; have GE227 := n3_; clear n0_ n1_ n2_ n3_; clear hb hbox hg; have hcz10_0 : w9.cell? ⟨gb227, 0, none⟩ = some (.int .i32 a0_0) := (blk_cell BK227.out 0).trans rfl; have hcz10_1 : w9.cell? ⟨gb227, 1, none⟩ = some (.int .i32 a0_1) := (blk_cell BK227.out 1).trans rfl; have hcz10_2 : w9.cell? ⟨gb227, 2, none⟩ = some (.int .u8 a0_2) := (blk_cell BK227.out 2).trans rfl; have hfz10_0 := blk_frozen BK227.out 0; have hfz10_1 := blk_frozen BK227.out 1; have hfz10_2 := blk_frozen BK227.out 2) | ((with_reducible refine gate_callee (f := 37) rfl ?_); refine gL_ (some 22) Tryd.func37 #[.int .i32 a0_1, .int .i32 a0_0] ?_; (with_reducible refine (fixed_Sub.calls a0_1 a0_0 t228 _ A4.out).mono ?_); rintro e w11 ⟨rfl, hb⟩; refine ⟨_, rfl, ?_⟩; have n0_ := Aside0.mk (blk_below (pG_ BK227.out) hb); have n1_ := Aside0.mk (below_step (pH_ HB.out) hb); clear BK227; clear HB; have BK227 := n0_; have HB := n1_; clear n0_ n1_; (try clear hb)) | ((with_reducible refine gate_callee (f := 36) rfl ?_); refine gL_ (some 23) Tryd.func36 #[.int .i32 t228, .int .i32 170] ?_; (with_reducible refine (fixed_Mul.calls t228 170 t229 _ A5.out).mono ?_); rintro e w12 ⟨rfl, hb⟩; refine ⟨_, rfl, ?_⟩; have n0_ := Aside0.mk (blk_below (pG_ BK227.out) hb); have n1_ := Aside0.mk (below_step (pH_ HB.out) hb); clear BK227; clear HB; have BK227 := n0_; have HB := n1_; clear n0_ n1_; (try clear hb)) | ((with_reducible refine gate_callee (f := 38) rfl ?_); refine gL_ (some 25) Tryd.func38 #[.int .i32 t229] ?_; (with_reducible refine (squash_Squash.calls t229 t230 _ (tab_bel hT (pH_ HB.out)) A6.out).mono ?_); rintro e w' ⟨rfl, ⟨nd, rfl⟩⟩; refine ⟨_, rfl, ?_⟩) | ((with_reducible refine gate_callee (f := 39) rfl ?_); refine gL_ (some 27) Tryd.func39 #[.int .i32 t230] ?_; (with_reducible refine (squash_Stretch.calls t230 t231 _ (tab_bel hT (pH_ HB.out)) A7.out).mono ?_); rintro e w13 ⟨rfl, hb⟩; refine ⟨_, rfl, ?_⟩; have n0_ := Aside0.mk (blk_below (pG_ BK227.out) hb); have n1_ := Aside0.mk (below_step (pH_ HB.out) hb); clear BK227; clear HB; have BK227 := n0_; have HB := n1_; clear n0_ n1_; (try clear hb)))
 (try simp only [Act.put, sA_, sZ_, sS_]); (with_reducible first | refine then_id_ ?_ | (refine wp_tail_ ?_; intro Kt_ hKt_))
 go_cut [58] (fun v58 wc => ∃ (kq : Nat) (x58_7 : Bool), v58 = .bool x58_7 ∧ Aside0 (bitlofttop_led08.j0 kq a1 a2 t229 t231 x58_7 a0_0 a0_1 a0_2 = some r) ∧ Aside0 (kq ≤ k) ∧ Aside0 (wc.heap[gb227]? = some (.cells #[.int .i32 a0_0, .int .i32 a0_1, .int .u8 a0_2] 39 (0, 0))) ∧ Aside0 (Below w.heap.size w wc))
 case first =>
  have H := HC8.out; clear HC8
  by_cases c14 : t230 < 1
  ·
   rw [if_pos c14] at H; have c14b0 : decide (t230 < 1) = true := decide_eq_true c14; clear c14; (first | rw [c14b0] | (simp only [i64_w, i32_w]; rw [c14b0]) | skip); have H' := Aside0.mk H; clear H
   go_wp2
   (first | go_meet | (refine Met.intro ?_; go_step; (repeat apply Exists.intro); refine ⟨?rel, ?eqf_⟩; case eqf_ => ((simp only [c14b0]) <;> rfl)))
   case rel => exact ⟨_, (true), (by first | rfl | (simp; done) | (simp [*]; done)), H', ⟨by first | omega | exact Nat.le_refl _⟩, ⟨pG_ BK227.out⟩, ⟨pH_ HB.out⟩⟩
  ·
   rw [if_neg c14] at H; have c14b0 : decide (t230 < 1) = false := decide_eq_false c14; clear c14; (first | rw [c14b0] | (simp only [i64_w, i32_w]; rw [c14b0]) | skip)
   by_cases c15 : t230 > 4094
   ·
    rw [if_pos c15] at H; have c15b0 : decide (4094 < t230) = true := decide_eq_true c15; clear c15; have H' := Aside0.mk H; clear H
    go_wp2
    (first | go_meet | (refine Met.intro ?_; go_step; (repeat apply Exists.intro); refine ⟨?rel, ?eqf_⟩; case eqf_ => ((simp only [c15b0, c14b0]) <;> rfl)))
    case rel => exact ⟨_, (true), (by first | rfl | (simp; done) | (simp [*]; done)), H', ⟨by first | omega | exact Nat.le_refl _⟩, ⟨pG_ BK227.out⟩, ⟨pH_ HB.out⟩⟩
   ·
    rw [if_neg c15] at H; have c15b0 : decide (4094 < t230) = false := decide_eq_false c15; clear c15
    by_cases c16 : t231 > t229
    ·
     rw [if_pos c16] at H; have c16b0 : decide (t229 < t231) = true := decide_eq_true c16; clear c16; have H' := Aside0.mk H; clear H
     go_wp2
     (first | go_meet | (refine Met.intro ?_; go_step; (repeat apply Exists.intro); refine ⟨?rel, ?eqf_⟩; case eqf_ => ((simp only [c16b0, c15b0, c14b0]) <;> rfl)))
     case rel => exact ⟨_, (true), (by first | rfl | (simp; done) | (simp [*]; done)), H', ⟨by first | omega | exact Nat.le_refl _⟩, ⟨pG_ BK227.out⟩, ⟨pH_ HB.out⟩⟩
    ·
     rw [if_neg c16] at H; have c16b0 : decide (t229 < t231) = false := decide_eq_false c16; clear c16; replace H := Option.bind_eq_some_iff.mp H; obtain ⟨t232, A170, H⟩ := H; replace H : (if t232 < t230 then (bitlofttop_led08.j0 k a1 a2 t229 t231 true a0_0 a0_1 a0_2) else (if t231 < (wrap32 (t229 - 128)) then (if t230 > 30 then (bitlofttop_led08.j0 k a1 a2 t229 t231 (decide (t230 < 4000)) a0_0 a0_1 a0_2) else (bitlofttop_led08.j0 k a1 a2 t229 t231 false a0_0 a0_1 a0_2)) else (bitlofttop_led08.j0 k a1 a2 t229 t231 false a0_0 a0_1 a0_2))) = some r := H; have A17 := Aside0.mk A170; clear A170
     by_cases c18 : t232 < t230
     ·
      rw [if_pos c18] at H; have c18b0 : decide (t232 < t230) = true := decide_eq_true c18; clear c18; have H' := Aside0.mk H; clear H
      go_wp2_with (first | (go_at_call 38; (with_reducible refine (squash_Squash.calls t231 t232 _ (tab_bel hT (pH_ HB.out)) A17.out).mono ?_); rintro e w' ⟨rfl, ⟨nd, rfl⟩⟩))
      (first | go_meet | (refine Met.intro ?_; go_step; (repeat apply Exists.intro); refine ⟨?rel, ?eqf_⟩; case eqf_ => ((simp only [c18b0, c16b0, c15b0, c14b0]) <;> rfl)))
      case rel => exact ⟨_, (true), (by first | rfl | (simp; done) | (simp [*]; done)), H', ⟨by first | omega | exact Nat.le_refl _⟩, ⟨pG_ BK227.out⟩, ⟨pH_ HB.out⟩⟩
     ·
      rw [if_neg c18] at H; have c18b0 : decide (t232 < t230) = false := decide_eq_false c18; clear c18
      by_cases c19 : t231 < (wrap32 (t229 - 128))
      ·
       rw [if_pos c19] at H; have c19b0 : decide (t231 < (wrap32 (t229 - 128))) = true := decide_eq_true c19; clear c19
       by_cases c20 : t230 > 30
       ·
        rw [if_pos c20] at H; have c20b0 : decide (30 < t230) = true := decide_eq_true c20; clear c20; have H' := Aside0.mk H; clear H
        go_wp2_with (first | (go_at_call 38; (with_reducible refine (squash_Squash.calls t231 t232 _ (tab_bel hT (pH_ HB.out)) A17.out).mono ?_); rintro e w' ⟨rfl, ⟨nd, rfl⟩⟩))
        (first | go_meet | (refine Met.intro ?_; go_step; (repeat apply Exists.intro); refine ⟨?rel, ?eqf_⟩; case eqf_ => ((simp only [c20b0, c19b0, c18b0, c16b0, c15b0, c14b0]) <;> rfl)))
        case rel => exact ⟨_, (decide (t230 < 4000)), (by first | rfl | (simp; done) | (simp [*]; done)), H', ⟨by first | omega | exact Nat.le_refl _⟩, ⟨pG_ BK227.out⟩, ⟨pH_ HB.out⟩⟩
       ·
        rw [if_neg c20] at H; have c20b0 : decide (30 < t230) = false := decide_eq_false c20; clear c20; have H' := Aside0.mk H; clear H
        go_wp2_with (first | (go_at_call 38; (with_reducible refine (squash_Squash.calls t231 t232 _ (tab_bel hT (pH_ HB.out)) A17.out).mono ?_); rintro e w' ⟨rfl, ⟨nd, rfl⟩⟩))
        (first | go_meet | (refine Met.intro ?_; go_step; (repeat apply Exists.intro); refine ⟨?rel, ?eqf_⟩; case eqf_ => ((simp only [c20b0, c19b0, c18b0, c16b0, c15b0, c14b0]) <;> rfl)))
        case rel => exact ⟨_, (false), (by first | rfl | (simp; done) | (simp [*]; done)), H', ⟨by first | omega | exact Nat.le_refl _⟩, ⟨pG_ BK227.out⟩, ⟨pH_ HB.out⟩⟩
      ·
       rw [if_neg c19] at H; have c19b0 : decide (t231 < (wrap32 (t229 - 128))) = false := decide_eq_false c19; clear c19; have H' := Aside0.mk H; clear H
       go_wp2_with (first | (go_at_call 38; (with_reducible refine (squash_Squash.calls t231 t232 _ (tab_bel hT (pH_ HB.out)) A17.out).mono ?_); rintro e w' ⟨rfl, ⟨nd, rfl⟩⟩))
       (first | go_meet | (refine Met.intro ?_; go_step; (repeat apply Exists.intro); refine ⟨?rel, ?eqf_⟩; case eqf_ => ((simp only [c19b0, c18b0, c16b0, c15b0, c14b0]) <;> rfl)))
       case rel => exact ⟨_, (false), (by first | rfl | (simp; done) | (simp [*]; done)), H', ⟨by first | omega | exact Nat.le_refl _⟩, ⟨pG_ BK227.out⟩, ⟨pH_ HB.out⟩⟩
 case rest =>
  (try (refine hKt_ _ _ ?_; clear hKt_; clear Kt_)); clear HC8
  try clear c1
  try clear c2
  try clear p2
  try clear c3
  try clear p3
  try clear c13
  try clear c14
  try clear c14b0
  try clear c15
  try clear c15b0
  try clear c16
  try clear c16b0
  try clear c18
  try clear c18b0
  try clear c19
  try clear c19b0
  try clear c20
  try clear c20b0
  try clear hcz10_0
  try clear hcz10_1
  try clear hcz10_2
  try clear hfz10_0
  try clear hfz10_1
  try clear hfz10_2
  obtain ⟨kq, x58_7, rfl, HA, HJ7, BK227, HB⟩ := hcut
  cases kq with
  | zero => exact absurd HA.out (by simp [bitlofttop_led08.j0])
  | succ kj7 =>
   have H := HA.out; clear HA; simp only [bitlofttop_led08.j0] at H
   by_cases c21 : x58_7 = true
   ·
    subst c21
    have H1 : (some false) = some r := by rw [if_pos rfl] at H; exact H
    clear H; have H := H1; clear H1; obtain rfl := Option.some.inj H
    go_wp2
    go_ret
    exact ⟨by first | rfl | (simp [errW_none, errW_some] <;> rfl) | (simp [*, errW_none, errW_some] <;> rfl), pH_ HB.out⟩
   ·
    replace c21 := Bool.eq_false_iff.mpr c21
    subst c21
    have H1 : ((fixed_Dot.f kj7 (([a2, 65536, a2] : List Int)) (([t231, t229, wrap32 (-t231)] : List Int))).bind fun bt239 => ((fixed_Round.f kj7 (wrap64 (bt239.1)) 16).bind fun bt241 => (if bt239.2 = 0 then (if bt241.2 = 0 then (bitlofttop_led08.j1 kj7 a1 bt241.1 (bt241.1 != (wrap64 (t229))) a0_0 a0_1 a0_2) else (bitlofttop_led08.j1 kj7 a1 bt241.1 true a0_0 a0_1 a0_2)) else (bitlofttop_led08.j1 kj7 a1 bt241.1 true a0_0 a0_1 a0_2)))) = some r := by rw [if_neg (show ¬ (false = true) by decide)] at H; exact H
    clear H; have H := H1; clear H1; obtain ⟨y233, hy233⟩ : ∃ y_ : List Int, y_ = (([a2, 65536, a2] : List Int)) := ⟨_, rfl⟩
    replace H : ((fixed_Dot.f kj7 y233 (([t231, t229, wrap32 (-t231)] : List Int))).bind fun bt239 => ((fixed_Round.f kj7 (wrap64 (bt239.1)) 16).bind fun bt241 => (if bt239.2 = 0 then (if bt241.2 = 0 then (bitlofttop_led08.j1 kj7 a1 bt241.1 (bt241.1 != (wrap64 (t229))) a0_0 a0_1 a0_2) else (bitlofttop_led08.j1 kj7 a1 bt241.1 true a0_0 a0_1 a0_2)) else (bitlofttop_led08.j1 kj7 a1 bt241.1 true a0_0 a0_1 a0_2)))) = some r := by first | (rw [hy233]; with_reducible exact H) | (have H2_ := (Option.bind_some _ _).symm.trans H; rw [hy233]; with_reducible exact H2_) | (have H2_ := (Option.bind_some _ _).symm.trans H; with_reducible exact H2_) | with_reducible exact H | (rw [hy233]; exact H) | exact H
    have Ny233 := Aside0.mk hy233; clear hy233; obtain ⟨y236, hy236⟩ : ∃ y_ : List Int, y_ = (([t231, t229, wrap32 (-t231)] : List Int)) := ⟨_, rfl⟩
    replace H : ((fixed_Dot.f kj7 y233 y236).bind fun bt239 => ((fixed_Round.f kj7 (wrap64 (bt239.1)) 16).bind fun bt241 => (if bt239.2 = 0 then (if bt241.2 = 0 then (bitlofttop_led08.j1 kj7 a1 bt241.1 (bt241.1 != (wrap64 (t229))) a0_0 a0_1 a0_2) else (bitlofttop_led08.j1 kj7 a1 bt241.1 true a0_0 a0_1 a0_2)) else (bitlofttop_led08.j1 kj7 a1 bt241.1 true a0_0 a0_1 a0_2)))) = some r := by first | (rw [hy236]; with_reducible exact H) | (have H2_ := (Option.bind_some _ _).symm.trans H; rw [hy236]; with_reducible exact H2_) | (have H2_ := (Option.bind_some _ _).symm.trans H; with_reducible exact H2_) | with_reducible exact H | (rw [hy236]; exact H) | exact H
    have Ny236 := Aside0.mk hy236; clear hy236; replace H := Option.bind_eq_some_iff.mp H; obtain ⟨⟨t239, t240⟩, A220, H⟩ := H; replace H : ((fixed_Round.f kj7 (wrap64 (t239)) 16).bind fun bt241 => (if t240 = 0 then (if bt241.2 = 0 then (bitlofttop_led08.j1 kj7 a1 bt241.1 (bt241.1 != (wrap64 (t229))) a0_0 a0_1 a0_2) else (bitlofttop_led08.j1 kj7 a1 bt241.1 true a0_0 a0_1 a0_2)) else (bitlofttop_led08.j1 kj7 a1 bt241.1 true a0_0 a0_1 a0_2))) = some r := H; have A22 := Aside0.mk A220; clear A220; replace H := Option.bind_eq_some_iff.mp H; obtain ⟨⟨t241, t242⟩, A230, H⟩ := H; replace H : (if t240 = 0 then (if t242 = 0 then (bitlofttop_led08.j1 kj7 a1 t241 (t241 != (wrap64 (t229))) a0_0 a0_1 a0_2) else (bitlofttop_led08.j1 kj7 a1 t241 true a0_0 a0_1 a0_2)) else (bitlofttop_led08.j1 kj7 a1 t241 true a0_0 a0_1 a0_2)) = some r := H; have A23 := Aside0.mk A230; clear A230; have HC24 := Aside0.mk H; clear H
    go_upto_region 8 with (first | ((with_reducible refine gate_dst (N := 62) rfl ?_); (try (refine gate_guard (by rfl) ?_; dsimp only)); refine Kd.R_lit (Kd.int .i32) _ 21 ?hg (N := 62) ?hd (xs := ([a2, 65536, a2] : List Int)) (inner := [.int .i32 a2, .int .i32 65536, .int .i32 a2]) (ok := fun _ => True) (okp := fun _ => True) ?hr ?hp (fun _ hk => hk) trivial (Below.refl _ _) (Nat.le_refl _) (by simp) ?_; (case hd => rfl); (case hg => rfl); (case hr => first | (go_simp; done) | (go_simp; rfl)); (case hp => exact (Reps.one (show Kd.M (Kd.int .i32) _ _ _ a2 [.int .i32 a2] from rfl) (Reps.one (show Kd.M (Kd.int .i32) _ _ _ 65536 [.int .i32 65536] from rfl) (Reps.one (show Kd.M (Kd.int .i32) _ _ _ a2 [.int .i32 a2] from rfl) (Reps.none _ _))))); intro v234 w25 ho26 hb hg_ hnew_; clear hg_ hnew_; (first | rw [← Ny233.out] at ho26 | (simp only [Int.reduceToNat] at ho26; rw [← Ny233.out] at ho26)); have n0_ := Aside0.mk (Kd.R_lower ho26 (below_size (pH_ HB.out))); have n1_ := Aside0.mk (blk_below (pG_ BK227.out) hb); have n2_ := Aside0.mk (below_step (pH_ HB.out) hb); clear BK227; clear HB; have HO235 := n0_; have BK227 := n1_; have HB := n2_; clear n0_ n1_ n2_; clear hb ho26) | ((with_reducible refine gate_dst (N := 67) rfl ?_); (try (refine gate_guard (by rfl) ?_; dsimp only)); refine Kd.R_lit (Kd.int .i32) _ 21 ?hg (N := 67) ?hd (xs := ([t231, t229, wrap32 (-t231)] : List Int)) (inner := [.int .i32 t231, .int .i32 t229, .int .i32 (wrap32 (-t231))]) (ok := fun _ => True) (okp := fun _ => True) ?hr ?hp (fun _ hk => hk) trivial (Below.refl _ _) (Nat.le_refl _) (by simp) ?_; (case hd => rfl); (case hg => rfl); (case hr => first | (go_simp; done) | (go_simp; rfl)); (case hp => exact (Reps.one (show Kd.M (Kd.int .i32) _ _ _ t231 [.int .i32 t231] from rfl) (Reps.one (show Kd.M (Kd.int .i32) _ _ _ t229 [.int .i32 t229] from rfl) (Reps.one (show Kd.M (Kd.int .i32) _ _ _ (wrap32 (-t231)) [.int .i32 (wrap32 (-t231))] from rfl) (Reps.none _ _))))); intro v237 w27 ho28 hb hg_ hnew_; clear hg_ hnew_; (first | rw [← Ny236.out] at ho28 | (simp only [Int.reduceToNat] at ho28; rw [← Ny236.out] at ho28)); have n0_ := Aside0.mk (Kd.R_elder' (pL_ HO235.out) (Kd.R_base ho28) hb); have n1_ := Aside0.mk (Kd.R_lower (Kd.R_new' ho28 (Kd.R_lt (pL_ HO235.out))) (below_size (pH_ HB.out))); have n2_ := Aside0.mk (blk_below (pG_ BK227.out) hb); have n3_ := Aside0.mk (below_step (pH_ HB.out) hb); clear HO235; clear BK227; clear HB; have HO235 := n0_; have HO238 := n1_; have BK227 := n2_; have HB := n3_; clear n0_ n1_ n2_ n3_; clear hb ho28; obtain ⟨Ao29, co29, eo29⟩ := Kd.R_slice HO235.out; subst eo29; obtain ⟨Ao30, co30, eo30⟩ := Kd.R_slice HO238.out; subst eo30) | ((with_reducible refine gate_callee (f := 40) rfl ?_); refine gL_ (some 68) Tryd.func40 #[.slice Ao29 y233.length co29, .slice Ao30 y236.length co30] ?_; (with_reducible refine (fixed_Dot.calls kj7 _ _ y233 _ _ y236 t239 t240 _ ?side1 ?side2 ?side3 ?side4 A22.out).mono ?_); (case side1 => repeat (first | exact (Kd.R_reads' HO235.out).2.2 | (with_reducible refine Kd.C_alloc ?_ _) | (with_reducible refine Kd.C_drewN ?_ _) | (with_reducible refine Kd.C_drew ?_))); (case side2 => exact (Kd.R_reads' HO235.out).2.1); (case side3 => repeat (first | exact (Kd.R_reads' HO238.out).2.2 | (with_reducible refine Kd.C_alloc ?_ _) | (with_reducible refine Kd.C_drewN ?_ _) | (with_reducible refine Kd.C_drew ?_))); (case side4 => exact (Kd.R_reads' HO238.out).2.1); rintro e w31 ⟨rfl, hb⟩; refine ⟨_, rfl, ?_⟩; have n0_ := Aside0.mk (Kd.R_below (pL_ HO235.out) hb); have n1_ := Aside0.mk (Kd.R_below (pL_ HO238.out) hb); have n2_ := Aside0.mk (blk_below (pG_ BK227.out) hb); have n3_ := Aside0.mk (below_step (pH_ HB.out) hb); clear HO235; clear HO238; clear BK227; clear HB; have HO235 := n0_; have HO238 := n1_; have BK227 := n2_; have HB := n3_; clear n0_ n1_ n2_ n3_; (try clear hb)) | ((with_reducible refine gate_callee (f := 41) rfl ?_); refine gL_ (some 74) Tryd.func41 #[.int .i64 (wrap64 (t239)), .int .i64 16] ?_; (with_reducible refine (fixed_Round.calls kj7 (wrap64 (t239)) 16 t241 t242 _ A23.out).mono ?_); rintro e w' ⟨rfl, ⟨nd, rfl⟩⟩; refine ⟨_, rfl, ?_⟩))
    (try simp only [Act.put, sA_, sZ_, sS_]); (with_reducible first | refine then_id_ ?_ | (refine wp_tail_ ?_; intro Kt_ hKt_))
    go_cut [88] (fun v88 wc => ∃ (kq : Nat) (x88_23 : Bool), v88 = .bool x88_23 ∧ Aside0 (bitlofttop_led08.j1 kq a1 t241 x88_23 a0_0 a0_1 a0_2 = some r) ∧ Aside0 (kq ≤ kj7) ∧ Aside0 (wc.heap[gb227]? = some (.cells #[.int .i32 a0_0, .int .i32 a0_1, .int .u8 a0_2] 39 (0, 0))) ∧ Aside0 (Below w.heap.size w wc))
    case first =>
     have H := HC24.out; clear HC24
     by_cases c32 : t240 = 0
     ·
      rw [if_pos c32] at H; have c32b0 : (t240 == 0) = true := beq_iff_eq.mpr c32; have c32b1 : (t240 != 0) = false := bne_eq_false_iff_eq.mpr c32; clear c32; (first | rw [c32b0] | (simp only [i64_w, i32_w]; rw [c32b0]) | skip)
      by_cases c33 : t242 = 0
      ·
       rw [if_pos c33] at H; have c33b0 : (t242 == 0) = true := beq_iff_eq.mpr c33; have c33b1 : (t242 != 0) = false := bne_eq_false_iff_eq.mpr c33; clear c33; have H' := Aside0.mk H; clear H
       go_wp2
       (first | go_meet | (refine Met.intro ?_; go_step; (repeat apply Exists.intro); refine ⟨?rel, ?eqf_⟩; case eqf_ => ((simp only [c33b0, c32b0]) <;> rfl)))
       case rel => exact ⟨_, ((t241 != (wrap64 (t229)))), (by first | rfl | (simp; done) | (simp [*]; done)), H', ⟨by have := HJ7.out; first | omega | exact Nat.le_refl _⟩, ⟨pG_ BK227.out⟩, ⟨pH_ HB.out⟩⟩
      ·
       rw [if_neg c33] at H; have c33b0 : (t242 == 0) = false := beq_eq_false_iff_ne.mpr c33; have c33b1 : (t242 != 0) = true := bne_iff_ne.mpr c33; have H' := Aside0.mk H; clear H
       go_wp2
       (first | go_meet | (refine Met.intro ?_; go_step; (repeat apply Exists.intro); refine ⟨?rel, ?eqf_⟩; case eqf_ => ((simp only [c33b0, c32b0]) <;> rfl)))
       case rel => exact ⟨_, (true), (by first | rfl | (simp; done) | (simp [*]; done)), H', ⟨by have := HJ7.out; first | omega | exact Nat.le_refl _⟩, ⟨pG_ BK227.out⟩, ⟨pH_ HB.out⟩⟩
     ·
      rw [if_neg c32] at H; have c32b0 : (t240 == 0) = false := beq_eq_false_iff_ne.mpr c32; have c32b1 : (t240 != 0) = true := bne_iff_ne.mpr c32; (first | rw [c32b0] | (simp only [i64_w, i32_w]; rw [c32b0]) | skip); have H' := Aside0.mk H; clear H
      go_wp2
      (first | go_meet | (refine Met.intro ?_; go_step; (repeat apply Exists.intro); refine ⟨?rel, ?eqf_⟩; case eqf_ => ((simp only [c32b0]) <;> rfl)))
      case rel => exact ⟨_, (true), (by first | rfl | (simp; done) | (simp [*]; done)), H', ⟨by have := HJ7.out; first | omega | exact Nat.le_refl _⟩, ⟨pG_ BK227.out⟩, ⟨pH_ HB.out⟩⟩
    case rest =>
     (try (refine hKt_ _ _ ?_; clear hKt_; clear Kt_)); clear HC24
     try clear c1
     try clear c2
     try clear p2
     try clear c3
     try clear p3
     try clear c4
     try clear p6
     try clear c13
     try clear c14
     try clear c14b0
     try clear c15
     try clear c15b0
     try clear c16
     try clear c16b0
     try clear c18
     try clear c18b0
     try clear c19
     try clear c19b0
     try clear c20
     try clear c20b0
     try clear c21
     try clear c32
     try clear c32b0
     try clear c32b1
     try clear p32
     try clear c33
     try clear c33b0
     try clear c33b1
     try clear hcz10_0
     try clear hcz10_1
     try clear hcz10_2
     try clear hfz10_0
     try clear hfz10_1
     try clear hfz10_2
     try clear p2
     try clear p3
     obtain ⟨kq, x88_23, rfl, HA, HJ23, BK227, HB⟩ := hcut
     cases kq with
     | zero => exact absurd HA.out (by simp [bitlofttop_led08.j1])
     | succ kj23 =>
      have H := HA.out; clear HA; simp only [bitlofttop_led08.j1] at H
      by_cases c34 : x88_23 = true
      ·
       subst c34
       have H1 : (some false) = some r := by rw [if_pos rfl] at H; exact H
       clear H; have H := H1; clear H1; obtain rfl := Option.some.inj H
       go_wp2
       go_ret
       exact ⟨by first | rfl | (simp [errW_none, errW_some] <;> rfl) | (simp [*, errW_none, errW_some] <;> rfl), pH_ HB.out⟩
      ·
       replace c34 := Bool.eq_false_iff.mpr c34
       subst c34
       have H1 : (if a1 = 1 then (bitlofttop_led08.j2 kj23 t241 65535 a0_0 a0_1 a0_2) else (bitlofttop_led08.j2 kj23 t241 0 a0_0 a0_1 a0_2)) = some r := by rw [if_neg (show ¬ (false = true) by decide)] at H; exact H
       clear H; have H := H1; clear H1; have HC35 := Aside0.mk H; clear H
       go_upto_if 90 with (fail)
       (with_reducible first | refine then_id_ ?_ | (refine wp_tail_ ?_; intro Kt_ hKt_))
       go_cut [14, 90] (fun v14 v90 wc => ∃ (kq : Nat) (x14_34 : Int), v14 = .int .i32 x14_34 ∧ Aside0 (bitlofttop_led08.j2 kq t241 x14_34 a0_0 a0_1 a0_2 = some r) ∧ Aside0 (kq ≤ kj23) ∧ Aside0 (wc.heap[gb227]? = some (.cells #[.int .i32 a0_0, .int .i32 a0_1, .int .u8 a0_2] 39 (0, 0))) ∧ Aside0 (Below w.heap.size w wc))
       case first =>
        have H := HC35.out; clear HC35
        by_cases c36 : a1 = 1
        ·
         rw [if_pos c36] at H; have c36b0 : (a1 == 1) = true := beq_iff_eq.mpr c36; have c36b1 : (a1 != 1) = false := bne_eq_false_iff_eq.mpr c36; clear c36; (first | rw [c36b0] | (simp only [i64_w, i32_w]; rw [c36b0]) | skip); have H' := Aside0.mk H; clear H
         go_wp2
         (first | go_meet | (refine Met.intro ?_; go_step; (repeat apply Exists.intro); refine ⟨?rel, ?eqf_⟩; case eqf_ => ((simp only [c36b0]) <;> rfl)))
         case rel => exact ⟨_, (65535), (by first | rfl | (simp; done) | (simp [*]; done)), H', ⟨by have := HJ7.out; have := HJ23.out; first | omega | exact Nat.le_refl _⟩, ⟨pG_ BK227.out⟩, ⟨pH_ HB.out⟩⟩
        ·
         rw [if_neg c36] at H; have c36b0 : (a1 == 1) = false := beq_eq_false_iff_ne.mpr c36; have c36b1 : (a1 != 1) = true := bne_iff_ne.mpr c36; (first | rw [c36b0] | (simp only [i64_w, i32_w]; rw [c36b0]) | skip); have H' := Aside0.mk H; clear H
         go_wp2
         (first | go_meet | (refine Met.intro ?_; go_step; (repeat apply Exists.intro); refine ⟨?rel, ?eqf_⟩; case eqf_ => ((simp only [c36b0]) <;> rfl)))
         case rel => exact ⟨_, (0), (by first | rfl | (simp; done) | (simp [*]; done)), H', ⟨by have := HJ7.out; have := HJ23.out; first | omega | exact Nat.le_refl _⟩, ⟨pG_ BK227.out⟩, ⟨pH_ HB.out⟩⟩
       case rest =>
        (try (refine hKt_ _ _ ?_; clear hKt_; clear Kt_)); clear HC35
        try clear c1
        try clear c2
        try clear p2
        try clear c3
        try clear p3
        try clear c4
        try clear p6
        try clear c13
        try clear c14
        try clear c14b0
        try clear c15
        try clear c15b0
        try clear c16
        try clear c16b0
        try clear c18
        try clear c18b0
        try clear c19
        try clear c19b0
        try clear c20
        try clear c20b0
        try clear c21
        try clear c32
        try clear c32b0
        try clear c32b1
        try clear p32
        try clear c33
        try clear c33b0
        try clear c33b1
        try clear c34
        try clear c36
        try clear c36b0
        try clear c36b1
        try clear hcz10_0
        try clear hcz10_1
        try clear hcz10_2
        try clear hfz10_0
        try clear hfz10_1
        try clear hfz10_2
        try clear p2
        try clear p3
        try clear p32
        try clear p6
        obtain ⟨kq, x14_34, rfl, HA, HJ34, BK227, HB⟩ := hcut
        cases kq with
        | zero => exact absurd HA.out (by simp [bitlofttop_led08.j2])
        | succ kj34 =>
         have H := HA.out; clear HA; simp only [bitlofttop_led08.j2] at H; replace H := Option.bind_eq_some_iff.mp H; obtain ⟨t243, A370, H⟩ := H; replace H : ((recip_Step.f kj34 (wrap32 (16 * t243)) x14_34 (wrap32 ((wrap32 (a0_0 + a0_1)) + 2))).bind fun bt244 => (if bt244.2 = 0 then (if bt244.1 ≥ (mn (wrap32 (16 * t243)) x14_34) then (bitlofttop_led08.j3 kj34 (decide (bt244.1 ≤ (mx (wrap32 (16 * t243)) x14_34)))) else (bitlofttop_led08.j3 kj34 false)) else (bitlofttop_led08.j3 kj34 false))) = some r := H; have A37 := Aside0.mk A370; clear A370; replace H := Option.bind_eq_some_iff.mp H; obtain ⟨⟨t244, t245⟩, A380, H⟩ := H; replace H : (if t245 = 0 then (if t244 ≥ (mn (wrap32 (16 * t243)) x14_34) then (bitlofttop_led08.j3 kj34 (decide (t244 ≤ (mx (wrap32 (16 * t243)) x14_34)))) else (bitlofttop_led08.j3 kj34 false)) else (bitlofttop_led08.j3 kj34 false)) = some r := H; have A38 := Aside0.mk A380; clear A380; have HC39 := Aside0.mk H; clear H
         go_upto_region 15 with (first | ((with_reducible refine gate_callee (f := 38) rfl ?_); refine gL_ (some 93) Tryd.func38 #[.int .i32 (wrap32 (t241))] ?_; (with_reducible refine (squash_Squash.calls (wrap32 (t241)) t243 _ (tab_bel hT (pH_ HB.out)) A37.out).mono ?_); rintro e w' ⟨rfl, ⟨nd, rfl⟩⟩; refine ⟨_, rfl, ?_⟩; have hcz40_0 : wc.cell? ⟨gb227, 0, none⟩ = some (.int .i32 a0_0) := (blk_cell BK227.out 0).trans rfl; have hcz40_1 : wc.cell? ⟨gb227, 1, none⟩ = some (.int .i32 a0_1) := (blk_cell BK227.out 1).trans rfl; have hcz40_2 : wc.cell? ⟨gb227, 2, none⟩ = some (.int .u8 a0_2) := (blk_cell BK227.out 2).trans rfl; have hfz40_0 := blk_frozen BK227.out 0; have hfz40_1 := blk_frozen BK227.out 1; have hfz40_2 := blk_frozen BK227.out 2) | ((with_reducible refine gate_callee (f := 42) rfl ?_); refine gL_ (some 104) Tryd.func42 #[.int .i32 (wrap32 (16 * t243)), .int .i32 x14_34, .int .i32 (wrap32 ((wrap32 (a0_0 + a0_1)) + 2))] ?_; (with_reducible refine (recip_Step.calls kj34 (wrap32 (16 * t243)) x14_34 (wrap32 ((wrap32 (a0_0 + a0_1)) + 2)) t244 t245 _ A38.out).mono ?_); rintro e w41 ⟨rfl, hb⟩; refine ⟨_, rfl, ?_⟩; have n0_ := Aside0.mk (blk_below (pG_ BK227.out) hb); have n1_ := Aside0.mk (below_step (pH_ HB.out) hb); clear BK227; clear HB; have BK227 := n0_; have HB := n1_; clear n0_ n1_; (try clear hb)))
         (try simp only [Act.put, sA_, sZ_, sS_]); (with_reducible first | refine then_id_ ?_ | (refine wp_tail_ ?_; intro Kt_ hKt_))
         go_cut [6] (fun v6 wc => ∃ (kq : Nat) (x6_38 : Bool), v6 = .bool x6_38 ∧ Aside0 (bitlofttop_led08.j3 kq x6_38 = some r) ∧ Aside0 (kq ≤ kj34) ∧ Aside0 (wc.heap[gb227]? = some (.cells #[.int .i32 a0_0, .int .i32 a0_1, .int .u8 a0_2] 39 (0, 0))) ∧ Aside0 (Below w.heap.size w wc))
         case first =>
          have H := HC39.out; clear HC39
          by_cases c42 : t245 = 0
          ·
           rw [if_pos c42] at H; have c42b0 : (t245 == 0) = true := beq_iff_eq.mpr c42; have c42b1 : (t245 != 0) = false := bne_eq_false_iff_eq.mpr c42; clear c42; (first | rw [c42b0] | (simp only [i64_w, i32_w]; rw [c42b0]) | skip); obtain ⟨ji43, hji43⟩ : ∃ j_ : Int, (mn (wrap32 (16 * t243)) x14_34) = j_ := ⟨_, rfl⟩
           replace H : (if t244 ≥ (ji43) then (bitlofttop_led08.j3 kj34 (decide (t244 ≤ (mx (wrap32 (16 * t243)) x14_34)))) else (bitlofttop_led08.j3 kj34 false)) = some r := by first | (rw [hji43] at H; exact H) | (simp only [hji43] at H ⊢; exact H)
           have hji43_ : (if x14_34 < (wrap32 (16 * t243)) then x14_34 else (wrap32 (16 * t243))) = ji43 := hji43
           by_cases c44 : t244 ≥ (ji43)
           ·
            rw [if_pos c44] at H; have c44b0 : decide ((ji43) ≤ t244) = true := decide_eq_true c44; clear c44; obtain ⟨ji45, hji45⟩ : ∃ j_ : Int, (mx (wrap32 (16 * t243)) x14_34) = j_ := ⟨_, rfl⟩
            replace H : (bitlofttop_led08.j3 kj34 (decide (t244 ≤ (ji45)))) = some r := by first | (rw [hji45] at H; exact H) | (simp only [hji45] at H ⊢; exact H)
            have hji45_ : (if (wrap32 (16 * t243)) < x14_34 then x14_34 else (wrap32 (16 * t243))) = ji45 := hji45; have H' := Aside0.mk H; clear H
            go_wp2
            (first | go_meet | (refine Met.intro ?_; go_step; (repeat apply Exists.intro); refine ⟨?rel, ?eqf_⟩; case eqf_ => ((simp only [c44b0, c42b0]) <;> rfl)))
            case rel => exact ⟨_, (decide (t244 ≤ (ji45))), (by first | rfl | (simp; done) | (simp only [← hji45] <;> (first | rfl | simp)) | (simp [*]; done)), H', ⟨by have := HJ7.out; have := HJ23.out; have := HJ34.out; first | omega | exact Nat.le_refl _⟩, ⟨pG_ BK227.out⟩, ⟨pH_ HB.out⟩⟩
           ·
            rw [if_neg c44] at H; have c44b0 : decide ((ji43) ≤ t244) = false := decide_eq_false c44; clear c44; have H' := Aside0.mk H; clear H
            go_wp2
            (first | go_meet | (refine Met.intro ?_; go_step; (repeat apply Exists.intro); refine ⟨?rel, ?eqf_⟩; case eqf_ => ((simp only [c44b0, c42b0]) <;> rfl)))
            case rel => exact ⟨_, (false), (by first | rfl | (simp; done) | (simp [*]; done)), H', ⟨by have := HJ7.out; have := HJ23.out; have := HJ34.out; first | omega | exact Nat.le_refl _⟩, ⟨pG_ BK227.out⟩, ⟨pH_ HB.out⟩⟩
          ·
           rw [if_neg c42] at H; have c42b0 : (t245 == 0) = false := beq_eq_false_iff_ne.mpr c42; have c42b1 : (t245 != 0) = true := bne_iff_ne.mpr c42; (first | rw [c42b0] | (simp only [i64_w, i32_w]; rw [c42b0]) | skip); have H' := Aside0.mk H; clear H
           go_wp2
           (first | go_meet | (refine Met.intro ?_; go_step; (repeat apply Exists.intro); refine ⟨?rel, ?eqf_⟩; case eqf_ => ((simp only [c42b0]) <;> rfl)))
           case rel => exact ⟨_, (false), (by first | rfl | (simp; done) | (simp [*]; done)), H', ⟨by have := HJ7.out; have := HJ23.out; have := HJ34.out; first | omega | exact Nat.le_refl _⟩, ⟨pG_ BK227.out⟩, ⟨pH_ HB.out⟩⟩
         case rest =>
          (try (refine hKt_ _ _ ?_; clear hKt_; clear Kt_)); clear HC39
          try clear c1
          try clear c2
          try clear p2
          try clear c3
          try clear p3
          try clear c4
          try clear p6
          try clear c13
          try clear c14
          try clear c14b0
          try clear c15
          try clear c15b0
          try clear c16
          try clear c16b0
          try clear c18
          try clear c18b0
          try clear c19
          try clear c19b0
          try clear c20
          try clear c20b0
          try clear c21
          try clear c32
          try clear c32b0
          try clear c32b1
          try clear p32
          try clear c33
          try clear c33b0
          try clear c33b1
          try clear c34
          try clear c36
          try clear c36b0
          try clear c36b1
          try clear c37
          try clear c38
          try clear c39
          try clear c40
          try clear c41
          try clear c42
          try clear c42b0
          try clear c42b1
          try clear c44
          try clear c44b0
          try clear hcz10_0
          try clear hcz10_1
          try clear hcz10_2
          try clear hcz40_0
          try clear hcz40_1
          try clear hcz40_2
          try clear hfz10_0
          try clear hfz10_1
          try clear hfz10_2
          try clear hfz40_0
          try clear hfz40_1
          try clear hfz40_2
          try clear p2
          try clear p3
          try clear p32
          try clear p6
          obtain ⟨kq, x6_38, rfl, HA, HJ38, BK227, HB⟩ := hcut
          cases kq with
          | zero => exact absurd HA.out (by simp [bitlofttop_led08.j3])
          | succ kj38 =>
           have H := HA.out; clear HA; simp only [bitlofttop_led08.j3] at H; obtain rfl := Option.some.inj H
           go_wp2
           go_ret
           exact ⟨by first | rfl | (simp [errW_none, errW_some] <;> rfl) | (simp [*, errW_none, errW_some] <;> rfl), pH_ HB.out⟩

/-! ### octet_Left: function 14 -/
def octet_Left.f (l0_0 : List Int) (a0_1 : Int) : Option (Int × Int) := (octet_Check.f l0_0 a0_1).bind fun t247 => (if t247 = 0 then (some (wrap64 ((l0_0.length : Int) - a0_1), 0)) else (some (0, t247)))
set_option maxHeartbeats 8000000 in
set_option maxRecDepth 100000 in
theorem octet_Left.calls (A0_0 : Option Addr) (c0_0 : Nat) (l0_0 : List Int) (a0_1 : Int) (r1 : Int) (r2 : Int) (w : World) (hr0_0 : Kd.C (Kd.int .u8) w A0_0 l0_0.length l0_0) (hc0_0 : l0_0.length ≤ c0_0) (h : octet_Left.f l0_0 a0_1 = some (r1, r2)) :
  Calls Tryd.prog 14 #[.agg #[.slice A0_0 l0_0.length c0_0, .int .i64 a0_1]] w fun e w' => e = .returned (.tuple #[.int .i64 r1, .int .i64 r2]) ∧ Below w.heap.size w w' := by
 have hu28 := Tryd.underlying28; have HR0_0 := Aside0.mk hr0_0; have HC0_0 := Aside0.mk hc0_0; clear hr0_0 hc0_0; have HB := Aside0.mk (Below.refl w.heap.size w); have H : ((octet_Check.f l0_0 a0_1).bind fun t247 => (if t247 = 0 then (some (wrap64 ((l0_0.length : Int) - a0_1), 0)) else (some (0, t247)))) = some (r1, r2) := h; clear h; replace H := Option.bind_eq_some_iff.mp H; obtain ⟨t247, A20, H⟩ := H; replace H : (if t247 = 0 then (some (wrap64 ((l0_0.length : Int) - a0_1), 0)) else (some (0, t247))) = some (r1, r2) := H; have A2 := Aside0.mk A20; clear A20
 by_cases c3 : t247 = 0
 ·
  rw [if_pos c3] at H; have c3b0 : (t247 == 0) = true := beq_iff_eq.mpr c3; have c3b1 : (t247 != 0) = false := bne_eq_false_iff_eq.mpr c3; clear c3; simp only [Option.some.injEq, Prod.mk.injEq] at H; obtain ⟨rfl, rfl⟩ := H
  go_enter Tryd.func14, Tryd.ntmps14
  go_wp2_with (first | ((with_reducible refine gate_dst (N := 1) rfl ?_); refine box_event ?hg (N := 1) ?hd (cs := #[.slice A0_0 l0_0.length c0_0, .int .i64 a0_1]) (t := 28) ?hr ?_; (case hd => rfl); (case hg => rfl); (case hr => first | (go_simp; done) | (go_simp; rfl)); intro gb246 hg w4 hbox hb; have n0_ := Aside0.mk (below_step (pH_ HB.out) hb); have n1_ := Aside0.mk (hbox); have n2_ := Aside0.mk ((by rw [hg]; exact (below_size (pH_ HB.out)) : w.heap.size ≤ gb246)); have n3_ := Aside0.mk ((by rw [hg]; exact (below_size (pH_ HB.out)) : w.heap.size ≤ gb246)); clear HB; have HB := n0_; have BK246 := n1_; have GW246 := n2_; have GE246 := n3_; clear n0_ n1_ n2_ n3_; clear hb hbox hg; have hcz5_0 : w4.cell? ⟨gb246, 0, none⟩ = some (.slice A0_0 l0_0.length c0_0) := (blk_cell BK246.out 0).trans rfl; have hcz5_1 : w4.cell? ⟨gb246, 1, none⟩ = some (.int .i64 a0_1) := (blk_cell BK246.out 1).trans rfl; have hfz5_0 := blk_frozen BK246.out 0; have hfz5_1 := blk_frozen BK246.out 1) | ((with_reducible refine gate_callee (f := 31) rfl ?_); refine gL_ (some 6) Tryd.func31 #[.agg #[.slice A0_0 l0_0.length c0_0, .int .i64 a0_1]] ?_; (with_reducible refine (octet_Check.calls _ _ l0_0 a0_1 t247 _ ?side1 ?side2 A2.out).mono ?_); (case side1 => repeat (first | exact (Kd.C_below HR0_0.out HB.out) | (with_reducible refine Kd.C_alloc ?_ _) | (with_reducible refine Kd.C_drewN ?_ _) | (with_reducible refine Kd.C_drew ?_))); (case side2 => exact HC0_0.out); rintro e w6 ⟨rfl, hb⟩; refine ⟨_, rfl, ?_⟩; have n0_ := Aside0.mk (blk_below (pG_ BK246.out) hb); have n1_ := Aside0.mk (below_step (pH_ HB.out) hb); clear BK246; clear HB; have BK246 := n0_; have HB := n1_; clear n0_ n1_; (try clear hb); have hcz7_0 : w6.cell? ⟨gb246, 0, none⟩ = some (.slice A0_0 l0_0.length c0_0) := (blk_cell BK246.out 0).trans rfl; have hcz7_1 : w6.cell? ⟨gb246, 1, none⟩ = some (.int .i64 a0_1) := (blk_cell BK246.out 1).trans rfl; have hfz7_0 := blk_frozen BK246.out 0; have hfz7_1 := blk_frozen BK246.out 1))
  go_ret2
  exact ⟨by first | rfl | (simp [errW_none, errW_some] <;> rfl) | (simp [*, errW_none, errW_some] <;> rfl), pH_ HB.out⟩
 ·
  rw [if_neg c3] at H; have c3b0 : (t247 == 0) = false := beq_eq_false_iff_ne.mpr c3; have c3b1 : (t247 != 0) = true := bne_iff_ne.mpr c3; simp only [Option.some.injEq, Prod.mk.injEq] at H; obtain ⟨rfl, rfl⟩ := H
  go_enter Tryd.func14, Tryd.ntmps14
  go_wp2_with (first | ((with_reducible refine gate_dst (N := 1) rfl ?_); refine box_event ?hg (N := 1) ?hd (cs := #[.slice A0_0 l0_0.length c0_0, .int .i64 a0_1]) (t := 28) ?hr ?_; (case hd => rfl); (case hg => rfl); (case hr => first | (go_simp; done) | (go_simp; rfl)); intro gb246 hg w8 hbox hb; have n0_ := Aside0.mk (below_step (pH_ HB.out) hb); have n1_ := Aside0.mk (hbox); have n2_ := Aside0.mk ((by rw [hg]; exact (below_size (pH_ HB.out)) : w.heap.size ≤ gb246)); have n3_ := Aside0.mk ((by rw [hg]; exact (below_size (pH_ HB.out)) : w.heap.size ≤ gb246)); clear HB; have HB := n0_; have BK246 := n1_; have GW246 := n2_; have GE246 := n3_; clear n0_ n1_ n2_ n3_; clear hb hbox hg; have hcz9_0 : w8.cell? ⟨gb246, 0, none⟩ = some (.slice A0_0 l0_0.length c0_0) := (blk_cell BK246.out 0).trans rfl; have hcz9_1 : w8.cell? ⟨gb246, 1, none⟩ = some (.int .i64 a0_1) := (blk_cell BK246.out 1).trans rfl; have hfz9_0 := blk_frozen BK246.out 0; have hfz9_1 := blk_frozen BK246.out 1) | ((with_reducible refine gate_callee (f := 31) rfl ?_); refine gL_ (some 6) Tryd.func31 #[.agg #[.slice A0_0 l0_0.length c0_0, .int .i64 a0_1]] ?_; (with_reducible refine (octet_Check.calls _ _ l0_0 a0_1 t247 _ ?side1 ?side2 A2.out).mono ?_); (case side1 => repeat (first | exact (Kd.C_below HR0_0.out HB.out) | (with_reducible refine Kd.C_alloc ?_ _) | (with_reducible refine Kd.C_drewN ?_ _) | (with_reducible refine Kd.C_drew ?_))); (case side2 => exact HC0_0.out); rintro e w10 ⟨rfl, hb⟩; refine ⟨_, rfl, ?_⟩; have n0_ := Aside0.mk (blk_below (pG_ BK246.out) hb); have n1_ := Aside0.mk (below_step (pH_ HB.out) hb); clear BK246; clear HB; have BK246 := n0_; have HB := n1_; clear n0_ n1_; (try clear hb)))
  go_ret2
  exact ⟨by first | rfl | (simp [errW_none, errW_some] <;> rfl) | (simp [*, errW_none, errW_some] <;> rfl), pH_ HB.out⟩

-- NOT PRINTED: function 103 (slices_Grow_byte_byte)

/-! ### slices_Concat_byte_byte: function 81 -/
theorem slices_Concat_byte_byte.grow0 (n : Nat) (w : World) (hn : n < 1000000) : Calls Tryd.prog 103 #[.slice none 0 0, .int .i64 n] w fun e w' => ∃ v, e = .returned v ∧ Kd.R (Kd.int .u8) 5 w' w.heap.size (fun _ => True) v [] ∧ Below w.heap.size w w' := by
  have h1 : decide ((n : Int) < 0) = false := decide_eq_false (by omega)
  have hw : wrap64 (n : Int) = (n : Int) := by rw [wrap64]; omega
  have hB := Aside0.mk (Below.refl w.heap.size w)
  rcases Nat.eq_zero_or_pos n with h | h
  · subst h
    go_enter Tryd.func103, Tryd.ntmps103
    go_wp2
    go_ret
    exact ⟨_, rfl, Kd.R_nil _ _ _ _ _, hB.out⟩
  · have h2 : decide (0 < (n : Int)) = true := decide_eq_true (by omega)
    go_enter Tryd.func103, Tryd.ntmps103
    go_wp2_with (at_builtin; refine Kd.R_append_zeros (Kd.int .u8) (w0 := w) w.heap.size rfl (.tmp 20) (.tmp 21) 22 3 5 (.int .u8 0) 1 rfl Tryd.underlying22 Tryd.underlying3 (by kernel_rfl) rfl (by decide) (by omega) (.slice none 0 0) [] 0 (n : Int) (fun _ => True) rfl rfl rfl (fun _ _ => trivial) (Kd.R_nil _ _ _ _ _) (by omega) hB.out (Nat.le_refl _) (by simp only [List.length_nil, Int.toNat_natCast]; omega) ?_; intro v w1 ho hb hg hat; rw [Int.toNat_natCast, List.nil_append] at ho; obtain ⟨g, cap, e, _⟩ := Kd.R_form ho (by rw [List.length_replicate]; exact h); rw [List.length_replicate] at e; subst e; have HO := Aside0.mk ho; have HB1 := Aside0.mk hb; clear ho hb hg hat)
    go_ret
    exact ⟨_, rfl, (by have h3 := Kd.R_take HO.out (m := 0) (Nat.zero_le _); rwa [List.take_zero] at h3), HB1.out⟩
theorem slices_Concat_byte_byte.item2 (A0 : Option Addr) (l0 : List (List Int)) (w : World) (hr0 : Kd.C (Kd.slice 5 (Kd.int .u8)) w A0 l0.length l0) (k : Nat) (hk : k < l0.length) :
    ∃ ad A c, A0 = some ad ∧ w.cell? (ad.add k) = some (.slice A (l0.getD k []).length c) ∧ (l0.getD k []).length ≤ c ∧ Kd.C (Kd.int .u8) w A (l0.getD k []).length (l0.getD k []) := by
  obtain ⟨ad, c, e, hl, hK, hc⟩ := ReadsRow.get_ hr0 [] (k : Int) (by omega) (by omega)
  obtain ⟨A1, c1, h0, hl1, hg1⟩ := hK
  refine ⟨ad, A1, c1, e, ?_, hl1, hg1⟩
  have := hc 0 (.slice A1 (l0.getD k []).length c1) (by rw [h0]; rfl)
  rw [Int.toNat_natCast, show (Kd.slice 5 (Kd.int .u8)).sz = 1 from rfl, Nat.mul_one, Nat.add_zero] at this
  exact this
def slices_Concat_byte_byte.catL (l : List (List Int)) (k : Nat) : List Int := (l.take k).flatten
theorem slices_Concat_byte_byte.catL_succ (l : List (List Int)) (k : Nat) (h : k < l.length) : slices_Concat_byte_byte.catL l (k + 1) = slices_Concat_byte_byte.catL l k ++ l.getD k [] := by
  unfold slices_Concat_byte_byte.catL
  rw [List.take_add_one, List.flatten_append, List.getElem?_eq_getElem h, List.getD_eq_getElem?_getD, List.getElem?_eq_getElem h]
  simp
theorem slices_Concat_byte_byte.catL_le (l : List (List Int)) (k : Nat) : (slices_Concat_byte_byte.catL l k).length ≤ l.flatten.length := by
  have h : l.flatten = slices_Concat_byte_byte.catL l k ++ (l.drop k).flatten := by
    unfold slices_Concat_byte_byte.catL
    rw [← List.flatten_append, List.take_append_drop]
  rw [h, List.length_append]
  omega
theorem slices_Concat_byte_byte.w64a (m n : Nat) (h : m + n < 2000000) : wrap64 ((m : Int) + (n : Int)) = (m : Int) + (n : Int) := by rw [wrap64]; omega
theorem slices_Concat_byte_byte.w64b (n : Nat) (h : n < 2000000) : wrap64 ((n : Int) + 1) = (n : Int) + 1 := by rw [wrap64]; omega
theorem slices_Concat_byte_byte.neg_a (m n : Nat) : decide ((m : Int) + (n : Int) < 0) = false := decide_eq_false (by omega)
theorem slices_Concat_byte_byte.catL_all (l : List (List Int)) : slices_Concat_byte_byte.catL l l.length = l.flatten := by unfold slices_Concat_byte_byte.catL; rw [List.take_length]
def slices_Concat_byte_byte.f (l0 : List (List Int)) : Option (List Int) := if l0.flatten.length < 1000000 ∧ l0.length < 1000000 then some l0.flatten else none
set_option maxHeartbeats 2000000 in
theorem slices_Concat_byte_byte.calls (A0 : Option Addr) (c0 : Nat) (l0 : List (List Int)) (r : List Int) (w : World) (hr0 : Kd.C (Kd.slice 5 (Kd.int .u8)) w A0 l0.length l0) (hc0 : l0.length ≤ c0) (h : slices_Concat_byte_byte.f l0 = some r) :
    Calls Tryd.prog 81 #[.slice A0 l0.length c0] w fun e w' => ∃ v0_ : Value, e = .returned v0_ ∧ Kd.R (Kd.int .u8) 5 w' w.heap.size (fun _ => True) v0_ r ∧ Below w.heap.size w w' := by
  unfold slices_Concat_byte_byte.f at h
  by_cases hc : l0.flatten.length < 1000000 ∧ l0.length < 1000000
  case neg => rw [if_neg hc] at h; exact absurd h (by simp)
  rw [if_pos hc] at h
  obtain rfl := Option.some.inj h
  clear h
  obtain ⟨hf, hn⟩ := hc
  have HI := Aside0.mk (slices_Concat_byte_byte.item2 A0 l0 w hr0)
  have HS := Aside0.mk (slices_Concat_byte_byte.catL_succ l0)
  have HE := Aside0.mk (slices_Concat_byte_byte.catL_le l0)
  have HA := Aside0.mk (slices_Concat_byte_byte.catL_all l0)
  have HB := Aside0.mk (Below.refl w.heap.size w)
  have HG := Aside0.mk slices_Concat_byte_byte.grow0
  clear hr0
  generalize hq : slices_Concat_byte_byte.catL l0 = q at HS HE HA
  have hq0 : (q 0).length = 0 := by rw [← hq]; rfl
  have HQ0 : Aside0 (q 0 = []) := Aside0.mk (by rw [← hq]; rfl)
  clear hq
  go_enter Tryd.func81, Tryd.ntmps81
  go_wp2
  go_loopg [3, 5, 11] l0.length (fun gg s3 _ s11 wr => ∃ kk : Nat, kk ≤ l0.length ∧ l0.length - kk ≤ gg ∧ s3 = .int .i64 (q kk).length ∧ s11 = .int .i64 kk ∧ wr = w)
  case atStart => exact ⟨0, Nat.zero_le _, by omega, by rw [hq0]; rfl, rfl, rfl⟩
  case round =>
    obtain ⟨kk, hkk, hg, rfl, rfl, rfl⟩ := hrel
    by_cases hlt : kk < l0.length
    · have hltz : (kk : Int) < (l0.length : Int) := Int.ofNat_lt.mpr hlt
      obtain ⟨ad, A1, c1, e, hcell, _, _⟩ := HI.out kk hlt
      subst e
      have hs := HS.out kk hlt
      have hle := HE.out (kk + 1)
      have hL : Aside0 ((q (kk + 1)).length = (q kk).length + (l0.getD kk []).length) := Aside0.mk (by rw [hs, List.length_append])
      rw [hL.out] at hle
      clear hs
      generalize l0.getD kk [] = y at hcell hL hle
      generalize (q kk).length = m at hL hle ⊢
      have hmy : m + y.length < 1000000 := Nat.lt_of_le_of_lt hle hf
      have hwz : wrap64 ((m : Int) + (y.length : Int)) = (m : Int) + (y.length : Int) := slices_Concat_byte_byte.w64a _ _ (Nat.lt_trans hmy (by decide))
      have hneg : decide ((m : Int) + (y.length : Int) < 0) = false := slices_Concat_byte_byte.neg_a _ _
      have hwk : wrap64 ((kk : Int) + 1) = (kk : Int) + 1 := slices_Concat_byte_byte.w64b _ (Nat.lt_trans (Nat.lt_trans hlt hn) (by decide))
      have r1 : kk + 1 ≤ l0.length := hlt
      have r2 : l0.length - (kk + 1) < l0.length - kk := Nat.sub_succ_lt_self _ _ hlt
      have r3 : l0.length - (kk + 1) ≤ l0.length - (kk + 1) := Nat.le_refl _
      have R := Aside0.mk (And.intro r1 (And.intro r2 r3))
      have r4 : Aside0 (Value.int .i64 ((m : Int) + (y.length : Int)) = Value.int .i64 ((q (kk + 1)).length : Int)) := Aside0.mk (by rw [hL.out, Int.natCast_add])
      have HG2 := Aside0.mk hg
      clear r1 r2 r3 hle hL hf hn HS HE HA HQ0 HG hq0 HI hlt hkk hmy hg
      go_wp2
      go_roundg (l0.length - (kk + 1))
      case measure => have := R.out.2.1; have := HG2.out; omega
      case rel => exact ⟨kk + 1, R.out.1, R.out.2.2, by first | exact r4.out | (rw [hwz]; exact r4.out), by first | rfl | (rw [hwk]; rfl), rfl⟩
    · have hltz : ¬ (kk : Int) < (l0.length : Int) := fun z => hlt (Int.ofNat_lt.mp z)
      have : kk = l0.length := Nat.le_antisymm hkk (Nat.not_lt.mp hlt)
      subst this
      have hz := HE.out l0.length
      have hG := Aside0.mk (HG.out (q l0.length).length wr (Nat.lt_of_le_of_lt hz hf))
      clear HG
      clear hq0
      have HF := Aside0.mk hf
      have HN := Aside0.mk hn
      clear hf hn hz
      go_wp2_with (go_at_call 103; refine hG.out.mono ?_; rintro e w1 ⟨v, rfl, ho, hb⟩; have HO := Aside0.mk ho; have HB1 := Aside0.mk hb; clear ho hb HB hG)
      clear hltz hlt hkk hg hc0
      obtain ⟨w0, hw0⟩ : ∃ w0, w0 = wr := ⟨_, rfl⟩
      subst hw0
      go_loopg [6, 8, 27] l0.length (fun gg s6 _ s27 wr2 => ∃ (kk : Nat) (v : Value), kk ≤ l0.length ∧ l0.length - kk ≤ gg ∧ s6 = v ∧ s27 = .int .i64 kk ∧ Aside0 (Kd.R (Kd.int .u8) 5 wr2 w0.heap.size (fun _ => True) v (q kk)) ∧ Aside0 (Below w0.heap.size w0 wr2))
      case atStart => exact ⟨0, v, Nat.zero_le _, by omega, rfl, rfl, Aside0.mk (by rw [HQ0.out]; exact HO.out), HB1⟩
      case round =>
        clear HO HB1
        obtain ⟨kk, v2_, hkk, hg, rfl, rfl, HO, HB1⟩ := hrel
        by_cases hlt : kk < l0.length
        · have hltz : (kk : Int) < (l0.length : Int) := Int.ofNat_lt.mpr hlt
          obtain ⟨ad, A1, c1, e, hcell0, _, hC0⟩ := HI.out kk hlt
          subst e
          have hs := HS.out kk hlt
          have hle := HE.out (kk + 1)
          have hcell := (HB1.out.cell (World.block_lt_of_cell? w0 _ hcell0)).trans hcell0
          have hC := Aside0.mk (Kd.C_below hC0 HB1.out)
          have hS := Aside0.mk hs
          have hwk : wrap64 ((kk : Int) + 1) = (kk : Int) + 1 := slices_Concat_byte_byte.w64b _ (Nat.lt_trans (Nat.lt_trans hlt HN.out) (by decide))
          have hb : Aside0 (((q kk).length + (l0.getD kk []).length) * 1 ≤ 140737488355328) := Aside0.mk (by
            have h3 := Nat.lt_of_le_of_lt hle HF.out
            rw [hs, List.length_append] at h3
            rw [Nat.mul_one]
            exact Nat.le_trans (Nat.le_of_lt h3) (by decide))
          have r2 : l0.length - (kk + 1) < l0.length - kk := Nat.sub_succ_lt_self _ _ hlt
          have R := Aside0.mk (And.intro (show kk + 1 ≤ l0.length from hlt) r2)
          have HG2 := Aside0.mk hg
          clear hs hle hcell0 hC0 HI HS HE HA HQ0 HF HN hlt hkk r2 hg
          generalize l0.getD kk [] = y at hcell hC hS hb
          have hbz := Aside0.mk (below_size HB1.out)
          go_wp2_with (first | ((with_reducible refine gate_builtin (b := .append) (xs := #[.tmp 31, .tmp 32]) rfl ?_); at_builtin; refine Kd.R_append_rows (Kd.int .u8) (w0 := w0) w0.heap.size rfl (.tmp 31) (.tmp 32) 22 5 (.int .u8 0) 1 rfl Tryd.underlying22 (by kernel_rfl) rfl (by decide) (by omega) _ (q kk) y _ _ _ (fun _ => True) (fun _ => False) rfl rfl HO.out hC.out (fun _ _ h => h) (fun _ h => h.elim) (fun _ _ => trivial) HB1.out hbz.out hb.out ?_; intro v2 w3 ho hb3 hg3 hat; have HO2 := Aside0.mk ho; have HB2 := Aside0.mk hb3; clear ho hb3 hg3 hat HO HB1 hC hb hbz))
          go_roundg (l0.length - (kk + 1))
          case measure => have := R.out.2; have := HG2.out; omega
          case rel => exact ⟨kk + 1, v2, R.out.1, Nat.le_refl _, rfl, by first | rfl | (rw [hwk]; rfl), Aside0.mk (by rw [hS.out]; exact HO2.out), HB2⟩
        · have hltz : ¬ (kk : Int) < (l0.length : Int) := fun z => hlt (Int.ofNat_lt.mp z)
          have : kk = l0.length := Nat.le_antisymm hkk (Nat.not_lt.mp hlt)
          subst this
          go_wp2
          go_ret
          exact ⟨_, rfl, by rw [← HA.out]; exact HO.out, HB1.out⟩

/-! ### sha_pad: function 82 -/
def sha_pad.l0 : Nat → Int → List Int → Int → Option (List Int)
 | 0, _, _, _ => none
 | k + 1, x0, x3, x4 => if x4 ≥ 0 then (if 0 ≤ x4 then (if x3.length < 140737488355328 then (sha_pad.l0 k x0 (x3 ++ [(shr .u64 (IntKind.u64.wrap ((IntKind.u64.wrap (x0)) * 8)) x4) % 256]) (wrap64 (x4 - 8))) else (none)) else (none)) else (some x3)
def sha_pad.f (k : Nat) (a0 : Int) : Option (List Int) := (some (([128] : List Int) : List Int)).bind fun y248 => (if 0 ≤ (Int.tmod (wrap64 (119 - (Int.tmod a0 64))) 64) then (if y248.length + (Int.tmod (wrap64 (119 - (Int.tmod a0 64))) 64 : Int).toNat < 140737488355328 then (sha_pad.l0 k a0 (y248 ++ List.replicate (Int.tmod (wrap64 (119 - (Int.tmod a0 64))) 64 : Int).toNat 0) 56) else (none)) else (none))
theorem sha_pad.mono_l : ∀ k, (∀ y0 y1 y2, LeO (sha_pad.l0 k y0 y1 y2) (sha_pad.l0 (k + 1) y0 y1 y2))
 | 0 => fun _ _ _ r h => by simp [sha_pad.l0] at h
 | k + 1 => by
  have ih0 := sha_pad.mono_l k
  ·
   intro y0 y1 y2
   unfold sha_pad.l0
   repeat' first
   | (with_reducible exact ih0 _ _ _)
   | (with_reducible exact LeO.refl _)
   | (with_reducible exact LeO.none _)
   | (with_reducible refine LeO.ite ?_ ?_)
   | (with_reducible refine LeO.bind ?_ (fun _ => ?_))
   | exact ih0 _ _ _
   | exact LeO.none _
   | refine LeO.ite ?_ ?_
   | refine LeO.bind ?_ (fun _ => ?_)
theorem sha_pad.mono : ∀ a0 k, LeO (sha_pad.f k a0) (sha_pad.f (k + 1) a0) := by
 intro a0 k; have ih0 := sha_pad.mono_l k
 unfold sha_pad.f
 repeat' first
   | (with_reducible exact ih0 _ _ _)
   | (with_reducible exact LeO.refl _)
   | (with_reducible exact LeO.none _)
   | (with_reducible refine LeO.ite ?_ ?_)
   | (with_reducible refine LeO.bind ?_ (fun _ => ?_))
   | exact ih0 _ _ _
   | exact LeO.none _
   | refine LeO.ite ?_ ?_
   | refine LeO.bind ?_ (fun _ => ?_)
set_option maxHeartbeats 8000000 in
set_option maxRecDepth 100000 in
theorem sha_pad.calls (k : Nat) (a0 : Int) (r : List Int) (w : World) (h : sha_pad.f k a0 = some r) :
  Calls Tryd.prog 82 #[.int .i64 a0] w fun e w' => ∃ v0_ : Value, e = .returned (v0_) ∧ Kd.R (Kd.int .u8) 5 w' w.heap.size (fun _ => True) v0_ r ∧ Below w.heap.size w w' := by
 have HB := Aside0.mk (Below.refl w.heap.size w); have H : ((some (([128] : List Int) : List Int)).bind fun y248 => (if 0 ≤ (Int.tmod (wrap64 (119 - (Int.tmod a0 64))) 64) then (if y248.length + (Int.tmod (wrap64 (119 - (Int.tmod a0 64))) 64 : Int).toNat < 140737488355328 then (sha_pad.l0 k a0 (y248 ++ List.replicate (Int.tmod (wrap64 (119 - (Int.tmod a0 64))) 64 : Int).toNat 0) 56) else (none)) else (none))) = some r := h; clear h; obtain ⟨y248, hy248⟩ : ∃ y_ : List Int, y_ = (([128] : List Int)) := ⟨_, rfl⟩
 replace H : (if 0 ≤ (Int.tmod (wrap64 (119 - (Int.tmod a0 64))) 64) then (if y248.length + (Int.tmod (wrap64 (119 - (Int.tmod a0 64))) 64 : Int).toNat < 140737488355328 then (sha_pad.l0 k a0 (y248 ++ List.replicate (Int.tmod (wrap64 (119 - (Int.tmod a0 64))) 64 : Int).toNat 0) 56) else (none)) else (none)) = some r := by first | (rw [hy248]; with_reducible exact H) | (have H2_ := (Option.bind_some _ _).symm.trans H; rw [hy248]; with_reducible exact H2_) | (have H2_ := (Option.bind_some _ _).symm.trans H; with_reducible exact H2_) | with_reducible exact H | (rw [hy248]; exact H) | exact H
 have Ny248 := Aside0.mk hy248; clear hy248; obtain ⟨ji2, hji2⟩ : ∃ j_ : Int, (Int.tmod (wrap64 (119 - (Int.tmod a0 64))) 64) = j_ := ⟨_, rfl⟩
 replace H : (if 0 ≤ (ji2) then (if y248.length + (ji2 : Int).toNat < 140737488355328 then (sha_pad.l0 k a0 (y248 ++ List.replicate (ji2 : Int).toNat 0) 56) else (none)) else (none)) = some r := by first | (rw [hji2] at H; exact H) | (simp only [hji2] at H ⊢; exact H)
 by_cases c3 : 0 ≤ (ji2)
 ·
  rw [if_pos c3] at H; have c3b0 := eq_true c3; have c3b1 : decide (0 ≤ (ji2)) = true := decide_eq_true c3; clear c3
  by_cases c4 : y248.length + (ji2 : Int).toNat < 140737488355328
  ·
   rw [if_pos c4] at H; have LMc4 := Aside0.mk c4; clear c4; obtain ⟨y251, hy251⟩ : ∃ y_ : List Int, y_ = (y248 ++ List.replicate (ji2 : Int).toNat 0) := ⟨_, rfl⟩
   replace H : (sha_pad.l0 k a0 y251 56) = some r := by first | (rw [hy251]; with_reducible exact H) | (have H2_ := (Option.bind_some _ _).symm.trans H; rw [hy251]; with_reducible exact H2_) | (have H2_ := (Option.bind_some _ _).symm.trans H; with_reducible exact H2_) | with_reducible exact H | (rw [hy251]; exact H) | exact H
   have Ny251 := Aside0.mk hy251; clear hy251; have H' := Aside0.mk H; clear H
   go_enter Tryd.func82, Tryd.ntmps82
   go_wp2_with (first | ((with_reducible refine gate_dst (N := 5) rfl ?_); refine Kd.R_lit (Kd.int .u8) _ 5 ?hg (N := 5) ?hd (xs := ([128] : List Int)) (inner := [.int .u8 128]) (ok := fun _ => True) (okp := fun _ => True) ?hr ?hp (fun _ hk => hk) trivial (Below.refl _ _) (Nat.le_refl _) (by simp) ?_; (case hd => rfl); (case hg => rfl); (case hr => first | (go_simp; done) | (go_simp; rfl)); (case hp => exact (Reps.one (show Kd.M (Kd.int .u8) _ _ _ 128 [.int .u8 128] from rfl) (Reps.none _ _))); intro v249 w5 ho6 hb hg_ hnew_; clear hg_ hnew_; (first | rw [← Ny248.out] at ho6 | (simp only [Int.reduceToNat] at ho6; rw [← Ny248.out] at ho6)); have n0_ := Aside0.mk (Kd.R_lower ho6 (below_size (pH_ HB.out))); have n1_ := Aside0.mk (below_step (pH_ HB.out) hb); clear HB; have HO250 := n0_; have HB := n1_; clear n0_ n1_; clear hb ho6) | (at_builtin; refine Kd.R_append_zeros (Kd.int .u8) (w0 := w) w.heap.size rfl (.tmp 5) (.tmp 9) 22 3 5 (.int .u8 0) 1 rfl Tryd.underlying22 Tryd.underlying3 info5 rfl (by decide) (by omega) v249 y248 0 (ji2 : Int) (fun _ => True) rfl rfl rfl ?aF ?aO (of_decide_eq_true (by first | (with_reducible assumption) | assumption)) ?aB ?aS ?aL ?_; (case aB => exact (pH_ HB.out)); (case aF => exact (fun _ _ => trivial)); (case aO => exact (pL_ HO250.out)); (case aS => exact (below_size (pH_ HB.out))); (case aL => have := LMc4.out; omega); intro v252 w7 ho hb hg hat; (try simp only [Int.reduceToNat] at ho); rw [← Ny251.out] at ho; have n0_ := Aside0.mk (hb); have n1_ := Aside0.mk (ho); clear HB; clear HO250; have HB := n0_; have HO253 := n1_; clear n0_ n1_; clear ho hb hg hat))
   go_loopg [3, 4] k (fun kq v3 v4 w' => ∃ (x3_1 : List Int) (x4_1 : Int), v4 = .int .i64 x4_1 ∧ Aside0 (sha_pad.l0 kq a0 x3_1 x4_1 = some r) ∧ Aside0 (kq ≤ k) ∧ Aside0 (Kd.R (Kd.int .u8) 5 w' w.heap.size (fun _ => True) v3 x3_1) ∧ Aside0 (Below w.heap.size w w'))
   case atStart => exact ⟨(y251), (56), (by first | rfl | (simp; done) | (simp [*]; done)), H', ⟨Nat.le_refl _⟩, ⟨pL_ HO253.out⟩, ⟨pH_ HB.out⟩⟩
   case round =>
    clear H'
    try clear p2
    try clear c3
    try clear c3b0
    try clear c3b1
    try clear c4
    try clear p6
    obtain ⟨x3_1, x4_1, rfl, HA, HK1, HO_3, HB⟩ := hrel
    cases gk with
    | zero => exact absurd HA.out (by simp [sha_pad.l0])
    | succ k1 =>
     have H := HA.out; clear HA; simp only [sha_pad.l0] at H
     by_cases c8 : x4_1 ≥ 0
     ·
      rw [if_pos c8] at H; have c8b0 : decide (0 ≤ x4_1) = true := decide_eq_true c8; clear c8
      by_cases c9 : 0 ≤ x4_1
      ·
       rw [if_pos c9] at H; have c9b0 := eq_true c9; have c9b1 : decide (0 ≤ x4_1) = true := decide_eq_true c9; clear c9; obtain ⟨ji10, hji10⟩ : ∃ j_ : Int, (shr .u64 (IntKind.u64.wrap ((IntKind.u64.wrap (a0)) * 8)) x4_1) = j_ := ⟨_, rfl⟩
       replace H : (if x3_1.length < 140737488355328 then (sha_pad.l0 k1 a0 (x3_1 ++ [(ji10) % 256]) (wrap64 (x4_1 - 8))) else (none)) = some r := by first | (rw [hji10] at H; exact H) | (simp only [hji10] at H ⊢; exact H)
       have hji10_ : ((IntKind.u64.wrap ((IntKind.u64.wrap (a0)) * 8)) / 2 ^ min x4_1.toNat 64) = ji10 := hji10; have hji10z : x4_1 ≤ 64 → ((IntKind.u64.wrap ((IntKind.u64.wrap (a0)) * 8)) / 2 ^ x4_1.toNat) = ji10 := shr_small hji10
       by_cases c11 : x3_1.length < 140737488355328
       ·
        rw [if_pos c11] at H; have LMc11 := Aside0.mk c11; clear c11; obtain ⟨y254, hy254⟩ : ∃ y_ : List Int, y_ = (x3_1 ++ [(ji10) % 256]) := ⟨_, rfl⟩
        replace H : (sha_pad.l0 k1 a0 y254 (wrap64 (x4_1 - 8))) = some r := by first | (rw [hy254]; with_reducible exact H) | (have H2_ := (Option.bind_some _ _).symm.trans H; rw [hy254]; with_reducible exact H2_) | (have H2_ := (Option.bind_some _ _).symm.trans H; with_reducible exact H2_) | with_reducible exact H | (rw [hy254]; exact H) | exact H
        have Ny254 := Aside0.mk hy254; clear hy254; have H' := Aside0.mk H; clear H
        go_wp2_with (first | ((with_reducible refine gate_builtin (b := .append) (xs := #[.tmp 15, .tmp 22]) rfl ?_); at_builtin; refine Kd.R_append (Kd.int .u8) (w0 := w) w.heap.size rfl (.tmp 15) (.tmp 22) 22 5 (.int .u8 0) 1 rfl Tryd.underlying22 info5 rfl (by decide) (by omega) u3 x3_1 ((ji10) % 256) [.int .u8 ((ji10) % 256)] (fun _ => True) (fun _ => False) rfl rfl ?aP (fun _ hk => hk.elim) ?aF ?aO ?aB ?aS ?aL ?_; (case aP => exact rfl); (case aB => exact (pH_ HB.out)); (case aF => exact (fun _ _ => trivial)); (case aO => exact (pL_ HO_3.out)); (case aS => exact (below_size (pH_ HB.out))); (case aL => have := LMc11.out; omega); intro v255 w12 ho hb hg hat; (try simp only [Int.reduceToNat] at ho); rw [← Ny254.out] at ho; have n0_ := Aside0.mk (hb); have n1_ := Aside0.mk (ho); clear HB; clear HO_3; have HB := n0_; have HO256 := n1_; clear n0_ n1_; clear ho hb hg hat))
        go_roundg k1
        case measure => have := HK1.out; omega
        case rel => exact ⟨(y254), (wrap64 (x4_1 - 8)), (by first | rfl | (simp; done) | (simp [*]; done)), H', ⟨by have := HK1.out; omega⟩, ⟨pL_ HO256.out⟩, ⟨pH_ HB.out⟩⟩
       ·
        rw [if_neg c11] at H; exact absurd H (by simp)
      ·
       rw [if_neg c9] at H; exact absurd H (by simp)
     ·
      rw [if_neg c8] at H; have c8b0 : decide (0 ≤ x4_1) = false := decide_eq_false c8; clear c8; obtain rfl := Option.some.inj H
      go_wp2
      go_ret
      exact ⟨_, by first | rfl | (simp [errW_none, errW_some] <;> rfl) | (simp only [← hji2]; first | rfl | (simp [errW_none, errW_some] <;> rfl)) | (simp [*, errW_none, errW_some] <;> rfl), by (with_reducible repeat (first | apply rA_ | apply rN_ | apply rD_)); exact HO_3.out, pH_ HB.out⟩
  ·
   rw [if_neg c4] at H; exact absurd H (by simp)
 ·
  rw [if_neg c3] at H; exact absurd H (by simp)

/-! ### bits_RotateLeft32: function 104 -/
def bits_RotateLeft32.f (a0 : Int) (a1 : Int) : Option (Int) := if 0 ≤ (Go.bits .and .u64 (IntKind.u64.wrap (a1)) 31) then (if 0 ≤ (IntKind.u64.wrap (32 - (Go.bits .and .u64 (IntKind.u64.wrap (a1)) 31))) then (some (Go.bits .or .u32 (shl .u32 a0 (Go.bits .and .u64 (IntKind.u64.wrap (a1)) 31)) (shr .u32 a0 (IntKind.u64.wrap (32 - (Go.bits .and .u64 (IntKind.u64.wrap (a1)) 31)))))) else (none)) else (none)
set_option maxHeartbeats 8000000 in
set_option maxRecDepth 100000 in
theorem bits_RotateLeft32.calls (a0 : Int) (a1 : Int) (r : Int) (w : World) (h : bits_RotateLeft32.f a0 a1 = some r) :
  Calls Tryd.prog 104 #[.int .u32 a0, .int .i64 a1] w fun e w' => e = .returned (.int .u32 r) ∧ Drawn0 w w' := by
 have H : (if 0 ≤ (Go.bits .and .u64 (IntKind.u64.wrap (a1)) 31) then (if 0 ≤ (IntKind.u64.wrap (32 - (Go.bits .and .u64 (IntKind.u64.wrap (a1)) 31))) then (some (Go.bits .or .u32 (shl .u32 a0 (Go.bits .and .u64 (IntKind.u64.wrap (a1)) 31)) (shr .u32 a0 (IntKind.u64.wrap (32 - (Go.bits .and .u64 (IntKind.u64.wrap (a1)) 31)))))) else (none)) else (none)) = some r := h; clear h; obtain ⟨ji3, hji3⟩ : ∃ j_ : Int, (Go.bits .and .u64 (IntKind.u64.wrap (a1)) 31) = j_ := ⟨_, rfl⟩
 replace H : (if 0 ≤ (ji3) then (if 0 ≤ (IntKind.u64.wrap (32 - (ji3))) then (some (Go.bits .or .u32 (shl .u32 a0 (ji3)) (shr .u32 a0 (IntKind.u64.wrap (32 - (ji3)))))) else (none)) else (none)) = some r := by first | (rw [hji3] at H; exact H) | (simp only [hji3] at H ⊢; exact H)
 by_cases c4 : 0 ≤ (ji3)
 ·
  rw [if_pos c4] at H; have c4b0 := eq_true c4; have c4b1 : decide (0 ≤ (ji3)) = true := decide_eq_true c4; clear c4; obtain ⟨ji5, hji5⟩ : ∃ j_ : Int, (shl .u32 a0 (ji3)) = j_ := ⟨_, rfl⟩
  replace H : (if 0 ≤ (IntKind.u64.wrap (32 - (ji3))) then (some (Go.bits .or .u32 (ji5) (shr .u32 a0 (IntKind.u64.wrap (32 - (ji3)))))) else (none)) = some r := by first | (rw [hji5] at H; exact H) | (simp only [hji5] at H ⊢; exact H)
  have hji5_ : (IntKind.u32.wrap (a0 * 2 ^ min (ji3).toNat 32)) = ji5 := hji5; have hji5z : (ji3) ≤ 32 → (IntKind.u32.wrap (a0 * 2 ^ (ji3).toNat)) = ji5 := shl_small hji5; obtain ⟨ji6, hji6⟩ : ∃ j_ : Int, (IntKind.u64.wrap (32 - (ji3))) = j_ := ⟨_, rfl⟩
  replace H : (if 0 ≤ (ji6) then (some (Go.bits .or .u32 (ji5) (shr .u32 a0 (ji6)))) else (none)) = some r := by first | (rw [hji6] at H; exact H) | (simp only [hji6] at H ⊢; exact H)
  by_cases c7 : 0 ≤ (ji6)
  ·
   rw [if_pos c7] at H; have c7b0 := eq_true c7; have c7b1 : decide (0 ≤ (ji6)) = true := decide_eq_true c7; clear c7; obtain ⟨ji8, hji8⟩ : ∃ j_ : Int, (shr .u32 a0 (ji6)) = j_ := ⟨_, rfl⟩
   replace H : (some (Go.bits .or .u32 (ji5) (ji8))) = some r := by first | (rw [hji8] at H; exact H) | (simp only [hji8] at H ⊢; exact H)
   have hji8_ : (a0 / 2 ^ min (ji6).toNat 32) = ji8 := hji8; have hji8z : (ji6) ≤ 32 → (a0 / 2 ^ (ji6).toNat) = ji8 := shr_small hji8; obtain rfl := Option.some.inj H
   go_enter Tryd.func104, Tryd.ntmps104
   go_wp2
   go_ret
   exact ⟨by first | rfl | (simp; done) | (simp only [← hji3, ← hji5, ← hji6, ← hji8] <;> (first | rfl | simp)) | (simp [*]; done), by repeat (first | exact Drawn0.refl _ | apply Drawn0.step)⟩
  ·
   rw [if_neg c7] at H; exact absurd H (by simp)
 ·
  rw [if_neg c4] at H; exact absurd H (by simp)

/-! ### sha_mix: function 105 -/
def sha_mix.f (a0 : Int) (a1 : Int) (a2 : Int) (a3 : Int) : Option (Int) := if a0 = 0 then (some (Go.bits .xor .u32 a3 (Go.bits .and .u32 a1 (Go.bits .xor .u32 a2 a3)))) else (if a0 = 2 then (some (Go.bits .or .u32 (Go.bits .and .u32 a1 a2) (Go.bits .and .u32 a3 (Go.bits .or .u32 a1 a2)))) else (some (Go.bits .xor .u32 (Go.bits .xor .u32 a1 a2) a3)))
set_option maxHeartbeats 8000000 in
set_option maxRecDepth 100000 in
theorem sha_mix.calls (a0 : Int) (a1 : Int) (a2 : Int) (a3 : Int) (r : Int) (w : World) (h : sha_mix.f a0 a1 a2 a3 = some r) :
  Calls Tryd.prog 105 #[.int .i64 a0, .int .u32 a1, .int .u32 a2, .int .u32 a3] w fun e w' => e = .returned (.int .u32 r) ∧ Drawn0 w w' := by
 have H : (if a0 = 0 then (some (Go.bits .xor .u32 a3 (Go.bits .and .u32 a1 (Go.bits .xor .u32 a2 a3)))) else (if a0 = 2 then (some (Go.bits .or .u32 (Go.bits .and .u32 a1 a2) (Go.bits .and .u32 a3 (Go.bits .or .u32 a1 a2)))) else (some (Go.bits .xor .u32 (Go.bits .xor .u32 a1 a2) a3)))) = some r := h; clear h
 by_cases c5 : a0 = 0
 ·
  rw [if_pos c5] at H; have c5b0 : (a0 == 0) = true := beq_iff_eq.mpr c5; have c5b1 : (a0 != 0) = false := bne_eq_false_iff_eq.mpr c5; clear c5; obtain rfl := Option.some.inj H
  go_enter Tryd.func105, Tryd.ntmps105
  go_wp2
  go_ret
  exact ⟨by first | rfl | (simp; done) | (simp [*]; done), by repeat (first | exact Drawn0.refl _ | apply Drawn0.step)⟩
 ·
  rw [if_neg c5] at H; have c5b0 : (a0 == 0) = false := beq_eq_false_iff_ne.mpr c5; have c5b1 : (a0 != 0) = true := bne_iff_ne.mpr c5
  by_cases c6 : a0 = 2
  ·
   rw [if_pos c6] at H; have c6b0 : (a0 == 2) = true := beq_iff_eq.mpr c6; have c6b1 : (a0 != 2) = false := bne_eq_false_iff_eq.mpr c6; clear c6; obtain rfl := Option.some.inj H
   go_enter Tryd.func105, Tryd.ntmps105
   go_wp2
   go_ret
   exact ⟨by first | rfl | (simp; done) | (simp [*]; done), by repeat (first | exact Drawn0.refl _ | apply Drawn0.step)⟩
  ·
   rw [if_neg c6] at H; have c6b0 : (a0 == 2) = false := beq_eq_false_iff_ne.mpr c6; have c6b1 : (a0 != 2) = true := bne_iff_ne.mpr c6; obtain rfl := Option.some.inj H
   go_enter Tryd.func105, Tryd.ntmps105
   go_wp2
   go_ret
   exact ⟨by first | rfl | (simp; done) | (simp [*]; done), by repeat (first | exact Drawn0.refl _ | apply Drawn0.step)⟩

end Go.Proofs.YthhfigkbjacmeaaDoor.XTopKernel
