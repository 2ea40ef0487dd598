-- Laid by a program of this session (wip/mkxprint.py, over the kit's print): Lean checks it.
import Derived.Test.YthhfigkbjacmeaaDoorXTopKernelx0
import Derived.Test.YthhfigkbjacmeaaDoorXTopKernelx1
namespace Go.Proofs.YthhfigkbjacmeaaDoor.XTopKernel
open List (setIfInBounds_toArray set_cons_zero set_cons_succ)
open Go.RowKit Go.Proofs.YthhfigkbjacmeaaDoorW.PrintWords Go.Proofs.YthhfigkbjacmeaaDoorW.PrintLast Go.Proofs.YthhfigkbjacmeaaDoorW.PrintMore
attribute [local go_sem] max2_int min2_int max_two min_two max_three min_three max_four min_four   -- for this text's walks alone
set_option linter.unusedVariables false
set_option linter.unusedSimpArgs false

attribute [local go_sem high] eqA39
/-! ### octet_wide: function 27 -/
def octet_wide.f (a0 : Int) : Option (Int) := if a0 < 1 then (some 2) else (if a0 ≥ 9 then (some 2) else (some 0))
set_option maxHeartbeats 8000000 in
set_option maxRecDepth 100000 in
theorem octet_wide.calls (a0 : Int) (r : Int) (w : World) (h : octet_wide.f a0 = some r) :
    Calls Tryd.prog 27 #[.int .i64 a0] w fun e w' => e = .returned (.int .i64 r) ∧ Drawn0 w w' := by
  have H : (if a0 < 1 then (some 2) else (if a0 ≥ 9 then (some 2) else (some 0))) = some r := h
  clear h
  by_cases c2 : a0 < 1
  · rw [if_pos c2] at H
    have c2b0 : decide (a0 < 1) = true := decide_eq_true c2
    clear c2
    obtain rfl := Option.some.inj H
    go_enter Tryd.func27, Tryd.ntmps27
    go_wp2
    go_ret
    exact ⟨by first | rfl | (simp; done) | (simp [*]; done), by repeat (first | exact Drawn0.refl _ | apply Drawn0.step)⟩
  · rw [if_neg c2] at H
    have c2b0 : decide (a0 < 1) = false := decide_eq_false c2
    clear c2
    by_cases c3 : a0 ≥ 9
    · rw [if_pos c3] at H
      have c3b0 : decide (9 ≤ a0) = true := decide_eq_true c3
      clear c3
      obtain rfl := Option.some.inj H
      go_enter Tryd.func27, Tryd.ntmps27
      go_wp2
      go_ret
      exact ⟨by first | rfl | (simp; done) | (simp [*]; done), by repeat (first | exact Drawn0.refl _ | apply Drawn0.step)⟩
    · rw [if_neg c3] at H
      have c3b0 : decide (9 ≤ a0) = false := decide_eq_false c3
      clear c3
      obtain rfl := Option.some.inj H
      go_enter Tryd.func27, Tryd.ntmps27
      go_wp2
      go_ret
      exact ⟨by first | rfl | (simp; done) | (simp [*]; done), by repeat (first | exact Drawn0.refl _ | apply Drawn0.step)⟩

/-! ### octet_Number: function 28 -/
def octet_Number.l0 : Nat → Int → Int → List Int → Int → Int → Option (List Int × Int)
 | 0, _, _, _, _, _ => none
 | k + 1, x0, x1, x7, x21, x22 => if x22 < x21 then (if 0 ≤ (wrap64 (8 * x22)) then (if 0 ≤ (wrap64 ((wrap64 (x1 - 1)) - x22)) then (if (wrap64 ((wrap64 (x1 - 1)) - x22)) < (x7.length : Int) then (octet_Number.l0 k x0 x1 (x7.set ((wrap64 ((wrap64 (x1 - 1)) - x22)) : Int).toNat ((shr .u64 x0 (wrap64 (8 * x22))) % 256)) x21 (wrap64 (x22 + 1))) else (none)) else (none)) else (none)) else (some (x7, 0))
def octet_Number.f (k : Nat) (a0 : Int) (a1 : Int) : Option (List Int × Int) := (octet_wide.f a1).bind fun t101 => (if t101 = 0 then (if 0 ≤ a1 then (if a1 < 9 then (if a0 > (rd topRow a1) then (some (([] : List Int), 16)) else (if (a1 : Int).toNat ≤ 281474976710656 then (octet_Number.l0 k a0 a1 (List.replicate (a1 : Int).toNat 0) a1 0) else (none))) else (none)) else (none)) else (some (([] : List Int), t101)))
theorem octet_Number.mono_l : ∀ k, (∀ y0 y1 y2 y3 y4, LeO (octet_Number.l0 k y0 y1 y2 y3 y4) (octet_Number.l0 (k + 1) y0 y1 y2 y3 y4))
 | 0 => fun _ _ _ _ _ r h => by simp [octet_Number.l0] at h
 | k + 1 => by
  have ih0 := octet_Number.mono_l k
  ·
   intro y0 y1 y2 y3 y4
   unfold octet_Number.l0
   repeat' first
   | (with_reducible exact ih0 _ _ _ _ _)
   | (with_reducible exact LeO.refl _)
   | (with_reducible exact LeO.none _)
   | (with_reducible refine LeO.ite ?_ ?_)
   | (with_reducible refine LeO.bind ?_ (fun _ => ?_))
   | exact ih0 _ _ _ _ _
   | exact LeO.none _
   | refine LeO.ite ?_ ?_
   | refine LeO.bind ?_ (fun _ => ?_)
theorem octet_Number.mono : ∀ a0 a1 k, LeO (octet_Number.f k a0 a1) (octet_Number.f (k + 1) a0 a1) := by
 intro a0 a1 k; have ih0 := octet_Number.mono_l k
 unfold octet_Number.f
 repeat' first
   | (with_reducible exact ih0 _ _ _ _ _)
   | (with_reducible exact LeO.refl _)
   | (with_reducible exact LeO.none _)
   | (with_reducible refine LeO.ite ?_ ?_)
   | (with_reducible refine LeO.bind ?_ (fun _ => ?_))
   | exact ih0 _ _ _ _ _
   | exact LeO.none _
   | refine LeO.ite ?_ ?_
   | refine LeO.bind ?_ (fun _ => ?_)
set_option maxHeartbeats 8000000 in
set_option maxRecDepth 100000 in
theorem octet_Number.calls (k : Nat) (a0 : Int) (a1 : Int) (r1 : List Int) (r2 : Int) (w : World) (hT : Tab_ w) (h : octet_Number.f k a0 a1 = some (r1, r2)) :
  Calls Tryd.prog 28 #[.int .u64 a0, .int .i64 a1] w fun e w' => ∃ v0_ : Value, e = .returned (.tuple #[v0_, .int .i64 r2]) ∧ Kd.R (Kd.int .u8) 5 w' w.heap.size (fun _ => True) v0_ r1 ∧ Below w.heap.size w w' := by
 have HB := Aside0.mk (Below.refl w.heap.size w); have H : ((octet_wide.f a1).bind fun t101 => (if t101 = 0 then (if 0 ≤ a1 then (if a1 < 9 then (if a0 > (rd topRow a1) then (some (([] : List Int), 16)) else (if (a1 : Int).toNat ≤ 281474976710656 then (octet_Number.l0 k a0 a1 (List.replicate (a1 : Int).toNat 0) a1 0) else (none))) else (none)) else (none)) else (some (([] : List Int), t101)))) = some (r1, r2) := h; clear h; replace H := Option.bind_eq_some_iff.mp H; obtain ⟨t101, A30, H⟩ := H; replace H : (if t101 = 0 then (if 0 ≤ a1 then (if a1 < 9 then (if a0 > (rd topRow a1) then (some (([] : List Int), 16)) else (if (a1 : Int).toNat ≤ 281474976710656 then (octet_Number.l0 k a0 a1 (List.replicate (a1 : Int).toNat 0) a1 0) else (none))) else (none)) else (none)) else (some (([] : List Int), t101))) = some (r1, r2) := H; have A3 := Aside0.mk A30; clear A30
 by_cases c4 : t101 = 0
 ·
  rw [if_pos c4] at H; have c4b0 : (t101 == 0) = true := beq_iff_eq.mpr c4; have c4b1 : (t101 != 0) = false := bne_eq_false_iff_eq.mpr c4; clear c4
  by_cases c5 : 0 ≤ a1
  ·
   rw [if_pos c5] at H; have c5b0 : decide (0 ≤ a1) = true := decide_eq_true c5; clear c5
   by_cases c6 : a1 < 9
   ·
    rw [if_pos c6] at H; have c6b0 : decide (a1 < 9) = true := decide_eq_true c6; clear c6
    by_cases c7 : a0 > (rd topRow a1)
    ·
     rw [if_pos c7] at H; have c7b0 : decide ((rd topRow a1) < a0) = true := decide_eq_true c7; clear c7; simp only [Option.some.injEq, Prod.mk.injEq] at H; obtain ⟨rfl, rfl⟩ := H
     go_enter Tryd.func28, Tryd.ntmps28
     go_wp2_with (first | ((with_reducible refine gate_callee (f := 27) rfl ?_); refine gL_ (some 10) Tryd.func27 #[.int .i64 a1] ?_; (with_reducible refine (octet_wide.calls a1 t101 _ A3.out).mono ?_); rintro e w' ⟨rfl, ⟨nd, rfl⟩⟩; refine ⟨_, rfl, ?_⟩; have hsg8 : w.cell? ⟨0, (a1 : Int).toNat, none⟩ = some (.int .u64 (rd topRow a1)) := tabT_ hT a1 (of_decide_eq_true (by first | (with_reducible assumption) | assumption)) (of_decide_eq_true (by first | (with_reducible assumption) | assumption)); replace hsg8 := (HB.out.cell (World.block_lt_of_cell? w _ hsg8)).trans hsg8; have pa8 : 0 ≤ (a1 : Int) := of_decide_eq_true (by first | (with_reducible assumption) | assumption); have qa8 : (a1 : Int) < 9 := of_decide_eq_true (by first | (with_reducible assumption) | assumption); replace pa8 := eq_true pa8; replace qa8 := eq_true qa8))
     go_ret2
     exact ⟨_, by first | rfl | (simp [errW_none, errW_some] <;> rfl) | (simp [*, errW_none, errW_some] <;> rfl), by first | exact Kd.R_nil _ _ _ _ _ | exact Kd.N_nil _ _ _ _ _ | exact Kd.V_nil _ _ _ _ _ | exact Kd.Q_nil _ _ _ _ _ | exact Kd.S_nil _ _ _ _ _, pH_ HB.out⟩
    ·
     rw [if_neg c7] at H; have c7b0 : decide ((rd topRow a1) < a0) = false := decide_eq_false c7; clear c7
     by_cases c9 : (a1 : Int).toNat ≤ 281474976710656
     ·
      rw [if_pos c9] at H; have c9b0 := eq_true c9; have c9b1 : decide ((a1 : Int).toNat ≤ 281474976710656) = true := decide_eq_true c9; clear c9; obtain ⟨y102, hy102⟩ : ∃ y_ : List Int, y_ = (List.replicate (a1 : Int).toNat 0) := ⟨_, rfl⟩
      replace H : (octet_Number.l0 k a0 a1 y102 a1 0) = some (r1, r2) := by first | (rw [hy102]; with_reducible exact H) | (have H2_ := (Option.bind_some _ _).symm.trans H; rw [hy102]; with_reducible exact H2_) | (have H2_ := (Option.bind_some _ _).symm.trans H; with_reducible exact H2_) | with_reducible exact H | (rw [hy102]; exact H) | exact H
      have Ny102 := Aside0.mk hy102; clear hy102; have H' := Aside0.mk H; clear H
      go_enter Tryd.func28, Tryd.ntmps28
      go_wp2_with (first | ((with_reducible refine gate_callee (f := 27) rfl ?_); refine gL_ (some 10) Tryd.func27 #[.int .i64 a1] ?_; (with_reducible refine (octet_wide.calls a1 t101 _ A3.out).mono ?_); rintro e w' ⟨rfl, ⟨nd, rfl⟩⟩; refine ⟨_, rfl, ?_⟩; have hsg10 : w.cell? ⟨0, (a1 : Int).toNat, none⟩ = some (.int .u64 (rd topRow a1)) := tabT_ hT a1 (of_decide_eq_true (by first | (with_reducible assumption) | assumption)) (of_decide_eq_true (by first | (with_reducible assumption) | assumption)); replace hsg10 := (HB.out.cell (World.block_lt_of_cell? w _ hsg10)).trans hsg10; have pa10 : 0 ≤ (a1 : Int) := of_decide_eq_true (by first | (with_reducible assumption) | assumption); have qa10 : (a1 : Int) < 9 := of_decide_eq_true (by first | (with_reducible assumption) | assumption); replace pa10 := eq_true pa10; replace qa10 := eq_true qa10) | ((with_reducible refine gate_dst (N := 20) rfl ?_); refine Kd.R_make (Kd.int .u8) _ 5 rfl (N := 20) rfl 22 _ _ rfl a1 rfl rfl Tryd.underlying22 (.int .u8 0) 1 info5 rfl (by decide) (by omega) 0 (ok := fun _ => True) (okp := fun _ => True) rfl (fun _ hk => hk) trivial (of_decide_eq_true (by first | (with_reducible assumption) | assumption)) (Nat.le_trans (Nat.mul_le_mul_right _ (of_decide_eq_true (by first | (with_reducible assumption) | assumption) : a1.toNat ≤ 281474976710656)) (by omega)) (Below.refl _ _) (Nat.le_refl _) ?_; intro v103 w11 ho12 hb hg_ hnew_; clear hg_ hnew_; (first | rw [← Ny102.out] at ho12 | (simp only [Int.reduceToNat] at ho12; rw [← Ny102.out] at ho12)); have n0_ := Aside0.mk (Kd.R_lower ho12 (below_size (pH_ HB.out))); have n1_ := Aside0.mk (below_step (pH_ HB.out) hb); clear HB; have HO104 := n0_; have HB := n1_; clear n0_ n1_; clear hb ho12))
      go_loopg [22] k (fun kq v22 w' => ∃ (x7_1 : List Int) (x22_1 : Int), v22 = .int .i64 x22_1 ∧ Aside0 (octet_Number.l0 kq a0 a1 x7_1 a1 x22_1 = some (r1, r2)) ∧ Aside0 (kq ≤ k) ∧ Aside0 (Kd.R (Kd.int .u8) 5 w' w.heap.size (fun _ => True) v103 x7_1) ∧ Aside0 (Below w.heap.size w w'))
      case atStart => exact ⟨(y102), (0), (by first | rfl | (simp; done) | (simp [*]; done)), H', ⟨Nat.le_refl _⟩, ⟨pL_ HO104.out⟩, ⟨pH_ HB.out⟩⟩
      case round =>
       clear H'
       try clear c2
       try clear p2
       try clear c4
       try clear c4b0
       try clear c4b1
       try clear c5
       try clear c5b0
       try clear c6
       try clear c6b0
       try clear c7
       try clear c7b0
       try clear c9
       try clear c9b0
       try clear c9b1
       obtain ⟨x7_1, x22_1, rfl, HA, HK1, HO_7, HB⟩ := hrel
       cases gk with
       | zero => exact absurd HA.out (by simp [octet_Number.l0])
       | succ k1 =>
        have H := HA.out; clear HA; simp only [octet_Number.l0] at H
        by_cases c13 : x22_1 < a1
        ·
         rw [if_pos c13] at H; have c13b0 : decide (x22_1 < a1) = true := decide_eq_true c13; clear c13; obtain ⟨ji14, hji14⟩ : ∃ j_ : Int, (wrap64 (8 * x22_1)) = j_ := ⟨_, rfl⟩
         replace H : (if 0 ≤ (ji14) then (if 0 ≤ (wrap64 ((wrap64 (a1 - 1)) - x22_1)) then (if (wrap64 ((wrap64 (a1 - 1)) - x22_1)) < (x7_1.length : Int) then (octet_Number.l0 k1 a0 a1 (x7_1.set ((wrap64 ((wrap64 (a1 - 1)) - x22_1)) : Int).toNat ((shr .u64 a0 (ji14)) % 256)) a1 (wrap64 (x22_1 + 1))) else (none)) else (none)) else (none)) = some (r1, r2) := by first | (rw [hji14] at H; exact H) | (simp only [hji14] at H ⊢; exact H)
         have hji14w : (IntKind.i64.wrap (8 * x22_1)) = ji14 := (i64_w _).trans hji14
         by_cases c15 : 0 ≤ (ji14)
         ·
          rw [if_pos c15] at H; have c15b0 := eq_true c15; have c15b1 : decide (0 ≤ (ji14)) = true := decide_eq_true c15; clear c15; obtain ⟨ji16, hji16⟩ : ∃ j_ : Int, (shr .u64 a0 (ji14)) = j_ := ⟨_, rfl⟩
          replace H : (if 0 ≤ (wrap64 ((wrap64 (a1 - 1)) - x22_1)) then (if (wrap64 ((wrap64 (a1 - 1)) - x22_1)) < (x7_1.length : Int) then (octet_Number.l0 k1 a0 a1 (x7_1.set ((wrap64 ((wrap64 (a1 - 1)) - x22_1)) : Int).toNat ((ji16) % 256)) a1 (wrap64 (x22_1 + 1))) else (none)) else (none)) = some (r1, r2) := by first | (rw [hji16] at H; exact H) | (simp only [hji16] at H ⊢; exact H)
          have hji16_ : (a0 / 2 ^ min (ji14).toNat 64) = ji16 := hji16; have hji16z : (ji14) ≤ 64 → (a0 / 2 ^ (ji14).toNat) = ji16 := shr_small hji16; obtain ⟨ji17, hji17⟩ : ∃ j_ : Int, (wrap64 ((wrap64 (a1 - 1)) - x22_1)) = j_ := ⟨_, rfl⟩
          replace H : (if 0 ≤ (ji17) then (if (ji17) < (x7_1.length : Int) then (octet_Number.l0 k1 a0 a1 (x7_1.set ((ji17) : Int).toNat ((ji16) % 256)) a1 (wrap64 (x22_1 + 1))) else (none)) else (none)) = some (r1, r2) := by first | (rw [hji17] at H; exact H) | (simp only [hji17] at H ⊢; exact H)
          have hji17w : (IntKind.i64.wrap ((wrap64 (a1 - 1)) - x22_1)) = ji17 := (i64_w _).trans hji17
          by_cases c18 : 0 ≤ (ji17)
          ·
           rw [if_pos c18] at H; have c18b0 : decide (0 ≤ (ji17)) = true := decide_eq_true c18; clear c18
           by_cases c19 : (ji17) < (x7_1.length : Int)
           ·
            rw [if_pos c19] at H; have c19b0 : decide ((ji17) < (x7_1.length : Int)) = true := decide_eq_true c19; clear c19; obtain ⟨y105, hy105⟩ : ∃ y_ : List Int, y_ = (x7_1.set ((ji17) : Int).toNat ((ji16) % 256)) := ⟨_, rfl⟩
            replace H : (octet_Number.l0 k1 a0 a1 y105 a1 (wrap64 (x22_1 + 1))) = some (r1, r2) := by first | (rw [hy105]; with_reducible exact H) | (have H2_ := (Option.bind_some _ _).symm.trans H; rw [hy105]; with_reducible exact H2_) | (have H2_ := (Option.bind_some _ _).symm.trans H; with_reducible exact H2_) | with_reducible exact H | (rw [hy105]; exact H) | exact H
            have Ny105 := Aside0.mk hy105; clear hy105; have H' := Aside0.mk H; clear H; have p20 : 0 ≤ ((ji17) : Int) := of_decide_eq_true (by first | (with_reducible assumption) | assumption); have q20 : ((ji17) : Int) < ((x7_1.length : Int) : Int) := of_decide_eq_true (by first | (with_reducible assumption) | assumption); obtain ⟨go20, co20, eo20, gb20, gl20, cl20, HG20⟩ := Kd.R_form HO_7.out (by omega); (first | cases eo20 | (injection eo20 with ea_ en_ ec_; (first | subst ea_ | (injection ea_ with ea_; subst ea_)); subst ec_; clear en_)); have GB20 := Aside0.mk gb20; have GG20 := Aside0.mk HG20; clear gb20 gl20 HG20; obtain ⟨hx20_0, hf20_0⟩ := Kd.R_celln 0 HO_7.out ((ji17) : Int) p20 q20; replace p20 := eq_true p20; replace q20 := eq_true q20; have HP21 := Kd.R_putg HO_7.out ((ji17) : Int) ((ji16) % 256)
            go_wp2_with (first | ((with_reducible refine gate_store (t := 5) (p := 35) rfl ?_); refine store_event (t := 5) (p := 35) (v := ?vo_w22) (w1 := (wr.setCell ⟨go20, ((ji17) : Int).toNat, none⟩ (.int .u8 ((ji16) % 256)))) ?hg ?ho ?hn ?hr ?_; (case ho => rfl); (case hg => rfl); (case hn => rfl); (case hr => first | (go_simp; done) | (go_simp; rfl)); intro w22 hw; have hg : wr.grownBy w22 (some go20) := (by rw [hw]; exact HP21.2); have hp_ : Kd.R (Kd.int .u8) 5 w22 w.heap.size (fun _ => True) (.slice (some ⟨go20, 0, none⟩) x7_1.length co20) y105 := (by rw [hw, Ny105.out]; exact HP21.1); clear HP21; have n0_ := Aside0.mk (hp_); have n1_ := Aside0.mk ((by rw [hw]; exact below_set (HB.out) GB20.out : Below w.heap.size w w22)); clear HO_7; clear HB; have HO_7 := n0_; have HB := n1_; clear n0_ n1_; clear hg hw hp_))
            go_roundg k1
            case measure => have := HK1.out; omega
            case rel => exact ⟨(y105), (wrap64 (x22_1 + 1)), (by first | rfl | (simp; done) | (simp [*]; done)), H', ⟨by have := HK1.out; omega⟩, ⟨pL_ HO_7.out⟩, ⟨pH_ HB.out⟩⟩
           ·
            rw [if_neg c19] at H; exact absurd H (by simp)
          ·
           rw [if_neg c18] at H; exact absurd H (by simp)
         ·
          rw [if_neg c15] at H; exact absurd H (by simp)
        ·
         rw [if_neg c13] at H; have c13b0 : decide (x22_1 < a1) = false := decide_eq_false c13; clear c13; simp only [Option.some.injEq, Prod.mk.injEq] at H; obtain ⟨rfl, rfl⟩ := H
         go_wp2
         go_ret2
         exact ⟨_, by first | rfl | (simp [errW_none, errW_some] <;> rfl) | (simp [*, errW_none, errW_some] <;> rfl), by (with_reducible repeat (first | apply rA_ | apply rN_ | apply rD_)); exact HO_7.out, pH_ HB.out⟩
     ·
      rw [if_neg c9] at H; exact absurd H (by simp)
   ·
    rw [if_neg c6] at H; exact absurd H (by simp)
  ·
   rw [if_neg c5] at H; exact absurd H (by simp)
 ·
  rw [if_neg c4] at H; have c4b0 : (t101 == 0) = false := beq_eq_false_iff_ne.mpr c4; have c4b1 : (t101 != 0) = true := bne_iff_ne.mpr c4; simp only [Option.some.injEq, Prod.mk.injEq] at H; obtain ⟨rfl, rfl⟩ := H
  go_enter Tryd.func28, Tryd.ntmps28
  go_wp2_with (first | ((with_reducible refine gate_callee (f := 27) rfl ?_); refine gL_ (some 10) Tryd.func27 #[.int .i64 a1] ?_; (with_reducible refine (octet_wide.calls a1 t101 _ A3.out).mono ?_); rintro e w' ⟨rfl, ⟨nd, rfl⟩⟩; refine ⟨_, rfl, ?_⟩))
  go_ret2
  exact ⟨_, by first | rfl | (simp [errW_none, errW_some] <;> rfl) | (simp [*, errW_none, errW_some] <;> rfl), by first | exact Kd.R_nil _ _ _ _ _ | exact Kd.N_nil _ _ _ _ _ | exact Kd.V_nil _ _ _ _ _ | exact Kd.Q_nil _ _ _ _ _ | exact Kd.S_nil _ _ _ _ _, pH_ HB.out⟩

/-! ### octet_String: function 6 -/
def octet_String.f (k : Nat) (l0 : List Int) (a1 : Int) : Option (List Int × Int) := (octet_wide.f a1).bind fun t106 => (if t106 = 0 then (if (l0.length : Int) > 20000 then (some (([] : List Int), 4)) else ((octet_Number.f k (IntKind.u64.wrap ((l0.length : Int))) a1).bind fun bt107 => (if bt107.2 = 0 then (if bt107.1.length + l0.length < 140737488355328 then (some ((bt107.1 ++ l0), 0)) else (none)) else (some (([] : List Int), bt107.2))))) else (some (([] : List Int), t106)))
theorem octet_String.mono : ∀ a0 a1 k, LeO (octet_String.f k a0 a1) (octet_String.f (k + 1) a0 a1) := by
 intro a0 a1 k
 unfold octet_String.f
 repeat' first
   | (with_reducible exact octet_Number.mono _ _ _)
   | (with_reducible exact LeO.refl _)
   | (with_reducible exact LeO.none _)
   | (with_reducible refine LeO.ite ?_ ?_)
   | (with_reducible refine LeO.bind ?_ (fun _ => ?_))
   | exact octet_Number.mono _ _ _
   | exact LeO.none _
   | refine LeO.ite ?_ ?_
   | refine LeO.bind ?_ (fun _ => ?_)
set_option maxHeartbeats 8000000 in
set_option maxRecDepth 100000 in
theorem octet_String.calls (k : Nat) (A0 : Option Addr) (c0 : Nat) (l0 : List Int) (a1 : Int) (r1 : List Int) (r2 : Int) (w : World) (hr0 : Kd.C (Kd.int .u8) w A0 l0.length l0) (hc0 : l0.length ≤ c0) (hT : Tab_ w) (h : octet_String.f k l0 a1 = some (r1, r2)) :
  Calls Tryd.prog 6 #[.slice A0 l0.length c0, .int .i64 a1] w fun e w' => ∃ v0_ : Value, e = .returned (.tuple #[v0_, .int .i64 r2]) ∧ Kd.R (Kd.int .u8) 5 w' w.heap.size (fun _ => True) v0_ r1 ∧ Below w.heap.size w w' := by
 have HR0 := Aside0.mk hr0; have HC0 := Aside0.mk hc0; clear hr0 hc0; have HB := Aside0.mk (Below.refl w.heap.size w); have H : ((octet_wide.f a1).bind fun t106 => (if t106 = 0 then (if (l0.length : Int) > 20000 then (some (([] : List Int), 4)) else ((octet_Number.f k (IntKind.u64.wrap ((l0.length : Int))) a1).bind fun bt107 => (if bt107.2 = 0 then (if bt107.1.length + l0.length < 140737488355328 then (some ((bt107.1 ++ l0), 0)) else (none)) else (some (([] : List Int), bt107.2))))) else (some (([] : List Int), t106)))) = some (r1, r2) := h; clear h; replace H := Option.bind_eq_some_iff.mp H; obtain ⟨t106, A30, H⟩ := H; replace H : (if t106 = 0 then (if (l0.length : Int) > 20000 then (some (([] : List Int), 4)) else ((octet_Number.f k (IntKind.u64.wrap ((l0.length : Int))) a1).bind fun bt107 => (if bt107.2 = 0 then (if bt107.1.length + l0.length < 140737488355328 then (some ((bt107.1 ++ l0), 0)) else (none)) else (some (([] : List Int), bt107.2))))) else (some (([] : List Int), t106))) = some (r1, r2) := H; have A3 := Aside0.mk A30; clear A30
 by_cases c4 : t106 = 0
 ·
  rw [if_pos c4] at H; have c4b0 : (t106 == 0) = true := beq_iff_eq.mpr c4; have c4b1 : (t106 != 0) = false := bne_eq_false_iff_eq.mpr c4; clear c4
  by_cases c5 : (l0.length : Int) > 20000
  ·
   rw [if_pos c5] at H; have c5b0 : decide (20000 < (l0.length : Int)) = true := decide_eq_true c5; have c5b1 : decide (20000 < l0.length) = true := decide_eq_true (by omega); clear c5; simp only [Option.some.injEq, Prod.mk.injEq] at H; obtain ⟨rfl, rfl⟩ := H
   go_enter Tryd.func6, Tryd.ntmps6
   go_wp2_with (first | ((with_reducible refine gate_callee (f := 27) rfl ?_); refine gL_ (some 10) Tryd.func27 #[.int .i64 a1] ?_; (with_reducible refine (octet_wide.calls a1 t106 _ A3.out).mono ?_); rintro e w' ⟨rfl, ⟨nd, rfl⟩⟩; refine ⟨_, rfl, ?_⟩))
   go_ret2
   exact ⟨_, by first | rfl | (simp [errW_none, errW_some] <;> rfl) | (simp [*, errW_none, errW_some] <;> rfl), by first | exact Kd.R_nil _ _ _ _ _ | exact Kd.N_nil _ _ _ _ _ | exact Kd.V_nil _ _ _ _ _ | exact Kd.Q_nil _ _ _ _ _ | exact Kd.S_nil _ _ _ _ _, pH_ HB.out⟩
  ·
   rw [if_neg c5] at H; have c5b0 : decide (20000 < (l0.length : Int)) = false := decide_eq_false c5; have c5b1 : decide (20000 < l0.length) = false := decide_eq_false (by omega); clear c5; replace H := Option.bind_eq_some_iff.mp H; obtain ⟨⟨t107, t108⟩, A60, H⟩ := H; replace H : (if t108 = 0 then (if t107.length + l0.length < 140737488355328 then (some ((t107 ++ l0), 0)) else (none)) else (some (([] : List Int), t108))) = some (r1, r2) := H; have A6 := Aside0.mk A60; clear A60
   by_cases c7 : t108 = 0
   ·
    rw [if_pos c7] at H; have c7b0 : (t108 == 0) = true := beq_iff_eq.mpr c7; have c7b1 : (t108 != 0) = false := bne_eq_false_iff_eq.mpr c7; clear c7
    by_cases c8 : t107.length + l0.length < 140737488355328
    ·
     rw [if_pos c8] at H; have LMc8 := Aside0.mk c8; clear c8; obtain ⟨y111, hy111⟩ : ∃ y_ : List Int, y_ = (t107 ++ l0) := ⟨_, rfl⟩
     replace H : (some (y111, 0)) = some (r1, r2) := by first | (rw [hy111]; with_reducible exact H) | (have H2_ := (Option.bind_some _ _).symm.trans H; rw [hy111]; with_reducible exact H2_) | (have H2_ := (Option.bind_some _ _).symm.trans H; with_reducible exact H2_) | with_reducible exact H | (rw [hy111]; exact H) | exact H
     have Ny111 := Aside0.mk hy111; clear hy111; simp only [Option.some.injEq, Prod.mk.injEq] at H; obtain ⟨rfl, rfl⟩ := H
     go_enter Tryd.func6, Tryd.ntmps6
     go_wp2_with (first | ((with_reducible refine gate_callee (f := 27) rfl ?_); refine gL_ (some 10) Tryd.func27 #[.int .i64 a1] ?_; (with_reducible refine (octet_wide.calls a1 t106 _ A3.out).mono ?_); rintro e w' ⟨rfl, ⟨nd, rfl⟩⟩; refine ⟨_, rfl, ?_⟩) | ((with_reducible refine gate_callee (f := 28) rfl ?_); refine gL_ (some 22) Tryd.func28 #[.int .u64 (IntKind.u64.wrap ((l0.length : Int))), .int .i64 a1] ?_; (with_reducible refine (octet_Number.calls k (IntKind.u64.wrap ((l0.length : Int))) a1 t107 t108 _ (tab_bel hT (pH_ HB.out)) A6.out).mono ?_); rintro e w9 ⟨v109, rfl, ho0, hb⟩; refine ⟨_, rfl, ?_⟩; have n0_ := Aside0.mk (Kd.R_lower ho0 (below_size (pH_ HB.out))); have n1_ := Aside0.mk (below_step (pH_ HB.out) hb); clear HB; have HO110 := n0_; have HB := n1_; clear n0_ n1_; (try clear hb); (try clear ho0)) | ((with_reducible refine gate_builtin (b := .append) (xs := #[.tmp 28, .tmp 29]) rfl ?_); at_builtin; refine Kd.R_append_rows (Kd.int .u8) (w0 := w) w.heap.size rfl (.tmp 28) (.tmp 29) 22 5 (.int .u8 0) 1 rfl Tryd.underlying22 info5 rfl (by decide) (by omega) v109 t107 l0 _ _ _ (fun _ => True) (fun _ => False) rfl rfl ?aO ?aR (fun _ _ h => h) (fun _ h => h.elim) ?aF ?aB ?aS ?aL ?_; (case aR => repeat (first | exact (Kd.C_below HR0.out HB.out) | (with_reducible refine Kd.C_alloc ?_ _) | (with_reducible refine Kd.C_drewN ?_ _) | (with_reducible refine Kd.C_drew ?_))); (case aB => exact (pH_ HB.out)); (case aF => exact (fun _ _ => trivial)); (case aO => exact (pL_ HO110.out)); (case aS => exact (below_size (pH_ HB.out))); (case aL => have := LMc8.out; omega); intro v112 w10 ho hb hg hat; (try simp only [Int.reduceToNat] at ho); rw [← Ny111.out] at ho; have n0_ := Aside0.mk (hb); have n1_ := Aside0.mk (ho); clear HB; clear HO110; have HB := n0_; have HO113 := n1_; clear n0_ n1_; clear ho hb hg hat))
     go_ret2
     exact ⟨_, by first | rfl | (simp [errW_none, errW_some] <;> rfl) | (simp [*, errW_none, errW_some] <;> rfl), by (with_reducible repeat (first | apply rA_ | apply rN_ | apply rD_)); exact HO113.out, pH_ HB.out⟩
    ·
     rw [if_neg c8] at H; exact absurd H (by simp)
   ·
    rw [if_neg c7] at H; have c7b0 : (t108 == 0) = false := beq_eq_false_iff_ne.mpr c7; have c7b1 : (t108 != 0) = true := bne_iff_ne.mpr c7; simp only [Option.some.injEq, Prod.mk.injEq] at H; obtain ⟨rfl, rfl⟩ := H
    go_enter Tryd.func6, Tryd.ntmps6
    go_wp2_with (first | ((with_reducible refine gate_callee (f := 27) rfl ?_); refine gL_ (some 10) Tryd.func27 #[.int .i64 a1] ?_; (with_reducible refine (octet_wide.calls a1 t106 _ A3.out).mono ?_); rintro e w' ⟨rfl, ⟨nd, rfl⟩⟩; refine ⟨_, rfl, ?_⟩) | ((with_reducible refine gate_callee (f := 28) rfl ?_); refine gL_ (some 22) Tryd.func28 #[.int .u64 (IntKind.u64.wrap ((l0.length : Int))), .int .i64 a1] ?_; (with_reducible refine (octet_Number.calls k (IntKind.u64.wrap ((l0.length : Int))) a1 t107 t108 _ (tab_bel hT (pH_ HB.out)) A6.out).mono ?_); rintro e w11 ⟨v109, rfl, ho0, hb⟩; refine ⟨_, rfl, ?_⟩; have n0_ := Aside0.mk (Kd.R_lower ho0 (below_size (pH_ HB.out))); have n1_ := Aside0.mk (below_step (pH_ HB.out) hb); clear HB; have HO110 := n0_; have HB := n1_; clear n0_ n1_; (try clear hb); (try clear ho0)))
    go_ret2
    exact ⟨_, by first | rfl | (simp [errW_none, errW_some] <;> rfl) | (simp [*, errW_none, errW_some] <;> rfl), by first | exact Kd.R_nil _ _ _ _ _ | exact Kd.N_nil _ _ _ _ _ | exact Kd.V_nil _ _ _ _ _ | exact Kd.Q_nil _ _ _ _ _ | exact Kd.S_nil _ _ _ _ _, pH_ HB.out⟩
 ·
  rw [if_neg c4] at H; have c4b0 : (t106 == 0) = false := beq_eq_false_iff_ne.mpr c4; have c4b1 : (t106 != 0) = true := bne_iff_ne.mpr c4; simp only [Option.some.injEq, Prod.mk.injEq] at H; obtain ⟨rfl, rfl⟩ := H
  go_enter Tryd.func6, Tryd.ntmps6
  go_wp2_with (first | ((with_reducible refine gate_callee (f := 27) rfl ?_); refine gL_ (some 10) Tryd.func27 #[.int .i64 a1] ?_; (with_reducible refine (octet_wide.calls a1 t106 _ A3.out).mono ?_); rintro e w' ⟨rfl, ⟨nd, rfl⟩⟩; refine ⟨_, rfl, ?_⟩))
  go_ret2
  exact ⟨_, by first | rfl | (simp [errW_none, errW_some] <;> rfl) | (simp [*, errW_none, errW_some] <;> rfl), by first | exact Kd.R_nil _ _ _ _ _ | exact Kd.N_nil _ _ _ _ _ | exact Kd.V_nil _ _ _ _ _ | exact Kd.Q_nil _ _ _ _ _ | exact Kd.S_nil _ _ _ _ _, pH_ HB.out⟩

/-! ### states_Size: function 43 -/
def states_Size.f  : Option (Int) := some 193
set_option maxHeartbeats 8000000 in
set_option maxRecDepth 100000 in
theorem states_Size.calls  (r : Int) (w : World) (h : states_Size.f  = some r) :
    Calls Tryd.prog 43 #[] w fun e w' => e = .returned (.int .i64 r) ∧ Drawn0 w w' := by
  have H : (some 193) = some r := h
  clear h
  obtain rfl := Option.some.inj H
  go_enter Tryd.func43, Tryd.ntmps43
  go_wp2
  go_ret
  exact ⟨by first | rfl | (simp; done) | (simp [*]; done), by repeat (first | exact Drawn0.refl _ | apply Drawn0.step)⟩

/-! ### states_Count: function 15 -/
/-- The count of a state, and the error. -/
def states_Count.f (a0 : Int) : Option (Int × Int × Int × Int) :=
  if a0 < 0 ∨ a0 > 255 then none else if a0 ≥ 193 then some (0, 0, 0, 2) else if a0 = 0 then some (0, 0, 0, 0)
  else if a0 ≤ 96 then some ((a0 - 1) / 8 % 12 + 1, (a0 - 1) % 8, 0, 0) else some ((a0 - 1) % 8, (a0 - 1) / 8 % 12 + 1, 1, 0)
theorem states_Count.far (s : Int) (w : World) (h0 : s ≥ 193) (h1 : s ≤ 255) :
    Calls Tryd.prog 15 #[.int .u8 s] w fun e w' => e = .returned (.tuple #[.agg #[.int .i32 0, .int .i32 0, .int .u8 0], .int .i64 2]) ∧ Below w.heap.size w w' := by
  go_enter Tryd.func15, Tryd.ntmps15
  go_wp2
  refine bodyPost_ret (v := .tuple #[.agg #[.int .i32 0, .int .i32 0, .int .u8 0], .int .i64 2]) (by simp [results, Tryd.results15, go_sem]) rfl ⟨rfl, ?_⟩
  repeat (first | exact Below.refl _ _ | apply below_alloc | apply pw_below_drewN | apply below_drew | refine below_set ?_ (by simp))
theorem states_Count.zero (w : World) :
    Calls Tryd.prog 15 #[.int .u8 0] w fun e w' => e = .returned (.tuple #[.agg #[.int .i32 0, .int .i32 0, .int .u8 0], .int .i64 0]) ∧ Below w.heap.size w w' := by
  go_enter Tryd.func15, Tryd.ntmps15
  go_wp2
  refine bodyPost_ret (v := .tuple #[.agg #[.int .i32 0, .int .i32 0, .int .u8 0], .int .i64 0]) (by simp [results, Tryd.results15, go_sem]) rfl ⟨rfl, ?_⟩
  repeat (first | exact Below.refl _ _ | apply below_alloc | apply pw_below_drewN | apply below_drew | refine below_set ?_ (by simp))
theorem states_Count.low (s : Int) (w : World) (h0 : 1 ≤ s) (h1 : s ≤ 96) :
    Calls Tryd.prog 15 #[.int .u8 s] w fun e w' => e = .returned (.tuple #[.agg #[.int .i32 ((s - 1) / 8 % 12 + 1), .int .i32 ((s - 1) % 8), .int .u8 0], .int .i64 0]) ∧ Below w.heap.size w w' := by
  have e1 : (s - 1) / 8 / 12 = 0 := by omega
  have e3 : (s == 0) = false := beq_eq_false_iff_ne.mpr (by omega)
  go_enter Tryd.func15, Tryd.ntmps15
  go_wp2
  refine bodyPost_ret (v := .tuple #[.agg #[.int .i32 ((s - 1) / 8 % 12 + 1), .int .i32 ((s - 1) % 8), .int .u8 0], .int .i64 0]) (by simp [results, Tryd.results15, go_sem]) rfl ⟨rfl, ?_⟩
  repeat (first | exact Below.refl _ _ | apply below_alloc | apply pw_below_drewN | apply below_drew | refine below_set ?_ (by simp))
theorem states_Count.high (s : Int) (w : World) (h0 : 97 ≤ s) (h1 : s ≤ 192) :
    Calls Tryd.prog 15 #[.int .u8 s] w fun e w' => e = .returned (.tuple #[.agg #[.int .i32 ((s - 1) % 8), .int .i32 ((s - 1) / 8 % 12 + 1), .int .u8 1], .int .i64 0]) ∧ Below w.heap.size w w' := by
  have e1 : (s - 1) / 8 / 12 = 1 := by omega
  have e3 : (s == 0) = false := beq_eq_false_iff_ne.mpr (by omega)
  go_enter Tryd.func15, Tryd.ntmps15
  go_wp2
  refine bodyPost_ret (v := .tuple #[.agg #[.int .i32 ((s - 1) % 8), .int .i32 ((s - 1) / 8 % 12 + 1), .int .u8 1], .int .i64 0]) (by simp [results, Tryd.results15, go_sem]) rfl ⟨rfl, ?_⟩
  repeat (first | exact Below.refl _ _ | apply below_alloc | apply pw_below_drewN | apply below_drew | refine below_set ?_ (by simp))
theorem states_Count.calls (a0 : Int) (r1 : Int) (r2 : Int) (r3 : Int) (r4 : Int) (w : World) (h : states_Count.f a0 = some (r1, r2, r3, r4)) :
    Calls Tryd.prog 15 #[.int .u8 a0] w fun e w' => e = .returned (.tuple #[.agg #[.int .i32 r1, .int .i32 r2, .int .u8 r3], .int .i64 r4]) ∧ Below w.heap.size w w' := by
  unfold states_Count.f at h
  by_cases c1 : a0 < 0 ∨ a0 > 255
  · rw [if_pos c1] at h
    exact absurd h (by simp)
  rw [if_neg c1] at h
  by_cases c2 : a0 ≥ 193
  · rw [if_pos c2] at h
    simp only [Option.some.injEq, Prod.mk.injEq] at h
    obtain ⟨rfl, rfl, rfl, rfl⟩ := h
    exact states_Count.far a0 w c2 (by omega)
  rw [if_neg c2] at h
  by_cases c3 : a0 = 0
  · rw [if_pos c3] at h
    simp only [Option.some.injEq, Prod.mk.injEq] at h
    obtain ⟨rfl, rfl, rfl, rfl⟩ := h
    subst c3
    exact states_Count.zero w
  rw [if_neg c3] at h
  by_cases c4 : a0 ≤ 96
  · rw [if_pos c4] at h
    simp only [Option.some.injEq, Prod.mk.injEq] at h
    obtain ⟨rfl, rfl, rfl, rfl⟩ := h
    exact states_Count.low a0 w (by omega) c4
  · rw [if_neg c4] at h
    simp only [Option.some.injEq, Prod.mk.injEq] at h
    obtain ⟨rfl, rfl, rfl, rfl⟩ := h
    exact states_Count.high a0 w (by omega) (by omega)

-- NOT PRINTED: function 100 (slices_IndexFunc_uint8_uint8)

-- NOT PRINTED: function 72 (slices_ContainsFunc_uint8_uint8)

/-! ### counts_Check: function 34 -/
/-- What Check answers of a count's two numbers and its last bit. -/
def counts_Check.f (a0_0 : Int) (a0_1 : Int) (a0_2 : Int) : Option (Int) :=
  if a0_2 < 0 then none else if a0_0 = 0 ∧ a0_1 = 0 ∧ a0_2 = 0 then some 0 else if a0_2 > 1 then some 8
  else if a0_2 = 0 then (if a0_0 < 1 ∨ a0_0 > 12 ∨ a0_1 < 0 ∨ a0_1 > 7 then some 8 else some 0)
  else (if a0_1 < 1 ∨ a0_1 > 12 ∨ a0_0 < 0 ∨ a0_0 > 7 then some 8 else some 0)
theorem counts_Check.zero (w : World) :
    Calls Tryd.prog 34 #[.agg #[.int .i32 0, .int .i32 0, .int .u8 0]] w fun e w' => e = .returned (.int .i64 0) ∧ Below w.heap.size w w' := by
  go_enter Tryd.func34, Tryd.ntmps34
  go_wp2
  go_ret
  exact ⟨rfl, by repeat (first | exact Below.refl _ _ | apply below_alloc | apply pw_below_drewN | apply below_drew)⟩
theorem counts_Check.far (a b c : Int) (w : World) (h : c > 1) :
    Calls Tryd.prog 34 #[.agg #[.int .i32 a, .int .i32 b, .int .u8 c]] w fun e w' => e = .returned (.int .i64 8) ∧ Below w.heap.size w w' := by
  have h0 : (c == 0) = false := beq_eq_false_iff_ne.mpr (by omega)
  have h1 : decide (1 < c) = true := decide_eq_true h
  clear h
  go_enter Tryd.func34, Tryd.ntmps34
  go_wp2
  go_ret
  exact ⟨rfl, by repeat (first | exact Below.refl _ _ | apply below_alloc | apply pw_below_drewN | apply below_drew)⟩
theorem counts_Check.at0 (a b : Int) (w : World) (r : Int) (hz : ¬ (a = 0 ∧ b = 0)) (h : (if a < 1 ∨ a > 12 ∨ b < 0 ∨ b > 7 then (8 : Int) else 0) = r) :
    Calls Tryd.prog 34 #[.agg #[.int .i32 a, .int .i32 b, .int .u8 0]] w fun e w' => e = .returned (.int .i64 r) ∧ Below w.heap.size w w' := by
  have z : (a == 0 && b == 0) = false := by simp; omega
  clear hz
  by_cases c1 : a < 1
  · rw [if_pos (by omega)] at h
    subst h
    have c1b : decide (a < 1) = true := decide_eq_true c1
    clear c1
    go_enter Tryd.func34, Tryd.ntmps34
    go_wp2
    repeat (go_quiet (fail); try go_wp2)
    go_ret
    exact ⟨rfl, by repeat (first | exact Below.refl _ _ | apply below_alloc | apply pw_below_drewN | apply below_drew)⟩
  have c1b : decide (a < 1) = false := decide_eq_false c1
  by_cases c2 : a > 12
  · rw [if_pos (by omega)] at h
    subst h
    have c2b : decide (12 < a) = true := decide_eq_true c2
    clear c1 c2
    go_enter Tryd.func34, Tryd.ntmps34
    go_wp2
    repeat (go_quiet (fail); try go_wp2)
    go_ret
    exact ⟨rfl, by repeat (first | exact Below.refl _ _ | apply below_alloc | apply pw_below_drewN | apply below_drew)⟩
  have c2b : decide (12 < a) = false := decide_eq_false c2
  by_cases c3 : b < 0
  · rw [if_pos (by omega)] at h
    subst h
    have c3b : decide (b < 0) = true := decide_eq_true c3
    clear c1 c2 c3
    go_enter Tryd.func34, Tryd.ntmps34
    go_wp2
    repeat (go_quiet (fail); try go_wp2)
    go_ret
    exact ⟨rfl, by repeat (first | exact Below.refl _ _ | apply below_alloc | apply pw_below_drewN | apply below_drew)⟩
  have c3b : decide (b < 0) = false := decide_eq_false c3
  by_cases c4 : b > 7
  · rw [if_pos (by omega)] at h
    subst h
    have c4b : decide (7 < b) = true := decide_eq_true c4
    clear c1 c2 c3 c4
    go_enter Tryd.func34, Tryd.ntmps34
    go_wp2
    repeat (go_quiet (fail); try go_wp2)
    go_ret
    exact ⟨rfl, by repeat (first | exact Below.refl _ _ | apply below_alloc | apply pw_below_drewN | apply below_drew)⟩
  have c4b : decide (7 < b) = false := decide_eq_false c4
  rw [if_neg (by omega)] at h
  subst h
  clear c1 c2 c3 c4
  go_enter Tryd.func34, Tryd.ntmps34
  go_wp2
  repeat (go_quiet (fail); try go_wp2)
  go_ret
  exact ⟨rfl, by repeat (first | exact Below.refl _ _ | apply below_alloc | apply pw_below_drewN | apply below_drew)⟩
theorem counts_Check.at1 (a b : Int) (w : World) (r : Int) (h : (if b < 1 ∨ b > 12 ∨ a < 0 ∨ a > 7 then (8 : Int) else 0) = r) :
    Calls Tryd.prog 34 #[.agg #[.int .i32 a, .int .i32 b, .int .u8 1]] w fun e w' => e = .returned (.int .i64 r) ∧ Below w.heap.size w w' := by
  by_cases c1 : b < 1
  · rw [if_pos (by omega)] at h
    subst h
    have c1b : decide (b < 1) = true := decide_eq_true c1
    clear c1
    go_enter Tryd.func34, Tryd.ntmps34
    go_wp2
    repeat (go_quiet (fail); try go_wp2)
    go_ret
    exact ⟨rfl, by repeat (first | exact Below.refl _ _ | apply below_alloc | apply pw_below_drewN | apply below_drew)⟩
  have c1b : decide (b < 1) = false := decide_eq_false c1
  by_cases c2 : b > 12
  · rw [if_pos (by omega)] at h
    subst h
    have c2b : decide (12 < b) = true := decide_eq_true c2
    clear c1 c2
    go_enter Tryd.func34, Tryd.ntmps34
    go_wp2
    repeat (go_quiet (fail); try go_wp2)
    go_ret
    exact ⟨rfl, by repeat (first | exact Below.refl _ _ | apply below_alloc | apply pw_below_drewN | apply below_drew)⟩
  have c2b : decide (12 < b) = false := decide_eq_false c2
  by_cases c3 : a < 0
  · rw [if_pos (by omega)] at h
    subst h
    have c3b : decide (a < 0) = true := decide_eq_true c3
    clear c1 c2 c3
    go_enter Tryd.func34, Tryd.ntmps34
    go_wp2
    repeat (go_quiet (fail); try go_wp2)
    go_ret
    exact ⟨rfl, by repeat (first | exact Below.refl _ _ | apply below_alloc | apply pw_below_drewN | apply below_drew)⟩
  have c3b : decide (a < 0) = false := decide_eq_false c3
  by_cases c4 : a > 7
  · rw [if_pos (by omega)] at h
    subst h
    have c4b : decide (7 < a) = true := decide_eq_true c4
    clear c1 c2 c3 c4
    go_enter Tryd.func34, Tryd.ntmps34
    go_wp2
    repeat (go_quiet (fail); try go_wp2)
    go_ret
    exact ⟨rfl, by repeat (first | exact Below.refl _ _ | apply below_alloc | apply pw_below_drewN | apply below_drew)⟩
  have c4b : decide (7 < a) = false := decide_eq_false c4
  rw [if_neg (by omega)] at h
  subst h
  clear c1 c2 c3 c4
  go_enter Tryd.func34, Tryd.ntmps34
  go_wp2
  repeat (go_quiet (fail); try go_wp2)
  go_ret
  exact ⟨rfl, by repeat (first | exact Below.refl _ _ | apply below_alloc | apply pw_below_drewN | apply below_drew)⟩
theorem counts_Check.calls (a0_0 : Int) (a0_1 : Int) (a0_2 : Int) (r : Int) (w : World) (h : counts_Check.f a0_0 a0_1 a0_2 = some r) :
    Calls Tryd.prog 34 #[.agg #[.int .i32 a0_0, .int .i32 a0_1, .int .u8 a0_2]] w fun e w' => e = .returned (.int .i64 r) ∧ Below w.heap.size w w' := by
  unfold counts_Check.f at h
  by_cases c1 : a0_2 < 0
  · rw [if_pos c1] at h
    exact absurd h (by simp)
  rw [if_neg c1] at h
  by_cases c2 : a0_0 = 0 ∧ a0_1 = 0 ∧ a0_2 = 0
  · rw [if_pos c2] at h
    obtain ⟨rfl, rfl, rfl⟩ := c2
    obtain rfl := Option.some.inj h
    exact counts_Check.zero w
  rw [if_neg c2] at h
  by_cases c3 : a0_2 > 1
  · rw [if_pos c3] at h
    obtain rfl := Option.some.inj h
    exact counts_Check.far a0_0 a0_1 a0_2 w c3
  rw [if_neg c3] at h
  by_cases c4 : a0_2 = 0
  · rw [if_pos c4] at h
    subst c4
    refine counts_Check.at0 a0_0 a0_1 w r (by omega) ?_
    split at h <;> rename_i c
    · rw [if_pos c]; exact Option.some.inj h
    · rw [if_neg c]; exact Option.some.inj h
  · rw [if_neg c4] at h
    obtain rfl : a0_2 = 1 := by omega
    refine counts_Check.at1 a0_0 a0_1 w r ?_
    split at h <;> rename_i c
    · rw [if_pos c]; exact Option.some.inj h
    · rw [if_neg c]; exact Option.some.inj h

/-! ### counts_next: function 35 -/
/-- The number that shrinks. -/
def counts_next.less (x : Int) : Int := if x > 2 then x / 2 + 1 else x
/-- The next count of one whose numbers are from 0 to 12. -/
def counts_next.f (a0_0 : Int) (a0_1 : Int) (a0_2 : Int) (a1 : Int) : Option (Int × Int × Int) :=
  if 0 ≤ a0_0 ∧ a0_0 ≤ 12 ∧ 0 ≤ a0_1 ∧ a0_1 ≤ 12 then
    (if a1 = 0 then some (if a0_0 < 12 then a0_0 + 1 else 12, counts_next.less a0_1, 0) else if a1 = 1 then some (counts_next.less a0_0, if a0_1 < 12 then a0_1 + 1 else 12, 1) else none)
  else none
set_option maxHeartbeats 4000000 in
theorem counts_next.goes (a b c d : Int) (w : World) (hd : d = 0 ∨ d = 1) (ha : 0 ≤ a) (ha' : a ≤ 12) (hb : 0 ≤ b) (hb' : b ≤ 12) :
    Calls Tryd.prog 35 #[.agg #[.int .i32 a, .int .i32 b, .int .u8 c], .int .u8 d] w fun e w' => e = .returned (.agg #[.int .i32 (if d = 0 then (if a < 12 then a + 1 else 12) else counts_next.less a), .int .i32 (if d = 0 then counts_next.less b else if b < 12 then b + 1 else 12), .int .u8 d]) ∧ Below w.heap.size w w' := by
  unfold counts_next.less
  rcases hd with rfl | rfl
  · by_cases c1 : a < 12
    · by_cases c2 : b > 2
      · rw [if_pos rfl, if_pos rfl, if_pos c1, if_pos c2]
        have c1b : decide (12 < a + 1) = false := decide_eq_false (by omega)
        have c2b : decide (2 < b) = true := decide_eq_true c2
        go_enter Tryd.func35, Tryd.ntmps35
        go_wp2
        refine bodyPost_ret (v := .agg #[.int .i32 (a + 1), .int .i32 (b / 2 + 1), .int .u8 0]) (by simp [results, Tryd.results35, go_sem]) rfl ⟨rfl, ?_⟩
        repeat (first | exact Below.refl _ _ | apply below_alloc | apply pw_below_drewN | apply below_drew | refine below_set ?_ (by simp))
      · rw [if_pos rfl, if_pos rfl, if_pos c1, if_neg c2]
        have c1b : decide (12 < a + 1) = false := decide_eq_false (by omega)
        have c2b : decide (2 < b) = false := decide_eq_false c2
        go_enter Tryd.func35, Tryd.ntmps35
        go_wp2
        refine bodyPost_ret (v := .agg #[.int .i32 (a + 1), .int .i32 (b), .int .u8 0]) (by simp [results, Tryd.results35, go_sem]) rfl ⟨rfl, ?_⟩
        repeat (first | exact Below.refl _ _ | apply below_alloc | apply pw_below_drewN | apply below_drew | refine below_set ?_ (by simp))
    · by_cases c2 : b > 2
      · rw [if_pos rfl, if_pos rfl, if_neg c1, if_pos c2]
        have c1b : decide (12 < a + 1) = true := decide_eq_true (by omega)
        have c2b : decide (2 < b) = true := decide_eq_true c2
        go_enter Tryd.func35, Tryd.ntmps35
        go_wp2
        refine bodyPost_ret (v := .agg #[.int .i32 (12), .int .i32 (b / 2 + 1), .int .u8 0]) (by simp [results, Tryd.results35, go_sem]) rfl ⟨rfl, ?_⟩
        repeat (first | exact Below.refl _ _ | apply below_alloc | apply pw_below_drewN | apply below_drew | refine below_set ?_ (by simp))
      · rw [if_pos rfl, if_pos rfl, if_neg c1, if_neg c2]
        have c1b : decide (12 < a + 1) = true := decide_eq_true (by omega)
        have c2b : decide (2 < b) = false := decide_eq_false c2
        go_enter Tryd.func35, Tryd.ntmps35
        go_wp2
        refine bodyPost_ret (v := .agg #[.int .i32 (12), .int .i32 (b), .int .u8 0]) (by simp [results, Tryd.results35, go_sem]) rfl ⟨rfl, ?_⟩
        repeat (first | exact Below.refl _ _ | apply below_alloc | apply pw_below_drewN | apply below_drew | refine below_set ?_ (by simp))
  · by_cases c1 : b < 12
    · by_cases c2 : a > 2
      · rw [if_neg (show ¬ (1 : Int) = 0 by decide), if_neg (show ¬ (1 : Int) = 0 by decide), if_pos c2, if_pos c1]
        have c1b : decide (12 < b + 1) = false := decide_eq_false (by omega)
        have c2b : decide (2 < a) = true := decide_eq_true c2
        go_enter Tryd.func35, Tryd.ntmps35
        go_wp2
        refine bodyPost_ret (v := .agg #[.int .i32 (a / 2 + 1), .int .i32 (b + 1), .int .u8 1]) (by simp [results, Tryd.results35, go_sem]) rfl ⟨rfl, ?_⟩
        repeat (first | exact Below.refl _ _ | apply below_alloc | apply pw_below_drewN | apply below_drew | refine below_set ?_ (by simp))
      · rw [if_neg (show ¬ (1 : Int) = 0 by decide), if_neg (show ¬ (1 : Int) = 0 by decide), if_neg c2, if_pos c1]
        have c1b : decide (12 < b + 1) = false := decide_eq_false (by omega)
        have c2b : decide (2 < a) = false := decide_eq_false c2
        go_enter Tryd.func35, Tryd.ntmps35
        go_wp2
        refine bodyPost_ret (v := .agg #[.int .i32 (a), .int .i32 (b + 1), .int .u8 1]) (by simp [results, Tryd.results35, go_sem]) rfl ⟨rfl, ?_⟩
        repeat (first | exact Below.refl _ _ | apply below_alloc | apply pw_below_drewN | apply below_drew | refine below_set ?_ (by simp))
    · by_cases c2 : a > 2
      · rw [if_neg (show ¬ (1 : Int) = 0 by decide), if_neg (show ¬ (1 : Int) = 0 by decide), if_pos c2, if_neg c1]
        have c1b : decide (12 < b + 1) = true := decide_eq_true (by omega)
        have c2b : decide (2 < a) = true := decide_eq_true c2
        go_enter Tryd.func35, Tryd.ntmps35
        go_wp2
        refine bodyPost_ret (v := .agg #[.int .i32 (a / 2 + 1), .int .i32 (12), .int .u8 1]) (by simp [results, Tryd.results35, go_sem]) rfl ⟨rfl, ?_⟩
        repeat (first | exact Below.refl _ _ | apply below_alloc | apply pw_below_drewN | apply below_drew | refine below_set ?_ (by simp))
      · rw [if_neg (show ¬ (1 : Int) = 0 by decide), if_neg (show ¬ (1 : Int) = 0 by decide), if_neg c2, if_neg c1]
        have c1b : decide (12 < b + 1) = true := decide_eq_true (by omega)
        have c2b : decide (2 < a) = false := decide_eq_false c2
        go_enter Tryd.func35, Tryd.ntmps35
        go_wp2
        refine bodyPost_ret (v := .agg #[.int .i32 (a), .int .i32 (12), .int .u8 1]) (by simp [results, Tryd.results35, go_sem]) rfl ⟨rfl, ?_⟩
        repeat (first | exact Below.refl _ _ | apply below_alloc | apply pw_below_drewN | apply below_drew | refine below_set ?_ (by simp))
theorem counts_next.calls (a0_0 : Int) (a0_1 : Int) (a0_2 : Int) (a1 : Int) (r1 : Int) (r2 : Int) (r3 : Int) (w : World) (h : counts_next.f a0_0 a0_1 a0_2 a1 = some (r1, r2, r3)) :
    Calls Tryd.prog 35 #[.agg #[.int .i32 a0_0, .int .i32 a0_1, .int .u8 a0_2], .int .u8 a1] w fun e w' => e = .returned (.agg #[.int .i32 r1, .int .i32 r2, .int .u8 r3]) ∧ Below w.heap.size w w' := by
  unfold counts_next.f at h
  by_cases c : 0 ≤ a0_0 ∧ a0_0 ≤ 12 ∧ 0 ≤ a0_1 ∧ a0_1 ≤ 12
  · rw [if_pos c] at h
    by_cases d : a1 = 0
    · rw [if_pos d] at h
      simp only [Option.some.injEq, Prod.mk.injEq] at h
      obtain ⟨rfl, rfl, rfl⟩ := h
      subst d
      exact counts_next.goes a0_0 a0_1 a0_2 0 w (.inl rfl) c.1 c.2.1 c.2.2.1 c.2.2.2
    · rw [if_neg d] at h
      by_cases e : a1 = 1
      · rw [if_pos e] at h
        simp only [Option.some.injEq, Prod.mk.injEq] at h
        obtain ⟨rfl, rfl, rfl⟩ := h
        subst e
        exact counts_next.goes a0_0 a0_1 a0_2 1 w (.inr rfl) c.1 c.2.1 c.2.2.1 c.2.2.2
      · rw [if_neg e] at h
        exact absurd h (by simp)
  · rw [if_neg c] at h
    exact absurd h (by simp)

/-! ### slices_Max_uint8_uint8: function 101 -/
def slices_Max_uint8_uint8.l0 : Nat → List Int → Int → Int → Option (Int)
 | 0, _, _, _ => none
 | k + 1, x0, x3, x4 => if x4 < (x0.length : Int) then (if 0 ≤ x4 then (slices_Max_uint8_uint8.l0 k x0 (mx x3 (rd x0 x4)) (wrap64 (x4 + 1))) else (none)) else (some x3)
def slices_Max_uint8_uint8.f (k : Nat) (l0 : List Int) : Option (Int) := if (l0.length : Int) < 1 then (none) else (if 0 < (l0.length : Int) then (slices_Max_uint8_uint8.l0 k l0 (rd l0 0) 1) else (none))
theorem slices_Max_uint8_uint8.mono_l : ∀ k, (∀ y0 y1 y2, LeO (slices_Max_uint8_uint8.l0 k y0 y1 y2) (slices_Max_uint8_uint8.l0 (k + 1) y0 y1 y2))
 | 0 => fun _ _ _ r h => by simp [slices_Max_uint8_uint8.l0] at h
 | k + 1 => by
  have ih0 := slices_Max_uint8_uint8.mono_l k
  ·
   intro y0 y1 y2
   unfold slices_Max_uint8_uint8.l0
   repeat' first
   | (with_reducible exact ih0 _ _ _)
   | (with_reducible exact LeO.refl _)
   | (with_reducible exact LeO.none _)
   | (with_reducible refine LeO.ite ?_ ?_)
   | (with_reducible refine LeO.bind ?_ (fun _ => ?_))
   | exact ih0 _ _ _
   | exact LeO.none _
   | refine LeO.ite ?_ ?_
   | refine LeO.bind ?_ (fun _ => ?_)
theorem slices_Max_uint8_uint8.mono : ∀ a0 k, LeO (slices_Max_uint8_uint8.f k a0) (slices_Max_uint8_uint8.f (k + 1) a0) := by
 intro a0 k; have ih0 := slices_Max_uint8_uint8.mono_l k
 unfold slices_Max_uint8_uint8.f
 repeat' first
   | (with_reducible exact ih0 _ _ _)
   | (with_reducible exact LeO.refl _)
   | (with_reducible exact LeO.none _)
   | (with_reducible refine LeO.ite ?_ ?_)
   | (with_reducible refine LeO.bind ?_ (fun _ => ?_))
   | exact ih0 _ _ _
   | exact LeO.none _
   | refine LeO.ite ?_ ?_
   | refine LeO.bind ?_ (fun _ => ?_)
set_option maxHeartbeats 8000000 in
set_option maxRecDepth 100000 in
theorem slices_Max_uint8_uint8.calls (k : Nat) (A0 : Option Addr) (c0 : Nat) (l0 : List Int) (r : Int) (w : World) (hr0 : Kd.C (Kd.int .u8) w A0 l0.length l0) (hc0 : l0.length ≤ c0) (h : slices_Max_uint8_uint8.f k l0 = some r) :
  Calls Tryd.prog 101 #[.slice A0 l0.length c0] w fun e w' => e = .returned (.int .u8 r) ∧ Below w.heap.size w w' := by
 have HR0 := Aside0.mk hr0; have HC0 := Aside0.mk hc0; clear hr0 hc0; have HB := Aside0.mk (Below.refl w.heap.size w); have H : (if (l0.length : Int) < 1 then (none) else (if 0 < (l0.length : Int) then (slices_Max_uint8_uint8.l0 k l0 (rd l0 0) 1) else (none))) = some r := h; clear h
 by_cases c2 : (l0.length : Int) < 1
 ·
  rw [if_pos c2] at H; exact absurd H (by simp)
 ·
  rw [if_neg c2] at H; have c2b0 : decide ((l0.length : Int) < 1) = false := decide_eq_false c2; have c2b1 : decide (l0.length < 1) = false := decide_eq_false (by omega); clear c2
  by_cases c3 : 0 < (l0.length : Int)
  ·
   rw [if_pos c3] at H; have c3b0 : decide (0 < (l0.length : Int)) = true := decide_eq_true c3; have c3b1 : decide (0 < l0.length) = true := decide_eq_true (by omega); clear c3; have H' := Aside0.mk H; clear H; have p114 : 0 ≤ (0 : Int) := (by omega); have q114 : 0 < (l0.length : Int) := of_decide_eq_true (by first | (with_reducible assumption) | assumption); obtain ⟨ad114, e114, hx114_0⟩ := Kd.at_int HR0.out 0 p114 q114
   cases e114
   have qi114 : (0 < l0.length) = True := eq_true (by omega); (try rw [show ((0 : Int)).toNat = 0 from rfl] at hx114_0); (try rw [Addr.add_zero'] at hx114_0); replace p114 := eq_true p114; replace q114 := eq_true q114
   go_enter Tryd.func101, Tryd.ntmps101
   go_wp2
   go_loopg [3, 4] k (fun kq v3 v4 w' => ∃ (x3_1 : Int) (x4_1 : Int), v3 = .int .u8 x3_1 ∧ v4 = .int .i64 x4_1 ∧ Aside0 (slices_Max_uint8_uint8.l0 kq l0 x3_1 x4_1 = some r) ∧ Aside0 (kq ≤ k) ∧ Aside0 (Below w.heap.size w w'))
   case atStart => exact ⟨(rd l0 0), (1), (by first | rfl | (simp; done) | (simp [*]; done)), (by first | rfl | (simp; done) | (simp [*]; done)), H', ⟨Nat.le_refl _⟩, ⟨pH_ HB.out⟩⟩
   case round =>
    clear H'
    try clear c1
    try clear p1
    try clear q1
    try clear hx1
    try clear qi1
    try clear c2
    try clear c2b0
    try clear c2b1
    try clear p2
    try clear c3
    try clear c3b0
    try clear c3b1
    try clear hx114_0
    try clear p114
    try clear q114
    obtain ⟨x3_1, x4_1, rfl, rfl, HA, HK1, HB⟩ := hrel
    cases gk with
    | zero => exact absurd HA.out (by simp [slices_Max_uint8_uint8.l0])
    | succ k1 =>
     have H := HA.out; clear HA; simp only [slices_Max_uint8_uint8.l0] at H
     by_cases c4 : x4_1 < (l0.length : Int)
     ·
      rw [if_pos c4] at H; have c4b0 : decide (x4_1 < (l0.length : Int)) = true := decide_eq_true c4; clear c4
      by_cases c5 : 0 ≤ x4_1
      ·
       rw [if_pos c5] at H; have c5b0 : decide (0 ≤ x4_1) = true := decide_eq_true c5; clear c5; obtain ⟨ji6, hji6⟩ : ∃ j_ : Int, (mx x3_1 (rd l0 x4_1)) = j_ := ⟨_, rfl⟩
       replace H : (slices_Max_uint8_uint8.l0 k1 l0 ji6 (wrap64 (x4_1 + 1))) = some r := by first | (rw [hji6] at H; exact H) | (simp only [hji6] at H ⊢; exact H)
       have hji6_ : (if x3_1 < (rd l0 x4_1) then (rd l0 x4_1) else x3_1) = ji6 := hji6; have H' := Aside0.mk H; clear H; have p115 : 0 ≤ (x4_1 : Int) := of_decide_eq_true (by first | (with_reducible assumption) | assumption); have q115 : x4_1 < (l0.length : Int) := of_decide_eq_true (by first | (with_reducible assumption) | assumption); obtain ⟨ad115, e115, hx115_0⟩ := Kd.at_int HR0.out x4_1 p115 q115; obtain rfl : ad114 = ad115 := (by injection e115); replace hx115_0 := (HB.out.cell (World.block_lt_of_cell? w _ hx115_0)).trans hx115_0; replace p115 := eq_true p115; replace q115 := eq_true q115
       go_wp2
       go_roundg k1
       case measure => have := HK1.out; omega
       case rel => exact ⟨(ji6), (wrap64 (x4_1 + 1)), (by first | rfl | (simp; done) | (simp only [← hji6] <;> (first | rfl | simp)) | (simp [*]; done)), (by first | rfl | (simp; done) | (simp [*]; done)), H', ⟨by have := HK1.out; omega⟩, ⟨pH_ HB.out⟩⟩
      ·
       rw [if_neg c5] at H; exact absurd H (by simp)
     ·
      rw [if_neg c4] at H; have c4b0 : decide (x4_1 < (l0.length : Int)) = false := decide_eq_false c4; clear c4; obtain rfl := Option.some.inj H
      go_wp2
      go_ret
      exact ⟨by first | rfl | (simp [errW_none, errW_some] <;> rfl) | (simp [*, errW_none, errW_some] <;> rfl), pH_ HB.out⟩
  ·
   rw [if_neg c3] at H; exact absurd H (by simp)

/-! ### counts_Run: function 74 -/
mutual
def counts_Run.j0 : Nat → List Int → Int → Int → Int → Option (Int × Int × Int × Int)
 | 0, _, _, _, _ => none
 | k + 1, x1, x117000, x117001, x117002 => counts_Run.l0 k x1 (x1.length : Int) 0 x117000 x117001 x117002
def counts_Run.l0 : Nat → List Int → Int → Int → Int → Int → Int → Option (Int × Int × Int × Int)
 | 0, _, _, _, _, _, _ => none
 | k + 1, x31, x32, x33, x117000, x117001, x117002 => if x33 < x32 then (if 0 ≤ x33 then (if x33 < (x31.length : Int) then ((counts_next.f x117000 x117001 x117002 (rd x31 x33)).bind fun bt121 => (counts_Run.l0 k x31 x32 (wrap64 (x33 + 1)) bt121.1 bt121.2.1 bt121.2.2)) else (none)) else (none)) else (some (x117000, x117001, x117002, 0))
end
def counts_Run.f (k : Nat) (a0_0 : Int) (a0_1 : Int) (a0_2 : Int) (l1 : List Int) : Option (Int × Int × Int × Int) := (counts_Check.f a0_0 a0_1 a0_2).bind fun t118 => (if t118 = 0 then (if (l1.length : Int) > 20000 then (some (0, 0, 0, 4)) else (if (l1.length : Int) > 0 then ((slices_Max_uint8_uint8.f k l1).bind fun t119 => (if t119 > 1 then (some (0, 0, 0, 2)) else (counts_Run.j0 k l1 a0_0 a0_1 a0_2))) else (counts_Run.j0 k l1 a0_0 a0_1 a0_2))) else (some (0, 0, 0, t118)))
theorem counts_Run.mono_l : ∀ k, (∀ y0 y1 y2 y3, LeO (counts_Run.j0 k y0 y1 y2 y3) (counts_Run.j0 (k + 1) y0 y1 y2 y3)) ∧ (∀ y0 y1 y2 y3 y4 y5, LeO (counts_Run.l0 k y0 y1 y2 y3 y4 y5) (counts_Run.l0 (k + 1) y0 y1 y2 y3 y4 y5))
 | 0 => ⟨fun _ _ _ _ r h => by simp [counts_Run.j0] at h, fun _ _ _ _ _ _ r h => by simp [counts_Run.l0] at h⟩
 | k + 1 => by
  obtain ⟨ih0, ih1⟩ := counts_Run.mono_l k; refine ⟨?_, ?_⟩
  ·
   intro y0 y1 y2 y3
   unfold counts_Run.j0
   repeat' first
   | (with_reducible exact ih0 _ _ _ _)
   | (with_reducible exact ih1 _ _ _ _ _ _)
   | (with_reducible exact slices_Max_uint8_uint8.mono _ _)
   | (with_reducible exact LeO.refl _)
   | (with_reducible exact LeO.none _)
   | (with_reducible refine LeO.ite ?_ ?_)
   | (with_reducible refine LeO.bind ?_ (fun _ => ?_))
   | exact ih0 _ _ _ _
   | exact ih1 _ _ _ _ _ _
   | exact slices_Max_uint8_uint8.mono _ _
   | exact LeO.none _
   | refine LeO.ite ?_ ?_
   | refine LeO.bind ?_ (fun _ => ?_)
  ·
   intro y0 y1 y2 y3 y4 y5
   unfold counts_Run.l0
   repeat' first
   | (with_reducible exact ih0 _ _ _ _)
   | (with_reducible exact ih1 _ _ _ _ _ _)
   | (with_reducible exact slices_Max_uint8_uint8.mono _ _)
   | (with_reducible exact LeO.refl _)
   | (with_reducible exact LeO.none _)
   | (with_reducible refine LeO.ite ?_ ?_)
   | (with_reducible refine LeO.bind ?_ (fun _ => ?_))
   | exact ih0 _ _ _ _
   | exact ih1 _ _ _ _ _ _
   | exact slices_Max_uint8_uint8.mono _ _
   | exact LeO.none _
   | refine LeO.ite ?_ ?_
   | refine LeO.bind ?_ (fun _ => ?_)
theorem counts_Run.mono : ∀ a0 a1 a2 a3 k, LeO (counts_Run.f k a0 a1 a2 a3) (counts_Run.f (k + 1) a0 a1 a2 a3) := by
 intro a0 a1 a2 a3 k; obtain ⟨ih0, ih1⟩ := counts_Run.mono_l k
 unfold counts_Run.f
 repeat' first
   | (with_reducible exact ih0 _ _ _ _)
   | (with_reducible exact ih1 _ _ _ _ _ _)
   | (with_reducible exact slices_Max_uint8_uint8.mono _ _)
   | (with_reducible exact LeO.refl _)
   | (with_reducible exact LeO.none _)
   | (with_reducible refine LeO.ite ?_ ?_)
   | (with_reducible refine LeO.bind ?_ (fun _ => ?_))
   | exact ih0 _ _ _ _
   | exact ih1 _ _ _ _ _ _
   | exact slices_Max_uint8_uint8.mono _ _
   | exact LeO.none _
   | refine LeO.ite ?_ ?_
   | refine LeO.bind ?_ (fun _ => ?_)
set_option maxHeartbeats 8000000 in
set_option maxRecDepth 100000 in
theorem counts_Run.calls (k : Nat) (a0_0 : Int) (a0_1 : Int) (a0_2 : Int) (A1 : Option Addr) (c1 : Nat) (l1 : List Int) (r1 : Int) (r2 : Int) (r3 : Int) (r4 : Int) (w : World) (hr1 : Kd.C (Kd.int .u8) w A1 l1.length l1) (hc1 : l1.length ≤ c1) (h : counts_Run.f k a0_0 a0_1 a0_2 l1 = some (r1, r2, r3, r4)) :
  Calls Tryd.prog 74 #[.agg #[.int .i32 a0_0, .int .i32 a0_1, .int .u8 a0_2], .slice A1 l1.length c1] w fun e w' => e = .returned (.tuple #[.agg #[.int .i32 r1, .int .i32 r2, .int .u8 r3], .int .i64 r4]) ∧ Below w.heap.size w w' := by
 have hu39 := Tryd.underlying39; have HR1 := Aside0.mk hr1; have HC1 := Aside0.mk hc1; clear hr1 hc1; have HB := Aside0.mk (Below.refl w.heap.size w); have H : ((counts_Check.f a0_0 a0_1 a0_2).bind fun t118 => (if t118 = 0 then (if (l1.length : Int) > 20000 then (some (0, 0, 0, 4)) else (if (l1.length : Int) > 0 then ((slices_Max_uint8_uint8.f k l1).bind fun t119 => (if t119 > 1 then (some (0, 0, 0, 2)) else (counts_Run.j0 k l1 a0_0 a0_1 a0_2))) else (counts_Run.j0 k l1 a0_0 a0_1 a0_2))) else (some (0, 0, 0, t118)))) = some (r1, r2, r3, r4) := h; clear h; replace H := Option.bind_eq_some_iff.mp H; obtain ⟨t118, A30, H⟩ := H; replace H : (if t118 = 0 then (if (l1.length : Int) > 20000 then (some (0, 0, 0, 4)) else (if (l1.length : Int) > 0 then ((slices_Max_uint8_uint8.f k l1).bind fun t119 => (if t119 > 1 then (some (0, 0, 0, 2)) else (counts_Run.j0 k l1 a0_0 a0_1 a0_2))) else (counts_Run.j0 k l1 a0_0 a0_1 a0_2))) else (some (0, 0, 0, t118))) = some (r1, r2, r3, r4) := H; have A3 := Aside0.mk A30; clear A30; have HC4 := Aside0.mk H; clear H
 go_enter Tryd.func74, Tryd.ntmps74
 go_upto_block 0 with (first | ((with_reducible refine gate_dst (N := 2) rfl ?_); refine box_event ?hg (N := 2) ?hd (cs := #[.int .i32 a0_0, .int .i32 a0_1, .int .u8 a0_2]) (t := 39) ?hr ?_; (case hd => rfl); (case hg => rfl); (case hr => first | (go_simp; done) | (go_simp; rfl)); intro gb116 hg w5 hbox hb; have n0_ := Aside0.mk (below_step (pH_ HB.out) hb); have n1_ := Aside0.mk (hbox); have n2_ := Aside0.mk ((by rw [hg]; exact (below_size (pH_ HB.out)) : w.heap.size ≤ gb116)); have n3_ := Aside0.mk ((by rw [hg]; exact (below_size (pH_ HB.out)) : w.heap.size ≤ gb116)); clear HB; have HB := n0_; have BK116 := n1_; have GW116 := n2_; have GE116 := n3_; clear n0_ n1_ n2_ n3_; clear hb hbox hg) | ((with_reducible refine gate_dst (N := 4) rfl ?_); refine box_event ?hg (N := 4) ?hd (cs := #[.int .i32 0, .int .i32 0, .int .u8 0]) (t := 39) ?hr ?_; (case hd => rfl); (case hg => rfl); (case hr => first | (go_simp; done) | (go_simp; rfl)); intro gb117 hg w6 hbox hb; have n0_ := Aside0.mk (blk_below (pG_ BK116.out) hb); have n1_ := Aside0.mk (below_step (pH_ HB.out) hb); have n2_ := Aside0.mk (hbox); have n3_ := Aside0.mk ((by rw [hg]; exact (below_size (pH_ HB.out)) : w.heap.size ≤ gb117)); have n4_ := Aside0.mk ((by rw [hg]; exact (below_size (pH_ HB.out)) : w.heap.size ≤ gb117)); have n5_ := Aside0.mk ((by rw [hg]; exact Nat.ne_of_lt (blk_lt (pG_ BK116.out)) : gb116 ≠ gb117)); have n6_ := Aside0.mk ((by rw [hg]; exact Nat.ne_of_gt (blk_lt (pG_ BK116.out)) : gb117 ≠ gb116)); clear BK116; clear HB; have BK116 := n0_; have HB := n1_; have BK117 := n2_; have GW117 := n3_; have GE117 := n4_; have NB116_117 := n5_; have NB117_116 := n6_; clear n0_ n1_ n2_ n3_ n4_ n5_ n6_; clear hb hbox hg; have hnb7 := NB116_117.out; have hnc7 := NB117_116.out; have hcz8_0 : w6.cell? ⟨gb116, 0, none⟩ = some (.int .i32 a0_0) := (blk_cell BK116.out 0).trans rfl; have hcz8_1 : w6.cell? ⟨gb116, 1, none⟩ = some (.int .i32 a0_1) := (blk_cell BK116.out 1).trans rfl; have hcz8_2 : w6.cell? ⟨gb116, 2, none⟩ = some (.int .u8 a0_2) := (blk_cell BK116.out 2).trans rfl; have hfz8_0 := blk_frozen BK116.out 0; have hfz8_1 := blk_frozen BK116.out 1; have hfz8_2 := blk_frozen BK116.out 2) | ((with_reducible refine gate_callee (f := 34) rfl ?_); refine gL_ (some 10) Tryd.func34 #[.agg #[.int .i32 a0_0, .int .i32 a0_1, .int .u8 a0_2]] ?_; (with_reducible refine (counts_Check.calls a0_0 a0_1 a0_2 t118 _ A3.out).mono ?_); rintro e w9 ⟨rfl, hb⟩; refine ⟨_, rfl, ?_⟩; have n0_ := Aside0.mk (blk_below (pG_ BK116.out) hb); have n1_ := Aside0.mk (blk_below (pG_ BK117.out) hb); have n2_ := Aside0.mk (below_step (pH_ HB.out) hb); clear BK116; clear BK117; clear HB; have BK116 := n0_; have BK117 := n1_; have HB := n2_; clear n0_ n1_ n2_; (try clear hb)))
 (try simp only [Act.put, sA_, sZ_, sS_]); (with_reducible first | refine then_id_ ?_ | (refine wp_tail_ ?_; intro Kt_ hKt_))
 go_cut [] (fun wc => ∃ (kq : Nat) (x118000_3 : Int) (x118001_3 : Int) (x118002_3 : Int), Aside0 (counts_Run.j0 kq l1 a0_0 a0_1 a0_2 = some (r1, r2, r3, r4)) ∧ Aside0 (kq ≤ k) ∧ Aside0 (wc.heap[gb116]? = some (.cells #[.int .i32 a0_0, .int .i32 a0_1, .int .u8 a0_2] 39 (0, 0))) ∧ Aside0 (wc.heap[gb117]? = some (.cells #[.int .i32 x118000_3, .int .i32 x118001_3, .int .u8 x118002_3] 39 (0, 0))) ∧ Aside0 (Below w.heap.size w wc))
 case first =>
  have H := HC4.out; clear HC4
  by_cases c10 : t118 = 0
  ·
   rw [if_pos c10] at H; have c10b0 : (t118 == 0) = true := beq_iff_eq.mpr c10; have c10b1 : (t118 != 0) = false := bne_eq_false_iff_eq.mpr c10; clear c10; (first | rw [c10b0] | (simp only [i64_w, i32_w]; rw [c10b0]) | skip)
   by_cases c11 : (l1.length : Int) > 20000
   ·
    rw [if_pos c11] at H; have c11b0 : decide (20000 < (l1.length : Int)) = true := decide_eq_true c11; have c11b1 : decide (20000 < l1.length) = true := decide_eq_true (by omega); clear c11; simp only [Option.some.injEq, Prod.mk.injEq] at H; obtain ⟨rfl, rfl, rfl, rfl⟩ := H; have hnb12 := NB117_116.out; have hnc12 := NB116_117.out; have hcz13_0 : w9.cell? ⟨gb117, 0, none⟩ = some (.int .i32 0) := (blk_cell BK117.out 0).trans rfl; have hcz13_1 : w9.cell? ⟨gb117, 1, none⟩ = some (.int .i32 0) := (blk_cell BK117.out 1).trans rfl; have hcz13_2 : w9.cell? ⟨gb117, 2, none⟩ = some (.int .u8 0) := (blk_cell BK117.out 2).trans rfl; have hfz13_0 := blk_frozen BK117.out 0; have hfz13_1 := blk_frozen BK117.out 1; have hfz13_2 := blk_frozen BK117.out 2
    go_wp2
    refine bodyPost_ret (results_ct rfl _ _ gb117 39 #[.int .i32 0, .int .i32 0, .int .u8 0] (0, 0) _ rfl (by (with_reducible repeat (first | refine blk_drewN ?_ _ | refine blk_drew ?_ | refine blk_alloc ?_ _)); refine blk_put (cs := #[.int .i32 0, .int .i32 0, .int .u8 0]) ?_ 2 _ rfl; (with_reducible repeat (first | refine blk_drewN ?_ _ | refine blk_drew ?_ | refine blk_alloc ?_ _)); refine blk_put (cs := #[.int .i32 0, .int .i32 0, .int .u8 0]) ?_ 1 _ rfl; (with_reducible repeat (first | refine blk_drewN ?_ _ | refine blk_drew ?_ | refine blk_alloc ?_ _)); refine blk_put (cs := #[.int .i32 0, .int .i32 0, .int .u8 0]) ?_ 0 _ rfl; (with_reducible repeat (first | refine blk_drewN ?_ _ | refine blk_drew ?_ | refine blk_alloc ?_ _)); exact BK117.out) Tryd.underlying39 rfl (by kernel_rfl)) rfl ?_; exact ⟨by first | rfl | (simp [errW_none, errW_some] <;> rfl) | (simp [*, errW_none, errW_some] <;> rfl), pH_ HB.out⟩
   ·
    rw [if_neg c11] at H; have c11b0 : decide (20000 < (l1.length : Int)) = false := decide_eq_false c11; have c11b1 : decide (20000 < l1.length) = false := decide_eq_false (by omega); clear c11
    by_cases c14 : (l1.length : Int) > 0
    ·
     rw [if_pos c14] at H; have c14b0 : decide (0 < (l1.length : Int)) = true := decide_eq_true c14; have c14b1 : decide (0 < l1.length) = true := decide_eq_true (by omega); clear c14; replace H := Option.bind_eq_some_iff.mp H; obtain ⟨t119, A150, H⟩ := H; replace H : (if t119 > 1 then (some (0, 0, 0, 2)) else (counts_Run.j0 k l1 a0_0 a0_1 a0_2)) = some (r1, r2, r3, r4) := H; have A15 := Aside0.mk A150; clear A150
     by_cases c16 : t119 > 1
     ·
      rw [if_pos c16] at H; have c16b0 : decide (1 < t119) = true := decide_eq_true c16; clear c16; simp only [Option.some.injEq, Prod.mk.injEq] at H; obtain ⟨rfl, rfl, rfl, rfl⟩ := H
      go_wp2_with (first | (go_at_call 101; (with_reducible refine (slices_Max_uint8_uint8.calls k _ _ l1 t119 _ ?side1 ?side2 A15.out).mono ?_); (case side1 => repeat (first | exact (Kd.C_below HR1.out HB.out) | (with_reducible refine Kd.C_alloc ?_ _) | (with_reducible refine Kd.C_drewN ?_ _) | (with_reducible refine Kd.C_drew ?_))); (case side2 => exact HC1.out); rintro e w17 ⟨rfl, hb⟩; have n0_ := Aside0.mk (blk_below (pG_ BK116.out) hb); have n1_ := Aside0.mk (blk_below (pG_ BK117.out) hb); have n2_ := Aside0.mk (below_step (pH_ HB.out) hb); clear BK116; clear BK117; clear HB; have BK116 := n0_; have BK117 := n1_; have HB := n2_; clear n0_ n1_ n2_; (try clear hb); have hnb18 := NB117_116.out; have hnc18 := NB116_117.out; have hcz19_0 : w17.cell? ⟨gb117, 0, none⟩ = some (.int .i32 0) := (blk_cell BK117.out 0).trans rfl; have hcz19_1 : w17.cell? ⟨gb117, 1, none⟩ = some (.int .i32 0) := (blk_cell BK117.out 1).trans rfl; have hcz19_2 : w17.cell? ⟨gb117, 2, none⟩ = some (.int .u8 0) := (blk_cell BK117.out 2).trans rfl; have hfz19_0 := blk_frozen BK117.out 0; have hfz19_1 := blk_frozen BK117.out 1; have hfz19_2 := blk_frozen BK117.out 2))
      refine bodyPost_ret (results_ct rfl _ _ gb117 39 #[.int .i32 0, .int .i32 0, .int .u8 0] (0, 0) _ rfl (by (with_reducible repeat (first | refine blk_drewN ?_ _ | refine blk_drew ?_ | refine blk_alloc ?_ _)); refine blk_put (cs := #[.int .i32 0, .int .i32 0, .int .u8 0]) ?_ 2 _ rfl; (with_reducible repeat (first | refine blk_drewN ?_ _ | refine blk_drew ?_ | refine blk_alloc ?_ _)); refine blk_put (cs := #[.int .i32 0, .int .i32 0, .int .u8 0]) ?_ 1 _ rfl; (with_reducible repeat (first | refine blk_drewN ?_ _ | refine blk_drew ?_ | refine blk_alloc ?_ _)); refine blk_put (cs := #[.int .i32 0, .int .i32 0, .int .u8 0]) ?_ 0 _ rfl; (with_reducible repeat (first | refine blk_drewN ?_ _ | refine blk_drew ?_ | refine blk_alloc ?_ _)); exact BK117.out) Tryd.underlying39 rfl (by kernel_rfl)) rfl ?_; exact ⟨by first | rfl | (simp [errW_none, errW_some] <;> rfl) | (simp [*, errW_none, errW_some] <;> rfl), pH_ HB.out⟩
     ·
      rw [if_neg c16] at H; have c16b0 : decide (1 < t119) = false := decide_eq_false c16; clear c16; have H' := Aside0.mk H; clear H
      go_wp2_with (first | (go_at_call 101; (with_reducible refine (slices_Max_uint8_uint8.calls k _ _ l1 t119 _ ?side1 ?side2 A15.out).mono ?_); (case side1 => repeat (first | exact (Kd.C_below HR1.out HB.out) | (with_reducible refine Kd.C_alloc ?_ _) | (with_reducible refine Kd.C_drewN ?_ _) | (with_reducible refine Kd.C_drew ?_))); (case side2 => exact HC1.out); rintro e w20 ⟨rfl, hb⟩; have n0_ := Aside0.mk (blk_below (pG_ BK116.out) hb); have n1_ := Aside0.mk (blk_below (pG_ BK117.out) hb); have n2_ := Aside0.mk (below_step (pH_ HB.out) hb); clear BK116; clear BK117; clear HB; have BK116 := n0_; have BK117 := n1_; have HB := n2_; clear n0_ n1_ n2_; (try clear hb)))
      (first | go_meet | (refine Met.intro ?_; go_step; (repeat apply Exists.intro); refine ⟨?rel, ?eqf_⟩; case eqf_ => ((simp only [c16b0, c14b0, c11b0, c10b0]) <;> rfl)))
      case rel => exact ⟨_, (0), (0), (0), H', ⟨by first | omega | exact Nat.le_refl _⟩, ⟨pG_ BK116.out⟩, ⟨pG_ BK117.out⟩, ⟨pH_ HB.out⟩⟩
    ·
     rw [if_neg c14] at H; have c14b0 : decide (0 < (l1.length : Int)) = false := decide_eq_false c14; have c14b1 : decide (0 < l1.length) = false := decide_eq_false (by omega); clear c14; have H' := Aside0.mk H; clear H
     go_wp2
     (first | go_meet | (refine Met.intro ?_; go_step; (repeat apply Exists.intro); refine ⟨?rel, ?eqf_⟩; case eqf_ => ((simp only [c14b0, c11b0, c10b0]) <;> rfl)))
     case rel => exact ⟨_, (0), (0), (0), H', ⟨by first | omega | exact Nat.le_refl _⟩, ⟨pG_ BK116.out⟩, ⟨pG_ BK117.out⟩, ⟨pH_ HB.out⟩⟩
  ·
   rw [if_neg c10] at H; have c10b0 : (t118 == 0) = false := beq_eq_false_iff_ne.mpr c10; have c10b1 : (t118 != 0) = true := bne_iff_ne.mpr c10; (first | rw [c10b0] | (simp only [i64_w, i32_w]; rw [c10b0]) | skip); simp only [Option.some.injEq, Prod.mk.injEq] at H; obtain ⟨rfl, rfl, rfl, rfl⟩ := H; have hnb21 := NB117_116.out; have hnc21 := NB116_117.out; have hcz22_0 : w9.cell? ⟨gb117, 0, none⟩ = some (.int .i32 0) := (blk_cell BK117.out 0).trans rfl; have hcz22_1 : w9.cell? ⟨gb117, 1, none⟩ = some (.int .i32 0) := (blk_cell BK117.out 1).trans rfl; have hcz22_2 : w9.cell? ⟨gb117, 2, none⟩ = some (.int .u8 0) := (blk_cell BK117.out 2).trans rfl; have hfz22_0 := blk_frozen BK117.out 0; have hfz22_1 := blk_frozen BK117.out 1; have hfz22_2 := blk_frozen BK117.out 2
   go_wp2
   refine bodyPost_ret (results_ct rfl _ _ gb117 39 #[.int .i32 0, .int .i32 0, .int .u8 0] (0, 0) _ rfl (by (with_reducible repeat (first | refine blk_drewN ?_ _ | refine blk_drew ?_ | refine blk_alloc ?_ _)); refine blk_put (cs := #[.int .i32 0, .int .i32 0, .int .u8 0]) ?_ 2 _ rfl; (with_reducible repeat (first | refine blk_drewN ?_ _ | refine blk_drew ?_ | refine blk_alloc ?_ _)); refine blk_put (cs := #[.int .i32 0, .int .i32 0, .int .u8 0]) ?_ 1 _ rfl; (with_reducible repeat (first | refine blk_drewN ?_ _ | refine blk_drew ?_ | refine blk_alloc ?_ _)); refine blk_put (cs := #[.int .i32 0, .int .i32 0, .int .u8 0]) ?_ 0 _ rfl; (with_reducible repeat (first | refine blk_drewN ?_ _ | refine blk_drew ?_ | refine blk_alloc ?_ _)); exact BK117.out) Tryd.underlying39 rfl (by kernel_rfl)) rfl ?_; exact ⟨by first | rfl | (simp [errW_none, errW_some] <;> rfl) | (simp [*, errW_none, errW_some] <;> rfl), pH_ HB.out⟩
 case rest =>
  (try (refine hKt_ _ _ ?_; clear hKt_; clear Kt_)); clear HC4
  try clear c1
  try clear c2
  try clear p2
  try clear c3
  try clear c7
  try clear c10
  try clear c10b0
  try clear c10b1
  try clear c11
  try clear c11b0
  try clear c11b1
  try clear c12
  try clear c14
  try clear c14b0
  try clear c14b1
  try clear c16
  try clear c16b0
  try clear c18
  try clear c21
  try clear hcz13_0
  try clear hcz13_1
  try clear hcz13_2
  try clear hcz19_0
  try clear hcz19_1
  try clear hcz19_2
  try clear hcz22_0
  try clear hcz22_1
  try clear hcz22_2
  try clear hcz8_0
  try clear hcz8_1
  try clear hcz8_2
  try clear hfz13_0
  try clear hfz13_1
  try clear hfz13_2
  try clear hfz19_0
  try clear hfz19_1
  try clear hfz19_2
  try clear hfz22_0
  try clear hfz22_1
  try clear hfz22_2
  try clear hfz8_0
  try clear hfz8_1
  try clear hfz8_2
  obtain ⟨kq, x118000_3, x118001_3, x118002_3, HA, HJ3, BK116, BK117, HB⟩ := hcut
  cases kq with
  | zero => exact absurd HA.out (by simp [counts_Run.j0])
  | succ kj3 =>
   have H := HA.out; clear HA; simp only [counts_Run.j0] at H; have H' := Aside0.mk H; clear H
   go_wp2
   go_loopg [33] kj3 (fun kq v33 w' => ∃ (x33_2 : Int) (x117000_2 : Int) (x117001_2 : Int) (x117002_2 : Int), v33 = .int .i64 x33_2 ∧ Aside0 (counts_Run.l0 kq l1 (l1.length : Int) x33_2 x117000_2 x117001_2 x117002_2 = some (r1, r2, r3, r4)) ∧ Aside0 (kq ≤ kj3) ∧ Aside0 (w'.heap[gb116]? = some (.cells #[.int .i32 x117000_2, .int .i32 x117001_2, .int .u8 x117002_2] 39 (0, 0))) ∧ Aside0 (w'.heap[gb117]? = some (.cells #[.int .i32 x118000_3, .int .i32 x118001_3, .int .u8 x118002_3] 39 (0, 0))) ∧ Aside0 (Below w.heap.size w w'))
   case atStart => exact ⟨(0), (a0_0), (a0_1), (a0_2), (by first | rfl | (simp; done) | (simp [*]; done)), H', ⟨Nat.le_refl _⟩, ⟨pG_ BK116.out⟩, ⟨pG_ BK117.out⟩, ⟨pH_ HB.out⟩⟩
   case round =>
    clear H'
    try clear c1
    try clear c2
    try clear p2
    try clear c3
    try clear c7
    try clear c10
    try clear c10b0
    try clear c10b1
    try clear c11
    try clear c11b0
    try clear c11b1
    try clear c12
    try clear c14
    try clear c14b0
    try clear c14b1
    try clear c16
    try clear c16b0
    try clear c18
    try clear c21
    try clear hcz13_0
    try clear hcz13_1
    try clear hcz13_2
    try clear hcz19_0
    try clear hcz19_1
    try clear hcz19_2
    try clear hcz22_0
    try clear hcz22_1
    try clear hcz22_2
    try clear hcz8_0
    try clear hcz8_1
    try clear hcz8_2
    try clear hfz13_0
    try clear hfz13_1
    try clear hfz13_2
    try clear hfz19_0
    try clear hfz19_1
    try clear hfz19_2
    try clear hfz22_0
    try clear hfz22_1
    try clear hfz22_2
    try clear hfz8_0
    try clear hfz8_1
    try clear hfz8_2
    try clear p2
    obtain ⟨x33_2, x117000_2, x117001_2, x117002_2, rfl, HA, HK2, BK116, BK117, HB⟩ := hrel
    cases gk with
    | zero => exact absurd HA.out (by simp [counts_Run.l0])
    | succ k2 =>
     have H := HA.out; clear HA; simp only [counts_Run.l0] at H
     by_cases c23 : x33_2 < (l1.length : Int)
     ·
      rw [if_pos c23] at H; have c23b0 : decide (x33_2 < (l1.length : Int)) = true := decide_eq_true c23; clear c23
      by_cases c24 : 0 ≤ x33_2
      ·
       rw [if_pos c24] at H; have c24b0 : decide (0 ≤ x33_2) = true := decide_eq_true c24; clear c24
       by_cases c25 : x33_2 < (l1.length : Int)
       ·
        rw [if_pos c25] at H; have c25b0 : decide (x33_2 < (l1.length : Int)) = true := decide_eq_true c25; clear c25; replace H := Option.bind_eq_some_iff.mp H; obtain ⟨⟨t121, t122, t123⟩, A260, H⟩ := H; replace H : (counts_Run.l0 k2 l1 (l1.length : Int) (wrap64 (x33_2 + 1)) t121 t122 t123) = some (r1, r2, r3, r4) := H; have A26 := Aside0.mk A260; clear A260; have H' := Aside0.mk H; clear H; have p120 : 0 ≤ (x33_2 : Int) := of_decide_eq_true (by first | (with_reducible assumption) | assumption); have q120 : x33_2 < (l1.length : Int) := of_decide_eq_true (by first | (with_reducible assumption) | assumption); obtain ⟨ad120, e120, hx120_0⟩ := Kd.at_int HR1.out x33_2 p120 q120
        cases e120
        replace hx120_0 := (HB.out.cell (World.block_lt_of_cell? w _ hx120_0)).trans hx120_0; replace p120 := eq_true p120; replace q120 := eq_true q120; have hnb27 := NB116_117.out; have hnc27 := NB117_116.out; have hcz28_0 : wr.cell? ⟨gb116, 0, none⟩ = some (.int .i32 x117000_2) := (blk_cell BK116.out 0).trans rfl; have hcz28_1 : wr.cell? ⟨gb116, 1, none⟩ = some (.int .i32 x117001_2) := (blk_cell BK116.out 1).trans rfl; have hcz28_2 : wr.cell? ⟨gb116, 2, none⟩ = some (.int .u8 x117002_2) := (blk_cell BK116.out 2).trans rfl; have hfz28_0 := blk_frozen BK116.out 0; have hfz28_1 := blk_frozen BK116.out 1; have hfz28_2 := blk_frozen BK116.out 2
        go_wp2_with (first | ((with_reducible refine gate_callee (f := 35) rfl ?_); refine gL_ (some 39) Tryd.func35 #[.agg #[.int .i32 x117000_2, .int .i32 x117001_2, .int .u8 x117002_2], .int .u8 (rd l1 x33_2)] ?_; (with_reducible refine (counts_next.calls x117000_2 x117001_2 x117002_2 (rd l1 x33_2) t121 t122 t123 _ A26.out).mono ?_); rintro e w29 ⟨rfl, hb⟩; refine ⟨_, rfl, ?_⟩; have n0_ := Aside0.mk (blk_below (pG_ BK116.out) hb); have n1_ := Aside0.mk (blk_below (pG_ BK117.out) hb); have n2_ := Aside0.mk (below_step (pH_ HB.out) hb); clear BK116; clear BK117; clear HB; have BK116 := n0_; have BK117 := n1_; have HB := n2_; clear n0_ n1_ n2_; (try clear hb); have hcz30_0 : w29.cell? ⟨gb116, 0, none⟩ = some (.int .i32 x117000_2) := (blk_cell BK116.out 0).trans rfl; have hcz30_1 : w29.cell? ⟨gb116, 1, none⟩ = some (.int .i32 x117001_2) := (blk_cell BK116.out 1).trans rfl; have hcz30_2 : w29.cell? ⟨gb116, 2, none⟩ = some (.int .u8 x117002_2) := (blk_cell BK116.out 2).trans rfl; have hfz30_0 := blk_frozen BK116.out 0; have hfz30_1 := blk_frozen BK116.out 1; have hfz30_2 := blk_frozen BK116.out 2))
        go_roundg k2
        case measure => have := HJ3.out; have := HK2.out; omega
        case rel => exact ⟨(wrap64 (x33_2 + 1)), (t121), (t122), (t123), (by first | rfl | (simp; done) | (simp [*]; done)), H', ⟨by have := HJ3.out; have := HK2.out; omega⟩, ⟨by (with_reducible repeat (first | refine blk_drewN ?_ _ | refine blk_drew ?_ | refine blk_alloc ?_ _)); refine blk_put (cs := #[.int .i32 t121, .int .i32 t122, .int .u8 x117002_2]) ?_ 2 _ rfl; (with_reducible repeat (first | refine blk_drewN ?_ _ | refine blk_drew ?_ | refine blk_alloc ?_ _)); refine blk_put (cs := #[.int .i32 t121, .int .i32 x117001_2, .int .u8 x117002_2]) ?_ 1 _ rfl; (with_reducible repeat (first | refine blk_drewN ?_ _ | refine blk_drew ?_ | refine blk_alloc ?_ _)); refine blk_put (cs := #[.int .i32 x117000_2, .int .i32 x117001_2, .int .u8 x117002_2]) ?_ 0 _ rfl; (with_reducible repeat (first | refine blk_drewN ?_ _ | refine blk_drew ?_ | refine blk_alloc ?_ _)); exact BK116.out⟩, ⟨by (with_reducible repeat (first | refine blk_drewN ?_ _ | refine blk_drew ?_ | refine blk_alloc ?_ _)); refine blk_far ?_ NB117_116.out _; (with_reducible repeat (first | refine blk_drewN ?_ _ | refine blk_drew ?_ | refine blk_alloc ?_ _)); refine blk_far ?_ NB117_116.out _; (with_reducible repeat (first | refine blk_drewN ?_ _ | refine blk_drew ?_ | refine blk_alloc ?_ _)); refine blk_far ?_ NB117_116.out _; (with_reducible repeat (first | refine blk_drewN ?_ _ | refine blk_drew ?_ | refine blk_alloc ?_ _)); exact BK117.out⟩, ⟨pH_ HB.out⟩⟩
       ·
        rw [if_neg c25] at H; exact absurd H (by simp)
      ·
       rw [if_neg c24] at H; exact absurd H (by simp)
     ·
      rw [if_neg c23] at H; have c23b0 : decide (x33_2 < (l1.length : Int)) = false := decide_eq_false c23; clear c23; simp only [Option.some.injEq, Prod.mk.injEq] at H; obtain ⟨rfl, rfl, rfl, rfl⟩ := H; have hnb31 := NB116_117.out; have hnc31 := NB117_116.out; have hcz32_0 : wr.cell? ⟨gb116, 0, none⟩ = some (.int .i32 x117000_2) := (blk_cell BK116.out 0).trans rfl; have hcz32_1 : wr.cell? ⟨gb116, 1, none⟩ = some (.int .i32 x117001_2) := (blk_cell BK116.out 1).trans rfl; have hcz32_2 : wr.cell? ⟨gb116, 2, none⟩ = some (.int .u8 x117002_2) := (blk_cell BK116.out 2).trans rfl; have hfz32_0 := blk_frozen BK116.out 0; have hfz32_1 := blk_frozen BK116.out 1; have hfz32_2 := blk_frozen BK116.out 2; have hcz33_0 : wr.cell? ⟨gb117, 0, none⟩ = some (.int .i32 x118000_3) := (blk_cell BK117.out 0).trans rfl; have hcz33_1 : wr.cell? ⟨gb117, 1, none⟩ = some (.int .i32 x118001_3) := (blk_cell BK117.out 1).trans rfl; have hcz33_2 : wr.cell? ⟨gb117, 2, none⟩ = some (.int .u8 x118002_3) := (blk_cell BK117.out 2).trans rfl; have hfz33_0 := blk_frozen BK117.out 0; have hfz33_1 := blk_frozen BK117.out 1; have hfz33_2 := blk_frozen BK117.out 2
      go_wp2
      refine bodyPost_ret (results_ct rfl _ _ gb117 39 #[.int .i32 x117000_2, .int .i32 x117001_2, .int .u8 x117002_2] (0, 0) _ rfl (by (with_reducible repeat (first | refine blk_drewN ?_ _ | refine blk_drew ?_ | refine blk_alloc ?_ _)); refine blk_put (cs := #[.int .i32 x117000_2, .int .i32 x117001_2, .int .u8 x118002_3]) ?_ 2 _ rfl; (with_reducible repeat (first | refine blk_drewN ?_ _ | refine blk_drew ?_ | refine blk_alloc ?_ _)); refine blk_put (cs := #[.int .i32 x117000_2, .int .i32 x118001_3, .int .u8 x118002_3]) ?_ 1 _ rfl; (with_reducible repeat (first | refine blk_drewN ?_ _ | refine blk_drew ?_ | refine blk_alloc ?_ _)); refine blk_put (cs := #[.int .i32 x118000_3, .int .i32 x118001_3, .int .u8 x118002_3]) ?_ 0 _ rfl; (with_reducible repeat (first | refine blk_drewN ?_ _ | refine blk_drew ?_ | refine blk_alloc ?_ _)); exact BK117.out) Tryd.underlying39 rfl (by kernel_rfl)) rfl ?_; exact ⟨by first | rfl | (simp [errW_none, errW_some] <;> rfl) | (simp [*, errW_none, errW_some] <;> rfl), pH_ HB.out⟩

end Go.Proofs.YthhfigkbjacmeaaDoor.XTopKernel
