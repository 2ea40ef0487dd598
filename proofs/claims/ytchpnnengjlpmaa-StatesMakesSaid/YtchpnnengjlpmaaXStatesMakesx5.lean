-- Laid by a program of this session (wip/mkxprint.py, over the kit's print): Lean checks it.
import Derived.Test.YtchpnnengjlpmaaXStatesMakesx0
import Derived.Test.YtchpnnengjlpmaaXStatesMakesx1
import Derived.Test.YtchpnnengjlpmaaXStatesMakesx2
import Derived.Test.YtchpnnengjlpmaaXStatesMakesx3
import Derived.Test.YtchpnnengjlpmaaXStatesMakesx4
namespace Go.Proofs.Ytchpnnengjlpmaa.XStatesMakes
open List (setIfInBounds_toArray set_cons_zero set_cons_succ)
open Go.RowKit Go.Proofs.YtchpnnengjlpmaaW.PrintWords Go.Proofs.YtchpnnengjlpmaaW.PrintLast Go.Proofs.YtchpnnengjlpmaaW.PrintMore
attribute [local go_sem] max2_int min2_int max_two min_two max_three min_three max_four min_four   -- for this text's walks alone
set_option linter.unusedVariables false
set_option linter.unusedSimpArgs false

attribute [local go_sem high] eqA30
/-! ### bitloftref08_Total: function 24 -/
def bitloftref08_Total.f (a0 : Int) : Option (Int × Int) := (bitloftref08_State.f a0).bind fun t166 => (if t166 = true then ((bitloftref08_Seen.f a0).bind fun t167 => (some (t167, 0))) else (some (0, 2)))
set_option maxHeartbeats 8000000 in
set_option maxRecDepth 100000 in
theorem bitloftref08_Total.calls (a0 : Int) (r1 : Int) (r2 : Int) (w : World) (h : bitloftref08_Total.f a0 = some (r1, r2)) :
    Calls Try.prog 24 #[.int .u8 a0] w fun e w' => e = .returned (.tuple #[.int .i32 r1, .int .i64 r2]) ∧ Below w.heap.size w w' := by
  have HB := Aside0.mk (Below.refl w.heap.size w)
  have H : ((bitloftref08_State.f a0).bind fun t166 => (if t166 = true then ((bitloftref08_Seen.f a0).bind fun t167 => (some (t167, 0))) else (some (0, 2)))) = some (r1, r2) := h
  clear h
  replace H := Option.bind_eq_some_iff.mp H
  obtain ⟨t166, A20, H⟩ := H
  replace H : (if t166 = true then ((bitloftref08_Seen.f a0).bind fun t167 => (some (t167, 0))) else (some (0, 2))) = some (r1, r2) := H
  have A2 := Aside0.mk A20
  clear A20
  by_cases c3 : t166 = true
  · subst c3
    have H1 : ((bitloftref08_Seen.f a0).bind fun t167 => (some (t167, 0))) = some (r1, r2) := by rw [if_pos rfl] at H; exact H
    clear H
    have H := H1
    clear H1
    replace H := Option.bind_eq_some_iff.mp H
    obtain ⟨t167, A40, H⟩ := H
    replace H : (some (t167, 0)) = some (r1, r2) := H
    have A4 := Aside0.mk A40
    clear A40
    simp only [Option.some.injEq, Prod.mk.injEq] at H
    obtain ⟨rfl, rfl⟩ := H
    go_enter Try.func24, Try.ntmps24
    go_wp2_with (first | ((with_reducible refine gate_callee (f := 16) rfl ?_); refine gL_ (some 5) Try.func16 #[.int .u8 a0] ?_; (with_reducible refine (bitloftref08_State.calls a0 true _ A2.out).mono ?_); rintro e w' ⟨rfl, ⟨nd, rfl⟩⟩; refine ⟨_, rfl, ?_⟩) | ((with_reducible refine gate_callee (f := 37) rfl ?_); refine gL_ (some 8) Try.func37 #[.int .u8 a0] ?_; (with_reducible refine (bitloftref08_Seen.calls a0 t167 _ A4.out).mono ?_); rintro e w5 ⟨rfl, hb⟩; refine ⟨_, rfl, ?_⟩; have n0_ := Aside0.mk (below_step (by repeat (first | (with_reducible first | exact HB.out | apply below_alloc | apply bN_ | apply below_drew1) | exact HB.out)) hb); clear HB; have HB := n0_; clear n0_; (try clear hb)))
    go_ret2
    exact ⟨by first | rfl | (simp [errW_none, errW_some] <;> rfl) | (simp [*, errW_none, errW_some] <;> rfl), by repeat (first | (with_reducible first | exact HB.out | apply below_alloc | apply bN_ | apply below_drew1) | exact HB.out)⟩
  · replace c3 := Bool.eq_false_iff.mpr c3
    subst c3
    have H1 : (some (0, 2)) = some (r1, r2) := by rw [if_neg (show ¬ (false = true) by decide)] at H; exact H
    clear H
    have H := H1
    clear H1
    simp only [Option.some.injEq, Prod.mk.injEq] at H
    obtain ⟨rfl, rfl⟩ := H
    go_enter Try.func24, Try.ntmps24
    go_wp2_with (first | ((with_reducible refine gate_callee (f := 16) rfl ?_); refine gL_ (some 5) Try.func16 #[.int .u8 a0] ?_; (with_reducible refine (bitloftref08_State.calls a0 false _ A2.out).mono ?_); rintro e w' ⟨rfl, ⟨nd, rfl⟩⟩; refine ⟨_, rfl, ?_⟩))
    go_ret2
    exact ⟨by first | rfl | (simp [errW_none, errW_some] <;> rfl) | (simp [*, errW_none, errW_some] <;> rfl), by repeat (first | (with_reducible first | exact HB.out | apply below_alloc | apply bN_ | apply below_drew1) | exact HB.out)⟩

/-! ### bitloftlaw08_StatesMakes: function 7 -/
def bitloftlaw08_StatesMakes.j0 : Nat → Bool → Option (Bool)
  | 0, _ => none
  | k + 1, x6 => some x6
def bitloftlaw08_StatesMakes.f (k : Nat) (a0 : Int) (a1 : Int) (a2_0 : Int) (a2_1 : Int) (a2_2 : Int) : Option (Bool) := (states_Next.f k a0 a1).bind fun bt169 => ((bitloftref08_Next.f k a0 a1).bind fun bt171 => ((states_Count.f a0).bind fun bt173 => ((bitloftref08_Count.f a0).bind fun bt178 => ((states_Number.f a2_0 a2_1 a2_2).bind fun bt183 => ((bitloftref08_Number.f k a2_0 a2_1 a2_2).bind fun bt185 => ((states_Total.f a0).bind fun bt187 => ((bitloftref08_Total.f a0).bind fun bt189 => ((states_Size.f).bind fun t191 => (if t191 = 193 then (if bt169.1 = bt171.1 then (if bt169.2 = bt171.2 then (if (bt173.1 == bt178.1 && (bt173.2.1 == bt178.2.1 && (bt173.2.2.1 == bt178.2.2.1))) = true then (if bt173.2.2.2 = bt178.2.2.2 then (if bt183.1 = bt185.1 then (if bt183.2 = bt185.2 then (if bt187.1 = bt189.1 then (bitloftlaw08_StatesMakes.j0 k (bt187.2 == bt189.2)) else (bitloftlaw08_StatesMakes.j0 k false)) else (bitloftlaw08_StatesMakes.j0 k false)) else (bitloftlaw08_StatesMakes.j0 k false)) else (bitloftlaw08_StatesMakes.j0 k false)) else (bitloftlaw08_StatesMakes.j0 k false)) else (bitloftlaw08_StatesMakes.j0 k false)) else (bitloftlaw08_StatesMakes.j0 k false)) else (bitloftlaw08_StatesMakes.j0 k false))))))))))
theorem bitloftlaw08_StatesMakes.mono_l : ∀ k, (∀ y0, LeO (bitloftlaw08_StatesMakes.j0 k y0) (bitloftlaw08_StatesMakes.j0 (k + 1) y0))
  | 0 => fun _ r h => by simp [bitloftlaw08_StatesMakes.j0] at h
  | k + 1 => by
    have ih0 := bitloftlaw08_StatesMakes.mono_l k
    · intro y0
      unfold bitloftlaw08_StatesMakes.j0
      repeat' first
      | (with_reducible exact ih0 _)
      | (with_reducible exact bitloftref08_Next.mono _ _ _)
      | (with_reducible exact bitloftref08_Number.mono _ _ _ _)
      | (with_reducible exact states_Next.mono _ _ _)
      | (with_reducible exact LeO.refl _)
      | (with_reducible exact LeO.none _)
      | (with_reducible refine LeO.ite ?_ ?_)
      | (with_reducible refine LeO.bind ?_ (fun _ => ?_))
      | exact ih0 _
      | exact bitloftref08_Next.mono _ _ _
      | exact bitloftref08_Number.mono _ _ _ _
      | exact states_Next.mono _ _ _
      | exact LeO.none _
      | refine LeO.ite ?_ ?_
      | refine LeO.bind ?_ (fun _ => ?_)
theorem bitloftlaw08_StatesMakes.mono : ∀ a0 a1 a2 a3 a4 k, LeO (bitloftlaw08_StatesMakes.f k a0 a1 a2 a3 a4) (bitloftlaw08_StatesMakes.f (k + 1) a0 a1 a2 a3 a4) := by
  intro a0 a1 a2 a3 a4 k
  have ih0 := bitloftlaw08_StatesMakes.mono_l k
  unfold bitloftlaw08_StatesMakes.f
  repeat' first
      | (with_reducible exact ih0 _)
      | (with_reducible exact bitloftref08_Next.mono _ _ _)
      | (with_reducible exact bitloftref08_Number.mono _ _ _ _)
      | (with_reducible exact states_Next.mono _ _ _)
      | (with_reducible exact LeO.refl _)
      | (with_reducible exact LeO.none _)
      | (with_reducible refine LeO.ite ?_ ?_)
      | (with_reducible refine LeO.bind ?_ (fun _ => ?_))
      | exact ih0 _
      | exact bitloftref08_Next.mono _ _ _
      | exact bitloftref08_Number.mono _ _ _ _
      | exact states_Next.mono _ _ _
      | exact LeO.none _
      | refine LeO.ite ?_ ?_
      | refine LeO.bind ?_ (fun _ => ?_)
set_option maxHeartbeats 8000000 in
set_option maxRecDepth 100000 in
theorem bitloftlaw08_StatesMakes.calls (k : Nat) (a0 : Int) (a1 : Int) (a2_0 : Int) (a2_1 : Int) (a2_2 : Int) (r : Bool) (w : World) (h : bitloftlaw08_StatesMakes.f k a0 a1 a2_0 a2_1 a2_2 = some r) :
    Calls Try.prog 7 #[.int .u8 a0, .int .u8 a1, .agg #[.int .i32 a2_0, .int .i32 a2_1, .int .u8 a2_2]] w fun e w' => e = .returned (.bool r) ∧ Below w.heap.size w w' := by
  have hu30 := Try.underlying30
  have HB := Aside0.mk (Below.refl w.heap.size w)
  have H : ((states_Next.f k a0 a1).bind fun bt169 => ((bitloftref08_Next.f k a0 a1).bind fun bt171 => ((states_Count.f a0).bind fun bt173 => ((bitloftref08_Count.f a0).bind fun bt178 => ((states_Number.f a2_0 a2_1 a2_2).bind fun bt183 => ((bitloftref08_Number.f k a2_0 a2_1 a2_2).bind fun bt185 => ((states_Total.f a0).bind fun bt187 => ((bitloftref08_Total.f a0).bind fun bt189 => ((states_Size.f).bind fun t191 => (if t191 = 193 then (if bt169.1 = bt171.1 then (if bt169.2 = bt171.2 then (if (bt173.1 == bt178.1 && (bt173.2.1 == bt178.2.1 && (bt173.2.2.1 == bt178.2.2.1))) = true then (if bt173.2.2.2 = bt178.2.2.2 then (if bt183.1 = bt185.1 then (if bt183.2 = bt185.2 then (if bt187.1 = bt189.1 then (bitloftlaw08_StatesMakes.j0 k (bt187.2 == bt189.2)) else (bitloftlaw08_StatesMakes.j0 k false)) else (bitloftlaw08_StatesMakes.j0 k false)) else (bitloftlaw08_StatesMakes.j0 k false)) else (bitloftlaw08_StatesMakes.j0 k false)) else (bitloftlaw08_StatesMakes.j0 k false)) else (bitloftlaw08_StatesMakes.j0 k false)) else (bitloftlaw08_StatesMakes.j0 k false)) else (bitloftlaw08_StatesMakes.j0 k false))))))))))) = some r := h
  clear h
  replace H := Option.bind_eq_some_iff.mp H
  obtain ⟨⟨t169, t170⟩, A40, H⟩ := H
  replace H : ((bitloftref08_Next.f k a0 a1).bind fun bt171 => ((states_Count.f a0).bind fun bt173 => ((bitloftref08_Count.f a0).bind fun bt178 => ((states_Number.f a2_0 a2_1 a2_2).bind fun bt183 => ((bitloftref08_Number.f k a2_0 a2_1 a2_2).bind fun bt185 => ((states_Total.f a0).bind fun bt187 => ((bitloftref08_Total.f a0).bind fun bt189 => ((states_Size.f).bind fun t191 => (if t191 = 193 then (if t169 = bt171.1 then (if t170 = bt171.2 then (if (bt173.1 == bt178.1 && (bt173.2.1 == bt178.2.1 && (bt173.2.2.1 == bt178.2.2.1))) = true then (if bt173.2.2.2 = bt178.2.2.2 then (if bt183.1 = bt185.1 then (if bt183.2 = bt185.2 then (if bt187.1 = bt189.1 then (bitloftlaw08_StatesMakes.j0 k (bt187.2 == bt189.2)) else (bitloftlaw08_StatesMakes.j0 k false)) else (bitloftlaw08_StatesMakes.j0 k false)) else (bitloftlaw08_StatesMakes.j0 k false)) else (bitloftlaw08_StatesMakes.j0 k false)) else (bitloftlaw08_StatesMakes.j0 k false)) else (bitloftlaw08_StatesMakes.j0 k false)) else (bitloftlaw08_StatesMakes.j0 k false)) else (bitloftlaw08_StatesMakes.j0 k false)))))))))) = some r := H
  have A4 := Aside0.mk A40
  clear A40
  replace H := Option.bind_eq_some_iff.mp H
  obtain ⟨⟨t171, t172⟩, A50, H⟩ := H
  replace H : ((states_Count.f a0).bind fun bt173 => ((bitloftref08_Count.f a0).bind fun bt178 => ((states_Number.f a2_0 a2_1 a2_2).bind fun bt183 => ((bitloftref08_Number.f k a2_0 a2_1 a2_2).bind fun bt185 => ((states_Total.f a0).bind fun bt187 => ((bitloftref08_Total.f a0).bind fun bt189 => ((states_Size.f).bind fun t191 => (if t191 = 193 then (if t169 = t171 then (if t170 = t172 then (if (bt173.1 == bt178.1 && (bt173.2.1 == bt178.2.1 && (bt173.2.2.1 == bt178.2.2.1))) = true then (if bt173.2.2.2 = bt178.2.2.2 then (if bt183.1 = bt185.1 then (if bt183.2 = bt185.2 then (if bt187.1 = bt189.1 then (bitloftlaw08_StatesMakes.j0 k (bt187.2 == bt189.2)) else (bitloftlaw08_StatesMakes.j0 k false)) else (bitloftlaw08_StatesMakes.j0 k false)) else (bitloftlaw08_StatesMakes.j0 k false)) else (bitloftlaw08_StatesMakes.j0 k false)) else (bitloftlaw08_StatesMakes.j0 k false)) else (bitloftlaw08_StatesMakes.j0 k false)) else (bitloftlaw08_StatesMakes.j0 k false)) else (bitloftlaw08_StatesMakes.j0 k false))))))))) = some r := H
  have A5 := Aside0.mk A50
  clear A50
  replace H := Option.bind_eq_some_iff.mp H
  obtain ⟨⟨t173, t174, t175, t176⟩, A60, H⟩ := H
  replace H : ((bitloftref08_Count.f a0).bind fun bt178 => ((states_Number.f a2_0 a2_1 a2_2).bind fun bt183 => ((bitloftref08_Number.f k a2_0 a2_1 a2_2).bind fun bt185 => ((states_Total.f a0).bind fun bt187 => ((bitloftref08_Total.f a0).bind fun bt189 => ((states_Size.f).bind fun t191 => (if t191 = 193 then (if t169 = t171 then (if t170 = t172 then (if (t173 == bt178.1 && (t174 == bt178.2.1 && (t175 == bt178.2.2.1))) = true then (if t176 = bt178.2.2.2 then (if bt183.1 = bt185.1 then (if bt183.2 = bt185.2 then (if bt187.1 = bt189.1 then (bitloftlaw08_StatesMakes.j0 k (bt187.2 == bt189.2)) else (bitloftlaw08_StatesMakes.j0 k false)) else (bitloftlaw08_StatesMakes.j0 k false)) else (bitloftlaw08_StatesMakes.j0 k false)) else (bitloftlaw08_StatesMakes.j0 k false)) else (bitloftlaw08_StatesMakes.j0 k false)) else (bitloftlaw08_StatesMakes.j0 k false)) else (bitloftlaw08_StatesMakes.j0 k false)) else (bitloftlaw08_StatesMakes.j0 k false)))))))) = some r := H
  have A6 := Aside0.mk A60
  clear A60
  replace H := Option.bind_eq_some_iff.mp H
  obtain ⟨⟨t178, t179, t180, t181⟩, A70, H⟩ := H
  replace H : ((states_Number.f a2_0 a2_1 a2_2).bind fun bt183 => ((bitloftref08_Number.f k a2_0 a2_1 a2_2).bind fun bt185 => ((states_Total.f a0).bind fun bt187 => ((bitloftref08_Total.f a0).bind fun bt189 => ((states_Size.f).bind fun t191 => (if t191 = 193 then (if t169 = t171 then (if t170 = t172 then (if (t173 == t178 && (t174 == t179 && (t175 == t180))) = true then (if t176 = t181 then (if bt183.1 = bt185.1 then (if bt183.2 = bt185.2 then (if bt187.1 = bt189.1 then (bitloftlaw08_StatesMakes.j0 k (bt187.2 == bt189.2)) else (bitloftlaw08_StatesMakes.j0 k false)) else (bitloftlaw08_StatesMakes.j0 k false)) else (bitloftlaw08_StatesMakes.j0 k false)) else (bitloftlaw08_StatesMakes.j0 k false)) else (bitloftlaw08_StatesMakes.j0 k false)) else (bitloftlaw08_StatesMakes.j0 k false)) else (bitloftlaw08_StatesMakes.j0 k false)) else (bitloftlaw08_StatesMakes.j0 k false))))))) = some r := H
  have A7 := Aside0.mk A70
  clear A70
  replace H := Option.bind_eq_some_iff.mp H
  obtain ⟨⟨t183, t184⟩, A80, H⟩ := H
  replace H : ((bitloftref08_Number.f k a2_0 a2_1 a2_2).bind fun bt185 => ((states_Total.f a0).bind fun bt187 => ((bitloftref08_Total.f a0).bind fun bt189 => ((states_Size.f).bind fun t191 => (if t191 = 193 then (if t169 = t171 then (if t170 = t172 then (if (t173 == t178 && (t174 == t179 && (t175 == t180))) = true then (if t176 = t181 then (if t183 = bt185.1 then (if t184 = bt185.2 then (if bt187.1 = bt189.1 then (bitloftlaw08_StatesMakes.j0 k (bt187.2 == bt189.2)) else (bitloftlaw08_StatesMakes.j0 k false)) else (bitloftlaw08_StatesMakes.j0 k false)) else (bitloftlaw08_StatesMakes.j0 k false)) else (bitloftlaw08_StatesMakes.j0 k false)) else (bitloftlaw08_StatesMakes.j0 k false)) else (bitloftlaw08_StatesMakes.j0 k false)) else (bitloftlaw08_StatesMakes.j0 k false)) else (bitloftlaw08_StatesMakes.j0 k false)))))) = some r := H
  have A8 := Aside0.mk A80
  clear A80
  replace H := Option.bind_eq_some_iff.mp H
  obtain ⟨⟨t185, t186⟩, A90, H⟩ := H
  replace H : ((states_Total.f a0).bind fun bt187 => ((bitloftref08_Total.f a0).bind fun bt189 => ((states_Size.f).bind fun t191 => (if t191 = 193 then (if t169 = t171 then (if t170 = t172 then (if (t173 == t178 && (t174 == t179 && (t175 == t180))) = true then (if t176 = t181 then (if t183 = t185 then (if t184 = t186 then (if bt187.1 = bt189.1 then (bitloftlaw08_StatesMakes.j0 k (bt187.2 == bt189.2)) else (bitloftlaw08_StatesMakes.j0 k false)) else (bitloftlaw08_StatesMakes.j0 k false)) else (bitloftlaw08_StatesMakes.j0 k false)) else (bitloftlaw08_StatesMakes.j0 k false)) else (bitloftlaw08_StatesMakes.j0 k false)) else (bitloftlaw08_StatesMakes.j0 k false)) else (bitloftlaw08_StatesMakes.j0 k false)) else (bitloftlaw08_StatesMakes.j0 k false))))) = some r := H
  have A9 := Aside0.mk A90
  clear A90
  replace H := Option.bind_eq_some_iff.mp H
  obtain ⟨⟨t187, t188⟩, A100, H⟩ := H
  replace H : ((bitloftref08_Total.f a0).bind fun bt189 => ((states_Size.f).bind fun t191 => (if t191 = 193 then (if t169 = t171 then (if t170 = t172 then (if (t173 == t178 && (t174 == t179 && (t175 == t180))) = true then (if t176 = t181 then (if t183 = t185 then (if t184 = t186 then (if t187 = bt189.1 then (bitloftlaw08_StatesMakes.j0 k (t188 == bt189.2)) else (bitloftlaw08_StatesMakes.j0 k false)) else (bitloftlaw08_StatesMakes.j0 k false)) else (bitloftlaw08_StatesMakes.j0 k false)) else (bitloftlaw08_StatesMakes.j0 k false)) else (bitloftlaw08_StatesMakes.j0 k false)) else (bitloftlaw08_StatesMakes.j0 k false)) else (bitloftlaw08_StatesMakes.j0 k false)) else (bitloftlaw08_StatesMakes.j0 k false)))) = some r := H
  have A10 := Aside0.mk A100
  clear A100
  replace H := Option.bind_eq_some_iff.mp H
  obtain ⟨⟨t189, t190⟩, A110, H⟩ := H
  replace H : ((states_Size.f).bind fun t191 => (if t191 = 193 then (if t169 = t171 then (if t170 = t172 then (if (t173 == t178 && (t174 == t179 && (t175 == t180))) = true then (if t176 = t181 then (if t183 = t185 then (if t184 = t186 then (if t187 = t189 then (bitloftlaw08_StatesMakes.j0 k (t188 == t190)) else (bitloftlaw08_StatesMakes.j0 k false)) else (bitloftlaw08_StatesMakes.j0 k false)) else (bitloftlaw08_StatesMakes.j0 k false)) else (bitloftlaw08_StatesMakes.j0 k false)) else (bitloftlaw08_StatesMakes.j0 k false)) else (bitloftlaw08_StatesMakes.j0 k false)) else (bitloftlaw08_StatesMakes.j0 k false)) else (bitloftlaw08_StatesMakes.j0 k false))) = some r := H
  have A11 := Aside0.mk A110
  clear A110
  have HC12 := Aside0.mk H
  clear H
  go_enter Try.func7, Try.ntmps7
  go_upto_region 9 with (first | ((with_reducible refine gate_dst (N := 5) rfl ?_); refine box_event ?hg (N := 5) ?hd (cs := #[.int .i32 a2_0, .int .i32 a2_1, .int .u8 a2_2]) (t := 30) ?hr ?_; (case hd => rfl); (case hg => rfl); (case hr => first | (go_simp; done) | (go_simp; rfl)); intro gb168 hg w13 hbox hb; have n0_ := Aside0.mk (below_step (by repeat (first | (with_reducible first | exact HB.out | apply below_alloc | apply bN_ | apply below_drew1) | exact HB.out)) hb); have n1_ := Aside0.mk (hbox); have n2_ := Aside0.mk ((by rw [hg]; exact (below_size (by repeat (first | (with_reducible first | exact HB.out | apply below_alloc | apply bN_ | apply below_drew1) | exact HB.out))) : w.heap.size ≤ gb168)); have n3_ := Aside0.mk ((by rw [hg]; exact (below_size (by repeat (first | (with_reducible first | exact HB.out | apply below_alloc | apply bN_ | apply below_drew1) | exact HB.out))) : w.heap.size ≤ gb168)); clear HB; have HB := n0_; have BK168 := n1_; have GW168 := n2_; have GE168 := n3_; clear n0_ n1_ n2_ n3_; clear hb hbox hg) | ((with_reducible refine gate_callee (f := 19) rfl ?_); refine gL_ (some 26) Try.func19 #[.int .u8 a0, .int .u8 a1] ?_; (with_reducible refine (states_Next.calls k a0 a1 t169 t170 _ A4.out).mono ?_); rintro e w14 ⟨rfl, hb⟩; refine ⟨_, rfl, ?_⟩; have n0_ := Aside0.mk (blk_below (g := gb168) (o := .cells #[.int .i32 a2_0, .int .i32 a2_1, .int .u8 a2_2] 30 (0, 0)) (by (with_reducible repeat (first | refine blk_drewN ?_ _ | refine blk_drew ?_ | refine blk_alloc ?_ _)); exact BK168.out) hb); have n1_ := Aside0.mk (below_step (by repeat (first | (with_reducible first | exact HB.out | apply below_alloc | apply bN_ | apply below_drew1 | refine below_set ?_ GE168.out) | exact HB.out)) hb); clear BK168; clear HB; have BK168 := n0_; have HB := n1_; clear n0_ n1_; (try clear hb)) | ((with_reducible refine gate_callee (f := 21) rfl ?_); refine gL_ (some 32) Try.func21 #[.int .u8 a0, .int .u8 a1] ?_; (with_reducible refine (bitloftref08_Next.calls k a0 a1 t171 t172 _ A5.out).mono ?_); rintro e w15 ⟨rfl, hb⟩; refine ⟨_, rfl, ?_⟩; have n0_ := Aside0.mk (blk_below (g := gb168) (o := .cells #[.int .i32 a2_0, .int .i32 a2_1, .int .u8 a2_2] 30 (0, 0)) (by (with_reducible repeat (first | refine blk_drewN ?_ _ | refine blk_drew ?_ | refine blk_alloc ?_ _)); exact BK168.out) hb); have n1_ := Aside0.mk (below_step (by repeat (first | (with_reducible first | exact HB.out | apply below_alloc | apply bN_ | apply below_drew1 | refine below_set ?_ GE168.out) | exact HB.out)) hb); clear BK168; clear HB; have BK168 := n0_; have HB := n1_; clear n0_ n1_; (try clear hb)) | ((with_reducible refine gate_callee (f := 14) rfl ?_); refine gL_ (some 37) Try.func14 #[.int .u8 a0] ?_; (with_reducible refine (states_Count.calls a0 t173 t174 t175 t176 _ A6.out).mono ?_); rintro e w16 ⟨rfl, hb⟩; refine ⟨_, rfl, ?_⟩; have n0_ := Aside0.mk (blk_below (g := gb168) (o := .cells #[.int .i32 a2_0, .int .i32 a2_1, .int .u8 a2_2] 30 (0, 0)) (by (with_reducible repeat (first | refine blk_drewN ?_ _ | refine blk_drew ?_ | refine blk_alloc ?_ _)); exact BK168.out) hb); have n1_ := Aside0.mk (below_step (by repeat (first | (with_reducible first | exact HB.out | apply below_alloc | apply bN_ | apply below_drew1 | refine below_set ?_ GE168.out) | exact HB.out)) hb); clear BK168; clear HB; have BK168 := n0_; have HB := n1_; clear n0_ n1_; (try clear hb)) | ((with_reducible refine gate_dst (N := 11) rfl ?_); refine box_event ?hg (N := 11) ?hd (cs := #[.int .i32 0, .int .i32 0, .int .u8 0]) (t := 30) ?hr ?_; (case hd => rfl); (case hg => rfl); (case hr => first | (go_simp; done) | (go_simp; rfl)); intro gb177 hg w17 hbox hb; have n0_ := Aside0.mk (blk_below (g := gb168) (o := .cells #[.int .i32 a2_0, .int .i32 a2_1, .int .u8 a2_2] 30 (0, 0)) (by (with_reducible repeat (first | refine blk_drewN ?_ _ | refine blk_drew ?_ | refine blk_alloc ?_ _)); exact BK168.out) hb); have n1_ := Aside0.mk (below_step (by repeat (first | (with_reducible first | exact HB.out | apply below_alloc | apply bN_ | apply below_drew1 | refine below_set ?_ GE168.out) | exact HB.out)) hb); have n2_ := Aside0.mk (hbox); have n3_ := Aside0.mk ((by rw [hg]; exact (below_size (by repeat (first | (with_reducible first | exact HB.out | apply below_alloc | apply bN_ | apply below_drew1 | refine below_set ?_ GE168.out) | exact HB.out))) : w.heap.size ≤ gb177)); have n4_ := Aside0.mk ((by rw [hg]; exact (below_size (by repeat (first | (with_reducible first | exact HB.out | apply below_alloc | apply bN_ | apply below_drew1 | refine below_set ?_ GE168.out) | exact HB.out))) : w.heap.size ≤ gb177)); have n5_ := Aside0.mk ((by rw [hg]; exact Nat.ne_of_lt (blk_lt (g := gb168) (o := .cells #[.int .i32 a2_0, .int .i32 a2_1, .int .u8 a2_2] 30 (0, 0)) (by (with_reducible repeat (first | refine blk_drewN ?_ _ | refine blk_drew ?_ | refine blk_alloc ?_ _)); exact BK168.out)) : gb168 ≠ gb177)); have n6_ := Aside0.mk ((by rw [hg]; exact Nat.ne_of_gt (blk_lt (g := gb168) (o := .cells #[.int .i32 a2_0, .int .i32 a2_1, .int .u8 a2_2] 30 (0, 0)) (by (with_reducible repeat (first | refine blk_drewN ?_ _ | refine blk_drew ?_ | refine blk_alloc ?_ _)); exact BK168.out)) : gb177 ≠ gb168)); clear BK168; clear HB; have BK168 := n0_; have HB := n1_; have BK177 := n2_; have GW177 := n3_; have GE177 := n4_; have NB168_177 := n5_; have NB177_168 := n6_; clear n0_ n1_ n2_ n3_ n4_ n5_ n6_; clear hb hbox hg; have hnb18 := NB177_168.out; have hnc18 := NB168_177.out; have hcz19_0 : w17.cell? ⟨gb177, 0, none⟩ = some (.int .i32 0) := (blk_cell BK177.out 0).trans rfl; have hcz19_1 : w17.cell? ⟨gb177, 1, none⟩ = some (.int .i32 0) := (blk_cell BK177.out 1).trans rfl; have hcz19_2 : w17.cell? ⟨gb177, 2, none⟩ = some (.int .u8 0) := (blk_cell BK177.out 2).trans rfl; have hfz19_0 := blk_frozen BK177.out 0; have hfz19_1 := blk_frozen BK177.out 1; have hfz19_2 := blk_frozen BK177.out 2) | ((with_reducible refine gate_callee (f := 22) rfl ?_); refine gL_ (some 42) Try.func22 #[.int .u8 a0] ?_; (with_reducible refine (bitloftref08_Count.calls a0 t178 t179 t180 t181 _ A7.out).mono ?_); rintro e w20 ⟨rfl, hb⟩; refine ⟨_, rfl, ?_⟩; have n0_ := Aside0.mk (blk_below (g := gb168) (o := .cells #[.int .i32 a2_0, .int .i32 a2_1, .int .u8 a2_2] 30 (0, 0)) (by (with_reducible repeat (first | refine blk_drewN ?_ _ | refine blk_drew ?_ | refine blk_alloc ?_ _)); refine blk_far ?_ NB168_177.out _; (with_reducible repeat (first | refine blk_drewN ?_ _ | refine blk_drew ?_ | refine blk_alloc ?_ _)); refine blk_far ?_ NB168_177.out _; (with_reducible repeat (first | refine blk_drewN ?_ _ | refine blk_drew ?_ | refine blk_alloc ?_ _)); refine blk_far ?_ NB168_177.out _; (with_reducible repeat (first | refine blk_drewN ?_ _ | refine blk_drew ?_ | refine blk_alloc ?_ _)); exact BK168.out) hb); have n1_ := Aside0.mk (blk_below (g := gb177) (o := .cells #[.int .i32 t173, .int .i32 t174, .int .u8 t175] 30 (0, 0)) (by (with_reducible repeat (first | refine blk_drewN ?_ _ | refine blk_drew ?_ | refine blk_alloc ?_ _)); refine blk_put (cs := #[.int .i32 t173, .int .i32 t174, .int .u8 0]) ?_ 2 _ rfl; (with_reducible repeat (first | refine blk_drewN ?_ _ | refine blk_drew ?_ | refine blk_alloc ?_ _)); refine blk_put (cs := #[.int .i32 t173, .int .i32 0, .int .u8 0]) ?_ 1 _ rfl; (with_reducible repeat (first | refine blk_drewN ?_ _ | refine blk_drew ?_ | refine blk_alloc ?_ _)); refine blk_put (cs := #[.int .i32 0, .int .i32 0, .int .u8 0]) ?_ 0 _ rfl; (with_reducible repeat (first | refine blk_drewN ?_ _ | refine blk_drew ?_ | refine blk_alloc ?_ _)); exact BK177.out) hb); have n2_ := Aside0.mk (below_step (by repeat (first | (with_reducible first | exact HB.out | apply below_alloc | apply bN_ | apply below_drew1 | refine below_set ?_ GE168.out | refine below_set ?_ GE177.out) | exact HB.out)) hb); clear BK168; clear BK177; clear HB; have BK168 := n0_; have BK177 := n1_; have HB := n2_; clear n0_ n1_ n2_; (try clear hb)) | ((with_reducible refine gate_dst (N := 13) rfl ?_); refine box_event ?hg (N := 13) ?hd (cs := #[.int .i32 0, .int .i32 0, .int .u8 0]) (t := 30) ?hr ?_; (case hd => rfl); (case hg => rfl); (case hr => first | (go_simp; done) | (go_simp; rfl)); intro gb182 hg w21 hbox hb; have n0_ := Aside0.mk (blk_below (g := gb168) (o := .cells #[.int .i32 a2_0, .int .i32 a2_1, .int .u8 a2_2] 30 (0, 0)) (by (with_reducible repeat (first | refine blk_drewN ?_ _ | refine blk_drew ?_ | refine blk_alloc ?_ _)); exact BK168.out) hb); have n1_ := Aside0.mk (blk_below (g := gb177) (o := .cells #[.int .i32 t173, .int .i32 t174, .int .u8 t175] 30 (0, 0)) (by (with_reducible repeat (first | refine blk_drewN ?_ _ | refine blk_drew ?_ | refine blk_alloc ?_ _)); exact BK177.out) hb); have n2_ := Aside0.mk (below_step (by repeat (first | (with_reducible first | exact HB.out | apply below_alloc | apply bN_ | apply below_drew1 | refine below_set ?_ GE168.out | refine below_set ?_ GE177.out) | exact HB.out)) hb); have n3_ := Aside0.mk (hbox); have n4_ := Aside0.mk ((by rw [hg]; exact (below_size (by repeat (first | (with_reducible first | exact HB.out | apply below_alloc | apply bN_ | apply below_drew1 | refine below_set ?_ GE168.out | refine below_set ?_ GE177.out) | exact HB.out))) : w.heap.size ≤ gb182)); have n5_ := Aside0.mk ((by rw [hg]; exact (below_size (by repeat (first | (with_reducible first | exact HB.out | apply below_alloc | apply bN_ | apply below_drew1 | refine below_set ?_ GE168.out | refine below_set ?_ GE177.out) | exact HB.out))) : w.heap.size ≤ gb182)); have n6_ := Aside0.mk ((by rw [hg]; exact Nat.ne_of_lt (blk_lt (g := gb168) (o := .cells #[.int .i32 a2_0, .int .i32 a2_1, .int .u8 a2_2] 30 (0, 0)) (by (with_reducible repeat (first | refine blk_drewN ?_ _ | refine blk_drew ?_ | refine blk_alloc ?_ _)); exact BK168.out)) : gb168 ≠ gb182)); have n7_ := Aside0.mk ((by rw [hg]; exact Nat.ne_of_gt (blk_lt (g := gb168) (o := .cells #[.int .i32 a2_0, .int .i32 a2_1, .int .u8 a2_2] 30 (0, 0)) (by (with_reducible repeat (first | refine blk_drewN ?_ _ | refine blk_drew ?_ | refine blk_alloc ?_ _)); exact BK168.out)) : gb182 ≠ gb168)); have n8_ := Aside0.mk ((by rw [hg]; exact Nat.ne_of_lt (blk_lt (g := gb177) (o := .cells #[.int .i32 t173, .int .i32 t174, .int .u8 t175] 30 (0, 0)) (by (with_reducible repeat (first | refine blk_drewN ?_ _ | refine blk_drew ?_ | refine blk_alloc ?_ _)); exact BK177.out)) : gb177 ≠ gb182)); have n9_ := Aside0.mk ((by rw [hg]; exact Nat.ne_of_gt (blk_lt (g := gb177) (o := .cells #[.int .i32 t173, .int .i32 t174, .int .u8 t175] 30 (0, 0)) (by (with_reducible repeat (first | refine blk_drewN ?_ _ | refine blk_drew ?_ | refine blk_alloc ?_ _)); exact BK177.out)) : gb182 ≠ gb177)); clear BK168; clear BK177; clear HB; have BK168 := n0_; have BK177 := n1_; have HB := n2_; have BK182 := n3_; have GW182 := n4_; have GE182 := n5_; have NB168_182 := n6_; have NB182_168 := n7_; have NB177_182 := n8_; have NB182_177 := n9_; clear n0_ n1_ n2_ n3_ n4_ n5_ n6_ n7_ n8_ n9_; clear hb hbox hg; have hnb22 := NB182_168.out; have hnc22 := NB168_182.out; have hnb23 := NB182_177.out; have hnc23 := NB177_182.out; have hcz24_0 : w21.cell? ⟨gb182, 0, none⟩ = some (.int .i32 0) := (blk_cell BK182.out 0).trans rfl; have hcz24_1 : w21.cell? ⟨gb182, 1, none⟩ = some (.int .i32 0) := (blk_cell BK182.out 1).trans rfl; have hcz24_2 : w21.cell? ⟨gb182, 2, none⟩ = some (.int .u8 0) := (blk_cell BK182.out 2).trans rfl; have hfz24_0 := blk_frozen BK182.out 0; have hfz24_1 := blk_frozen BK182.out 1; have hfz24_2 := blk_frozen BK182.out 2; have hcz25_0 : w21.cell? ⟨gb168, 0, none⟩ = some (.int .i32 a2_0) := (blk_cell BK168.out 0).trans rfl; have hcz25_1 : w21.cell? ⟨gb168, 1, none⟩ = some (.int .i32 a2_1) := (blk_cell BK168.out 1).trans rfl; have hcz25_2 : w21.cell? ⟨gb168, 2, none⟩ = some (.int .u8 a2_2) := (blk_cell BK168.out 2).trans rfl; have hfz25_0 := blk_frozen BK168.out 0; have hfz25_1 := blk_frozen BK168.out 1; have hfz25_2 := blk_frozen BK168.out 2) | ((with_reducible refine gate_callee (f := 11) rfl ?_); refine gL_ (some 47) Try.func11 #[.agg #[.int .i32 a2_0, .int .i32 a2_1, .int .u8 a2_2]] ?_; (with_reducible refine (states_Number.calls a2_0 a2_1 a2_2 t183 t184 _ A8.out).mono ?_); rintro e w26 ⟨rfl, hb⟩; refine ⟨_, rfl, ?_⟩; have n0_ := Aside0.mk (blk_below (g := gb168) (o := .cells #[.int .i32 a2_0, .int .i32 a2_1, .int .u8 a2_2] 30 (0, 0)) (by (with_reducible repeat (first | refine blk_drewN ?_ _ | refine blk_drew ?_ | refine blk_alloc ?_ _)); refine blk_far ?_ NB168_182.out _; (with_reducible repeat (first | refine blk_drewN ?_ _ | refine blk_drew ?_ | refine blk_alloc ?_ _)); refine blk_far ?_ NB168_182.out _; (with_reducible repeat (first | refine blk_drewN ?_ _ | refine blk_drew ?_ | refine blk_alloc ?_ _)); refine blk_far ?_ NB168_182.out _; (with_reducible repeat (first | refine blk_drewN ?_ _ | refine blk_drew ?_ | refine blk_alloc ?_ _)); exact BK168.out) hb); have n1_ := Aside0.mk (blk_below (g := gb177) (o := .cells #[.int .i32 t173, .int .i32 t174, .int .u8 t175] 30 (0, 0)) (by (with_reducible repeat (first | refine blk_drewN ?_ _ | refine blk_drew ?_ | refine blk_alloc ?_ _)); refine blk_far ?_ NB177_182.out _; (with_reducible repeat (first | refine blk_drewN ?_ _ | refine blk_drew ?_ | refine blk_alloc ?_ _)); refine blk_far ?_ NB177_182.out _; (with_reducible repeat (first | refine blk_drewN ?_ _ | refine blk_drew ?_ | refine blk_alloc ?_ _)); refine blk_far ?_ NB177_182.out _; (with_reducible repeat (first | refine blk_drewN ?_ _ | refine blk_drew ?_ | refine blk_alloc ?_ _)); exact BK177.out) hb); have n2_ := Aside0.mk (blk_below (g := gb182) (o := .cells #[.int .i32 t178, .int .i32 t179, .int .u8 t180] 30 (0, 0)) (by (with_reducible repeat (first | refine blk_drewN ?_ _ | refine blk_drew ?_ | refine blk_alloc ?_ _)); refine blk_put (cs := #[.int .i32 t178, .int .i32 t179, .int .u8 0]) ?_ 2 _ rfl; (with_reducible repeat (first | refine blk_drewN ?_ _ | refine blk_drew ?_ | refine blk_alloc ?_ _)); refine blk_put (cs := #[.int .i32 t178, .int .i32 0, .int .u8 0]) ?_ 1 _ rfl; (with_reducible repeat (first | refine blk_drewN ?_ _ | refine blk_drew ?_ | refine blk_alloc ?_ _)); refine blk_put (cs := #[.int .i32 0, .int .i32 0, .int .u8 0]) ?_ 0 _ rfl; (with_reducible repeat (first | refine blk_drewN ?_ _ | refine blk_drew ?_ | refine blk_alloc ?_ _)); exact BK182.out) hb); have n3_ := Aside0.mk (below_step (by repeat (first | (with_reducible first | exact HB.out | apply below_alloc | apply bN_ | apply below_drew1 | refine below_set ?_ GE168.out | refine below_set ?_ GE177.out | refine below_set ?_ GE182.out) | exact HB.out)) hb); clear BK168; clear BK177; clear BK182; clear HB; have BK168 := n0_; have BK177 := n1_; have BK182 := n2_; have HB := n3_; clear n0_ n1_ n2_ n3_; (try clear hb); have hcz27_0 : w26.cell? ⟨gb168, 0, none⟩ = some (.int .i32 a2_0) := (blk_cell BK168.out 0).trans rfl; have hcz27_1 : w26.cell? ⟨gb168, 1, none⟩ = some (.int .i32 a2_1) := (blk_cell BK168.out 1).trans rfl; have hcz27_2 : w26.cell? ⟨gb168, 2, none⟩ = some (.int .u8 a2_2) := (blk_cell BK168.out 2).trans rfl; have hfz27_0 := blk_frozen BK168.out 0; have hfz27_1 := blk_frozen BK168.out 1; have hfz27_2 := blk_frozen BK168.out 2) | ((with_reducible refine gate_callee (f := 23) rfl ?_); refine gL_ (some 52) Try.func23 #[.agg #[.int .i32 a2_0, .int .i32 a2_1, .int .u8 a2_2]] ?_; (with_reducible refine (bitloftref08_Number.calls k a2_0 a2_1 a2_2 t185 t186 _ A9.out).mono ?_); rintro e w28 ⟨rfl, hb⟩; refine ⟨_, rfl, ?_⟩; have n0_ := Aside0.mk (blk_below (g := gb168) (o := .cells #[.int .i32 a2_0, .int .i32 a2_1, .int .u8 a2_2] 30 (0, 0)) (by (with_reducible repeat (first | refine blk_drewN ?_ _ | refine blk_drew ?_ | refine blk_alloc ?_ _)); exact BK168.out) hb); have n1_ := Aside0.mk (blk_below (g := gb177) (o := .cells #[.int .i32 t173, .int .i32 t174, .int .u8 t175] 30 (0, 0)) (by (with_reducible repeat (first | refine blk_drewN ?_ _ | refine blk_drew ?_ | refine blk_alloc ?_ _)); exact BK177.out) hb); have n2_ := Aside0.mk (blk_below (g := gb182) (o := .cells #[.int .i32 t178, .int .i32 t179, .int .u8 t180] 30 (0, 0)) (by (with_reducible repeat (first | refine blk_drewN ?_ _ | refine blk_drew ?_ | refine blk_alloc ?_ _)); exact BK182.out) hb); have n3_ := Aside0.mk (below_step (by repeat (first | (with_reducible first | exact HB.out | apply below_alloc | apply bN_ | apply below_drew1 | refine below_set ?_ GE168.out | refine below_set ?_ GE177.out | refine below_set ?_ GE182.out) | exact HB.out)) hb); clear BK168; clear BK177; clear BK182; clear HB; have BK168 := n0_; have BK177 := n1_; have BK182 := n2_; have HB := n3_; clear n0_ n1_ n2_ n3_; (try clear hb)) | ((with_reducible refine gate_callee (f := 20) rfl ?_); refine gL_ (some 57) Try.func20 #[.int .u8 a0] ?_; (with_reducible refine (states_Total.calls a0 t187 t188 _ A10.out).mono ?_); rintro e w29 ⟨rfl, hb⟩; refine ⟨_, rfl, ?_⟩; have n0_ := Aside0.mk (blk_below (g := gb168) (o := .cells #[.int .i32 a2_0, .int .i32 a2_1, .int .u8 a2_2] 30 (0, 0)) (by (with_reducible repeat (first | refine blk_drewN ?_ _ | refine blk_drew ?_ | refine blk_alloc ?_ _)); exact BK168.out) hb); have n1_ := Aside0.mk (blk_below (g := gb177) (o := .cells #[.int .i32 t173, .int .i32 t174, .int .u8 t175] 30 (0, 0)) (by (with_reducible repeat (first | refine blk_drewN ?_ _ | refine blk_drew ?_ | refine blk_alloc ?_ _)); exact BK177.out) hb); have n2_ := Aside0.mk (blk_below (g := gb182) (o := .cells #[.int .i32 t178, .int .i32 t179, .int .u8 t180] 30 (0, 0)) (by (with_reducible repeat (first | refine blk_drewN ?_ _ | refine blk_drew ?_ | refine blk_alloc ?_ _)); exact BK182.out) hb); have n3_ := Aside0.mk (below_step (by repeat (first | (with_reducible first | exact HB.out | apply below_alloc | apply bN_ | apply below_drew1 | refine below_set ?_ GE168.out | refine below_set ?_ GE177.out | refine below_set ?_ GE182.out) | exact HB.out)) hb); clear BK168; clear BK177; clear BK182; clear HB; have BK168 := n0_; have BK177 := n1_; have BK182 := n2_; have HB := n3_; clear n0_ n1_ n2_ n3_; (try clear hb)) | ((with_reducible refine gate_callee (f := 24) rfl ?_); refine gL_ (some 62) Try.func24 #[.int .u8 a0] ?_; (with_reducible refine (bitloftref08_Total.calls a0 t189 t190 _ A11.out).mono ?_); rintro e w30 ⟨rfl, hb⟩; refine ⟨_, rfl, ?_⟩; have n0_ := Aside0.mk (blk_below (g := gb168) (o := .cells #[.int .i32 a2_0, .int .i32 a2_1, .int .u8 a2_2] 30 (0, 0)) (by (with_reducible repeat (first | refine blk_drewN ?_ _ | refine blk_drew ?_ | refine blk_alloc ?_ _)); exact BK168.out) hb); have n1_ := Aside0.mk (blk_below (g := gb177) (o := .cells #[.int .i32 t173, .int .i32 t174, .int .u8 t175] 30 (0, 0)) (by (with_reducible repeat (first | refine blk_drewN ?_ _ | refine blk_drew ?_ | refine blk_alloc ?_ _)); exact BK177.out) hb); have n2_ := Aside0.mk (blk_below (g := gb182) (o := .cells #[.int .i32 t178, .int .i32 t179, .int .u8 t180] 30 (0, 0)) (by (with_reducible repeat (first | refine blk_drewN ?_ _ | refine blk_drew ?_ | refine blk_alloc ?_ _)); exact BK182.out) hb); have n3_ := Aside0.mk (below_step (by repeat (first | (with_reducible first | exact HB.out | apply below_alloc | apply bN_ | apply below_drew1 | refine below_set ?_ GE168.out | refine below_set ?_ GE177.out | refine below_set ?_ GE182.out) | exact HB.out)) hb); clear BK168; clear BK177; clear BK182; clear HB; have BK168 := n0_; have BK177 := n1_; have BK182 := n2_; have HB := n3_; clear n0_ n1_ n2_ n3_; (try clear hb)))
  (try simp only [Act.put, setIfInBounds_toArray, set_cons_zero, set_cons_succ])
  go_cut [6] (fun v6 wc => ∃ (kq : Nat) (x6_11 : Bool), v6 = .bool x6_11 ∧ Aside0 (bitloftlaw08_StatesMakes.j0 kq x6_11 = some r) ∧ Aside0 (kq ≤ k) ∧ Aside0 (wc.heap[gb168]? = some (.cells #[.int .i32 a2_0, .int .i32 a2_1, .int .u8 a2_2] 30 (0, 0))) ∧ Aside0 (wc.heap[gb177]? = some (.cells #[.int .i32 t173, .int .i32 t174, .int .u8 t175] 30 (0, 0))) ∧ Aside0 (wc.heap[gb182]? = some (.cells #[.int .i32 t178, .int .i32 t179, .int .u8 t180] 30 (0, 0))) ∧ Aside0 (Below w.heap.size w wc))
  case first =>
    have H := HC12.out
    clear HC12
    replace H := Option.bind_eq_some_iff.mp H
    obtain ⟨t191, A310, H⟩ := H
    replace H : (if t191 = 193 then (if t169 = t171 then (if t170 = t172 then (if (t173 == t178 && (t174 == t179 && (t175 == t180))) = true then (if t176 = t181 then (if t183 = t185 then (if t184 = t186 then (if t187 = t189 then (bitloftlaw08_StatesMakes.j0 k (t188 == t190)) else (bitloftlaw08_StatesMakes.j0 k false)) else (bitloftlaw08_StatesMakes.j0 k false)) else (bitloftlaw08_StatesMakes.j0 k false)) else (bitloftlaw08_StatesMakes.j0 k false)) else (bitloftlaw08_StatesMakes.j0 k false)) else (bitloftlaw08_StatesMakes.j0 k false)) else (bitloftlaw08_StatesMakes.j0 k false)) else (bitloftlaw08_StatesMakes.j0 k false)) = some r := H
    have A31 := Aside0.mk A310
    clear A310
    by_cases c32 : t191 = 193
    · rw [if_pos c32] at H
      have c32b0 : (t191 == 193) = true := beq_iff_eq.mpr c32
      have c32b1 : (t191 != 193) = false := bne_eq_false_iff_eq.mpr c32
      clear c32
      (first | rw [c32b0] | (simp only [i64_w, i32_w]; rw [c32b0]) | skip)
      by_cases c33 : t169 = t171
      · rw [if_pos c33] at H
        have c33b0 : (t169 == t171) = true := beq_iff_eq.mpr c33
        have c33b1 : (t169 != t171) = false := bne_eq_false_iff_eq.mpr c33
        clear c33
        by_cases c34 : t170 = t172
        · rw [if_pos c34] at H
          have c34b0 : (t170 == t172) = true := beq_iff_eq.mpr c34
          have c34b1 : (t170 != t172) = false := bne_eq_false_iff_eq.mpr c34
          clear c34
          by_cases c35 : (t173 == t178 && (t174 == t179 && (t175 == t180))) = true
          · rw [if_pos c35] at H
            have c35b0 : (t173 == t178 && (t174 == t179 && (t175 == t180))) = true := c35
            (try (have c35b1 : decide (t173 = t178 && (t174 == t179 && (t175 == t180))) = true := by simpa using c35))
            (try (have c35b2 : (t173 == t178 && (t174 == t179 && (t175 == t180))) = true := by simpa using c35))
            clear c35
            by_cases c36 : t176 = t181
            · rw [if_pos c36] at H
              have c36b0 : (t176 == t181) = true := beq_iff_eq.mpr c36
              have c36b1 : (t176 != t181) = false := bne_eq_false_iff_eq.mpr c36
              clear c36
              by_cases c37 : t183 = t185
              · rw [if_pos c37] at H
                have c37b0 : (t183 == t185) = true := beq_iff_eq.mpr c37
                have c37b1 : (t183 != t185) = false := bne_eq_false_iff_eq.mpr c37
                clear c37
                by_cases c38 : t184 = t186
                · rw [if_pos c38] at H
                  have c38b0 : (t184 == t186) = true := beq_iff_eq.mpr c38
                  have c38b1 : (t184 != t186) = false := bne_eq_false_iff_eq.mpr c38
                  clear c38
                  by_cases c39 : t187 = t189
                  · rw [if_pos c39] at H
                    have c39b0 : (t187 == t189) = true := beq_iff_eq.mpr c39
                    have c39b1 : (t187 != t189) = false := bne_eq_false_iff_eq.mpr c39
                    clear c39
                    have H' := Aside0.mk H
                    clear H
                    go_wp2_with (first | ((with_reducible refine gate_callee (f := 15) rfl ?_); refine gL_ (some 65) Try.func15 #[] ?_; (with_reducible refine (states_Size.calls  t191 _ A31.out).mono ?_); rintro e w' ⟨rfl, ⟨nd, rfl⟩⟩; refine ⟨_, rfl, ?_⟩; have hnb40 := NB177_168.out; have hnc40 := NB168_177.out; have hnb41 := NB177_182.out; have hnc41 := NB182_177.out; have hcz42_0 : w30.cell? ⟨gb177, 0, none⟩ = some (.int .i32 t173) := (blk_cell BK177.out 0).trans rfl; have hcz42_1 : w30.cell? ⟨gb177, 1, none⟩ = some (.int .i32 t174) := (blk_cell BK177.out 1).trans rfl; have hcz42_2 : w30.cell? ⟨gb177, 2, none⟩ = some (.int .u8 t175) := (blk_cell BK177.out 2).trans rfl; have hfz42_0 := blk_frozen BK177.out 0; have hfz42_1 := blk_frozen BK177.out 1; have hfz42_2 := blk_frozen BK177.out 2; have hnb43 := NB182_168.out; have hnc43 := NB168_182.out; have hcz44_0 : w30.cell? ⟨gb182, 0, none⟩ = some (.int .i32 t178) := (blk_cell BK182.out 0).trans rfl; have hcz44_1 : w30.cell? ⟨gb182, 1, none⟩ = some (.int .i32 t179) := (blk_cell BK182.out 1).trans rfl; have hcz44_2 : w30.cell? ⟨gb182, 2, none⟩ = some (.int .u8 t180) := (blk_cell BK182.out 2).trans rfl; have hfz44_0 := blk_frozen BK182.out 0; have hfz44_1 := blk_frozen BK182.out 1; have hfz44_2 := blk_frozen BK182.out 2))
                    go_meet
                    case rel => exact ⟨_, ((t188 == t190)), (by first | rfl | (simp; done) | (simp [*]; done)), H', ⟨by first | omega | exact Nat.le_refl _⟩, ⟨by (with_reducible repeat (first | refine blk_drewN ?_ _ | refine blk_drew ?_ | refine blk_alloc ?_ _)); exact BK168.out⟩, ⟨by (with_reducible repeat (first | refine blk_drewN ?_ _ | refine blk_drew ?_ | refine blk_alloc ?_ _)); exact BK177.out⟩, ⟨by (with_reducible repeat (first | refine blk_drewN ?_ _ | refine blk_drew ?_ | refine blk_alloc ?_ _)); exact BK182.out⟩, ⟨by repeat (first | (with_reducible first | exact HB.out | apply below_alloc | apply bN_ | apply below_drew1 | refine below_set ?_ GE168.out | refine below_set ?_ GE177.out | refine below_set ?_ GE182.out) | exact HB.out)⟩⟩
                  · rw [if_neg c39] at H
                    have c39b0 : (t187 == t189) = false := beq_eq_false_iff_ne.mpr c39
                    have c39b1 : (t187 != t189) = true := bne_iff_ne.mpr c39
                    have H' := Aside0.mk H
                    clear H
                    go_wp2_with (first | ((with_reducible refine gate_callee (f := 15) rfl ?_); refine gL_ (some 65) Try.func15 #[] ?_; (with_reducible refine (states_Size.calls  t191 _ A31.out).mono ?_); rintro e w' ⟨rfl, ⟨nd, rfl⟩⟩; refine ⟨_, rfl, ?_⟩; have hnb45 := NB177_168.out; have hnc45 := NB168_177.out; have hnb46 := NB177_182.out; have hnc46 := NB182_177.out; have hcz47_0 : w30.cell? ⟨gb177, 0, none⟩ = some (.int .i32 t173) := (blk_cell BK177.out 0).trans rfl; have hcz47_1 : w30.cell? ⟨gb177, 1, none⟩ = some (.int .i32 t174) := (blk_cell BK177.out 1).trans rfl; have hcz47_2 : w30.cell? ⟨gb177, 2, none⟩ = some (.int .u8 t175) := (blk_cell BK177.out 2).trans rfl; have hfz47_0 := blk_frozen BK177.out 0; have hfz47_1 := blk_frozen BK177.out 1; have hfz47_2 := blk_frozen BK177.out 2; have hnb48 := NB182_168.out; have hnc48 := NB168_182.out; have hcz49_0 : w30.cell? ⟨gb182, 0, none⟩ = some (.int .i32 t178) := (blk_cell BK182.out 0).trans rfl; have hcz49_1 : w30.cell? ⟨gb182, 1, none⟩ = some (.int .i32 t179) := (blk_cell BK182.out 1).trans rfl; have hcz49_2 : w30.cell? ⟨gb182, 2, none⟩ = some (.int .u8 t180) := (blk_cell BK182.out 2).trans rfl; have hfz49_0 := blk_frozen BK182.out 0; have hfz49_1 := blk_frozen BK182.out 1; have hfz49_2 := blk_frozen BK182.out 2))
                    go_meet
                    case rel => exact ⟨_, (false), (by first | rfl | (simp; done) | (simp [*]; done)), H', ⟨by first | omega | exact Nat.le_refl _⟩, ⟨by (with_reducible repeat (first | refine blk_drewN ?_ _ | refine blk_drew ?_ | refine blk_alloc ?_ _)); exact BK168.out⟩, ⟨by (with_reducible repeat (first | refine blk_drewN ?_ _ | refine blk_drew ?_ | refine blk_alloc ?_ _)); exact BK177.out⟩, ⟨by (with_reducible repeat (first | refine blk_drewN ?_ _ | refine blk_drew ?_ | refine blk_alloc ?_ _)); exact BK182.out⟩, ⟨by repeat (first | (with_reducible first | exact HB.out | apply below_alloc | apply bN_ | apply below_drew1 | refine below_set ?_ GE168.out | refine below_set ?_ GE177.out | refine below_set ?_ GE182.out) | exact HB.out)⟩⟩
                · rw [if_neg c38] at H
                  have c38b0 : (t184 == t186) = false := beq_eq_false_iff_ne.mpr c38
                  have c38b1 : (t184 != t186) = true := bne_iff_ne.mpr c38
                  have H' := Aside0.mk H
                  clear H
                  go_wp2_with (first | ((with_reducible refine gate_callee (f := 15) rfl ?_); refine gL_ (some 65) Try.func15 #[] ?_; (with_reducible refine (states_Size.calls  t191 _ A31.out).mono ?_); rintro e w' ⟨rfl, ⟨nd, rfl⟩⟩; refine ⟨_, rfl, ?_⟩; have hnb50 := NB177_168.out; have hnc50 := NB168_177.out; have hnb51 := NB177_182.out; have hnc51 := NB182_177.out; have hcz52_0 : w30.cell? ⟨gb177, 0, none⟩ = some (.int .i32 t173) := (blk_cell BK177.out 0).trans rfl; have hcz52_1 : w30.cell? ⟨gb177, 1, none⟩ = some (.int .i32 t174) := (blk_cell BK177.out 1).trans rfl; have hcz52_2 : w30.cell? ⟨gb177, 2, none⟩ = some (.int .u8 t175) := (blk_cell BK177.out 2).trans rfl; have hfz52_0 := blk_frozen BK177.out 0; have hfz52_1 := blk_frozen BK177.out 1; have hfz52_2 := blk_frozen BK177.out 2; have hnb53 := NB182_168.out; have hnc53 := NB168_182.out; have hcz54_0 : w30.cell? ⟨gb182, 0, none⟩ = some (.int .i32 t178) := (blk_cell BK182.out 0).trans rfl; have hcz54_1 : w30.cell? ⟨gb182, 1, none⟩ = some (.int .i32 t179) := (blk_cell BK182.out 1).trans rfl; have hcz54_2 : w30.cell? ⟨gb182, 2, none⟩ = some (.int .u8 t180) := (blk_cell BK182.out 2).trans rfl; have hfz54_0 := blk_frozen BK182.out 0; have hfz54_1 := blk_frozen BK182.out 1; have hfz54_2 := blk_frozen BK182.out 2))
                  go_meet
                  case rel => exact ⟨_, (false), (by first | rfl | (simp; done) | (simp [*]; done)), H', ⟨by first | omega | exact Nat.le_refl _⟩, ⟨by (with_reducible repeat (first | refine blk_drewN ?_ _ | refine blk_drew ?_ | refine blk_alloc ?_ _)); exact BK168.out⟩, ⟨by (with_reducible repeat (first | refine blk_drewN ?_ _ | refine blk_drew ?_ | refine blk_alloc ?_ _)); exact BK177.out⟩, ⟨by (with_reducible repeat (first | refine blk_drewN ?_ _ | refine blk_drew ?_ | refine blk_alloc ?_ _)); exact BK182.out⟩, ⟨by repeat (first | (with_reducible first | exact HB.out | apply below_alloc | apply bN_ | apply below_drew1 | refine below_set ?_ GE168.out | refine below_set ?_ GE177.out | refine below_set ?_ GE182.out) | exact HB.out)⟩⟩
              · rw [if_neg c37] at H
                have c37b0 : (t183 == t185) = false := beq_eq_false_iff_ne.mpr c37
                have c37b1 : (t183 != t185) = true := bne_iff_ne.mpr c37
                have H' := Aside0.mk H
                clear H
                go_wp2_with (first | ((with_reducible refine gate_callee (f := 15) rfl ?_); refine gL_ (some 65) Try.func15 #[] ?_; (with_reducible refine (states_Size.calls  t191 _ A31.out).mono ?_); rintro e w' ⟨rfl, ⟨nd, rfl⟩⟩; refine ⟨_, rfl, ?_⟩; have hnb55 := NB177_168.out; have hnc55 := NB168_177.out; have hnb56 := NB177_182.out; have hnc56 := NB182_177.out; have hcz57_0 : w30.cell? ⟨gb177, 0, none⟩ = some (.int .i32 t173) := (blk_cell BK177.out 0).trans rfl; have hcz57_1 : w30.cell? ⟨gb177, 1, none⟩ = some (.int .i32 t174) := (blk_cell BK177.out 1).trans rfl; have hcz57_2 : w30.cell? ⟨gb177, 2, none⟩ = some (.int .u8 t175) := (blk_cell BK177.out 2).trans rfl; have hfz57_0 := blk_frozen BK177.out 0; have hfz57_1 := blk_frozen BK177.out 1; have hfz57_2 := blk_frozen BK177.out 2; have hnb58 := NB182_168.out; have hnc58 := NB168_182.out; have hcz59_0 : w30.cell? ⟨gb182, 0, none⟩ = some (.int .i32 t178) := (blk_cell BK182.out 0).trans rfl; have hcz59_1 : w30.cell? ⟨gb182, 1, none⟩ = some (.int .i32 t179) := (blk_cell BK182.out 1).trans rfl; have hcz59_2 : w30.cell? ⟨gb182, 2, none⟩ = some (.int .u8 t180) := (blk_cell BK182.out 2).trans rfl; have hfz59_0 := blk_frozen BK182.out 0; have hfz59_1 := blk_frozen BK182.out 1; have hfz59_2 := blk_frozen BK182.out 2))
                go_meet
                case rel => exact ⟨_, (false), (by first | rfl | (simp; done) | (simp [*]; done)), H', ⟨by first | omega | exact Nat.le_refl _⟩, ⟨by (with_reducible repeat (first | refine blk_drewN ?_ _ | refine blk_drew ?_ | refine blk_alloc ?_ _)); exact BK168.out⟩, ⟨by (with_reducible repeat (first | refine blk_drewN ?_ _ | refine blk_drew ?_ | refine blk_alloc ?_ _)); exact BK177.out⟩, ⟨by (with_reducible repeat (first | refine blk_drewN ?_ _ | refine blk_drew ?_ | refine blk_alloc ?_ _)); exact BK182.out⟩, ⟨by repeat (first | (with_reducible first | exact HB.out | apply below_alloc | apply bN_ | apply below_drew1 | refine below_set ?_ GE168.out | refine below_set ?_ GE177.out | refine below_set ?_ GE182.out) | exact HB.out)⟩⟩
            · rw [if_neg c36] at H
              have c36b0 : (t176 == t181) = false := beq_eq_false_iff_ne.mpr c36
              have c36b1 : (t176 != t181) = true := bne_iff_ne.mpr c36
              have H' := Aside0.mk H
              clear H
              go_wp2_with (first | ((with_reducible refine gate_callee (f := 15) rfl ?_); refine gL_ (some 65) Try.func15 #[] ?_; (with_reducible refine (states_Size.calls  t191 _ A31.out).mono ?_); rintro e w' ⟨rfl, ⟨nd, rfl⟩⟩; refine ⟨_, rfl, ?_⟩; have hnb60 := NB177_168.out; have hnc60 := NB168_177.out; have hnb61 := NB177_182.out; have hnc61 := NB182_177.out; have hcz62_0 : w30.cell? ⟨gb177, 0, none⟩ = some (.int .i32 t173) := (blk_cell BK177.out 0).trans rfl; have hcz62_1 : w30.cell? ⟨gb177, 1, none⟩ = some (.int .i32 t174) := (blk_cell BK177.out 1).trans rfl; have hcz62_2 : w30.cell? ⟨gb177, 2, none⟩ = some (.int .u8 t175) := (blk_cell BK177.out 2).trans rfl; have hfz62_0 := blk_frozen BK177.out 0; have hfz62_1 := blk_frozen BK177.out 1; have hfz62_2 := blk_frozen BK177.out 2; have hnb63 := NB182_168.out; have hnc63 := NB168_182.out; have hcz64_0 : w30.cell? ⟨gb182, 0, none⟩ = some (.int .i32 t178) := (blk_cell BK182.out 0).trans rfl; have hcz64_1 : w30.cell? ⟨gb182, 1, none⟩ = some (.int .i32 t179) := (blk_cell BK182.out 1).trans rfl; have hcz64_2 : w30.cell? ⟨gb182, 2, none⟩ = some (.int .u8 t180) := (blk_cell BK182.out 2).trans rfl; have hfz64_0 := blk_frozen BK182.out 0; have hfz64_1 := blk_frozen BK182.out 1; have hfz64_2 := blk_frozen BK182.out 2))
              go_meet
              case rel => exact ⟨_, (false), (by first | rfl | (simp; done) | (simp [*]; done)), H', ⟨by first | omega | exact Nat.le_refl _⟩, ⟨by (with_reducible repeat (first | refine blk_drewN ?_ _ | refine blk_drew ?_ | refine blk_alloc ?_ _)); exact BK168.out⟩, ⟨by (with_reducible repeat (first | refine blk_drewN ?_ _ | refine blk_drew ?_ | refine blk_alloc ?_ _)); exact BK177.out⟩, ⟨by (with_reducible repeat (first | refine blk_drewN ?_ _ | refine blk_drew ?_ | refine blk_alloc ?_ _)); exact BK182.out⟩, ⟨by repeat (first | (with_reducible first | exact HB.out | apply below_alloc | apply bN_ | apply below_drew1 | refine below_set ?_ GE168.out | refine below_set ?_ GE177.out | refine below_set ?_ GE182.out) | exact HB.out)⟩⟩
          · rw [if_neg c35] at H
            have c35b0 : (t173 == t178 && (t174 == t179 && (t175 == t180))) = false := by simpa using c35
            (try (have c35b1 : decide (t173 = t178 && (t174 == t179 && (t175 == t180))) = false := by simpa using c35))
            (try (have c35b2 : (t173 == t178 && (t174 == t179 && (t175 == t180))) = false := by simpa using c35))
            (try (have c35b3 : ¬ (t173 = t178 && (t174 == t179 && (t175 == t180))) := by simpa using c35))
            clear c35
            have H' := Aside0.mk H
            clear H
            go_wp2_with (first | ((with_reducible refine gate_callee (f := 15) rfl ?_); refine gL_ (some 65) Try.func15 #[] ?_; (with_reducible refine (states_Size.calls  t191 _ A31.out).mono ?_); rintro e w' ⟨rfl, ⟨nd, rfl⟩⟩; refine ⟨_, rfl, ?_⟩; have hnb65 := NB177_168.out; have hnc65 := NB168_177.out; have hnb66 := NB177_182.out; have hnc66 := NB182_177.out; have hcz67_0 : w30.cell? ⟨gb177, 0, none⟩ = some (.int .i32 t173) := (blk_cell BK177.out 0).trans rfl; have hcz67_1 : w30.cell? ⟨gb177, 1, none⟩ = some (.int .i32 t174) := (blk_cell BK177.out 1).trans rfl; have hcz67_2 : w30.cell? ⟨gb177, 2, none⟩ = some (.int .u8 t175) := (blk_cell BK177.out 2).trans rfl; have hfz67_0 := blk_frozen BK177.out 0; have hfz67_1 := blk_frozen BK177.out 1; have hfz67_2 := blk_frozen BK177.out 2; have hnb68 := NB182_168.out; have hnc68 := NB168_182.out; have hcz69_0 : w30.cell? ⟨gb182, 0, none⟩ = some (.int .i32 t178) := (blk_cell BK182.out 0).trans rfl; have hcz69_1 : w30.cell? ⟨gb182, 1, none⟩ = some (.int .i32 t179) := (blk_cell BK182.out 1).trans rfl; have hcz69_2 : w30.cell? ⟨gb182, 2, none⟩ = some (.int .u8 t180) := (blk_cell BK182.out 2).trans rfl; have hfz69_0 := blk_frozen BK182.out 0; have hfz69_1 := blk_frozen BK182.out 1; have hfz69_2 := blk_frozen BK182.out 2))
            go_meet
            case rel => exact ⟨_, (false), (by first | rfl | (simp; done) | (simp [*]; done)), H', ⟨by first | omega | exact Nat.le_refl _⟩, ⟨by (with_reducible repeat (first | refine blk_drewN ?_ _ | refine blk_drew ?_ | refine blk_alloc ?_ _)); exact BK168.out⟩, ⟨by (with_reducible repeat (first | refine blk_drewN ?_ _ | refine blk_drew ?_ | refine blk_alloc ?_ _)); exact BK177.out⟩, ⟨by (with_reducible repeat (first | refine blk_drewN ?_ _ | refine blk_drew ?_ | refine blk_alloc ?_ _)); exact BK182.out⟩, ⟨by repeat (first | (with_reducible first | exact HB.out | apply below_alloc | apply bN_ | apply below_drew1 | refine below_set ?_ GE168.out | refine below_set ?_ GE177.out | refine below_set ?_ GE182.out) | exact HB.out)⟩⟩
        · rw [if_neg c34] at H
          have c34b0 : (t170 == t172) = false := beq_eq_false_iff_ne.mpr c34
          have c34b1 : (t170 != t172) = true := bne_iff_ne.mpr c34
          have H' := Aside0.mk H
          clear H
          go_wp2_with (first | ((with_reducible refine gate_callee (f := 15) rfl ?_); refine gL_ (some 65) Try.func15 #[] ?_; (with_reducible refine (states_Size.calls  t191 _ A31.out).mono ?_); rintro e w' ⟨rfl, ⟨nd, rfl⟩⟩; refine ⟨_, rfl, ?_⟩))
          go_meet
          case rel => exact ⟨_, (false), (by first | rfl | (simp; done) | (simp [*]; done)), H', ⟨by first | omega | exact Nat.le_refl _⟩, ⟨by (with_reducible repeat (first | refine blk_drewN ?_ _ | refine blk_drew ?_ | refine blk_alloc ?_ _)); exact BK168.out⟩, ⟨by (with_reducible repeat (first | refine blk_drewN ?_ _ | refine blk_drew ?_ | refine blk_alloc ?_ _)); exact BK177.out⟩, ⟨by (with_reducible repeat (first | refine blk_drewN ?_ _ | refine blk_drew ?_ | refine blk_alloc ?_ _)); exact BK182.out⟩, ⟨by repeat (first | (with_reducible first | exact HB.out | apply below_alloc | apply bN_ | apply below_drew1 | refine below_set ?_ GE168.out | refine below_set ?_ GE177.out | refine below_set ?_ GE182.out) | exact HB.out)⟩⟩
      · rw [if_neg c33] at H
        have c33b0 : (t169 == t171) = false := beq_eq_false_iff_ne.mpr c33
        have c33b1 : (t169 != t171) = true := bne_iff_ne.mpr c33
        have H' := Aside0.mk H
        clear H
        go_wp2_with (first | ((with_reducible refine gate_callee (f := 15) rfl ?_); refine gL_ (some 65) Try.func15 #[] ?_; (with_reducible refine (states_Size.calls  t191 _ A31.out).mono ?_); rintro e w' ⟨rfl, ⟨nd, rfl⟩⟩; refine ⟨_, rfl, ?_⟩))
        go_meet
        case rel => exact ⟨_, (false), (by first | rfl | (simp; done) | (simp [*]; done)), H', ⟨by first | omega | exact Nat.le_refl _⟩, ⟨by (with_reducible repeat (first | refine blk_drewN ?_ _ | refine blk_drew ?_ | refine blk_alloc ?_ _)); exact BK168.out⟩, ⟨by (with_reducible repeat (first | refine blk_drewN ?_ _ | refine blk_drew ?_ | refine blk_alloc ?_ _)); exact BK177.out⟩, ⟨by (with_reducible repeat (first | refine blk_drewN ?_ _ | refine blk_drew ?_ | refine blk_alloc ?_ _)); exact BK182.out⟩, ⟨by repeat (first | (with_reducible first | exact HB.out | apply below_alloc | apply bN_ | apply below_drew1 | refine below_set ?_ GE168.out | refine below_set ?_ GE177.out | refine below_set ?_ GE182.out) | exact HB.out)⟩⟩
    · rw [if_neg c32] at H
      have c32b0 : (t191 == 193) = false := beq_eq_false_iff_ne.mpr c32
      have c32b1 : (t191 != 193) = true := bne_iff_ne.mpr c32
      (first | rw [c32b0] | (simp only [i64_w, i32_w]; rw [c32b0]) | skip)
      have H' := Aside0.mk H
      clear H
      go_wp2_with (first | ((with_reducible refine gate_callee (f := 15) rfl ?_); refine gL_ (some 65) Try.func15 #[] ?_; (with_reducible refine (states_Size.calls  t191 _ A31.out).mono ?_); rintro e w' ⟨rfl, ⟨nd, rfl⟩⟩; refine ⟨_, rfl, ?_⟩))
      go_meet
      case rel => exact ⟨_, (false), (by first | rfl | (simp; done) | (simp [*]; done)), H', ⟨by first | omega | exact Nat.le_refl _⟩, ⟨by (with_reducible repeat (first | refine blk_drewN ?_ _ | refine blk_drew ?_ | refine blk_alloc ?_ _)); exact BK168.out⟩, ⟨by (with_reducible repeat (first | refine blk_drewN ?_ _ | refine blk_drew ?_ | refine blk_alloc ?_ _)); exact BK177.out⟩, ⟨by (with_reducible repeat (first | refine blk_drewN ?_ _ | refine blk_drew ?_ | refine blk_alloc ?_ _)); exact BK182.out⟩, ⟨by repeat (first | (with_reducible first | exact HB.out | apply below_alloc | apply bN_ | apply below_drew1 | refine below_set ?_ GE168.out | refine below_set ?_ GE177.out | refine below_set ?_ GE182.out) | exact HB.out)⟩⟩
  case rest =>
    clear HC12
    try clear c1
    try clear c2
    try clear p2
    try clear c3
    try clear c4
    try clear c5
    try clear c6
    try clear c7
    try clear c11
    try clear c14
    try clear c15
    try clear c18
    try clear c19
    try clear c20
    try clear c21
    try clear c22
    try clear c23
    try clear c24
    try clear c32
    try clear c32b0
    try clear c32b1
    try clear c33
    try clear c33b0
    try clear c33b1
    try clear c34
    try clear c34b0
    try clear c34b1
    try clear c35
    try clear c35b0
    try clear c35b1
    try clear c35b2
    try clear c36
    try clear c36b0
    try clear c36b1
    try clear c37
    try clear c37b0
    try clear c37b1
    try clear c38
    try clear c38b0
    try clear c38b1
    try clear c39
    try clear c39b0
    try clear c39b1
    try clear c40
    try clear c41
    try clear c43
    try clear c45
    try clear c46
    try clear c48
    try clear c50
    try clear c51
    try clear c53
    try clear c55
    try clear c56
    try clear c58
    try clear c60
    try clear c61
    try clear c63
    try clear c65
    try clear c66
    try clear c68
    try clear hcz19_0
    try clear hcz19_1
    try clear hcz19_2
    try clear hcz24_0
    try clear hcz24_1
    try clear hcz24_2
    try clear hcz25_0
    try clear hcz25_1
    try clear hcz25_2
    try clear hcz27_0
    try clear hcz27_1
    try clear hcz27_2
    try clear hcz42_0
    try clear hcz42_1
    try clear hcz42_2
    try clear hcz44_0
    try clear hcz44_1
    try clear hcz44_2
    try clear hcz47_0
    try clear hcz47_1
    try clear hcz47_2
    try clear hcz49_0
    try clear hcz49_1
    try clear hcz49_2
    try clear hcz52_0
    try clear hcz52_1
    try clear hcz52_2
    try clear hcz54_0
    try clear hcz54_1
    try clear hcz54_2
    try clear hcz57_0
    try clear hcz57_1
    try clear hcz57_2
    try clear hcz59_0
    try clear hcz59_1
    try clear hcz59_2
    try clear hcz62_0
    try clear hcz62_1
    try clear hcz62_2
    try clear hcz64_0
    try clear hcz64_1
    try clear hcz64_2
    try clear hcz67_0
    try clear hcz67_1
    try clear hcz67_2
    try clear hcz69_0
    try clear hcz69_1
    try clear hcz69_2
    try clear hfz19_0
    try clear hfz19_1
    try clear hfz19_2
    try clear hfz24_0
    try clear hfz24_1
    try clear hfz24_2
    try clear hfz25_0
    try clear hfz25_1
    try clear hfz25_2
    try clear hfz27_0
    try clear hfz27_1
    try clear hfz27_2
    try clear hfz42_0
    try clear hfz42_1
    try clear hfz42_2
    try clear hfz44_0
    try clear hfz44_1
    try clear hfz44_2
    try clear hfz47_0
    try clear hfz47_1
    try clear hfz47_2
    try clear hfz49_0
    try clear hfz49_1
    try clear hfz49_2
    try clear hfz52_0
    try clear hfz52_1
    try clear hfz52_2
    try clear hfz54_0
    try clear hfz54_1
    try clear hfz54_2
    try clear hfz57_0
    try clear hfz57_1
    try clear hfz57_2
    try clear hfz59_0
    try clear hfz59_1
    try clear hfz59_2
    try clear hfz62_0
    try clear hfz62_1
    try clear hfz62_2
    try clear hfz64_0
    try clear hfz64_1
    try clear hfz64_2
    try clear hfz67_0
    try clear hfz67_1
    try clear hfz67_2
    try clear hfz69_0
    try clear hfz69_1
    try clear hfz69_2
    obtain ⟨kq, x6_11, rfl, HA, HJ11, BK168, BK177, BK182, HB⟩ := hcut
    cases kq with
    | zero => exact absurd HA.out (by simp [bitloftlaw08_StatesMakes.j0])
    | succ kj11 =>
      have H := HA.out
      clear HA
      simp only [bitloftlaw08_StatesMakes.j0] at H
      obtain rfl := Option.some.inj H
      go_wp2
      go_ret
      exact ⟨by first | rfl | (simp [errW_none, errW_some] <;> rfl) | (simp [*, errW_none, errW_some] <;> rfl), by repeat (first | (with_reducible first | exact HB.out | apply below_alloc | apply bN_ | apply below_drew1 | refine below_set ?_ GE168.out | refine below_set ?_ GE177.out | refine below_set ?_ GE182.out) | exact HB.out)⟩

/-- The one plain statement of bitloftlaw08_StatesMakes. -/
def bitloftlaw08_StatesMakes.Pure : Prop := ∀ (a0 : Int) (a1 : Int) (a2_0 : Int) (a2_1 : Int) (a2_2 : Int), (Lit.int .u8 a0).wf = true → (Lit.int .u8 a1).wf = true → (Lit.int .i32 a2_0).wf = true → (Lit.int .i32 a2_1).wf = true → (Lit.int .u8 a2_2).wf = true → ∃ k, bitloftlaw08_StatesMakes.f k a0 a1 a2_0 a2_1 a2_2 = some true

end Go.Proofs.Ytchpnnengjlpmaa.XStatesMakes
