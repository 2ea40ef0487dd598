-- Laid by a program of this session (wip/mkxprint.py, over the kit's print): Lean checks it.
import Derived.Test.YtlpkfljihcklkaaDoorXMixerSumsx0
import Derived.Test.YtlpkfljihcklkaaDoorXMixerSumsx1
import Derived.Test.YtlpkfljihcklkaaDoorXMixerSumsx2
namespace Go.Proofs.YtlpkfljihcklkaaDoor.XMixerSums
open List (setIfInBounds_toArray set_cons_zero set_cons_succ)
open Go.RowKit Go.Proofs.YtlpkfljihcklkaaDoorW.PrintWords Go.Proofs.YtlpkfljihcklkaaDoorW.PrintLast Go.Proofs.YtlpkfljihcklkaaDoorW.PrintMore
attribute [local go_sem] max2_int min2_int max_two min_two max_three min_three max_four min_four   -- for this text's walks alone
set_option linter.unusedVariables false
set_option linter.unusedSimpArgs false

/-! ### slices_Repeat_int32_int32: function 39 -/
/-- A row of one element, so many times. -/
def slices_Repeat_int32_int32.f (l0 : List Int) (a1 : Int) : Option (List Int) := if l0.length = 1 ∧ 1 ≤ a1 ∧ a1 ≤ 1048576 then some (List.replicate a1.toNat (rd l0 0)) else none
theorem slices_Repeat_int32_int32.wr (n : Int) : IntKind.u64.wrap n = n % 18446744073709551616 := by simp [IntKind.wrap, IntKind.bits, IntKind.signed]
theorem slices_Repeat_int32_int32.mul (a1 : Int) (h0 : 0 ≤ a1) (h1 : a1 ≤ 1048576) : bits_Mul.f 1 a1 = some (0, a1) := by
  have e : Go.bits .and .u64 a1 4294967295 = a1 := by
    have := bits_mask .u64 63 (by decide) (fun n p q => by rw [slices_Repeat_int32_int32.wr]; omega) 32 (by decide) a1 h0 (by omega)
    rw [show (4294967295 : Int) = 2 ^ 32 - 1 from by decide, this]; omega
  have e1 : Go.bits .and .u64 1 4294967295 = 1 := by decide
  have e0 : Go.bits .and .u64 0 4294967295 = 0 := by decide
  have d1 : (1 : Int) / 4294967296 = 0 := by decide
  have d2 : a1 / 4294967296 = 0 := Int.ediv_eq_zero_of_lt h0 (by omega)
  have w : IntKind.u64.wrap a1 = a1 := by rw [slices_Repeat_int32_int32.wr]; omega
  have w0 : IntKind.u64.wrap 0 = 0 := by decide
  simp only [bits_Mul.f, bits_Mul64.f, Option.bind_some, e, e1, d1, d2, w, w0, Int.zero_mul, Int.one_mul, Int.mul_zero, Int.add_zero, Int.zero_ediv, e0]
theorem slices_Repeat_int32_int32.calls (A0 : Option Addr) (c0 : Nat) (l0 : List Int) (a1 : Int) (r : List Int) (w : World) (hr0 : Kd.C (Kd.int .i32) w A0 l0.length l0) (hc0 : l0.length ≤ c0) (h : slices_Repeat_int32_int32.f l0 a1 = some r) :
    Calls Tryd.prog 39 #[.slice A0 l0.length c0, .int .i64 a1] w fun e w' => ∃ v0_ : Value, e = .returned v0_ ∧ Kd.R (Kd.int .i32) 21 w' w.heap.size (fun _ => True) v0_ r ∧ Below w.heap.size w w' := by
  unfold slices_Repeat_int32_int32.f at h
  by_cases hl : l0.length = 1 ∧ 1 ≤ a1 ∧ a1 ≤ 1048576
  case neg => rw [if_neg hl] at h; exact absurd h (by simp)
  rw [if_pos hl] at h
  obtain rfl := Option.some.inj h
  clear h
  obtain ⟨hl, h2, h1⟩ := hl
  have h0 : 0 ≤ a1 := by omega
  obtain ⟨n, rfl⟩ := Int.eq_ofNat_of_zero_le h0
  obtain ⟨x, rfl⟩ : ∃ x, l0 = [x] := List.length_eq_one_iff.mp hl
  obtain ⟨ad, rfl, hx⟩ := Kd.at_int hr0 0 (by decide) (by simp)
  have HB := Aside0.mk (Below.refl w.heap.size w)
  have HM := Aside0.mk (slices_Repeat_int32_int32.mul (n : Int) h0 h1)
  have hw : IntKind.u64.wrap (n : Int) = (n : Int) := by rw [slices_Repeat_int32_int32.wr]; omega
  have hw2 : wrap64 (n : Int) = (n : Int) := by rw [wrap64]; omega
  have cz : decide ((n : Int) < 0) = false := decide_eq_false (by omega)
  clear hr0 hl hc0
  rw [show ([x] : List Int).length = 1 from rfl]
  have HW := Aside0.mk hw; have HW2 := Aside0.mk hw2; clear hw hw2
  have hx' : w.cell? (ad.add 0) = some (.int .i32 x) := hx
  have HX := Aside0.mk hx'; clear hx hx'
  have hn0 : (0 : Int) ≤ (n : Int) := by omega
  have HN := Aside0.mk h1
  have HN2 := Aside0.mk h2
  go_enter Tryd.func39, Tryd.ntmps39
  go_upto_region 7 with (first | ((with_reducible refine gate_callee (f := 45) rfl ?_); refine gL_ (some 18) Tryd.func45 #[.int .u64 1, .int .u64 n] ?_; (with_reducible refine (bits_Mul.calls 1 n 0 n _ HM.out).mono ?_); rintro e w' ⟨rfl, ⟨nd, rfl⟩⟩; refine ⟨_, rfl, ?_⟩) | ((with_reducible refine gate_dst (N := 30) rfl ?_); refine Kd.R_make (Kd.int .i32) _ 21 rfl (N := 30) rfl 25 _ _ rfl (n : Int) rfl rfl Tryd.underlying25 (.int .i32 0) 4 info21 rfl (by decide) (by omega) (0 : Int) (ok := fun _ => True) (okp := fun _ => True) rfl (fun _ hk => hk) trivial hn0 (by have := HN.out; omega) (Below.refl _ _) (Nat.le_refl _) ?_; intro v30 w3 ho hb hg_ hnew_; clear hg_ hnew_))
  have hown := Kd.own_of_R ho
  rw [List.length_replicate, Int.toNat_natCast] at hown
  have HB3 : Below w.heap.size w w3 := below_step (pw_below_drewN HB.out _) hb
  have hV := (HB3.cell (World.block_lt_of_cell? w _ HX.out)).trans HX.out
  clear ho hb HB
  rcases hown.2 with ⟨q, q0⟩ | ⟨g, cap, cur, rfl, hgb, hrest⟩
  · have := HN2.out; omega
  have hcap : n ≤ cap := hrest.2.1
  clear hrest
  have hs : (Tryd.prog.info? 21).map (·.size) = some 1 := by kernel_rfl
  have hcp := own_copy_ (P := Tryd.prog) (dT := 25) (sT := 25) (ty := 3) (cs := [.int .i32 x]) hown Tryd.underlying25 hs 0 n cap ad 1 c0 (by show 1 = min 1 n; have := HN2.out; omega) (by show 0 + 1 ≤ n; have := HN2.out; omega) (fun j v hj => by
    cases j with
    | zero => cases hj; exact hV
    | succ j => simp at hj) (fun v hv => by rw [List.mem_singleton] at hv; rw [hv]; rfl)
  have HO := Aside0.mk (own_setCells_ (base := w.heap.size) [.int .i32 x] w3 _ 0 hown)
  have HB := Aside0.mk (below_setCells_ (w0 := w) hgb [.int .i32 x] w3 0 HB3)
  have HG := Aside0.mk hgb
  have HI : Aside0 (∀ j : Nat, j < 1 → (setL_ (encs (fun x => Value.int .i32 x) (List.replicate n 0)) 0 [.int .i32 x])[j]? = some (.int .i32 x)) := ⟨fun j hj => by
    obtain rfl : j = 0 := by omega
    exact setL_in_ [.int .i32 x] _ 0 0 (by simp) (by simp [encs]; have := HN2.out; omega)⟩
  clear hown hs hV HB3 hgb h2 h1 h0 HX
  go_wp2
  generalize setL_ (encs (fun x => Value.int .i32 x) (List.replicate n 0)) 0 [.int .i32 x] = xs0 at HO HI
  generalize w3.setCells g 0 [.int .i32 x] = w4 at HO HB ⊢
  clear hcp w3
  go_loopg [8] n (fun kx s8 wr => ∃ (m : Nat) (xs : List Value), s8 = .int .i64 m ∧ 1 ≤ m ∧ m ≤ n ∧ n - m ≤ kx ∧ Aside0 (wr.ownsRow w.heap.size 21 1 (.slice (some ⟨g, 0, none⟩) n cap) n xs) ∧ Aside0 (∀ j : Nat, j < m → xs[j]? = some (.int .i32 x)) ∧ Aside0 (Below w.heap.size w wr))
  case atStart => exact ⟨1, xs0, rfl, by omega, by have := HN2.out; omega, by omega, HO, HI, HB⟩
  case round =>
    clear HO HI HB
    obtain ⟨m, xs, rfl, hm1, hmn, hmk, HO, HI, HB⟩ := hrel
    by_cases hlt : m < n
    · go_wp2
      have hown := HO.out
      have hs : (Tryd.prog.info? 21).map (·.size) = some 1 := by kernel_rfl
      have hxl : xs.length = n := by have := hown.1; omega
      obtain ⟨cs, hcs⟩ : ∃ cs, cs = xs.take (min m (n - m)) := ⟨_, rfl⟩
      have hcl : cs.length = min m (n - m) := by rw [hcs, List.length_take]; omega
      have hall : ∀ v ∈ cs, v = .int .i32 x := fun v hv => by
        rw [hcs] at hv
        obtain ⟨j, hj, e⟩ := List.mem_iff_getElem.mp hv
        rw [List.length_take] at hj
        rw [List.getElem_take] at e
        have := HI.out j (by omega)
        rw [List.getElem?_eq_getElem (by omega)] at this
        rw [← e]; exact Option.some.inj this
      have hcp := own_copy_ (P := Tryd.prog) (dT := 25) (sT := 25) (ty := 3) (cs := cs) (w := wr.drew) (show wr.drew.ownsRow w.heap.size 21 1 (.slice (some ⟨g, 0, none⟩) n cap) n xs from hown) Tryd.underlying25 hs m (n - m) (cap - m) ⟨g, 0, none⟩ m cap (by rw [hcl]) (by rw [hcl]; omega) (fun j v hj => by
        have hjl : j < cs.length := by
          rcases Nat.lt_or_ge j cs.length with h | h
          · exact h
          · rw [List.getElem?_eq_none h] at hj; exact absurd hj (by simp)
        rw [add0_]
        refine ((own_cell_ (show wr.drew.ownsRow w.heap.size 21 1 (.slice (some ⟨g, 0, none⟩) n cap) n xs from hown) j (by omega)).1).trans ?_
        rw [hcs, List.getElem?_take_of_lt (by omega)] at hj
        exact hj) (fun v hv => by rw [hall v hv]; rfl)
      rw [hcl] at hcp
      have i0 : (0 : Int) ≤ (m : Int) := by omega
      have i1 : (m : Int) ≤ (cap : Int) := by omega
      have i2 : (m : Int) ≤ (n : Int) := by omega
      have HCP := Aside0.mk hcp
      have HALL := Aside0.mk hall
      have HCL := Aside0.mk hcl
      have HXL := Aside0.mk hxl
      clear hcp hall hcl hxl hown hcs hs
      refine start_ (n := 10) (S := fun _ => True) (ds := []) #[false, false, false, false, false, false, false, false, false, false] (by kernel_rfl) rfl rfl trivial (fun _ => ?_)
      refine pure_ (i := 0) (N := some 38) (v := ?_) (a' := ?_) #[true, false, false, false, false, false, false, false, false, false] rfl rfl (by kernel_rfl) (fun _ _ _ h => h) (Or.inl ⟨by rfl, ?_⟩) ?_ ?_; rotate_left
      · intro w'; go_simp
        with_reducible rfl
      rotate_left
      · simp only [Act.put, setIfInBounds_toArray, set_cons_zero, set_cons_succ, i64_w, i32_w]; rfl
      refine pure_ (i := 1) (N := some 39) (v := ?_) (a' := ?_) #[true, true, false, false, false, false, false, false, false, false] rfl rfl (by kernel_rfl) (fun _ _ _ h => h) (Or.inl ⟨by rfl, ?_⟩) ?_ ?_; rotate_left
      · intro w'; go_simp
        with_reducible rfl
      rotate_left
      · simp only [Act.put, setIfInBounds_toArray, set_cons_zero, set_cons_succ, i64_w, i32_w]; rfl
      refine pure_ (i := 2) (N := some 40) (v := ?_) (a' := ?_) #[true, true, true, false, false, false, false, false, false, false] rfl rfl (by kernel_rfl) (fun _ _ _ h => h) (Or.inl ⟨by rfl, ?_⟩) ?_ ?_; rotate_left
      · intro w'; go_simp
        with_reducible rfl
      rotate_left
      · simp only [Act.put, setIfInBounds_toArray, set_cons_zero, set_cons_succ, i64_w, i32_w]; rfl
      refine pure_ (i := 4) (N := some 42) (v := ?_) (a' := ?_) #[true, true, true, false, true, false, false, false, false, false] rfl rfl (by kernel_rfl) (fun _ _ _ h => h) (Or.inl ⟨by rfl, ?_⟩) ?_ ?_; rotate_left
      · intro w'; go_simp
        with_reducible rfl
      rotate_left
      · simp only [Act.put, setIfInBounds_toArray, set_cons_zero, set_cons_succ, i64_w, i32_w]; rfl
      refine pure_ (i := 5) (N := some 43) (v := ?_) (a' := ?_) #[true, true, true, false, true, true, false, false, false, false] rfl rfl (by kernel_rfl) (fun _ _ _ h => h) (Or.inl ⟨by rfl, ?_⟩) ?_ ?_; rotate_left
      · intro w'; go_simp
        with_reducible rfl
      rotate_left
      · simp only [Act.put, setIfInBounds_toArray, set_cons_zero, set_cons_succ, i64_w, i32_w]; rfl
      have hne : ¬ cap = m := by omega
      have hne0 : ¬ cap = 0 := by omega
      refine pure_ (i := 3) (N := some 41) (v := ?_) (a' := ?_) #[true, true, true, true, true, true, false, false, false, false] rfl rfl (by kernel_rfl) (fun _ _ _ h => h) (Or.inl ⟨by rfl, ?_⟩) ?_ ?_; rotate_left
      · intro w'; go_simp
        with_reducible rfl
      rotate_left
      · simp only [Act.put, setIfInBounds_toArray, set_cons_zero, set_cons_succ, i64_w, i32_w]; rfl
      refine pure_ (i := 6) (N := some 44) (v := ?_) (a' := ?_) #[true, true, true, true, true, true, true, false, false, false] rfl rfl (by kernel_rfl) (fun _ _ _ h => h) (Or.inl ⟨by rfl, ?_⟩) ?_ ?_; rotate_left
      · intro w'; go_simp
        with_reducible rfl
      rotate_left
      · simp only [Act.put, setIfInBounds_toArray, set_cons_zero, set_cons_succ, i64_w, i32_w]; rfl
      refine one_ (i := 7) (N := some 45) #[true, true, true, true, true, true, true, true, false, false] rfl rfl (by kernel_rfl) (by decide) (fun K hK => ?_)
      refine does_ (v := goInt ((min m (n - m) : Nat) : Int)) (w1 := wr.drew.setCells g m cs) (by rfl) rfl ?_ ?_
      · have hcp := HCP.out
        go_simp
      refine hK.out _ _ trivial (fun _ => ?_)
      clear hK K
      have hm9 : wrap64 ((m : Int) + ((min m (n - m) : Nat) : Int)) = ((m + min m (n - m) : Nat) : Int) := by rw [wrap64]; have := HN.out; omega
      refine pure_ (i := 8) (N := some 46) (v := ?_) (a' := ?_) #[true, true, true, true, true, true, true, true, true, false] rfl rfl (by kernel_rfl) (fun _ _ _ h => h) (Or.inl ⟨by rfl, ?_⟩) ?_ ?_; rotate_left
      · intro w'; go_simp
        with_reducible rfl
      rotate_left
      · simp only [Act.put, setIfInBounds_toArray, set_cons_zero, set_cons_succ, i64_w, i32_w, hm9]; rfl
      refine pure_ (i := 9) (N := some 8) (v := ?_) (a' := ?_) #[true, true, true, true, true, true, true, true, true, true] rfl rfl (by kernel_rfl) (fun _ _ _ h => h) (Or.inl ⟨by rfl, ?_⟩) ?_ ?_; rotate_left
      · intro w'; go_simp
        with_reducible rfl
      rotate_left
      · simp only [Act.put, setIfInBounds_toArray, set_cons_zero, set_cons_succ, i64_w, i32_w, hm9]; rfl
      refine done_ (by kernel_rfl) ?_
      have HO2 := Aside0.mk (own_setCells_ (base := w.heap.size) cs wr.drew _ m (show wr.drew.ownsRow w.heap.size 21 1 (.slice (some ⟨g, 0, none⟩) n cap) n xs from HO.out))
      have HB2 := Aside0.mk (below_setCells_ (w0 := w) (show w.heap.size ≤ g from HG.out) cs wr.drew m (below_drew1 HB.out))
      generalize wr.drew.setCells g m cs = w5 at HO2 HB2 ⊢
      go_wp2
      go_roundg (n - (m + min m (n - m)))
      case measure => omega
      case rel => exact ⟨m + min m (n - m), setL_ xs m cs, rfl, by omega, by omega, Nat.le_refl _, HO2, ⟨fun j hj => by
          have hcl := HCL.out
          have hxl := HXL.out
          by_cases y : j < m
          · rw [setL_out_ _ _ _ _ (Or.inl y)]; exact HI.out j y
          · obtain ⟨q, rfl⟩ : ∃ q, j = m + q := ⟨j - m, by omega⟩
            rw [setL_in_ cs xs m q (by omega) (by omega), List.getElem?_eq_getElem (by omega)]
            exact congrArg some (HALL.out _ (List.getElem_mem _))⟩, HB2⟩
    · obtain rfl : m = n := by omega
      go_wp2
      go_ret
      have ho := HO.out
      have hi := HI.out
      have e : xs = encs (fun x => Value.int .i32 x) (List.replicate m x) := by
        have hl := ho.1
        refine List.ext_getElem? fun j => ?_
        by_cases y : j < m
        · rw [hi j y]; simp [encs, y]
        · rw [List.getElem?_eq_none (by omega), List.getElem?_eq_none (by simp [encs]; omega)]
      rw [e] at ho
      refine ⟨.slice (some ⟨g, 0, none⟩) m cap, rfl, ?_, HB.out⟩
      rw [Int.toNat_natCast]
      exact Kd.R_of_own (by rw [List.length_replicate]; exact ho) (fun _ _ => trivial)

/-! ### mixer_fill_int32: function 24 -/
def mixer_fill_int32.f (a0 : Int) (a1 : Int) : Option (List Int) := (slices_Repeat_int32_int32.f (([a1] : List Int)) a0).bind fun t149 => (some t149)
set_option maxHeartbeats 8000000 in
set_option maxRecDepth 100000 in
theorem mixer_fill_int32.calls (a0 : Int) (a1 : Int) (r : List Int) (w : World) (h : mixer_fill_int32.f a0 a1 = some r) :
  Calls Tryd.prog 24 #[.int .i64 a0, .int .i32 a1] w fun e w' => ∃ v0_ : Value, e = .returned (v0_) ∧ Kd.R (Kd.int .i32) 21 w' w.heap.size (fun _ => True) v0_ r ∧ Below w.heap.size w w' := by
 have HB := Aside0.mk (Below.refl w.heap.size w); have H : ((slices_Repeat_int32_int32.f (([a1] : List Int)) a0).bind fun t149 => (some t149)) = some r := h; clear h; obtain ⟨y146, hy146⟩ : ∃ y_ : List Int, y_ = (([a1] : List Int)) := ⟨_, rfl⟩
 replace H : ((slices_Repeat_int32_int32.f y146 a0).bind fun t149 => (some t149)) = some r := by first | (rw [hy146]; with_reducible exact H) | (have H2_ := (Option.bind_some _ _).symm.trans H; rw [hy146]; with_reducible exact H2_) | (have H2_ := (Option.bind_some _ _).symm.trans H; with_reducible exact H2_) | with_reducible exact H | (rw [hy146]; exact H) | exact H
 have Ny146 := Aside0.mk hy146; clear hy146; replace H := Option.bind_eq_some_iff.mp H; obtain ⟨t149, A30, H⟩ := H; replace H : (some t149) = some r := H; have A3 := Aside0.mk A30; clear A30; obtain rfl := Option.some.inj H
 go_enter Tryd.func24, Tryd.ntmps24
 go_wp2_with (first | ((with_reducible refine gate_dst (N := 6) rfl ?_); refine Kd.R_lit (Kd.int .i32) _ 21 ?hg (N := 6) ?hd (xs := ([a1] : List Int)) (inner := [.int .i32 a1]) (ok := fun _ => True) (okp := fun _ => True) ?hr ?hp (fun _ hk => hk) trivial (Below.refl _ _) (Nat.le_refl _) (by simp) ?_; (case hd => rfl); (case hg => rfl); (case hr => first | (go_simp; done) | (go_simp; rfl)); (case hp => exact (Reps.one (show Kd.M (Kd.int .i32) _ _ _ a1 [.int .i32 a1] from rfl) (Reps.none _ _))); intro v147 w4 ho5 hb hg_ hnew_; clear hg_ hnew_; (first | rw [← Ny146.out] at ho5 | (simp only [Int.reduceToNat] at ho5; rw [← Ny146.out] at ho5)); have n0_ := Aside0.mk (Kd.R_lower ho5 (below_size (pH_ HB.out))); have n1_ := Aside0.mk (below_step (pH_ HB.out) hb); clear HB; have HO148 := n0_; have HB := n1_; clear n0_ n1_; clear hb ho5; obtain ⟨Ao6, co6, eo6⟩ := Kd.R_slice HO148.out; subst eo6) | ((with_reducible refine gate_callee (f := 39) rfl ?_); refine gL_ (some 8) Tryd.func39 #[.slice Ao6 y146.length co6, .int .i64 a0] ?_; (with_reducible refine (slices_Repeat_int32_int32.calls _ _ y146 a0 t149 _ ?side1 ?side2 A3.out).mono ?_); (case side1 => repeat (first | exact (Kd.R_reads' HO148.out).2.2 | (with_reducible refine Kd.C_alloc ?_ _) | (with_reducible refine Kd.C_drewN ?_ _) | (with_reducible refine Kd.C_drew ?_))); (case side2 => exact (Kd.R_reads' HO148.out).2.1); rintro e w7 ⟨v150, rfl, ho0, hb⟩; refine ⟨_, rfl, ?_⟩; have n0_ := Aside0.mk (Kd.R_elder' (pL_ HO148.out) (Kd.R_base ho0) hb); have n1_ := Aside0.mk (Kd.R_lower (Kd.R_new' ho0 (Kd.R_lt (pL_ HO148.out))) (below_size (pH_ HB.out))); have n2_ := Aside0.mk (below_step (pH_ HB.out) hb); clear HO148; clear HB; have HO148 := n0_; have HO151 := n1_; have HB := n2_; clear n0_ n1_ n2_; (try clear hb); (try clear ho0)))
 go_ret
 exact ⟨_, by first | rfl | (simp [errW_none, errW_some] <;> rfl) | (simp [*, errW_none, errW_some] <;> rfl), by (with_reducible repeat (first | apply rA_ | apply rN_ | apply rD_)); exact Kd.R_mono HO151.out (fun _ hk => trivial), pH_ HB.out⟩

/-! ### mixer_New: function 9 -/
mutual
def mixer_New.j0 : Nat → Int → Int → Bool → Option ((List (List Int)) × Int)
 | 0, _, _, _ => none
 | k + 1, x0, x1, x12 => if x12 = true then (some (([] : List (List Int)), 2)) else (mixer_New.l0 k x1 x0 0 ([] : List (List Int)))
def mixer_New.l0 : Nat → Int → Int → Int → List (List Int) → Option ((List (List Int)) × Int)
 | 0, _, _, _, _ => none
 | k + 1, x1, x14, x15, x154000 => if x15 < x14 then ((mixer_fill_int32.f 8 x1).bind fun t154 => (if x154000.length < 5864062014805 then (mixer_New.l0 k x1 x14 (wrap64 (x15 + 1)) (x154000 ++ [t154])) else (none))) else (some (x154000, 0))
end
def mixer_New.f (k : Nat) (a0 : Int) (a1 : Int) : Option ((List (List Int)) × Int) := if a0 < 1 then (mixer_New.j0 k a0 a1 true) else (mixer_New.j0 k a0 a1 (decide (a0 > 256)))
theorem mixer_New.mono_l : ∀ k, (∀ y0 y1 y2, LeO (mixer_New.j0 k y0 y1 y2) (mixer_New.j0 (k + 1) y0 y1 y2)) ∧ (∀ y0 y1 y2 y3, LeO (mixer_New.l0 k y0 y1 y2 y3) (mixer_New.l0 (k + 1) y0 y1 y2 y3))
 | 0 => ⟨fun _ _ _ r h => by simp [mixer_New.j0] at h, fun _ _ _ _ r h => by simp [mixer_New.l0] at h⟩
 | k + 1 => by
  obtain ⟨ih0, ih1⟩ := mixer_New.mono_l k; refine ⟨?_, ?_⟩
  ·
   intro y0 y1 y2
   unfold mixer_New.j0
   repeat' first
   | (with_reducible exact ih0 _ _ _)
   | (with_reducible exact ih1 _ _ _ _)
   | (with_reducible exact LeO.refl _)
   | (with_reducible exact LeO.none _)
   | (with_reducible refine LeO.ite ?_ ?_)
   | (with_reducible refine LeO.bind ?_ (fun _ => ?_))
   | exact ih0 _ _ _
   | exact ih1 _ _ _ _
   | exact LeO.none _
   | refine LeO.ite ?_ ?_
   | refine LeO.bind ?_ (fun _ => ?_)
  ·
   intro y0 y1 y2 y3
   unfold mixer_New.l0
   repeat' first
   | (with_reducible exact ih0 _ _ _)
   | (with_reducible exact ih1 _ _ _ _)
   | (with_reducible exact LeO.refl _)
   | (with_reducible exact LeO.none _)
   | (with_reducible refine LeO.ite ?_ ?_)
   | (with_reducible refine LeO.bind ?_ (fun _ => ?_))
   | exact ih0 _ _ _
   | exact ih1 _ _ _ _
   | exact LeO.none _
   | refine LeO.ite ?_ ?_
   | refine LeO.bind ?_ (fun _ => ?_)
theorem mixer_New.mono : ∀ a0 a1 k, LeO (mixer_New.f k a0 a1) (mixer_New.f (k + 1) a0 a1) := by
 intro a0 a1 k; obtain ⟨ih0, ih1⟩ := mixer_New.mono_l k
 unfold mixer_New.f
 repeat' first
   | (with_reducible exact ih0 _ _ _)
   | (with_reducible exact ih1 _ _ _ _)
   | (with_reducible exact LeO.refl _)
   | (with_reducible exact LeO.none _)
   | (with_reducible refine LeO.ite ?_ ?_)
   | (with_reducible refine LeO.bind ?_ (fun _ => ?_))
   | exact ih0 _ _ _
   | exact ih1 _ _ _ _
   | exact LeO.none _
   | refine LeO.ite ?_ ?_
   | refine LeO.bind ?_ (fun _ => ?_)
def mixer_New.T6 : Bool × List (List Nat × List Nat) := (true, [([], []), ([0], [0]), ([], []), ([2], [2]), ([3], [3]), ([1, 4, 3], [1, 4]), ([0, 1, 2, 3, 4, 5], []), ([6, 5, 5, 0, 1, 2, 3, 4, 5], [5, 6])])
def mixer_New.B6 : List Nat := [0, 1, 0, 4, 12, 31, 63, 127]
theorem mixer_New.tab6 : rtab .any (opsOf Tryd.f9 6) = mixer_New.T6 := by kernel_rfl
theorem mixer_New.bits6 : waitsOk mixer_New.T6.2 mixer_New.B6 = true := by kernel_rfl
set_option maxHeartbeats 8000000 in
set_option maxRecDepth 100000 in
theorem mixer_New.calls (k : Nat) (a0 : Int) (a1 : Int) (r1 : List (List Int)) (r2 : Int) (w : World) (h : mixer_New.f k a0 a1 = some (r1, r2)) :
  Calls Tryd.prog 9 #[.int .i64 a0, .int .i32 a1] w fun e w' => ∃ v0_ : Value, e = .returned (.tuple #[.agg #[v0_], .int .i64 r2]) ∧ Kd.S (Kd.slice 21 (Kd.int .i32)) 25 w' w.heap.size (fun _ => True) v0_ r1 ∧ Below w.heap.size w w' := by
 have hu24 := Tryd.underlying24; have HB := Aside0.mk (Below.refl w.heap.size w); have H : (if a0 < 1 then (mixer_New.j0 k a0 a1 true) else (mixer_New.j0 k a0 a1 (decide (a0 > 256)))) = some (r1, r2) := h; clear h; have HC3 := Aside0.mk H; clear H
 go_enter Tryd.func9, Tryd.ntmps9
 go_upto_region 1 with (first | ((with_reducible refine gate_dst (N := 4) rfl ?_); refine box_event ?hg (N := 4) ?hd (cs := #[.slice none 0 0]) (t := 24) ?hr ?_; (case hd => rfl); (case hg => rfl); (case hr => first | (go_simp; done) | (go_simp; rfl)); intro gb152 hg w4 hbox hb; have n0_ := Aside0.mk (below_step (pH_ HB.out) hb); have n1_ := Aside0.mk (hbox); have n2_ := Aside0.mk ((by rw [hg]; exact (below_size (pH_ HB.out)) : w.heap.size ≤ gb152)); have n3_ := Aside0.mk ((by rw [hg]; exact (below_size (pH_ HB.out)) : w.heap.size ≤ gb152)); clear HB; have HB := n0_; have BK152 := n1_; have GW152 := n2_; have GE152 := n3_; clear n0_ n1_ n2_ n3_; clear hb hbox hg))
 (try simp only [Act.put, sA_, sZ_, sS_]); (with_reducible first | refine then_id_ ?_ | (refine wp_tail_ ?_; intro Kt_ hKt_))
 go_cut [12] (fun v12 wc => ∃ (kq : Nat) (x12_2 : Bool), v12 = .bool x12_2 ∧ Aside0 (mixer_New.j0 kq a0 a1 x12_2 = some (r1, r2)) ∧ Aside0 (kq ≤ k) ∧ Aside0 (wc.heap[gb152]? = some (.cells #[(.slice none 0 0)] 24 (0, 0))) ∧ Aside0 (Below w.heap.size w wc))
 case first =>
  have H := HC3.out; clear HC3
  by_cases c5 : a0 < 1
  ·
   rw [if_pos c5] at H; have c5b0 : decide (a0 < 1) = true := decide_eq_true c5; clear c5; (first | rw [c5b0] | (simp only [i64_w, i32_w]; rw [c5b0]) | skip); have H' := Aside0.mk H; clear H
   go_wp2
   (first | go_meet | (refine Met.intro ?_; go_step; (repeat apply Exists.intro); refine ⟨?rel, ?eqf_⟩; case eqf_ => ((simp only [c5b0]) <;> rfl)))
   case rel => exact ⟨_, (true), (by first | rfl | (simp; done) | (simp [*]; done)), H', ⟨by first | omega | exact Nat.le_refl _⟩, ⟨pG_ BK152.out⟩, ⟨pH_ HB.out⟩⟩
  ·
   rw [if_neg c5] at H; have c5b0 : decide (a0 < 1) = false := decide_eq_false c5; clear c5; (first | rw [c5b0] | (simp only [i64_w, i32_w]; rw [c5b0]) | skip); have H' := Aside0.mk H; clear H
   go_wp2
   (first | go_meet | (refine Met.intro ?_; go_step; (repeat apply Exists.intro); refine ⟨?rel, ?eqf_⟩; case eqf_ => ((simp only [c5b0]) <;> rfl)))
   case rel => exact ⟨_, (decide (a0 > 256)), (by first | rfl | (simp; done) | (simp [*]; done)), H', ⟨by first | omega | exact Nat.le_refl _⟩, ⟨pG_ BK152.out⟩, ⟨pH_ HB.out⟩⟩
 case rest =>
  (try (refine hKt_ _ _ ?_; clear hKt_; clear Kt_)); clear HC3
  try clear p2
  try clear c5
  try clear c5b0
  obtain ⟨kq, x12_2, rfl, HA, HJ2, BK152, HB⟩ := hcut
  cases kq with
  | zero => exact absurd HA.out (by simp [mixer_New.j0])
  | succ kj2 =>
   have H := HA.out; clear HA; simp only [mixer_New.j0] at H
   by_cases c6 : x12_2 = true
   ·
    subst c6
    have H1 : (some (([] : List (List Int)), 2)) = some (r1, r2) := by rw [if_pos rfl] at H; exact H
    clear H; have H := H1; clear H1; simp only [Option.some.injEq, Prod.mk.injEq] at H; obtain ⟨rfl, rfl⟩ := H; have hcz7_0 : wc.cell? ⟨gb152, 0, none⟩ = some (.slice none 0 0) := (blk_cell BK152.out 0).trans rfl; have hfz7_0 := blk_frozen BK152.out 0
    go_wp2
    refine bodyPost_ret (results_ct rfl _ _ gb152 24 #[.slice none 0 0] (0, 0) _ rfl (by (with_reducible repeat (first | refine blk_drewN ?_ _ | refine blk_drew ?_ | refine blk_alloc ?_ _)); refine blk_put (cs := #[.slice none 0 0]) ?_ 0 _ rfl; (with_reducible repeat (first | refine blk_drewN ?_ _ | refine blk_drew ?_ | refine blk_alloc ?_ _)); exact BK152.out) Tryd.underlying24 rfl (by kernel_rfl)) rfl ?_; exact ⟨_, by first | rfl | (simp [errW_none, errW_some] <;> rfl) | (simp [*, errW_none, errW_some] <;> rfl), by first | exact Kd.S_nil _ _ _ _ _ | exact Kd.N_nil _ _ _ _ _ | exact Kd.V_nil _ _ _ _ _ | exact Kd.Q_nil _ _ _ _ _ | exact Kd.R_nil _ _ _ _ _, pH_ HB.out⟩
   ·
    replace c6 := Bool.eq_false_iff.mpr c6
    subst c6
    have H1 : (mixer_New.l0 kj2 a1 a0 0 ([] : List (List Int))) = some (r1, r2) := by rw [if_neg (show ¬ (false = true) by decide)] at H; exact H
    clear H; have H := H1; clear H1; have H' := Aside0.mk H; clear H
    go_wp2_with (first | ((with_reducible refine gate_dst (N := 6) rfl ?_); refine box_event ?hg (N := 6) ?hd (cs := #[.slice none 0 0]) (t := 24) ?hr ?_; (case hd => rfl); (case hg => rfl); (case hr => first | (go_simp; done) | (go_simp; rfl)); intro gb153 hg w8 hbox hb; have n0_ := Aside0.mk (blk_below (pG_ BK152.out) hb); have n1_ := Aside0.mk (below_step (pH_ HB.out) hb); have n2_ := Aside0.mk (hbox); have n3_ := Aside0.mk ((by rw [hg]; exact (below_size (pH_ HB.out)) : w.heap.size ≤ gb153)); have n4_ := Aside0.mk ((by rw [hg]; exact (below_size (pH_ HB.out)) : w.heap.size ≤ gb153)); have n5_ := Aside0.mk ((by rw [hg]; exact Nat.ne_of_lt (blk_lt (pG_ BK152.out)) : gb152 ≠ gb153)); have n6_ := Aside0.mk ((by rw [hg]; exact Nat.ne_of_gt (blk_lt (pG_ BK152.out)) : gb153 ≠ gb152)); clear BK152; clear HB; have BK152 := n0_; have HB := n1_; have BK153 := n2_; have GW153 := n3_; have GE153 := n4_; have NB152_153 := n5_; have NB153_152 := n6_; clear n0_ n1_ n2_ n3_ n4_ n5_ n6_; clear hb hbox hg))
    go_loopg [15] kj2 (fun kq v15 w' => ∃ (x15_2 : Int) (x154000_2 : List (List Int)) (u154000 : Value), v15 = .int .i64 x15_2 ∧ Aside0 (mixer_New.l0 kq a1 a0 x15_2 x154000_2 = some (r1, r2)) ∧ Aside0 (kq ≤ kj2) ∧ Aside0 (Kd.S (Kd.slice 21 (Kd.int .i32)) 25 w' w.heap.size (fun _ => True) u154000 x154000_2) ∧ Aside0 (w'.heap[gb152]? = some (.cells #[(.slice none 0 0)] 24 (0, 0))) ∧ Aside0 (w'.heap[gb153]? = some (.cells #[u154000] 24 (0, 0))) ∧ Aside0 (Below w.heap.size w w'))
    case atStart => exact ⟨(0), (([] : List (List Int))), (.slice none 0 0), (by first | rfl | (simp; done) | (simp [*]; done)), H', ⟨Nat.le_refl _⟩, ⟨by first | exact Kd.S_nil _ _ _ _ _ | exact Kd.N_nil _ _ _ _ _ | exact Kd.V_nil _ _ _ _ _ | exact Kd.Q_nil _ _ _ _ _ | exact Kd.R_nil _ _ _ _ _⟩, ⟨pG_ BK152.out⟩, ⟨pG_ BK153.out⟩, ⟨pH_ HB.out⟩⟩
    case round =>
     clear H'
     try clear p2
     try clear c5
     try clear c5b0
     try clear c6
     try clear hcz7_0
     try clear hfz7_0
     try clear p2
     obtain ⟨x15_2, x154000_2, u154000, rfl, HA, HK2, HO_154000, BK152, BK153, HB⟩ := hrel
     cases gk with
     | zero => exact absurd HA.out (by simp [mixer_New.l0])
     | succ k2 =>
      have H := HA.out; clear HA; simp only [mixer_New.l0] at H
      by_cases c9 : x15_2 < a0
      ·
       rw [if_pos c9] at H; have c9b0 : decide (x15_2 < a0) = true := decide_eq_true c9; clear c9; replace H := Option.bind_eq_some_iff.mp H; obtain ⟨t154, A100, H⟩ := H; replace H : (if x154000_2.length < 5864062014805 then (mixer_New.l0 k2 a1 a0 (wrap64 (x15_2 + 1)) (x154000_2 ++ [t154])) else (none)) = some (r1, r2) := H; have A10 := Aside0.mk A100; clear A100
       by_cases c11 : x154000_2.length < 5864062014805
       ·
        rw [if_pos c11] at H; have LMc11 := Aside0.mk c11; clear c11; obtain ⟨y157, hy157⟩ : ∃ y_ : List (List Int), y_ = (x154000_2 ++ [t154]) := ⟨_, rfl⟩
        replace H : (mixer_New.l0 k2 a1 a0 (wrap64 (x15_2 + 1)) y157) = some (r1, r2) := by first | (rw [hy157]; with_reducible exact H) | (have H2_ := (Option.bind_some _ _).symm.trans H; rw [hy157]; with_reducible exact H2_) | (have H2_ := (Option.bind_some _ _).symm.trans H; with_reducible exact H2_) | with_reducible exact H | (rw [hy157]; exact H) | exact H
        have Ny157 := Aside0.mk hy157; clear hy157; have H' := Aside0.mk H; clear H
        try go_wp2
        have n0_ := Aside0.mk (Kd.S_drew HO_154000.out); have n1_ := Aside0.mk (blk_drew BK152.out); have n2_ := Aside0.mk (blk_drew BK153.out); have n3_ := Aside0.mk (below_drew1 HB.out); clear HO_154000; clear BK152; clear BK153; clear HB; have HO_154000 := n0_; have BK152 := n1_; have BK153 := n2_; have HB := n3_; clear n0_ n1_ n2_ n3_; refine start_ (n := 8) (S := fun w' => w'.cell? ⟨gb153, 0, none⟩ = some (u154000)) (ds := [7]) #[f_, f_, f_, f_, f_, f_, f_, f_] (by kernel_rfl) rfl rfl ((blk_cell BK153.out 0).trans rfl) (fun hHeld => ?_); refine with_tabW mixer_New.tab6 mixer_New.bits6 (fun HT_ HW_ => ?_)
        generalize wr.drew = w12 at HO_154000 BK152 BK153 HB hHeld ⊢
        refine pure_ (i := 0) (N := some 17) (v := ?_) (a' := ?_) #[t_, f_, f_, f_, f_, f_, f_, f_] rfl rfl (any_of HT_.out (by kernel_rfl)) (fun _ _ _ h => h) (Or.inl ⟨by rfl, ?_⟩) ?_ ?_; rotate_left
        ·
         intro w'; go_simp
         with_reducible rfl
        rotate_left
        ·
         simp only [Act.put, sA_, sZ_, sS_, i64_w, i32_w]; rfl
        refine pure_ (i := 2) (N := some 19) (v := ?_) (a' := ?_) #[t_, f_, t_, f_, f_, f_, f_, f_] rfl rfl (any_of HT_.out (by kernel_rfl)) (fun _ _ _ h => h) (Or.inl ⟨by rfl, ?_⟩) ?_ ?_; rotate_left
        ·
         intro w'; go_simp
         with_reducible rfl
        rotate_left
        ·
         simp only [Act.put, sA_, sZ_, sS_, i64_w, i32_w]; rfl
        refine take_ (i := 1) (N := some 18) (v := ?_) (a' := ?_) #[t_, t_, t_, f_, f_, f_, f_, f_] rfl rfl (take_ofW HT_.out HW_.out (by kernel_rfl)) (fun _ _ _ h => h) (Or.inl ⟨by rfl, ?_⟩) hHeld ?_ ?_; rotate_left
        ·
         intro w' s0; go_simp
         with_reducible rfl
        rotate_left
        ·
         simp only [Act.put, sA_, sZ_, sS_, i64_w, i32_w]; rfl
        refine one_ (i := 3) (N := some 20) #[t_, t_, t_, t_, f_, f_, f_, f_] rfl rfl (one_of HT_.out (by kernel_rfl)) (by decide) (fun K hK => ?_); refine goes_ Tryd.func24 (by kernel_rfl) rfl #[.int .i64 8, .int .i32 a1] (by rfl) rfl rfl (by (try simp only [List.map_toArray, List.map_cons, List.map_nil]); first | done | rfl | (simp only [List.length_drop, List.length_take]; rfl)) ?_
        with_reducible refine (mixer_fill_int32.calls 8 a1 t154 _ A10.out).mono ?_
        rintro e w13 ⟨v155, rfl, ho0, hb⟩
        refine ⟨_, rfl, ?_⟩; have n0_ := Aside0.mk (Kd.S_elder' (by (with_reducible repeat (first | apply Kd.S_alloc | apply Kd.S_drewN | apply Kd.S_drew)); exact HO_154000.out) (Kd.R_base ho0) hb); have n1_ := Aside0.mk (Kd.R_lower ho0 (below_size (pH_ HB.out))); have n2_ := Aside0.mk (blk_below (pG_ BK152.out) hb); have n3_ := Aside0.mk (blk_below (pG_ BK153.out) hb); have n4_ := Aside0.mk (below_step (pH_ HB.out) hb); clear HO_154000; clear BK152; clear BK153; clear HB; have HO_154000 := n0_; have HO156 := n1_; have BK152 := n2_; have BK153 := n3_; have HB := n4_; clear n0_ n1_ n2_ n3_ n4_; (try clear hb); (try clear hb2); (try clear hk); (try clear hi); (try clear ho0); obtain ⟨Ao15, co15, eo15⟩ := Kd.R_slice HO156.out; (first | subst eo15 | (injection eo15 with f1_ f2_ f3_; have f4_ := f1_.symm; have f5_ := f3_.symm; clear f1_ f2_ f3_; subst f4_; subst f5_)); refine hK.out _ _ ((blk_cell BK153.out 0).trans rfl) (fun hHeld => ?_); clear hK K; refine norm_ (a' := ?_) ?_ ?_; rotate_left
        ·
         show Act.put _ (some 20) _ = _
         simp only [Act.put, sA_, sZ_, sS_, i64_w, i32_w]; rfl
        refine one_ (i := 4) (N := some 21) #[t_, t_, t_, t_, t_, f_, f_, f_] rfl rfl (one_of HT_.out (by kernel_rfl)) (by decide) (fun K hK => ?_); refine value_ (w1 := ?_) (v := ?_) (by rfl) rfl ?_ ?_; rotate_left 2
        ·
         go_simp
         constructor
         ·
          rfl
         ·
          rfl
        refine hK.out _ _ ((blk_cell (blk_alloc BK153.out _) 0).trans rfl) (fun hHeld => ?_); clear hK K; refine norm_ (a' := ?_) ?_ ?_; rotate_left
        ·
         show Act.put _ (some 21) _ = _
         simp only [Act.put, sA_, sZ_, sS_, i64_w, i32_w]; rfl
        refine one_ (i := 5) (N := some 22) #[t_, t_, t_, t_, t_, t_, f_, f_] rfl rfl (one_of HT_.out (by kernel_rfl)) (by decide) (fun K hK => ?_); refine Kd.S_append_step (Kd.slice 21 (Kd.int .i32)) (w0 := w) w.heap.size (by rfl) (.tmp 18) (.tmp 21) 22 25 (.slice none 0 0) 24 rfl Tryd.underlying22 info25 rfl (by decide) (by omega) u154000 x154000_2 t154 [.slice Ao15 t154.length co15] (fun _ => True) (fun k_ => some k_ = (.slice Ao15 t154.length co15 : Value).ownBlock) rfl rfl ?aP (fun k_ hk_ => ((Kd.R_mono (ok' := fun k_ => ((fun _ => True)) k_ ∧ nO_ k_ u154000) (Kd.R_apart' (HO156.out) (Kd.S_typed HO_154000.out) (by decide)) (fun k_ hk => ⟨trivial, hk.2⟩))).1 k_ hk_.symm) ?aF ?aO ?aB ?aS ?aL ?_; (case aP => exact Kd.M_row (Kd.R_mono (Kd.R_tight rfl (Kd.R_mono (ok' := fun k_ => ((fun _ => True)) k_ ∧ nO_ k_ u154000) (Kd.R_apart' (HO156.out) (Kd.S_typed HO_154000.out) (by decide)) (fun k_ hk => ⟨trivial, hk.2⟩))) (fun _ h_ => h_))); (case aB => exact (pH_ HB.out)); (case aF => exact (fun _ _ => trivial)); (case aO => exact (by (with_reducible repeat (first | apply Kd.S_alloc | apply Kd.S_drewN | apply Kd.S_drew)); exact Kd.S_mono HO_154000.out (fun k_ hk => ⟨trivial, fun e_ => hk.2 e_⟩))); (case aS => exact (below_size (pH_ HB.out))); (case aL => have := LMc11.out; omega); intro v158 w14 ho hb hg hat; rw [← Ny157.out] at ho; have n0_ := Aside0.mk (blk_grown (g := gb152) (o := .cells #[.slice none 0 0] 24 (0, 0)) (pG_ BK152.out) hg (Kd.S_ne HO_154000.out BK152.out (by decide))); have n1_ := Aside0.mk (blk_grown (g := gb153) (o := .cells #[u154000] 24 (0, 0)) (pG_ BK153.out) hg (Kd.S_ne HO_154000.out BK153.out (by decide))); have n2_ := Aside0.mk (hb); have n3_ := Aside0.mk (ho); clear BK152; clear BK153; clear HB; clear HO_154000; clear HO156; have BK152 := n0_; have BK153 := n1_; have HB := n2_; have HO159 := n3_; clear n0_ n1_ n2_ n3_; clear ho hb hg hat; obtain ⟨Ao16, co16, eo16⟩ := Kd.S_slice HO159.out; (first | subst eo16 | (injection eo16 with f1_ f2_ f3_; have f4_ := f1_.symm; have f5_ := f3_.symm; clear f1_ f2_ f3_; subst f4_; subst f5_)); refine hK.out _ _ ((blk_cell BK153.out 0).trans rfl) (fun hHeld => ?_); clear hK K; refine norm_ (a' := ?_) ?_ ?_; rotate_left
        ·
         show Act.put _ (some 22) _ = _
         simp only [Act.put, sA_, sZ_, sS_, i64_w, i32_w]; rfl
        refine pure_ (i := 6) (N := some 23) (v := ?_) (a' := ?_) #[t_, t_, t_, t_, t_, t_, t_, f_] rfl rfl (any_of HT_.out (by kernel_rfl)) (fun _ _ _ h => h) (Or.inl ⟨by rfl, ?_⟩) ?_ ?_; rotate_left
        ·
         intro w'; go_simp
         with_reducible rfl
        rotate_left
        ·
         simp only [Act.put, sA_, sZ_, sS_, i64_w, i32_w]; rfl
        refine last_ (i := 7) (N := none) #[t_, t_, t_, t_, t_, t_, t_, t_] rfl rfl (one_of HT_.out (by kernel_rfl)) (by decide) (fun K hK => ?_); have hs17 : w14.cell? ⟨gb153, 0, none⟩ = some (u154000) := (blk_cell BK153.out 0).trans rfl; have hfs17 := blk_frozen BK153.out 0; have hns17_0 := NB152_153.out; have hms17_0 := NB153_152.out; refine skip_ (w1 := ?_) (by rfl) rfl ?_ ?_; rotate_left
        ·
         go_simp; rfl
        refine hK.out _ _ ?_; clear hK K; refine done_ (done_of HT_.out (by kernel_rfl)) ?_
        try go_wp2
        go_roundg k2
        case measure => have := HJ2.out; have := HK2.out; omega
        case rel => exact ⟨(wrap64 (x15_2 + 1)), (y157), (.slice Ao16 y157.length co16), (by first | rfl | (simp; done) | (simp [*]; done)), H', ⟨by have := HJ2.out; have := HK2.out; omega⟩, ⟨by (with_reducible repeat (first | apply Kd.S_alloc | apply Kd.S_drewN | apply Kd.S_drew)); exact Kd.S_mono (Kd.S_far (p := ⟨gb153, 0, none⟩) (Kd.S_types HO159.out BK153.out (by decide)) (fun _ hk => hk.2) (.slice Ao16 y157.length co16)) (fun _ hk => trivial)⟩, ⟨by (with_reducible repeat (first | refine blk_drewN ?_ _ | refine blk_drew ?_ | refine blk_alloc ?_ _)); refine blk_far ?_ NB152_153.out _; (with_reducible repeat (first | refine blk_drewN ?_ _ | refine blk_drew ?_ | refine blk_alloc ?_ _)); exact BK152.out⟩, ⟨by (with_reducible repeat (first | refine blk_drewN ?_ _ | refine blk_drew ?_ | refine blk_alloc ?_ _)); refine blk_put (cs := #[u154000]) ?_ 0 _ rfl; (with_reducible repeat (first | refine blk_drewN ?_ _ | refine blk_drew ?_ | refine blk_alloc ?_ _)); exact BK153.out⟩, ⟨pH_ HB.out⟩⟩
       ·
        rw [if_neg c11] at H; exact absurd H (by simp)
      ·
       rw [if_neg c9] at H; have c9b0 : decide (x15_2 < a0) = false := decide_eq_false c9; clear c9; simp only [Option.some.injEq, Prod.mk.injEq] at H; obtain ⟨rfl, rfl⟩ := H; have hnb18 := NB153_152.out; have hnc18 := NB152_153.out; have hcz19_0 : wr.cell? ⟨gb153, 0, none⟩ = some (u154000) := (blk_cell BK153.out 0).trans rfl; have hfz19_0 := blk_frozen BK153.out 0; obtain ⟨Ao20, co20, eo20⟩ := Kd.S_slice HO_154000.out
       subst eo20
       have hcz21_0 : wr.cell? ⟨gb152, 0, none⟩ = some (.slice none 0 0) := (blk_cell BK152.out 0).trans rfl; have hfz21_0 := blk_frozen BK152.out 0
       go_wp2
       refine bodyPost_ret (results_ct rfl _ _ gb152 24 #[.slice Ao20 x154000_2.length co20] (0, 0) _ rfl (by (with_reducible repeat (first | refine blk_drewN ?_ _ | refine blk_drew ?_ | refine blk_alloc ?_ _)); refine blk_put (cs := #[.slice none 0 0]) ?_ 0 _ rfl; (with_reducible repeat (first | refine blk_drewN ?_ _ | refine blk_drew ?_ | refine blk_alloc ?_ _)); exact BK152.out) Tryd.underlying24 rfl (by kernel_rfl)) rfl ?_; exact ⟨_, by first | rfl | (simp [errW_none, errW_some] <;> rfl) | (simp [*, errW_none, errW_some] <;> rfl), by (with_reducible repeat (first | apply Kd.S_alloc | apply Kd.S_drewN | apply Kd.S_drew)); exact Kd.S_mono (Kd.S_far (p := ⟨gb152, 0, none⟩) (Kd.S_types HO_154000.out BK152.out (by decide)) (fun _ hk => hk.2) (.slice Ao20 x154000_2.length co20)) (fun _ hk => trivial), pH_ HB.out⟩

/-! ### bitloftref16_SameRow: function 22 -/
def bitloftref16_SameRow.l0 : Nat → List Int → List Int → Int → Option (Bool)
 | 0, _, _, _ => none
 | k + 1, x0, x1, x5 => if x5 < (x0.length : Int) then (if 0 ≤ x5 then (if x5 < (x1.length : Int) then (if (rd x0 x5) = (rd x1 x5) then (bitloftref16_SameRow.l0 k x0 x1 (wrap64 (x5 + 1))) else (some false)) else (none)) else (none)) else (some true)
def bitloftref16_SameRow.f (k : Nat) (l0 : List Int) (l1 : List Int) : Option (Bool) := if (l0.length : Int) = (l1.length : Int) then (bitloftref16_SameRow.l0 k l0 l1 0) else (some false)
theorem bitloftref16_SameRow.mono_l : ∀ k, (∀ y0 y1 y2, LeO (bitloftref16_SameRow.l0 k y0 y1 y2) (bitloftref16_SameRow.l0 (k + 1) y0 y1 y2))
 | 0 => fun _ _ _ r h => by simp [bitloftref16_SameRow.l0] at h
 | k + 1 => by
  have ih0 := bitloftref16_SameRow.mono_l k
  ·
   intro y0 y1 y2
   unfold bitloftref16_SameRow.l0
   repeat' first
   | (with_reducible exact ih0 _ _ _)
   | (with_reducible exact LeO.refl _)
   | (with_reducible exact LeO.none _)
   | (with_reducible refine LeO.ite ?_ ?_)
   | (with_reducible refine LeO.bind ?_ (fun _ => ?_))
   | exact ih0 _ _ _
   | exact LeO.none _
   | refine LeO.ite ?_ ?_
   | refine LeO.bind ?_ (fun _ => ?_)
theorem bitloftref16_SameRow.mono : ∀ a0 a1 k, LeO (bitloftref16_SameRow.f k a0 a1) (bitloftref16_SameRow.f (k + 1) a0 a1) := by
 intro a0 a1 k; have ih0 := bitloftref16_SameRow.mono_l k
 unfold bitloftref16_SameRow.f
 repeat' first
   | (with_reducible exact ih0 _ _ _)
   | (with_reducible exact LeO.refl _)
   | (with_reducible exact LeO.none _)
   | (with_reducible refine LeO.ite ?_ ?_)
   | (with_reducible refine LeO.bind ?_ (fun _ => ?_))
   | exact ih0 _ _ _
   | exact LeO.none _
   | refine LeO.ite ?_ ?_
   | refine LeO.bind ?_ (fun _ => ?_)
set_option maxHeartbeats 8000000 in
set_option maxRecDepth 100000 in
theorem bitloftref16_SameRow.calls (k : Nat) (A0 : Option Addr) (c0 : Nat) (l0 : List Int) (A1 : Option Addr) (c1 : Nat) (l1 : List Int) (r : Bool) (w : World) (hr0 : Kd.C (Kd.int .i32) w A0 l0.length l0) (hc0 : l0.length ≤ c0) (hr1 : Kd.C (Kd.int .i32) w A1 l1.length l1) (hc1 : l1.length ≤ c1) (h : bitloftref16_SameRow.f k l0 l1 = some r) :
  Calls Tryd.prog 22 #[.slice A0 l0.length c0, .slice A1 l1.length c1] w fun e w' => e = .returned (.bool r) ∧ Drawn0 w w' := by
 have HR0 := Aside0.mk hr0; have HC0 := Aside0.mk hc0; clear hr0 hc0; have HR1 := Aside0.mk hr1; have HC1 := Aside0.mk hc1; clear hr1 hc1; have H : (if (l0.length : Int) = (l1.length : Int) then (bitloftref16_SameRow.l0 k l0 l1 0) else (some false)) = some r := h; clear h
 by_cases c3 : (l0.length : Int) = (l1.length : Int)
 ·
  rw [if_pos c3] at H; have c3b0 : ((l0.length : Int) == (l1.length : Int)) = true := beq_iff_eq.mpr c3; have c3b1 : ((l0.length : Int) != (l1.length : Int)) = false := bne_eq_false_iff_eq.mpr c3
  have c3b2 : (l0.length == l1.length) = true := by first | simpa using c3 | (simp at c3 ⊢; omega)
  clear c3; have H' := Aside0.mk H; clear H
  go_enter Tryd.func22, Tryd.ntmps22
  go_wp2
  repeat (go_quiet (fail); try go_wp2)
  go_loopg [5] k (fun kq v5 w' => ∃ (x5_1 : Int), v5 = .int .i64 x5_1 ∧ Aside0 (bitloftref16_SameRow.l0 kq l0 l1 x5_1 = some r) ∧ Aside0 (kq ≤ k) ∧ Drawn0 w w')
  case atStart => exact ⟨(0), (by first | rfl | (simp; done) | (simp [*]; done)), H', ⟨Nat.le_refl _⟩, by repeat (first | exact Drawn0.refl _ | apply Drawn0.step)⟩
  case round =>
   clear H'
   try clear c1
   try clear c2
   try clear p2
   try clear c3
   try clear c3b0
   try clear c3b1
   try clear c3b2
   obtain ⟨x5_1, rfl, HA, HK1, ⟨m1, rfl⟩⟩ := hrel
   cases gk with
   | zero => exact absurd HA.out (by simp [bitloftref16_SameRow.l0])
   | succ k1 =>
    have H := HA.out; clear HA; simp only [bitloftref16_SameRow.l0] at H
    by_cases c4 : x5_1 < (l0.length : Int)
    ·
     rw [if_pos c4] at H; have c4b0 : decide (x5_1 < (l0.length : Int)) = true := decide_eq_true c4; clear c4
     by_cases c5 : 0 ≤ x5_1
     ·
      rw [if_pos c5] at H; have c5b0 : decide (0 ≤ x5_1) = true := decide_eq_true c5; clear c5
      by_cases c6 : x5_1 < (l1.length : Int)
      ·
       rw [if_pos c6] at H; have c6b0 : decide (x5_1 < (l1.length : Int)) = true := decide_eq_true c6; clear c6
       by_cases c7 : (rd l0 x5_1) = (rd l1 x5_1)
       ·
        rw [if_pos c7] at H; have c7b0 : ((rd l0 x5_1) == (rd l1 x5_1)) = true := beq_iff_eq.mpr c7; have c7b1 : ((rd l0 x5_1) != (rd l1 x5_1)) = false := bne_eq_false_iff_eq.mpr c7; clear c7; have H' := Aside0.mk H; clear H; have p160 : 0 ≤ (x5_1 : Int) := of_decide_eq_true (by first | (with_reducible assumption) | assumption); have q160 : x5_1 < (l0.length : Int) := of_decide_eq_true (by first | (with_reducible assumption) | assumption); obtain ⟨ad160, e160, hx160_0⟩ := Kd.at_int HR0.out x5_1 p160 q160
        cases e160
        replace p160 := eq_true p160; replace q160 := eq_true q160; have p161 : 0 ≤ (x5_1 : Int) := of_decide_eq_true (by first | (with_reducible assumption) | assumption); have q161 : x5_1 < (l1.length : Int) := of_decide_eq_true (by first | (with_reducible assumption) | assumption); obtain ⟨ad161, e161, hx161_0⟩ := Kd.at_int HR1.out x5_1 p161 q161
        cases e161
        replace p161 := eq_true p161; replace q161 := eq_true q161
        go_wp2
        repeat (go_quiet (fail); try go_wp2)
        go_roundg k1
        case measure => have := HK1.out; omega
        case rel => exact ⟨(wrap64 (x5_1 + 1)), (by first | rfl | (simp; done) | (simp [*]; done)), H', ⟨by have := HK1.out; omega⟩, by repeat (first | exact Drawn0.refl _ | apply Drawn0.step)⟩
       ·
        rw [if_neg c7] at H; have c7b0 : ((rd l0 x5_1) == (rd l1 x5_1)) = false := beq_eq_false_iff_ne.mpr c7; have c7b1 : ((rd l0 x5_1) != (rd l1 x5_1)) = true := bne_iff_ne.mpr c7; obtain rfl := Option.some.inj H; have p160 : 0 ≤ (x5_1 : Int) := of_decide_eq_true (by first | (with_reducible assumption) | assumption); have q160 : x5_1 < (l0.length : Int) := of_decide_eq_true (by first | (with_reducible assumption) | assumption); obtain ⟨ad160, e160, hx160_0⟩ := Kd.at_int HR0.out x5_1 p160 q160
        cases e160
        replace p160 := eq_true p160; replace q160 := eq_true q160; have p161 : 0 ≤ (x5_1 : Int) := of_decide_eq_true (by first | (with_reducible assumption) | assumption); have q161 : x5_1 < (l1.length : Int) := of_decide_eq_true (by first | (with_reducible assumption) | assumption); obtain ⟨ad161, e161, hx161_0⟩ := Kd.at_int HR1.out x5_1 p161 q161
        cases e161
        replace p161 := eq_true p161; replace q161 := eq_true q161
        go_wp2
        repeat (go_quiet (fail); try go_wp2)
        go_ret
        exact ⟨by first | rfl | (simp; done) | (simp [*]; done), by repeat (first | exact Drawn0.refl _ | apply Drawn0.step)⟩
      ·
       rw [if_neg c6] at H; exact absurd H (by simp)
     ·
      rw [if_neg c5] at H; exact absurd H (by simp)
    ·
     rw [if_neg c4] at H; have c4b0 : decide (x5_1 < (l0.length : Int)) = false := decide_eq_false c4; clear c4; obtain rfl := Option.some.inj H
     go_wp2
     repeat (go_quiet (fail); try go_wp2)
     go_ret
     exact ⟨by first | rfl | (simp; done) | (simp [*]; done), by repeat (first | exact Drawn0.refl _ | apply Drawn0.step)⟩
 ·
  rw [if_neg c3] at H; have c3b0 : ((l0.length : Int) == (l1.length : Int)) = false := beq_eq_false_iff_ne.mpr c3; have c3b1 : ((l0.length : Int) != (l1.length : Int)) = true := bne_iff_ne.mpr c3
  have c3b2 : (l0.length == l1.length) = false := by first | simpa using c3 | (simp at c3 ⊢; omega)
  obtain rfl := Option.some.inj H
  go_enter Tryd.func22, Tryd.ntmps22
  go_wp2
  repeat (go_quiet (fail); try go_wp2)
  go_ret
  exact ⟨by first | rfl | (simp; done) | (simp [*]; done), by repeat (first | exact Drawn0.refl _ | apply Drawn0.step)⟩

/-! ### bitloftlaw16_given: function 36 -/
def bitloftlaw16_given.f  : Option (List Int) := some (([400, (-100), 0, 0, 0, 0, 0, 256] : List Int))
set_option maxHeartbeats 8000000 in
set_option maxRecDepth 100000 in
theorem bitloftlaw16_given.calls  (r : List Int) (w : World) (h : bitloftlaw16_given.f  = some r) :
  Calls Tryd.prog 36 #[] w fun e w' => ∃ v0_ : Value, e = .returned (v0_) ∧ Kd.R (Kd.int .i32) 21 w' w.heap.size (fun _ => True) v0_ r ∧ Below w.heap.size w w' := by
 have HB := Aside0.mk (Below.refl w.heap.size w); have H : (some (([400, (-100), 0, 0, 0, 0, 0, 256] : List Int))) = some r := h; clear h; obtain ⟨y162, hy162⟩ : ∃ y_ : List Int, y_ = (([400, (-100), 0, 0, 0, 0, 0, 256] : List Int)) := ⟨_, rfl⟩
 replace H : (some y162) = some r := by first | (rw [hy162]; with_reducible exact H) | (have H2_ := (Option.bind_some _ _).symm.trans H; rw [hy162]; with_reducible exact H2_) | (have H2_ := (Option.bind_some _ _).symm.trans H; with_reducible exact H2_) | with_reducible exact H | (rw [hy162]; exact H) | exact H
 have Ny162 := Aside0.mk hy162; clear hy162; obtain rfl := Option.some.inj H
 go_enter Tryd.func36, Tryd.ntmps36
 go_wp2_with (first | ((with_reducible refine gate_dst (N := 1) rfl ?_); refine Kd.R_lit (Kd.int .i32) _ 21 ?hg (N := 1) ?hd (xs := ([400, (-100), 0, 0, 0, 0, 0, 256] : List Int)) (inner := [.int .i32 400, .int .i32 (-100), .int .i32 0, .int .i32 0, .int .i32 0, .int .i32 0, .int .i32 0, .int .i32 256]) (ok := fun _ => True) (okp := fun _ => True) ?hr ?hp (fun _ hk => hk) trivial (Below.refl _ _) (Nat.le_refl _) (by simp) ?_; (case hd => rfl); (case hg => rfl); (case hr => first | (go_simp; done) | (go_simp; rfl)); (case hp => exact (Reps.one (show Kd.M (Kd.int .i32) _ _ _ 400 [.int .i32 400] from rfl) (Reps.one (show Kd.M (Kd.int .i32) _ _ _ (-100) [.int .i32 (-100)] from rfl) (Reps.one (show Kd.M (Kd.int .i32) _ _ _ 0 [.int .i32 0] from rfl) (Reps.one (show Kd.M (Kd.int .i32) _ _ _ 0 [.int .i32 0] from rfl) (Reps.one (show Kd.M (Kd.int .i32) _ _ _ 0 [.int .i32 0] from rfl) (Reps.one (show Kd.M (Kd.int .i32) _ _ _ 0 [.int .i32 0] from rfl) (Reps.one (show Kd.M (Kd.int .i32) _ _ _ 0 [.int .i32 0] from rfl) (Reps.one (show Kd.M (Kd.int .i32) _ _ _ 256 [.int .i32 256] from rfl) (Reps.none _ _)))))))))); intro v163 w1 ho2 hb hg_ hnew_; clear hg_ hnew_; (first | rw [← Ny162.out] at ho2 | (simp only [Int.reduceToNat] at ho2; rw [← Ny162.out] at ho2)); have n0_ := Aside0.mk (Kd.R_lower ho2 (below_size (pH_ HB.out))); have n1_ := Aside0.mk (below_step (pH_ HB.out) hb); clear HB; have HO164 := n0_; have HB := n1_; clear n0_ n1_; clear hb ho2))
 go_ret
 exact ⟨_, by first | rfl | (simp [errW_none, errW_some] <;> rfl) | (simp [*, errW_none, errW_some] <;> rfl), by (with_reducible repeat (first | apply rA_ | apply rN_ | apply rD_)); exact HO164.out, pH_ HB.out⟩

/-! ### bitloftlaw16_alive: function 19 -/
def bitloftlaw16_alive.f (k : Nat)  : Option (Bool) := some true
theorem bitloftlaw16_alive.mono : ∀ k, LeO (bitloftlaw16_alive.f k ) (bitloftlaw16_alive.f (k + 1) ) := by
 intro  k
 unfold bitloftlaw16_alive.f
 repeat' first
   | (with_reducible exact bitloftref16_SameRow.mono _ _ _)
   | (with_reducible exact mixer_Learn.mono _ _ _ _ _ _)
   | (with_reducible exact mixer_Mix.mono _ _ _ _)
   | (with_reducible exact mixer_New.mono _ _ _)
   | (with_reducible exact LeO.refl _)
   | (with_reducible exact LeO.none _)
   | (with_reducible refine LeO.ite ?_ ?_)
   | (with_reducible refine LeO.bind ?_ (fun _ => ?_))
   | exact bitloftref16_SameRow.mono _ _ _
   | exact mixer_Learn.mono _ _ _ _ _ _
   | exact mixer_Mix.mono _ _ _ _
   | exact mixer_New.mono _ _ _
   | exact LeO.none _
   | refine LeO.ite ?_ ?_
   | refine LeO.bind ?_ (fun _ => ?_)
def bitloftlaw16_alive.T2 : Bool × List (List Nat × List Nat) := (true, [([], []), ([], []), ([0, 1, 1], [0, 1]), ([2], [2]), ([3], [3]), ([3], [3]), ([3], [3]), ([4, 2, 0, 1, 2, 3, 4], [4]), ([5, 7, 0, 1, 2, 3, 4, 5, 7], [5]), ([6, 8, 0, 1, 2, 3, 4, 5, 6, 7, 8], [6])])
def bitloftlaw16_alive.B2 : List Nat := [0, 0, 3, 7, 15, 15, 15, 31, 191, 511]
theorem bitloftlaw16_alive.tab2 : rtab .any (opsOf Tryd.f19 2) = bitloftlaw16_alive.T2 := by kernel_rfl
theorem bitloftlaw16_alive.bits2 : waitsOk bitloftlaw16_alive.T2.2 bitloftlaw16_alive.B2 = true := by kernel_rfl
def bitloftlaw16_alive.T4 : Bool × List (List Nat × List Nat) := (true, [([], []), ([], []), ([], []), ([0, 1, 2, 1], [0, 1, 2]), ([3], [3]), ([4], [4]), ([4], [4]), ([], []), ([7, 5, 3, 0, 1, 2, 3, 4, 5, 7], [5, 7]), ([6, 8, 0, 1, 2, 3, 4, 5, 6, 7, 8], [6])])
def bitloftlaw16_alive.B4 : List Nat := [0, 0, 0, 7, 15, 31, 31, 0, 191, 511]
theorem bitloftlaw16_alive.tab4 : rtab .any (opsOf Tryd.f19 4) = bitloftlaw16_alive.T4 := by kernel_rfl
theorem bitloftlaw16_alive.bits4 : waitsOk bitloftlaw16_alive.T4.2 bitloftlaw16_alive.B4 = true := by kernel_rfl
set_option maxHeartbeats 8000000 in
set_option maxRecDepth 100000 in
theorem bitloftlaw16_alive.calls (k : Nat)  (r : Bool) (w : World) (hT : Tab_ w) (h : bitloftlaw16_alive.f k  = some r) :
  Calls Tryd.prog 19 #[] w fun e w' => e = .returned (.bool r) ∧ Below w.heap.size w w' := by
 have hu24 := Tryd.underlying24; have HB := Aside0.mk (Below.refl w.heap.size w); have H : (some true) = some r := h; clear h; have A1 := Aside0.mk (show mixer_New.f 2000 1 16384 = some (([[16384, 16384, 16384, 16384, 16384, 16384, 16384, 16384]] : List (List Int)), 0) by first | rfl | decide +kernel); have A2 := Aside0.mk (show bitloftlaw16_given.f = some ([400, -100, 0, 0, 0, 0, 0, 256] : List Int) by first | rfl | decide +kernel); have A3 := Aside0.mk (show mixer_Mix.f 2000 ([[16384, 16384, 16384, 16384, 16384, 16384, 16384, 16384]] : List (List Int)) 0 ([400, -100, 0, 0, 0, 0, 0, 256] : List Int) = some (139, 2587, 0) by first | rfl | decide +kernel); have A4 := Aside0.mk (show mixer_Wrong.f 2587 true = some (1508, 0) by first | rfl | decide +kernel); have A5 := Aside0.mk (show bitloftlaw16_given.f = some ([400, -100, 0, 0, 0, 0, 0, 256] : List Int) by first | rfl | decide +kernel); have A6 := Aside0.mk (show mixer_Learn.f 2000 ([[16384, 16384, 16384, 16384, 16384, 16384, 16384, 16384]] : List (List Int)) 0 ([400, -100, 0, 0, 0, 0, 0, 256] : List Int) 2587 true = some (([[16642, 16320, 16384, 16384, 16384, 16384, 16384, 16549]] : List (List Int)), 0) by first | rfl | decide +kernel); obtain ⟨y176, hy176⟩ : ∃ y_ : List Int, y_ = (([16642, 16320, 16384, 16384, 16384, 16384, 16384, 16549] : List Int)) := ⟨_, rfl⟩
 replace H : (some true) = some r := by first | (rw [hy176]; with_reducible exact H) | (have H2_ := (Option.bind_some _ _).symm.trans H; rw [hy176]; with_reducible exact H2_) | (have H2_ := (Option.bind_some _ _).symm.trans H; with_reducible exact H2_) | with_reducible exact H | (rw [hy176]; exact H) | exact H
 have Ny176 := Aside0.mk hy176; clear hy176; have A7 := Aside0.mk (show bitloftref16_SameRow.f 2000 (rd_L1 ([[16642, 16320, 16384, 16384, 16384, 16384, 16384, 16549]] : List (List Int)) 0) y176 = some true by (try rw [Ny176.out]); first | rfl | decide +kernel); obtain rfl := Option.some.inj H
 go_enter Tryd.func19, Tryd.ntmps19
 try go_wp2_with (first | ((with_reducible refine gate_callee (f := 9) rfl ?_); refine gL_ (some 11) Tryd.func9 #[.int .i64 1, .int .i32 16384] ?_; (with_reducible refine (mixer_New.calls 2000 1 16384 ([[16384, 16384, 16384, 16384, 16384, 16384, 16384, 16384]] : List (List Int)) 0 _ A1.out).mono ?_); rintro e w8 ⟨v165, rfl, ho0, hb⟩; refine ⟨_, rfl, ?_⟩; have n0_ := Aside0.mk (Kd.S_lower ho0 (below_size (pH_ HB.out))); have n1_ := Aside0.mk (below_step (pH_ HB.out) hb); clear HB; have HO166 := n0_; have HB := n1_; clear n0_ n1_; (try clear hb); (try clear ho0)) | ((with_reducible refine gate_dst (N := 1) rfl ?_); (try (refine gate_guard (by rfl) ?_; dsimp only)); refine box_event ?hg (N := 1) ?hd (cs := #[.slice none 0 0]) (t := 24) ?hr ?_; (case hd => rfl); (case hg => rfl); (case hr => first | (go_simp; done) | (go_simp; rfl)); intro gb167 hg w9 hbox hb; have n0_ := Aside0.mk (Kd.S_below (by (with_reducible repeat (first | apply Kd.S_alloc | apply Kd.S_drewN | apply Kd.S_drew)); exact HO166.out) hb); have n1_ := Aside0.mk (below_step (pH_ HB.out) hb); have n2_ := Aside0.mk (hbox); have n3_ := Aside0.mk ((by rw [hg]; exact (below_size (pH_ HB.out)) : w.heap.size ≤ gb167)); have n4_ := Aside0.mk ((by rw [hg]; exact (below_size (pH_ HB.out)) : w.heap.size ≤ gb167)); clear HO166; clear HB; have HO166 := n0_; have HB := n1_; have BK167 := n2_; have GW167 := n3_; have GE167 := n4_; clear n0_ n1_ n2_ n3_ n4_; clear hb hbox hg; obtain ⟨Ao10, co10, eo10⟩ := Kd.S_slice HO166.out; subst eo10; have hcz11_0 : w9.cell? ⟨gb167, 0, none⟩ = some (.slice none 0 0) := (blk_cell BK167.out 0).trans rfl; have hfz11_0 := blk_frozen BK167.out 0))
 have n0_ : Aside0 (Kd.S (Kd.slice 21 (Kd.int .i32)) 25 (w9.setCell ⟨gb167, 0, none⟩ (.slice Ao10 ([[16384, 16384, 16384, 16384, 16384, 16384, 16384, 16384]] : List (List Int)).length co10)) w.heap.size (fun _ => True) (.slice Ao10 ([[16384, 16384, 16384, 16384, 16384, 16384, 16384, 16384]] : List (List Int)).length co10) ([[16384, 16384, 16384, 16384, 16384, 16384, 16384, 16384]] : List (List Int))) := ⟨by (with_reducible repeat (first | apply Kd.S_alloc | apply Kd.S_drewN | apply Kd.S_drew)); exact Kd.S_mono (Kd.S_far (p := ⟨gb167, 0, none⟩) (Kd.S_types HO166.out BK167.out (by decide)) (fun _ hk => by first | exact hk.2 | (have hk_ := hk; simp only [and_assoc, true_and, and_true] at hk_ ⊢; first | exact hk_ | exact hk_.2 | exact hk_.2.2)) (.slice Ao10 ([[16384, 16384, 16384, 16384, 16384, 16384, 16384, 16384]] : List (List Int)).length co10)) (fun _ hk => trivial)⟩; have n1_ : Aside0 ((w9.setCell ⟨gb167, 0, none⟩ (.slice Ao10 ([[16384, 16384, 16384, 16384, 16384, 16384, 16384, 16384]] : List (List Int)).length co10)).heap[gb167]? = some (.cells #[.slice Ao10 ([[16384, 16384, 16384, 16384, 16384, 16384, 16384, 16384]] : List (List Int)).length co10] 24 (0, 0))) := ⟨by (with_reducible repeat (first | refine blk_drewN ?_ _ | refine blk_drew ?_ | refine blk_alloc ?_ _)); refine blk_put (cs := #[.slice none 0 0]) ?_ 0 _ rfl; (with_reducible repeat (first | refine blk_drewN ?_ _ | refine blk_drew ?_ | refine blk_alloc ?_ _)); exact BK167.out⟩; have n2_ : Aside0 (Below w.heap.size w (w9.setCell ⟨gb167, 0, none⟩ (.slice Ao10 ([[16384, 16384, 16384, 16384, 16384, 16384, 16384, 16384]] : List (List Int)).length co10))) := ⟨pH_ HB.out⟩; (try clear HO166); (try clear BK167); (try clear HB)
 generalize (w9.setCell ⟨gb167, 0, none⟩ (.slice Ao10 ([[16384, 16384, 16384, 16384, 16384, 16384, 16384, 16384]] : List (List Int)).length co10)) = w12 at n0_ n1_ n2_ ⊢
 have HO166 := n0_; have BK167 := n1_; have HB := n2_; clear n0_ n1_ n2_; have n0_ := Aside0.mk (Kd.S_drew HO166.out); have n1_ := Aside0.mk (blk_drew BK167.out); have n2_ := Aside0.mk (below_drew1 HB.out); clear HO166; clear BK167; clear HB; have HO166 := n0_; have BK167 := n1_; have HB := n2_; clear n0_ n1_ n2_; refine start_ (n := 10) (S := fun w' => w'.cell? ⟨gb167, 0, none⟩ = some (.slice Ao10 ([[16384, 16384, 16384, 16384, 16384, 16384, 16384, 16384]] : List (List Int)).length co10)) (ds := []) #[f_, f_, f_, f_, f_, f_, f_, f_, f_, f_] (by kernel_rfl) rfl rfl ((blk_cell BK167.out 0).trans rfl) (fun hHeld => ?_); refine with_tabW bitloftlaw16_alive.tab2 bitloftlaw16_alive.bits2 (fun HT_ HW_ => ?_)
 generalize w12.drew = w13 at HO166 BK167 HB hHeld ⊢
 refine take_ (i := 0) (N := some 15) (v := ?_) (a' := ?_) #[t_, f_, f_, f_, f_, f_, f_, f_, f_, f_] rfl rfl (take_ofW HT_.out HW_.out (by kernel_rfl)) (fun _ _ _ h => h) (Or.inl ⟨by rfl, ?_⟩) hHeld ?_ ?_; rotate_left
 ·
  intro w' s0; go_simp
  with_reducible rfl
 rotate_left
 ·
  simp only [Act.put, sA_, sZ_, sS_, i64_w, i32_w]; rfl
 refine one_ (i := 1) (N := some 16) #[t_, t_, f_, f_, f_, f_, f_, f_, f_, f_] rfl rfl (one_of HT_.out (by kernel_rfl)) (by decide) (fun K hK => ?_); refine goes_ Tryd.func36 (by kernel_rfl) rfl #[] (by rfl) rfl rfl (by (try simp only [List.map_toArray, List.map_cons, List.map_nil]); first | done | rfl | (simp only [List.length_drop, List.length_take]; rfl)) ?_
 with_reducible refine (bitloftlaw16_given.calls  ([400, -100, 0, 0, 0, 0, 0, 256] : List Int) _ A2.out).mono ?_
 rintro e w14 ⟨v168, rfl, ho0, hb⟩
 refine ⟨_, rfl, ?_⟩; have n0_ := Aside0.mk (Kd.S_elder' (by (with_reducible repeat (first | apply Kd.S_alloc | apply Kd.S_drewN | apply Kd.S_drew)); exact HO166.out) (Kd.R_base ho0) hb); have n1_ := Aside0.mk (Kd.R_lower ho0 (below_size (pH_ HB.out))); have n2_ := Aside0.mk (blk_below (g := gb167) (o := .cells #[.slice Ao10 ([[16384, 16384, 16384, 16384, 16384, 16384, 16384, 16384]] : List (List Int)).length co10] 24 (0, 0)) (pG_ BK167.out) hb); have n3_ := Aside0.mk (below_step (pH_ HB.out) hb); clear HO166; clear BK167; clear HB; have HO166 := n0_; have HO169 := n1_; have BK167 := n2_; have HB := n3_; clear n0_ n1_ n2_ n3_; (try clear hb); (try clear hb2); (try clear hk); (try clear hi); (try clear ho0); obtain ⟨Ao15, co15, eo15⟩ := Kd.R_slice HO169.out; (first | subst eo15 | (injection eo15 with f1_ f2_ f3_; have f4_ := f1_.symm; have f5_ := f3_.symm; clear f1_ f2_ f3_; subst f4_; subst f5_)); refine hK.out _ _ ((blk_cell BK167.out 0).trans rfl) (fun hHeld => ?_); clear hK K; refine norm_ (a' := ?_) ?_ ?_; rotate_left
 ·
  show Act.put _ (some 16) _ = _
  simp only [Act.put, sA_, sZ_, sS_, i64_w, i32_w]; rfl
 refine one_ (i := 2) (N := some 17) #[t_, t_, t_, f_, f_, f_, f_, f_, f_, f_] rfl rfl (one_of HT_.out (by kernel_rfl)) (by decide) (fun K hK => ?_); refine goes_ Tryd.func11 (by kernel_rfl) rfl #[.agg #[.slice Ao10 ([[16384, 16384, 16384, 16384, 16384, 16384, 16384, 16384]] : List (List Int)).length co10], .int .i64 0, .slice Ao15 ([400, -100, 0, 0, 0, 0, 0, 256] : List Int).length co15] (by rfl) rfl rfl (by (try simp only [List.map_toArray, List.map_cons, List.map_nil]); first | done | rfl | (simp only [List.length_drop, List.length_take]; rfl)) ?_
 with_reducible refine (mixer_Mix.calls 2000 _ _ ([[16384, 16384, 16384, 16384, 16384, 16384, 16384, 16384]] : List (List Int)) 0 _ _ ([400, -100, 0, 0, 0, 0, 0, 256] : List Int) 139 2587 0 _ ?side1 ?side2 ?side3 ?side4 (tab_bel hT (pH_ HB.out)) A3.out).mono ?_
 (case side1 => repeat (first | exact (Kd.S_reads' HO166.out).2.2 | (with_reducible refine Kd.C_alloc ?_ _) | (with_reducible refine Kd.C_drewN ?_ _) | (with_reducible refine Kd.C_drew ?_))); (case side2 => exact (Kd.S_reads' HO166.out).2.1); (case side3 => repeat (first | exact (Kd.R_reads' HO169.out).2.2 | (with_reducible refine Kd.C_alloc ?_ _) | (with_reducible refine Kd.C_drewN ?_ _) | (with_reducible refine Kd.C_drew ?_))); (case side4 => exact (Kd.R_reads' HO169.out).2.1)
 rintro e w16 ⟨rfl, hb⟩
 refine ⟨_, rfl, ?_⟩; have n0_ := Aside0.mk (Kd.S_below (by (with_reducible repeat (first | apply Kd.S_alloc | apply Kd.S_drewN | apply Kd.S_drew)); exact HO166.out) hb); have n1_ := Aside0.mk (Kd.R_below (pL_ HO169.out) hb); have n2_ := Aside0.mk (blk_below (g := gb167) (o := .cells #[.slice Ao10 ([[16384, 16384, 16384, 16384, 16384, 16384, 16384, 16384]] : List (List Int)).length co10] 24 (0, 0)) (pG_ BK167.out) hb); have n3_ := Aside0.mk (below_step (pH_ HB.out) hb); clear HO166; clear HO169; clear BK167; clear HB; have HO166 := n0_; have HO169 := n1_; have BK167 := n2_; have HB := n3_; clear n0_ n1_ n2_ n3_; (try clear hb); (try clear hb2); (try clear hk); (try clear hi); refine hK.out _ _ ((blk_cell BK167.out 0).trans rfl) (fun hHeld => ?_); clear hK K; refine norm_ (a' := ?_) ?_ ?_; rotate_left
 ·
  show Act.put _ (some 17) _ = _
  simp only [Act.put, sA_, sZ_, sS_, i64_w, i32_w]; rfl
 refine pure_ (i := 3) (N := some 14) (v := ?_) (a' := ?_) #[t_, t_, t_, t_, f_, f_, f_, f_, f_, f_] rfl rfl (any_of HT_.out (by kernel_rfl)) (fun _ _ _ h => h) (Or.inl ⟨by rfl, ?_⟩) ?_ ?_; rotate_left
 ·
  intro w'; go_simp
  with_reducible rfl
 rotate_left
 ·
  simp only [Act.put, sA_, sZ_, sS_, i64_w, i32_w]; rfl
 refine pure_ (i := 4) (N := some 18) (v := ?_) (a' := ?_) #[t_, t_, t_, t_, t_, f_, f_, f_, f_, f_] rfl rfl (any_of HT_.out (by kernel_rfl)) (fun _ _ _ h => h) (Or.inl ⟨by rfl, ?_⟩) ?_ ?_; rotate_left
 ·
  intro w'; go_simp
  with_reducible rfl
 rotate_left
 ·
  simp only [Act.put, sA_, sZ_, sS_, i64_w, i32_w]; rfl
 refine pure_ (i := 5) (N := some 19) (v := ?_) (a' := ?_) #[t_, t_, t_, t_, t_, t_, f_, f_, f_, f_] rfl rfl (any_of HT_.out (by kernel_rfl)) (fun _ _ _ h => h) (Or.inl ⟨by rfl, ?_⟩) ?_ ?_; rotate_left
 ·
  intro w'; go_simp
  with_reducible rfl
 rotate_left
 ·
  simp only [Act.put, sA_, sZ_, sS_, i64_w, i32_w]; rfl
 refine pure_ (i := 6) (N := some 20) (v := ?_) (a' := ?_) #[t_, t_, t_, t_, t_, t_, t_, f_, f_, f_] rfl rfl (any_of HT_.out (by kernel_rfl)) (fun _ _ _ h => h) (Or.inl ⟨by rfl, ?_⟩) ?_ ?_; rotate_left
 ·
  intro w'; go_simp
  with_reducible rfl
 rotate_left
 ·
  simp only [Act.put, sA_, sZ_, sS_, i64_w, i32_w]; rfl
 refine pure_ (i := 7) (N := some 3) (v := ?_) (a' := ?_) #[t_, t_, t_, t_, t_, t_, t_, t_, f_, f_] rfl rfl (any_of HT_.out (by kernel_rfl)) (fun _ _ _ h => h) (Or.inl ⟨by rfl, ?_⟩) ?_ ?_; rotate_left
 ·
  intro w'; go_simp
  with_reducible rfl
 rotate_left
 ·
  simp only [Act.put, sA_, sZ_, sS_, i64_w, i32_w]; rfl
 refine pure_ (i := 8) (N := some 4) (v := ?_) (a' := ?_) #[t_, t_, t_, t_, t_, t_, t_, t_, t_, f_] rfl rfl (any_of HT_.out (by kernel_rfl)) (fun _ _ _ h => h) (Or.inl ⟨by rfl, ?_⟩) ?_ ?_; rotate_left
 ·
  intro w'; go_simp
  with_reducible rfl
 rotate_left
 ·
  simp only [Act.put, sA_, sZ_, sS_, i64_w, i32_w]; rfl
 refine pure_ (i := 9) (N := some 5) (v := ?_) (a' := ?_) #[t_, t_, t_, t_, t_, t_, t_, t_, t_, t_] rfl rfl (any_of HT_.out (by kernel_rfl)) (fun _ _ _ h => h) (Or.inl ⟨by rfl, ?_⟩) ?_ ?_; rotate_left
 ·
  intro w'; go_simp
  with_reducible rfl
 rotate_left
 ·
  simp only [Act.put, sA_, sZ_, sS_, i64_w, i32_w]; rfl
 refine done_ (done_of HT_.out (by kernel_rfl)) ?_
 try go_wp2_with (first | ((with_reducible refine gate_callee (f := 13) rfl ?_); refine gL_ (some 23) Tryd.func13 #[.int .i32 2587, .bool true] ?_; (with_reducible refine (mixer_Wrong.calls 2587 true 1508 0 _ A4.out).mono ?_); rintro e w' ⟨rfl, ⟨nd, rfl⟩⟩; refine ⟨_, rfl, ?_⟩; (try (rw [drewN_self w16]; generalize hq_ : World.drewN w16 _ = w16; have n0_ : Aside0 (Kd.S (Kd.slice 21 (Kd.int .i32)) 25 w16 w.heap.size (fun k_ => some k_ ≠ (.slice Ao15 ([400, -100, 0, 0, 0, 0, 0, 256] : List Int).length co15 : Value).ownBlock) (.slice Ao10 ([[16384, 16384, 16384, 16384, 16384, 16384, 16384, 16384]] : List (List Int)).length co10) ([[16384, 16384, 16384, 16384, 16384, 16384, 16384, 16384]] : List (List Int))) := ⟨by rw [← hq_]; exact (by (with_reducible repeat (first | apply Kd.S_alloc | apply Kd.S_drewN | apply Kd.S_drew)); exact Kd.S_mono HO166.out (fun _ hk => by first | exact hk.2 | (have hk_ := hk; simp only [and_assoc, true_and, and_true] at hk_ ⊢; first | exact hk_ | exact hk_.2 | exact hk_.2.2)))⟩; have n1_ : Aside0 (Kd.R (Kd.int .i32) 21 w16 w.heap.size (fun _ => True) (.slice Ao15 ([400, -100, 0, 0, 0, 0, 0, 256] : List Int).length co15) ([400, -100, 0, 0, 0, 0, 0, 256] : List Int)) := ⟨by rw [← hq_]; exact (pL_ HO169.out)⟩; have n2_ : Aside0 (w16.heap[gb167]? = some (.cells #[.slice Ao10 ([[16384, 16384, 16384, 16384, 16384, 16384, 16384, 16384]] : List (List Int)).length co10] 24 (0, 0))) := ⟨by rw [← hq_]; exact (pG_ BK167.out)⟩; have n3_ : Aside0 (Below w.heap.size w w16) := ⟨by rw [← hq_]; exact (pH_ HB.out)⟩; clear HO166 HO169 BK167 HB hq_; have HO166 := n0_; have HO169 := n1_; have BK167 := n2_; have HB := n3_; clear n0_ n1_ n2_ n3_))))
 have n0_ := Aside0.mk (Kd.S_drew HO166.out); have n1_ := Aside0.mk (Kd.R_drew HO169.out); have n2_ := Aside0.mk (blk_drew BK167.out); have n3_ := Aside0.mk (below_drew1 HB.out); clear HO166; clear HO169; clear BK167; clear HB; have HO166 := n0_; have HO169 := n1_; have BK167 := n2_; have HB := n3_; clear n0_ n1_ n2_ n3_; refine start_ (n := 10) (S := fun w' => w'.cell? ⟨gb167, 0, none⟩ = some (.slice Ao10 ([[16384, 16384, 16384, 16384, 16384, 16384, 16384, 16384]] : List (List Int)).length co10)) (ds := []) #[f_, f_, f_, f_, f_, f_, f_, f_, f_, f_] (by kernel_rfl) rfl rfl ((blk_cell BK167.out 0).trans rfl) (fun hHeld => ?_); refine with_tabW bitloftlaw16_alive.tab4 bitloftlaw16_alive.bits4 (fun HT_ HW_ => ?_)
 generalize w16.drew = w17 at HO166 HO169 BK167 HB hHeld ⊢
 refine pure_ (i := 2) (N := some 29) (v := ?_) (a' := ?_) #[f_, f_, t_, f_, f_, f_, f_, f_, f_, f_] rfl rfl (any_of HT_.out (by kernel_rfl)) (fun _ _ _ h => h) (Or.inl ⟨by rfl, ?_⟩) ?_ ?_; rotate_left
 ·
  intro w'; go_simp
  with_reducible rfl
 rotate_left
 ·
  simp only [Act.put, sA_, sZ_, sS_, i64_w, i32_w]; rfl
 refine take_ (i := 0) (N := some 27) (v := ?_) (a' := ?_) #[t_, f_, t_, f_, f_, f_, f_, f_, f_, f_] rfl rfl (take_ofW HT_.out HW_.out (by kernel_rfl)) (fun _ _ _ h => h) (Or.inl ⟨by rfl, ?_⟩) hHeld ?_ ?_; rotate_left
 ·
  intro w' s0; go_simp
  with_reducible rfl
 rotate_left
 ·
  simp only [Act.put, sA_, sZ_, sS_, i64_w, i32_w]; rfl
 refine join_ (σ := Value × Value × Nat) 2 #[t_, t_, t_, t_, t_, t_, t_, t_, f_, f_] (fun s_ => [(28, s_.1), (30, .tuple #[.agg #[s_.2.1], .int .i64 0]), (8, .pointer (some ⟨s_.2.2, 0, none⟩)), (26, .tuple #[.agg #[s_.2.1], .int .i64 0]), (31, .agg #[s_.2.1]), (32, .int .i64 0)]) (fun s_ w' => (w'.cell? ⟨gb167, 0, none⟩ = some (.slice Ao10 ([[16384, 16384, 16384, 16384, 16384, 16384, 16384, 16384]] : List (List Int)).length co10)) ∧ (Kd.S (Kd.slice 21 (Kd.int .i32)) 25 w' w.heap.size (fun k_ => some k_ ≠ (.slice Ao15 ([400, -100, 0, 0, 0, 0, 0, 256] : List Int).length co15 : Value).ownBlock ∧ nO_ k_ s_.1 ∧ nO_ k_ s_.2.1) (.slice Ao10 ([[16384, 16384, 16384, 16384, 16384, 16384, 16384, 16384]] : List (List Int)).length co10) ([[16384, 16384, 16384, 16384, 16384, 16384, 16384, 16384]] : List (List Int))) ∧ (Kd.R (Kd.int .i32) 21 w' w.heap.size (fun k_ => nO_ k_ s_.1) (.slice Ao15 ([400, -100, 0, 0, 0, 0, 0, 256] : List Int).length co15) ([400, -100, 0, 0, 0, 0, 0, 256] : List Int)) ∧ (Kd.R (Kd.int .i32) 21 w' w.heap.size (fun k_ => some k_ ≠ (.slice Ao15 ([400, -100, 0, 0, 0, 0, 0, 256] : List Int).length co15 : Value).ownBlock) s_.1 ([400, -100, 0, 0, 0, 0, 0, 256] : List Int)) ∧ (Kd.S (Kd.slice 21 (Kd.int .i32)) 25 w' w.heap.size (fun k_ => some k_ ≠ (.slice Ao10 ([[16384, 16384, 16384, 16384, 16384, 16384, 16384, 16384]] : List (List Int)).length co10 : Value).ownBlock ∧ some k_ ≠ (.slice Ao15 ([400, -100, 0, 0, 0, 0, 0, 256] : List Int).length co15 : Value).ownBlock ∧ nO_ k_ s_.1) s_.2.1 ([[16642, 16320, 16384, 16384, 16384, 16384, 16384, 16549]] : List (List Int))) ∧ (w'.heap[gb167]? = some (.cells #[.slice Ao10 ([[16384, 16384, 16384, 16384, 16384, 16384, 16384, 16384]] : List (List Int)).length co10] 24 (0, 0))) ∧ (w'.heap[s_.2.2]? = some (.cells #[.slice none 0 0] 24 (0, 0))) ∧ (w.heap.size ≤ s_.2.2) ∧ (w.heap.size ≤ s_.2.2) ∧ (gb167 ≠ s_.2.2) ∧ (s_.2.2 ≠ gb167) ∧ (Below w.heap.size w w')) ?_ ?_; rotate_left
 ·
  intro hCont; refine two_ (i := 1) (j := 7) (Ni := some 28) (Nj := some 8) #[t_, t_, t_, f_, f_, f_, f_, f_, f_, f_] #[t_, f_, t_, f_, f_, f_, f_, t_, f_, f_] rfl rfl rfl rfl (two_of HT_.out (by kernel_rfl)) (by decide) (by decide) (fun K hK => ?_) (fun K hK => ?_)
  ·
   skip
   refine goes_ Tryd.func36 (by kernel_rfl) rfl #[] (by rfl) rfl rfl (by (try simp only [List.map_toArray, List.map_cons, List.map_nil]); first | done | rfl | (simp only [List.length_drop, List.length_take]; rfl)) ?_
   with_reducible refine (bitloftlaw16_given.calls  ([400, -100, 0, 0, 0, 0, 0, 256] : List Int) _ A5.out).mono ?_
   rintro e w18 ⟨v170, rfl, ho0, hb⟩
   refine ⟨_, rfl, ?_⟩; have n0_ := Aside0.mk (Kd.S_elder' (by (with_reducible repeat (first | apply Kd.S_alloc | apply Kd.S_drewN | apply Kd.S_drew)); exact HO166.out) (Kd.R_base ho0) hb); have n1_ := Aside0.mk (Kd.R_elder' (pL_ HO169.out) (Kd.R_base ho0) hb); have n2_ := Aside0.mk (Kd.R_lower (Kd.R_new' ho0 (Kd.R_lt (pL_ HO169.out))) (below_size (pH_ HB.out))); have n3_ := Aside0.mk (blk_below (g := gb167) (o := .cells #[.slice Ao10 ([[16384, 16384, 16384, 16384, 16384, 16384, 16384, 16384]] : List (List Int)).length co10] 24 (0, 0)) (pG_ BK167.out) hb); have n4_ := Aside0.mk (below_step (pH_ HB.out) hb); clear HO166; clear HO169; clear BK167; clear HB; have HO166 := n0_; have HO169 := n1_; have HO171 := n2_; have BK167 := n3_; have HB := n4_; clear n0_ n1_ n2_ n3_ n4_; (try clear hb); (try clear hb2); (try clear hk); (try clear hi); (try clear ho0); obtain ⟨Ao19, co19, eo19⟩ := Kd.R_slice HO171.out; (first | subst eo19 | (injection eo19 with f1_ f2_ f3_; have f4_ := f1_.symm; have f5_ := f3_.symm; clear f1_ f2_ f3_; subst f4_; subst f5_)); refine hK.out _ _ ((blk_cell BK167.out 0).trans rfl) (fun hHeld => ?_); clear hK K; refine norm_ (a' := ?_) ?_ ?_; rotate_left
   ·
    show Act.put _ (some 28) _ = _
    simp only [Act.put, sA_, sZ_, sS_, i64_w, i32_w]; rfl
   refine two_ (i := 3) (j := 7) (Ni := some 30) (Nj := some 8) #[t_, t_, t_, t_, f_, f_, f_, f_, f_, f_] #[t_, t_, t_, f_, f_, f_, f_, t_, f_, f_] rfl rfl rfl rfl (two_of HT_.out (by kernel_rfl)) (by decide) (by decide) (fun K hK => ?_) (fun K hK => ?_)
   ·
    skip
    refine goes_ Tryd.func18 (by kernel_rfl) rfl #[.agg #[.slice Ao10 ([[16384, 16384, 16384, 16384, 16384, 16384, 16384, 16384]] : List (List Int)).length co10], .int .i64 0, .slice Ao19 ([400, -100, 0, 0, 0, 0, 0, 256] : List Int).length co19, .int .i32 2587, .bool true] (by rfl) rfl rfl (by (try simp only [List.map_toArray, List.map_cons, List.map_nil]); first | done | rfl | (simp only [List.length_drop, List.length_take]; rfl)) ?_
    with_reducible refine (mixer_Learn.calls 2000 _ _ ([[16384, 16384, 16384, 16384, 16384, 16384, 16384, 16384]] : List (List Int)) 0 _ _ ([400, -100, 0, 0, 0, 0, 0, 256] : List Int) 2587 true ([[16642, 16320, 16384, 16384, 16384, 16384, 16384, 16549]] : List (List Int)) 0 _ ?side1 ?side2 ?side3 ?side4 A6.out).mono ?_
    (case side1 => repeat (first | exact (Kd.S_reads' HO166.out).2.2 | (with_reducible refine Kd.C_alloc ?_ _) | (with_reducible refine Kd.C_drewN ?_ _) | (with_reducible refine Kd.C_drew ?_))); (case side2 => exact (Kd.S_reads' HO166.out).2.1); (case side3 => repeat (first | exact (Kd.R_reads' HO171.out).2.2 | (with_reducible refine Kd.C_alloc ?_ _) | (with_reducible refine Kd.C_drewN ?_ _) | (with_reducible refine Kd.C_drew ?_))); (case side4 => exact (Kd.R_reads' HO171.out).2.1)
    rintro e w20 ⟨v172, rfl, ho0, hb⟩
    refine ⟨_, rfl, ?_⟩; have n0_ := Aside0.mk (Kd.S_elder' (by (with_reducible repeat (first | apply Kd.S_alloc | apply Kd.S_drewN | apply Kd.S_drew)); exact HO166.out) (Kd.S_base ho0) hb); have n1_ := Aside0.mk (Kd.R_below (pL_ HO169.out) hb); have n2_ := Aside0.mk (Kd.R_below (pL_ HO171.out) hb); have n3_ := Aside0.mk (Kd.S_lower (Kd.S_new' (Kd.S_new' (Kd.S_new' ho0 (Kd.S_lt (by (with_reducible repeat (first | apply Kd.S_alloc | apply Kd.S_drewN | apply Kd.S_drew)); exact HO166.out))) (Kd.R_lt (pL_ HO169.out))) (Kd.R_lt (pL_ HO171.out))) (below_size (pH_ HB.out))); have n4_ := Aside0.mk (blk_below (g := gb167) (o := .cells #[.slice Ao10 ([[16384, 16384, 16384, 16384, 16384, 16384, 16384, 16384]] : List (List Int)).length co10] 24 (0, 0)) (pG_ BK167.out) hb); have n5_ := Aside0.mk (below_step (pH_ HB.out) hb); clear HO166; clear HO169; clear HO171; clear BK167; clear HB; have HO166 := n0_; have HO169 := n1_; have HO171 := n2_; have HO173 := n3_; have BK167 := n4_; have HB := n5_; clear n0_ n1_ n2_ n3_ n4_ n5_; (try clear hb); (try clear hb2); (try clear hk); (try clear hi); (try clear ho0); refine hK.out _ _ ((blk_cell BK167.out 0).trans rfl) (fun hHeld => ?_); clear hK K; refine norm_ (a' := ?_) ?_ ?_; rotate_left
    ·
     show Act.put _ (some 30) _ = _
     simp only [Act.put, sA_, sZ_, sS_, i64_w, i32_w]; rfl
    refine pure_ (i := 4) (N := some 26) (v := ?_) (a' := ?_) #[t_, t_, t_, t_, t_, f_, f_, f_, f_, f_] rfl rfl (any_of HT_.out (by kernel_rfl)) (fun _ _ _ h => h) (Or.inl ⟨by rfl, ?_⟩) ?_ ?_; rotate_left
    ·
     intro w'; go_simp
     with_reducible rfl
    rotate_left
    ·
     simp only [Act.put, sA_, sZ_, sS_, i64_w, i32_w]; rfl
    refine pure_ (i := 5) (N := some 31) (v := ?_) (a' := ?_) #[t_, t_, t_, t_, t_, t_, f_, f_, f_, f_] rfl rfl (any_of HT_.out (by kernel_rfl)) (fun _ _ _ h => h) (Or.inl ⟨by rfl, ?_⟩) ?_ ?_; rotate_left
    ·
     intro w'; go_simp
     with_reducible rfl
    rotate_left
    ·
     simp only [Act.put, sA_, sZ_, sS_, i64_w, i32_w]; rfl
    refine pure_ (i := 6) (N := some 32) (v := ?_) (a' := ?_) #[t_, t_, t_, t_, t_, t_, t_, f_, f_, f_] rfl rfl (any_of HT_.out (by kernel_rfl)) (fun _ _ _ h => h) (Or.inl ⟨by rfl, ?_⟩) ?_ ?_; rotate_left
    ·
     intro w'; go_simp
     with_reducible rfl
    rotate_left
    ·
     simp only [Act.put, sA_, sZ_, sS_, i64_w, i32_w]; rfl
    refine one_ (i := 7) (N := some 8) #[t_, t_, t_, t_, t_, t_, t_, t_, f_, f_] rfl rfl (one_of HT_.out (by kernel_rfl)) (by decide) (fun K hK => ?_); refine box_step ?hg (N := 8) ?hd (cs := #[.slice none 0 0]) (t := 24) ?hr ?_; (case hd => rfl); (case hg => rfl); (case hr => first | (go_simp; done) | (go_simp; rfl)); intro gb174 hg w21 hbox hb; have n0_ := Aside0.mk (Kd.S_below (by (with_reducible repeat (first | apply Kd.S_alloc | apply Kd.S_drewN | apply Kd.S_drew)); exact HO166.out) hb); have n1_ := Aside0.mk (Kd.R_below (pL_ HO169.out) hb); have n2_ := Aside0.mk (Kd.R_below (pL_ HO171.out) hb); have n3_ := Aside0.mk (Kd.S_below (by (with_reducible repeat (first | apply Kd.S_alloc | apply Kd.S_drewN | apply Kd.S_drew)); exact HO173.out) hb); have n4_ := Aside0.mk (blk_below (g := gb167) (o := .cells #[.slice Ao10 ([[16384, 16384, 16384, 16384, 16384, 16384, 16384, 16384]] : List (List Int)).length co10] 24 (0, 0)) (pG_ BK167.out) hb); have n5_ := Aside0.mk (below_step (pH_ HB.out) hb); have n6_ := Aside0.mk (hbox); have n7_ := Aside0.mk ((by rw [hg]; exact (below_size (pH_ HB.out)) : w.heap.size ≤ gb174)); have n8_ := Aside0.mk ((by rw [hg]; exact (below_size (pH_ HB.out)) : w.heap.size ≤ gb174)); have n9_ := Aside0.mk ((by rw [hg]; exact Nat.ne_of_lt (blk_lt (g := gb167) (o := .cells #[.slice Ao10 ([[16384, 16384, 16384, 16384, 16384, 16384, 16384, 16384]] : List (List Int)).length co10] 24 (0, 0)) (pG_ BK167.out)) : gb167 ≠ gb174)); have n10_ := Aside0.mk ((by rw [hg]; exact Nat.ne_of_gt (blk_lt (g := gb167) (o := .cells #[.slice Ao10 ([[16384, 16384, 16384, 16384, 16384, 16384, 16384, 16384]] : List (List Int)).length co10] 24 (0, 0)) (pG_ BK167.out)) : gb174 ≠ gb167)); clear HO166; clear HO169; clear HO171; clear HO173; clear BK167; clear HB; have HO166 := n0_; have HO169 := n1_; have HO171 := n2_; have HO173 := n3_; have BK167 := n4_; have HB := n5_; have BK174 := n6_; have GW174 := n7_; have GE174 := n8_; have NB167_174 := n9_; have NB174_167 := n10_; clear n0_ n1_ n2_ n3_ n4_ n5_ n6_ n7_ n8_ n9_ n10_; clear hb hbox hg; refine hK.out _ _ ((blk_cell BK167.out 0).trans rfl) (fun hHeld => ?_); clear hK K; refine norm_ (a' := ?_) ?_ ?_; rotate_left
    ·
     show Act.put _ (some 8) _ = _
     simp only [Act.put, sA_, sZ_, sS_, i64_w, i32_w]; rfl
    exact norm_ (by simp only [putAll, Act.put, sA_, sZ_, sS_]) (hCont (.slice Ao19 ([400, -100, 0, 0, 0, 0, 0, 256] : List Int).length co19, v172, gb174) _ ⟨hHeld, (by (with_reducible repeat (first | apply Kd.S_alloc | apply Kd.S_drewN | apply Kd.S_drew)); exact Kd.S_mono HO166.out (fun _ hk => by first | exact ⟨hk.1.1.2, ⟨hk.1.2, hk.2⟩⟩ | (have hk_ := hk; simp only [and_assoc, true_and, and_true] at hk_ ⊢; first | exact hk_ | exact hk_.2 | exact hk_.2.2))), (by (with_reducible repeat (first | apply rA_ | apply rN_ | apply rD_)); exact Kd.R_mono HO169.out (fun _ hk => by first | exact hk.2 | (have hk_ := hk; simp only [and_assoc, true_and, and_true] at hk_ ⊢; first | exact hk_ | exact hk_.2 | exact hk_.2.2))), (by (with_reducible repeat (first | apply rA_ | apply rN_ | apply rD_)); exact Kd.R_mono HO171.out (fun _ hk => by first | exact hk.2 | (have hk_ := hk; simp only [and_assoc, true_and, and_true] at hk_ ⊢; first | exact hk_ | exact hk_.2 | exact hk_.2.2))), (by (with_reducible repeat (first | apply Kd.S_alloc | apply Kd.S_drewN | apply Kd.S_drew)); exact Kd.S_mono HO173.out (fun _ hk => by first | exact ⟨hk.1.1.2, ⟨hk.1.2, hk.2⟩⟩ | (have hk_ := hk; simp only [and_assoc, true_and, and_true] at hk_ ⊢; first | exact hk_ | exact hk_.2 | exact hk_.2.2))), (pG_ BK167.out), (pG_ BK174.out), GW174.out, GE174.out, NB167_174.out, NB174_167.out, (pH_ HB.out)⟩)
   ·
    skip
    refine box_step ?hg (N := 8) ?hd (cs := #[.slice none 0 0]) (t := 24) ?hr ?_; (case hd => rfl); (case hg => rfl); (case hr => first | (go_simp; done) | (go_simp; rfl)); intro gb174 hg w19 hbox hb; have n0_ := Aside0.mk (Kd.S_below (by (with_reducible repeat (first | apply Kd.S_alloc | apply Kd.S_drewN | apply Kd.S_drew)); exact HO166.out) hb); have n1_ := Aside0.mk (Kd.R_below (pL_ HO169.out) hb); have n2_ := Aside0.mk (Kd.R_below (pL_ HO171.out) hb); have n3_ := Aside0.mk (blk_below (g := gb167) (o := .cells #[.slice Ao10 ([[16384, 16384, 16384, 16384, 16384, 16384, 16384, 16384]] : List (List Int)).length co10] 24 (0, 0)) (pG_ BK167.out) hb); have n4_ := Aside0.mk (below_step (pH_ HB.out) hb); have n5_ := Aside0.mk (hbox); have n6_ := Aside0.mk ((by rw [hg]; exact (below_size (pH_ HB.out)) : w.heap.size ≤ gb174)); have n7_ := Aside0.mk ((by rw [hg]; exact (below_size (pH_ HB.out)) : w.heap.size ≤ gb174)); have n8_ := Aside0.mk ((by rw [hg]; exact Nat.ne_of_lt (blk_lt (g := gb167) (o := .cells #[.slice Ao10 ([[16384, 16384, 16384, 16384, 16384, 16384, 16384, 16384]] : List (List Int)).length co10] 24 (0, 0)) (pG_ BK167.out)) : gb167 ≠ gb174)); have n9_ := Aside0.mk ((by rw [hg]; exact Nat.ne_of_gt (blk_lt (g := gb167) (o := .cells #[.slice Ao10 ([[16384, 16384, 16384, 16384, 16384, 16384, 16384, 16384]] : List (List Int)).length co10] 24 (0, 0)) (pG_ BK167.out)) : gb174 ≠ gb167)); clear HO166; clear HO169; clear HO171; clear BK167; clear HB; have HO166 := n0_; have HO169 := n1_; have HO171 := n2_; have BK167 := n3_; have HB := n4_; have BK174 := n5_; have GW174 := n6_; have GE174 := n7_; have NB167_174 := n8_; have NB174_167 := n9_; clear n0_ n1_ n2_ n3_ n4_ n5_ n6_ n7_ n8_ n9_; clear hb hbox hg; obtain ⟨Ao20, co20, eo20⟩ := Kd.R_slice HO171.out; (first | subst eo20 | (injection eo20 with f1_ f2_ f3_; have f4_ := f1_.symm; have f5_ := f3_.symm; clear f1_ f2_ f3_; subst f4_; subst f5_)); refine hK.out _ _ ((blk_cell BK167.out 0).trans rfl) (fun hHeld => ?_); clear hK K; refine norm_ (a' := ?_) ?_ ?_; rotate_left
    ·
     show Act.put _ (some 8) _ = _
     simp only [Act.put, sA_, sZ_, sS_, i64_w, i32_w]; rfl
    refine one_ (i := 3) (N := some 30) #[t_, t_, t_, t_, f_, f_, f_, t_, f_, f_] rfl rfl (one_of HT_.out (by kernel_rfl)) (by decide) (fun K hK => ?_); refine goes_ Tryd.func18 (by kernel_rfl) rfl #[.agg #[.slice Ao10 ([[16384, 16384, 16384, 16384, 16384, 16384, 16384, 16384]] : List (List Int)).length co10], .int .i64 0, .slice Ao20 ([400, -100, 0, 0, 0, 0, 0, 256] : List Int).length co20, .int .i32 2587, .bool true] (by rfl) rfl rfl (by (try simp only [List.map_toArray, List.map_cons, List.map_nil]); first | done | rfl | (simp only [List.length_drop, List.length_take]; rfl)) ?_
    with_reducible refine (mixer_Learn.calls 2000 _ _ ([[16384, 16384, 16384, 16384, 16384, 16384, 16384, 16384]] : List (List Int)) 0 _ _ ([400, -100, 0, 0, 0, 0, 0, 256] : List Int) 2587 true ([[16642, 16320, 16384, 16384, 16384, 16384, 16384, 16549]] : List (List Int)) 0 _ ?side1 ?side2 ?side3 ?side4 A6.out).mono ?_
    (case side1 => repeat (first | exact (Kd.S_reads' HO166.out).2.2 | (with_reducible refine Kd.C_alloc ?_ _) | (with_reducible refine Kd.C_drewN ?_ _) | (with_reducible refine Kd.C_drew ?_))); (case side2 => exact (Kd.S_reads' HO166.out).2.1); (case side3 => repeat (first | exact (Kd.R_reads' HO171.out).2.2 | (with_reducible refine Kd.C_alloc ?_ _) | (with_reducible refine Kd.C_drewN ?_ _) | (with_reducible refine Kd.C_drew ?_))); (case side4 => exact (Kd.R_reads' HO171.out).2.1)
    rintro e w21 ⟨v172, rfl, ho0, hb⟩
    refine ⟨_, rfl, ?_⟩; have n0_ := Aside0.mk (Kd.S_elder' (by (with_reducible repeat (first | apply Kd.S_alloc | apply Kd.S_drewN | apply Kd.S_drew)); exact HO166.out) (Kd.S_base ho0) hb); have n1_ := Aside0.mk (Kd.R_below (pL_ HO169.out) hb); have n2_ := Aside0.mk (Kd.R_below (pL_ HO171.out) hb); have n3_ := Aside0.mk (Kd.S_lower (Kd.S_new' (Kd.S_new' (Kd.S_new' ho0 (Kd.S_lt (by (with_reducible repeat (first | apply Kd.S_alloc | apply Kd.S_drewN | apply Kd.S_drew)); exact HO166.out))) (Kd.R_lt (pL_ HO169.out))) (Kd.R_lt (pL_ HO171.out))) (below_size (pH_ HB.out))); have n4_ := Aside0.mk (blk_below (g := gb167) (o := .cells #[.slice Ao10 ([[16384, 16384, 16384, 16384, 16384, 16384, 16384, 16384]] : List (List Int)).length co10] 24 (0, 0)) (pG_ BK167.out) hb); have n5_ := Aside0.mk (blk_below (pG_ BK174.out) hb); have n6_ := Aside0.mk (below_step (pH_ HB.out) hb); clear HO166; clear HO169; clear HO171; clear BK167; clear BK174; clear HB; have HO166 := n0_; have HO169 := n1_; have HO171 := n2_; have HO173 := n3_; have BK167 := n4_; have BK174 := n5_; have HB := n6_; clear n0_ n1_ n2_ n3_ n4_ n5_ n6_; (try clear hb); (try clear hb2); (try clear hk); (try clear hi); (try clear ho0); refine hK.out _ _ ((blk_cell BK167.out 0).trans rfl) (fun hHeld => ?_); clear hK K; refine norm_ (a' := ?_) ?_ ?_; rotate_left
    ·
     show Act.put _ (some 30) _ = _
     simp only [Act.put, sA_, sZ_, sS_, i64_w, i32_w]; rfl
    refine pure_ (i := 4) (N := some 26) (v := ?_) (a' := ?_) #[t_, t_, t_, t_, t_, f_, f_, t_, f_, f_] rfl rfl (any_of HT_.out (by kernel_rfl)) (fun _ _ _ h => h) (Or.inl ⟨by rfl, ?_⟩) ?_ ?_; rotate_left
    ·
     intro w'; go_simp
     with_reducible rfl
    rotate_left
    ·
     simp only [Act.put, sA_, sZ_, sS_, i64_w, i32_w]; rfl
    refine pure_ (i := 5) (N := some 31) (v := ?_) (a' := ?_) #[t_, t_, t_, t_, t_, t_, f_, t_, f_, f_] rfl rfl (any_of HT_.out (by kernel_rfl)) (fun _ _ _ h => h) (Or.inl ⟨by rfl, ?_⟩) ?_ ?_; rotate_left
    ·
     intro w'; go_simp
     with_reducible rfl
    rotate_left
    ·
     simp only [Act.put, sA_, sZ_, sS_, i64_w, i32_w]; rfl
    refine pure_ (i := 6) (N := some 32) (v := ?_) (a' := ?_) #[t_, t_, t_, t_, t_, t_, t_, t_, f_, f_] rfl rfl (any_of HT_.out (by kernel_rfl)) (fun _ _ _ h => h) (Or.inl ⟨by rfl, ?_⟩) ?_ ?_; rotate_left
    ·
     intro w'; go_simp
     with_reducible rfl
    rotate_left
    ·
     simp only [Act.put, sA_, sZ_, sS_, i64_w, i32_w]; rfl
    exact norm_ (by simp only [putAll, Act.put, sA_, sZ_, sS_]) (hCont (.slice Ao20 ([400, -100, 0, 0, 0, 0, 0, 256] : List Int).length co20, v172, gb174) _ ⟨hHeld, (by (with_reducible repeat (first | apply Kd.S_alloc | apply Kd.S_drewN | apply Kd.S_drew)); exact Kd.S_mono HO166.out (fun _ hk => by first | exact ⟨hk.1.1.2, ⟨hk.1.2, hk.2⟩⟩ | (have hk_ := hk; simp only [and_assoc, true_and, and_true] at hk_ ⊢; first | exact hk_ | exact hk_.2 | exact hk_.2.2))), (by (with_reducible repeat (first | apply rA_ | apply rN_ | apply rD_)); exact Kd.R_mono HO169.out (fun _ hk => by first | exact hk.2 | (have hk_ := hk; simp only [and_assoc, true_and, and_true] at hk_ ⊢; first | exact hk_ | exact hk_.2 | exact hk_.2.2))), (by (with_reducible repeat (first | apply rA_ | apply rN_ | apply rD_)); exact Kd.R_mono HO171.out (fun _ hk => by first | exact hk.2 | (have hk_ := hk; simp only [and_assoc, true_and, and_true] at hk_ ⊢; first | exact hk_ | exact hk_.2 | exact hk_.2.2))), (by (with_reducible repeat (first | apply Kd.S_alloc | apply Kd.S_drewN | apply Kd.S_drew)); exact Kd.S_mono HO173.out (fun _ hk => by first | exact ⟨hk.1.1.2, ⟨hk.1.2, hk.2⟩⟩ | (have hk_ := hk; simp only [and_assoc, true_and, and_true] at hk_ ⊢; first | exact hk_ | exact hk_.2 | exact hk_.2.2))), (pG_ BK167.out), (pG_ BK174.out), GW174.out, GE174.out, NB167_174.out, NB174_167.out, (pH_ HB.out)⟩)
  ·
   skip
   refine box_step ?hg (N := 8) ?hd (cs := #[.slice none 0 0]) (t := 24) ?hr ?_; (case hd => rfl); (case hg => rfl); (case hr => first | (go_simp; done) | (go_simp; rfl)); intro gb174 hg w18 hbox hb; have n0_ := Aside0.mk (Kd.S_below (by (with_reducible repeat (first | apply Kd.S_alloc | apply Kd.S_drewN | apply Kd.S_drew)); exact HO166.out) hb); have n1_ := Aside0.mk (Kd.R_below (pL_ HO169.out) hb); have n2_ := Aside0.mk (blk_below (g := gb167) (o := .cells #[.slice Ao10 ([[16384, 16384, 16384, 16384, 16384, 16384, 16384, 16384]] : List (List Int)).length co10] 24 (0, 0)) (pG_ BK167.out) hb); have n3_ := Aside0.mk (below_step (pH_ HB.out) hb); have n4_ := Aside0.mk (hbox); have n5_ := Aside0.mk ((by rw [hg]; exact (below_size (pH_ HB.out)) : w.heap.size ≤ gb174)); have n6_ := Aside0.mk ((by rw [hg]; exact (below_size (pH_ HB.out)) : w.heap.size ≤ gb174)); have n7_ := Aside0.mk ((by rw [hg]; exact Nat.ne_of_lt (blk_lt (g := gb167) (o := .cells #[.slice Ao10 ([[16384, 16384, 16384, 16384, 16384, 16384, 16384, 16384]] : List (List Int)).length co10] 24 (0, 0)) (pG_ BK167.out)) : gb167 ≠ gb174)); have n8_ := Aside0.mk ((by rw [hg]; exact Nat.ne_of_gt (blk_lt (g := gb167) (o := .cells #[.slice Ao10 ([[16384, 16384, 16384, 16384, 16384, 16384, 16384, 16384]] : List (List Int)).length co10] 24 (0, 0)) (pG_ BK167.out)) : gb174 ≠ gb167)); clear HO166; clear HO169; clear BK167; clear HB; have HO166 := n0_; have HO169 := n1_; have BK167 := n2_; have HB := n3_; have BK174 := n4_; have GW174 := n5_; have GE174 := n6_; have NB167_174 := n7_; have NB174_167 := n8_; clear n0_ n1_ n2_ n3_ n4_ n5_ n6_ n7_ n8_; clear hb hbox hg; refine hK.out _ _ ((blk_cell BK167.out 0).trans rfl) (fun hHeld => ?_); clear hK K; refine norm_ (a' := ?_) ?_ ?_; rotate_left
   ·
    show Act.put _ (some 8) _ = _
    simp only [Act.put, sA_, sZ_, sS_, i64_w, i32_w]; rfl
   refine one_ (i := 1) (N := some 28) #[t_, t_, t_, f_, f_, f_, f_, t_, f_, f_] rfl rfl (one_of HT_.out (by kernel_rfl)) (by decide) (fun K hK => ?_); refine goes_ Tryd.func36 (by kernel_rfl) rfl #[] (by rfl) rfl rfl (by (try simp only [List.map_toArray, List.map_cons, List.map_nil]); first | done | rfl | (simp only [List.length_drop, List.length_take]; rfl)) ?_
   with_reducible refine (bitloftlaw16_given.calls  ([400, -100, 0, 0, 0, 0, 0, 256] : List Int) _ A5.out).mono ?_
   rintro e w19 ⟨v170, rfl, ho0, hb⟩
   refine ⟨_, rfl, ?_⟩; have n0_ := Aside0.mk (Kd.S_elder' (by (with_reducible repeat (first | apply Kd.S_alloc | apply Kd.S_drewN | apply Kd.S_drew)); exact HO166.out) (Kd.R_base ho0) hb); have n1_ := Aside0.mk (Kd.R_elder' (pL_ HO169.out) (Kd.R_base ho0) hb); have n2_ := Aside0.mk (Kd.R_lower (Kd.R_new' ho0 (Kd.R_lt (pL_ HO169.out))) (below_size (pH_ HB.out))); have n3_ := Aside0.mk (blk_below (g := gb167) (o := .cells #[.slice Ao10 ([[16384, 16384, 16384, 16384, 16384, 16384, 16384, 16384]] : List (List Int)).length co10] 24 (0, 0)) (pG_ BK167.out) hb); have n4_ := Aside0.mk (blk_below (pG_ BK174.out) hb); have n5_ := Aside0.mk (below_step (pH_ HB.out) hb); clear HO166; clear HO169; clear BK167; clear BK174; clear HB; have HO166 := n0_; have HO169 := n1_; have HO171 := n2_; have BK167 := n3_; have BK174 := n4_; have HB := n5_; clear n0_ n1_ n2_ n3_ n4_ n5_; (try clear hb); (try clear hb2); (try clear hk); (try clear hi); (try clear ho0); obtain ⟨Ao20, co20, eo20⟩ := Kd.R_slice HO171.out; (first | subst eo20 | (injection eo20 with f1_ f2_ f3_; have f4_ := f1_.symm; have f5_ := f3_.symm; clear f1_ f2_ f3_; subst f4_; subst f5_)); refine hK.out _ _ ((blk_cell BK167.out 0).trans rfl) (fun hHeld => ?_); clear hK K; refine norm_ (a' := ?_) ?_ ?_; rotate_left
   ·
    show Act.put _ (some 28) _ = _
    simp only [Act.put, sA_, sZ_, sS_, i64_w, i32_w]; rfl
   refine one_ (i := 3) (N := some 30) #[t_, t_, t_, t_, f_, f_, f_, t_, f_, f_] rfl rfl (one_of HT_.out (by kernel_rfl)) (by decide) (fun K hK => ?_); refine goes_ Tryd.func18 (by kernel_rfl) rfl #[.agg #[.slice Ao10 ([[16384, 16384, 16384, 16384, 16384, 16384, 16384, 16384]] : List (List Int)).length co10], .int .i64 0, .slice Ao20 ([400, -100, 0, 0, 0, 0, 0, 256] : List Int).length co20, .int .i32 2587, .bool true] (by rfl) rfl rfl (by (try simp only [List.map_toArray, List.map_cons, List.map_nil]); first | done | rfl | (simp only [List.length_drop, List.length_take]; rfl)) ?_
   with_reducible refine (mixer_Learn.calls 2000 _ _ ([[16384, 16384, 16384, 16384, 16384, 16384, 16384, 16384]] : List (List Int)) 0 _ _ ([400, -100, 0, 0, 0, 0, 0, 256] : List Int) 2587 true ([[16642, 16320, 16384, 16384, 16384, 16384, 16384, 16549]] : List (List Int)) 0 _ ?side1 ?side2 ?side3 ?side4 A6.out).mono ?_
   (case side1 => repeat (first | exact (Kd.S_reads' HO166.out).2.2 | (with_reducible refine Kd.C_alloc ?_ _) | (with_reducible refine Kd.C_drewN ?_ _) | (with_reducible refine Kd.C_drew ?_))); (case side2 => exact (Kd.S_reads' HO166.out).2.1); (case side3 => repeat (first | exact (Kd.R_reads' HO171.out).2.2 | (with_reducible refine Kd.C_alloc ?_ _) | (with_reducible refine Kd.C_drewN ?_ _) | (with_reducible refine Kd.C_drew ?_))); (case side4 => exact (Kd.R_reads' HO171.out).2.1)
   rintro e w21 ⟨v172, rfl, ho0, hb⟩
   refine ⟨_, rfl, ?_⟩; have n0_ := Aside0.mk (Kd.S_elder' (by (with_reducible repeat (first | apply Kd.S_alloc | apply Kd.S_drewN | apply Kd.S_drew)); exact HO166.out) (Kd.S_base ho0) hb); have n1_ := Aside0.mk (Kd.R_below (pL_ HO169.out) hb); have n2_ := Aside0.mk (Kd.R_below (pL_ HO171.out) hb); have n3_ := Aside0.mk (Kd.S_lower (Kd.S_new' (Kd.S_new' (Kd.S_new' ho0 (Kd.S_lt (by (with_reducible repeat (first | apply Kd.S_alloc | apply Kd.S_drewN | apply Kd.S_drew)); exact HO166.out))) (Kd.R_lt (pL_ HO169.out))) (Kd.R_lt (pL_ HO171.out))) (below_size (pH_ HB.out))); have n4_ := Aside0.mk (blk_below (g := gb167) (o := .cells #[.slice Ao10 ([[16384, 16384, 16384, 16384, 16384, 16384, 16384, 16384]] : List (List Int)).length co10] 24 (0, 0)) (pG_ BK167.out) hb); have n5_ := Aside0.mk (blk_below (pG_ BK174.out) hb); have n6_ := Aside0.mk (below_step (pH_ HB.out) hb); clear HO166; clear HO169; clear HO171; clear BK167; clear BK174; clear HB; have HO166 := n0_; have HO169 := n1_; have HO171 := n2_; have HO173 := n3_; have BK167 := n4_; have BK174 := n5_; have HB := n6_; clear n0_ n1_ n2_ n3_ n4_ n5_ n6_; (try clear hb); (try clear hb2); (try clear hk); (try clear hi); (try clear ho0); refine hK.out _ _ ((blk_cell BK167.out 0).trans rfl) (fun hHeld => ?_); clear hK K; refine norm_ (a' := ?_) ?_ ?_; rotate_left
   ·
    show Act.put _ (some 30) _ = _
    simp only [Act.put, sA_, sZ_, sS_, i64_w, i32_w]; rfl
   refine pure_ (i := 4) (N := some 26) (v := ?_) (a' := ?_) #[t_, t_, t_, t_, t_, f_, f_, t_, f_, f_] rfl rfl (any_of HT_.out (by kernel_rfl)) (fun _ _ _ h => h) (Or.inl ⟨by rfl, ?_⟩) ?_ ?_; rotate_left
   ·
    intro w'; go_simp
    with_reducible rfl
   rotate_left
   ·
    simp only [Act.put, sA_, sZ_, sS_, i64_w, i32_w]; rfl
   refine pure_ (i := 5) (N := some 31) (v := ?_) (a' := ?_) #[t_, t_, t_, t_, t_, t_, f_, t_, f_, f_] rfl rfl (any_of HT_.out (by kernel_rfl)) (fun _ _ _ h => h) (Or.inl ⟨by rfl, ?_⟩) ?_ ?_; rotate_left
   ·
    intro w'; go_simp
    with_reducible rfl
   rotate_left
   ·
    simp only [Act.put, sA_, sZ_, sS_, i64_w, i32_w]; rfl
   refine pure_ (i := 6) (N := some 32) (v := ?_) (a' := ?_) #[t_, t_, t_, t_, t_, t_, t_, t_, f_, f_] rfl rfl (any_of HT_.out (by kernel_rfl)) (fun _ _ _ h => h) (Or.inl ⟨by rfl, ?_⟩) ?_ ?_; rotate_left
   ·
    intro w'; go_simp
    with_reducible rfl
   rotate_left
   ·
    simp only [Act.put, sA_, sZ_, sS_, i64_w, i32_w]; rfl
   exact norm_ (by simp only [putAll, Act.put, sA_, sZ_, sS_]) (hCont (.slice Ao20 ([400, -100, 0, 0, 0, 0, 0, 256] : List Int).length co20, v172, gb174) _ ⟨hHeld, (by (with_reducible repeat (first | apply Kd.S_alloc | apply Kd.S_drewN | apply Kd.S_drew)); exact Kd.S_mono HO166.out (fun _ hk => by first | exact ⟨hk.1.1.2, ⟨hk.1.2, hk.2⟩⟩ | (have hk_ := hk; simp only [and_assoc, true_and, and_true] at hk_ ⊢; first | exact hk_ | exact hk_.2 | exact hk_.2.2))), (by (with_reducible repeat (first | apply rA_ | apply rN_ | apply rD_)); exact Kd.R_mono HO169.out (fun _ hk => by first | exact hk.2 | (have hk_ := hk; simp only [and_assoc, true_and, and_true] at hk_ ⊢; first | exact hk_ | exact hk_.2 | exact hk_.2.2))), (by (with_reducible repeat (first | apply rA_ | apply rN_ | apply rD_)); exact Kd.R_mono HO171.out (fun _ hk => by first | exact hk.2 | (have hk_ := hk; simp only [and_assoc, true_and, and_true] at hk_ ⊢; first | exact hk_ | exact hk_.2 | exact hk_.2.2))), (by (with_reducible repeat (first | apply Kd.S_alloc | apply Kd.S_drewN | apply Kd.S_drew)); exact Kd.S_mono HO173.out (fun _ hk => by first | exact ⟨hk.1.1.2, ⟨hk.1.2, hk.2⟩⟩ | (have hk_ := hk; simp only [and_assoc, true_and, and_true] at hk_ ⊢; first | exact hk_ | exact hk_.2 | exact hk_.2.2))), (pG_ BK167.out), (pG_ BK174.out), GW174.out, GE174.out, NB167_174.out, NB174_167.out, (pH_ HB.out)⟩)
 rintro ⟨v170, v172, gb174⟩ w22 ⟨hS_, h0_, h1_, h2_, h3_, h4_, h5_, h6_, h7_, h8_, h9_, h10_⟩
 have n0_ : Aside0 (Kd.S (Kd.slice 21 (Kd.int .i32)) 25 w22 w.heap.size (fun k_ => some k_ ≠ (.slice Ao15 ([400, -100, 0, 0, 0, 0, 0, 256] : List Int).length co15 : Value).ownBlock ∧ nO_ k_ v170 ∧ nO_ k_ v172) (.slice Ao10 ([[16384, 16384, 16384, 16384, 16384, 16384, 16384, 16384]] : List (List Int)).length co10) ([[16384, 16384, 16384, 16384, 16384, 16384, 16384, 16384]] : List (List Int))) := ⟨h0_⟩; have n1_ : Aside0 (Kd.R (Kd.int .i32) 21 w22 w.heap.size (fun k_ => nO_ k_ v170) (.slice Ao15 ([400, -100, 0, 0, 0, 0, 0, 256] : List Int).length co15) ([400, -100, 0, 0, 0, 0, 0, 256] : List Int)) := ⟨h1_⟩; have n2_ : Aside0 (Kd.R (Kd.int .i32) 21 w22 w.heap.size (fun k_ => some k_ ≠ (.slice Ao15 ([400, -100, 0, 0, 0, 0, 0, 256] : List Int).length co15 : Value).ownBlock) v170 ([400, -100, 0, 0, 0, 0, 0, 256] : List Int)) := ⟨h2_⟩; have n3_ : Aside0 (Kd.S (Kd.slice 21 (Kd.int .i32)) 25 w22 w.heap.size (fun k_ => some k_ ≠ (.slice Ao10 ([[16384, 16384, 16384, 16384, 16384, 16384, 16384, 16384]] : List (List Int)).length co10 : Value).ownBlock ∧ some k_ ≠ (.slice Ao15 ([400, -100, 0, 0, 0, 0, 0, 256] : List Int).length co15 : Value).ownBlock ∧ nO_ k_ v170) v172 ([[16642, 16320, 16384, 16384, 16384, 16384, 16384, 16549]] : List (List Int))) := ⟨h3_⟩; have n4_ : Aside0 (w22.heap[gb167]? = some (.cells #[.slice Ao10 ([[16384, 16384, 16384, 16384, 16384, 16384, 16384, 16384]] : List (List Int)).length co10] 24 (0, 0))) := ⟨h4_⟩; have n5_ : Aside0 (w22.heap[gb174]? = some (.cells #[.slice none 0 0] 24 (0, 0))) := ⟨h5_⟩; have n6_ : Aside0 (w.heap.size ≤ gb174) := ⟨h6_⟩; have n7_ : Aside0 (w.heap.size ≤ gb174) := ⟨h7_⟩; have n8_ : Aside0 (gb167 ≠ gb174) := ⟨h8_⟩; have n9_ : Aside0 (gb174 ≠ gb167) := ⟨h9_⟩; have n10_ : Aside0 (Below w.heap.size w w22) := ⟨h10_⟩; clear HO166; clear HO169; clear BK167; clear HB; clear h0_ h1_ h2_ h3_ h4_ h5_ h6_ h7_ h8_ h9_ h10_; have HO166 := n0_; have HO169 := n1_; have HO171 := n2_; have HO173 := n3_; have BK167 := n4_; have BK174 := n5_; have GW174 := n6_; have GE174 := n7_; have NB167_174 := n8_; have NB174_167 := n9_; have HB := n10_; clear n0_ n1_ n2_ n3_ n4_ n5_ n6_ n7_ n8_ n9_ n10_; have hHeld : w22.cell? ⟨gb167, 0, none⟩ = some (.slice Ao10 ([[16384, 16384, 16384, 16384, 16384, 16384, 16384, 16384]] : List (List Int)).length co10) := hS_; obtain ⟨Ao23, co23, eo23⟩ := Kd.S_slice HO173.out; (first | subst eo23 | (injection eo23 with f1_ f2_ f3_; have f4_ := f1_.symm; have f5_ := f3_.symm; clear f1_ f2_ f3_; subst f4_; subst f5_)); refine norm_ (a' := ?_) ?_ ?_; rotate_left
 ·
  simp only [putAll, Act.put, sA_, sZ_, sS_]; rfl
 refine one_ (i := 8) (N := none) #[t_, t_, t_, t_, t_, t_, t_, t_, t_, f_] rfl rfl (one_of HT_.out (by kernel_rfl)) (by decide) (fun K hK => ?_); have hs24 : w22.cell? ⟨gb174, 0, none⟩ = some (.slice none 0 0) := (blk_cell BK174.out 0).trans rfl; have hfs24 := blk_frozen BK174.out 0; have hns24_0 := NB167_174.out; have hms24_0 := NB174_167.out; refine skip_ (w1 := ?_) (by rfl) rfl ?_ ?_; rotate_left
 ·
  go_simp; rfl
 refine hK.out _ _ (((cell_far (p := ⟨gb174, _, none⟩) NB167_174.out _).trans (hHeld))) (fun hHeld => ?_); clear hK K; refine pure_ (i := 9) (N := some 9) (v := ?_) (a' := ?_) #[t_, t_, t_, t_, t_, t_, t_, t_, t_, t_] rfl rfl (any_of HT_.out (by kernel_rfl)) (fun _ _ _ h => h) (Or.inl ⟨by rfl, ?_⟩) ?_ ?_; rotate_left
 ·
  intro w'; go_simp
  with_reducible rfl
 rotate_left
 ·
  simp only [Act.put, sA_, sZ_, sS_, i64_w, i32_w]; rfl
 refine done_ (done_of HT_.out (by kernel_rfl)) ?_; have n0_ : Aside0 (Kd.S (Kd.slice 21 (Kd.int .i32)) 25 (w22.setCell ⟨gb174, 0, none⟩ (.slice Ao23 ([[16642, 16320, 16384, 16384, 16384, 16384, 16384, 16549]] : List (List Int)).length co23)) w.heap.size (fun k_ => some k_ ≠ (.slice Ao15 ([400, -100, 0, 0, 0, 0, 0, 256] : List Int).length co15 : Value).ownBlock ∧ nO_ k_ v170 ∧ some k_ ≠ (.slice Ao23 ([[16642, 16320, 16384, 16384, 16384, 16384, 16384, 16549]] : List (List Int)).length co23 : Value).ownBlock) (.slice Ao10 ([[16384, 16384, 16384, 16384, 16384, 16384, 16384, 16384]] : List (List Int)).length co10) ([[16384, 16384, 16384, 16384, 16384, 16384, 16384, 16384]] : List (List Int))) := ⟨by (with_reducible repeat (first | apply Kd.S_alloc | apply Kd.S_drewN | apply Kd.S_drew)); exact Kd.S_mono (Kd.S_far (p := ⟨gb174, 0, none⟩) (Kd.S_types HO166.out BK174.out (by decide)) (fun _ hk => by first | exact hk.2 | (have hk_ := hk; simp only [and_assoc, true_and, and_true] at hk_ ⊢; first | exact hk_ | exact hk_.2 | exact hk_.2.2)) (.slice Ao23 ([[16642, 16320, 16384, 16384, 16384, 16384, 16384, 16549]] : List (List Int)).length co23)) (fun _ hk => by first | exact ⟨hk.1.1, ⟨hk.1.2.1, hk.1.2.2⟩⟩ | (have hk_ := hk; simp only [and_assoc, true_and, and_true] at hk_ ⊢; first | exact hk_ | exact hk_.2 | exact hk_.2.2))⟩; have n1_ : Aside0 (Kd.R (Kd.int .i32) 21 (w22.setCell ⟨gb174, 0, none⟩ (.slice Ao23 ([[16642, 16320, 16384, 16384, 16384, 16384, 16384, 16549]] : List (List Int)).length co23)) w.heap.size (fun k_ => nO_ k_ v170) (.slice Ao15 ([400, -100, 0, 0, 0, 0, 0, 256] : List Int).length co15) ([400, -100, 0, 0, 0, 0, 0, 256] : List Int)) := ⟨by (with_reducible repeat (first | apply rA_ | apply rN_ | apply rD_)); exact Kd.R_mono (Kd.R_far (p := ⟨gb174, 0, none⟩) (Kd.R_types HO169.out BK174.out (by decide)) (fun _ hk => by first | exact hk.2 | (have hk_ := hk; simp only [and_assoc, true_and, and_true] at hk_ ⊢; first | exact hk_ | exact hk_.2 | exact hk_.2.2)) (.slice Ao23 ([[16642, 16320, 16384, 16384, 16384, 16384, 16384, 16549]] : List (List Int)).length co23)) (fun _ hk => by first | exact hk.1 | (have hk_ := hk; simp only [and_assoc, true_and, and_true] at hk_ ⊢; first | exact hk_ | exact hk_.2 | exact hk_.2.2))⟩; have n2_ : Aside0 (Kd.R (Kd.int .i32) 21 (w22.setCell ⟨gb174, 0, none⟩ (.slice Ao23 ([[16642, 16320, 16384, 16384, 16384, 16384, 16384, 16549]] : List (List Int)).length co23)) w.heap.size (fun k_ => some k_ ≠ (.slice Ao15 ([400, -100, 0, 0, 0, 0, 0, 256] : List Int).length co15 : Value).ownBlock) v170 ([400, -100, 0, 0, 0, 0, 0, 256] : List Int)) := ⟨by (with_reducible repeat (first | apply rA_ | apply rN_ | apply rD_)); exact Kd.R_mono (Kd.R_far (p := ⟨gb174, 0, none⟩) (Kd.R_types HO171.out BK174.out (by decide)) (fun _ hk => by first | exact hk.2 | (have hk_ := hk; simp only [and_assoc, true_and, and_true] at hk_ ⊢; first | exact hk_ | exact hk_.2 | exact hk_.2.2)) (.slice Ao23 ([[16642, 16320, 16384, 16384, 16384, 16384, 16384, 16549]] : List (List Int)).length co23)) (fun _ hk => by first | exact hk.1 | (have hk_ := hk; simp only [and_assoc, true_and, and_true] at hk_ ⊢; first | exact hk_ | exact hk_.2 | exact hk_.2.2))⟩; have n3_ : Aside0 (Kd.S (Kd.slice 21 (Kd.int .i32)) 25 (w22.setCell ⟨gb174, 0, none⟩ (.slice Ao23 ([[16642, 16320, 16384, 16384, 16384, 16384, 16384, 16549]] : List (List Int)).length co23)) w.heap.size (fun k_ => some k_ ≠ (.slice Ao10 ([[16384, 16384, 16384, 16384, 16384, 16384, 16384, 16384]] : List (List Int)).length co10 : Value).ownBlock ∧ some k_ ≠ (.slice Ao15 ([400, -100, 0, 0, 0, 0, 0, 256] : List Int).length co15 : Value).ownBlock ∧ nO_ k_ v170) (.slice Ao23 ([[16642, 16320, 16384, 16384, 16384, 16384, 16384, 16549]] : List (List Int)).length co23) ([[16642, 16320, 16384, 16384, 16384, 16384, 16384, 16549]] : List (List Int))) := ⟨by (with_reducible repeat (first | apply Kd.S_alloc | apply Kd.S_drewN | apply Kd.S_drew)); exact Kd.S_mono (Kd.S_far (p := ⟨gb174, 0, none⟩) (Kd.S_types HO173.out BK174.out (by decide)) (fun _ hk => by first | exact hk.2 | (have hk_ := hk; simp only [and_assoc, true_and, and_true] at hk_ ⊢; first | exact hk_ | exact hk_.2 | exact hk_.2.2)) (.slice Ao23 ([[16642, 16320, 16384, 16384, 16384, 16384, 16384, 16549]] : List (List Int)).length co23)) (fun _ hk => by first | exact ⟨hk.1.1, ⟨hk.1.2.1, hk.1.2.2⟩⟩ | (have hk_ := hk; simp only [and_assoc, true_and, and_true] at hk_ ⊢; first | exact hk_ | exact hk_.2 | exact hk_.2.2))⟩; have n4_ : Aside0 ((w22.setCell ⟨gb174, 0, none⟩ (.slice Ao23 ([[16642, 16320, 16384, 16384, 16384, 16384, 16384, 16549]] : List (List Int)).length co23)).heap[gb167]? = some (.cells #[.slice Ao10 ([[16384, 16384, 16384, 16384, 16384, 16384, 16384, 16384]] : List (List Int)).length co10] 24 (0, 0))) := ⟨by (with_reducible repeat (first | refine blk_drewN ?_ _ | refine blk_drew ?_ | refine blk_alloc ?_ _)); refine blk_far ?_ NB167_174.out _; (with_reducible repeat (first | refine blk_drewN ?_ _ | refine blk_drew ?_ | refine blk_alloc ?_ _)); exact BK167.out⟩; have n5_ : Aside0 ((w22.setCell ⟨gb174, 0, none⟩ (.slice Ao23 ([[16642, 16320, 16384, 16384, 16384, 16384, 16384, 16549]] : List (List Int)).length co23)).heap[gb174]? = some (.cells #[.slice Ao23 ([[16642, 16320, 16384, 16384, 16384, 16384, 16384, 16549]] : List (List Int)).length co23] 24 (0, 0))) := ⟨by (with_reducible repeat (first | refine blk_drewN ?_ _ | refine blk_drew ?_ | refine blk_alloc ?_ _)); refine blk_put (cs := #[.slice none 0 0]) ?_ 0 _ rfl; (with_reducible repeat (first | refine blk_drewN ?_ _ | refine blk_drew ?_ | refine blk_alloc ?_ _)); exact BK174.out⟩; have n6_ : Aside0 (Below w.heap.size w (w22.setCell ⟨gb174, 0, none⟩ (.slice Ao23 ([[16642, 16320, 16384, 16384, 16384, 16384, 16384, 16549]] : List (List Int)).length co23))) := ⟨pH_ HB.out⟩; (try clear HO166); (try clear HO169); (try clear HO171); (try clear HO173); (try clear BK167); (try clear BK174); (try clear HB)
 generalize (w22.setCell ⟨gb174, 0, none⟩ (.slice Ao23 ([[16642, 16320, 16384, 16384, 16384, 16384, 16384, 16549]] : List (List Int)).length co23)) = w25 at n0_ n1_ n2_ n3_ n4_ n5_ n6_ ⊢
 have HO166 := n0_; have HO169 := n1_; have HO171 := n2_; have HO173 := n3_; have BK167 := n4_; have BK174 := n5_; have HB := n6_; clear n0_ n1_ n2_ n3_ n4_ n5_ n6_; have hnb26 := NB174_167.out; have hnc26 := NB167_174.out; have hcz27_0 : w25.cell? ⟨gb174, 0, none⟩ = some (.slice Ao23 ([[16642, 16320, 16384, 16384, 16384, 16384, 16384, 16549]] : List (List Int)).length co23) := (blk_cell BK174.out 0).trans rfl; have hfz27_0 := blk_frozen BK174.out 0; have p175 : 0 ≤ (0 : Int) := (by omega); have q175 : 0 < (([[16642, 16320, 16384, 16384, 16384, 16384, 16384, 16549]] : List (List Int)).length : Int) := of_decide_eq_true (by first | (with_reducible assumption) | assumption | rfl); obtain ⟨ad175, A175_0, c175_0, e175, hx175_0, hl175_0, hi175_0⟩ := at_L1 (Kd.S_reads' HO173.out).2.2 0 p175 q175
 cases e175
 obtain ⟨ce175, hce175, hMe175, hcc175⟩ := Kd.S_get HO173.out [] 0 p175 (by first | exact q175 | exact of_decide_eq_true (by first | (with_reducible assumption) | assumption | rfl) | (have e_ := (Kd.S_reads' HO173.out).1; omega)); obtain ⟨ve175_0, rfl, ge175_0⟩ := hMe175; have hv175_0 := hcc175 0 _ rfl; rw [Nat.add_zero, show ((Kd.slice 21 (Kd.int .i32))).sz = 1 from rfl, Nat.mul_one] at hv175_0; replace hv175_0 := Option.some.inj (hv175_0.symm.trans hx175_0); rw [hv175_0] at ge175_0; have HL175_0 := Aside0.mk (show Kd.R (Kd.int .i32) 21 _ _ _ _ (rd_L1 ([[16642, 16320, 16384, 16384, 16384, 16384, 16384, 16549]] : List (List Int)) 0) from ge175_0); clear hv175_0 ge175_0; clear hcc175 hce175; have qi175 : (0 < ([[16642, 16320, 16384, 16384, 16384, 16384, 16384, 16549]] : List (List Int)).length) = True := eq_true (by omega); (try rw [show ((0 : Int)).toNat = 0 from rfl] at hx175_0); (try rw [Addr.add_zero'] at hx175_0); have HR175_0 := Aside0.mk hi175_0; have HC175_0 := Aside0.mk hl175_0; clear hi175_0 hl175_0; replace p175 := eq_true p175; replace q175 := eq_true q175
 try go_wp2_with (first | ((with_reducible refine gate_dst (N := 70) rfl ?_); (try (refine gate_guard (by rfl) ?_; dsimp only)); refine Kd.R_lit (Kd.int .i32) _ 21 ?hg (N := 70) ?hd (xs := ([16642, 16320, 16384, 16384, 16384, 16384, 16384, 16549] : List Int)) (inner := [.int .i32 16642, .int .i32 16320, .int .i32 16384, .int .i32 16384, .int .i32 16384, .int .i32 16384, .int .i32 16384, .int .i32 16549]) (ok := fun _ => True) (okp := fun _ => True) ?hr ?hp (fun _ hk => hk) trivial (Below.refl _ _) (Nat.le_refl _) (by simp) ?_; (case hd => rfl); (case hg => rfl); (case hr => first | (go_simp; done) | (go_simp; rfl)); (case hp => exact (Reps.one (show Kd.M (Kd.int .i32) _ _ _ 16642 [.int .i32 16642] from rfl) (Reps.one (show Kd.M (Kd.int .i32) _ _ _ 16320 [.int .i32 16320] from rfl) (Reps.one (show Kd.M (Kd.int .i32) _ _ _ 16384 [.int .i32 16384] from rfl) (Reps.one (show Kd.M (Kd.int .i32) _ _ _ 16384 [.int .i32 16384] from rfl) (Reps.one (show Kd.M (Kd.int .i32) _ _ _ 16384 [.int .i32 16384] from rfl) (Reps.one (show Kd.M (Kd.int .i32) _ _ _ 16384 [.int .i32 16384] from rfl) (Reps.one (show Kd.M (Kd.int .i32) _ _ _ 16384 [.int .i32 16384] from rfl) (Reps.one (show Kd.M (Kd.int .i32) _ _ _ 16549 [.int .i32 16549] from rfl) (Reps.none _ _)))))))))); intro v177 w28 ho29 hb hg_ hnew_; clear hg_ hnew_; (first | rw [← Ny176.out] at ho29 | (simp only [Int.reduceToNat] at ho29; rw [← Ny176.out] at ho29)); have n0_ := Aside0.mk (Kd.S_elder' (by (with_reducible repeat (first | apply Kd.S_alloc | apply Kd.S_drewN | apply Kd.S_drew)); exact HO166.out) (Kd.R_base ho29) hb); have n1_ := Aside0.mk (Kd.R_elder' (pL_ HO169.out) (Kd.R_base ho29) hb); have n2_ := Aside0.mk (Kd.R_elder' (pL_ HO171.out) (Kd.R_base ho29) hb); have n3_ := Aside0.mk (Kd.S_elder' (by (with_reducible repeat (first | apply Kd.S_alloc | apply Kd.S_drewN | apply Kd.S_drew)); exact HO173.out) (Kd.R_base ho29) hb); have n4_ := Aside0.mk (Kd.R_elder' (by (with_reducible repeat (first | apply rA_ | apply rN_ | apply rD_)); exact HL175_0.out) (Kd.R_base ho29) hb); have n5_ := Aside0.mk (Kd.R_lower (Kd.R_new' (Kd.R_new' (Kd.R_new' ho29 (Kd.R_lt (pL_ HO169.out))) (Kd.R_lt (pL_ HO171.out))) (Kd.R_lt (by (with_reducible repeat (first | apply rA_ | apply rN_ | apply rD_)); exact HL175_0.out))) (below_size (pH_ HB.out))); have n6_ := Aside0.mk (blk_below (g := gb167) (o := .cells #[.slice Ao10 ([[16384, 16384, 16384, 16384, 16384, 16384, 16384, 16384]] : List (List Int)).length co10] 24 (0, 0)) (pG_ BK167.out) hb); have n7_ := Aside0.mk (blk_below (g := gb174) (o := .cells #[.slice (some ad175) ([[16642, 16320, 16384, 16384, 16384, 16384, 16384, 16549]] : List (List Int)).length co23] 24 (0, 0)) (pG_ BK174.out) hb); have n8_ := Aside0.mk (Kd.C_below (by repeat (first | (with_reducible exact HR175_0.out) | (with_reducible refine Kd.C_alloc ?_ _) | (with_reducible refine Kd.C_drewN ?_ _) | (with_reducible refine Kd.C_drew ?_) | exact HR175_0.out)) hb); have n9_ := Aside0.mk (below_step (pH_ HB.out) hb); clear HO166; clear HO169; clear HO171; clear HO173; clear HL175_0; clear BK167; clear BK174; clear HR175_0; clear HB; have HO166 := n0_; have HO169 := n1_; have HO171 := n2_; have HO173 := n3_; have HL175_0 := n4_; have HO178 := n5_; have BK167 := n6_; have BK174 := n7_; have HR175_0 := n8_; have HB := n9_; clear n0_ n1_ n2_ n3_ n4_ n5_ n6_ n7_ n8_ n9_; clear hb ho29; obtain ⟨Ao30, co30, eo30⟩ := Kd.R_slice HO178.out; subst eo30) | (go_at_call 22; (with_reducible refine (bitloftref16_SameRow.calls 2000 _ _ (rd_L1 ([[16642, 16320, 16384, 16384, 16384, 16384, 16384, 16549]] : List (List Int)) 0) _ _ y176 true _ ?side1 ?side2 ?side3 ?side4 A7.out).mono ?_); (case side1 => repeat (first | exact (by repeat (first | (with_reducible exact HR175_0.out) | (with_reducible refine Kd.C_alloc ?_ _) | (with_reducible refine Kd.C_drewN ?_ _) | (with_reducible refine Kd.C_drew ?_) | exact HR175_0.out)) | (with_reducible refine Kd.C_alloc ?_ _) | (with_reducible refine Kd.C_drewN ?_ _) | (with_reducible refine Kd.C_drew ?_))); (case side2 => exact HC175_0.out); (case side3 => repeat (first | exact (Kd.R_reads' HO178.out).2.2 | (with_reducible refine Kd.C_alloc ?_ _) | (with_reducible refine Kd.C_drewN ?_ _) | (with_reducible refine Kd.C_drew ?_))); (case side4 => exact (Kd.R_reads' HO178.out).2.1); rintro e w' ⟨rfl, ⟨nd, rfl⟩⟩))
 go_ret
 exact ⟨by first | rfl | (simp [errW_none, errW_some] <;> rfl) | (simp [*, errW_none, errW_some] <;> rfl), pH_ HB.out⟩

end Go.Proofs.YtlpkfljihcklkaaDoor.XMixerSums
