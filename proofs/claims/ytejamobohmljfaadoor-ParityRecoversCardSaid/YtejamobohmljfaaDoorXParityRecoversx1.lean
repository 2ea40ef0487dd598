-- Laid by a program of this session (wip/mkxprint.py, over the kit's print): Lean checks it.
import Derived.Test.YtejamobohmljfaaDoorXParityRecoversx0
namespace Go.Proofs.YtejamobohmljfaaDoor.XParityRecovers
open List (setIfInBounds_toArray set_cons_zero set_cons_succ)
open Go.RowKit Go.Proofs.YtejamobohmljfaaDoorW.PrintWords Go.Proofs.YtejamobohmljfaaDoorW.PrintLast Go.Proofs.YtejamobohmljfaaDoorW.PrintMore
attribute [local go_sem] max2_int min2_int max_two min_two max_three min_three max_four min_four   -- for this text's walks alone
set_option linter.unusedVariables false
set_option linter.unusedSimpArgs false

-- NOT PRINTED: function 35 (slices_IndexFunc_byte_byte)

-- NOT PRINTED: function 21 (slices_ContainsFunc_byte_byte)

/-! ### parity_long: function 22 -/
def parity_long.f (l0 : List Int) : Option (Bool) := some (decide ((l0.length : Int) > 5000))
set_option maxHeartbeats 8000000 in
set_option maxRecDepth 100000 in
theorem parity_long.calls (A0 : Option Addr) (c0 : Nat) (l0 : List Int) (r : Bool) (w : World) (hr0 : Kd.C (Kd.int .u8) w A0 l0.length l0) (hc0 : l0.length ≤ c0) (h : parity_long.f l0 = some r) :
    Calls Tryd.prog 22 #[.slice A0 l0.length c0] w fun e w' => e = .returned (.bool r) ∧ Drawn0 w w' := by
  have HR0 := Aside0.mk hr0
  have HC0 := Aside0.mk hc0
  clear hr0 hc0
  have H : (some (decide ((l0.length : Int) > 5000))) = some r := h
  clear h
  obtain rfl := Option.some.inj H
  go_enter Tryd.func22, Tryd.ntmps22
  go_wp2
  go_ret
  exact ⟨by first | rfl | (simp; done) | (simp [*]; done), by repeat (first | exact Drawn0.refl _ | apply Drawn0.step)⟩

-- NOT PRINTED: function 36 (parity_over_int)

-- NOT PRINTED: function 38 (parity_over_byte)

/-! ### parity_add: function 25 -/
/-- A row after the head and the first k bytes of a string have been added. -/
def parity_add.row (xs s : List Int) : Nat → List Int
  | 0 => (xs.set 0 (bits .xor .u8 (rd xs 0) ((s.length : Int) / 256 % 256))).set 1 (bits .xor .u8 (rd xs 1) ((s.length : Int) % 256))
  | k + 1 => (parity_add.row xs s k).set (2 + k) (bits .xor .u8 (rd (parity_add.row xs s k) (2 + (k : Int))) (rd s (k : Int)))
theorem parity_add.row_len (xs s : List Int) (k : Nat) : (parity_add.row xs s k).length = xs.length := by
  induction k with
  | zero => simp [parity_add.row]
  | succ k ih => simp [parity_add.row, ih]
theorem parity_add.item (A0 : Option Addr) (l0 : List Int) (w : World) (hr0 : Kd.C (Kd.int .u8) w A0 l0.length l0) (k : Nat) (hk : k < l0.length) :
    ∃ ad, A0 = some ad ∧ w.cell? (ad.add k) = some (.int .u8 (rd l0 (k : Int))) := by
  obtain ⟨ad, c, e, hl, hK, hc⟩ := ReadsRow.get_ hr0 0 (k : Int) (by omega) (by omega)
  refine ⟨ad, e, ?_⟩
  have h0 : c = [.int .u8 (rd l0 (k : Int))] := hK
  have := hc 0 (.int .u8 (rd l0 (k : Int))) (by rw [h0]; rfl)
  rw [Int.toNat_natCast, show (Kd.int .u8).sz = 1 from rfl, Nat.mul_one, Nat.add_zero] at this
  exact this
theorem parity_add.calls (w0 : World) (A1 : Option Addr) (c1 g cap : Nat) (s xs : List Int) (w : World) (hs : Kd.C (Kd.int .u8) w0 A1 s.length s) (hc1 : s.length ≤ c1) (hb : Below w0.heap.size w0 w) (hx : Kd.R (Kd.int .u8) 5 w w0.heap.size (fun _ => True) (.slice (some ⟨g, 0, none⟩) xs.length cap) xs) (hl : s.length + 2 ≤ xs.length) (hm : xs.length < 1000000000) :
    Calls Tryd.prog 25 #[.slice (some ⟨g, 0, none⟩) xs.length cap, .slice A1 s.length c1] w fun e w' => e = .returned (.tuple #[]) ∧ Kd.R (Kd.int .u8) 5 w' w0.heap.size (fun _ => True) (.slice (some ⟨g, 0, none⟩) xs.length cap) (parity_add.row xs s s.length) ∧ Below w0.heap.size w0 w' := by
  have hgb : w0.heap.size ≤ g := by
    obtain ⟨g', cap', e, h, _⟩ := Kd.R_form hx (by omega)
    cases e
    exact h
  have HS := Aside0.mk hs
  have HB := Aside0.mk hb
  have HX := Aside0.mk hx
  have hlz : (s.length : Int) + 2 ≤ (xs.length : Int) := by omega
  clear hs hb hx
  have p0 : (0 : Int) < (xs.length : Int) := by omega
  have p1 : (1 : Int) < (xs.length : Int) := by omega
  have hx0 : w.cell? ⟨g, 0, none⟩ = some (.int .u8 (rd xs 0)) := (Kd.R_celln 0 HX.out 0 (by omega) (by omega)).1
  have hf0 : w.frozen? ⟨g, 0, none⟩ = false := (Kd.R_celln 0 HX.out 0 (by omega) (by omega)).2
  have hx1 : w.cell? ⟨g, 1, none⟩ = some (.int .u8 (rd xs 1)) := (Kd.R_celln 0 HX.out 1 (by omega) (by omega)).1
  have hf1 : w.frozen? ⟨g, 1, none⟩ = false := (Kd.R_celln 0 HX.out 1 (by omega) (by omega)).2
  go_enter Tryd.func25, Tryd.ntmps25
  go_wp2
  go_loopg [4, 24] s.length (fun gg s4 s24 wr => ∃ kk : Nat, kk ≤ s.length ∧ s.length - kk ≤ gg ∧ s24 = .int .i64 kk ∧ Aside0 (Kd.R (Kd.int .u8) 5 wr w0.heap.size (fun _ => True) (.slice (some ⟨g, 0, none⟩) xs.length cap) (parity_add.row xs s kk)) ∧ Aside0 (Below w0.heap.size w0 wr))
  case atStart =>
    refine ⟨0, Nat.zero_le _, by omega, rfl, Aside0.mk (Kd.R_putn (Kd.R_putn HX.out 0 _) 1 _), Aside0.mk (below_set (below_set HB.out hgb) hgb)⟩
  case round =>
    obtain ⟨kk, hkk, hg, rfl, HR, HW⟩ := hrel
    by_cases hlt : kk < s.length
    · have hltz : (kk : Int) < (s.length : Int) := by omega
      have hC := Kd.C_below HS.out HW.out
      obtain ⟨ad, e, hit⟩ := parity_add.item A1 s wr hC kk hlt
      subst e
      have hL := parity_add.row_len xs s kk
      have hxk := (Kd.R_celln 0 HR.out (2 + (kk : Int)) (by omega) (by omega)).1
      have hfk := (Kd.R_celln 0 HR.out (2 + (kk : Int)) (by omega) (by omega)).2
      have i0 : 0 ≤ 2 + (kk : Int) := by omega
      have i1 : 2 + (kk : Int) < (xs.length : Int) := by omega
      have w1_ : IntKind.i64.wrap (2 + (kk : Int)) = 2 + (kk : Int) := by rw [i64_w, wrap64]; omega
      clear hC hL
      go_wp2
      refine start_ (n := 12) (S := fun w' => w'.cell? ⟨g, (2 + (kk : Int)).toNat, none⟩ = some (.int .u8 (rdOf 0 (parity_add.row xs s kk) (2 + (kk : Int)))) ∧ w'.cell? (ad.add kk) = some (.int .u8 (rd s (kk : Int)))) (ds := [11]) #[false, false, false, false, false, false, false, false, false, false, false, false] (by kernel_rfl) rfl rfl ⟨hxk, hit⟩ (fun hHeld => ?_)
      refine take_ (i := 0) (N := some 27) (v := ?_) (a' := ?_) #[true, false, false, false, false, false, false, false, false, false, false, false] rfl rfl (by kernel_rfl) (fun _ _ _ h => h) (Or.inl ⟨by rfl, ?_⟩) hHeld ?_ ?_; rotate_left
      · rintro w' ⟨s0, s1⟩; go_simp
        with_reducible rfl
      rotate_left
      · simp only [Act.put, setIfInBounds_toArray, set_cons_zero, set_cons_succ, i64_w, i32_w]; rfl
      refine take_ (i := 1) (N := some 28) (v := ?_) (a' := ?_) #[true, true, false, false, false, false, false, false, false, false, false, false] rfl rfl (by kernel_rfl) (fun _ _ _ h => h) (Or.inl ⟨by rfl, ?_⟩) hHeld ?_ ?_; rotate_left
      · rintro w' ⟨s0, s1⟩; go_simp
        with_reducible rfl
      rotate_left
      · simp only [Act.put, setIfInBounds_toArray, set_cons_zero, set_cons_succ, i64_w, i32_w]; rfl
      refine take_ (i := 2) (N := some 29) (v := ?_) (a' := ?_) #[true, true, true, false, false, false, false, false, false, false, false, false] rfl rfl (by kernel_rfl) (fun _ _ _ h => h) (Or.inl ⟨by rfl, ?_⟩) hHeld ?_ ?_; rotate_left
      · rintro w' ⟨s0, s1⟩; go_simp
        with_reducible rfl
      rotate_left
      · simp only [Act.put, setIfInBounds_toArray, set_cons_zero, set_cons_succ, i64_w, i32_w]; rfl
      refine take_ (i := 3) (N := some 30) (v := ?_) (a' := ?_) #[true, true, true, true, false, false, false, false, false, false, false, false] rfl rfl (by kernel_rfl) (fun _ _ _ h => h) (Or.inl ⟨by rfl, ?_⟩) hHeld ?_ ?_; rotate_left
      · rintro w' ⟨s0, s1⟩; go_simp
        with_reducible rfl
      rotate_left
      · simp only [Act.put, setIfInBounds_toArray, set_cons_zero, set_cons_succ, i64_w, i32_w]; rfl
      refine take_ (i := 4) (N := some 31) (v := ?_) (a' := ?_) #[true, true, true, true, true, false, false, false, false, false, false, false] rfl rfl (by kernel_rfl) (fun _ _ _ h => h) (Or.inl ⟨by rfl, ?_⟩) hHeld ?_ ?_; rotate_left
      · rintro w' ⟨s0, s1⟩; go_simp
        with_reducible rfl
      rotate_left
      · simp only [Act.put, setIfInBounds_toArray, set_cons_zero, set_cons_succ, i64_w, i32_w]; rfl
      refine take_ (i := 5) (N := some 32) (v := ?_) (a' := ?_) #[true, true, true, true, true, true, false, false, false, false, false, false] rfl rfl (by kernel_rfl) (fun _ _ _ h => h) (Or.inl ⟨by rfl, ?_⟩) hHeld ?_ ?_; rotate_left
      · rintro w' ⟨s0, s1⟩; go_simp
        with_reducible rfl
      rotate_left
      · simp only [Act.put, setIfInBounds_toArray, set_cons_zero, set_cons_succ, i64_w, i32_w]; rfl
      refine take_ (i := 6) (N := some 33) (v := ?_) (a' := ?_) #[true, true, true, true, true, true, true, false, false, false, false, false] rfl rfl (by kernel_rfl) (fun _ _ _ h => h) (Or.inl ⟨by rfl, ?_⟩) hHeld ?_ ?_; rotate_left
      · rintro w' ⟨s0, s1⟩; go_simp
        with_reducible rfl
      rotate_left
      · simp only [Act.put, setIfInBounds_toArray, set_cons_zero, set_cons_succ, i64_w, i32_w]; rfl
      refine take_ (i := 7) (N := some 34) (v := ?_) (a' := ?_) #[true, true, true, true, true, true, true, true, false, false, false, false] rfl rfl (by kernel_rfl) (fun _ _ _ h => h) (Or.inl ⟨by rfl, ?_⟩) hHeld ?_ ?_; rotate_left
      · rintro w' ⟨s0, s1⟩; go_simp
        with_reducible rfl
      rotate_left
      · simp only [Act.put, setIfInBounds_toArray, set_cons_zero, set_cons_succ, i64_w, i32_w]; rfl
      refine take_ (i := 8) (N := some 35) (v := ?_) (a' := ?_) #[true, true, true, true, true, true, true, true, true, false, false, false] rfl rfl (by kernel_rfl) (fun _ _ _ h => h) (Or.inl ⟨by rfl, ?_⟩) hHeld ?_ ?_; rotate_left
      · rintro w' ⟨s0, s1⟩; go_simp
        with_reducible rfl
      rotate_left
      · simp only [Act.put, setIfInBounds_toArray, set_cons_zero, set_cons_succ, i64_w, i32_w]; rfl
      refine take_ (i := 9) (N := some 36) (v := ?_) (a' := ?_) #[true, true, true, true, true, true, true, true, true, true, false, false] rfl rfl (by kernel_rfl) (fun _ _ _ h => h) (Or.inl ⟨by rfl, ?_⟩) hHeld ?_ ?_; rotate_left
      · rintro w' ⟨s0, s1⟩; go_simp
        with_reducible rfl
      rotate_left
      · simp only [Act.put, setIfInBounds_toArray, set_cons_zero, set_cons_succ, i64_w, i32_w]; rfl
      refine take_ (i := 10) (N := some 37) (v := ?_) (a' := ?_) #[true, true, true, true, true, true, true, true, true, true, true, false] rfl rfl (by kernel_rfl) (fun _ _ _ h => h) (Or.inl ⟨by rfl, ?_⟩) hHeld ?_ ?_; rotate_left
      · rintro w' ⟨s0, s1⟩; go_simp
        with_reducible rfl
      rotate_left
      · simp only [Act.put, setIfInBounds_toArray, set_cons_zero, set_cons_succ, i64_w, i32_w]; rfl
      have hfd : wr.drew.frozen? ⟨g, (2 + (kk : Int)).toNat, none⟩ = false := hfk
      have hxd : wr.drew.cell? ⟨g, (2 + (kk : Int)).toNat, none⟩ = _ := hxk
      refine last_ (i := 11) (N := none) #[true, true, true, true, true, true, true, true, true, true, true, true] rfl rfl (by kernel_rfl) (by decide) (fun K hK => ?_); refine skip_ (w1 := ?_) (by rfl) rfl ?_ ?_; rotate_left
      · go_simp; rfl
      refine hK.out _ _ ?_; clear hK K; refine done_ (by kernel_rfl) ?_
      go_wp2
      go_roundg (s.length - (kk + 1))
      case measure => omega
      case rel =>
        refine ⟨kk + 1, by omega, Nat.le_refl _, by go_num, Aside0.mk ?_, Aside0.mk (below_set (below_drew1 HW.out) hgb)⟩
        have h := Kd.R_putn (Kd.R_drew HR.out) (2 + (kk : Int)) (bits .xor .u8 (rdOf 0 (parity_add.row xs s kk) (2 + (kk : Int))) (rd s (kk : Int)))
        rw [show parity_add.row xs s (kk + 1) = (parity_add.row xs s kk).set (2 + (kk : Int)).toNat (bits .xor .u8 (rd (parity_add.row xs s kk) (2 + (kk : Int))) (rd s (kk : Int))) from by rw [parity_add.row, show (2 + (kk : Int)).toNat = 2 + kk by omega]]
        exact h
    · have hltz : ¬ (kk : Int) < (s.length : Int) := by omega
      have : kk = s.length := by omega
      subst this
      go_wp2
      go_end0
      exact ⟨rfl, HR.out, HW.out⟩

/-! ### parity_sum: function 23 -/
/-- The greatest length of the first k. -/
def parity_sum.wide (l : List (List Int)) : Nat → Nat
  | 0 => 0
  | k + 1 => max (parity_sum.wide l k) (l.getD k []).length
theorem parity_sum.item (A0 : Option Addr) (l0 : List (List Int)) (w : World) (hr0 : Kd.C (Kd.slice 5 (Kd.int .u8)) w A0 l0.length l0) (k : Nat) (hk : k < l0.length) :
    ∃ ad A c, A0 = some ad ∧ w.cell? (ad.add k) = some (.slice A (l0.getD k []).length c) ∧ (l0.getD k []).length ≤ c ∧ Kd.C (Kd.int .u8) w A (l0.getD k []).length (l0.getD k []) := by
  obtain ⟨ad, c, e, hl, hK, hc⟩ := ReadsRow.get_ hr0 [] (k : Int) (by omega) (by omega)
  obtain ⟨A1, c1, h0, hl1, hg1⟩ := hK
  refine ⟨ad, A1, c1, e, ?_, hl1, hg1⟩
  have := hc 0 (.slice A1 (l0.getD k []).length c1) (by rw [h0]; rfl)
  rw [Int.toNat_natCast, show (Kd.slice 5 (Kd.int .u8)).sz = 1 from rfl, Nat.mul_one, Nat.add_zero] at this
  exact this
theorem parity_sum.over1 (A0 : Option Addr) (c0 : Nat) (l0 : List (List Int)) (b : Nat) (w : World) (hbig : l0.length ≤ 9223372036854775807) (hr0 : Kd.C (Kd.slice 5 (Kd.int .u8)) w A0 l0.length l0) (hbox : w.cell? ⟨b, 0, none⟩ = some (.slice A0 l0.length c0)) :
    Calls Tryd.prog 36 #[.int .i64 l0.length, .int .i64 0, .func (.func 37) #[] #[.pointer (some ⟨b, 0, none⟩)]] w fun e w' => e = .returned (.int .i64 (parity_sum.wide l0 l0.length)) ∧ ∃ q, w' = w.drewN q := by
  have hit := Aside0.mk (parity_sum.item A0 l0 w hr0)
  clear hr0
  go_enter Tryd.func36, Tryd.ntmps36
  go_wp2
  go_loopg [1, 7, 9] l0.length (fun gg s1 _ s9 wr => ∃ kk q : Nat, kk ≤ l0.length ∧ l0.length - kk ≤ gg ∧ s1 = .int .i64 (parity_sum.wide l0 kk) ∧ s9 = .int .i64 kk ∧ wr = w.drewN q)
  case atStart => exact ⟨0, 0, Nat.zero_le _, by omega, rfl, rfl, rfl⟩
  case round =>
    obtain ⟨kk, q, hkk, hg, rfl, rfl, rfl⟩ := hrel
    by_cases hlt : kk < l0.length
    · have hltz : (kk : Int) < (l0.length : Int) := by omega
      obtain ⟨ad, A1, c1, e, hcell, _, _⟩ := hit.out kk hlt
      subst e
      have B : Aside0 (parity_sum.wide l0 (kk + 1) = max (parity_sum.wide l0 kk) (l0.getD kk []).length) := Aside0.mk rfl
      generalize l0.getD kk [] = y at hcell B
      generalize parity_sum.wide l0 kk = m at B ⊢
      clear hit
      by_cases c2 : (m : Int) < (y.length : Int)
      · have e1 : (if (m : Int) < (y.length : Int) then (y.length : Int) else (m : Int)) = (y.length : Int) := if_pos c2
        have e3 : max m y.length = y.length := by omega
        rw [e3] at B
        go_wp2
        go_roundg (l0.length - (kk + 1))
        case measure => omega
        case rel => exact ⟨kk + 1, q, by omega, by omega, by rw [B.out] <;> rfl, by go_num, rfl⟩
      · have e1 : (if (m : Int) < (y.length : Int) then (y.length : Int) else (m : Int)) = (m : Int) := if_neg c2
        have e3 : max m y.length = m := by omega
        rw [e3] at B
        go_wp2
        go_roundg (l0.length - (kk + 1))
        case measure => omega
        case rel => exact ⟨kk + 1, q, by omega, by omega, by rw [B.out] <;> rfl, by go_num, rfl⟩
    · have hltz : ¬ (kk : Int) < (l0.length : Int) := by omega
      have : kk = l0.length := by omega
      subst this
      go_wp2
      go_ret
      exact ⟨rfl, q, rfl⟩
/-- The row after the first k strings. -/
def parity_sum.acc (l : List (List Int)) (m : Nat) : Nat → List Int
  | 0 => List.replicate (m + 2) 0
  | k + 1 => parity_add.row (parity_sum.acc l m k) (l.getD k []) (l.getD k []).length
theorem parity_sum.acc_len (l : List (List Int)) (m k : Nat) : (parity_sum.acc l m k).length = m + 2 := by
  induction k with
  | zero => simp [parity_sum.acc]
  | succ k ih => rw [parity_sum.acc, parity_add.row_len, ih]
theorem parity_sum.step (w0 : World) (ad : Addr) (c0 : Nat) (l0 : List (List Int)) (b g cap m kk : Nat) (w : World) (hm : m < 900000000) (hk : kk < l0.length) (hr0 : Kd.C (Kd.slice 5 (Kd.int .u8)) w0 (some ad) l0.length l0) (hbox : w.cell? ⟨b, 0, none⟩ = some (.slice (some ad) l0.length c0)) (hb : Below w0.heap.size w0 w) (hx : Kd.R (Kd.int .u8) 5 w w0.heap.size (fun _ => True) (.slice (some ⟨g, 0, none⟩) (m + 2) cap) (parity_sum.acc l0 m kk)) (hl : (l0.getD kk []).length ≤ m) :
    Calls Tryd.prog 39 #[.slice (some ⟨g, 0, none⟩) (m + 2) cap, .int .i64 kk, .pointer (some ⟨b, 0, none⟩)] w fun e w' => e = .returned (.slice (some ⟨g, 0, none⟩) (m + 2) cap) ∧ Kd.R (Kd.int .u8) 5 w' w0.heap.size (fun _ => True) (.slice (some ⟨g, 0, none⟩) (m + 2) cap) (parity_sum.acc l0 m (kk + 1)) ∧ Below w0.heap.size w0 w' := by
  obtain ⟨ad', A1, c1, e, hcell0, hc1, hs⟩ := parity_sum.item (some ad) l0 w0 hr0 kk hk
  cases e
  have hcell := (hb.cell (World.block_lt_of_cell? w0 _ hcell0)).trans hcell0
  have hkz : (kk : Int) < (l0.length : Int) := by omega
  have hL := parity_sum.acc_len l0 m kk
  have hcon : ∀ W : World, Below w0.heap.size w0 W → Kd.R (Kd.int .u8) 5 W w0.heap.size (fun _ => True) (.slice (some ⟨g, 0, none⟩) (m + 2) cap) (parity_sum.acc l0 m kk) → Calls Tryd.prog 25 #[.slice (some ⟨g, 0, none⟩) (m + 2) cap, .slice A1 (l0.getD kk []).length c1] W fun e w' => e = .returned (.tuple #[]) ∧ Kd.R (Kd.int .u8) 5 w' w0.heap.size (fun _ => True) (.slice (some ⟨g, 0, none⟩) (m + 2) cap) (parity_sum.acc l0 m (kk + 1)) ∧ Below w0.heap.size w0 w' := by
    intro W h1 h2
    have := parity_add.calls w0 A1 c1 g cap (l0.getD kk []) (parity_sum.acc l0 m kk) W hs hc1 h1 (by rw [hL]; exact h2) (by rw [hL]; omega) (by rw [hL]; omega)
    rw [hL] at this
    exact this
  have HC := Aside0.mk hcon
  have HB := Aside0.mk hb
  have HX := Aside0.mk hx
  generalize parity_sum.acc l0 m (kk + 1) = r at HC ⊢
  generalize parity_sum.acc l0 m kk = r0 at HC HX
  generalize l0.getD kk [] = y at hcell HC
  clear hcon hb hx hs hL hcell0 hr0 hl hc1
  go_enter Tryd.func39, Tryd.ntmps39
  go_wp2_with (go_at_call 25; refine (HC.out _ HB.out HX.out).mono ?_; rintro e w' ⟨rfl, hx', hb'⟩)
  go_ret
  exact ⟨rfl, hx', hb'⟩
theorem parity_sum.over2 (w0 : World) (A0 : Option Addr) (c0 : Nat) (l0 : List (List Int)) (b g cap m : Nat) (w : World) (hbig : l0.length ≤ 9223372036854775807) (hm : m < 900000000) (hr0 : Kd.C (Kd.slice 5 (Kd.int .u8)) w0 A0 l0.length l0) (hbox : w0.cell? ⟨b, 0, none⟩ = some (.slice A0 l0.length c0)) (hb : Below w0.heap.size w0 w) (hx : Kd.R (Kd.int .u8) 5 w w0.heap.size (fun _ => True) (.slice (some ⟨g, 0, none⟩) (m + 2) cap) (parity_sum.acc l0 m 0)) (hl : ∀ k, k < l0.length → (l0.getD k []).length ≤ m) :
    Calls Tryd.prog 38 #[.int .i64 l0.length, .slice (some ⟨g, 0, none⟩) (m + 2) cap, .func (.func 39) #[] #[.pointer (some ⟨b, 0, none⟩)]] w fun e w' => e = .returned (.slice (some ⟨g, 0, none⟩) (m + 2) cap) ∧ Kd.R (Kd.int .u8) 5 w' w0.heap.size (fun _ => True) (.slice (some ⟨g, 0, none⟩) (m + 2) cap) (parity_sum.acc l0 m l0.length) ∧ Below w0.heap.size w0 w' := by
  have HR := Aside0.mk hr0
  have HL := Aside0.mk hl
  have HBX := Aside0.mk hbox
  have HB := Aside0.mk hb
  have HX := Aside0.mk hx
  clear hr0 hl hbox hb hx
  go_enter Tryd.func38, Tryd.ntmps38
  go_wp2
  go_loopg [1, 7, 9] l0.length (fun gg s1 _ s9 wr => ∃ kk : Nat, kk ≤ l0.length ∧ l0.length - kk ≤ gg ∧ s1 = .slice (some ⟨g, 0, none⟩) (m + 2) cap ∧ s9 = .int .i64 kk ∧ Aside0 (Kd.R (Kd.int .u8) 5 wr w0.heap.size (fun _ => True) (.slice (some ⟨g, 0, none⟩) (m + 2) cap) (parity_sum.acc l0 m kk)) ∧ Aside0 (Below w0.heap.size w0 wr))
  case atStart => exact ⟨0, Nat.zero_le _, by omega, rfl, rfl, HX, HB⟩
  case round =>
    clear HX HB
    obtain ⟨kk, hkk, hg, rfl, rfl, HX, HB⟩ := hrel
    by_cases hlt : kk < l0.length
    · have hltz : (kk : Int) < (l0.length : Int) := by omega
      obtain ⟨ad, _, _, e, _⟩ := parity_sum.item A0 l0 w0 HR.out kk hlt
      subst e
      have HC := Aside0.mk (fun (W : World) (h1 : Below w0.heap.size w0 W) h2 => parity_sum.step w0 ad c0 l0 b g cap m kk W hm hlt HR.out ((h1.cell (World.block_lt_of_cell? w0 _ HBX.out)).trans HBX.out) h1 h2 (HL.out kk hlt))
      go_wp2_with (go_at_call 39; refine (HC.out _ HB.out HX.out).mono ?_; rintro e w' ⟨rfl, hx', hb'⟩)
      go_roundg (l0.length - (kk + 1))
      case measure => omega
      case rel => exact ⟨kk + 1, by omega, Nat.le_refl _, rfl, by go_num, Aside0.mk hx', Aside0.mk hb'⟩
    · have hltz : ¬ (kk : Int) < (l0.length : Int) := by omega
      have : kk = l0.length := by omega
      subst this
      go_wp2
      go_ret
      exact ⟨rfl, HX.out, HB.out⟩
theorem parity_sum.wide_le (l : List (List Int)) : ∀ n k : Nat, k < n → (l.getD k []).length ≤ parity_sum.wide l n
  | 0, _, h => absurd h (Nat.not_lt_zero _)
  | n + 1, k, h => by
    rw [parity_sum.wide]
    rcases Nat.lt_succ_iff_lt_or_eq.mp h with h | h
    · have := parity_sum.wide_le l n k h; omega
    · subst h; omega
/-- A group's parity. -/
def parity_sum.f (l0 : List (List Int)) : Option (List Int) := if l0.length ≤ 1000000 ∧ parity_sum.wide l0 l0.length < 900000000 then some (parity_sum.acc l0 (parity_sum.wide l0 l0.length) l0.length) else none
theorem parity_sum.calls (A0 : Option Addr) (c0 : Nat) (l0 : List (List Int)) (r : List Int) (w : World) (hr0 : Kd.C (Kd.slice 5 (Kd.int .u8)) w A0 l0.length l0) (hc0 : l0.length ≤ c0) (h : parity_sum.f l0 = some r) :
    Calls Tryd.prog 23 #[.slice A0 l0.length c0] w fun e w' => ∃ v0_ : Value, e = .returned v0_ ∧ Kd.R (Kd.int .u8) 5 w' w.heap.size (fun _ => True) v0_ r ∧ Below w.heap.size w w' := by
  unfold parity_sum.f at h
  by_cases hc : l0.length ≤ 1000000 ∧ parity_sum.wide l0 l0.length < 900000000
  case neg => rw [if_neg hc] at h; exact absurd h (by simp)
  rw [if_pos hc] at h
  obtain rfl := Option.some.inj h
  clear h
  obtain ⟨hn, hm⟩ := hc
  have H1 : Aside0 (∀ (b : Nat) (W : World), Kd.C (Kd.slice 5 (Kd.int .u8)) W A0 l0.length l0 → W.cell? ⟨b, 0, none⟩ = some (.slice A0 l0.length c0) → Calls Tryd.prog 36 #[.int .i64 l0.length, .int .i64 0, .func (.func 37) #[] #[.pointer (some ⟨b, 0, none⟩)]] W fun e w' => e = .returned (.int .i64 (parity_sum.wide l0 l0.length)) ∧ ∃ q, w' = W.drewN q) := ⟨fun b W h1 h2 => parity_sum.over1 A0 c0 l0 b W (by omega) h1 h2⟩
  have H2 : Aside0 (∀ (W0 W : World) (b g cap : Nat), Kd.C (Kd.slice 5 (Kd.int .u8)) W0 A0 l0.length l0 → W0.cell? ⟨b, 0, none⟩ = some (.slice A0 l0.length c0) → Below W0.heap.size W0 W → Kd.R (Kd.int .u8) 5 W W0.heap.size (fun _ => True) (.slice (some ⟨g, 0, none⟩) (parity_sum.wide l0 l0.length + 2) cap) (List.replicate (parity_sum.wide l0 l0.length + 2) 0) → Calls Tryd.prog 38 #[.int .i64 l0.length, .slice (some ⟨g, 0, none⟩) (parity_sum.wide l0 l0.length + 2) cap, .func (.func 39) #[] #[.pointer (some ⟨b, 0, none⟩)]] W fun e w' => e = .returned (.slice (some ⟨g, 0, none⟩) (parity_sum.wide l0 l0.length + 2) cap) ∧ Kd.R (Kd.int .u8) 5 w' W0.heap.size (fun _ => True) (.slice (some ⟨g, 0, none⟩) (parity_sum.wide l0 l0.length + 2) cap) (parity_sum.acc l0 (parity_sum.wide l0 l0.length) l0.length) ∧ Below W0.heap.size W0 w') := ⟨fun W0 W b g cap h1 h2 h3 h4 => parity_sum.over2 W0 A0 c0 l0 b g cap _ W (by omega) hm h1 h2 h3 h4 (parity_sum.wide_le l0 l0.length)⟩
  generalize parity_sum.acc l0 (parity_sum.wide l0 l0.length) l0.length = r at H2 ⊢
  generalize parity_sum.wide l0 l0.length = m at H1 H2 hm
  have HR := Aside0.mk hr0
  have HB := Aside0.mk (Below.refl w.heap.size w)
  clear hr0
  go_enter Tryd.func23, Tryd.ntmps23
  go_wp2_with (first | ((with_reducible refine gate_dst (N := 1) rfl ?_); refine box_event ?hg (N := 1) ?hd (cs := #[.slice A0 l0.length c0]) (t := 22) ?hr ?_; (case hd => rfl); (case hg => rfl); (case hr => first | (go_simp; done) | (go_simp; rfl)); intro gb hg w1 hbox hb; have HB1 := Aside0.mk (below_step HB.out hb); have BK := Aside0.mk hbox; have HC1 := Aside0.mk (Kd.C_below HR.out HB1.out); have hcz : w1.cell? ⟨gb, 0, none⟩ = some (.slice A0 l0.length c0) := (blk_cell BK.out 0).trans rfl; clear hbox hb hg) | (go_at_call 36; refine (H1.out gb w1 HC1.out hcz).mono ?_; rintro e w' ⟨rfl, q, rfl⟩))
  have HCW := Aside0.mk (Kd.C_drewN HC1.out q)
  have HBW := Aside0.mk (pw_below_drewN HB1.out q)
  have hczW : (w1.drewN q).cell? ⟨gb, 0, none⟩ = some (.slice A0 l0.length c0) := hcz
  clear HB1 BK HC1 hcz
  generalize w1.drewN q = w2 at HCW HBW hczW ⊢
  refine start_ (n := 8) (S := fun w' => w'.cell? ⟨gb, 0, none⟩ = some (.slice A0 l0.length c0)) (ds := [6, 7]) #[false, false, false, false, false, false, false, false] (by kernel_rfl) rfl rfl hczW (fun hHeld => ?_)
  have HCX := Aside0.mk (Kd.C_drew HCW.out)
  have HBX := Aside0.mk (below_drew1 HBW.out)
  clear HCW HBW hczW
  generalize w2.drew = w3 at HCX HBX hHeld ⊢
  have hwr : wrap64 (2 + (m : Int)) = 2 + (m : Int) := by rw [wrap64]; omega
  have hwi : IntKind.i64.wrap (2 + (m : Int)) = 2 + (m : Int) := by rw [i64_w, hwr]
  refine take_ (i := 0) (N := some 8) (v := ?_) (a' := ?_) #[true, false, false, false, false, false, false, false] rfl rfl (by kernel_rfl) (fun _ _ _ h => h) (Or.inl ⟨by rfl, ?_⟩) hHeld ?_ ?_; rotate_left
  · intro w' s0; go_simp
    with_reducible rfl
  rotate_left
  · simp only [Act.put, setIfInBounds_toArray, set_cons_zero, set_cons_succ, i64_w, i32_w]; rfl
  refine take_ (i := 1) (N := some 9) (v := ?_) (a' := ?_) #[true, true, false, false, false, false, false, false] rfl rfl (by kernel_rfl) (fun _ _ _ h => h) (Or.inl ⟨by rfl, ?_⟩) hHeld ?_ ?_; rotate_left
  · intro w' s0; go_simp
    with_reducible rfl
  rotate_left
  · simp only [Act.put, setIfInBounds_toArray, set_cons_zero, set_cons_succ, i64_w, i32_w]; rfl
  refine take_ (i := 2) (N := some 10) (v := ?_) (a' := ?_) #[true, true, true, false, false, false, false, false] rfl rfl (by kernel_rfl) (fun _ _ _ h => h) (Or.inl ⟨by rfl, ?_⟩) hHeld ?_ ?_; rotate_left
  · intro w' s0; go_simp
    with_reducible rfl
  rotate_left
  · simp only [Act.put, setIfInBounds_toArray, set_cons_zero, set_cons_succ, i64_w, i32_w]; rfl
  refine take_ (i := 3) (N := some 11) (v := ?_) (a' := ?_) #[true, true, true, true, false, false, false, false] rfl rfl (by kernel_rfl) (fun _ _ _ h => h) (Or.inl ⟨by rfl, ?_⟩) hHeld ?_ ?_; rotate_left
  · intro w' s0; go_simp
    with_reducible rfl
  rotate_left
  · simp only [Act.put, setIfInBounds_toArray, set_cons_zero, set_cons_succ, i64_w, i32_w]; rfl
  refine take_ (i := 5) (N := some 13) (v := ?_) (a' := ?_) #[true, true, true, true, false, true, false, false] rfl rfl (by kernel_rfl) (fun _ _ _ h => h) (Or.inl ⟨by rfl, ?_⟩) hHeld ?_ ?_; rotate_left
  · intro w' s0; go_simp
    with_reducible rfl
  rotate_left
  · simp only [Act.put, setIfInBounds_toArray, set_cons_zero, set_cons_succ, i64_w, i32_w]; rfl
  refine one_ (i := 4) (N := some 12) #[true, true, true, true, true, true, false, false] rfl rfl (by kernel_rfl) (by decide) (fun K hK => ?_)
  refine Kd.R_make_step (Kd.int .u8) (w0 := w3) w3.heap.size 5 (by rfl) (N := 12) rfl 23 _ _ rfl (2 + (m : Int)) rfl rfl Tryd.underlying23 (.int .u8 0) 1 (by kernel_rfl) rfl (by decide) (by omega) 0 (ok := fun _ => True) (okp := fun _ => True) rfl (fun _ hk => hk) trivial (by omega) (by omega) (Below.refl _ _) (Nat.le_refl _) ?_
  intro v12 w4 ho hb hg_ hnew_
  clear hg_ hnew_
  rw [show (2 + (m : Int)).toNat = m + 2 by omega] at ho
  obtain ⟨g, cap, e, _⟩ := Kd.R_form ho (by simp)
  rw [List.length_replicate] at e
  subst e
  have HO := Aside0.mk ho
  have HB4 := Aside0.mk hb
  clear ho hb
  have hcz4 : w4.cell? ⟨gb, 0, none⟩ = some (.slice A0 l0.length c0) := (HB4.out.cell (World.block_lt_of_cell? w3 _ hHeld)).trans hHeld
  refine hK.out _ _ hcz4 (fun hHeld4 => ?_); clear hK K
  refine norm_ (a' := ?_) ?_ ?_; rotate_left
  · show Act.put _ (some 12) _ = _
    simp only [Act.put, setIfInBounds_toArray, set_cons_zero, set_cons_succ, i64_w, i32_w]; rfl
  refine last_ (i := 6) (N := some 14) #[true, true, true, true, true, true, true, false] rfl rfl (by kernel_rfl) (by decide) (fun K hK => ?_)
  refine goes_ Tryd.func38 (by kernel_rfl) rfl #[.int .i64 l0.length, .slice (some ⟨g, 0, none⟩) (m + 2) cap, .func (.func 39) #[] #[.pointer (some ⟨gb, 0, none⟩)]] (by rfl) rfl rfl (by (try simp only [List.map_toArray, List.map_cons, List.map_nil]); first | done | rfl) ?_
  refine (H2.out w3 w4 gb g cap HCX.out hHeld HB4.out HO.out).mono ?_
  rintro e w5 ⟨rfl, hr, hb5⟩
  refine ⟨_, rfl, ?_⟩
  refine hK.out _ _ ?_; clear hK K
  refine norm_ (a' := ?_) ?_ ?_; rotate_left
  · show Act.put _ (some 14) _ = _
    simp only [Act.put, setIfInBounds_toArray, set_cons_zero, set_cons_succ, i64_w, i32_w]; rfl
  refine pure_ (i := 7) (N := some 2) (v := ?_) (a' := ?_) #[true, true, true, true, true, true, true, true] rfl rfl (by kernel_rfl) (fun _ _ _ h => h) (Or.inl ⟨by rfl, ?_⟩) ?_ ?_; rotate_left
  · intro w'; go_simp
    with_reducible rfl
  rotate_left
  · simp only [Act.put, setIfInBounds_toArray, set_cons_zero, set_cons_succ, i64_w, i32_w]; rfl
  refine done_ (by kernel_rfl) ?_
  go_wp2
  go_ret
  exact ⟨_, rfl, Kd.R_lower hr (below_size HBX.out), below_step HBX.out hb5⟩

/-! ### slices_ContainsFunc_byte_byte_parity_long: function 21 -/
/-- Is one of them too long? -/
def slices_ContainsFunc_byte_byte_parity_long.f (l0 : List (List Int)) : Option (Bool) := if l0.length > 9223372036854775807 then none else some (l0.any fun x => decide (5000 < x.length))
theorem slices_ContainsFunc_byte_byte_parity_long.getD_ (l : List (List Int)) (k : Nat) (hk : k < l.length) : l.getD k [] = l[k] := by
  simp [List.getD_eq_getElem?_getD, hk]
theorem slices_ContainsFunc_byte_byte_parity_long.item (A0 : Option Addr) (l0 : List (List Int)) (w : World) (hr0 : Kd.C (Kd.slice 5 (Kd.int .u8)) w A0 l0.length l0) (k : Nat) (hk : k < l0.length) :
    ∃ ad A c, A0 = some ad ∧ w.cell? (ad.add k) = some (.slice A (l0.getD k []).length c) := by
  obtain ⟨ad, c, e, hl, hK, hc⟩ := ReadsRow.get_ hr0 [] (k : Int) (by omega) (by omega)
  obtain ⟨A1, c1, h0, hl1, hg1⟩ := hK
  refine ⟨ad, A1, c1, e, ?_⟩
  have := hc 0 (.slice A1 (l0.getD k []).length c1) (by rw [h0]; rfl)
  rw [Int.toNat_natCast, show (Kd.slice 5 (Kd.int .u8)).sz = 1 from rfl, Nat.mul_one, Nat.add_zero] at this
  exact this
theorem slices_ContainsFunc_byte_byte_parity_long.index (A0 : Option Addr) (c0 : Nat) (l0 : List (List Int)) (w : World) (hbig : l0.length ≤ 9223372036854775807) (hr0 : Kd.C (Kd.slice 5 (Kd.int .u8)) w A0 l0.length l0) :
    Calls Tryd.prog 35 #[.slice A0 l0.length c0, .func (.func 22) #[] #[]] w fun e w' => ∃ i : Int, (0 ≤ i ↔ ∃ x, x ∈ l0 ∧ 5000 < x.length) ∧ e = .returned (.int .i64 i) ∧ ∃ q, w' = w.drewN q := by
  have hit := slices_ContainsFunc_byte_byte_parity_long.item A0 l0 w hr0
  clear hr0
  go_enter Tryd.func35, Tryd.ntmps35
  go_wp2
  go_loopg [5, 8] l0.length (fun gg _ s8 wr => ∃ kk q : Nat, kk ≤ l0.length ∧ l0.length - kk ≤ gg ∧ s8 = .int .i64 kk ∧ wr = w.drewN q ∧ Aside0 (∀ j, j < kk → ¬ 5000 < (l0.getD j []).length))
  case atStart => exact ⟨0, 0, Nat.zero_le _, by omega, rfl, rfl, Aside0.mk (fun j hj => absurd hj (Nat.not_lt_zero _))⟩
  case round =>
    obtain ⟨kk, q, hkk, hg, rfl, rfl, A⟩ := hrel
    by_cases hlt : kk < l0.length
    · have hltz : (kk : Int) < (l0.length : Int) := by omega
      obtain ⟨ad, A1, c1, e, hcell⟩ := hit kk hlt
      subst e
      clear hit
      rw [slices_ContainsFunc_byte_byte_parity_long.getD_ _ _ hlt] at hcell
      have B : Aside0 (l0.getD kk [] = l0[kk]) := Aside0.mk (slices_ContainsFunc_byte_byte_parity_long.getD_ _ _ hlt)
      generalize hy : l0[kk] = y at hcell B
      clear hy
      by_cases c2 : 5000 < y.length
      · have c2z : (5000 : Int) < (y.length : Int) := by omega
        go_wp2
        go_ret
        refine ⟨(kk : Int), ⟨fun _ => ⟨l0.getD kk [], by rw [slices_ContainsFunc_byte_byte_parity_long.getD_ _ _ hlt]; exact List.getElem_mem _, by rw [B.out]; exact c2⟩, fun _ => by omega⟩, rfl, q, rfl⟩
      · have c2z : ¬ (5000 : Int) < (y.length : Int) := by omega
        go_wp2
        go_roundg (l0.length - (kk + 1))
        case measure => omega
        case rel =>
          refine ⟨kk + 1, _, by omega, by omega, by go_num, rfl, Aside0.mk (fun j hj => ?_)⟩
          by_cases e : j = kk
          · subst e
            rw [B.out]; exact c2
          · exact A.out j (by omega)
    · have hltz : ¬ (kk : Int) < (l0.length : Int) := by omega
      have : kk = l0.length := by omega
      subst this
      go_wp2
      go_ret
      refine ⟨-1, ⟨fun h => absurd h (by decide), fun h => ?_⟩, rfl, q, rfl⟩
      exfalso
      obtain ⟨x, hx, hd⟩ := h
      obtain ⟨j, hj, e⟩ := List.getElem_of_mem hx
      have := A.out j hj
      rw [slices_ContainsFunc_byte_byte_parity_long.getD_ _ _ hj, e] at this
      exact this hd
theorem slices_ContainsFunc_byte_byte_parity_long.calls (A0 : Option Addr) (c0 : Nat) (l0 : List (List Int)) (r : Bool) (w : World) (hr0 : Kd.C (Kd.slice 5 (Kd.int .u8)) w A0 l0.length l0) (hc0 : l0.length ≤ c0) (h : slices_ContainsFunc_byte_byte_parity_long.f l0 = some r) :
    Calls Tryd.prog 21 #[.slice A0 l0.length c0, .func (.func 22) #[] #[]] w fun e w' => e = .returned (.bool r) ∧ Drawn0 w w' := by
  unfold slices_ContainsFunc_byte_byte_parity_long.f at h
  by_cases hbig : l0.length > 9223372036854775807
  · rw [if_pos hbig] at h; exact absurd h (by simp)
  rw [if_neg hbig] at h
  simp only [Option.some.injEq] at h
  have hcon := slices_ContainsFunc_byte_byte_parity_long.index A0 c0 l0 w (by omega) hr0
  have hr : (∃ x, x ∈ l0 ∧ 5000 < x.length) ↔ r = true := by
    rw [← h]
    exact ⟨fun ⟨x, hx, hd⟩ => List.any_eq_true.mpr ⟨x, hx, decide_eq_true hd⟩, fun e => by obtain ⟨x, hx, hd⟩ := List.any_eq_true.mp e; exact ⟨x, hx, of_decide_eq_true hd⟩⟩
  rw [hr] at hcon
  clear hr0 h hbig hr
  go_enter Tryd.func21, Tryd.ntmps21
  go_wp2_with (go_at_call 35; refine hcon.mono ?_; rintro e w' ⟨i, hi, rfl, q, rfl⟩)
  go_ret
  exact ⟨rfl, q, rfl⟩

/-! ### parity_Of: function 10 -/
def parity_Of.f (l0 : List (List Int)) : Option (List Int × Int) := if (l0.length : Int) > 16 then (some (([] : List Int), 4)) else ((slices_ContainsFunc_byte_byte_parity_long.f l0).bind fun t101 => (if t101 = true then (some (([] : List Int), 4)) else ((parity_sum.f l0).bind fun t102 => (some (t102, 0)))))
set_option maxHeartbeats 8000000 in
set_option maxRecDepth 100000 in
theorem parity_Of.calls (A0 : Option Addr) (c0 : Nat) (l0 : List (List Int)) (r1 : List Int) (r2 : Int) (w : World) (hr0 : Kd.C (Kd.slice 5 (Kd.int .u8)) w A0 l0.length l0) (hc0 : l0.length ≤ c0) (h : parity_Of.f l0 = some (r1, r2)) :
  Calls Tryd.prog 10 #[.slice A0 l0.length c0] w fun e w' => ∃ v0_ : Value, e = .returned (.tuple #[v0_, .int .i64 r2]) ∧ Kd.R (Kd.int .u8) 5 w' w.heap.size (fun _ => True) v0_ r1 ∧ Below w.heap.size w w' := by
 have HR0 := Aside0.mk hr0; have HC0 := Aside0.mk hc0; clear hr0 hc0; have HB := Aside0.mk (Below.refl w.heap.size w); have H : (if (l0.length : Int) > 16 then (some (([] : List Int), 4)) else ((slices_ContainsFunc_byte_byte_parity_long.f l0).bind fun t101 => (if t101 = true then (some (([] : List Int), 4)) else ((parity_sum.f l0).bind fun t102 => (some (t102, 0)))))) = some (r1, r2) := h; clear h
 by_cases c2 : (l0.length : Int) > 16
 ·
  rw [if_pos c2] at H; have c2b0 : decide (16 < (l0.length : Int)) = true := decide_eq_true c2; have c2b1 : decide (16 < l0.length) = true := decide_eq_true (by omega); clear c2; simp only [Option.some.injEq, Prod.mk.injEq] at H; obtain ⟨rfl, rfl⟩ := H
  go_enter Tryd.func10, Tryd.ntmps10
  go_wp2
  go_ret2
  exact ⟨_, by first | rfl | (simp [errW_none, errW_some] <;> rfl) | (simp [*, errW_none, errW_some] <;> rfl), by first | exact Kd.R_nil _ _ _ _ _ | exact Kd.N_nil _ _ _ _ _ | exact Kd.V_nil _ _ _ _ _ | exact Kd.Q_nil _ _ _ _ _ | exact Kd.S_nil _ _ _ _ _, pH_ HB.out⟩
 ·
  rw [if_neg c2] at H; have c2b0 : decide (16 < (l0.length : Int)) = false := decide_eq_false c2; have c2b1 : decide (16 < l0.length) = false := decide_eq_false (by omega); clear c2; replace H := Option.bind_eq_some_iff.mp H; obtain ⟨t101, A30, H⟩ := H; replace H : (if t101 = true then (some (([] : List Int), 4)) else ((parity_sum.f l0).bind fun t102 => (some (t102, 0)))) = some (r1, r2) := H; have A3 := Aside0.mk A30; clear A30
  by_cases c4 : t101 = true
  ·
   subst c4
   have H1 : (some (([] : List Int), 4)) = some (r1, r2) := by rw [if_pos rfl] at H; exact H
   clear H; have H := H1; clear H1; simp only [Option.some.injEq, Prod.mk.injEq] at H; obtain ⟨rfl, rfl⟩ := H
   go_enter Tryd.func10, Tryd.ntmps10
   go_wp2_with (first | (go_at_call 21; (with_reducible refine (slices_ContainsFunc_byte_byte_parity_long.calls _ _ l0 true _ ?side1 ?side2 A3.out).mono ?_); (case side1 => repeat (first | exact HR0.out | (with_reducible refine Kd.C_alloc ?_ _) | (with_reducible refine Kd.C_drewN ?_ _) | (with_reducible refine Kd.C_drew ?_))); (case side2 => exact HC0.out); rintro e w' ⟨rfl, ⟨nd, rfl⟩⟩))
   go_ret2
   exact ⟨_, by first | rfl | (simp [errW_none, errW_some] <;> rfl) | (simp [*, errW_none, errW_some] <;> rfl), by first | exact Kd.R_nil _ _ _ _ _ | exact Kd.N_nil _ _ _ _ _ | exact Kd.V_nil _ _ _ _ _ | exact Kd.Q_nil _ _ _ _ _ | exact Kd.S_nil _ _ _ _ _, pH_ HB.out⟩
  ·
   replace c4 := Bool.eq_false_iff.mpr c4
   subst c4
   have H1 : ((parity_sum.f l0).bind fun t102 => (some (t102, 0))) = some (r1, r2) := by rw [if_neg (show ¬ (false = true) by decide)] at H; exact H
   clear H; have H := H1; clear H1; replace H := Option.bind_eq_some_iff.mp H; obtain ⟨t102, A50, H⟩ := H; replace H : (some (t102, 0)) = some (r1, r2) := H; have A5 := Aside0.mk A50; clear A50; simp only [Option.some.injEq, Prod.mk.injEq] at H; obtain ⟨rfl, rfl⟩ := H
   go_enter Tryd.func10, Tryd.ntmps10
   go_wp2_with (first | (go_at_call 21; (with_reducible refine (slices_ContainsFunc_byte_byte_parity_long.calls _ _ l0 false _ ?side1 ?side2 A3.out).mono ?_); (case side1 => repeat (first | exact HR0.out | (with_reducible refine Kd.C_alloc ?_ _) | (with_reducible refine Kd.C_drewN ?_ _) | (with_reducible refine Kd.C_drew ?_))); (case side2 => exact HC0.out); rintro e w' ⟨rfl, ⟨nd, rfl⟩⟩) | ((with_reducible refine gate_callee (f := 23) rfl ?_); refine gL_ (some 12) Tryd.func23 #[.slice A0 l0.length c0] ?_; (with_reducible refine (parity_sum.calls _ _ l0 t102 _ ?side1 ?side2 A5.out).mono ?_); (case side1 => repeat (first | exact HR0.out | (with_reducible refine Kd.C_alloc ?_ _) | (with_reducible refine Kd.C_drewN ?_ _) | (with_reducible refine Kd.C_drew ?_))); (case side2 => exact HC0.out); rintro e w6 ⟨v103, rfl, ho0, hb⟩; refine ⟨_, rfl, ?_⟩; have n0_ := Aside0.mk (Kd.R_lower ho0 (below_size (pH_ HB.out))); have n1_ := Aside0.mk (below_step (pH_ HB.out) hb); clear HB; have HO104 := n0_; have HB := n1_; clear n0_ n1_; (try clear hb); (try clear ho0)))
   go_ret2
   exact ⟨_, by first | rfl | (simp [errW_none, errW_some] <;> rfl) | (simp [*, errW_none, errW_some] <;> rfl), by (with_reducible repeat (first | apply rA_ | apply rN_ | apply rD_)); exact HO104.out, pH_ HB.out⟩

/-! ### slices_Clone_byte_byte: function 24 -/
/-- A row's copy. -/
def slices_Clone_byte_byte.f (l0 : List Int) : Option (List Int) := if l0.length < 140737488355328 then some l0 else none
theorem slices_Clone_byte_byte.calls (A0 : Option Addr) (c0 : Nat) (l0 : List Int) (r : List Int) (w : World) (hr0 : Kd.C (Kd.int .u8) w A0 l0.length l0) (hc0 : l0.length ≤ c0) (h : slices_Clone_byte_byte.f l0 = some r) :
    Calls Tryd.prog 24 #[.slice A0 l0.length c0] w fun e w' => ∃ v0_ : Value, e = .returned v0_ ∧ Kd.R (Kd.int .u8) 5 w' w.heap.size (fun _ => True) v0_ r ∧ Below w.heap.size w w' := by
  unfold slices_Clone_byte_byte.f at h
  by_cases hl : l0.length < 140737488355328
  case neg => rw [if_neg hl] at h; exact absurd h (by simp)
  rw [if_pos hl] at h
  obtain rfl := Option.some.inj h
  clear h
  have HB := Aside0.mk (Below.refl w.heap.size w)
  rcases A0 with _ | ad
  · have h0 : l0 = [] := by
      rcases Nat.eq_zero_or_pos l0.length with h | h
      · exact List.eq_nil_of_length_eq_zero h
      · obtain ⟨ad, e, _⟩ := hr0.2.2 h
        cases e
    subst h0
    clear hr0 hl hc0
    have hq := fun (n c : Nat) (W : World) => eql_nil_ (P := Tryd.prog) Tryd.underlying23 none n c W
    go_enter Tryd.func24, Tryd.ntmps24
    go_wp2
    go_ret
    exact ⟨_, rfl, Kd.R_nil _ _ _ _ _, HB.out⟩
  · have HR0 := Aside0.mk hr0
    have HL := Aside0.mk hl
    clear hr0 hl hc0
    have hq := fun (n c : Nat) (W : World) => eql_nil_ (P := Tryd.prog) Tryd.underlying23 (some ad) n c W
    go_enter Tryd.func24, Tryd.ntmps24
    go_wp2_with (first | ((with_reducible refine gate_dst (N := 5) rfl ?_); refine Kd.R_lit (Kd.int .u8) _ 5 ?hg (N := 5) ?hd (xs := ([] : List Int)) (inner := []) (ok := fun _ => True) (okp := fun _ => True) ?hr ?hp (fun _ hk => hk) trivial (Below.refl _ _) (Nat.le_refl _) (by simp) ?_; (case hd => rfl); (case hg => rfl); (case hr => first | (go_simp; done) | (go_simp; rfl)); (case hp => exact (Reps.none _ _)); intro v5 w5 ho hb hg_ hnew_; have HO := Aside0.mk ho; have HB5 := Aside0.mk hb; clear ho hb hg_ hnew_) | (at_builtin; refine Kd.R_append_rows (Kd.int .u8) (w0 := w) w.heap.size (by rfl) (.tmp 5) (.tmp 6) 23 5 (.int .u8 0) 1 rfl Tryd.underlying23 info5 rfl (by decide) (by omega) v5 ([] : List Int) l0 _ _ _ (fun _ => True) (fun _ => False) rfl rfl ?aO ?aR (fun _ _ h => h) (fun _ h => h.elim) ?aF ?aB ?aS ?aL ?_; (case aO => exact HO.out); (case aR => exact Kd.C_below HR0.out HB5.out); (case aF => exact fun _ _ => trivial); (case aB => exact HB5.out); (case aS => exact below_size HB5.out); (case aL => have := HL.out; simp; omega); intro v7 w7 ho hb hg hat; have HO7 := Aside0.mk ho; have HB7 := Aside0.mk hb; clear ho hb hg hat))
    go_ret
    exact ⟨_, rfl, HO7.out, HB7.out⟩

-- NOT PRINTED: function 40 (bytes_trimLeftByte)

-- NOT PRINTED: function 41 (bytes_trimRightByte)

-- NOT PRINTED: function 42 (bytes_makeASCIISet)

-- NOT PRINTED: function 50 (bytes_asciiSet_contains)

-- NOT PRINTED: function 43 (bytes_trimLeftASCII)

-- NOT PRINTED: function 44 (bytes_trimRightASCII)

-- NOT PRINTED: function 55 (utf8_decodeRuneSlow)

-- NOT PRINTED: function 51 (utf8_DecodeRune)

-- NOT PRINTED: function 52 (bytes_containsRune)

-- NOT PRINTED: function 45 (bytes_trimLeftUnicode)

-- NOT PRINTED: function 56 (utf8_RuneStart)

-- NOT PRINTED: function 53 (utf8_DecodeLastRune)

-- NOT PRINTED: function 46 (bytes_trimRightUnicode)

/-! ### bytes_Trim: function 26 -/
theorem bytes_Trim.right (ad : Addr) (n c : Nat) (xs : List Int) (w : World) (hn : n = xs.length) (hnc : n ≤ c) (hbig : n ≤ 1000000000) (hit : ∀ k, k < n → w.cell? (ad.add k) = some (.int .u8 (rd xs (k : Int)))) :
    Calls Tryd.prog 41 #[.slice (some ad) n c, .int .u8 0] w fun e w' => ∃ k : Nat, k ≤ n ∧ (∀ j : Nat, k ≤ j → j < n → rd xs (j : Int) = 0) ∧ (k = 0 ∨ ∃ j : Nat, j + 1 = k ∧ rd xs (j : Int) ≠ 0) ∧ e = .returned (.slice (some ad) k c) ∧ ∃ q, w' = w.drewN q := by
  have HI := Aside0.mk hit
  clear hit
  go_enter Tryd.func41, Tryd.ntmps41
  go_wp2
  go_loopg [0] n (fun gg s0 wr => ∃ k q : Nat, k ≤ n ∧ k ≤ gg ∧ s0 = .slice (some ad) k c ∧ wr = w.drewN q ∧ Aside0 (∀ j : Nat, k ≤ j → j < n → rd xs (j : Int) = 0))
  case atStart => exact ⟨n, 0, Nat.le_refl _, by omega, rfl, rfl, Aside0.mk (fun j h1 h2 => by omega)⟩
  case round =>
    obtain ⟨k, q, hk, hg, rfl, rfl, A⟩ := hrel
    rcases Nat.eq_zero_or_pos k with rfl | hp
    · go_wp2
      go_ret
      exact ⟨0, Nat.zero_le _, A.out, Or.inl rfl, rfl, q, rfl⟩
    · obtain ⟨m, rfl⟩ : ∃ m, k = m + 1 := ⟨k - 1, by omega⟩
      have hcell := HI.out m (by omega)
      have hpz : (0 : Int) < ((m + 1 : Nat) : Int) := by omega
      have hs : wrap64 (((m + 1 : Nat) : Int) - 1) = (m : Int) := by rw [wrap64]; omega
      have hlt : (m : Int) < ((m + 1 : Nat) : Int) := by omega
      by_cases c2 : rd xs (m : Int) = 0
      · rw [c2] at hcell
        go_wp2
        go_roundg m
        case measure => omega
        case rel => exact ⟨m, q, by omega, Nat.le_refl _, rfl, rfl, Aside0.mk (fun j h1 h2 => by
          rcases Nat.eq_or_lt_of_le h1 with h | h
          · rw [← h]; exact c2
          · exact A.out j h h2)⟩
      · have e2 : (rd xs (m : Int) == 0) = false := beq_eq_false_iff_ne.mpr c2
        go_wp2
        go_ret
        exact ⟨m + 1, hk, A.out, Or.inr ⟨m, rfl, c2⟩, rfl, q, rfl⟩
theorem bytes_Trim.left (g o n c : Nat) (xs : List Int) (w : World) (hnc : n ≤ c) (hbig : n ≤ 1000000000) (hit : ∀ k, k < n → w.cell? ⟨g, o + k, none⟩ = some (.int .u8 (rd xs (k : Int)))) (hl : n = 0 ∨ ∃ j : Nat, j + 1 = n ∧ rd xs (j : Int) ≠ 0) :
    Calls Tryd.prog 40 #[.slice (some ⟨g, o, none⟩) n c, .int .u8 0] w fun e w' => ∃ A k c', (0 < k ↔ 0 < n) ∧ e = .returned (.slice A k c') ∧ ∃ q, w' = w.drewN q := by
  have HI := Aside0.mk hit
  have HL := Aside0.mk hl
  clear hit hl
  go_enter Tryd.func40, Tryd.ntmps40
  go_wp2
  go_loopg [0] n (fun gg s0 wr => ∃ i p d q : Nat, i + p = n ∧ p ≤ gg ∧ p ≤ d ∧ s0 = .slice (some ⟨g, o + i, none⟩) p d ∧ wr = w.drewN q ∧ (0 < p ↔ 0 < n))
  case atStart => exact ⟨0, n, c, 0, by omega, by omega, hnc, rfl, rfl, Iff.rfl⟩
  case round =>
    obtain ⟨i, p, d, q, hip, hg, hpd, rfl, rfl, hpn⟩ := hrel
    rcases Nat.eq_zero_or_pos p with rfl | hp
    · go_wp2
      go_ret
      exact ⟨_, _, _, by simpa using hpn, rfl, q, rfl⟩
    · obtain ⟨m, rfl⟩ : ∃ m, p = m + 1 := ⟨p - 1, by omega⟩
      have hcell := HI.out i (by omega)
      have hpz : (0 : Int) < ((m + 1 : Nat) : Int) := by omega
      by_cases c2 : rd xs (i : Int) = 0
      · rw [c2] at hcell
        have hm : 0 < m := by
          rcases HL.out with h | ⟨j, hj, hx⟩
          · omega
          · rcases Nat.eq_zero_or_pos m with rfl | h
            · exact absurd (by rw [show j = i by omega]; exact c2) hx
            · exact h
        have o1 : (1 : Int) ≤ ((m + 1 : Nat) : Int) := by omega
        have hne : ¬ d = 1 := by omega
        go_wp2
        go_roundg m
        case measure => omega
        case rel => exact ⟨i + 1, m, d - 1, q, by omega, Nat.le_refl _, by omega, rfl, rfl, by omega⟩
      · have e2 : (rd xs (i : Int) == 0) = false := beq_eq_false_iff_ne.mpr c2
        go_wp2
        go_ret
        exact ⟨_, _, _, hpn, rfl, q, rfl⟩
/-- A row behind zeros trimmed off: is anything left of it? -/
theorem bytes_Trim.calls (g o n c : Nat) (xs : List Int) (w : World) (hn : n = xs.length) (hnc : n ≤ c) (hbig : n ≤ 1000000000) (hit : ∀ k, k < n → w.cell? ⟨g, o + k, none⟩ = some (.int .u8 (rd xs (k : Int)))) :
    Calls Tryd.prog 26 #[.slice (some ⟨g, o, none⟩) n c, .string { data := #[0] }] w fun e w' => ∃ A k c', (0 < k ↔ ∃ j : Nat, j < n ∧ rd xs (j : Int) ≠ 0) ∧ e = .returned (.slice A k c') ∧ ∃ q, w' = w.drewN q := by
  have hadd : ∀ k, (⟨g, o, none⟩ : Addr).add k = ⟨g, o + k, none⟩ := fun k => by first | rfl | exact add_plain _ _ _ | simp [Addr.add]
  have H1 : Aside0 (∀ W : World, (∃ q, W = w.drewN q) → Calls Tryd.prog 41 #[.slice (some ⟨g, o, none⟩) n c, .int .u8 0] W fun e w' => ∃ k : Nat, k ≤ n ∧ (0 < k ↔ ∃ j : Nat, j < n ∧ rd xs (j : Int) ≠ 0) ∧ e = .returned (.slice (some ⟨g, o, none⟩) k c) ∧ (∃ q, w' = w.drewN q) ∧ Aside0 (∀ W : World, (∃ q, W = w.drewN q) → Calls Tryd.prog 40 #[.slice (some ⟨g, o, none⟩) k c, .int .u8 0] W fun e w' => ∃ A k' c', (0 < k' ↔ 0 < k) ∧ e = .returned (.slice A k' c') ∧ ∃ q, w' = w.drewN q)) := ⟨by
    rintro W ⟨q, rfl⟩
    refine (bytes_Trim.right ⟨g, o, none⟩ n c xs (w.drewN q) hn hnc hbig (fun k hk => by rw [hadd]; exact hit k hk)).mono ?_
    rintro e w' ⟨k, hk, hz, hl, rfl, q2, rfl⟩
    refine ⟨k, hk, ⟨fun h => ?_, fun ⟨j, hj, hx⟩ => ?_⟩, rfl, ⟨q + q2, by rw [World.drewN_drewN]⟩, ⟨?_⟩⟩
    · rcases hl with h0 | ⟨j, hj, hx⟩
      · omega
      · exact ⟨j, by omega, hx⟩
    · rcases Nat.eq_zero_or_pos k with h0 | h0
      · subst h0; exact absurd (hz j (Nat.zero_le _) hj) hx
      · exact h0
    · rintro W ⟨q3, rfl⟩
      refine (bytes_Trim.left g o k c xs (w.drewN q3) (by omega) (by omega) (fun j hj => hit j (by omega)) hl).mono ?_
      rintro e w' ⟨A, k', c', h1, rfl, q4, rfl⟩
      exact ⟨A, k', c', h1, rfl, q3 + q4, by rw [World.drewN_drewN]⟩⟩
  rcases Nat.eq_zero_or_pos n with h0 | h0
  · subst h0
    clear H1 hit
    go_enter Tryd.func26, Tryd.ntmps26
    go_wp2
    go_ret
    exact ⟨_, _, _, ⟨fun h => absurd h (Nat.lt_irrefl _), fun ⟨j, hj, _⟩ => absurd hj (Nat.not_lt_zero _)⟩, rfl, 0, rfl⟩
  · have hnz : ((n : Int) == 0) = false := beq_eq_false_iff_ne.mpr (by omega)
    have hne : ¬ n = 0 := by omega
    clear hit hadd hn hnc hbig h0
    go_enter Tryd.func26, Tryd.ntmps26
    go_upto_region 5 with (fail)
    set_option maxRecDepth 20000 in go_upto_region 6 with (fail)
    refine start_ (n := 8) (S := fun w' => ∃ q, w' = w.drewN q) (ds := [7]) #[false, false, false, false, false, false, false, false] (by kernel_rfl) rfl rfl ⟨1, rfl⟩ (fun hHeld => ?_)
    generalize w.drew = w1 at hHeld ⊢
    refine take_ (i := 0) (N := some 21) (v := ?_) (a' := ?_) #[true, false, false, false, false, false, false, false] rfl rfl (by kernel_rfl) (fun _ _ _ h => h) (Or.inl ⟨by rfl, ?_⟩) hHeld ?_ ?_; rotate_left
    · intro w' s0; set_option maxRecDepth 20000 in go_simp
      with_reducible rfl
    rotate_left
    · simp only [Act.put, setIfInBounds_toArray, set_cons_zero, set_cons_succ, i64_w, i32_w]; rfl
    refine take_ (i := 1) (N := some 22) (v := ?_) (a' := ?_) #[true, true, false, false, false, false, false, false] rfl rfl (by kernel_rfl) (fun _ _ _ h => h) (Or.inl ⟨by rfl, ?_⟩) hHeld ?_ ?_; rotate_left
    · intro w' s0; set_option maxRecDepth 20000 in go_simp
      with_reducible rfl
    rotate_left
    · simp only [Act.put, setIfInBounds_toArray, set_cons_zero, set_cons_succ, i64_w, i32_w]; rfl
    refine take_ (i := 2) (N := some 23) (v := ?_) (a' := ?_) #[true, true, true, false, false, false, false, false] rfl rfl (by kernel_rfl) (fun _ _ _ h => h) (Or.inl ⟨by rfl, ?_⟩) hHeld ?_ ?_; rotate_left
    · intro w' s0; set_option maxRecDepth 20000 in go_simp
      with_reducible rfl
    rotate_left
    · simp only [Act.put, setIfInBounds_toArray, set_cons_zero, set_cons_succ, i64_w, i32_w]; rfl
    refine take_ (i := 4) (N := some 25) (v := ?_) (a' := ?_) #[true, true, true, false, true, false, false, false] rfl rfl (by kernel_rfl) (fun _ _ _ h => h) (Or.inl ⟨by rfl, ?_⟩) hHeld ?_ ?_; rotate_left
    · intro w' s0; set_option maxRecDepth 20000 in go_simp
      with_reducible rfl
    rotate_left
    · simp only [Act.put, setIfInBounds_toArray, set_cons_zero, set_cons_succ, i64_w, i32_w]; rfl
    refine take_ (i := 5) (N := some 26) (v := ?_) (a' := ?_) #[true, true, true, false, true, true, false, false] rfl rfl (by kernel_rfl) (fun _ _ _ h => h) (Or.inl ⟨by rfl, ?_⟩) hHeld ?_ ?_; rotate_left
    · intro w' s0; set_option maxRecDepth 20000 in go_simp
      with_reducible rfl
    rotate_left
    · simp only [Act.put, setIfInBounds_toArray, set_cons_zero, set_cons_succ, i64_w, i32_w]; rfl
    refine one_ (i := 3) (N := some 24) #[true, true, true, true, true, true, false, false] rfl rfl (by kernel_rfl) (by decide) (fun K hK => ?_)
    refine goes_ Tryd.func41 (by kernel_rfl) rfl #[.slice (some ⟨g, o, none⟩) n c, .int .u8 0] (by rfl) rfl rfl (by (try simp only [List.map_toArray, List.map_cons, List.map_nil]); first | done | rfl) ?_
    refine (H1.out w1 hHeld).mono ?_
    rintro e w2 ⟨k, hk, hkx, rfl, hq2, H2⟩
    refine ⟨_, rfl, ?_⟩
    refine hK.out _ _ hq2 (fun hHeld2 => ?_); clear hK K
    refine norm_ (a' := ?_) ?_ ?_; rotate_left
    · show Act.put _ (some 24) _ = _
      simp only [Act.put, setIfInBounds_toArray, set_cons_zero, set_cons_succ, i64_w, i32_w]; rfl
    refine one_ (i := 6) (N := some 27) #[true, true, true, true, true, true, true, false] rfl rfl (by kernel_rfl) (by decide) (fun K hK => ?_)
    refine goes_ Tryd.func40 (by kernel_rfl) rfl #[.slice (some ⟨g, o, none⟩) k c, .int .u8 0] (by rfl) rfl rfl (by (try simp only [List.map_toArray, List.map_cons, List.map_nil]); first | done | rfl) ?_
    refine (H2.out w2 hHeld2).mono ?_
    rintro e w3 ⟨A3, k3, c3, hk3, rfl, hq3⟩
    refine ⟨_, rfl, ?_⟩
    refine hK.out _ _ hq3 (fun hHeld3 => ?_); clear hK K
    refine norm_ (a' := ?_) ?_ ?_; rotate_left
    · show Act.put _ (some 27) _ = _
      simp only [Act.put, setIfInBounds_toArray, set_cons_zero, set_cons_succ, i64_w, i32_w]; rfl
    refine pure_ (i := 7) (N := some 4) (v := ?_) (a' := ?_) #[true, true, true, true, true, true, true, true] rfl rfl (by kernel_rfl) (fun _ _ _ h => h) (Or.inl ⟨by rfl, ?_⟩) ?_ ?_; rotate_left
    · intro w'; go_simp
      with_reducible rfl
    rotate_left
    · simp only [Act.put, setIfInBounds_toArray, set_cons_zero, set_cons_succ, i64_w, i32_w]; rfl
    refine done_ (by kernel_rfl) ?_
    go_wp2
    go_ret
    exact ⟨_, _, _, hk3.trans hkx, rfl, hq3⟩

end Go.Proofs.YtejamobohmljfaaDoor.XParityRecovers
