/- Learn tells what the reference tells, for all mixers of at most 300 sets of at most 100 weights, at most 100 inputs and any numbers, and leaves the mixer and the inputs as they are. -/
import Derived.Test.YtlpkfljihcklkaaXMixerLearnsx3
import Derived.OpenShut
set_option linter.unusedVariables false
set_option linter.unusedSimpArgs false
namespace Go.Proofs.Ytlpkfljihcklkaa.Pure
open Go.RowKit Go.Proofs.Ytlpkfljihcklkaa.XMixerLearns Go.Proofs.YtlpkfljihcklkaaW.PrintWords Go.Proofs.YtlpkfljihcklkaaW.PrintLast
theorem w32 {x : Int} (h : -2147483648 ≤ x ∧ x ≤ 2147483647) : wrap32 x = x := by unfold wrap32; omega
theorem w64 {x : Int} (h : -9223372036854775808 ≤ x ∧ x ≤ 9223372036854775807) : wrap64 x = x := by unfold wrap64; omega
theorem and1_i64 (m : Int) : Go.bits .and .i64 m 1 = m % 2 := by
  show IntKind.i64.wrap (((BitVec.ofInt 64 m &&& BitVec.ofInt 64 1).toNat : Nat) : Int) = m % 2
  rw [BitVec.toNat_and, BitVec.toNat_ofInt, show (BitVec.ofInt 64 1).toNat = 1 from rfl, Nat.and_one_is_mod, IntKind.wrap_i64]
  omega
theorem pow_pos_ (k : Nat) : (0 : Int) < 2 ^ k := Int.pow_pos (by decide)
theorem div_pow (n : Int) (k : Nat) : n / 2 ^ (k + 1) = n / 2 ^ k / 2 := by
  rw [Int.pow_succ, Int.ediv_ediv_of_nonneg (Int.le_of_lt (pow_pos_ k))]
theorem div_pow_le (n : Int) (k : Nat) (h0 : -9223372036854775808 ≤ n) (h1 : n ≤ 9223372036854775807) : -9223372036854775808 ≤ n / 2 ^ k ∧ n / 2 ^ k ≤ 9223372036854775807 := by
  induction k with
  | zero => simp; omega
  | succ k ih => rw [div_pow]; omega
/-- n, rounded by k places. -/
def rnd (n : Int) : Nat → Int
  | 0 => n
  | k + 1 => (n / 2 ^ k + 1) / 2
theorem round_in {n k : Int} (j : Nat) (h0 : -9223372036854775808 ≤ n) (h1 : n ≤ 9223372036854775807) (k0 : 0 ≤ k) (k1 : k ≤ 62) : fixed_Round.f (j + 1) n k = some (rnd n k.toNat, 0) := by
  unfold fixed_Round.f
  rw [if_neg (by omega), decide_eq_false (by omega)]
  simp only [fixed_Round.j0]
  rw [if_neg (by decide)]
  by_cases c : k = 0
  · subst c
    rw [if_pos rfl]
    rfl
  · obtain ⟨q, rfl⟩ : ∃ q : Nat, k = ((q + 1 : Nat) : Int) := ⟨(k - 1).toNat, by omega⟩
    rw [if_neg c, if_pos k0, w64 (x := ((q + 1 : Nat) : Int) - 1) (by omega), if_pos (by omega), and1_i64]
    have e1 : shr .i64 n ((q + 1 : Nat) : Int) = n / 2 ^ q / 2 := by
      unfold shr
      rw [show min ((q + 1 : Nat) : Int).toNat IntKind.i64.bits = q + 1 from by show min _ 64 = _; omega, div_pow]
    have e2 : shr .i64 n (((q + 1 : Nat) : Int) - 1) = n / 2 ^ q := by
      unfold shr
      rw [show min (((q + 1 : Nat) : Int) - 1).toNat IntKind.i64.bits = q from by show min _ 64 = _; omega]
    rw [e1, e2, show ((q + 1 : Nat) : Int).toNat = q + 1 from by omega]
    have b := div_pow_le n q h0 h1
    have e3 : n / 2 ^ q / 2 + n / 2 ^ q % 2 = (n / 2 ^ q + 1) / 2 := by omega
    rw [e3]
    have b2 : -9223372036854775808 ≤ (n / 2 ^ q + 1) / 2 ∧ (n / 2 ^ q + 1) / 2 ≤ 9223372036854775807 := by omega
    rw [w64 b2]
    rfl
theorem round_out {n k : Int} (j : Nat) (h : k < 0 ∨ 62 < k) : fixed_Round.f (j + 1) n k = some (0, 2) := by
  unfold fixed_Round.f
  by_cases c : k < 0
  · rw [if_pos c]
    simp only [fixed_Round.j0, if_true]
  · rw [if_neg c, decide_eq_true (by omega)]
    simp only [fixed_Round.j0, if_true]
/-! What a mixer's check, its questions and its learning tell. -/
def rdL (l : List (List Int)) (i : Int) : List Int := l.getD i.toNat []
theorem ldrop {l : List (List Int)} {i : Nat} (h : i < l.length) : l.drop i = rd_L1 l (i : Int) :: l.drop (i + 1) := by
  have e : rd_L1 l (i : Int) = l[i] := by simp [rd_L1, List.getD_eq_getElem?_getD, h]
  rw [e]
  exact List.drop_eq_getElem_cons h
theorem idrop {l : List Int} {i : Nat} (h : i < l.length) : l.drop i = rd l (i : Int) :: l.drop (i + 1) := by
  have e : rd l (i : Int) = l[i] := by simp [rd, List.getD_eq_getElem?_getD, h]
  rw [e]
  exact List.drop_eq_getElem_cons h
theorem lmem {l : List (List Int)} {i : Int} (h0 : 0 ≤ i) (h : i < l.length) : rd_L1 l i ∈ l := by
  obtain ⟨n, rfl⟩ := Int.eq_ofNat_of_zero_le h0
  have e : rd_L1 l (n : Int) = l[n]'(by omega) := by simp [rd_L1, List.getD_eq_getElem?_getD, show n < l.length by omega]
  rw [e]
  exact List.getElem_mem _
theorem imem {l : List Int} {i : Int} (h0 : 0 ≤ i) (h : i < l.length) : rd l i ∈ l := by
  obtain ⟨n, rfl⟩ := Int.eq_ofNat_of_zero_le h0
  have e : rd l (n : Int) = l[n]'(by omega) := by simp [rd, List.getD_eq_getElem?_getD, show n < l.length by omega]
  rw [e]
  exact List.getElem_mem _
theorem i32_in {x : Int} (h : (Lit.int .i32 x).wf = true) : -2147483648 ≤ x ∧ x ≤ 2147483647 := by
  simp only [Lit.wf, IntKind.min, IntKind.max, IntKind.signed, IntKind.bits, Bool.and_eq_true] at h
  simp at h
  omega
def chk (l : List (List Int)) : Prop := (1 ≤ l.length ∧ l.length ≤ 256) ∧ ∀ r ∈ l, r.length = 8
instance (l : List (List Int)) : Decidable (chk l) := by unfold chk; infer_instance
def okIn (s : List Int) : Prop := s.length = 8 ∧ ∀ x ∈ s, -2047 ≤ x ∧ x ≤ 2047
instance (s : List Int) : Decidable (okIn s) := by unfold okIn; infer_instance
def ask (l : List (List Int)) (a : Int) (s : List Int) : Int := if chk l then (if (0 ≤ a ∧ a < l.length) ∧ okIn s then 0 else 2) else 8
theorem ask_ok {l : List (List Int)} {a : Int} {s : List Int} (h : ask l a s = 0) : chk l ∧ (0 ≤ a ∧ a < l.length) ∧ okIn s := by
  unfold ask at h
  by_cases c : chk l
  · rw [if_pos c] at h
    by_cases d : (0 ≤ a ∧ a < l.length) ∧ okIn s
    · exact ⟨c, d⟩
    · rw [if_neg d] at h; omega
  · rw [if_neg c] at h; omega
theorem ask_in {l : List (List Int)} {a : Int} {s : List Int} (c : chk l) (d : 0 ≤ a ∧ a < l.length) (o : okIn s) : ask l a s = 0 := by unfold ask; rw [if_pos c, if_pos ⟨d, o⟩]
theorem chk_set {l : List (List Int)} {a : Int} {r : List Int} (c : chk l) (h : r.length = 8) : chk (l.set a.toNat r) := by
  refine ⟨by rw [List.length_set]; exact c.1, fun x hx => ?_⟩
  rcases List.mem_or_eq_of_mem_set hx with y | y
  · exact c.2 x y
  · rw [y]; exact h
theorem row8 {l : List (List Int)} {a : Int} (c : chk l) (h0 : 0 ≤ a) (h1 : a < l.length) : (rd_L1 l a).length = 8 := c.2 _ (lmem h0 h1)
def sat (n : Int) : Int := if n < -2147483648 then -2147483648 else if n > 2147483647 then 2147483647 else n
theorem sat_bd (n : Int) : -2147483648 ≤ sat n ∧ sat n ≤ 2147483647 := by unfold sat; split <;> (try split) <;> omega
def off (p : Int) (b : Bool) : Int := if b = true then 4095 - p else -p
theorem off_bd {p : Int} {b : Bool} (h0 : 0 ≤ p) (h1 : p ≤ 4095) : -4095 ≤ off p b ∧ off p b ≤ 4095 := by unfold off; split <;> omega
/-- A weight after learning. -/
def tch (p : Int) (b : Bool) (w x : Int) : Int := sat (w + (x * (off p b * 7) + 8192) / 16384)
def tset (p : Int) (b : Bool) (w s : List Int) : List Int := List.zipWith (tch p b) w s
theorem tset_len {p : Int} {b : Bool} {w s : List Int} (h1 : w.length = 8) (h2 : s.length = 8) : (tset p b w s).length = 8 := by unfold tset; rw [List.length_zipWith]; omega
def lrn (l : List (List Int)) (a : Int) (s : List Int) (p : Int) (b : Bool) : List (List Int) × Int := if ask l a s = 0 then (if p < 0 ∨ p > 4095 then ([], 2) else (l.set a.toNat (tset p b (rd_L1 l a) s), 0)) else ([], ask l a s)
theorem prod_in {x y : Int} (h1 : -2047 ≤ x) (h2 : x ≤ 2047) (h3 : -28665 ≤ y) (h4 : y ≤ 28665) : -58677255 ≤ x * y ∧ x * y ≤ 58677255 := by
  have a : x.natAbs ≤ 2047 := by omega
  have b : y.natAbs ≤ 28665 := by omega
  have c := Nat.mul_le_mul a b
  rw [← Int.natAbs_mul] at c
  omega
theorem pCheck {l : List (List Int)} (hl : l.length ≤ 100000) : mixer_Check.f l = some (if chk l then 0 else 8) := by
  unfold mixer_Check.f slices_ContainsFunc_int32_int32_mixer_Check_1.f
  by_cases a : (l.length : Int) < 1
  · rw [if_pos a, if_neg (show ¬ chk l from fun z => by have := z.1; omega)]
  rw [if_neg a]
  by_cases b : (l.length : Int) > 256
  · rw [if_pos b, if_neg (show ¬ chk l from fun z => by have := z.1; omega)]
  rw [if_neg b, if_neg (by omega), Option.bind_some]
  by_cases c : chk l
  · rw [if_pos c, if_neg]
    simp only [List.any_eq_true, decide_eq_true_eq, not_exists, not_and]
    exact fun r hr h => h (c.2 r hr)
  · rw [if_neg c, if_pos]
    have d : ¬ ∀ r ∈ l, r.length = 8 := fun h => c ⟨by omega, h⟩
    rw [List.any_eq_true]
    by_cases e : ∃ r, r ∈ l ∧ r.length ≠ 8
    · obtain ⟨r, hr, h⟩ := e
      exact ⟨r, hr, decide_eq_true h⟩
    · exact absurd (fun r hr => by by_cases q : r.length = 8; exact q; exact absurd ⟨r, hr, q⟩ e) d
theorem pcheck {l : List (List Int)} {a : Int} {s : List Int} (hl : l.length ≤ 100000) (hs : s.length ≤ 100000) : mixer_check.f l a s = some (ask l a s) := by
  unfold mixer_check.f ask slices_ContainsFunc_int32_int32_mixer_check_1.f
  rw [pCheck hl, Option.bind_some]
  by_cases c : chk l
  · rw [if_pos c, if_pos rfl, if_pos c]
    by_cases d : a < 0
    · rw [if_pos d, if_neg (by omega)]
    rw [if_neg d]
    by_cases e : a ≥ (l.length : Int)
    · rw [if_pos e, if_neg (by omega)]
    rw [if_neg e]
    by_cases f : s.length = 8
    · rw [if_pos (by omega), if_neg (by omega), Option.bind_some]
      by_cases g : okIn s
      · have nn : ¬ (s.any fun x => decide (x > 2047 ∨ x < -2047)) = true := by
          simp only [List.any_eq_true, decide_eq_true_eq, not_exists, not_and]
          intro x hx h
          have := g.2 x hx
          omega
        rw [if_neg nn, if_pos ⟨by omega, g⟩]
      · rw [if_pos, if_neg (show ¬ ((0 ≤ a ∧ a < l.length) ∧ okIn s) from fun z => g z.2)]
        rw [List.any_eq_true]
        by_cases h : ∃ x, x ∈ s ∧ (x > 2047 ∨ x < -2047)
        · obtain ⟨x, hx, h⟩ := h
          exact ⟨x, hx, decide_eq_true h⟩
        · exact absurd ⟨f, fun x hx => by by_cases q : x > 2047 ∨ x < -2047; exact absurd ⟨x, hx, q⟩ h; omega⟩ g
    · rw [if_neg (by omega), if_neg (show ¬ ((0 ≤ a ∧ a < l.length) ∧ okIn s) from fun z => f z.2.1)]
  · rw [if_neg c, if_neg (by decide), if_neg c]
theorem wrong_in {p : Int} {b : Bool} (h0 : 0 ≤ p) (h1 : p ≤ 4095) : mixer_wrong.f p b = some (off p b) := by
  unfold mixer_wrong.f off
  by_cases c : b = true
  · rw [if_pos c, if_pos c, w32 (by omega)]
  · rw [if_neg c, if_neg c, w32 (by omega)]
theorem sat_is (n : Int) : fixed_Sat.f n = some (sat n) := by
  unfold fixed_Sat.f sat mn mx
  split <;> split <;> (try split) <;> (try split) <;> (congr 1 <;> omega)
theorem add_is {a b : Int} (ha : -2147483648 ≤ a ∧ a ≤ 2147483647) (hb : -2147483648 ≤ b ∧ b ≤ 2147483647) : fixed_Add.f a b = some (sat (a + b)) := by
  unfold fixed_Add.f
  rw [w64 (x := a) (by omega), w64 (x := b) (by omega), w64 (by omega), sat_is]
  rfl
theorem tr_set {f : Int → Int → Int} {w x : List Int} (h : w.length = x.length) {i : Nat} (hi : i < w.length) : (((List.zipWith f w x).take i ++ w.drop i).set i (f (rd w (i : Int)) (rd x (i : Int)))) = (List.zipWith f w x).take (i + 1) ++ w.drop (i + 1) := by
  have hz : i < (List.zipWith f w x).length := by rw [List.length_zipWith]; omega
  have lt : ((List.zipWith f w x).take i).length = i := by rw [List.length_take]; omega
  have e1 : rd w (i : Int) = w[i] := by simp [rd, List.getD_eq_getElem?_getD, hi]
  have e2 : rd x (i : Int) = x[i]'(by omega) := by simp [rd, List.getD_eq_getElem?_getD, show i < x.length by omega]
  rw [List.set_append_right _ _ (by omega), lt, Nat.sub_self, List.drop_eq_getElem_cons hi, List.set_cons_zero, e1, e2, List.take_succ_eq_append_getElem hz, List.getElem_zipWith, List.append_assoc]
  rfl
theorem tr_rd {f : Int → Int → Int} {w x : List Int} (h : w.length = x.length) {i : Nat} (hi : i < w.length) : rd ((List.zipWith f w x).take i ++ w.drop i) (i : Int) = rd w (i : Int) := by
  have lt : ((List.zipWith f w x).take i).length = i := by rw [List.length_take, List.length_zipWith]; omega
  have e1 : rd w (i : Int) = w[i] := by simp [rd, List.getD_eq_getElem?_getD, hi]
  rw [e1]
  simp only [rd, Int.toNat_natCast, List.getD_eq_getElem?_getD]
  rw [List.getElem?_append_right (by omega), lt, Nat.sub_self, List.drop_eq_getElem_cons hi]
  rfl
theorem set_set_ {l : List (List Int)} (n : Nat) (r s : List Int) : (l.set n r).set n s = l.set n s := List.set_set ..
theorem rd_L1_set {l : List (List Int)} {a : Int} {r : List Int} (h0 : 0 ≤ a) (h1 : a < l.length) : rd_L1 (l.set a.toNat r) a = r := by
  obtain ⟨n, rfl⟩ := Int.eq_ofNat_of_zero_le h0
  simp [rd_L1, List.getD_eq_getElem?_getD, show n < l.length by omega]
theorem rd_L1_ne {l : List (List Int)} {a i : Int} {r : List Int} (h0 : 0 ≤ a) (i0 : 0 ≤ i) (h : i ≠ a) : rd_L1 (l.set a.toNat r) i = rd_L1 l i := by
  obtain ⟨n, rfl⟩ := Int.eq_ofNat_of_zero_le h0
  obtain ⟨j, rfl⟩ := Int.eq_ofNat_of_zero_le i0
  simp only [rd_L1, Int.toNat_natCast, List.getD_eq_getElem?_getD]
  rw [List.getElem?_set_ne (by omega)]
theorem round14 {n : Int} (j : Nat) (h0 : -100000000 ≤ n) (h1 : n ≤ 100000000) : fixed_Round.f (j + 1) n 14 = some ((n + 8192) / 16384, 0) := by
  rw [round_in j (by omega) (by omega) (by decide) (by decide)]
  have e : rnd n (14 : Int).toNat = (n / 8192 + 1) / 2 := rfl
  rw [e, show (n / 8192 + 1) / 2 = (n + 8192) / 16384 from by omega]
theorem learn_l1 {l : List (List Int)} {a p : Int} {s w : List Int} {b : Bool} (h0 : 0 ≤ a) (h1 : a < l.length) (hw : w.length = 8) (wb : ∀ x ∈ w, -2147483648 ≤ x ∧ x ≤ 2147483647) (o : okIn s) (p0 : 0 ≤ p) (p1 : p ≤ 4095) (e : Nat) : ∀ (k i : Nat), i + e = 8 → e + 2 ≤ k →
    mixer_Learn.l1 k a (off p b * 7) s (s.length : Int) (i : Int) (l.set a.toNat ((tset p b w s).take i ++ w.drop i)) = some (l.set a.toNat (tset p b w s), 0) := by
  have ls := o.1
  induction e with
  | zero =>
    intro k i hd hk
    obtain ⟨k, rfl⟩ : ∃ q, k = q + 1 := ⟨k - 1, by omega⟩
    obtain rfl : i = 8 := by omega
    simp only [mixer_Learn.l1]
    rw [if_neg (by omega), List.take_of_length_le (by rw [tset_len hw ls]; omega), List.drop_of_length_le (by omega), List.append_nil]
  | succ e ih =>
    intro k i hd hk
    obtain ⟨k, rfl⟩ : ∃ q, k = q + 1 + 1 := ⟨k - 2, by omega⟩
    have xb := o.2 _ (imem (l := s) (i := (i : Int)) (by omega) (by omega))
    have wi := wb _ (imem (l := w) (i := (i : Int)) (by omega) (by omega))
    have ob := off_bd (b := b) p0 p1
    have pr := prod_in xb.1 xb.2 (y := off p b * 7) (by omega) (by omega)
    simp only [mixer_Learn.l1]
    rw [if_pos (by omega), if_pos (by omega), if_pos (by omega), w64 (x := rd s (i : Int)) (by omega), w64 (x := rd s (i : Int) * (off p b * 7)) (by omega), round14 k (by omega) (by omega), Option.bind_some]
    dsimp only
    have le : (tset p b w s).length = 8 := tset_len hw ls
    rw [if_pos h0, if_pos (by rw [List.length_set]; exact h1), rd_L1_set h0 h1]
    rw [if_pos (by rw [List.length_append, List.length_take, List.length_drop]; omega)]
    have er : rd ((tset p b w s).take i ++ w.drop i) (i : Int) = rd w (i : Int) := tr_rd (by omega) (by omega)
    rw [er, w32 (by omega), add_is wi (by omega), Option.bind_some, set_set_, Int.toNat_natCast, w64 (by omega)]
    have es := tr_set (f := tch p b) (w := w) (x := s) (by omega) (i := i) (by omega)
    rw [show ((tset p b w s).take i ++ w.drop i).set i (sat (rd w (i : Int) + (rd s (i : Int) * (off p b * 7) + 8192) / 16384)) = (tset p b w s).take (i + 1) ++ w.drop (i + 1) from es]
    exact ih (k + 1) (i + 1) (by omega) (by omega)
theorem clone_in {l : List Int} (h : l.length ≤ 1000) : slices_Clone_int32_int32.f l = some l := by
  unfold slices_Clone_int32_int32.f
  rw [if_pos (by omega)]
theorem learn_l0 {l : List (List Int)} {a p : Int} {s : List Int} {b : Bool} (c : chk l) (wb : ∀ r ∈ l, ∀ x ∈ r, -2147483648 ≤ x ∧ x ≤ 2147483647) (h0 : 0 ≤ a) (h1 : a < l.length) (o : okIn s) (p0 : 0 ≤ p) (p1 : p ≤ 4095) (e : Nat) : ∀ (k i : Nat), i + e = l.length → e + 20 ≤ k →
    mixer_Learn.l0 k a s p b l (l.length : Int) (i : Int) (l.take i) = some (l.set a.toNat (tset p b (rd_L1 l a) s), 0) := by
  have cl := c.1
  induction e with
  | zero =>
    intro k i hd hk
    obtain ⟨k, rfl⟩ : ∃ q, k = q + 1 := ⟨k - 1, by omega⟩
    simp only [mixer_Learn.l0]
    have ob := off_bd (b := b) p0 p1
    rw [if_neg (by omega), wrong_in p0 p1, Option.bind_some, List.take_of_length_le (by omega), w64 (x := off p b) (by omega), w64 (by omega)]
    have := learn_l1 (l := l) (b := b) h0 h1 (row8 c h0 h1) (wb _ (lmem h0 h1)) o p0 p1 8 k 0 (by omega) (by omega)
    rw [List.take_zero, List.drop_zero, List.nil_append] at this
    have e : l.set a.toNat (rd_L1 l a) = l := by
      have ha : a.toNat < l.length := by omega
      have : rd_L1 l a = l[a.toNat] := by simp [rd_L1, List.getD_eq_getElem?_getD, ha]
      rw [this]
      exact List.set_getElem_self ha
    rw [e] at this
    exact this
  | succ e ih =>
    intro k i hd hk
    obtain ⟨k, rfl⟩ : ∃ q, k = q + 1 := ⟨k - 1, by omega⟩
    have r8 := row8 (a := (i : Int)) c (by omega) (by omega)
    have e2 : rd_L1 l (i : Int) = l[i]'(by omega) := by simp [rd_L1, List.getD_eq_getElem?_getD, show i < l.length by omega]
    simp only [mixer_Learn.l0]
    rw [if_pos (by omega), if_pos (by omega), if_pos (by omega), clone_in (by omega), Option.bind_some, if_pos (by rw [List.length_take]; omega), w64 (by omega), e2, ← List.take_succ_eq_append_getElem (by omega)]
    exact ih k (i + 1) (by omega) (by omega)
theorem plearn {l : List (List Int)} {a p : Int} {s : List Int} {b : Bool} (hl : l.length ≤ 1000) (hs : s.length ≤ 1000) (wb : ∀ r ∈ l, ∀ x ∈ r, -2147483648 ≤ x ∧ x ≤ 2147483647) {k : Nat} (hk : 400 ≤ k) : mixer_Learn.f k l a s p b = some (lrn l a s p b) := by
  unfold mixer_Learn.f lrn
  rw [pcheck (by omega) (by omega), Option.bind_some]
  by_cases e : ask l a s = 0
  · have q := ask_ok e
    have cl := q.1.1
    rw [if_pos e, if_pos e]
    obtain ⟨k, rfl⟩ : ∃ q, k = q + 1 := ⟨k - 1, by omega⟩
    by_cases c : p < 0
    · rw [if_pos c, if_pos (Or.inl c)]
      simp only [mixer_Learn.j0, if_true]
    · rw [if_neg c]
      by_cases d : p > 4095
      · rw [decide_eq_true d, if_pos (Or.inr d)]
        simp only [mixer_Learn.j0, if_true]
      · rw [decide_eq_false d, if_neg (by omega)]
        simp only [mixer_Learn.j0]
        rw [if_neg (by decide)]
        exact learn_l0 (b := b) q.1 wb q.2.1.1 q.2.1.2 q.2.2 (by omega) (by omega) l.length k 0 (by omega) (by omega)
  · rw [if_neg e, if_neg e]
theorem rcheck_go {l : List (List Int)} (hl : l.length ≤ 1000) (e : Nat) : ∀ (k i : Nat), i + e = l.length → e < k → bitloftref16_Check.l0 k (i : Int) l = some (if ∀ r ∈ l.drop i, r.length = 8 then 0 else 8) := by
  induction e with
  | zero =>
    intro k i hd hk
    obtain ⟨k, rfl⟩ : ∃ q, k = q + 1 := ⟨k - 1, by omega⟩
    simp only [bitloftref16_Check.l0]
    rw [if_neg (by omega), List.drop_of_length_le (by omega), if_pos (by simp)]
  | succ e ih =>
    intro k i hd hk
    obtain ⟨k, rfl⟩ : ∃ q, k = q + 1 := ⟨k - 1, by omega⟩
    simp only [bitloftref16_Check.l0]
    rw [if_pos (by omega), if_pos (by omega), ldrop (l := l) (i := i) (by omega)]
    by_cases c : (rd_L1 l (i : Int)).length = 8
    · rw [if_pos (by omega), w64 (by omega), show (i : Int) + 1 = ((i + 1 : Nat) : Int) from rfl, ih k (i + 1) (by omega) (by omega)]
      simp only [List.forall_mem_cons, c, true_and]
    · rw [if_neg (by omega), if_neg (fun h => c (h _ (List.mem_cons_self ..)))]
theorem rCheck {l : List (List Int)} (hl : l.length ≤ 1000) {k : Nat} (hk : 1002 ≤ k) : bitloftref16_Check.f k l = some (if chk l then 0 else 8) := by
  unfold bitloftref16_Check.f
  obtain ⟨k, rfl⟩ : ∃ q, k = q + 1 := ⟨k - 1, by omega⟩
  by_cases a : (l.length : Int) < 1
  · rw [if_pos a, if_neg (show ¬ chk l from fun z => by have := z.1; omega)]
    simp only [bitloftref16_Check.j0, if_true]
  rw [if_neg a]
  by_cases b : (l.length : Int) > 256
  · rw [decide_eq_true b, if_neg (show ¬ chk l from fun z => by have := z.1; omega)]
    simp only [bitloftref16_Check.j0, if_true]
  rw [decide_eq_false b]
  simp only [bitloftref16_Check.j0]
  rw [if_neg (by decide)]
  have := rcheck_go hl l.length k 0 (by omega) (by omega)
  rw [List.drop_zero] at this
  refine (show bitloftref16_Check.l0 k 0 l = _ from this).trans ?_
  by_cases c : chk l
  · rw [if_pos c, if_pos c.2]
  · rw [if_neg c, if_neg (fun h => c ⟨by omega, h⟩)]
theorem rin_go {s : List Int} (hs : s.length = 8) (e : Nat) : ∀ (k i : Nat), i + e = 8 → e < k → bitloftref16_In.l0 k s (i : Int) = some (decide (∀ x ∈ s.drop i, -2047 ≤ x ∧ x ≤ 2047)) := by
  induction e with
  | zero =>
    intro k i hd hk
    obtain ⟨k, rfl⟩ : ∃ q, k = q + 1 := ⟨k - 1, by omega⟩
    simp only [bitloftref16_In.l0]
    rw [if_neg (by omega), List.drop_of_length_le (by omega)]
    simp
  | succ e ih =>
    intro k i hd hk
    obtain ⟨k, rfl⟩ : ∃ q, k = q + 1 := ⟨k - 1, by omega⟩
    simp only [bitloftref16_In.l0]
    rw [if_pos (by omega), if_pos (by omega), if_pos (by omega), idrop (l := s) (i := i) (by omega)]
    by_cases c : rd s (i : Int) < -2047
    · rw [if_pos c, decide_eq_false (fun h => by have := h _ (List.mem_cons_self ..); omega)]
    rw [if_neg c]
    by_cases d : rd s (i : Int) > 2047
    · rw [if_pos d, decide_eq_false (fun h => by have := h _ (List.mem_cons_self ..); omega)]
    rw [if_neg d, w64 (by omega), show (i : Int) + 1 = ((i + 1 : Nat) : Int) from rfl, ih k (i + 1) (by omega) (by omega)]
    have b : -2047 ≤ rd s (i : Int) ∧ rd s (i : Int) ≤ 2047 := by omega
    simp only [List.forall_mem_cons, b, true_and, and_self]
theorem rIn (s : List Int) {k : Nat} (hk : 1002 ≤ k) : bitloftref16_In.f k s = some (decide (okIn s)) := by
  unfold bitloftref16_In.f
  by_cases c : s.length = 8
  · rw [if_pos (by omega)]
    have := rin_go c 8 k 0 (by omega) (by omega)
    rw [List.drop_zero] at this
    refine (show bitloftref16_In.l0 k s 0 = _ from this).trans ?_
    congr 1
    exact decide_eq_decide.mpr ⟨fun h => ⟨c, h⟩, fun h => h.2⟩
  · rw [if_neg (by omega), decide_eq_false (fun h => c h.1)]
theorem rasked {l : List (List Int)} {a : Int} {s : List Int} (hl : l.length ≤ 1000) {k : Nat} (hk : 1002 ≤ k) : bitloftref16_Asked.f k l a s = some (ask l a s) := by
  unfold bitloftref16_Asked.f ask
  rw [rCheck hl hk, Option.bind_some]
  by_cases c : chk l
  · rw [if_pos c, if_pos rfl, if_pos c]
    by_cases d : a < 0
    · rw [if_pos d, if_neg (by omega)]
    rw [if_neg d]
    by_cases e : a ≥ (l.length : Int)
    · rw [if_pos e, if_neg (by omega)]
    rw [if_neg e, rIn s hk, Option.bind_some]
    by_cases g : okIn s
    · rw [decide_eq_true g, if_pos rfl, if_pos ⟨by omega, g⟩]
    · rw [decide_eq_false g, if_neg (by decide), if_neg (show ¬ ((0 ≤ a ∧ a < l.length) ∧ okIn s) from fun z => g z.2)]
  · rw [if_neg c, if_neg (by decide), if_neg c, Option.bind_some]
theorem rtwin_go {l : List (List Int)} (hl : l.length ≤ 1000) (hr : ∀ r ∈ l, r.length ≤ 1000) (e : Nat) : ∀ (k i : Nat), i + e = l.length → e < k → bitloftref16_Twin.l0 k (i : Int) l (l.take i) = some l := by
  induction e with
  | zero =>
    intro k i hd hk
    obtain ⟨k, rfl⟩ : ∃ q, k = q + 1 := ⟨k - 1, by omega⟩
    simp only [bitloftref16_Twin.l0]
    rw [if_neg (by omega), List.take_of_length_le (by omega)]
  | succ e ih =>
    intro k i hd hk
    obtain ⟨k, rfl⟩ : ∃ q, k = q + 1 := ⟨k - 1, by omega⟩
    have r8 := hr _ (lmem (l := l) (i := (i : Int)) (by omega) (by omega))
    have e2 : rd_L1 l (i : Int) = l[i]'(by omega) := by simp [rd_L1, List.getD_eq_getElem?_getD, show i < l.length by omega]
    simp only [bitloftref16_Twin.l0]
    rw [if_pos (by omega), Option.bind_some, if_pos (by omega), if_pos (by simp only [List.length_nil]; omega), if_pos (by rw [List.length_take]; omega), w64 (by omega), List.nil_append, e2, ← List.take_succ_eq_append_getElem (by omega)]
    exact ih k (i + 1) (by omega) (by omega)
theorem rtwin {l : List (List Int)} (hl : l.length ≤ 1000) (hr : ∀ r ∈ l, r.length ≤ 1000) {k : Nat} (hk : 1002 ≤ k) : bitloftref16_Twin.f k l = some l := by
  unfold bitloftref16_Twin.f
  exact rtwin_go hl hr l.length k 0 (by omega) (by omega)
theorem roff_in {p : Int} {b : Bool} (h0 : 0 ≤ p) (h1 : p ≤ 4095) : bitloftref16_Off.f p b = some (off p b) := by
  unfold bitloftref16_Off.f off
  by_cases c : b = true
  · rw [if_pos c, if_pos c, w64 (x := p) (by omega), w64 (by omega)]
  · rw [if_neg c, if_neg c, w64 (x := p) (by omega), w64 (by omega)]
theorem sat_mx (n : Int) : mx (-2147483648) (mn 2147483647 n) = sat n := by
  unfold mx mn sat
  split <;> split <;> (try split) <;> omega
theorem tdiv_neg {n : Int} (h : Int.tmod n 16384 < 0) : Int.tdiv n 16384 - 1 = n / 16384 := by
  have a := Int.tmod_nonneg (a := n) 16384
  have c : ¬ 0 ≤ n := fun h0 => by have := a h0; omega
  have t1 : Int.tdiv n 16384 = -((-n) / 16384) := by
    have := Int.neg_tdiv n 16384
    rw [Int.tdiv_eq_ediv_of_nonneg (by omega)] at this
    omega
  have t2 : Int.tmod n 16384 = -((-n) % 16384) := by
    have := Int.neg_tmod n 16384
    rw [Int.tmod_eq_emod_of_nonneg (by omega)] at this
    omega
  omega
theorem tdiv_pos {n : Int} (h : ¬ Int.tmod n 16384 < 0) : Int.tdiv n 16384 = n / 16384 := by
  by_cases c : 0 ≤ n
  · exact Int.tdiv_eq_ediv_of_nonneg c
  · have t1 : Int.tdiv n 16384 = -((-n) / 16384) := by
      have := Int.neg_tdiv n 16384
      rw [Int.tdiv_eq_ediv_of_nonneg (by omega)] at this
      omega
    have t2 : Int.tmod n 16384 = -((-n) % 16384) := by
      have := Int.neg_tmod n 16384
      rw [Int.tmod_eq_emod_of_nonneg (by omega)] at this
      omega
    omega
theorem tset_get {p : Int} {b : Bool} {w s : List Int} {i : Nat} (h : i < (tset p b w s).length) (h1 : i < w.length) (h2 : i < s.length) : (tset p b w s)[i] = tch p b (rd w (i : Int)) (rd s (i : Int)) := by
  have e1 : rd w (i : Int) = w[i] := by simp [rd, List.getD_eq_getElem?_getD, h1]
  have e2 : rd s (i : Int) = s[i] := by simp [rd, List.getD_eq_getElem?_getD, h2]
  rw [e1, e2]
  exact List.getElem_zipWith ..
theorem rtaught_go {w s : List Int} {p : Int} {b : Bool} (hw : w.length = 8) (wb : ∀ x ∈ w, -2147483648 ≤ x ∧ x ≤ 2147483647) (o : okIn s) (p0 : 0 ≤ p) (p1 : p ≤ 4095) (e : Nat) : ∀ (k i : Nat), i + e = 8 → e < k → bitloftref16_Taught.l0 k w s p b ((tset p b w s).take i) (i : Int) = some (tset p b w s) := by
  have ls := o.1
  have le : (tset p b w s).length = 8 := tset_len hw ls
  induction e with
  | zero =>
    intro k i hd hk
    obtain ⟨k, rfl⟩ : ∃ q, k = q + 1 := ⟨k - 1, by omega⟩
    simp only [bitloftref16_Taught.l0]
    rw [if_neg (by omega), List.take_of_length_le (by omega)]
  | succ e ih =>
    intro k i hd hk
    obtain ⟨k, rfl⟩ : ∃ q, k = q + 1 := ⟨k - 1, by omega⟩
    have xb := o.2 _ (imem (l := s) (i := (i : Int)) (by omega) (by omega))
    have wi := wb _ (imem (l := w) (i := (i : Int)) (by omega) (by omega))
    have ob := off_bd (b := b) p0 p1
    have pr := prod_in xb.1 xb.2 (y := off p b * 7) (by omega) (by omega)
    have pa : rd s (i : Int) * off p b * 7 = rd s (i : Int) * (off p b * 7) := Int.mul_assoc ..
    have hz : i < (tset p b w s).length := by omega
    have el : (tset p b w s)[i] = tch p b (rd w (i : Int)) (rd s (i : Int)) := tset_get hz (by omega) (by omega)
    have nx : bitloftref16_Taught.l0 k w s p b ((tset p b w s).take i ++ [sat (rd w (i : Int) + (rd s (i : Int) * (off p b * 7) + 8192) / 16384)]) ((i : Int) + 1) = some (tset p b w s) := by
      rw [show sat (rd w (i : Int) + (rd s (i : Int) * (off p b * 7) + 8192) / 16384) = (tset p b w s)[i] from el.symm, ← List.take_succ_eq_append_getElem hz]
      exact ih k (i + 1) (by omega) (by omega)
    simp only [bitloftref16_Taught.l0]
    rw [if_pos (by omega), if_pos (by omega), if_pos (by omega), roff_in p0 p1, Option.bind_some, w64 (x := rd s (i : Int)) (by omega), w64 (x := rd w (i : Int)) (by omega)]
    have q1 : wrap64 (rd s (i : Int) * off p b) = rd s (i : Int) * off p b := w64 (by omega)
    rw [q1, pa, w64 (x := rd s (i : Int) * (off p b * 7)) (by omega), w64 (x := rd s (i : Int) * (off p b * 7) + 8192) (by omega)]
    by_cases c : Int.tmod (rd s (i : Int) * (off p b * 7) + 8192) 16384 < 0
    · have t := tdiv_neg c
      rw [if_pos c, if_pos (by omega), if_pos (by rw [List.length_take]; omega), w64 (x := Int.tdiv (rd s (i : Int) * (off p b * 7) + 8192) 16384) (by omega), t, w64 (x := (rd s (i : Int) * (off p b * 7) + 8192) / 16384) (by omega), w64 (x := rd w (i : Int) + _) (by omega), sat_mx, w64 (x := (i : Int) + 1) (by omega)]
      exact nx
    · have t := tdiv_pos c
      rw [if_neg c, if_pos (by omega), if_pos (by rw [List.length_take]; omega), t, w64 (x := (rd s (i : Int) * (off p b * 7) + 8192) / 16384) (by omega), w64 (x := rd w (i : Int) + _) (by omega), sat_mx, w64 (x := (i : Int) + 1) (by omega)]
      exact nx
theorem rlearn {l : List (List Int)} {a p : Int} {s : List Int} {b : Bool} (hl : l.length ≤ 1000) (hr : ∀ r ∈ l, r.length ≤ 1000) (wb : ∀ r ∈ l, ∀ x ∈ r, -2147483648 ≤ x ∧ x ≤ 2147483647) {k : Nat} (hk : 1100 ≤ k) : bitloftref16_Learn.f k l a s p b = some (lrn l a s p b) := by
  unfold bitloftref16_Learn.f lrn
  rw [rasked hl (by omega), Option.bind_some]
  by_cases e : ask l a s = 0
  · have q := ask_ok e
    rw [if_pos e, if_pos e]
    obtain ⟨k, rfl⟩ : ∃ q, k = q + 1 := ⟨k - 1, by omega⟩
    by_cases c : p < 0
    · rw [if_pos c, if_pos (Or.inl c)]
      simp only [bitloftref16_Learn.j0, if_true]
    · rw [if_neg c]
      by_cases d : p > 4095
      · rw [decide_eq_true d, if_pos (Or.inr d)]
        simp only [bitloftref16_Learn.j0, if_true]
      · rw [decide_eq_false d, if_neg (by omega)]
        simp only [bitloftref16_Learn.j0]
        have tg := rtaught_go (b := b) (p := p) (row8 q.1 q.2.1.1 q.2.1.2) (wb _ (lmem q.2.1.1 q.2.1.2)) q.2.2 (by omega) (by omega) 8 k 0 (by omega) (by omega)
        have tf : bitloftref16_Taught.f k (rd_L1 l a) s p b = some (tset p b (rd_L1 l a) s) := tg
        rw [if_neg (by decide), rtwin hl hr (by omega), Option.bind_some, if_pos q.2.1.1, if_pos q.2.1.2, tf, Option.bind_some, if_pos q.2.1.2]
  · rw [if_neg e, if_neg e, Option.bind_some]
theorem srow_go {r : List Int} (hl : r.length ≤ 1000) (e : Nat) : ∀ (k i : Nat), i + e = r.length → e < k → bitloftref16_SameRow.l0 k r r (i : Int) = some true := by
  induction e with
  | zero =>
    intro k i hd hk
    obtain ⟨k, rfl⟩ : ∃ q, k = q + 1 := ⟨k - 1, by omega⟩
    simp only [bitloftref16_SameRow.l0]
    rw [if_neg (by omega)]
  | succ e ih =>
    intro k i hd hk
    obtain ⟨k, rfl⟩ : ∃ q, k = q + 1 := ⟨k - 1, by omega⟩
    simp only [bitloftref16_SameRow.l0]
    rw [if_pos (by omega), if_pos (by omega), if_pos (by omega), if_pos trivial, w64 (by omega), show (i : Int) + 1 = ((i + 1 : Nat) : Int) from rfl]
    exact ih k (i + 1) (by omega) (by omega)
theorem srow {r : List Int} (hl : r.length ≤ 1000) {k : Nat} (hk : 1001 ≤ k) : bitloftref16_SameRow.f k r r = some true := by
  unfold bitloftref16_SameRow.f
  rw [if_pos rfl]
  exact srow_go hl r.length k 0 (by omega) (by omega)
theorem same_go {l : List (List Int)} (hl : l.length ≤ 1000) (hr : ∀ r ∈ l, r.length ≤ 1000) (e : Nat) : ∀ (k i : Nat), i + e = l.length → e + 1001 < k → bitloftref16_Same.l0 k (i : Int) l l = some true := by
  induction e with
  | zero =>
    intro k i hd hk
    obtain ⟨k, rfl⟩ : ∃ q, k = q + 1 := ⟨k - 1, by omega⟩
    simp only [bitloftref16_Same.l0]
    rw [if_neg (by omega)]
  | succ e ih =>
    intro k i hd hk
    obtain ⟨k, rfl⟩ : ∃ q, k = q + 1 := ⟨k - 1, by omega⟩
    simp only [bitloftref16_Same.l0]
    rw [if_pos (by omega), if_pos (by omega), if_pos (by omega), srow (hr _ (lmem (by omega) (by omega))) (by omega), Option.bind_some, if_pos rfl, w64 (by omega), show (i : Int) + 1 = ((i + 1 : Nat) : Int) from rfl]
    exact ih k (i + 1) (by omega) (by omega)
theorem msame {l : List (List Int)} (hl : l.length ≤ 1000) (hr : ∀ r ∈ l, r.length ≤ 1000) {k : Nat} (hk : 2100 ≤ k) : bitloftref16_Same.f k l l = some true := by
  unfold bitloftref16_Same.f
  rw [if_pos rfl]
  exact same_go hl hr l.length k 0 (by omega) (by omega)
theorem lrn_len {l : List (List Int)} {a p : Int} {s : List Int} {b : Bool} (hl : l.length ≤ 1000) (hr : ∀ r ∈ l, r.length ≤ 1000) : (lrn l a s p b).1.length ≤ 1000 ∧ ∀ r ∈ (lrn l a s p b).1, r.length ≤ 1000 := by
  unfold lrn
  by_cases e : ask l a s = 0
  · rw [if_pos e]
    by_cases c : p < 0 ∨ p > 4095
    · rw [if_pos c]; simp
    · rw [if_neg c]
      have q := ask_ok e
      refine ⟨by rw [List.length_set]; exact hl, fun r h => ?_⟩
      have := (chk_set (a := a) q.1 (tset_len (p := p) (b := b) (row8 q.1 q.2.1.1 q.2.1.2) q.2.2.1)).2 r h
      omega
  · rw [if_neg e]; simp
theorem great_go {l : List (List Int)} (hl : l.length ≤ 9223372036854775807) (e : Nat) : ∀ (k i : Nat), i + e = 302 → 2 * e + 4 ≤ k → ∃ b, bitloftref16_GreatRows.l0 k l (i : Int) = some b ∧ (b = false → l.length ≤ 300 ∧ ∀ r ∈ l.drop i, r.length ≤ 100) := by
  induction e with
  | zero =>
    intro k i hd hk
    obtain ⟨k, rfl⟩ : ∃ q, k = q + 1 + 1 := ⟨k - 2, by omega⟩
    simp only [bitloftref16_GreatRows.l0]
    by_cases c : (i : Int) < (l.length : Int)
    · rw [if_pos c, decide_eq_false (by omega)]
      simp only [bitloftref16_GreatRows.j1]
      rw [if_neg (by decide)]
      exact ⟨_, rfl, fun h => by have := of_decide_eq_false h; omega⟩
    · rw [if_neg c]
      simp only [bitloftref16_GreatRows.j1]
      rw [if_neg (by decide)]
      refine ⟨_, rfl, fun h => ?_⟩
      have := of_decide_eq_false h
      rw [List.drop_of_length_le (by omega)]
      exact ⟨by omega, by simp⟩
  | succ e ih =>
    intro k i hd hk
    obtain ⟨k, rfl⟩ : ∃ q, k = q + 1 + 1 := ⟨k - 2, by omega⟩
    simp only [bitloftref16_GreatRows.l0]
    by_cases c : (i : Int) < (l.length : Int)
    · rw [if_pos c]
      by_cases d : (i : Int) ≤ 300
      · rw [decide_eq_true d]
        simp only [bitloftref16_GreatRows.j1]
        rw [if_pos trivial, if_pos (by omega), if_pos c, ldrop (l := l) (i := i) (by omega)]
        by_cases g : ((rd_L1 l (i : Int)).length : Int) > 100
        · rw [if_pos g]
          exact ⟨_, rfl, by simp⟩
        · rw [if_neg g, w64 (by omega)]
          obtain ⟨b, h1, h2⟩ := ih k (i + 1) (by omega) (by omega)
          refine ⟨b, h1, fun hb => ⟨(h2 hb).1, ?_⟩⟩
          rw [List.forall_mem_cons]
          exact ⟨by omega, (h2 hb).2⟩
      · rw [decide_eq_false d]
        simp only [bitloftref16_GreatRows.j1]
        rw [if_neg (by decide)]
        exact ⟨_, rfl, fun h => by have := of_decide_eq_false h; omega⟩
    · rw [if_neg c]
      simp only [bitloftref16_GreatRows.j1]
      rw [if_neg (by decide)]
      refine ⟨_, rfl, fun h => ?_⟩
      have := of_decide_eq_false h
      rw [List.drop_of_length_le (by omega)]
      exact ⟨by omega, by simp⟩
theorem great {l : List (List Int)} (hl : l.length ≤ 9223372036854775807) {k : Nat} (hk : 700 ≤ k) : ∃ b, bitloftref16_GreatRows.f k l = some b ∧ (b = false → l.length ≤ 300 ∧ ∀ r ∈ l, r.length ≤ 100) := by
  obtain ⟨b, h1, h2⟩ := great_go hl 302 k 0 (by omega) (by omega)
  rw [List.drop_zero] at h2
  exact ⟨b, h1, h2⟩
theorem rows_wf {l : List (List Int)} (h : ∀ x_ ∈ l, (fun l_ : List Int => l_.length ≤ maxLen ∧ ∀ x_ ∈ l_, (fun n_ : Int => (Lit.int .i32 n_).wf = true) x_) x_) : ∀ r ∈ l, ∀ x ∈ r, -2147483648 ≤ x ∧ x ≤ 2147483647 := fun r hr x hx => i32_in ((h r hr).2 x hx)
theorem MixerLearns : bitloftlaw16_MixerLearns.Pure := by
  intro l a s p b hl hw _ hs hs2 hsw hp
  have wb := rows_wf hw
  obtain ⟨K, hK⟩ : ∃ K : Nat, K = 6000 := ⟨_, rfl⟩
  refine ⟨K, ?_⟩
  have jt : bitloftlaw16_MixerLearns.j0 K a s p b true l = some true := by
    obtain ⟨k, rfl⟩ : ∃ r, K = r + 1 := ⟨K - 1, by omega⟩
    simp only [bitloftlaw16_MixerLearns.j0, if_true]
  unfold bitloftlaw16_MixerLearns.f
  obtain ⟨g, g1, g2⟩ := great (l := l) (by unfold maxLen at hl; omega) (k := K) (by omega)
  rw [g1, Option.bind_some]
  cases g with
  | true => rw [if_pos rfl, jt]
  | false =>
    rw [if_neg (by decide)]
    have gl := g2 rfl
    have hr : ∀ r ∈ l, r.length ≤ 1000 := fun r h => by have := gl.2 r h; omega
    by_cases c : (s.length : Int) > 100
    · rw [decide_eq_true c, jt]
    · rw [decide_eq_false c]
      have ll := lrn_len (l := l) (a := a) (p := p) (s := s) (b := b) (by omega) hr
      obtain ⟨k, rfl⟩ : ∃ r, K = r + 1 := ⟨K - 1, by omega⟩
      simp only [bitloftlaw16_MixerLearns.j0]
      rw [if_neg (by decide), rtwin (by omega) hr (by omega), Option.bind_some, Option.bind_some, if_pos (by simp only [List.length_nil]; omega), Option.bind_some, List.nil_append, plearn (by omega) (by omega) wb (by omega), Option.bind_some, rlearn (by omega) hr wb (by omega), Option.bind_some, msame ll.1 ll.2 (by omega), Option.bind_some, if_pos rfl, if_pos rfl, msame (by omega) hr (by omega), Option.bind_some, if_pos rfl, srow (by omega) (by omega), Option.bind_some]
      obtain ⟨k, rfl⟩ : ∃ r, k = r + 1 := ⟨k - 1, by omega⟩
      simp only [bitloftlaw16_MixerLearns.j1]
end Go.Proofs.Ytlpkfljihcklkaa.Pure
