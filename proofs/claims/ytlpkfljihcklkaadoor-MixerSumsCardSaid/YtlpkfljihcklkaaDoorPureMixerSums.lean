/- Where the dot product does not saturate the result is its 65,536th part, and a weight learns its input times how wrong the probability is, for all valid mixers of at most 20 sets, sets, inputs, probabilities and bits. -/
import Derived.Test.YtlpkfljihcklkaaDoorXMixerSumsx5
import Derived.OpenShut
set_option linter.unusedVariables false
set_option linter.unusedSimpArgs false
namespace Go.Proofs.YtlpkfljihcklkaaDoor.Pure
open Go.RowKit Go.Proofs.YtlpkfljihcklkaaDoor.XMixerSums Go.Proofs.YtlpkfljihcklkaaDoorW.PrintWords Go.Proofs.YtlpkfljihcklkaaDoorW.PrintLast
theorem w32 {x : Int} (h : -2147483648 ≤ x ∧ x ≤ 2147483647) : wrap32 x = x := by unfold wrap32; omega
theorem w64 {x : Int} (h : -9223372036854775808 ≤ x ∧ x ≤ 9223372036854775807) : wrap64 x = x := by unfold wrap64; omega
theorem and1_i64 (m : Int) : Go.bits .and .i64 m 1 = m % 2 := by
  show IntKind.i64.wrap (((BitVec.ofInt 64 m &&& BitVec.ofInt 64 1).toNat : Nat) : Int) = m % 2
  rw [BitVec.toNat_and, BitVec.toNat_ofInt, show (BitVec.ofInt 64 1).toNat = 1 from rfl, Nat.and_one_is_mod, IntKind.wrap_i64]
  omega
theorem pow_pos_ (k : Nat) : (0 : Int) < 2 ^ k := Int.pow_pos (by decide)
theorem div_pow (n : Int) (k : Nat) : n / 2 ^ (k + 1) = n / 2 ^ k / 2 := by
  rw [Int.pow_succ, Int.ediv_ediv_of_nonneg (Int.le_of_lt (pow_pos_ k))]
theorem div_pow_le (n : Int) (k : Nat) (h0 : -9223372036854775808 ≤ n) (h1 : n ≤ 9223372036854775807) : -9223372036854775808 ≤ n / 2 ^ k ∧ n / 2 ^ k ≤ 9223372036854775807 := by
  induction k with
  | zero => simp; omega
  | succ k ih => rw [div_pow]; omega
/-- n, rounded by k places. -/
def rnd (n : Int) : Nat → Int
  | 0 => n
  | k + 1 => (n / 2 ^ k + 1) / 2
theorem round_in {n k : Int} (j : Nat) (h0 : -9223372036854775808 ≤ n) (h1 : n ≤ 9223372036854775807) (k0 : 0 ≤ k) (k1 : k ≤ 62) : fixed_Round.f (j + 1) n k = some (rnd n k.toNat, 0) := by
  unfold fixed_Round.f
  rw [if_neg (by omega), decide_eq_false (by omega)]
  simp only [fixed_Round.j0]
  rw [if_neg (by decide)]
  by_cases c : k = 0
  · subst c
    rw [if_pos rfl]
    rfl
  · obtain ⟨q, rfl⟩ : ∃ q : Nat, k = ((q + 1 : Nat) : Int) := ⟨(k - 1).toNat, by omega⟩
    rw [if_neg c, if_pos k0, w64 (x := ((q + 1 : Nat) : Int) - 1) (by omega), if_pos (by omega), and1_i64]
    have e1 : shr .i64 n ((q + 1 : Nat) : Int) = n / 2 ^ q / 2 := by
      unfold shr
      rw [show min ((q + 1 : Nat) : Int).toNat IntKind.i64.bits = q + 1 from by show min _ 64 = _; omega, div_pow]
    have e2 : shr .i64 n (((q + 1 : Nat) : Int) - 1) = n / 2 ^ q := by
      unfold shr
      rw [show min (((q + 1 : Nat) : Int) - 1).toNat IntKind.i64.bits = q from by show min _ 64 = _; omega]
    rw [e1, e2, show ((q + 1 : Nat) : Int).toNat = q + 1 from by omega]
    have b := div_pow_le n q h0 h1
    have e3 : n / 2 ^ q / 2 + n / 2 ^ q % 2 = (n / 2 ^ q + 1) / 2 := by omega
    rw [e3]
    have b2 : -9223372036854775808 ≤ (n / 2 ^ q + 1) / 2 ∧ (n / 2 ^ q + 1) / 2 ≤ 9223372036854775807 := by omega
    rw [w64 b2]
    rfl
theorem round_out {n k : Int} (j : Nat) (h : k < 0 ∨ 62 < k) : fixed_Round.f (j + 1) n k = some (0, 2) := by
  unfold fixed_Round.f
  by_cases c : k < 0
  · rw [if_pos c]
    simp only [fixed_Round.j0, if_true]
  · rw [if_neg c, decide_eq_true (by omega)]
    simp only [fixed_Round.j0, if_true]
namespace F
theorem w32 {x : Int} (h : -2147483648 ≤ x ∧ x ≤ 2147483647) : wrap32 x = x := by unfold wrap32; omega
theorem w64 {x : Int} (h : -9223372036854775808 ≤ x ∧ x ≤ 9223372036854775807) : wrap64 x = x := by unfold wrap64; omega
/-- The exact sum of the first n products. -/
def dsum (a b : List Int) : Nat → Int
  | 0 => 0
  | n + 1 => dsum a b n + a.getD n 0 * b.getD n 0
/-- A number, kept within 32 bits. -/
def clamp (n : Int) : Int := if n < -2147483648 then -2147483648 else if n > 2147483647 then 2147483647 else n
def In32 (l : List Int) : Prop := ∀ n : Nat, -2147483648 ≤ l.getD n 0 ∧ l.getD n 0 ≤ 2147483647
theorem in32 {l : List Int} (h : ∀ x ∈ l, (Lit.int .i32 x).wf = true) : In32 l := by
  intro n
  by_cases c : n < l.length
  · have := bounds_i32 (h l[n] (List.getElem_mem c))
    simpa [List.getD_eq_getElem?_getD, c] using this
  · have : l.getD n 0 = 0 := by simp [List.getD_eq_getElem?_getD, Nat.le_of_not_lt c]
    omega
theorem prod_in {x y : Int} (hx : -2147483648 ≤ x ∧ x ≤ 2147483647) (hy : -2147483648 ≤ y ∧ y ≤ 2147483647) : -4611686018427387904 ≤ x * y ∧ x * y ≤ 4611686018427387904 := by
  by_cases c : 0 ≤ y
  · have a1 : -2147483648 * y ≤ x * y := Int.mul_le_mul_of_nonneg_right hx.1 c
    have a2 : x * y ≤ 2147483647 * y := Int.mul_le_mul_of_nonneg_right hx.2 c
    omega
  · have a1 : x * y ≤ -2147483648 * y := Int.mul_le_mul_of_nonpos_right hx.1 (by omega)
    have a2 : 2147483647 * y ≤ x * y := Int.mul_le_mul_of_nonpos_right hx.2 (by omega)
    omega
theorem dsum_in {a b : List Int} (ha : In32 a) (hb : In32 b) (n : Nat) : -4611686018427387904 * (n : Int) ≤ dsum a b n ∧ dsum a b n ≤ 4611686018427387904 * (n : Int) := by
  induction n with
  | zero => simp [dsum]
  | succ n ih =>
    have p := prod_in (ha n) (hb n)
    simp only [dsum]
    omega
theorem sat_is (n : Int) : fixed_Sat.f n = some (clamp n) := by
  unfold fixed_Sat.f mn mx clamp
  by_cases c : n < -2147483648
  · rw [if_pos c, if_pos c, if_neg (by decide)]
  · rw [if_neg c, if_neg c]
theorem dot_go {a b : List Int} (ha : In32 a) (hb : In32 b) (hl : b.length = a.length) (hm : a.length ≤ 16) (d : Nat) : ∀ (k i : Nat) (hi lo : Int), i + d = a.length → d + 2 ≤ k → 0 ≤ lo → lo < 18446744073709551616 → hi * 18446744073709551616 + lo = dsum a b i →
    fixed_Dot.l0 k b hi lo a (a.length : Int) (i : Int) = some (clamp (dsum a b a.length), 0) := by
  induction d with
  | zero =>
    intro k i hi lo hd hk l0 l1 hs
    obtain ⟨k, rfl⟩ : ∃ m, k = m + 2 := ⟨k - 2, by omega⟩
    obtain rfl : i = a.length := by omega
    have S := dsum_in ha hb a.length
    generalize dsum a b a.length = s at hs S ⊢
    simp only [fixed_Dot.l0]
    rw [if_neg (by omega)]
    have jt : fixed_Dot.j1 (k + 1) hi lo true = some (2147483647, 0) := by simp only [fixed_Dot.j1, if_true]
    have jf : (hi < 0 ∨ (hi = 0 ∧ lo ≤ 9223372036854775807)) → fixed_Dot.j1 (k + 1) hi lo false = some (clamp s, 0) := by
      intro h
      simp only [fixed_Dot.j1]
      rw [if_neg (by decide), sat_is]
      simp only [Option.bind_some]
      by_cases c1 : hi < -1
      · rw [if_pos c1]
        unfold clamp
        rw [if_pos (by omega)]
      · rw [if_neg c1]
        by_cases c2 : hi = -1
        · rw [if_pos c2]
          by_cases c3 : lo ≤ 9223372036854775807
          · rw [if_pos c3]
            unfold clamp
            rw [if_pos (by omega)]
          · rw [if_neg c3, show wrap64 lo = s from by unfold wrap64; omega]
        · rw [if_neg c2, show wrap64 lo = s from by unfold wrap64; omega]
    by_cases c : hi > 0
    · rw [if_pos c, jt]
      unfold clamp
      rw [if_neg (by omega), if_pos (by omega)]
    · rw [if_neg c]
      by_cases z : hi = 0
      · rw [if_pos z]
        by_cases y : lo > 9223372036854775807
        · rw [decide_eq_true y, jt]
          unfold clamp
          rw [if_neg (by omega), if_pos (by omega)]
        · rw [decide_eq_false y, jf (by omega)]
      · rw [if_neg z, jf (by omega)]
  | succ d ih =>
    intro k i hi lo hd hk l0 l1 hs
    obtain ⟨k, rfl⟩ : ∃ m, k = m + 1 := ⟨k - 1, by omega⟩
    have S := dsum_in ha hb i
    have p := prod_in (ha i) (hb i)
    have e1 : rd a (i : Int) = a.getD i 0 := by simp [rd]
    have e2 : rd b (i : Int) = b.getD i 0 := by simp [rd]
    simp only [fixed_Dot.l0]
    rw [if_pos (by omega), if_pos (by omega), if_pos (by omega), if_pos (by omega), e1, e2]
    have ba := ha i
    have bb := hb i
    have hd1 : dsum a b (i + 1) = dsum a b i + a.getD i 0 * b.getD i 0 := rfl
    generalize a.getD i 0 = x at *
    generalize b.getD i 0 = y at *
    rw [w64 (x := x) (by omega), w64 (x := y) (by omega), w64 (x := x * y) (by omega), w64 (x := (i : Int) + 1) (by omega)]
    generalize x * y = q at *
    have u : IntKind.u64.wrap q = q % 18446744073709551616 := by simp [IntKind.wrap, IntKind.bits, IntKind.signed]
    have r1 : bits_Add64.r1 lo (IntKind.u64.wrap q) 0 = (lo + q % 18446744073709551616) % 18446744073709551616 := by
      rw [u]; unfold bits_Add64.r1; omega
    have r2 : bits_Add64.r2 lo (IntKind.u64.wrap q) 0 = (lo + q % 18446744073709551616) / 18446744073709551616 := by
      rw [u]; unfold bits_Add64.r2; omega
    rw [r1, r2, w64 (x := hi + q / 9223372036854775808) (by omega), w64 (x := (lo + q % 18446744073709551616) / 18446744073709551616) (by omega), w64 (by omega)]
    exact ih k (i + 1) _ _ (by omega) (by omega) (by omega) (by omega) (by rw [hd1]; omega)
theorem dot_in {a b : List Int} (ha : In32 a) (hb : In32 b) (hl : a.length = b.length) (hm : a.length ≤ 16) (k : Nat) (hk : 18 ≤ k) : fixed_Dot.f k a b = some (clamp (dsum a b a.length), 0) := by
  unfold fixed_Dot.f
  have e : ¬ mx (a.length : Int) (b.length : Int) > 16 := by unfold mx; split <;> omega
  rw [if_neg e, if_pos (by omega)]
  exact dot_go ha hb hl.symm hm a.length k 0 0 0 (by omega) (by omega) (by omega) (by omega) (by simp [dsum])
theorem dot_many {a b : List Int} (h : 16 < a.length ∨ 16 < b.length) (k : Nat) : fixed_Dot.f k a b = some (0, 4) := by
  unfold fixed_Dot.f
  have e : mx (a.length : Int) (b.length : Int) > 16 := by unfold mx; split <;> omega
  rw [if_pos e]
theorem dot_arg {a b : List Int} (h : a.length ≤ 16) (h' : b.length ≤ 16) (hn : a.length ≠ b.length) (k : Nat) : fixed_Dot.f k a b = some (0, 2) := by
  unfold fixed_Dot.f
  have e : ¬ mx (a.length : Int) (b.length : Int) > 16 := by unfold mx; split <;> omega
  rw [if_neg e, if_neg (by omega)]
end F
namespace Q
theorem w32 {x : Int} (h : -2147483648 ≤ x ∧ x ≤ 2147483647) : wrap32 x = x := by unfold wrap32; omega
theorem p_f (d : Int) : squash_Squash.f d = some (sq d) := by
  unfold squash_Squash.f sq
  split
  · rfl
  · split <;> rfl
theorem p_steps : ∀ i j : Fin 64, ((i.val : Int) * 64 + j.val < 4094) → sq ((i.val : Int) * 64 + j.val - 2047) ≤ sq ((i.val : Int) * 64 + j.val + 1 - 2047) ∧ sq ((i.val : Int) * 64 + j.val + 1 - 2047) ≤ sq ((i.val : Int) * 64 + j.val - 2047) + 4 := by decide +kernel
theorem p_step {d : Int} (h0 : -2047 ≤ d) (h1 : d ≤ 2046) : sq d ≤ sq (d + 1) ∧ sq (d + 1) ≤ sq d + 4 := by
  obtain ⟨n, hn⟩ : ∃ n : Nat, d + 2047 = (n : Int) := ⟨(d + 2047).toNat, by omega⟩
  have := p_steps ⟨n / 64, by omega⟩ ⟨n % 64, by omega⟩
  dsimp only at this
  rw [show ((n / 64 : Nat) : Int) * 64 + ((n % 64 : Nat) : Int) = (n : Int) from by omega, show (n : Int) - 2047 = d from by omega, show (n : Int) + 1 - 2047 = d + 1 from by omega] at this
  exact this (by omega)
theorem p_in (a : Int) (ha : -2047 ≤ a) (n : Nat) : a + n ≤ 2047 → sq a ≤ sq (a + n) := by
  induction n with
  | zero => intro _; rw [show a + ((0 : Nat) : Int) = a from by omega]; exact Int.le_refl _
  | succ n ih =>
    intro h
    have := ih (by omega)
    have s := (p_step (d := a + n) (by omega) (by omega)).1
    rw [show a + ((n + 1 : Nat) : Int) = a + n + 1 from by omega]
    exact Int.le_trans this s
theorem p_low : sq (-2047) = 1 := by decide +kernel
theorem p_top : sq 2047 = 4094 := by decide +kernel
theorem p_range {d : Int} (h0 : -2047 ≤ d) (h1 : d ≤ 2047) : 1 ≤ sq d ∧ sq d ≤ 4094 := by
  have a := p_in (-2047) (by decide) (d + 2047).toNat (by omega)
  have b := p_in d h0 (2047 - d).toNat (by omega)
  rw [show -2047 + ((d + 2047).toNat : Int) = d from by omega, p_low] at a
  rw [show d + ((2047 - d).toNat : Int) = 2047 from by omega, p_top] at b
  exact ⟨a, b⟩
theorem p_far {d : Int} (h : d > 2047) : sq d = 4095 := by unfold sq; rw [if_pos h]
theorem p_neg {d : Int} (h : d < -2047) : sq d = 0 := by unfold sq; rw [if_neg (by omega), if_pos h]
theorem p_all (d : Int) : 0 ≤ sq d ∧ sq d ≤ 4095 := by
  by_cases a : d > 2047
  · rw [p_far a]; omega
  · by_cases b : d < -2047
    · rw [p_neg b]; omega
    · have := p_range (d := d) (by omega) (by omega); omega
theorem p_mono {d e : Int} (h : d ≤ e) : sq d ≤ sq e := by
  by_cases a : e > 2047
  · rw [p_far a]; exact (p_all d).2
  · by_cases b : d < -2047
    · rw [p_neg b]; exact (p_all e).1
    · have := p_in d (by omega) (e - d).toNat (by omega)
      rwa [show d + ((e - d).toNat : Int) = e from by omega] at this
end Q
/-! What a mixer's check, its questions and its learning tell. -/
def rdL (l : List (List Int)) (i : Int) : List Int := l.getD i.toNat []
theorem ldrop {l : List (List Int)} {i : Nat} (h : i < l.length) : l.drop i = rd_L1 l (i : Int) :: l.drop (i + 1) := by
  have e : rd_L1 l (i : Int) = l[i] := by simp [rd_L1, List.getD_eq_getElem?_getD, h]
  rw [e]
  exact List.drop_eq_getElem_cons h
theorem idrop {l : List Int} {i : Nat} (h : i < l.length) : l.drop i = rd l (i : Int) :: l.drop (i + 1) := by
  have e : rd l (i : Int) = l[i] := by simp [rd, List.getD_eq_getElem?_getD, h]
  rw [e]
  exact List.drop_eq_getElem_cons h
theorem lmem {l : List (List Int)} {i : Int} (h0 : 0 ≤ i) (h : i < l.length) : rd_L1 l i ∈ l := by
  obtain ⟨n, rfl⟩ := Int.eq_ofNat_of_zero_le h0
  have e : rd_L1 l (n : Int) = l[n]'(by omega) := by simp [rd_L1, List.getD_eq_getElem?_getD, show n < l.length by omega]
  rw [e]
  exact List.getElem_mem _
theorem imem {l : List Int} {i : Int} (h0 : 0 ≤ i) (h : i < l.length) : rd l i ∈ l := by
  obtain ⟨n, rfl⟩ := Int.eq_ofNat_of_zero_le h0
  have e : rd l (n : Int) = l[n]'(by omega) := by simp [rd, List.getD_eq_getElem?_getD, show n < l.length by omega]
  rw [e]
  exact List.getElem_mem _
theorem i32_in {x : Int} (h : (Lit.int .i32 x).wf = true) : -2147483648 ≤ x ∧ x ≤ 2147483647 := by
  simp only [Lit.wf, IntKind.min, IntKind.max, IntKind.signed, IntKind.bits, Bool.and_eq_true] at h
  simp at h
  omega
def chk (l : List (List Int)) : Prop := (1 ≤ l.length ∧ l.length ≤ 256) ∧ ∀ r ∈ l, r.length = 8
instance (l : List (List Int)) : Decidable (chk l) := by unfold chk; infer_instance
def okIn (s : List Int) : Prop := s.length = 8 ∧ ∀ x ∈ s, -2047 ≤ x ∧ x ≤ 2047
instance (s : List Int) : Decidable (okIn s) := by unfold okIn; infer_instance
def ask (l : List (List Int)) (a : Int) (s : List Int) : Int := if chk l then (if (0 ≤ a ∧ a < l.length) ∧ okIn s then 0 else 2) else 8
theorem ask_ok {l : List (List Int)} {a : Int} {s : List Int} (h : ask l a s = 0) : chk l ∧ (0 ≤ a ∧ a < l.length) ∧ okIn s := by
  unfold ask at h
  by_cases c : chk l
  · rw [if_pos c] at h
    by_cases d : (0 ≤ a ∧ a < l.length) ∧ okIn s
    · exact ⟨c, d⟩
    · rw [if_neg d] at h; omega
  · rw [if_neg c] at h; omega
theorem ask_in {l : List (List Int)} {a : Int} {s : List Int} (c : chk l) (d : 0 ≤ a ∧ a < l.length) (o : okIn s) : ask l a s = 0 := by unfold ask; rw [if_pos c, if_pos ⟨d, o⟩]
theorem chk_set {l : List (List Int)} {a : Int} {r : List Int} (c : chk l) (h : r.length = 8) : chk (l.set a.toNat r) := by
  refine ⟨by rw [List.length_set]; exact c.1, fun x hx => ?_⟩
  rcases List.mem_or_eq_of_mem_set hx with y | y
  · exact c.2 x y
  · rw [y]; exact h
theorem row8 {l : List (List Int)} {a : Int} (c : chk l) (h0 : 0 ≤ a) (h1 : a < l.length) : (rd_L1 l a).length = 8 := c.2 _ (lmem h0 h1)
def sat (n : Int) : Int := if n < -2147483648 then -2147483648 else if n > 2147483647 then 2147483647 else n
theorem sat_bd (n : Int) : -2147483648 ≤ sat n ∧ sat n ≤ 2147483647 := by unfold sat; split <;> (try split) <;> omega
def off (p : Int) (b : Bool) : Int := if b = true then 4095 - p else -p
theorem off_bd {p : Int} {b : Bool} (h0 : 0 ≤ p) (h1 : p ≤ 4095) : -4095 ≤ off p b ∧ off p b ≤ 4095 := by unfold off; split <;> omega
/-- A weight after learning. -/
def tch (p : Int) (b : Bool) (w x : Int) : Int := sat (w + (x * (off p b * 7) + 8192) / 16384)
def tset (p : Int) (b : Bool) (w s : List Int) : List Int := List.zipWith (tch p b) w s
theorem tset_len {p : Int} {b : Bool} {w s : List Int} (h1 : w.length = 8) (h2 : s.length = 8) : (tset p b w s).length = 8 := by unfold tset; rw [List.length_zipWith]; omega
def lrn (l : List (List Int)) (a : Int) (s : List Int) (p : Int) (b : Bool) : List (List Int) × Int := if ask l a s = 0 then (if p < 0 ∨ p > 4095 then ([], 2) else (l.set a.toNat (tset p b (rd_L1 l a) s), 0)) else ([], ask l a s)
theorem prod_in {x y : Int} (h1 : -2047 ≤ x) (h2 : x ≤ 2047) (h3 : -28665 ≤ y) (h4 : y ≤ 28665) : -58677255 ≤ x * y ∧ x * y ≤ 58677255 := by
  have a : x.natAbs ≤ 2047 := by omega
  have b : y.natAbs ≤ 28665 := by omega
  have c := Nat.mul_le_mul a b
  rw [← Int.natAbs_mul] at c
  omega
theorem pCheck {l : List (List Int)} (hl : l.length ≤ 100000) : mixer_Check.f l = some (if chk l then 0 else 8) := by
  unfold mixer_Check.f slices_ContainsFunc_int32_int32_mixer_Check_1.f
  by_cases a : (l.length : Int) < 1
  · rw [if_pos a, if_neg (show ¬ chk l from fun z => by have := z.1; omega)]
  rw [if_neg a]
  by_cases b : (l.length : Int) > 256
  · rw [if_pos b, if_neg (show ¬ chk l from fun z => by have := z.1; omega)]
  rw [if_neg b, if_neg (by omega), Option.bind_some]
  by_cases c : chk l
  · rw [if_pos c, if_neg]
    simp only [List.any_eq_true, decide_eq_true_eq, not_exists, not_and]
    exact fun r hr h => h (c.2 r hr)
  · rw [if_neg c, if_pos]
    have d : ¬ ∀ r ∈ l, r.length = 8 := fun h => c ⟨by omega, h⟩
    rw [List.any_eq_true]
    by_cases e : ∃ r, r ∈ l ∧ r.length ≠ 8
    · obtain ⟨r, hr, h⟩ := e
      exact ⟨r, hr, decide_eq_true h⟩
    · exact absurd (fun r hr => by by_cases q : r.length = 8; exact q; exact absurd ⟨r, hr, q⟩ e) d
theorem pcheck {l : List (List Int)} {a : Int} {s : List Int} (hl : l.length ≤ 100000) (hs : s.length ≤ 100000) : mixer_check.f l a s = some (ask l a s) := by
  unfold mixer_check.f ask slices_ContainsFunc_int32_int32_mixer_check_1.f
  rw [pCheck hl, Option.bind_some]
  by_cases c : chk l
  · rw [if_pos c, if_pos rfl, if_pos c]
    by_cases d : a < 0
    · rw [if_pos d, if_neg (by omega)]
    rw [if_neg d]
    by_cases e : a ≥ (l.length : Int)
    · rw [if_pos e, if_neg (by omega)]
    rw [if_neg e]
    by_cases f : s.length = 8
    · rw [if_pos (by omega), if_neg (by omega), Option.bind_some]
      by_cases g : okIn s
      · have nn : ¬ (s.any fun x => decide (x > 2047 ∨ x < -2047)) = true := by
          simp only [List.any_eq_true, decide_eq_true_eq, not_exists, not_and]
          intro x hx h
          have := g.2 x hx
          omega
        rw [if_neg nn, if_pos ⟨by omega, g⟩]
      · rw [if_pos, if_neg (show ¬ ((0 ≤ a ∧ a < l.length) ∧ okIn s) from fun z => g z.2)]
        rw [List.any_eq_true]
        by_cases h : ∃ x, x ∈ s ∧ (x > 2047 ∨ x < -2047)
        · obtain ⟨x, hx, h⟩ := h
          exact ⟨x, hx, decide_eq_true h⟩
        · exact absurd ⟨f, fun x hx => by by_cases q : x > 2047 ∨ x < -2047; exact absurd ⟨x, hx, q⟩ h; omega⟩ g
    · rw [if_neg (by omega), if_neg (show ¬ ((0 ≤ a ∧ a < l.length) ∧ okIn s) from fun z => f z.2.1)]
  · rw [if_neg c, if_neg (by decide), if_neg c]
/-! What mixing tells. -/
theorem sat_clamp (n : Int) : F.clamp n = sat n := rfl
def dt (w s : List Int) : Int := sat (F.dsum w s 8)
def md (w s : List Int) : Int := mx (-2047) (mn 2047 (dt w s / 65536))
theorem keep_bd (n : Int) : -2047 ≤ mx (-2047) (mn 2047 n) ∧ mx (-2047) (mn 2047 n) ≤ 2047 := by unfold mx mn; split <;> split <;> omega
theorem md_bd (w s : List Int) : -2047 ≤ md w s ∧ md w s ≤ 2047 := keep_bd _
theorem in32_of {l : List Int} (h : ∀ x ∈ l, -2147483648 ≤ x ∧ x ≤ 2147483647) : F.In32 l := by
  intro n
  by_cases c : n < l.length
  · have := h _ (List.getElem_mem c)
    rw [List.getD_eq_getElem?_getD, List.getElem?_eq_getElem c]
    exact this
  · rw [List.getD_eq_getElem?_getD, List.getElem?_eq_none (by omega)]
    decide
theorem in32_ok {s : List Int} (o : okIn s) : F.In32 s := in32_of (fun x hx => by have := o.2 x hx; omega)
def mixA (l : List (List Int)) (a : Int) (s : List Int) : Int × Int × Int := if ask l a s = 0 then (md (rd_L1 l a) s, sq (md (rd_L1 l a) s), 0) else (0, 0, ask l a s)
theorem pmix {l : List (List Int)} {a : Int} {s : List Int} (hl : l.length ≤ 100000) (hs : s.length ≤ 100000) (wb : ∀ r ∈ l, ∀ x ∈ r, -2147483648 ≤ x ∧ x ≤ 2147483647) {k : Nat} (hk : 18 ≤ k) : mixer_Mix.f k l a s = some (mixA l a s) := by
  unfold mixer_Mix.f mixA mixer_keep.f
  rw [pcheck hl hs, Option.bind_some]
  by_cases e : ask l a s = 0
  · have q := ask_ok e
    have r8 := row8 q.1 q.2.1.1 q.2.1.2
    have s8 := q.2.2.1
    rw [if_pos e, if_pos e, if_pos q.2.1.1, if_pos q.2.1.2, F.dot_in (in32_of (wb _ (lmem q.2.1.1 q.2.1.2))) (in32_ok q.2.2) (by omega) (by omega) k hk, Option.bind_some, Option.bind_some, r8]
    dsimp only
    rw [Q.p_f, Option.bind_some]
    rfl
  · rw [if_neg e, if_neg e]
theorem wrong_in {p : Int} {b : Bool} (h0 : 0 ≤ p) (h1 : p ≤ 4095) : mixer_wrong.f p b = some (off p b) := by
  unfold mixer_wrong.f off
  by_cases c : b = true
  · rw [if_pos c, if_pos c, w32 (by omega)]
  · rw [if_neg c, if_neg c, w32 (by omega)]
theorem sat_is (n : Int) : fixed_Sat.f n = some (sat n) := by
  unfold fixed_Sat.f sat mn mx
  split <;> split <;> (try split) <;> (try split) <;> (congr 1 <;> omega)
theorem add_is {a b : Int} (ha : -2147483648 ≤ a ∧ a ≤ 2147483647) (hb : -2147483648 ≤ b ∧ b ≤ 2147483647) : fixed_Add.f a b = some (sat (a + b)) := by
  unfold fixed_Add.f
  rw [w64 (x := a) (by omega), w64 (x := b) (by omega), w64 (by omega), sat_is]
  rfl
theorem tr_set {f : Int → Int → Int} {w x : List Int} (h : w.length = x.length) {i : Nat} (hi : i < w.length) : (((List.zipWith f w x).take i ++ w.drop i).set i (f (rd w (i : Int)) (rd x (i : Int)))) = (List.zipWith f w x).take (i + 1) ++ w.drop (i + 1) := by
  have hz : i < (List.zipWith f w x).length := by rw [List.length_zipWith]; omega
  have lt : ((List.zipWith f w x).take i).length = i := by rw [List.length_take]; omega
  have e1 : rd w (i : Int) = w[i] := by simp [rd, List.getD_eq_getElem?_getD, hi]
  have e2 : rd x (i : Int) = x[i]'(by omega) := by simp [rd, List.getD_eq_getElem?_getD, show i < x.length by omega]
  rw [List.set_append_right _ _ (by omega), lt, Nat.sub_self, List.drop_eq_getElem_cons hi, List.set_cons_zero, e1, e2, List.take_succ_eq_append_getElem hz, List.getElem_zipWith, List.append_assoc]
  rfl
theorem tr_rd {f : Int → Int → Int} {w x : List Int} (h : w.length = x.length) {i : Nat} (hi : i < w.length) : rd ((List.zipWith f w x).take i ++ w.drop i) (i : Int) = rd w (i : Int) := by
  have lt : ((List.zipWith f w x).take i).length = i := by rw [List.length_take, List.length_zipWith]; omega
  have e1 : rd w (i : Int) = w[i] := by simp [rd, List.getD_eq_getElem?_getD, hi]
  rw [e1]
  simp only [rd, Int.toNat_natCast, List.getD_eq_getElem?_getD]
  rw [List.getElem?_append_right (by omega), lt, Nat.sub_self, List.drop_eq_getElem_cons hi]
  rfl
theorem set_set_ {l : List (List Int)} (n : Nat) (r s : List Int) : (l.set n r).set n s = l.set n s := List.set_set ..
theorem rd_L1_set {l : List (List Int)} {a : Int} {r : List Int} (h0 : 0 ≤ a) (h1 : a < l.length) : rd_L1 (l.set a.toNat r) a = r := by
  obtain ⟨n, rfl⟩ := Int.eq_ofNat_of_zero_le h0
  simp [rd_L1, List.getD_eq_getElem?_getD, show n < l.length by omega]
theorem rd_L1_ne {l : List (List Int)} {a i : Int} {r : List Int} (h0 : 0 ≤ a) (i0 : 0 ≤ i) (h : i ≠ a) : rd_L1 (l.set a.toNat r) i = rd_L1 l i := by
  obtain ⟨n, rfl⟩ := Int.eq_ofNat_of_zero_le h0
  obtain ⟨j, rfl⟩ := Int.eq_ofNat_of_zero_le i0
  simp only [rd_L1, Int.toNat_natCast, List.getD_eq_getElem?_getD]
  rw [List.getElem?_set_ne (by omega)]
theorem round14 {n : Int} (j : Nat) (h0 : -100000000 ≤ n) (h1 : n ≤ 100000000) : fixed_Round.f (j + 1) n 14 = some ((n + 8192) / 16384, 0) := by
  rw [round_in j (by omega) (by omega) (by decide) (by decide)]
  have e : rnd n (14 : Int).toNat = (n / 8192 + 1) / 2 := rfl
  rw [e, show (n / 8192 + 1) / 2 = (n + 8192) / 16384 from by omega]
theorem learn_l1 {l : List (List Int)} {a p : Int} {s w : List Int} {b : Bool} (h0 : 0 ≤ a) (h1 : a < l.length) (hw : w.length = 8) (wb : ∀ x ∈ w, -2147483648 ≤ x ∧ x ≤ 2147483647) (o : okIn s) (p0 : 0 ≤ p) (p1 : p ≤ 4095) (e : Nat) : ∀ (k i : Nat), i + e = 8 → e + 2 ≤ k →
    mixer_Learn.l1 k a (off p b * 7) s (s.length : Int) (i : Int) (l.set a.toNat ((tset p b w s).take i ++ w.drop i)) = some (l.set a.toNat (tset p b w s), 0) := by
  have ls := o.1
  induction e with
  | zero =>
    intro k i hd hk
    obtain ⟨k, rfl⟩ : ∃ q, k = q + 1 := ⟨k - 1, by omega⟩
    obtain rfl : i = 8 := by omega
    simp only [mixer_Learn.l1]
    rw [if_neg (by omega), List.take_of_length_le (by rw [tset_len hw ls]; omega), List.drop_of_length_le (by omega), List.append_nil]
  | succ e ih =>
    intro k i hd hk
    obtain ⟨k, rfl⟩ : ∃ q, k = q + 1 + 1 := ⟨k - 2, by omega⟩
    have xb := o.2 _ (imem (l := s) (i := (i : Int)) (by omega) (by omega))
    have wi := wb _ (imem (l := w) (i := (i : Int)) (by omega) (by omega))
    have ob := off_bd (b := b) p0 p1
    have pr := prod_in xb.1 xb.2 (y := off p b * 7) (by omega) (by omega)
    simp only [mixer_Learn.l1]
    rw [if_pos (by omega), if_pos (by omega), if_pos (by omega), w64 (x := rd s (i : Int)) (by omega), w64 (x := rd s (i : Int) * (off p b * 7)) (by omega), round14 k (by omega) (by omega), Option.bind_some]
    dsimp only
    have le : (tset p b w s).length = 8 := tset_len hw ls
    rw [if_pos h0, if_pos (by rw [List.length_set]; exact h1), rd_L1_set h0 h1]
    rw [if_pos (by rw [List.length_append, List.length_take, List.length_drop]; omega)]
    have er : rd ((tset p b w s).take i ++ w.drop i) (i : Int) = rd w (i : Int) := tr_rd (by omega) (by omega)
    rw [er, w32 (by omega), add_is wi (by omega), Option.bind_some, set_set_, Int.toNat_natCast, w64 (by omega)]
    have es := tr_set (f := tch p b) (w := w) (x := s) (by omega) (i := i) (by omega)
    rw [show ((tset p b w s).take i ++ w.drop i).set i (sat (rd w (i : Int) + (rd s (i : Int) * (off p b * 7) + 8192) / 16384)) = (tset p b w s).take (i + 1) ++ w.drop (i + 1) from es]
    exact ih (k + 1) (i + 1) (by omega) (by omega)
theorem clone_in {l : List Int} (h : l.length ≤ 1000) : slices_Clone_int32_int32.f l = some l := by
  unfold slices_Clone_int32_int32.f
  rw [if_pos (by omega)]
theorem learn_l0 {l : List (List Int)} {a p : Int} {s : List Int} {b : Bool} (c : chk l) (wb : ∀ r ∈ l, ∀ x ∈ r, -2147483648 ≤ x ∧ x ≤ 2147483647) (h0 : 0 ≤ a) (h1 : a < l.length) (o : okIn s) (p0 : 0 ≤ p) (p1 : p ≤ 4095) (e : Nat) : ∀ (k i : Nat), i + e = l.length → e + 20 ≤ k →
    mixer_Learn.l0 k a s p b l (l.length : Int) (i : Int) (l.take i) = some (l.set a.toNat (tset p b (rd_L1 l a) s), 0) := by
  have cl := c.1
  induction e with
  | zero =>
    intro k i hd hk
    obtain ⟨k, rfl⟩ : ∃ q, k = q + 1 := ⟨k - 1, by omega⟩
    simp only [mixer_Learn.l0]
    have ob := off_bd (b := b) p0 p1
    rw [if_neg (by omega), wrong_in p0 p1, Option.bind_some, List.take_of_length_le (by omega), w64 (x := off p b) (by omega), w64 (by omega)]
    have := learn_l1 (l := l) (b := b) h0 h1 (row8 c h0 h1) (wb _ (lmem h0 h1)) o p0 p1 8 k 0 (by omega) (by omega)
    rw [List.take_zero, List.drop_zero, List.nil_append] at this
    have e : l.set a.toNat (rd_L1 l a) = l := by
      have ha : a.toNat < l.length := by omega
      have : rd_L1 l a = l[a.toNat] := by simp [rd_L1, List.getD_eq_getElem?_getD, ha]
      rw [this]
      exact List.set_getElem_self ha
    rw [e] at this
    exact this
  | succ e ih =>
    intro k i hd hk
    obtain ⟨k, rfl⟩ : ∃ q, k = q + 1 := ⟨k - 1, by omega⟩
    have r8 := row8 (a := (i : Int)) c (by omega) (by omega)
    have e2 : rd_L1 l (i : Int) = l[i]'(by omega) := by simp [rd_L1, List.getD_eq_getElem?_getD, show i < l.length by omega]
    simp only [mixer_Learn.l0]
    rw [if_pos (by omega), if_pos (by omega), if_pos (by omega), clone_in (by omega), Option.bind_some, if_pos (by rw [List.length_take]; omega), w64 (by omega), e2, ← List.take_succ_eq_append_getElem (by omega)]
    exact ih k (i + 1) (by omega) (by omega)
theorem plearn {l : List (List Int)} {a p : Int} {s : List Int} {b : Bool} (hl : l.length ≤ 1000) (hs : s.length ≤ 1000) (wb : ∀ r ∈ l, ∀ x ∈ r, -2147483648 ≤ x ∧ x ≤ 2147483647) {k : Nat} (hk : 400 ≤ k) : mixer_Learn.f k l a s p b = some (lrn l a s p b) := by
  unfold mixer_Learn.f lrn
  rw [pcheck (by omega) (by omega), Option.bind_some]
  by_cases e : ask l a s = 0
  · have q := ask_ok e
    have cl := q.1.1
    rw [if_pos e, if_pos e]
    obtain ⟨k, rfl⟩ : ∃ q, k = q + 1 := ⟨k - 1, by omega⟩
    by_cases c : p < 0
    · rw [if_pos c, if_pos (Or.inl c)]
      simp only [mixer_Learn.j0, if_true]
    · rw [if_neg c]
      by_cases d : p > 4095
      · rw [decide_eq_true d, if_pos (Or.inr d)]
        simp only [mixer_Learn.j0, if_true]
      · rw [decide_eq_false d, if_neg (by omega)]
        simp only [mixer_Learn.j0]
        rw [if_neg (by decide)]
        exact learn_l0 (b := b) q.1 wb q.2.1.1 q.2.1.2 q.2.2 (by omega) (by omega) l.length k 0 (by omega) (by omega)
  · rw [if_neg e, if_neg e]
theorem rcheck_go {l : List (List Int)} (hl : l.length ≤ 1000) (e : Nat) : ∀ (k i : Nat), i + e = l.length → e < k → bitloftref16_Check.l0 k (i : Int) l = some (if ∀ r ∈ l.drop i, r.length = 8 then 0 else 8) := by
  induction e with
  | zero =>
    intro k i hd hk
    obtain ⟨k, rfl⟩ : ∃ q, k = q + 1 := ⟨k - 1, by omega⟩
    simp only [bitloftref16_Check.l0]
    rw [if_neg (by omega), List.drop_of_length_le (by omega), if_pos (by simp)]
  | succ e ih =>
    intro k i hd hk
    obtain ⟨k, rfl⟩ : ∃ q, k = q + 1 := ⟨k - 1, by omega⟩
    simp only [bitloftref16_Check.l0]
    rw [if_pos (by omega), if_pos (by omega), ldrop (l := l) (i := i) (by omega)]
    by_cases c : (rd_L1 l (i : Int)).length = 8
    · rw [if_pos (by omega), w64 (by omega), show (i : Int) + 1 = ((i + 1 : Nat) : Int) from rfl, ih k (i + 1) (by omega) (by omega)]
      simp only [List.forall_mem_cons, c, true_and]
    · rw [if_neg (by omega), if_neg (fun h => c (h _ (List.mem_cons_self ..)))]
theorem rCheck {l : List (List Int)} (hl : l.length ≤ 1000) {k : Nat} (hk : 1002 ≤ k) : bitloftref16_Check.f k l = some (if chk l then 0 else 8) := by
  unfold bitloftref16_Check.f
  obtain ⟨k, rfl⟩ : ∃ q, k = q + 1 := ⟨k - 1, by omega⟩
  by_cases a : (l.length : Int) < 1
  · rw [if_pos a, if_neg (show ¬ chk l from fun z => by have := z.1; omega)]
    simp only [bitloftref16_Check.j0, if_true]
  rw [if_neg a]
  by_cases b : (l.length : Int) > 256
  · rw [decide_eq_true b, if_neg (show ¬ chk l from fun z => by have := z.1; omega)]
    simp only [bitloftref16_Check.j0, if_true]
  rw [decide_eq_false b]
  simp only [bitloftref16_Check.j0]
  rw [if_neg (by decide)]
  have := rcheck_go hl l.length k 0 (by omega) (by omega)
  rw [List.drop_zero] at this
  refine (show bitloftref16_Check.l0 k 0 l = _ from this).trans ?_
  by_cases c : chk l
  · rw [if_pos c, if_pos c.2]
  · rw [if_neg c, if_neg (fun h => c ⟨by omega, h⟩)]
theorem rin_go {s : List Int} (hs : s.length = 8) (e : Nat) : ∀ (k i : Nat), i + e = 8 → e < k → bitloftref16_In.l0 k s (i : Int) = some (decide (∀ x ∈ s.drop i, -2047 ≤ x ∧ x ≤ 2047)) := by
  induction e with
  | zero =>
    intro k i hd hk
    obtain ⟨k, rfl⟩ : ∃ q, k = q + 1 := ⟨k - 1, by omega⟩
    simp only [bitloftref16_In.l0]
    rw [if_neg (by omega), List.drop_of_length_le (by omega)]
    simp
  | succ e ih =>
    intro k i hd hk
    obtain ⟨k, rfl⟩ : ∃ q, k = q + 1 := ⟨k - 1, by omega⟩
    simp only [bitloftref16_In.l0]
    rw [if_pos (by omega), if_pos (by omega), if_pos (by omega), idrop (l := s) (i := i) (by omega)]
    by_cases c : rd s (i : Int) < -2047
    · rw [if_pos c, decide_eq_false (fun h => by have := h _ (List.mem_cons_self ..); omega)]
    rw [if_neg c]
    by_cases d : rd s (i : Int) > 2047
    · rw [if_pos d, decide_eq_false (fun h => by have := h _ (List.mem_cons_self ..); omega)]
    rw [if_neg d, w64 (by omega), show (i : Int) + 1 = ((i + 1 : Nat) : Int) from rfl, ih k (i + 1) (by omega) (by omega)]
    have b : -2047 ≤ rd s (i : Int) ∧ rd s (i : Int) ≤ 2047 := by omega
    simp only [List.forall_mem_cons, b, true_and, and_self]
theorem rIn (s : List Int) {k : Nat} (hk : 1002 ≤ k) : bitloftref16_In.f k s = some (decide (okIn s)) := by
  unfold bitloftref16_In.f
  by_cases c : s.length = 8
  · rw [if_pos (by omega)]
    have := rin_go c 8 k 0 (by omega) (by omega)
    rw [List.drop_zero] at this
    refine (show bitloftref16_In.l0 k s 0 = _ from this).trans ?_
    congr 1
    exact decide_eq_decide.mpr ⟨fun h => ⟨c, h⟩, fun h => h.2⟩
  · rw [if_neg (by omega), decide_eq_false (fun h => c h.1)]
theorem rasked {l : List (List Int)} {a : Int} {s : List Int} (hl : l.length ≤ 1000) {k : Nat} (hk : 1002 ≤ k) : bitloftref16_Asked.f k l a s = some (ask l a s) := by
  unfold bitloftref16_Asked.f ask
  rw [rCheck hl hk, Option.bind_some]
  by_cases c : chk l
  · rw [if_pos c, if_pos rfl, if_pos c]
    by_cases d : a < 0
    · rw [if_pos d, if_neg (by omega)]
    rw [if_neg d]
    by_cases e : a ≥ (l.length : Int)
    · rw [if_pos e, if_neg (by omega)]
    rw [if_neg e, rIn s hk, Option.bind_some]
    by_cases g : okIn s
    · rw [decide_eq_true g, if_pos rfl, if_pos ⟨by omega, g⟩]
    · rw [decide_eq_false g, if_neg (by decide), if_neg (show ¬ ((0 ≤ a ∧ a < l.length) ∧ okIn s) from fun z => g z.2)]
  · rw [if_neg c, if_neg (by decide), if_neg c, Option.bind_some]
theorem tset_get {p : Int} {b : Bool} {w s : List Int} {i : Nat} (h : i < (tset p b w s).length) (h1 : i < w.length) (h2 : i < s.length) : (tset p b w s)[i] = tch p b (rd w (i : Int)) (rd s (i : Int)) := by
  have e1 : rd w (i : Int) = w[i] := by simp [rd, List.getD_eq_getElem?_getD, h1]
  have e2 : rd s (i : Int) = s[i] := by simp [rd, List.getD_eq_getElem?_getD, h2]
  rw [e1, e2]
  exact List.getElem_zipWith ..
theorem rows_wf {l : List (List Int)} (h : ∀ x_ ∈ l, (fun l_ : List Int => l_.length ≤ maxLen ∧ ∀ x_ ∈ l_, (fun n_ : Int => (Lit.int .i32 n_).wf = true) x_) x_) : ∀ r ∈ l, ∀ x ∈ r, -2147483648 ≤ x ∧ x ≤ 2147483647 := fun r hr x hx => i32_in ((h r hr).2 x hx)
theorem fit_is (l : List (List Int)) (a : Int) (s : List Int) {k : Nat} (hk : 1100 ≤ k) : ∃ b, bitloftlaw16_fit.f k l a s = some b ∧ (b = true → l.length ≤ 20 ∧ ask l a s = 0) := by
  unfold bitloftlaw16_fit.f
  by_cases c : (l.length : Int) ≤ 20
  · rw [if_pos c, rasked (by omega) (by omega), Option.bind_some]
    exact ⟨_, rfl, fun h => ⟨by omega, by simpa using h⟩⟩
  · rw [if_neg c]
    exact ⟨_, rfl, by simp⟩
theorem lrn_ok {l : List (List Int)} {a p : Int} {s : List Int} {b : Bool} (e : ask l a s = 0) (p0 : 0 ≤ p) (p1 : p ≤ 4095) : lrn l a s p b = (l.set a.toNat (tset p b (rd_L1 l a) s), 0) := by
  unfold lrn
  rw [if_pos e, if_neg (by omega)]
theorem ask_set {l : List (List Int)} {a p : Int} {s : List Int} {b : Bool} (e : ask l a s = 0) : ask (l.set a.toNat (tset p b (rd_L1 l a) s)) a s = 0 := by
  have q := ask_ok e
  exact ask_in (chk_set q.1 (tset_len (row8 q.1 q.2.1.1 q.2.1.2) q.2.2.1)) (by rw [List.length_set]; exact q.2.1) q.2.2
theorem zip_wb (f : Int → Int → Int) (hf : ∀ x y, -2147483648 ≤ f x y ∧ f x y ≤ 2147483647) : ∀ w s : List Int, ∀ x ∈ List.zipWith f w s, -2147483648 ≤ x ∧ x ≤ 2147483647
  | [], _, x, hx => by simp at hx
  | _ :: _, [], x, hx => by simp at hx
  | a :: w, c :: s, x, hx => by
    rw [List.zipWith_cons_cons, List.mem_cons] at hx
    rcases hx with rfl | hx
    · exact hf a c
    · exact zip_wb f hf w s x hx
theorem tset_wb {p : Int} {b : Bool} {w s : List Int} : ∀ x ∈ tset p b w s, -2147483648 ≤ x ∧ x ≤ 2147483647 := zip_wb _ (fun _ _ => sat_bd _) w s
theorem set_wb {l : List (List Int)} {a : Int} {r : List Int} (wb : ∀ r ∈ l, ∀ x ∈ r, -2147483648 ≤ x ∧ x ≤ 2147483647) (h : ∀ x ∈ r, -2147483648 ≤ x ∧ x ≤ 2147483647) : ∀ r' ∈ l.set a.toNat r, ∀ x ∈ r', -2147483648 ≤ x ∧ x ≤ 2147483647 := by
  intro r' hr
  rcases List.mem_or_eq_of_mem_set hr with y | y
  · exact wb r' y
  · rw [y]; exact h
theorem sat_mono {n m : Int} (h : n ≤ m) : sat n ≤ sat m := by unfold sat; split <;> split <;> (try split) <;> (try split) <;> omega
theorem keep_mono {n m : Int} (h : n ≤ m) : mx (-2047) (mn 2047 n) ≤ mx (-2047) (mn 2047 m) := by unfold mx mn; (repeat' split) <;> omega
theorem dsum_mono {w v s : List Int} (n : Nat) (h : ∀ i, i < n → w.getD i 0 * s.getD i 0 ≤ v.getD i 0 * s.getD i 0) : F.dsum w s n ≤ F.dsum v s n := by
  induction n with
  | zero => exact Int.le_refl _
  | succ n ih =>
    have a := ih (fun i hi => h i (by omega))
    have b := h n (by omega)
    simp only [F.dsum]
    omega
theorem md_mono {w v s : List Int} (h : F.dsum w s 8 ≤ F.dsum v s 8) : md w s ≤ md v s := by
  unfold md dt
  have a := sat_mono h
  exact keep_mono (Int.ediv_le_ediv (by decide) a)
theorem tch_up {p w x : Int} {b : Bool} (w0 : -2147483648 ≤ w) (w1 : w ≤ 2147483647) (o : 0 ≤ off p b) : w * x ≤ tch p b w x * x := by
  unfold tch
  by_cases c : 0 ≤ x
  · have m : 0 ≤ x * (off p b * 7) := Int.mul_nonneg c (by omega)
    have t : w ≤ sat (w + (x * (off p b * 7) + 8192) / 16384) := by unfold sat; split <;> (try split) <;> omega
    exact Int.mul_le_mul_of_nonneg_right t c
  · have m : x * (off p b * 7) ≤ 0 := by
      have := Int.mul_le_mul_of_nonneg_right (show x ≤ 0 by omega) (show 0 ≤ off p b * 7 by omega)
      omega
    have t : sat (w + (x * (off p b * 7) + 8192) / 16384) ≤ w := by unfold sat; split <;> (try split) <;> omega
    exact Int.mul_le_mul_of_nonpos_right t (by omega)
theorem tch_down {p w x : Int} {b : Bool} (w0 : -2147483648 ≤ w) (w1 : w ≤ 2147483647) (o : off p b ≤ 0) : tch p b w x * x ≤ w * x := by
  unfold tch
  by_cases c : 0 ≤ x
  · have m : x * (off p b * 7) ≤ 0 := by
      have := Int.mul_le_mul_of_nonneg_left (show off p b * 7 ≤ 0 by omega) c
      omega
    have t : sat (w + (x * (off p b * 7) + 8192) / 16384) ≤ w := by unfold sat; split <;> (try split) <;> omega
    exact Int.mul_le_mul_of_nonneg_right t c
  · have m : 0 ≤ x * (off p b * 7) := by
      have := Int.mul_le_mul_of_nonpos_right (show x ≤ 0 by omega) (show off p b * 7 ≤ 0 by omega)
      omega
    have t : w ≤ sat (w + (x * (off p b * 7) + 8192) / 16384) := by unfold sat; split <;> (try split) <;> omega
    exact Int.mul_le_mul_of_nonpos_right t (by omega)
theorem tset_getD {p : Int} {b : Bool} {w s : List Int} (hw : w.length = 8) (hs : s.length = 8) {i : Nat} (hi : i < 8) : (tset p b w s).getD i 0 = tch p b (w.getD i 0) (s.getD i 0) := by
  have h : i < (tset p b w s).length := by rw [tset_len hw hs]; omega
  have e := tset_get (p := p) (b := b) (w := w) (s := s) h (by omega) (by omega)
  rw [List.getD_eq_getElem?_getD, List.getElem?_eq_getElem h, Option.getD_some, e]
  simp only [rd, Int.toNat_natCast]
theorem step_up {p : Int} {b : Bool} {w s : List Int} (hw : w.length = 8) (hs : s.length = 8) (wb : ∀ x ∈ w, -2147483648 ≤ x ∧ x ≤ 2147483647) (o : 0 ≤ off p b) : md w s ≤ md (tset p b w s) s := by
  refine md_mono (dsum_mono 8 (fun i hi => ?_))
  rw [tset_getD hw hs hi]
  have := in32_of wb i
  exact tch_up this.1 this.2 o
theorem step_down {p : Int} {b : Bool} {w s : List Int} (hw : w.length = 8) (hs : s.length = 8) (wb : ∀ x ∈ w, -2147483648 ≤ x ∧ x ≤ 2147483647) (o : off p b ≤ 0) : md (tset p b w s) s ≤ md w s := by
  refine md_mono (dsum_mono 8 (fun i hi => ?_))
  rw [tset_getD hw hs hi]
  have := in32_of wb i
  exact tch_down this.1 this.2 o
theorem pwrong (p : Int) (b : Bool) : mixer_Wrong.f p b = some (if p < 0 ∨ p > 4095 then (0, 2) else (off p b, 0)) := by
  unfold mixer_Wrong.f
  by_cases c : p < 0
  · rw [if_pos c, if_pos (Or.inl c)]
  rw [if_neg c]
  by_cases d : p > 4095
  · rw [if_pos d, if_pos (Or.inr d)]
  rw [if_neg d, if_neg (by omega), wrong_in (by omega) (by omega), Option.bind_some]
theorem sums_l0 {l : List (List Int)} {a o : Int} {s w r : List Int} (hr : rd_L1 l a = w) (h0 : 0 ≤ a) (h1 : a < l.length) (hw : w.length = 8) (ok : okIn s) (lr : r.length = 8) (wb : ∀ x ∈ w, -2147483648 ≤ x ∧ x ≤ 2147483647) (o0 : -4095 ≤ o) (o1 : o ≤ 4095)
    (ht : ∀ i : Int, 0 ≤ i → i < 8 → rd r i = sat (rd w i + (rd s i * (o * 7) + 8192) / 16384)) (e : Nat) : ∀ (k i : Nat), i + e = 8 → 3 * e + 2 ≤ k →
    bitloftlaw16_MixerSums.l0 k a s o (i : Int) l (l.set a.toNat r) = some true := by
  have er : rd_L1 (l.set a.toNat r) a = r := rd_L1_set h0 h1
  have s8 := ok.1
  induction e with
  | zero =>
    intro k i hd hk
    obtain ⟨k, rfl⟩ : ∃ q, k = q + 1 := ⟨k - 1, by omega⟩
    simp only [bitloftlaw16_MixerSums.l0]
    rw [if_neg (by omega)]
  | succ e ih =>
    intro k i hd hk
    obtain ⟨k, rfl⟩ : ∃ q, k = q + 1 + 1 + 1 := ⟨k - 3, by omega⟩
    have nx := ih k (i + 1) (by omega) (by omega)
    have xb := ok.2 _ (imem (l := s) (i := (i : Int)) (by omega) (by omega))
    have wi := wb _ (imem (l := w) (i := (i : Int)) (by omega) (by omega))
    have pr := prod_in xb.1 xb.2 (y := o * 7) (by omega) (by omega)
    have pa : rd s (i : Int) * o * 7 = rd s (i : Int) * (o * 7) := Int.mul_assoc ..
    have hi := ht (i : Int) (by omega) (by omega)
    have sb := sat_bd (rd w (i : Int) + (rd s (i : Int) * (o * 7) + 8192) / 16384)
    rw [← hi] at sb
    have j5 : bitloftlaw16_MixerSums.j5 (k + 1) a s o (i : Int) l (l.set a.toNat r) = some true := by
      simp only [bitloftlaw16_MixerSums.j5]
      rw [w64 (by omega)]
      exact nx
    have q1 : wrap64 (rd s (i : Int) * o) = rd s (i : Int) * o := w64 (by omega)
    simp only [bitloftlaw16_MixerSums.l0]
    rw [if_pos (by omega), if_pos h0, if_pos h1, if_pos (by omega), hr, if_pos (by omega), if_pos (by rw [List.length_set]; exact h1), er, if_pos (by omega), if_pos (by omega)]
    rw [w64 (x := rd w (i : Int)) (by omega), w64 (x := rd r (i : Int)) (by omega), w64 (x := rd s (i : Int)) (by omega), w64 (x := o) (by omega), q1, pa, w64 (x := rd s (i : Int) * (o * 7)) (by omega), w64 (x := rd r (i : Int) - rd w (i : Int)) (by omega)]
    by_cases c : rd w (i : Int) > 2147400000
    · rw [if_pos c]
      simp only [bitloftlaw16_MixerSums.j4]
      rw [if_pos trivial]
      exact j5
    rw [if_neg c]
    by_cases d : rd w (i : Int) < -2147400000
    · rw [decide_eq_true d]
      simp only [bitloftlaw16_MixerSums.j4]
      rw [if_pos trivial]
      exact j5
    rw [decide_eq_false d]
    simp only [bitloftlaw16_MixerSums.j4]
    have hs : rd r (i : Int) - rd w (i : Int) = (rd s (i : Int) * (o * 7) + 8192) / 16384 := by
      rw [hi]
      unfold sat
      split <;> (try split) <;> omega
    rw [if_neg (by decide), hs, w64 (x := (rd s (i : Int) * (o * 7) + 8192) / 16384 * 16384) (by omega), w64 (by omega), if_neg (by omega), if_neg (by omega)]
    exact j5
theorem MixerSums : bitloftlaw16_MixerSums.Pure := by
  intro l a s p b hl hw _ hs hs2 hsw hp
  have wb := rows_wf hw
  obtain ⟨K, hK⟩ : ∃ K : Nat, K = 6000 := ⟨_, rfl⟩
  refine ⟨K, ?_⟩
  have jt : bitloftlaw16_MixerSums.j0 K a s p b true l = some true := by
    obtain ⟨k, rfl⟩ : ∃ r, K = r + 1 := ⟨K - 1, by omega⟩
    simp only [bitloftlaw16_MixerSums.j0, if_true]
  unfold bitloftlaw16_MixerSums.f
  obtain ⟨g, g1, g2⟩ := fit_is l a s (k := K) (by omega)
  rw [g1, Option.bind_some]
  by_cases c : g = true
  rotate_left
  · rw [if_neg c, jt]
  rw [if_pos c]
  by_cases p0 : p < 0
  · rw [if_pos p0, jt]
  rw [if_neg p0]
  by_cases p1 : p > 4095
  · rw [if_pos p1, jt]
  rw [if_neg p1]
  obtain ⟨l20, e⟩ := g2 c
  have q := ask_ok e
  have r8 := row8 q.1 q.2.1.1 q.2.1.2
  have s8 := q.2.2.1
  have wr := wb _ (lmem q.2.1.1 q.2.1.2)
  obtain ⟨w, hw'⟩ : ∃ w, w = rd_L1 l a := ⟨_, rfl⟩
  rw [← hw'] at r8 wr
  have L1 : lrn l a s p b = (l.set a.toNat (tset p b w s), 0) := by rw [hw']; exact lrn_ok e (by omega) (by omega)
  have M1 : mixA l a s = (md w s, sq (md w s), 0) := by unfold mixA; rw [if_pos e, ← hw']
  have ck : chk (l.set a.toNat (tset p b w s)) := chk_set q.1 (tset_len r8 s8)
  have ob := off_bd (p := p) (b := b) (by omega) (by omega)
  have D1 : ∀ k, 18 ≤ k → fixed_Dot.f k w s = some (dt w s, 0) := fun k hk => by
    rw [F.dot_in (in32_of wr) (in32_ok q.2.2) (by omega) (by omega) k hk, r8]
    rfl
  have db : -2147483648 ≤ dt w s ∧ dt w s ≤ 2147483647 := sat_bd _
  obtain ⟨k, rfl⟩ : ∃ r, K = r + 1 := ⟨K - 1, by omega⟩
  simp only [bitloftlaw16_MixerSums.j0]
  rw [if_neg (by decide), pmix (by omega) (by omega) wb (by omega), M1, Option.bind_some]
  dsimp only
  rw [plearn (by omega) (by omega) wb (by omega), L1, Option.bind_some, pwrong, if_neg (by omega), Option.bind_some]
  dsimp only
  rw [if_pos q.2.1.1, if_pos q.2.1.2, ← hw', D1 k (by omega), Option.bind_some]
  dsimp only
  rw [if_pos rfl, if_pos rfl, if_pos rfl, if_pos rfl, rCheck (by rw [List.length_set]; omega) (by omega), if_pos ck, Option.bind_some, if_pos rfl]
  obtain ⟨k, rfl⟩ : ∃ r, k = r + 1 + 1 := ⟨k - 2, by omega⟩
  have j2 : bitloftlaw16_MixerSums.j2 (k + 1) a s (off p b) false l (l.set a.toNat (tset p b w s)) = some true := by
    simp only [bitloftlaw16_MixerSums.j2]
    rw [if_neg (by decide)]
    refine sums_l0 (w := w) hw'.symm q.2.1.1 q.2.1.2 r8 q.2.2 (tset_len r8 s8) wr ob.1 ob.2 (fun i i0 i1 => ?_) 8 k 0 (by omega) (by omega)
    obtain ⟨n, rfl⟩ := Int.eq_ofNat_of_zero_le i0
    have hg := tset_getD (p := p) (b := b) r8 s8 (i := n) (by omega)
    simp only [rd, Int.toNat_natCast]
    rw [hg]
    rfl
  have mdd : md w s = mx (-2047) (mn 2047 (dt w s / 65536)) := rfl
  have mc : (md w s = 2047 ∧ 2047 ≤ dt w s / 65536) ∨ (md w s = -2047 ∧ dt w s / 65536 ≤ -2047) ∨ (-2047 < md w s ∧ md w s < 2047 ∧ md w s = dt w s / 65536) := by
    rw [mdd]
    unfold mx mn
    split <;> split <;> omega
  have mb := md_bd w s
  simp only [bitloftlaw16_MixerSums.j1]
  rw [if_neg (by rw [List.length_set]; simp), w64 (x := md w s) (by omega), w64 (x := md w s * 65536) (by omega), w64 (x := md w s * 65536 + 65535) (by omega), w64 (x := dt w s) (by omega)]
  rcases mc with ⟨m1, m2⟩ | ⟨m1, m2⟩ | ⟨m1, m2, m3⟩
  · rw [if_pos (by omega), if_neg (by omega), if_pos m1, if_neg (by omega), if_neg (by omega)]
    exact j2
  · rw [if_neg (by omega), if_neg (by omega), if_pos m1, decide_eq_false (by omega)]
    exact j2
  · rw [if_pos m1, if_pos m2, if_neg (by omega), if_neg (by omega), if_neg (by omega), if_neg (by omega)]
    exact j2
end Go.Proofs.YtlpkfljihcklkaaDoor.Pure
