/- New, Check, Mix and Wrong tell what the reference tells, for all mixers of at most 300 sets of at most 100 weights, at most 100 inputs and any numbers. -/
import Derived.Test.YtlpkfljihcklkaaDoorXMixerMixesx4
import Derived.OpenShut
set_option linter.unusedVariables false
set_option linter.unusedSimpArgs false
namespace Go.Proofs.YtlpkfljihcklkaaDoor.Pure
open Go.RowKit Go.Proofs.YtlpkfljihcklkaaDoor.XMixerMixes Go.Proofs.YtlpkfljihcklkaaDoorW.PrintWords Go.Proofs.YtlpkfljihcklkaaDoorW.PrintLast
namespace F
theorem w32 {x : Int} (h : -2147483648 ≤ x ∧ x ≤ 2147483647) : wrap32 x = x := by unfold wrap32; omega
theorem w64 {x : Int} (h : -9223372036854775808 ≤ x ∧ x ≤ 9223372036854775807) : wrap64 x = x := by unfold wrap64; omega
/-- The exact sum of the first n products. -/
def dsum (a b : List Int) : Nat → Int
  | 0 => 0
  | n + 1 => dsum a b n + a.getD n 0 * b.getD n 0
/-- A number, kept within 32 bits. -/
def clamp (n : Int) : Int := if n < -2147483648 then -2147483648 else if n > 2147483647 then 2147483647 else n
def In32 (l : List Int) : Prop := ∀ n : Nat, -2147483648 ≤ l.getD n 0 ∧ l.getD n 0 ≤ 2147483647
theorem in32 {l : List Int} (h : ∀ x ∈ l, (Lit.int .i32 x).wf = true) : In32 l := by
  intro n
  by_cases c : n < l.length
  · have := bounds_i32 (h l[n] (List.getElem_mem c))
    simpa [List.getD_eq_getElem?_getD, c] using this
  · have : l.getD n 0 = 0 := by simp [List.getD_eq_getElem?_getD, Nat.le_of_not_lt c]
    omega
theorem prod_in {x y : Int} (hx : -2147483648 ≤ x ∧ x ≤ 2147483647) (hy : -2147483648 ≤ y ∧ y ≤ 2147483647) : -4611686018427387904 ≤ x * y ∧ x * y ≤ 4611686018427387904 := by
  by_cases c : 0 ≤ y
  · have a1 : -2147483648 * y ≤ x * y := Int.mul_le_mul_of_nonneg_right hx.1 c
    have a2 : x * y ≤ 2147483647 * y := Int.mul_le_mul_of_nonneg_right hx.2 c
    omega
  · have a1 : x * y ≤ -2147483648 * y := Int.mul_le_mul_of_nonpos_right hx.1 (by omega)
    have a2 : 2147483647 * y ≤ x * y := Int.mul_le_mul_of_nonpos_right hx.2 (by omega)
    omega
theorem dsum_in {a b : List Int} (ha : In32 a) (hb : In32 b) (n : Nat) : -4611686018427387904 * (n : Int) ≤ dsum a b n ∧ dsum a b n ≤ 4611686018427387904 * (n : Int) := by
  induction n with
  | zero => simp [dsum]
  | succ n ih =>
    have p := prod_in (ha n) (hb n)
    simp only [dsum]
    omega
theorem sat_is (n : Int) : fixed_Sat.f n = some (clamp n) := by
  unfold fixed_Sat.f mn mx clamp
  by_cases c : n < -2147483648
  · rw [if_pos c, if_pos c, if_neg (by decide)]
  · rw [if_neg c, if_neg c]
theorem dot_go {a b : List Int} (ha : In32 a) (hb : In32 b) (hl : b.length = a.length) (hm : a.length ≤ 16) (d : Nat) : ∀ (k i : Nat) (hi lo : Int), i + d = a.length → d + 2 ≤ k → 0 ≤ lo → lo < 18446744073709551616 → hi * 18446744073709551616 + lo = dsum a b i →
    fixed_Dot.l0 k b hi lo a (a.length : Int) (i : Int) = some (clamp (dsum a b a.length), 0) := by
  induction d with
  | zero =>
    intro k i hi lo hd hk l0 l1 hs
    obtain ⟨k, rfl⟩ : ∃ m, k = m + 2 := ⟨k - 2, by omega⟩
    obtain rfl : i = a.length := by omega
    have S := dsum_in ha hb a.length
    generalize dsum a b a.length = s at hs S ⊢
    simp only [fixed_Dot.l0]
    rw [if_neg (by omega)]
    have jt : fixed_Dot.j1 (k + 1) hi lo true = some (2147483647, 0) := by simp only [fixed_Dot.j1, if_true]
    have jf : (hi < 0 ∨ (hi = 0 ∧ lo ≤ 9223372036854775807)) → fixed_Dot.j1 (k + 1) hi lo false = some (clamp s, 0) := by
      intro h
      simp only [fixed_Dot.j1]
      rw [if_neg (by decide), sat_is]
      simp only [Option.bind_some]
      by_cases c1 : hi < -1
      · rw [if_pos c1]
        unfold clamp
        rw [if_pos (by omega)]
      · rw [if_neg c1]
        by_cases c2 : hi = -1
        · rw [if_pos c2]
          by_cases c3 : lo ≤ 9223372036854775807
          · rw [if_pos c3]
            unfold clamp
            rw [if_pos (by omega)]
          · rw [if_neg c3, show wrap64 lo = s from by unfold wrap64; omega]
        · rw [if_neg c2, show wrap64 lo = s from by unfold wrap64; omega]
    by_cases c : hi > 0
    · rw [if_pos c, jt]
      unfold clamp
      rw [if_neg (by omega), if_pos (by omega)]
    · rw [if_neg c]
      by_cases z : hi = 0
      · rw [if_pos z]
        by_cases y : lo > 9223372036854775807
        · rw [decide_eq_true y, jt]
          unfold clamp
          rw [if_neg (by omega), if_pos (by omega)]
        · rw [decide_eq_false y, jf (by omega)]
      · rw [if_neg z, jf (by omega)]
  | succ d ih =>
    intro k i hi lo hd hk l0 l1 hs
    obtain ⟨k, rfl⟩ : ∃ m, k = m + 1 := ⟨k - 1, by omega⟩
    have S := dsum_in ha hb i
    have p := prod_in (ha i) (hb i)
    have e1 : rd a (i : Int) = a.getD i 0 := by simp [rd]
    have e2 : rd b (i : Int) = b.getD i 0 := by simp [rd]
    simp only [fixed_Dot.l0]
    rw [if_pos (by omega), if_pos (by omega), if_pos (by omega), if_pos (by omega), e1, e2]
    have ba := ha i
    have bb := hb i
    have hd1 : dsum a b (i + 1) = dsum a b i + a.getD i 0 * b.getD i 0 := rfl
    generalize a.getD i 0 = x at *
    generalize b.getD i 0 = y at *
    rw [w64 (x := x) (by omega), w64 (x := y) (by omega), w64 (x := x * y) (by omega), w64 (x := (i : Int) + 1) (by omega)]
    generalize x * y = q at *
    have u : IntKind.u64.wrap q = q % 18446744073709551616 := by simp [IntKind.wrap, IntKind.bits, IntKind.signed]
    have r1 : bits_Add64.r1 lo (IntKind.u64.wrap q) 0 = (lo + q % 18446744073709551616) % 18446744073709551616 := by
      rw [u]; unfold bits_Add64.r1; omega
    have r2 : bits_Add64.r2 lo (IntKind.u64.wrap q) 0 = (lo + q % 18446744073709551616) / 18446744073709551616 := by
      rw [u]; unfold bits_Add64.r2; omega
    rw [r1, r2, w64 (x := hi + q / 9223372036854775808) (by omega), w64 (x := (lo + q % 18446744073709551616) / 18446744073709551616) (by omega), w64 (by omega)]
    exact ih k (i + 1) _ _ (by omega) (by omega) (by omega) (by omega) (by rw [hd1]; omega)
theorem dot_in {a b : List Int} (ha : In32 a) (hb : In32 b) (hl : a.length = b.length) (hm : a.length ≤ 16) (k : Nat) (hk : 18 ≤ k) : fixed_Dot.f k a b = some (clamp (dsum a b a.length), 0) := by
  unfold fixed_Dot.f
  have e : ¬ mx (a.length : Int) (b.length : Int) > 16 := by unfold mx; split <;> omega
  rw [if_neg e, if_pos (by omega)]
  exact dot_go ha hb hl.symm hm a.length k 0 0 0 (by omega) (by omega) (by omega) (by omega) (by simp [dsum])
theorem dot_many {a b : List Int} (h : 16 < a.length ∨ 16 < b.length) (k : Nat) : fixed_Dot.f k a b = some (0, 4) := by
  unfold fixed_Dot.f
  have e : mx (a.length : Int) (b.length : Int) > 16 := by unfold mx; split <;> omega
  rw [if_pos e]
theorem dot_arg {a b : List Int} (h : a.length ≤ 16) (h' : b.length ≤ 16) (hn : a.length ≠ b.length) (k : Nat) : fixed_Dot.f k a b = some (0, 2) := by
  unfold fixed_Dot.f
  have e : ¬ mx (a.length : Int) (b.length : Int) > 16 := by unfold mx; split <;> omega
  rw [if_neg e, if_neg (by omega)]
end F
namespace Q
theorem w32 {x : Int} (h : -2147483648 ≤ x ∧ x ≤ 2147483647) : wrap32 x = x := by unfold wrap32; omega
theorem p_f (d : Int) : squash_Squash.f d = some (sq d) := by
  unfold squash_Squash.f sq
  split
  · rfl
  · split <;> rfl
theorem p_steps : ∀ i j : Fin 64, ((i.val : Int) * 64 + j.val < 4094) → sq ((i.val : Int) * 64 + j.val - 2047) ≤ sq ((i.val : Int) * 64 + j.val + 1 - 2047) ∧ sq ((i.val : Int) * 64 + j.val + 1 - 2047) ≤ sq ((i.val : Int) * 64 + j.val - 2047) + 4 := by decide +kernel
theorem p_step {d : Int} (h0 : -2047 ≤ d) (h1 : d ≤ 2046) : sq d ≤ sq (d + 1) ∧ sq (d + 1) ≤ sq d + 4 := by
  obtain ⟨n, hn⟩ : ∃ n : Nat, d + 2047 = (n : Int) := ⟨(d + 2047).toNat, by omega⟩
  have := p_steps ⟨n / 64, by omega⟩ ⟨n % 64, by omega⟩
  dsimp only at this
  rw [show ((n / 64 : Nat) : Int) * 64 + ((n % 64 : Nat) : Int) = (n : Int) from by omega, show (n : Int) - 2047 = d from by omega, show (n : Int) + 1 - 2047 = d + 1 from by omega] at this
  exact this (by omega)
theorem p_in (a : Int) (ha : -2047 ≤ a) (n : Nat) : a + n ≤ 2047 → sq a ≤ sq (a + n) := by
  induction n with
  | zero => intro _; rw [show a + ((0 : Nat) : Int) = a from by omega]; exact Int.le_refl _
  | succ n ih =>
    intro h
    have := ih (by omega)
    have s := (p_step (d := a + n) (by omega) (by omega)).1
    rw [show a + ((n + 1 : Nat) : Int) = a + n + 1 from by omega]
    exact Int.le_trans this s
theorem p_low : sq (-2047) = 1 := by decide +kernel
theorem p_top : sq 2047 = 4094 := by decide +kernel
theorem p_range {d : Int} (h0 : -2047 ≤ d) (h1 : d ≤ 2047) : 1 ≤ sq d ∧ sq d ≤ 4094 := by
  have a := p_in (-2047) (by decide) (d + 2047).toNat (by omega)
  have b := p_in d h0 (2047 - d).toNat (by omega)
  rw [show -2047 + ((d + 2047).toNat : Int) = d from by omega, p_low] at a
  rw [show d + ((2047 - d).toNat : Int) = 2047 from by omega, p_top] at b
  exact ⟨a, b⟩
theorem p_far {d : Int} (h : d > 2047) : sq d = 4095 := by unfold sq; rw [if_pos h]
theorem p_neg {d : Int} (h : d < -2047) : sq d = 0 := by unfold sq; rw [if_neg (by omega), if_pos h]
theorem p_all (d : Int) : 0 ≤ sq d ∧ sq d ≤ 4095 := by
  by_cases a : d > 2047
  · rw [p_far a]; omega
  · by_cases b : d < -2047
    · rw [p_neg b]; omega
    · have := p_range (d := d) (by omega) (by omega); omega
theorem p_mono {d e : Int} (h : d ≤ e) : sq d ≤ sq e := by
  by_cases a : e > 2047
  · rw [p_far a]; exact (p_all d).2
  · by_cases b : d < -2047
    · rw [p_neg b]; exact (p_all e).1
    · have := p_in d (by omega) (e - d).toNat (by omega)
      rwa [show d + ((e - d).toNat : Int) = e from by omega] at this
theorem p_mid (d : Int) (h0 : -2047 ≤ d) (h1 : d ≤ 2047) : sq d = (rd sqRow (d / 128 + 16) * 128 + (rd sqRow (d / 128 + 17) - rd sqRow (d / 128 + 16)) * (d % 128) + 64) / 128 := by
  unfold sq squash_Squash.mid
  rw [if_neg (by omega), if_neg (by omega)]
theorem p_ref (d : Int) (hd : -2147483648 ≤ d ∧ d ≤ 2147483647) : bitloftref04_Squash.f d = some (sq d) := by
  unfold bitloftref04_Squash.f
  by_cases a : d > 2047
  · rw [if_pos a, p_far a]
  by_cases b : d < -2047
  · rw [if_neg a, if_pos b, p_neg b]
  rw [if_neg a, if_neg b]
  rw [w32 (x := d + 2048) (by omega)]
  have e1 : Int.tdiv (d + 2048) 128 = d / 128 + 16 := by rw [Int.tdiv_eq_ediv_of_nonneg (by omega)]; omega
  have e2 : Int.tmod (d + 2048) 128 = d % 128 := by rw [Int.tmod_eq_emod_of_nonneg (by omega)]; omega
  rw [e1, e2, w32 (x := d / 128 + 16) (by omega), w32 (x := d / 128 + 16 + 1) (by omega)]
  rw [if_pos (by omega), if_pos (by omega), if_pos (by omega), if_pos (by omega), p_mid d (by omega) (by omega)]
  obtain ⟨i, hi⟩ : ∃ i : Nat, d / 128 + 16 = (i : Int) := ⟨(d / 128 + 16).toNat, by omega⟩
  have h := sq_rows ⟨i, by omega⟩
  dsimp only at h
  rw [show d / 128 + 16 + 1 = (i : Int) + 1 from by omega, show d / 128 + 17 = (i : Int) + 1 from by omega, hi]
  show some (wrap32 (Int.tdiv (wrap32 (wrap32 (wrap32 (rd sqRow (i : Int) * wrap32 (128 - d % 128)) + wrap32 (rd sqRow ((i : Int) + 1) * (d % 128))) + 64)) 128)) = _
  generalize rd sqRow (i : Int) = x at h ⊢
  generalize rd sqRow ((i : Int) + 1) = y at h ⊢
  have m0 : 0 ≤ d % 128 := by omega
  have m1 : d % 128 ≤ 127 := by omega
  generalize d % 128 = m at m0 m1 ⊢
  rw [w32 (x := 128 - m) (by omega)]
  have q0 : 0 ≤ (y - x) * m := Int.mul_nonneg h.2.2.1 m0
  have q1 : (y - x) * m ≤ 503 * 127 := Int.mul_le_mul h.2.2.2 m1 m0 (by decide)
  have q2 : 0 ≤ x * m := Int.mul_nonneg h.1 m0
  have q3 : x * m ≤ 4094 * 127 := Int.mul_le_mul h.2.1 m1 m0 (by decide)
  rw [Int.sub_mul] at q0 q1 ⊢
  rw [Int.mul_sub]
  generalize x * m = p at q0 q1 q2 q3 ⊢
  generalize y * m = q at q0 q1 ⊢
  rw [w32 (x := x * 128 - p) (by omega), w32 (x := q) (by omega), w32 (x := x * 128 - p + q) (by omega), w32 (x := x * 128 - p + q + 64) (by omega), Int.tdiv_eq_ediv_of_nonneg (by omega), w32 (by omega)]
  congr 2
  omega
end Q
theorem w32 {x : Int} (h : -2147483648 ≤ x ∧ x ≤ 2147483647) : wrap32 x = x := by unfold wrap32; omega
theorem w64 {x : Int} (h : -9223372036854775808 ≤ x ∧ x ≤ 9223372036854775807) : wrap64 x = x := by unfold wrap64; omega
/-! What a mixer's check, its questions and its learning tell. -/
def rdL (l : List (List Int)) (i : Int) : List Int := l.getD i.toNat []
theorem ldrop {l : List (List Int)} {i : Nat} (h : i < l.length) : l.drop i = rd_L1 l (i : Int) :: l.drop (i + 1) := by
  have e : rd_L1 l (i : Int) = l[i] := by simp [rd_L1, List.getD_eq_getElem?_getD, h]
  rw [e]
  exact List.drop_eq_getElem_cons h
theorem idrop {l : List Int} {i : Nat} (h : i < l.length) : l.drop i = rd l (i : Int) :: l.drop (i + 1) := by
  have e : rd l (i : Int) = l[i] := by simp [rd, List.getD_eq_getElem?_getD, h]
  rw [e]
  exact List.drop_eq_getElem_cons h
theorem lmem {l : List (List Int)} {i : Int} (h0 : 0 ≤ i) (h : i < l.length) : rd_L1 l i ∈ l := by
  obtain ⟨n, rfl⟩ := Int.eq_ofNat_of_zero_le h0
  have e : rd_L1 l (n : Int) = l[n]'(by omega) := by simp [rd_L1, List.getD_eq_getElem?_getD, show n < l.length by omega]
  rw [e]
  exact List.getElem_mem _
theorem imem {l : List Int} {i : Int} (h0 : 0 ≤ i) (h : i < l.length) : rd l i ∈ l := by
  obtain ⟨n, rfl⟩ := Int.eq_ofNat_of_zero_le h0
  have e : rd l (n : Int) = l[n]'(by omega) := by simp [rd, List.getD_eq_getElem?_getD, show n < l.length by omega]
  rw [e]
  exact List.getElem_mem _
theorem i32_in {x : Int} (h : (Lit.int .i32 x).wf = true) : -2147483648 ≤ x ∧ x ≤ 2147483647 := by
  simp only [Lit.wf, IntKind.min, IntKind.max, IntKind.signed, IntKind.bits, Bool.and_eq_true] at h
  simp at h
  omega
def chk (l : List (List Int)) : Prop := (1 ≤ l.length ∧ l.length ≤ 256) ∧ ∀ r ∈ l, r.length = 8
instance (l : List (List Int)) : Decidable (chk l) := by unfold chk; infer_instance
def okIn (s : List Int) : Prop := s.length = 8 ∧ ∀ x ∈ s, -2047 ≤ x ∧ x ≤ 2047
instance (s : List Int) : Decidable (okIn s) := by unfold okIn; infer_instance
def ask (l : List (List Int)) (a : Int) (s : List Int) : Int := if chk l then (if (0 ≤ a ∧ a < l.length) ∧ okIn s then 0 else 2) else 8
theorem ask_ok {l : List (List Int)} {a : Int} {s : List Int} (h : ask l a s = 0) : chk l ∧ (0 ≤ a ∧ a < l.length) ∧ okIn s := by
  unfold ask at h
  by_cases c : chk l
  · rw [if_pos c] at h
    by_cases d : (0 ≤ a ∧ a < l.length) ∧ okIn s
    · exact ⟨c, d⟩
    · rw [if_neg d] at h; omega
  · rw [if_neg c] at h; omega
theorem ask_in {l : List (List Int)} {a : Int} {s : List Int} (c : chk l) (d : 0 ≤ a ∧ a < l.length) (o : okIn s) : ask l a s = 0 := by unfold ask; rw [if_pos c, if_pos ⟨d, o⟩]
theorem chk_set {l : List (List Int)} {a : Int} {r : List Int} (c : chk l) (h : r.length = 8) : chk (l.set a.toNat r) := by
  refine ⟨by rw [List.length_set]; exact c.1, fun x hx => ?_⟩
  rcases List.mem_or_eq_of_mem_set hx with y | y
  · exact c.2 x y
  · rw [y]; exact h
theorem row8 {l : List (List Int)} {a : Int} (c : chk l) (h0 : 0 ≤ a) (h1 : a < l.length) : (rd_L1 l a).length = 8 := c.2 _ (lmem h0 h1)
def sat (n : Int) : Int := if n < -2147483648 then -2147483648 else if n > 2147483647 then 2147483647 else n
theorem sat_bd (n : Int) : -2147483648 ≤ sat n ∧ sat n ≤ 2147483647 := by unfold sat; split <;> (try split) <;> omega
def off (p : Int) (b : Bool) : Int := if b = true then 4095 - p else -p
theorem off_bd {p : Int} {b : Bool} (h0 : 0 ≤ p) (h1 : p ≤ 4095) : -4095 ≤ off p b ∧ off p b ≤ 4095 := by unfold off; split <;> omega
/-- A weight after learning. -/
def tch (p : Int) (b : Bool) (w x : Int) : Int := sat (w + (x * (off p b * 7) + 8192) / 16384)
def tset (p : Int) (b : Bool) (w s : List Int) : List Int := List.zipWith (tch p b) w s
theorem tset_len {p : Int} {b : Bool} {w s : List Int} (h1 : w.length = 8) (h2 : s.length = 8) : (tset p b w s).length = 8 := by unfold tset; rw [List.length_zipWith]; omega
def lrn (l : List (List Int)) (a : Int) (s : List Int) (p : Int) (b : Bool) : List (List Int) × Int := if ask l a s = 0 then (if p < 0 ∨ p > 4095 then ([], 2) else (l.set a.toNat (tset p b (rd_L1 l a) s), 0)) else ([], ask l a s)
theorem prod_in {x y : Int} (h1 : -2047 ≤ x) (h2 : x ≤ 2047) (h3 : -28665 ≤ y) (h4 : y ≤ 28665) : -58677255 ≤ x * y ∧ x * y ≤ 58677255 := by
  have a : x.natAbs ≤ 2047 := by omega
  have b : y.natAbs ≤ 28665 := by omega
  have c := Nat.mul_le_mul a b
  rw [← Int.natAbs_mul] at c
  omega
theorem pCheck {l : List (List Int)} (hl : l.length ≤ 100000) : mixer_Check.f l = some (if chk l then 0 else 8) := by
  unfold mixer_Check.f slices_ContainsFunc_int32_int32_mixer_Check_1.f
  by_cases a : (l.length : Int) < 1
  · rw [if_pos a, if_neg (show ¬ chk l from fun z => by have := z.1; omega)]
  rw [if_neg a]
  by_cases b : (l.length : Int) > 256
  · rw [if_pos b, if_neg (show ¬ chk l from fun z => by have := z.1; omega)]
  rw [if_neg b, if_neg (by omega), Option.bind_some]
  by_cases c : chk l
  · rw [if_pos c, if_neg]
    simp only [List.any_eq_true, decide_eq_true_eq, not_exists, not_and]
    exact fun r hr h => h (c.2 r hr)
  · rw [if_neg c, if_pos]
    have d : ¬ ∀ r ∈ l, r.length = 8 := fun h => c ⟨by omega, h⟩
    rw [List.any_eq_true]
    by_cases e : ∃ r, r ∈ l ∧ r.length ≠ 8
    · obtain ⟨r, hr, h⟩ := e
      exact ⟨r, hr, decide_eq_true h⟩
    · exact absurd (fun r hr => by by_cases q : r.length = 8; exact q; exact absurd ⟨r, hr, q⟩ e) d
theorem pcheck {l : List (List Int)} {a : Int} {s : List Int} (hl : l.length ≤ 100000) (hs : s.length ≤ 100000) : mixer_check.f l a s = some (ask l a s) := by
  unfold mixer_check.f ask slices_ContainsFunc_int32_int32_mixer_check_1.f
  rw [pCheck hl, Option.bind_some]
  by_cases c : chk l
  · rw [if_pos c, if_pos rfl, if_pos c]
    by_cases d : a < 0
    · rw [if_pos d, if_neg (by omega)]
    rw [if_neg d]
    by_cases e : a ≥ (l.length : Int)
    · rw [if_pos e, if_neg (by omega)]
    rw [if_neg e]
    by_cases f : s.length = 8
    · rw [if_pos (by omega), if_neg (by omega), Option.bind_some]
      by_cases g : okIn s
      · have nn : ¬ (s.any fun x => decide (x > 2047 ∨ x < -2047)) = true := by
          simp only [List.any_eq_true, decide_eq_true_eq, not_exists, not_and]
          intro x hx h
          have := g.2 x hx
          omega
        rw [if_neg nn, if_pos ⟨by omega, g⟩]
      · rw [if_pos, if_neg (show ¬ ((0 ≤ a ∧ a < l.length) ∧ okIn s) from fun z => g z.2)]
        rw [List.any_eq_true]
        by_cases h : ∃ x, x ∈ s ∧ (x > 2047 ∨ x < -2047)
        · obtain ⟨x, hx, h⟩ := h
          exact ⟨x, hx, decide_eq_true h⟩
        · exact absurd ⟨f, fun x hx => by by_cases q : x > 2047 ∨ x < -2047; exact absurd ⟨x, hx, q⟩ h; omega⟩ g
    · rw [if_neg (by omega), if_neg (show ¬ ((0 ≤ a ∧ a < l.length) ∧ okIn s) from fun z => f z.2.1)]
  · rw [if_neg c, if_neg (by decide), if_neg c]
/-! What mixing tells. -/
theorem sat_clamp (n : Int) : F.clamp n = sat n := rfl
def dt (w s : List Int) : Int := sat (F.dsum w s 8)
def md (w s : List Int) : Int := mx (-2047) (mn 2047 (dt w s / 65536))
theorem keep_bd (n : Int) : -2047 ≤ mx (-2047) (mn 2047 n) ∧ mx (-2047) (mn 2047 n) ≤ 2047 := by unfold mx mn; split <;> split <;> omega
theorem md_bd (w s : List Int) : -2047 ≤ md w s ∧ md w s ≤ 2047 := keep_bd _
theorem in32_of {l : List Int} (h : ∀ x ∈ l, -2147483648 ≤ x ∧ x ≤ 2147483647) : F.In32 l := by
  intro n
  by_cases c : n < l.length
  · have := h _ (List.getElem_mem c)
    rw [List.getD_eq_getElem?_getD, List.getElem?_eq_getElem c]
    exact this
  · rw [List.getD_eq_getElem?_getD, List.getElem?_eq_none (by omega)]
    decide
theorem in32_ok {s : List Int} (o : okIn s) : F.In32 s := in32_of (fun x hx => by have := o.2 x hx; omega)
def mixA (l : List (List Int)) (a : Int) (s : List Int) : Int × Int × Int := if ask l a s = 0 then (md (rd_L1 l a) s, sq (md (rd_L1 l a) s), 0) else (0, 0, ask l a s)
theorem pmix {l : List (List Int)} {a : Int} {s : List Int} (hl : l.length ≤ 100000) (hs : s.length ≤ 100000) (wb : ∀ r ∈ l, ∀ x ∈ r, -2147483648 ≤ x ∧ x ≤ 2147483647) {k : Nat} (hk : 18 ≤ k) : mixer_Mix.f k l a s = some (mixA l a s) := by
  unfold mixer_Mix.f mixA mixer_keep.f
  rw [pcheck hl hs, Option.bind_some]
  by_cases e : ask l a s = 0
  · have q := ask_ok e
    have r8 := row8 q.1 q.2.1.1 q.2.1.2
    have s8 := q.2.2.1
    rw [if_pos e, if_pos e, if_pos q.2.1.1, if_pos q.2.1.2, F.dot_in (in32_of (wb _ (lmem q.2.1.1 q.2.1.2))) (in32_ok q.2.2) (by omega) (by omega) k hk, Option.bind_some, Option.bind_some, r8]
    dsimp only
    rw [Q.p_f, Option.bind_some]
    rfl
  · rw [if_neg e, if_neg e]
theorem wrong_in {p : Int} {b : Bool} (h0 : 0 ≤ p) (h1 : p ≤ 4095) : mixer_wrong.f p b = some (off p b) := by
  unfold mixer_wrong.f off
  by_cases c : b = true
  · rw [if_pos c, if_pos c, w32 (by omega)]
  · rw [if_neg c, if_neg c, w32 (by omega)]
theorem rcheck_go {l : List (List Int)} (hl : l.length ≤ 1000) (e : Nat) : ∀ (k i : Nat), i + e = l.length → e < k → bitloftref16_Check.l0 k (i : Int) l = some (if ∀ r ∈ l.drop i, r.length = 8 then 0 else 8) := by
  induction e with
  | zero =>
    intro k i hd hk
    obtain ⟨k, rfl⟩ : ∃ q, k = q + 1 := ⟨k - 1, by omega⟩
    simp only [bitloftref16_Check.l0]
    rw [if_neg (by omega), List.drop_of_length_le (by omega), if_pos (by simp)]
  | succ e ih =>
    intro k i hd hk
    obtain ⟨k, rfl⟩ : ∃ q, k = q + 1 := ⟨k - 1, by omega⟩
    simp only [bitloftref16_Check.l0]
    rw [if_pos (by omega), if_pos (by omega), ldrop (l := l) (i := i) (by omega)]
    by_cases c : (rd_L1 l (i : Int)).length = 8
    · rw [if_pos (by omega), w64 (by omega), show (i : Int) + 1 = ((i + 1 : Nat) : Int) from rfl, ih k (i + 1) (by omega) (by omega)]
      simp only [List.forall_mem_cons, c, true_and]
    · rw [if_neg (by omega), if_neg (fun h => c (h _ (List.mem_cons_self ..)))]
theorem rCheck {l : List (List Int)} (hl : l.length ≤ 1000) {k : Nat} (hk : 1002 ≤ k) : bitloftref16_Check.f k l = some (if chk l then 0 else 8) := by
  unfold bitloftref16_Check.f
  obtain ⟨k, rfl⟩ : ∃ q, k = q + 1 := ⟨k - 1, by omega⟩
  by_cases a : (l.length : Int) < 1
  · rw [if_pos a, if_neg (show ¬ chk l from fun z => by have := z.1; omega)]
    simp only [bitloftref16_Check.j0, if_true]
  rw [if_neg a]
  by_cases b : (l.length : Int) > 256
  · rw [decide_eq_true b, if_neg (show ¬ chk l from fun z => by have := z.1; omega)]
    simp only [bitloftref16_Check.j0, if_true]
  rw [decide_eq_false b]
  simp only [bitloftref16_Check.j0]
  rw [if_neg (by decide)]
  have := rcheck_go hl l.length k 0 (by omega) (by omega)
  rw [List.drop_zero] at this
  refine (show bitloftref16_Check.l0 k 0 l = _ from this).trans ?_
  by_cases c : chk l
  · rw [if_pos c, if_pos c.2]
  · rw [if_neg c, if_neg (fun h => c ⟨by omega, h⟩)]
theorem rin_go {s : List Int} (hs : s.length = 8) (e : Nat) : ∀ (k i : Nat), i + e = 8 → e < k → bitloftref16_In.l0 k s (i : Int) = some (decide (∀ x ∈ s.drop i, -2047 ≤ x ∧ x ≤ 2047)) := by
  induction e with
  | zero =>
    intro k i hd hk
    obtain ⟨k, rfl⟩ : ∃ q, k = q + 1 := ⟨k - 1, by omega⟩
    simp only [bitloftref16_In.l0]
    rw [if_neg (by omega), List.drop_of_length_le (by omega)]
    simp
  | succ e ih =>
    intro k i hd hk
    obtain ⟨k, rfl⟩ : ∃ q, k = q + 1 := ⟨k - 1, by omega⟩
    simp only [bitloftref16_In.l0]
    rw [if_pos (by omega), if_pos (by omega), if_pos (by omega), idrop (l := s) (i := i) (by omega)]
    by_cases c : rd s (i : Int) < -2047
    · rw [if_pos c, decide_eq_false (fun h => by have := h _ (List.mem_cons_self ..); omega)]
    rw [if_neg c]
    by_cases d : rd s (i : Int) > 2047
    · rw [if_pos d, decide_eq_false (fun h => by have := h _ (List.mem_cons_self ..); omega)]
    rw [if_neg d, w64 (by omega), show (i : Int) + 1 = ((i + 1 : Nat) : Int) from rfl, ih k (i + 1) (by omega) (by omega)]
    have b : -2047 ≤ rd s (i : Int) ∧ rd s (i : Int) ≤ 2047 := by omega
    simp only [List.forall_mem_cons, b, true_and, and_self]
theorem rIn (s : List Int) {k : Nat} (hk : 1002 ≤ k) : bitloftref16_In.f k s = some (decide (okIn s)) := by
  unfold bitloftref16_In.f
  by_cases c : s.length = 8
  · rw [if_pos (by omega)]
    have := rin_go c 8 k 0 (by omega) (by omega)
    rw [List.drop_zero] at this
    refine (show bitloftref16_In.l0 k s 0 = _ from this).trans ?_
    congr 1
    exact decide_eq_decide.mpr ⟨fun h => ⟨c, h⟩, fun h => h.2⟩
  · rw [if_neg (by omega), decide_eq_false (fun h => c h.1)]
theorem rasked {l : List (List Int)} {a : Int} {s : List Int} (hl : l.length ≤ 1000) {k : Nat} (hk : 1002 ≤ k) : bitloftref16_Asked.f k l a s = some (ask l a s) := by
  unfold bitloftref16_Asked.f ask
  rw [rCheck hl hk, Option.bind_some]
  by_cases c : chk l
  · rw [if_pos c, if_pos rfl, if_pos c]
    by_cases d : a < 0
    · rw [if_pos d, if_neg (by omega)]
    rw [if_neg d]
    by_cases e : a ≥ (l.length : Int)
    · rw [if_pos e, if_neg (by omega)]
    rw [if_neg e, rIn s hk, Option.bind_some]
    by_cases g : okIn s
    · rw [decide_eq_true g, if_pos rfl, if_pos ⟨by omega, g⟩]
    · rw [decide_eq_false g, if_neg (by decide), if_neg (show ¬ ((0 ≤ a ∧ a < l.length) ∧ okIn s) from fun z => g z.2)]
  · rw [if_neg c, if_neg (by decide), if_neg c, Option.bind_some]
theorem roff_in {p : Int} {b : Bool} (h0 : 0 ≤ p) (h1 : p ≤ 4095) : bitloftref16_Off.f p b = some (off p b) := by
  unfold bitloftref16_Off.f off
  by_cases c : b = true
  · rw [if_pos c, if_pos c, w64 (x := p) (by omega), w64 (by omega)]
  · rw [if_neg c, if_neg c, w64 (x := p) (by omega), w64 (by omega)]
theorem sat_mx (n : Int) : mx (-2147483648) (mn 2147483647 n) = sat n := by
  unfold mx mn sat
  split <;> split <;> (try split) <;> omega
theorem tdiv16_neg {n : Int} (h : Int.tmod n 65536 < 0) : Int.tdiv n 65536 - 1 = n / 65536 := by
  have a := Int.tmod_nonneg (a := n) 65536
  have c : ¬ 0 ≤ n := fun h0 => by have := a h0; omega
  have t1 : Int.tdiv n 65536 = -((-n) / 65536) := by
    have := Int.neg_tdiv n 65536
    rw [Int.tdiv_eq_ediv_of_nonneg (by omega)] at this
    omega
  have t2 : Int.tmod n 65536 = -((-n) % 65536) := by
    have := Int.neg_tmod n 65536
    rw [Int.tmod_eq_emod_of_nonneg (by omega)] at this
    omega
  omega
theorem tdiv16_pos {n : Int} (h : ¬ Int.tmod n 65536 < 0) : Int.tdiv n 65536 = n / 65536 := by
  by_cases c : 0 ≤ n
  · exact Int.tdiv_eq_ediv_of_nonneg c
  · have t1 : Int.tdiv n 65536 = -((-n) / 65536) := by
      have := Int.neg_tdiv n 65536
      rw [Int.tdiv_eq_ediv_of_nonneg (by omega)] at this
      omega
    have t2 : Int.tmod n 65536 = -((-n) % 65536) := by
      have := Int.neg_tmod n 65536
      rw [Int.tmod_eq_emod_of_nonneg (by omega)] at this
      omega
    omega
theorem prod_w {x y : Int} (h1 : -2147483648 ≤ x) (h2 : x ≤ 2147483647) (h3 : -2047 ≤ y) (h4 : y ≤ 2047) : -4398046511104 ≤ x * y ∧ x * y ≤ 4398046511104 := by
  have a : x.natAbs ≤ 2147483648 := by omega
  have b : y.natAbs ≤ 2047 := by omega
  have c := Nat.mul_le_mul a b
  rw [← Int.natAbs_mul] at c
  omega
theorem dsum_s {w s : List Int} (wb : ∀ x ∈ w, -2147483648 ≤ x ∧ x ≤ 2147483647) (hw : w.length = 8) (o : okIn s) (i : Nat) (hi : i < 8) : F.dsum w s (i + 1) = F.dsum w s i + rd w (i : Int) * rd s (i : Int) ∧ -4398046511104 ≤ rd w (i : Int) * rd s (i : Int) ∧ rd w (i : Int) * rd s (i : Int) ≤ 4398046511104 := by
  have o8 := o.1
  have a := wb _ (imem (l := w) (i := (i : Int)) (by omega) (by omega))
  have b := o.2 _ (imem (l := s) (i := (i : Int)) (by omega) (by omega))
  have c := prod_w a.1 a.2 b.1 b.2
  exact ⟨rfl, c.1, c.2⟩
theorem dsum_bd {w s : List Int} (wb : ∀ x ∈ w, -2147483648 ≤ x ∧ x ≤ 2147483647) (hw : w.length = 8) (o : okIn s) (i : Nat) : i ≤ 8 → -4398046511104 * (i : Int) ≤ F.dsum w s i ∧ F.dsum w s i ≤ 4398046511104 * (i : Int) := by
  induction i with
  | zero => intro _; show -4398046511104 * ((0 : Nat) : Int) ≤ 0 ∧ (0 : Int) ≤ 4398046511104 * ((0 : Nat) : Int); decide
  | succ i ih =>
    intro h
    have p := dsum_s wb hw o i (by omega)
    have q := ih (by omega)
    rw [p.1]
    omega
theorem rmixed_go {w s : List Int} (wb : ∀ x ∈ w, -2147483648 ≤ x ∧ x ≤ 2147483647) (hw : w.length = 8) (o : okIn s) (e : Nat) : ∀ (k i : Nat), i + e = 8 → e < k → bitloftref16_Mixed.l0 k w s (F.dsum w s i) (i : Int) = some (md w s, sq (md w s)) := by
  have o8 := o.1
  induction e with
  | zero =>
    intro k i hd hk
    obtain ⟨k, rfl⟩ : ∃ q, k = q + 1 := ⟨k - 1, by omega⟩
    obtain rfl : i = 8 := by omega
    simp only [bitloftref16_Mixed.l0]
    have sb := sat_bd (F.dsum w s 8)
    have kb := md_bd w s
    rw [if_neg (by omega), sat_mx]
    have mdd : mx (-2047) (mn 2047 (sat (F.dsum w s 8) / 65536)) = md w s := rfl
    by_cases c : Int.tmod (sat (F.dsum w s 8)) 65536 < 0
    · have t := tdiv16_neg c
      rw [if_pos c, w64 (x := Int.tdiv (sat (F.dsum w s 8)) 65536) (by omega), t, w64 (by omega), mdd, Q.p_ref _ (by omega), Option.bind_some]
    · have t := tdiv16_pos c
      rw [if_neg c, t, w64 (by omega), mdd, Q.p_ref _ (by omega), Option.bind_some]
  | succ e ih =>
    intro k i hd hk
    obtain ⟨k, rfl⟩ : ∃ q, k = q + 1 := ⟨k - 1, by omega⟩
    have p := dsum_s wb hw o i (by omega)
    have q := dsum_bd wb hw o i (by omega)
    have a := wb _ (imem (l := w) (i := (i : Int)) (by omega) (by omega))
    have b := o.2 _ (imem (l := s) (i := (i : Int)) (by omega) (by omega))
    simp only [bitloftref16_Mixed.l0]
    rw [if_pos (by omega), if_pos (by omega), if_pos (by omega), if_pos (by omega), w64 (x := rd w (i : Int)) (by omega), w64 (x := rd s (i : Int)) (by omega), w64 (x := rd w (i : Int) * rd s (i : Int)) (by omega), w64 (x := F.dsum w s i + _) (by omega), ← p.1, w64 (x := (i : Int) + 1) (by omega)]
    exact ih k (i + 1) (by omega) (by omega)
theorem rmix {l : List (List Int)} {a : Int} {s : List Int} (hl : l.length ≤ 1000) (wb : ∀ r ∈ l, ∀ x ∈ r, -2147483648 ≤ x ∧ x ≤ 2147483647) {k : Nat} (hk : 1100 ≤ k) : bitloftref16_Mix.f k l a s = some (mixA l a s) := by
  unfold bitloftref16_Mix.f mixA
  rw [rasked hl (by omega), Option.bind_some]
  by_cases e : ask l a s = 0
  · have q := ask_ok e
    have g := rmixed_go (wb _ (lmem q.2.1.1 q.2.1.2)) (row8 q.1 q.2.1.1 q.2.1.2) q.2.2 8 k 0 (by omega) (by omega)
    have gf : bitloftref16_Mixed.f k (rd_L1 l a) s = some (md (rd_L1 l a) s, sq (md (rd_L1 l a) s)) := g
    rw [if_pos e, if_pos e, if_pos q.2.1.1, if_pos q.2.1.2, gf, Option.bind_some]
  · rw [if_neg e, if_neg e, Option.bind_some]
def newA (n w : Int) : List (List Int) × Int := if 1 ≤ n ∧ n ≤ 256 then (List.replicate n.toNat (List.replicate 8 w), 0) else ([], 2)
theorem newA_len (n w : Int) : (newA n w).1.length ≤ 1000 ∧ ∀ r ∈ (newA n w).1, r.length ≤ 1000 := by
  unfold newA
  by_cases c : 1 ≤ n ∧ n ≤ 256
  · rw [if_pos c]
    refine ⟨by rw [List.length_replicate]; omega, fun r h => ?_⟩
    rw [List.eq_of_mem_replicate h, List.length_replicate]
    decide
  · rw [if_neg c]; simp
theorem fill_is (w : Int) : mixer_fill_int32.f 8 w = some (List.replicate 8 w) := rfl
theorem pnew_go {w : Int} {n : Nat} (hn : n ≤ 256) (e : Nat) : ∀ (k i : Nat), i + e = n → e < k → mixer_New.l0 k w (n : Int) (i : Int) (List.replicate i (List.replicate 8 w)) = some (List.replicate n (List.replicate 8 w), 0) := by
  induction e with
  | zero =>
    intro k i hd hk
    obtain ⟨k, rfl⟩ : ∃ q, k = q + 1 := ⟨k - 1, by omega⟩
    obtain rfl : i = n := by omega
    simp only [mixer_New.l0]
    rw [if_neg (by omega)]
  | succ e ih =>
    intro k i hd hk
    obtain ⟨k, rfl⟩ : ∃ q, k = q + 1 := ⟨k - 1, by omega⟩
    simp only [mixer_New.l0]
    rw [if_pos (by omega), fill_is, Option.bind_some, if_pos (by rw [List.length_replicate]; omega), w64 (by omega), ← List.replicate_succ']
    exact ih k (i + 1) (by omega) (by omega)
theorem pnew (n w : Int) {k : Nat} (hk : 300 ≤ k) : mixer_New.f k n w = some (newA n w) := by
  unfold mixer_New.f newA
  obtain ⟨k, rfl⟩ : ∃ q, k = q + 1 := ⟨k - 1, by omega⟩
  by_cases a : n < 1
  · rw [if_pos a, if_neg (by omega)]
    simp only [mixer_New.j0, if_true]
  rw [if_neg a]
  by_cases b : n > 256
  · rw [decide_eq_true b, if_neg (by omega)]
    simp only [mixer_New.j0, if_true]
  rw [decide_eq_false b, if_pos (by omega)]
  obtain ⟨m, rfl⟩ := Int.eq_ofNat_of_zero_le (show 0 ≤ n by omega)
  simp only [mixer_New.j0]
  rw [if_neg (by decide), Int.toNat_natCast]
  exact pnew_go (by omega) m k 0 (by omega) (by omega)
theorem pwrong (p : Int) (b : Bool) : mixer_Wrong.f p b = some (if p < 0 ∨ p > 4095 then (0, 2) else (off p b, 0)) := by
  unfold mixer_Wrong.f
  by_cases c : p < 0
  · rw [if_pos c, if_pos (Or.inl c)]
  rw [if_neg c]
  by_cases d : p > 4095
  · rw [if_pos d, if_pos (Or.inr d)]
  rw [if_neg d, if_neg (by omega), wrong_in (by omega) (by omega), Option.bind_some]
theorem rnew_l1 {n w : Int} {m : List (List Int)} (hm : m.length ≤ 256) (e : Nat) : ∀ (k i : Nat) (j : Int), i + e = 8 → bitloftref16_New.l1 (k + e + 1) n w j (List.replicate i w) (i : Int) m = bitloftref16_New.l0 k n w (wrap64 (j + 1)) (m ++ [List.replicate 8 w]) := by
  induction e with
  | zero =>
    intro k i j hd
    obtain rfl : i = 8 := by omega
    simp only [bitloftref16_New.l1]
    rw [if_neg (by omega), if_pos (by omega)]
  | succ e ih =>
    intro k i j hd
    rw [show k + (e + 1) + 1 = (k + e + 1) + 1 from by omega]
    simp only [bitloftref16_New.l1]
    rw [if_pos (by omega), if_pos (by rw [List.length_replicate]; omega), w64 (by omega), ← List.replicate_succ']
    exact ih k (i + 1) j (by omega)
theorem rnew_go {w : Int} {n : Nat} (hn : n ≤ 256) (e : Nat) : ∀ (k i : Nat), i + e = n → bitloftref16_New.l0 (k + 10 * e + 1) (n : Int) w (i : Int) (List.replicate i (List.replicate 8 w)) = some (List.replicate n (List.replicate 8 w), 0) := by
  induction e with
  | zero =>
    intro k i hd
    obtain rfl : i = n := by omega
    simp only [bitloftref16_New.l0]
    rw [if_neg (by omega)]
  | succ e ih =>
    intro k i hd
    rw [show k + 10 * (e + 1) + 1 = ((k + 10 * e + 1) + 8 + 1) + 1 from by omega]
    simp only [bitloftref16_New.l0]
    have := rnew_l1 (n := (n : Int)) (w := w) (m := List.replicate i (List.replicate 8 w)) (by rw [List.length_replicate]; omega) 8 (k + 10 * e + 1) 0 (i : Int) (by omega)
    rw [if_pos (by omega)]
    refine (show bitloftref16_New.l1 ((k + 10 * e + 1) + 8 + 1) (n : Int) w (i : Int) [] 0 _ = _ from this).trans ?_
    rw [w64 (by omega), ← List.replicate_succ']
    exact ih k (i + 1) (by omega)
theorem rnew (n w : Int) {k : Nat} (hk : 3000 ≤ k) : bitloftref16_New.f k n w = some (newA n w) := by
  unfold bitloftref16_New.f newA
  obtain ⟨k, rfl⟩ : ∃ q, k = q + 1 := ⟨k - 1, by omega⟩
  by_cases a : n < 1
  · rw [if_pos a, if_neg (by omega)]
    simp only [bitloftref16_New.j0, if_true]
  rw [if_neg a]
  by_cases b : n > 256
  · rw [decide_eq_true b, if_neg (by omega)]
    simp only [bitloftref16_New.j0, if_true]
  rw [decide_eq_false b, if_pos (by omega)]
  obtain ⟨m, rfl⟩ := Int.eq_ofNat_of_zero_le (show 0 ≤ n by omega)
  simp only [bitloftref16_New.j0]
  rw [if_neg (by decide), Int.toNat_natCast]
  obtain ⟨q, rfl⟩ : ∃ q, k = q + 10 * m + 1 := ⟨k - 10 * m - 1, by omega⟩
  exact rnew_go (by omega) m q 0 (by omega)
theorem rwrong (p : Int) (b : Bool) : bitloftref16_Wrong.f p b = some (if p < 0 ∨ p > 4095 then (0, 2) else (off p b, 0)) := by
  unfold bitloftref16_Wrong.f
  by_cases c : p < 0
  · rw [if_pos c, if_pos (Or.inl c)]
  rw [if_neg c]
  by_cases d : p > 4095
  · rw [if_pos d, if_pos (Or.inr d)]
  have ob := off_bd (p := p) (b := b) (by omega) (by omega)
  rw [if_neg d, if_neg (by omega), roff_in (by omega) (by omega), Option.bind_some, w32 (by omega)]
theorem srow_go {r : List Int} (hl : r.length ≤ 1000) (e : Nat) : ∀ (k i : Nat), i + e = r.length → e < k → bitloftref16_SameRow.l0 k r r (i : Int) = some true := by
  induction e with
  | zero =>
    intro k i hd hk
    obtain ⟨k, rfl⟩ : ∃ q, k = q + 1 := ⟨k - 1, by omega⟩
    simp only [bitloftref16_SameRow.l0]
    rw [if_neg (by omega)]
  | succ e ih =>
    intro k i hd hk
    obtain ⟨k, rfl⟩ : ∃ q, k = q + 1 := ⟨k - 1, by omega⟩
    simp only [bitloftref16_SameRow.l0]
    rw [if_pos (by omega), if_pos (by omega), if_pos (by omega), if_pos trivial, w64 (by omega), show (i : Int) + 1 = ((i + 1 : Nat) : Int) from rfl]
    exact ih k (i + 1) (by omega) (by omega)
theorem srow {r : List Int} (hl : r.length ≤ 1000) {k : Nat} (hk : 1001 ≤ k) : bitloftref16_SameRow.f k r r = some true := by
  unfold bitloftref16_SameRow.f
  rw [if_pos rfl]
  exact srow_go hl r.length k 0 (by omega) (by omega)
theorem same_go {l : List (List Int)} (hl : l.length ≤ 1000) (hr : ∀ r ∈ l, r.length ≤ 1000) (e : Nat) : ∀ (k i : Nat), i + e = l.length → e + 1001 < k → bitloftref16_Same.l0 k (i : Int) l l = some true := by
  induction e with
  | zero =>
    intro k i hd hk
    obtain ⟨k, rfl⟩ : ∃ q, k = q + 1 := ⟨k - 1, by omega⟩
    simp only [bitloftref16_Same.l0]
    rw [if_neg (by omega)]
  | succ e ih =>
    intro k i hd hk
    obtain ⟨k, rfl⟩ : ∃ q, k = q + 1 := ⟨k - 1, by omega⟩
    simp only [bitloftref16_Same.l0]
    rw [if_pos (by omega), if_pos (by omega), if_pos (by omega), srow (hr _ (lmem (by omega) (by omega))) (by omega), Option.bind_some, if_pos rfl, w64 (by omega), show (i : Int) + 1 = ((i + 1 : Nat) : Int) from rfl]
    exact ih k (i + 1) (by omega) (by omega)
theorem msame {l : List (List Int)} (hl : l.length ≤ 1000) (hr : ∀ r ∈ l, r.length ≤ 1000) {k : Nat} (hk : 2100 ≤ k) : bitloftref16_Same.f k l l = some true := by
  unfold bitloftref16_Same.f
  rw [if_pos rfl]
  exact same_go hl hr l.length k 0 (by omega) (by omega)
theorem great_go {l : List (List Int)} (hl : l.length ≤ 9223372036854775807) (e : Nat) : ∀ (k i : Nat), i + e = 302 → 2 * e + 4 ≤ k → ∃ b, bitloftref16_GreatRows.l0 k l (i : Int) = some b ∧ (b = false → l.length ≤ 300 ∧ ∀ r ∈ l.drop i, r.length ≤ 100) := by
  induction e with
  | zero =>
    intro k i hd hk
    obtain ⟨k, rfl⟩ : ∃ q, k = q + 1 + 1 := ⟨k - 2, by omega⟩
    simp only [bitloftref16_GreatRows.l0]
    by_cases c : (i : Int) < (l.length : Int)
    · rw [if_pos c, decide_eq_false (by omega)]
      simp only [bitloftref16_GreatRows.j1]
      rw [if_neg (by decide)]
      exact ⟨_, rfl, fun h => by have := of_decide_eq_false h; omega⟩
    · rw [if_neg c]
      simp only [bitloftref16_GreatRows.j1]
      rw [if_neg (by decide)]
      refine ⟨_, rfl, fun h => ?_⟩
      have := of_decide_eq_false h
      rw [List.drop_of_length_le (by omega)]
      exact ⟨by omega, by simp⟩
  | succ e ih =>
    intro k i hd hk
    obtain ⟨k, rfl⟩ : ∃ q, k = q + 1 + 1 := ⟨k - 2, by omega⟩
    simp only [bitloftref16_GreatRows.l0]
    by_cases c : (i : Int) < (l.length : Int)
    · rw [if_pos c]
      by_cases d : (i : Int) ≤ 300
      · rw [decide_eq_true d]
        simp only [bitloftref16_GreatRows.j1]
        rw [if_pos trivial, if_pos (by omega), if_pos c, ldrop (l := l) (i := i) (by omega)]
        by_cases g : ((rd_L1 l (i : Int)).length : Int) > 100
        · rw [if_pos g]
          exact ⟨_, rfl, by simp⟩
        · rw [if_neg g, w64 (by omega)]
          obtain ⟨b, h1, h2⟩ := ih k (i + 1) (by omega) (by omega)
          refine ⟨b, h1, fun hb => ⟨(h2 hb).1, ?_⟩⟩
          rw [List.forall_mem_cons]
          exact ⟨by omega, (h2 hb).2⟩
      · rw [decide_eq_false d]
        simp only [bitloftref16_GreatRows.j1]
        rw [if_neg (by decide)]
        exact ⟨_, rfl, fun h => by have := of_decide_eq_false h; omega⟩
    · rw [if_neg c]
      simp only [bitloftref16_GreatRows.j1]
      rw [if_neg (by decide)]
      refine ⟨_, rfl, fun h => ?_⟩
      have := of_decide_eq_false h
      rw [List.drop_of_length_le (by omega)]
      exact ⟨by omega, by simp⟩
theorem great {l : List (List Int)} (hl : l.length ≤ 9223372036854775807) {k : Nat} (hk : 700 ≤ k) : ∃ b, bitloftref16_GreatRows.f k l = some b ∧ (b = false → l.length ≤ 300 ∧ ∀ r ∈ l, r.length ≤ 100) := by
  obtain ⟨b, h1, h2⟩ := great_go hl 302 k 0 (by omega) (by omega)
  rw [List.drop_zero] at h2
  exact ⟨b, h1, h2⟩
theorem rows_wf {l : List (List Int)} (h : ∀ x_ ∈ l, (fun l_ : List Int => l_.length ≤ maxLen ∧ ∀ x_ ∈ l_, (fun n_ : Int => (Lit.int .i32 n_).wf = true) x_) x_) : ∀ r ∈ l, ∀ x ∈ r, -2147483648 ≤ x ∧ x ≤ 2147483647 := fun r hr x hx => i32_in ((h r hr).2 x hx)
theorem MixerMixes : bitloftlaw16_MixerMixes.Pure := by
  intro n w l a s p b _ _ hl hw _ hs hs2 hsw hp
  have wb := rows_wf hw
  obtain ⟨K, hK⟩ : ∃ K : Nat, K = 6000 := ⟨_, rfl⟩
  refine ⟨K, ?_⟩
  have jt : bitloftlaw16_MixerMixes.j0 K n w a s p b true l = some true := by
    obtain ⟨k, rfl⟩ : ∃ r, K = r + 1 := ⟨K - 1, by omega⟩
    simp only [bitloftlaw16_MixerMixes.j0, if_true]
  unfold bitloftlaw16_MixerMixes.f
  obtain ⟨g, g1, g2⟩ := great (l := l) (by unfold maxLen at hl; omega) (k := K) (by omega)
  rw [g1, Option.bind_some]
  cases g with
  | true => rw [if_pos rfl, jt]
  | false =>
    rw [if_neg (by decide)]
    have gl := g2 rfl
    by_cases c : (s.length : Int) > 100
    · rw [decide_eq_true c, jt]
    · rw [decide_eq_false c]
      have ll := newA_len n w
      obtain ⟨k, rfl⟩ : ∃ r, K = r + 1 := ⟨K - 1, by omega⟩
      simp only [bitloftlaw16_MixerMixes.j0]
      rw [if_neg (by decide), pnew n w (by omega), Option.bind_some, rnew n w (by omega), Option.bind_some, pmix (by omega) (by omega) wb (by omega), Option.bind_some, rmix (by omega) wb (by omega), Option.bind_some, pwrong, Option.bind_some, rwrong, Option.bind_some, msame ll.1 ll.2 (by omega), Option.bind_some, if_pos rfl, if_pos rfl, pCheck (by omega), Option.bind_some, rCheck (by omega) (by omega), Option.bind_some, if_pos rfl, if_pos rfl, if_pos rfl, if_pos rfl, if_pos rfl]
      obtain ⟨k, rfl⟩ : ∃ r, k = r + 1 := ⟨k - 1, by omega⟩
      simp only [bitloftlaw16_MixerMixes.j1, beq_self_eq_true]
end Go.Proofs.YtlpkfljihcklkaaDoor.Pure
