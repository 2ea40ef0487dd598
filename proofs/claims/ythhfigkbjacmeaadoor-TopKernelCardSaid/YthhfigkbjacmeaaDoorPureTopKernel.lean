/- The parts of the kernel agree over a string: what the law reckons is true. -/
import Derived.Test.YthhfigkbjacmeaaDoorXTopKernelx9
import Derived.OpenShut
set_option linter.unusedVariables false
set_option linter.unusedSimpArgs false
namespace Go.Proofs.YthhfigkbjacmeaaDoor.Pure
open Go.RowKit Go.Proofs.YthhfigkbjacmeaaDoor.XTopKernel Go.Proofs.YthhfigkbjacmeaaDoorW.PrintWords Go.Proofs.YthhfigkbjacmeaaDoorW.PrintLast
namespace F
theorem w32 {x : Int} (h : -2147483648 ≤ x ∧ x ≤ 2147483647) : wrap32 x = x := by unfold wrap32; omega
theorem w64 {x : Int} (h : -9223372036854775808 ≤ x ∧ x ≤ 9223372036854775807) : wrap64 x = x := by unfold wrap64; omega
/-- The exact sum of the first n products. -/
def dsum (a b : List Int) : Nat → Int
  | 0 => 0
  | n + 1 => dsum a b n + a.getD n 0 * b.getD n 0
/-- A number, kept within 32 bits. -/
def clamp (n : Int) : Int := if n < -2147483648 then -2147483648 else if n > 2147483647 then 2147483647 else n
def In32 (l : List Int) : Prop := ∀ n : Nat, -2147483648 ≤ l.getD n 0 ∧ l.getD n 0 ≤ 2147483647
theorem in32 {l : List Int} (h : ∀ x ∈ l, (Lit.int .i32 x).wf = true) : In32 l := by
  intro n
  by_cases c : n < l.length
  · have := bounds_i32 (h l[n] (List.getElem_mem c))
    simpa [List.getD_eq_getElem?_getD, c] using this
  · have : l.getD n 0 = 0 := by simp [List.getD_eq_getElem?_getD, Nat.le_of_not_lt c]
    omega
theorem prod_in {x y : Int} (hx : -2147483648 ≤ x ∧ x ≤ 2147483647) (hy : -2147483648 ≤ y ∧ y ≤ 2147483647) : -4611686018427387904 ≤ x * y ∧ x * y ≤ 4611686018427387904 := by
  by_cases c : 0 ≤ y
  · have a1 : -2147483648 * y ≤ x * y := Int.mul_le_mul_of_nonneg_right hx.1 c
    have a2 : x * y ≤ 2147483647 * y := Int.mul_le_mul_of_nonneg_right hx.2 c
    omega
  · have a1 : x * y ≤ -2147483648 * y := Int.mul_le_mul_of_nonpos_right hx.1 (by omega)
    have a2 : 2147483647 * y ≤ x * y := Int.mul_le_mul_of_nonpos_right hx.2 (by omega)
    omega
theorem dsum_in {a b : List Int} (ha : In32 a) (hb : In32 b) (n : Nat) : -4611686018427387904 * (n : Int) ≤ dsum a b n ∧ dsum a b n ≤ 4611686018427387904 * (n : Int) := by
  induction n with
  | zero => simp [dsum]
  | succ n ih =>
    have p := prod_in (ha n) (hb n)
    simp only [dsum]
    omega
theorem sat_is (n : Int) : fixed_Sat.f n = some (clamp n) := by
  unfold fixed_Sat.f mn mx clamp
  by_cases c : n < -2147483648
  · rw [if_pos c, if_pos c, if_neg (by decide)]
  · rw [if_neg c, if_neg c]
theorem dot_go {a b : List Int} (ha : In32 a) (hb : In32 b) (hl : b.length = a.length) (hm : a.length ≤ 16) (d : Nat) : ∀ (k i : Nat) (hi lo : Int), i + d = a.length → d + 2 ≤ k → 0 ≤ lo → lo < 18446744073709551616 → hi * 18446744073709551616 + lo = dsum a b i →
    fixed_Dot.l0 k b hi lo a (a.length : Int) (i : Int) = some (clamp (dsum a b a.length), 0) := by
  induction d with
  | zero =>
    intro k i hi lo hd hk l0 l1 hs
    obtain ⟨k, rfl⟩ : ∃ m, k = m + 2 := ⟨k - 2, by omega⟩
    obtain rfl : i = a.length := by omega
    have S := dsum_in ha hb a.length
    generalize dsum a b a.length = s at hs S ⊢
    simp only [fixed_Dot.l0]
    rw [if_neg (by omega)]
    have jt : fixed_Dot.j1 (k + 1) hi lo true = some (2147483647, 0) := by simp only [fixed_Dot.j1, if_true]
    have jf : (hi < 0 ∨ (hi = 0 ∧ lo ≤ 9223372036854775807)) → fixed_Dot.j1 (k + 1) hi lo false = some (clamp s, 0) := by
      intro h
      simp only [fixed_Dot.j1]
      rw [if_neg (by decide), sat_is]
      simp only [Option.bind_some]
      by_cases c1 : hi < -1
      · rw [if_pos c1]
        unfold clamp
        rw [if_pos (by omega)]
      · rw [if_neg c1]
        by_cases c2 : hi = -1
        · rw [if_pos c2]
          by_cases c3 : lo ≤ 9223372036854775807
          · rw [if_pos c3]
            unfold clamp
            rw [if_pos (by omega)]
          · rw [if_neg c3, show wrap64 lo = s from by unfold wrap64; omega]
        · rw [if_neg c2, show wrap64 lo = s from by unfold wrap64; omega]
    by_cases c : hi > 0
    · rw [if_pos c, jt]
      unfold clamp
      rw [if_neg (by omega), if_pos (by omega)]
    · rw [if_neg c]
      by_cases z : hi = 0
      · rw [if_pos z]
        by_cases y : lo > 9223372036854775807
        · rw [decide_eq_true y, jt]
          unfold clamp
          rw [if_neg (by omega), if_pos (by omega)]
        · rw [decide_eq_false y, jf (by omega)]
      · rw [if_neg z, jf (by omega)]
  | succ d ih =>
    intro k i hi lo hd hk l0 l1 hs
    obtain ⟨k, rfl⟩ : ∃ m, k = m + 1 := ⟨k - 1, by omega⟩
    have S := dsum_in ha hb i
    have p := prod_in (ha i) (hb i)
    have e1 : rd a (i : Int) = a.getD i 0 := by simp [rd]
    have e2 : rd b (i : Int) = b.getD i 0 := by simp [rd]
    simp only [fixed_Dot.l0]
    rw [if_pos (by omega), if_pos (by omega), if_pos (by omega), if_pos (by omega), e1, e2]
    have ba := ha i
    have bb := hb i
    have hd1 : dsum a b (i + 1) = dsum a b i + a.getD i 0 * b.getD i 0 := rfl
    generalize a.getD i 0 = x at *
    generalize b.getD i 0 = y at *
    rw [w64 (x := x) (by omega), w64 (x := y) (by omega), w64 (x := x * y) (by omega), w64 (x := (i : Int) + 1) (by omega)]
    generalize x * y = q at *
    have u : IntKind.u64.wrap q = q % 18446744073709551616 := by simp [IntKind.wrap, IntKind.bits, IntKind.signed]
    have r1 : bits_Add64.r1 lo (IntKind.u64.wrap q) 0 = (lo + q % 18446744073709551616) % 18446744073709551616 := by
      rw [u]; unfold bits_Add64.r1; omega
    have r2 : bits_Add64.r2 lo (IntKind.u64.wrap q) 0 = (lo + q % 18446744073709551616) / 18446744073709551616 := by
      rw [u]; unfold bits_Add64.r2; omega
    rw [r1, r2, w64 (x := hi + q / 9223372036854775808) (by omega), w64 (x := (lo + q % 18446744073709551616) / 18446744073709551616) (by omega), w64 (by omega)]
    exact ih k (i + 1) _ _ (by omega) (by omega) (by omega) (by omega) (by rw [hd1]; omega)
theorem dot_in {a b : List Int} (ha : In32 a) (hb : In32 b) (hl : a.length = b.length) (hm : a.length ≤ 16) (k : Nat) (hk : 18 ≤ k) : fixed_Dot.f k a b = some (clamp (dsum a b a.length), 0) := by
  unfold fixed_Dot.f
  have e : ¬ mx (a.length : Int) (b.length : Int) > 16 := by unfold mx; split <;> omega
  rw [if_neg e, if_pos (by omega)]
  exact dot_go ha hb hl.symm hm a.length k 0 0 0 (by omega) (by omega) (by omega) (by omega) (by simp [dsum])
theorem dot_many {a b : List Int} (h : 16 < a.length ∨ 16 < b.length) (k : Nat) : fixed_Dot.f k a b = some (0, 4) := by
  unfold fixed_Dot.f
  have e : mx (a.length : Int) (b.length : Int) > 16 := by unfold mx; split <;> omega
  rw [if_pos e]
theorem dot_arg {a b : List Int} (h : a.length ≤ 16) (h' : b.length ≤ 16) (hn : a.length ≠ b.length) (k : Nat) : fixed_Dot.f k a b = some (0, 2) := by
  unfold fixed_Dot.f
  have e : ¬ mx (a.length : Int) (b.length : Int) > 16 := by unfold mx; split <;> omega
  rw [if_neg e, if_neg (by omega)]
theorem in32_of {l : List Int} (h : ∀ x ∈ l, -2147483648 ≤ x ∧ x ≤ 2147483647) : In32 l := by
  intro n
  by_cases c : n < l.length
  · have := h l[n] (List.getElem_mem c)
    simpa [List.getD_eq_getElem?_getD, c] using this
  · have : l.getD n 0 = 0 := by simp [List.getD_eq_getElem?_getD, Nat.le_of_not_lt c]
    omega
end F
namespace Q
theorem w32 {x : Int} (h : -2147483648 ≤ x ∧ x ≤ 2147483647) : wrap32 x = x := by unfold wrap32; omega
theorem p_f (d : Int) : squash_Squash.f d = some (sq d) := by
  unfold squash_Squash.f sq
  split
  · rfl
  · split <;> rfl
theorem p_steps : ∀ i j : Fin 64, ((i.val : Int) * 64 + j.val < 4094) → sq ((i.val : Int) * 64 + j.val - 2047) ≤ sq ((i.val : Int) * 64 + j.val + 1 - 2047) ∧ sq ((i.val : Int) * 64 + j.val + 1 - 2047) ≤ sq ((i.val : Int) * 64 + j.val - 2047) + 4 := by decide +kernel
theorem p_step {d : Int} (h0 : -2047 ≤ d) (h1 : d ≤ 2046) : sq d ≤ sq (d + 1) ∧ sq (d + 1) ≤ sq d + 4 := by
  obtain ⟨n, hn⟩ : ∃ n : Nat, d + 2047 = (n : Int) := ⟨(d + 2047).toNat, by omega⟩
  have := p_steps ⟨n / 64, by omega⟩ ⟨n % 64, by omega⟩
  dsimp only at this
  rw [show ((n / 64 : Nat) : Int) * 64 + ((n % 64 : Nat) : Int) = (n : Int) from by omega, show (n : Int) - 2047 = d from by omega, show (n : Int) + 1 - 2047 = d + 1 from by omega] at this
  exact this (by omega)
theorem p_in (a : Int) (ha : -2047 ≤ a) (n : Nat) : a + n ≤ 2047 → sq a ≤ sq (a + n) := by
  induction n with
  | zero => intro _; rw [show a + ((0 : Nat) : Int) = a from by omega]; exact Int.le_refl _
  | succ n ih =>
    intro h
    have := ih (by omega)
    have s := (p_step (d := a + n) (by omega) (by omega)).1
    rw [show a + ((n + 1 : Nat) : Int) = a + n + 1 from by omega]
    exact Int.le_trans this s
theorem p_low : sq (-2047) = 1 := by decide +kernel
theorem p_top : sq 2047 = 4094 := by decide +kernel
theorem p_range {d : Int} (h0 : -2047 ≤ d) (h1 : d ≤ 2047) : 1 ≤ sq d ∧ sq d ≤ 4094 := by
  have a := p_in (-2047) (by decide) (d + 2047).toNat (by omega)
  have b := p_in d h0 (2047 - d).toNat (by omega)
  rw [show -2047 + ((d + 2047).toNat : Int) = d from by omega, p_low] at a
  rw [show d + ((2047 - d).toNat : Int) = 2047 from by omega, p_top] at b
  exact ⟨a, b⟩
theorem p_far {d : Int} (h : d > 2047) : sq d = 4095 := by unfold sq; rw [if_pos h]
theorem p_neg {d : Int} (h : d < -2047) : sq d = 0 := by unfold sq; rw [if_neg (by omega), if_pos h]
theorem p_all (d : Int) : 0 ≤ sq d ∧ sq d ≤ 4095 := by
  by_cases a : d > 2047
  · rw [p_far a]; omega
  · by_cases b : d < -2047
    · rw [p_neg b]; omega
    · have := p_range (d := d) (by omega) (by omega); omega
theorem p_mono {d e : Int} (h : d ≤ e) : sq d ≤ sq e := by
  by_cases a : e > 2047
  · rw [p_far a]; exact (p_all d).2
  · by_cases b : d < -2047
    · rw [p_neg b]; exact (p_all e).1
    · have := p_in d (by omega) (e - d).toNat (by omega)
      rwa [show d + ((e - d).toNat : Int) = e from by omega] at this
theorem p_cut (q : Nat → Bool) (n k : Nat) (hk : k ≤ n) (h0 : ∀ t, t < k → q t = true) (h1 : ∀ t, k ≤ t → t < n → q t = false) : (List.range n).countP q = k := by
  induction n with
  | zero => obtain rfl : k = 0 := by omega
            rfl
  | succ n ih =>
    rw [List.range_succ, List.countP_append]
    by_cases e : k = n + 1
    · subst e
      have : (List.range n).countP q = n := by
        rw [List.countP_eq_length.mpr (fun a ha => h0 a (by have := List.mem_range.mp ha; omega)), List.length_range]
      rw [this]
      simp [h0 n (by omega)]
    · rw [ih (by omega) (fun t a b => h1 t a (by omega))]
      simp [h1 n (by omega) (by omega)]
theorem p_le (p : Int) : lessS p ≤ 4094 := by
  have := List.countP_le_length (p := fun i : Nat => decide (sq ((i : Int) - 2047) < p)) (l := List.range 4094)
  rw [List.length_range] at this
  exact this
theorem p_imp {p q : Int} (h : p ≤ q) : lessS p ≤ lessS q := by
  unfold lessS
  exact List.countP_mono_left (fun x _ hx => decide_eq_true (by have := of_decide_eq_true hx; omega))
theorem p_ex (p : Int) (n : Nat) : ∃ k, k ≤ n ∧ (∀ t : Nat, t < k → sq ((t : Int) - 2047) < p) ∧ (∀ t : Nat, k ≤ t → t < n → p ≤ sq ((t : Int) - 2047)) := by
  induction n with
  | zero => exact ⟨0, Nat.le_refl _, fun t h => by omega, fun t _ h => by omega⟩
  | succ n ih =>
    obtain ⟨k, hk, h0, h1⟩ := ih
    by_cases c : sq ((n : Int) - 2047) < p
    · exact ⟨n + 1, Nat.le_refl _, fun t ht => Int.lt_of_le_of_lt (p_mono (by omega)) c, fun t a b => by omega⟩
    · exact ⟨k, by omega, h0, fun t a b => by
        by_cases e : t = n
        · subst e; omega
        · exact h1 t a (by omega)⟩
/-- p is at most the squashed number exactly if the stretched one is at most it. -/
theorem p_iff {p d : Int} (h0 : -2047 ≤ d) (h1 : d ≤ 2047) (hp : p ≤ 4094) : p ≤ sq d ↔ (lessS p : Int) - 2047 ≤ d := by
  obtain ⟨k, hk, a0, a1⟩ := p_ex p 4094
  have e : lessS p = k := p_cut _ 4094 k hk (fun t ht => decide_eq_true (a0 t ht)) (fun t a b => decide_eq_false (by have := a1 t a b; omega))
  rw [e]
  by_cases c : d = 2047
  · subst c; rw [p_top]; omega
  · obtain ⟨n, hn⟩ : ∃ n : Nat, d = (n : Int) - 2047 := ⟨(d + 2047).toNat, by omega⟩
    subst hn
    constructor
    · intro h
      by_cases z : n < k
      · have := a0 n z; omega
      · omega
    · intro h
      exact a1 n (by omega) (by omega)
end Q
def cn0 (s : Int) : Int := match states_Count.f s with | some (a, _, _, _) => a | none => 0
def cn1 (s : Int) : Int := match states_Count.f s with | some (_, b, _, _) => b | none => 0
def cnl (s : Int) : Int := match states_Count.f s with | some (_, _, c, _) => c | none => 0
def nx (s b : Int) : Int := match states_Next.f 30 s b with | some (t, _) => t | none => 0
def dd (s : Int) : Int := 170 * (cn1 s - cn0 s)
def tgt (b : Int) : Int := if b = 1 then 65535 else 0
/-- What is reckoned of one state and one bit. -/
def chk (s b : Int) : Bool :=
  decide (states_Count.f s = some (cn0 s, cn1 s, cnl s, 0)) && (decide (states_Next.f 30 s b = some (nx s b, 0)) && (decide (0 ≤ nx s b ∧ nx s b < 193) &&
  (decide (counts_Next.f (cn0 s) (cn1 s) (cnl s) b = some (cn0 (nx s b), cn1 (nx s b), cnl (nx s b), 0)) && (decide (fixed_Sub.f (cn1 s) (cn0 s) = some (cn1 s - cn0 s)) && (decide (fixed_Mul.f (cn1 s - cn0 s) 170 = some (dd s)) &&
  (decide (-2040 ≤ dd s ∧ dd s ≤ 2040) && (decide (30 < sq (dd s) → sq (dd s) < 4000 → -2047 ≤ dd s - 129 → sq (dd s - 129) < sq (dd s)) && (decide (fixed_Round.f 5 (65536 * dd s) 16 = some (dd s, 0)) && decide (bitlofttop_led08.j2 10 (dd s) (tgt b) (cn0 s) (cn1 s) (cnl s) = some true)))))))))
theorem chk_all : ∀ s : Fin 193, ∀ b : Fin 2, chk (s.val : Int) (b.val : Int) = true := by decide +kernel
structure Chk (s b : Int) : Prop where
  c0 : states_Count.f s = some (cn0 s, cn1 s, cnl s, 0)
  c1 : states_Next.f 30 s b = some (nx s b, 0)
  c2 : 0 ≤ nx s b ∧ nx s b < 193
  c3 : counts_Next.f (cn0 s) (cn1 s) (cnl s) b = some (cn0 (nx s b), cn1 (nx s b), cnl (nx s b), 0)
  c4 : fixed_Sub.f (cn1 s) (cn0 s) = some (cn1 s - cn0 s)
  c5 : fixed_Mul.f (cn1 s - cn0 s) 170 = some (dd s)
  c6 : -2040 ≤ dd s ∧ dd s ≤ 2040
  c7 : 30 < sq (dd s) → sq (dd s) < 4000 → -2047 ≤ dd s - 129 → sq (dd s - 129) < sq (dd s)
  c8 : fixed_Round.f 5 (65536 * dd s) 16 = some (dd s, 0)
  c9 : bitlofttop_led08.j2 10 (dd s) (tgt b) (cn0 s) (cn1 s) (cnl s) = some true
theorem chk_of (s b : Int) (hs : 0 ≤ s ∧ s < 193) (hb : b = 0 ∨ b = 1) : Chk s b := by
  have h := chk_all ⟨s.toNat, by omega⟩ ⟨b.toNat, by omega⟩
  dsimp only at h
  rw [Int.toNat_of_nonneg hs.1, Int.toNat_of_nonneg (by omega)] at h
  simp only [chk, Bool.and_eq_true, decide_eq_true_eq] at h
  obtain ⟨h0, h1, h2, h3, h4, h5, h6, h7, h8, h9⟩ := h
  exact ⟨h0, h1, h2, h3, h4, h5, h6, h7, h8, h9⟩
theorem led (s b w : Int) (hs : 0 ≤ s ∧ s < 193) (hb : b = 0 ∨ b = 1) (hw : -2147483648 ≤ w ∧ w ≤ 2147483647) (k : Nat) (hk : 40 ≤ k) :
    bitlofttop_led08.f k (cn0 s) (cn1 s) (cnl s) b w = some true := by
  obtain ⟨C0, _, _, _, C4, C5, C6, C7, C8, C9⟩ := chk_of s b hs hb
  have R := Q.p_range (d := dd s) (by omega) (by omega)
  have I1 := (Q.p_iff (p := sq (dd s)) (d := dd s) (by omega) (by omega) R.2).mp (Int.le_refl _)
  have L := Q.p_le (sq (dd s))
  have I2 := (Q.p_iff (p := sq (dd s)) (d := (lessS (sq (dd s)) : Int) - 2047) (by omega) (by omega) R.2).mpr (Int.le_refl _)
  have I3 : 30 < sq (dd s) → sq (dd s) < 4000 → ¬ (lessS (sq (dd s)) : Int) - 2047 < dd s - 128 := by
    intro h1 h2 h3
    by_cases c : -2047 ≤ dd s - 129
    · have := (Q.p_iff (p := sq (dd s)) (d := dd s - 129) c (by omega) R.2).mpr (by omega)
      have := C7 h1 h2 c
      omega
    · omega
  obtain ⟨k, rfl⟩ : ∃ m, k = m + 40 := ⟨k - 40, by omega⟩
  have J : bitlofttop_led08.j0 (k + 40) b w (dd s) ((lessS (sq (dd s)) : Int) - 2047) false (cn0 s) (cn1 s) (cnl s) = some true := by
    have hB : -2147483648 ≤ (lessS (sq (dd s)) : Int) - 2047 ∧ (lessS (sq (dd s)) : Int) - 2047 ≤ 2147483647 := by omega
    have hB2 : -2047 ≤ (lessS (sq (dd s)) : Int) - 2047 ∧ (lessS (sq (dd s)) : Int) - 2047 ≤ 2047 := by omega
    generalize (lessS (sq (dd s)) : Int) - 2047 = t at hB hB2
    have D : fixed_Dot.f (k + 39) [w, 65536, w] [t, dd s, wrap32 (-t)] = some (65536 * dd s, 0) := by
      have ha : F.In32 [w, 65536, w] := F.in32_of (by intro x hx; simp at hx; omega)
      have hb2 : F.In32 [t, dd s, wrap32 (-t)] := F.in32_of (by intro x hx; simp at hx; rcases hx with h | h | h <;> (first | omega | (subst h; unfold wrap32; omega)))
      rw [F.dot_in ha hb2 rfl (by simp) (k + 39) (by omega)]
      have e : F.dsum [w, 65536, w] [t, dd s, wrap32 (-t)] 3 = 65536 * dd s := by
        rw [F.w32 (x := -t) (by omega)]
        simp only [F.dsum, List.getD_cons_zero, List.getD_cons_succ]
        rw [Int.mul_neg]
        omega
      rw [show ([w, 65536, w] : List Int).length = 3 from rfl, e]
      unfold F.clamp
      rw [if_neg (by omega), if_neg (by omega)]
    have Rd : fixed_Round.f (k + 39) (65536 * dd s) 16 = some (dd s, 0) := at_rounds (fixed_Round.mono _ _) (show 5 ≤ k + 39 by omega) C8
    have J2 : bitlofttop_led08.j2 (k + 37) (dd s) (tgt b) (cn0 s) (cn1 s) (cnl s) = some true := at_rounds (fun k => (bitlofttop_led08.mono_l k).2.2.1 _ _ _ _ _) (show 10 ≤ k + 37 by omega) C9
    rw [show k + 40 = (k + 39) + 1 from rfl]
    simp only [bitlofttop_led08.j0]
    rw [if_neg (by decide), D, Option.bind_some, F.w64 (x := 65536 * dd s) (by omega), Rd, Option.bind_some, if_pos rfl, if_pos rfl, F.w64 (x := dd s) (by omega)]
    rw [show (dd s != dd s) = false from by simp]
    rw [show k + 39 = (k + 38) + 1 from rfl]
    simp only [bitlofttop_led08.j1]
    rw [if_neg (by decide)]
    unfold tgt at J2
    have J3 : bitlofttop_led08.j2 (k + 38) (dd s) (if b = 1 then 65535 else 0) (cn0 s) (cn1 s) (cnl s) = some true := at_rounds (fun k => (bitlofttop_led08.mono_l k).2.2.1 _ _ _ _ _) (show k + 37 ≤ k + 38 by omega) J2
    by_cases c : b = 1
    · rw [if_pos c] at J3 ⊢; exact J3
    · rw [if_neg c] at J3 ⊢; exact J3
  unfold bitlofttop_led08.f
  rw [C4, Option.bind_some, C5, Option.bind_some, Q.p_f, Option.bind_some, show squash_Stretch.f (sq (dd s)) = some ((lessS (sq (dd s)) : Int) - 2047) from rfl, Option.bind_some, if_neg (by omega), if_neg (by omega), if_neg (by omega), Q.p_f, Option.bind_some, if_neg (by omega), F.w32 (x := dd s - 128) (by omega)]
  by_cases c : (lessS (sq (dd s)) : Int) - 2047 < dd s - 128
  · rw [if_pos c]
    by_cases c2 : sq (dd s) > 30
    · rw [if_pos c2, decide_eq_false (fun h => I3 c2 h c)]; exact J
    · rw [if_neg c2]; exact J
  · rw [if_neg c]; exact J
theorem u8 {x : Int} (h : (Lit.int .u8 x).wf = true) : 0 ≤ x ∧ x < 256 := by have := bounds_u8 h; omega
theorem w64 {x : Int} (h : -9223372036854775808 ≤ x ∧ x ≤ 9223372036854775807) : wrap64 x = x := by unfold wrap64; omega
theorem w01 : wrap64 (0 + 1) = 1 := by rw [w64 (by omega)]; rfl
theorem w11 : wrap64 (1 + 1) = 2 := by rw [w64 (by omega)]; rfl
theorem wu64 {x : Int} (h : 0 ≤ x ∧ x < 18446744073709551616) : IntKind.u64.wrap x = x := by
  have : IntKind.u64.wrap x = x % 18446744073709551616 := by simp [IntKind.wrap, IntKind.bits, IntKind.signed]
  rw [this]; omega
theorem num_all : ∀ n : Fin 61, octet_Number.f 10 (n.val : Int) 2 = some ([0, (n.val : Int)], 0) := by decide +kernel
theorem string_ (l : List Int) (hl : l.length ≤ 60) (k : Nat) (hk : 10 ≤ k) : octet_String.f k l 2 = some (0 :: (l.length : Int) :: l, 0) := by
  have hN : octet_Number.f k (l.length : Int) 2 = some ([0, (l.length : Int)], 0) := at_rounds (octet_Number.mono _ _) hk (num_all ⟨l.length, by omega⟩)
  unfold octet_String.f
  rw [show octet_wide.f 2 = some 0 from rfl, Option.bind_some, if_pos rfl, if_neg (by omega), wu64 (by omega), hN, Option.bind_some, if_pos rfl, if_pos (by simp; omega)]
  rfl
theorem new_ (a : List Int) (h : a.length ≤ 100) : octet_New.f a = some (a, 0, 0) := by
  unfold octet_New.f
  rw [if_neg (by omega)]
  unfold slices_Clone_byte_byte.f
  rw [if_pos (by omega)]
  rfl
theorem check_ (a : List Int) (h : a.length ≤ 100) (i : Nat) (hi : i ≤ a.length) : octet_Check.f a (i : Int) = some 0 := by
  unfold octet_Check.f
  rw [if_neg (by omega), if_neg (by omega), if_neg (by omega)]
theorem step_ (a : List Int) (h : a.length ≤ 100) (i n : Nat) (hi : i + n ≤ a.length) : octet_step.f a (i : Int) (n : Int) = some (a, (i : Int) + (n : Int), (a.take (i + n)).drop i, 0) := by
  unfold octet_step.f
  rw [w64 (by omega), if_neg (by omega)]
  unfold slices_Clone_byte_byte.f
  rw [if_pos (by omega), Option.bind_some, if_pos (by omega), w64 (x := (i : Int) + (n : Int)) (by omega), if_pos (by omega), if_pos (by omega), show ((i : Int) + (n : Int)).toNat = i + n by omega, Int.toNat_natCast, if_pos (by simp; omega)]
  rfl
def rv (v c : Int) : Int := Go.bits .or .u64 (IntKind.u64.wrap (v * 256)) (IntKind.u64.wrap c)
theorem rv1 : ∀ x : Fin 256, rv 0 (x.val : Int) = (x.val : Int) := by decide +kernel
theorem read1 (a : List Int) (h : a.length ≤ 100) (i : Nat) (hi : i < a.length) (x : Int) (hx : rd a (i : Int) = x) (hb : 0 ≤ x ∧ x < 256) (k : Nat) (hk : 5 ≤ k) : octet_Read.f k a (i : Int) 1 255 = some (a, (i : Int) + 1, x, 0) := by
  obtain ⟨k, rfl⟩ : ∃ m, k = m + 5 := ⟨k - 5, by omega⟩
  have hs := step_ a h i 1 (by omega)
  have e : (a.take (i + 1)).drop i = [x] := by
    have hx2 : a[i]? = some x := by
      rw [List.getElem?_eq_getElem hi, ← hx]
      unfold rd
      rw [Int.toNat_natCast, List.getD_eq_getElem?_getD, List.getElem?_eq_getElem hi]
      rfl
    apply List.ext_getElem?
    intro j
    rw [List.getElem?_drop]
    by_cases c : j = 0
    · subst c
      rw [List.getElem?_take_of_lt (by omega), Nat.add_zero, hx2]
      rfl
    · rw [List.getElem?_eq_none (by simp; omega), List.getElem?_eq_none (by simp; omega)]
  rw [e] at hs
  have r := rv1 ⟨x.toNat, by omega⟩
  dsimp only at r
  rw [Int.toNat_of_nonneg hb.1] at r
  unfold octet_Read.f
  rw [check_ a h i (by omega), Option.bind_some, if_pos rfl, show octet_wide.f 1 = some 0 from rfl, Option.bind_some, if_pos rfl, show (1 : Int) = ((1 : Nat) : Int) from rfl, hs, Option.bind_some, if_pos rfl]
  show octet_Read.l0 (k + 4 + 1) 255 0 [x] 1 0 a ((i : Int) + 1) = _
  simp only [octet_Read.l0]
  rw [if_pos (by decide), if_pos (by decide), if_pos (by simp), show rd [x] 0 = x from rfl, show Go.bits .or .u64 (IntKind.u64.wrap (0 * 256)) (IntKind.u64.wrap x) = x from r, w01]
  rw [if_neg (by decide), if_neg (by omega)]
  rfl
theorem rv2 : ∀ n : Fin 61, rv (rv 0 0) (n.val : Int) = (n.val : Int) := by decide +kernel
theorem read2 (l : List Int) (hl : l.length ≤ 60) (k : Nat) (hk : 5 ≤ k) : octet_Read.f k (0 :: (l.length : Int) :: l) 0 2 60 = some (0 :: (l.length : Int) :: l, 2, (l.length : Int), 0) := by
  obtain ⟨k, rfl⟩ : ∃ m, k = m + 5 := ⟨k - 5, by omega⟩
  have h : (0 :: (l.length : Int) :: l).length ≤ 100 := by simp; omega
  have hs := step_ (0 :: (l.length : Int) :: l) h 0 2 (by simp)
  have r := rv2 ⟨l.length, by omega⟩
  dsimp only at r
  generalize hn : (l.length : Int) = n at *
  have hn2 : 0 ≤ n ∧ n ≤ 60 := by omega
  generalize ha : (0 :: n :: l) = a at *
  have e : (a.take (0 + 2)).drop 0 = [0, n] := by rw [← ha]; rfl
  rw [e] at hs
  have hC : octet_Check.f a 0 = some 0 := check_ a h 0 (by omega)
  have hs2 : octet_step.f a 0 2 = some (a, 2, [0, n], 0) := hs
  unfold octet_Read.f
  rw [hC, Option.bind_some, if_pos rfl, show octet_wide.f 2 = some 0 from rfl, Option.bind_some, if_pos rfl, hs2, Option.bind_some, if_pos rfl]
  show octet_Read.l0 (k + 4 + 1) 60 0 [0, n] 2 0 a 2 = _
  simp only [octet_Read.l0]
  rw [if_pos (by decide), if_pos (by decide), if_pos (by simp), show rd [0, n] 0 = 0 from rfl, w01]
  rw [if_pos (by decide), if_pos (by decide), if_pos (by simp), show rd [0, n] 1 = n from rfl, w11]
  rw [show Go.bits .or .u64 (IntKind.u64.wrap (Go.bits .or .u64 (IntKind.u64.wrap (0 * 256)) (IntKind.u64.wrap 0) * 256)) (IntKind.u64.wrap n) = n from r]
  rw [if_neg (by decide), if_neg (by omega)]
/-- One byte more in a hash. -/
def hs1 (h x : Int) : Int := Go.bits .xor .u32 (((Go.bits .xor .u32 h (x % 4294967296)) * 16777619) % 4294967296) ((((Go.bits .xor .u32 h (x % 4294967296)) * 16777619) % 4294967296) / 32768)
theorem hsteps (l : List Int) (hl : l.length ≤ 100) (d : Nat) : ∀ (k i : Nat) (h : Int), i + d = l.length → d < k → hashes_steps.l0 k h l (l.length : Int) (i : Int) = some ((l.drop i).foldl hs1 h) := by
  induction d with
  | zero =>
    intro k i h hi hk
    obtain ⟨k, rfl⟩ : ∃ m, k = m + 1 := ⟨k - 1, by omega⟩
    simp only [hashes_steps.l0]
    rw [if_neg (by omega), List.drop_eq_nil_of_le (by omega)]
    rfl
  | succ d ih =>
    intro k i h hi hk
    obtain ⟨k, rfl⟩ : ∃ m, k = m + 1 := ⟨k - 1, by omega⟩
    have hi2 : i < l.length := by omega
    have e : rd l (i : Int) = l[i] := by
      unfold rd
      rw [Int.toNat_natCast, List.getD_eq_getElem?_getD, List.getElem?_eq_getElem hi2]
      rfl
    simp only [hashes_steps.l0]
    rw [if_pos (by omega), if_pos (by omega), if_pos (by omega), w64 (by omega), e, show (i : Int) + 1 = ((i + 1 : Nat) : Int) from rfl, List.drop_eq_getElem_cons hi2, List.foldl_cons]
    exact ih k (i + 1) _ (by omega) (by omega)
theorem hstep_ (h x : Int) (hx : 0 ≤ x ∧ x < 256) (k : Nat) (hk : 3 ≤ k) : hashes_Step.f k h (x % 256) = some (hs1 h x) := by
  unfold hashes_Step.f hashes_steps.f
  rw [show x % 256 = x by omega]
  have := hsteps [x] (by simp) 1 k 0 h rfl (by omega)
  rw [show ((0 : Nat) : Int) = 0 from rfl] at this
  rw [this]
  rfl
def st0 (a : Int) : Int := (2654435769 * ((wrap64 (a + 1)) % 4294967296)) % 4294967296
theorem start_ (a : Int) (h : 0 ≤ a ∧ a ≤ 7) : hashes_Start.f a = some (st0 a, 0) := by
  unfold hashes_Start.f
  rw [if_neg (by omega), if_neg (by omega)]
  rfl
theorem of_ (a : Int) (h : 0 ≤ a ∧ a ≤ 7) (l : List Int) (hl : l.length ≤ 60) (k : Nat) (hk : 70 ≤ k) : hashes_Of.f k a l = some (l.foldl hs1 (st0 a), 0) := by
  unfold hashes_Of.f
  rw [start_ a h, Option.bind_some, if_pos rfl, if_neg (by omega)]
  unfold hashes_steps.f
  have := hsteps l (by omega) l.length k 0 (st0 a) (by omega) (by omega)
  rw [show ((0 : Nat) : Int) = 0 from rfl] at this
  rw [this]
  rfl
theorem same_ (l : List Int) (hl : l.length ≤ 100) (k : Nat) (hk : 110 ≤ k) : bitloftref01_Same.f k l l = some true := by
  have go : ∀ (d k i : Nat), i + d = l.length → d < k → bitloftref01_Same.l0 k l l (i : Int) = some true := by
    intro d
    induction d with
    | zero =>
      intro k i hi hk
      obtain ⟨k, rfl⟩ : ∃ m, k = m + 1 := ⟨k - 1, by omega⟩
      simp only [bitloftref01_Same.l0]
      rw [if_neg (by omega)]
    | succ d ih =>
      intro k i hi hk
      obtain ⟨k, rfl⟩ : ∃ m, k = m + 1 := ⟨k - 1, by omega⟩
      simp only [bitloftref01_Same.l0]
      rw [if_pos (by omega), if_pos (by omega), if_pos (by omega), if_pos trivial, w64 (by omega), show (i : Int) + 1 = ((i + 1 : Nat) : Int) from rfl]
      exact ih k (i + 1) (by omega) (by omega)
  unfold bitloftref01_Same.f
  rw [if_pos rfl]
  exact go l.length k 0 (by omega) (by omega)
theorem whole_ (p : List (List Int)) (hl : p.length ≤ 100) (hf : p.flatten.length ≤ 1000) (k : Nat) (hk : 110 ≤ k) : bitloftref01_Whole.f k p = some p.flatten := by
  have go : ∀ (d k i : Nat) (x : List Int), i + d = p.length → d < k → x ++ (p.drop i).flatten = p.flatten → bitloftref01_Whole.l0 k p x (i : Int) = some p.flatten := by
    intro d
    induction d with
    | zero =>
      intro k i x hi hk hx
      obtain ⟨k, rfl⟩ : ∃ m, k = m + 1 := ⟨k - 1, by omega⟩
      simp only [bitloftref01_Whole.l0]
      rw [if_neg (by omega), ← hx, List.drop_eq_nil_of_le (by omega)]
      simp
    | succ d ih =>
      intro k i x hi hk hx
      obtain ⟨k, rfl⟩ : ∃ m, k = m + 1 := ⟨k - 1, by omega⟩
      have hi2 : i < p.length := by omega
      have e : rd_L2 p (i : Int) = p[i] := by
        unfold rd_L2
        rw [Int.toNat_natCast, List.getD_eq_getElem?_getD, List.getElem?_eq_getElem hi2]
        rfl
      have hx2 : (x ++ p[i]) ++ (p.drop (i + 1)).flatten = p.flatten := by
        rw [← hx, List.drop_eq_getElem_cons hi2, List.flatten_cons, List.append_assoc]
      have hlen : (x ++ p[i]).length ≤ p.flatten.length := by
        have h5 := congrArg List.length hx2
        rw [List.length_append] at h5
        omega
      rw [List.length_append] at hlen
      simp only [bitloftref01_Whole.l0]
      rw [if_pos (by omega), if_pos (by omega), e, if_pos (by omega), w64 (by omega), show (i : Int) + 1 = ((i + 1 : Nat) : Int) from rfl]
      exact ih k (i + 1) _ (by omega) (by omega) hx2
  unfold bitloftref01_Whole.f
  exact go p.length k 0 [] (by omega) (by omega) (by simp)
def padOf (n : Int) : List Int := match sha_pad.f 100 n with | some p => p | none => []
theorem pad_all : ∀ n : Fin 61, decide (sha_pad.f 100 (n.val : Int) = some (padOf (n.val : Int))) = true ∧ (n.val + (padOf (n.val : Int)).length) % 64 = 0 ∧ (padOf (n.val : Int)).length < 200 := by decide +kernel
def digOf (l : List Int) : List Int := sha_Sum.outL (sha_Sum.words (l ++ padOf (l.length : Int)) ((l ++ padOf (l.length : Int)).length / 64)) 5
theorem dig_ (l : List Int) (hl : l.length ≤ 60) : sha_Sum.dig l = some (digOf l) := by
  obtain ⟨h0, h1, h2⟩ := pad_all ⟨l.length, by omega⟩
  dsimp only at h0 h1 h2
  have h0 := of_decide_eq_true h0
  unfold sha_Sum.dig digOf
  rw [if_pos (by omega), h0, Option.bind_some, if_pos ⟨by rw [List.length_append]; exact h1, by rw [List.length_append]; omega⟩]
theorem sum_ (l : List Int) (hl : l.length ≤ 60) (d : List Int) (hd : digOf l = d) : sha_Sum.f l = some (rd d 0, rd d 1, rd d 2, rd d 3, rd d 4, rd d 5, rd d 6, rd d 7, rd d 8, rd d 9, rd d 10, rd d 11, rd d 12, rd d 13, rd d 14, rd d 15, rd d 16, rd d 17, rd d 18, rd d 19, 0) := by
  unfold sha_Sum.f
  rw [dig_ l hl, Option.bind_some, hd]
theorem pieces_ (p : List (List Int)) (l : List Int) (hp : p.length ≤ 20) (hf : p.flatten = l) (hl : l.length ≤ 60) : sha_Pieces.f p = sha_Sum.f l := by
  unfold sha_Pieces.f slices_Concat_byte_byte.f
  rw [if_pos hp, if_pos ⟨by rw [hf]; omega, by omega⟩, hf, Option.bind_some]
theorem ends_loop (l : List Int) (hl : l.length ≤ 60) (d : List Int) (hd : digOf l = d) (n : Nat) : ∀ (k : Nat) (p : List (List Int)), n + 120 ≤ k → p.length ≤ 20 + 9 * n → p.length ≤ 80 → p.flatten = l →
    bitlofttop_ends08.l0 k p (rd d 0) (rd d 1) (rd d 2) (rd d 3) (rd d 4) (rd d 5) (rd d 6) (rd d 7) (rd d 8) (rd d 9) (rd d 10) (rd d 11) (rd d 12) (rd d 13) (rd d 14) (rd d 15) (rd d 16) (rd d 17) (rd d 18) (rd d 19) = some true := by
  induction n with
  | zero =>
    intro k p hk hp _ hf
    obtain ⟨k, rfl⟩ : ∃ m, k = m + 1 := ⟨k - 1, by omega⟩
    simp only [bitlofttop_ends08.l0]
    rw [if_neg (by omega), pieces_ p l (by omega) hf hl, sum_ l hl d hd, Option.bind_some, if_pos rfl]
    simp only [beq_self_eq_true, Bool.and_self]
  | succ n ih =>
    intro k p hk hp h80 hf
    obtain ⟨k, rfl⟩ : ∃ m, k = m + 1 := ⟨k - 1, by omega⟩
    by_cases c : p.length ≤ 20
    · simp only [bitlofttop_ends08.l0]
      rw [if_neg (by omega), pieces_ p l (by omega) hf hl, sum_ l hl d hd, Option.bind_some, if_pos rfl]
      simp only [beq_self_eq_true, Bool.and_self]
    · have e : p.take 10 ++ p.drop 10 = p := List.take_append_drop 10 p
      have e2 : (p.take 10).flatten ++ (p.drop 10).flatten = l := by rw [← List.flatten_append, e, hf]
      have hlen : (p.take 10).flatten.length ≤ 60 := by
        have h5 := congrArg List.length e2
        rw [List.length_append] at h5
        omega
      have hw := whole_ (p.take 10) (by simp; omega) (by omega) k (by omega)
      simp only [bitlofttop_ends08.l0]
      rw [if_pos (by omega), if_pos (by omega), hw, Option.bind_some, Option.bind_some, Option.bind_some, if_pos (by simp; omega)]
      exact ih k _ (by omega) (by simp; omega) (by simp; omega) (by simp only [List.flatten_append, List.flatten_cons, List.flatten_nil, List.append_nil]; exact e2)
theorem ends_ (l : List Int) (hl : l.length ≤ 60) (p : List (List Int)) (hp : p.length ≤ 60) (hf : p.flatten = l) (a : Int) (ha : 0 ≤ a ∧ a ≤ 7) (k : Nat) (hk : 200 ≤ k) : bitlofttop_ends08.f k l p a (l.foldl hs1 (st0 a)) = some true := by
  obtain ⟨d, hd⟩ : ∃ d, digOf l = d := ⟨_, rfl⟩
  unfold bitlofttop_ends08.f
  rw [sum_ l hl d hd, Option.bind_some, of_ a ha l hl k (by omega), Option.bind_some, if_pos rfl, if_pos rfl, if_pos rfl, whole_ p (by omega) (by rw [hf]; omega) k (by omega), Option.bind_some, hf, same_ l (by omega) k (by omega), Option.bind_some]
  obtain ⟨k, rfl⟩ : ∃ m, k = m + 1 := ⟨k - 1, by omega⟩
  simp only [bitlofttop_ends08.j0]
  rw [if_neg (by decide)]
  exact ends_loop l hl d hd 5 k p (by omega) (by omega) (by omega) hf
theorem alive_ (k : Nat) (hk : 60 ≤ k) : bitlofttop_alive08.f k = some true :=
  at_rounds bitlofttop_alive08.mono hk (show bitlofttop_alive08.f 60 = some true by decide +kernel)
theorem bit_all : ∀ x : Fin 256, ∀ j : Fin 8, (Go.bits .and .u64 (shr .u64 (x.val : Int) (j.val : Int)) 1) % 256 = 0 ∨ (Go.bits .and .u64 (shr .u64 (x.val : Int) (j.val : Int)) 1) % 256 = 1 := by decide +kernel
theorem bit_ (x : Int) (hx : 0 ≤ x ∧ x < 256) (j : Nat) (hj : j < 8) : (Go.bits .and .u64 (shr .u64 x (j : Int)) 1) % 256 = 0 ∨ (Go.bits .and .u64 (shr .u64 x (j : Int)) 1) % 256 = 1 := by
  have := bit_all ⟨x.toNat, by omega⟩ ⟨j, hj⟩
  dsimp only at this
  rwa [Int.toNat_of_nonneg hx.1] at this
/-- The eight bits of a byte. -/
theorem l1_ (l : List Int) (a1 w : Int) (hw : -2147483648 ≤ w ∧ w ≤ 2147483647) (h : Int) (p : List (List Int)) (i x : Int) (hx : 0 ≤ x ∧ x < 256) (al : List Int) (at_ : Int) (K : Nat) (hK : 60 ≤ K)
    (H : ∀ s : Int, 0 ≤ s ∧ s < 193 → bitlofttop_TopKernel.l0 K l a1 w h p s (wrap64 (i + 1)) al at_ (cn0 s) (cn1 s) (cnl s) = some true) :
    ∀ (d : Nat), d ≤ 8 → ∀ s : Int, 0 ≤ s ∧ s < 193 → bitlofttop_TopKernel.l1 (K + 2 * d + 1) l a1 w h p s i x ((d : Int) - 1) al at_ (cn0 s) (cn1 s) (cnl s) = some true := by
  intro d
  induction d with
  | zero =>
    intro _ s hs
    simp only [bitlofttop_TopKernel.l1]
    rw [if_neg (by omega)]
    exact H s hs
  | succ d ih =>
    intro hd s hs
    have hb := bit_ x hx d (by omega)
    have C := chk_of s _ hs hb
    have L := led s _ w hs hb hw (K + 2 * d + 2) (by omega)
    have N : states_Next.f (K + 2 * d + 2) s _ = some (nx s _, 0) := at_rounds (states_Next.mono _ _) (show 30 ≤ K + 2 * d + 2 by omega) C.c1
    rw [show K + 2 * (d + 1) + 1 = (K + 2 * d + 2) + 1 by omega, show ((d + 1 : Nat) : Int) - 1 = (d : Int) by omega]
    simp only [bitlofttop_TopKernel.l1]
    rw [if_pos (by omega), if_pos (by omega)]
    generalize (Go.bits .and .u64 (shr .u64 x (d : Int)) 1) % 256 = b at *
    rw [N, Option.bind_some, C.c3, Option.bind_some, if_pos rfl, if_pos rfl, L, Option.bind_some]
    rw [show K + 2 * d + 2 = (K + 2 * d + 1) + 1 from rfl]
    simp only [bitlofttop_TopKernel.j5]
    rw [if_neg (by decide), w64 (by omega)]
    exact ih (by omega) _ C.c2
theorem l0_ (l : List Int) (hl : l.length ≤ 60) (hb : ∀ x ∈ l, 0 ≤ x ∧ x < 256) (a1 : Int) (ha : 0 ≤ a1 ∧ a1 ≤ 7) (w : Int) (hw : -2147483648 ≤ w ∧ w ≤ 2147483647) (d : Nat) :
    ∀ (i : Nat) (s : Int), i + d = l.length → 0 ≤ s ∧ s < 193 → bitlofttop_TopKernel.l0 (300 + 20 * d) l a1 w ((l.take i).foldl hs1 (st0 a1)) ((l.take i).map fun x => [x]) s (i : Int) (0 :: (l.length : Int) :: l) ((2 + i : Nat) : Int) (cn0 s) (cn1 s) (cnl s) = some true := by
  induction d with
  | zero =>
    intro i s hi hs
    have C := chk_of s 0 hs (.inl rfl)
    have hi2 : l.take i = l := List.take_of_length_le (by omega)
    have hfl : (l.map fun x => [x]).flatten = l := by
      clear hb hl hi hi2
      induction l with
      | nil => rfl
      | cons y r ih => simp only [List.map_cons, List.flatten_cons, ih]; rfl
    have hC := check_ (0 :: (l.length : Int) :: l) (by simp; omega) (2 + i) (by simp; omega)
    rw [hi2, show 300 + 20 * 0 = 299 + 1 from rfl]
    simp only [bitlofttop_TopKernel.l0]
    rw [if_neg (by omega)]
    unfold octet_Left.f
    rw [hC, Option.bind_some, if_pos rfl, Option.bind_some, C.c0, Option.bind_some, if_pos rfl, if_pos (by rw [w64 (by simp; omega)]; simp; omega), if_pos rfl, if_pos (by simp), ends_ l hl _ (by simp; omega) hfl a1 ha 299 (by omega), Option.bind_some]
    rfl
  | succ d ih =>
    intro i s hi hs
    have hi2 : i < l.length := by omega
    have e : rd l (i : Int) = l[i] := by
      unfold rd
      rw [Int.toNat_natCast, List.getD_eq_getElem?_getD, List.getElem?_eq_getElem hi2]
      rfl
    have hx := hb l[i] (List.getElem_mem hi2)
    have e3 : rd (0 :: (l.length : Int) :: l) ((2 + i : Nat) : Int) = l[i] := by
      rw [← e]
      unfold rd
      rw [Int.toNat_natCast, Int.toNat_natCast, show 2 + i = i + 1 + 1 by omega, List.getD_cons_succ, List.getD_cons_succ]
    have ht : l.take (i + 1) = l.take i ++ [l[i]] := by rw [List.take_add_one, List.getElem?_eq_getElem hi2]; rfl
    have I := ih (i + 1)
    rw [ht, List.foldl_append, List.map_append] at I
    have hr := read1 (0 :: (l.length : Int) :: l) (by simp; omega) (2 + i) (by simp; omega) l[i] e3 hx (300 + 20 * d + 19) (by omega)
    have hst := hstep_ ((l.take i).foldl hs1 (st0 a1)) l[i] hx (300 + 20 * d + 18) (by omega)
    have hln : ((l.take i).map fun x => [x]).length ≤ 60 := by simp; omega
    generalize l[i] = x at *
    generalize (l.take i).foldl hs1 (st0 a1) = h at *
    generalize ((l.take i).map fun x => [x]) = p at *
    rw [show 300 + 20 * (d + 1) = (300 + 20 * d + 19) + 1 by omega]
    simp only [bitlofttop_TopKernel.l0]
    rw [if_pos (by omega), hr, Option.bind_some, if_pos rfl, if_pos (by omega), e, wu64 (by omega), show (x != x) = false from by simp]
    rw [show 300 + 20 * d + 19 = (300 + 20 * d + 18) + 1 from rfl]
    simp only [bitlofttop_TopKernel.j3]
    rw [if_neg (by decide), hst, Option.bind_some, Option.bind_some, if_pos (by simp; omega), show x % 256 = x by omega]
    rw [show 300 + 20 * d + 18 = (300 + 20 * d + 1) + 2 * 8 + 1 by omega]
    refine l1_ l a1 w hw _ _ (i : Int) x hx _ _ (300 + 20 * d + 1) (by omega) (fun s2 hs2 => ?_) 8 (Nat.le_refl _) s hs
    rw [w64 (by omega)]
    refine at_rounds (fun k => (bitlofttop_TopKernel.mono_l k).2.2.1 _ _ _ _ _ _ _ _ _ _ _ _) (show 300 + 20 * d ≤ 300 + 20 * d + 1 by omega) ?_
    exact I s2 (by omega) hs2
theorem TopKernel : bitlofttop_TopKernel.Pure := by
  intro l a1 w _ _ hb _ hw
  replace hw := bounds_i32 hw
  have hb2 : ∀ x ∈ l, 0 ≤ x ∧ x < 256 := fun x hx => u8 (hb x hx)
  refine ⟨300 + 20 * 60 + 2, ?_⟩
  unfold bitlofttop_TopKernel.f
  have jt : bitlofttop_TopKernel.j0 (300 + 20 * 60 + 2) l a1 w true = some true := by
    rw [show 300 + 20 * 60 + 2 = (300 + 20 * 60 + 1) + 1 from rfl]
    simp only [bitlofttop_TopKernel.j0]
    rw [if_pos trivial]
  by_cases c1 : (l.length : Int) > 60
  · rw [if_pos c1]; exact jt
  rw [if_neg c1]
  by_cases c2 : a1 < 0
  · rw [if_pos c2]; exact jt
  rw [if_neg c2]
  by_cases c3 : a1 > 7
  · rw [decide_eq_true c3]; exact jt
  rw [decide_eq_false c3]
  have hl : l.length ≤ 60 := by omega
  have ha : 0 ≤ a1 ∧ a1 ≤ 7 := by omega
  rw [show 300 + 20 * 60 + 2 = (300 + 20 * 60 + 1) + 1 from rfl]
  simp only [bitlofttop_TopKernel.j0]
  rw [if_neg (by decide), alive_ _ (by omega), Option.bind_some, if_pos rfl, string_ l hl _ (by omega), Option.bind_some, new_ _ (by simp; omega), Option.bind_some, read2 l hl _ (by omega), Option.bind_some, start_ a1 ha, Option.bind_some, if_pos rfl, if_pos rfl, if_pos rfl, if_pos rfl, wu64 (by omega), show (((l.length : Int)) != (l.length : Int)) = false from by simp]
  simp only [bitlofttop_TopKernel.j1]
  rw [if_neg (by decide)]
  have h := l0_ l hl hb2 a1 ha w hw l.length 0 0 (by omega) (by omega)
  have h2 := at_rounds (fun k => (bitlofttop_TopKernel.mono_l k).2.2.1 _ _ _ _ _ _ _ _ _ _ _ _) (show 300 + 20 * l.length ≤ 300 + 20 * 60 by omega) h
  exact h2
end Go.Proofs.YthhfigkbjacmeaaDoor.Pure
