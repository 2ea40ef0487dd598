-- Laid by a program of this session (wip/mkxprint.py, over the kit's print): Lean checks it.
import Derived.Test.YtaomhenneenaaaaRows
import Derived.Test.YtaomhenneenaaaaXSlotsFoundx7
import Derived.Test.YtaomhenneenaaaaPureSlotsFound
import Derived.WalkKit
import Derived.ProofKit
import Derived.OpenShut
import Derived.ShutString
import Derived.ChangeOld
import Derived.Below
import Derived.SizedLaws
import Derived.Lib.SmallJoins
import Derived.Test.YtaomhenneenaaaaSlim
namespace Go.Proofs.Ytaomhenneenaaaa.slotsFound
open Go.ChangeShapes Go.WideShapes Go.ChangeAt Go.RowKit Go.Proofs.Ytaomhenneenaaaa.XSlotsFound Go.Proofs.YtaomhenneenaaaaW.PrintWords Go.Proofs.YtaomhenneenaaaaW.PrintLast
open Go.ChangeMaps (open_string shut_string)
set_option linter.unusedVariables false
set_option linter.unusedSimpArgs false
theorem own : ownKnob Try.prog.godebug = none := by kernel_rfl
theorem laidOut : laidOutB Try.prog = true := by kernel_rfl
/-- A slice of whole numbers that came in, opened. -/
theorem field_ints_ {H : Type} {enc : TypeId × Value → H} {P : Program} {w : World} {t e : TypeId} {k : IntKind} {fuel : Nat} {v : Value} {x : DataW H × List MemPlace} (ht : P.underlying t = some (.slice e)) (he : P.underlying e = some (.int k)) (hc : P.cellsOf e = 1)
    (h : DataW.trod enc P w 0 (fun _ => true) true fuel t [v] = some x) :
    ∃ (A : Option Addr) (c : Nat) (l : List Int), v = .slice A l.length c ∧ Kd.C (Kd.int k) w A l.length l ∧ l.length ≤ c ∧ l.length ≤ maxLen ∧ ∀ x ∈ l, (Lit.int k x).wf = true := by
  have key : ∃ (a : Option Addr) (len cap : Nat) (zs : List Int), v = .slice a len cap ∧ ((a = none ∧ len = 0 ∧ cap = 0 ∧ zs = []) ∨ ∃ x, a = some x ∧ len ≤ cap ∧ cap ≤ maxLen ∧ zs.length = cap ∧ (∀ i, i < zs.length → w.cell? (x.add i) = some (.int k (zs.getD i 0))) ∧ ∀ n ∈ zs, (Lit.int k n).wf = true) := by
    rcases Go.ChangeShapes.open_ints ht he hc h with ⟨hcs, _⟩ | ⟨a, len, cap, zs, hcs, _, hl, hm, hz, _, hcell, hwz⟩
    · exact ⟨none, 0, 0, [], List.head_eq_of_cons_eq hcs, .inl ⟨rfl, rfl, rfl, rfl⟩⟩
    · exact ⟨some a, len, cap, zs, List.head_eq_of_cons_eq hcs, .inr ⟨a, rfl, hl, hm, by simpa using hz, hcell, hwz⟩⟩
  obtain ⟨a, len, cap, zs, rfl, hrow⟩ := key
  obtain ⟨l, rfl, hr, hm, hw, hcap⟩ := ReadsInt.ofRowC hrow
  exact ⟨a, cap, l, rfl, Kd.C_of_reads (d := (0 : Int)) (h1 := fun _ => rfl) hr, hcap, hm, hw⟩

/-- What is read as data of type t is of kind d. -/
def Opens_ {α : Type} (P : Program) (t : TypeId) (d : Kd α) (wf : α → Prop) : Prop :=
  ∀ {H : Type} {enc : TypeId × Value → H} {w : World} {sp : Nat → Bool} {held : Bool} {fuel : Nat} {cs : List Value} {x : DataW H × List MemPlace}, DataW.trod enc P w 0 sp held fuel t cs = some x → ∃ a, d.K w a cs ∧ wf a
theorem opens_int_ {P : Program} {t : TypeId} {k : IntKind} (ht : P.underlying t = some (.int k)) : Opens_ P t (Kd.int k) (fun n => (Lit.int k n).wf = true) := fun h => by
  obtain ⟨n, rfl, _, hw⟩ := DataW.trod_int ht h
  exact ⟨n, rfl, hw⟩
theorem opens_bool_ {P : Program} {t : TypeId} (ht : P.underlying t = some .bool) : Opens_ P t Kd.bool (fun _ => True) := fun h => by
  obtain ⟨n, rfl, _⟩ := DataW.trod_bool ht h
  exact ⟨n, rfl, trivial⟩
theorem list_of_ {α : Type} (n : Nat) (Q : Nat → α → Prop) (h : ∀ i, i < n → ∃ a, Q i a) : ∃ l : List α, l.length = n ∧ ∀ i a, l[i]? = some a → Q i a := by
  induction n with
  | zero => exact ⟨[], rfl, fun i a h => by simp at h⟩
  | succ n ih =>
    obtain ⟨l, hl, hq⟩ := ih (fun i hi => h i (by omega))
    obtain ⟨a, ha⟩ := h n (by omega)
    refine ⟨l ++ [a], by simp [hl], fun i b hb => ?_⟩
    rcases Nat.lt_or_ge i l.length with hi | hi
    · rw [List.getElem?_append_left hi] at hb; exact hq i b hb
    · rw [List.getElem?_append_right hi] at hb
      have z : i - l.length = 0 := by
        rcases Nat.eq_zero_or_pos (i - l.length) with z | z
        · exact z
        · rw [List.getElem?_eq_none (by simp; omega)] at hb; cases hb
      rw [z] at hb
      simp at hb
      subst hb
      obtain rfl : i = n := by omega
      exact ha
theorem opens_slice_ {α : Type} {P : Program} {t e : TypeId} {d : Kd α} {wf : α → Prop} (ht : P.underlying t = some (.slice e)) (hc : P.cellsOf e = d.sz) (ho : Opens_ P e d wf) (E : Nat) : Opens_ P t (Kd.slice E d) (fun l => l.length ≤ maxLen ∧ ∀ x ∈ l, wf x) := fun {H enc w sp held fuel cs x} h => by
  rcases DataW.trod_slice ht h with ⟨rfl, _⟩ | ⟨a, len, cap, elems, rest, n, rfl, rfl, _, _, hlc, hm, hel, hat, _, _⟩
  · exact ⟨[], ⟨none, 0, rfl, Nat.le_refl _, ⟨rfl, by simp, fun h => absurd h (by simp)⟩⟩, by simp, fun x hx => by simp at hx⟩
  · have each : ∀ i, i < len → ∃ x, (∃ c, w.cells? 0 (a.add (i * d.sz)) d.sz = some c ∧ d.K w x c) ∧ wf x := fun i hi => by
      have h1 := hat i hi
      rw [hc, List.getElem?_eq_getElem (by omega)] at h1
      obtain ⟨c, h2, h3⟩ := Option.bind_eq_some_iff.1 h1
      obtain ⟨x, h4, h5⟩ := ho h3
      exact ⟨x, ⟨c, h2, h4⟩, h5⟩
    obtain ⟨l, hl, hq⟩ := list_of_ len _ each
    have hm' : l.length ≤ maxLen := by omega
    refine ⟨l, ⟨some a, cap, by rw [hl], by omega, ⟨rfl, by unfold maxLen at hm'; omega, fun _ => ⟨a, rfl, fun j p hp => ?_⟩⟩⟩, hm', fun x hx => ?_⟩
    · obtain ⟨⟨c, h1, h2⟩, _⟩ := hq j p hp
      refine ⟨c, d.K_len h2, h2, fun i u hu => ?_⟩
      have h3 := (World.cells?_some h1).2.2
      have hi : i < d.sz := by rw [← d.K_len h2]; exact (List.getElem?_eq_some_iff.1 hu).1
      have h4 := h3 i hi
      rw [add_add] at h4
      rw [h4, hu]
    · obtain ⟨i, hi, rfl⟩ := List.getElem_of_mem hx
      exact (hq i _ (List.getElem?_eq_getElem hi)).2
/-- An array of whole numbers. -/
theorem opens_arr_ {P : Program} {t e : TypeId} {k : IntKind} {n : Nat} (ht : P.underlying t = some (.array n e)) (he : P.underlying e = some (.int k)) (hc : P.cellsOf e = 1) (hn : P.cellsOf t = n) {H : Type} {enc : TypeId × Value → H} {w : World} {sp : Nat → Bool} {held : Bool} {fuel : Nat} {cs : List Value} {x : DataW H × List MemPlace}
    (h : DataW.trod enc P w 0 sp held fuel t cs = some x) : ∃ l : List Int, l.length = n ∧ cs = l.map (fun y => .int k y) ∧ ∀ y ∈ l, (Lit.int k y).wf = true := by
  obtain ⟨ys, m, rfl, hx, hl, hy, hel⟩ := DataW.trod_array ht h
  have each : ∀ i, i < n → ∃ y : Int, cs[i]? = some (.int k y) ∧ (Lit.int k y).wf = true := fun i hi => by
    have h1 := hel i hi
    rw [hc, Nat.mul_one, List.getElem?_eq_getElem (by omega)] at h1
    obtain ⟨q, h2, _, h4⟩ := DataW.trod_int he h1
    refine ⟨q, ?_, h4⟩
    have := congrArg (fun l : List Value => l[0]?) h2
    simpa [List.getElem?_take, List.getElem?_drop] using this
  obtain ⟨l, hl2, hq⟩ := list_of_ n _ each
  refine ⟨l, hl2, ?_, fun y hy => ?_⟩
  · apply List.ext_getElem?
    intro i
    rw [List.getElem?_map]
    rcases Nat.lt_or_ge i n with hi | hi
    · rw [List.getElem?_eq_getElem (show i < l.length by omega), Option.map_some]
      exact (hq i _ (List.getElem?_eq_getElem (by omega))).1
    · rw [List.getElem?_eq_none (by omega), List.getElem?_eq_none (by omega)]; rfl
  · obtain ⟨i, hi, rfl⟩ := List.getElem_of_mem hy
    exact (hq i _ (List.getElem?_eq_getElem hi)).2

theorem opens40 : Opens_ Try.prog 40 k40 wf40 := fun h => by
  obtain ⟨l, hl, rfl, hw⟩ := opens_arr_ Try.underlying40 Try.underlying5 (by kernel_rfl) (by kernel_rfl) h
  match l, hl with
  | [x0, x1, x2, x3, x4, x5, x6, x7, x8, x9, x10, x11, x12, x13, x14], _ => exact ⟨⟨x0, x1, x2, x3, x4, x5, x6, x7, x8, x9, x10, x11, x12, x13, x14⟩, k40_mk _ _, by simpa [wf40] using hw⟩
theorem opens42 : Opens_ Try.prog 42 k42 wf42 := fun {H enc w sp held fuel cs x} h => by
  obtain ⟨xs, m, rfl, _, hl, hn, hf⟩ := DataW.trod_struct Try.underlying42 h
  have hl : cs.length = 16 := hl.trans (by kernel_rfl)
  have hn : xs.length = 2 := hn
  have h0 := hf 0 _ rfl
  rw [List.getElem?_eq_getElem (by omega)] at h0
  obtain ⟨a0, K0, W0⟩ := (opens_int_ Try.underlying5) h0
  replace K0 : (Kd.int .u8).K w a0 ((cs.drop 0).take 1) := K0
  have h1 := hf 1 _ rfl
  rw [List.getElem?_eq_getElem (by omega)] at h1
  obtain ⟨a1, K1, W1⟩ := opens40 h1
  replace K1 : k40.K w a1 ((cs.drop 1).take 15) := K1
  exact ⟨⟨a0, a1⟩, ⟨cs.take 1, (cs.drop 1), (List.take_append_drop _ _).symm, (by rw [List.drop_zero] at K0; exact K0), (by have e_ : (cs.drop 1).take 15 = (cs.drop 1) := List.take_of_length_le (by rw [List.length_drop]; omega); rw [e_] at K1; exact K1)⟩, ⟨W0, W1⟩⟩
set_option maxRecDepth 100000 in
set_option maxHeartbeats 1000000 in
theorem lifted (os : Os) (started : os.Started) (H : Type) (enc : TypeId × Value → H) :
    ReturnsInHanded {} Try.checked os 6 .any (Rows.slotsFoundSpec.pre6 enc Try.prog Try.f6 Rows.slotsFoundRow.domain false) (Rows.slotsFoundSpec.post enc Try.prog Try.f6 false true false false) := by
  refine returnsInHanded_of_change_sized (C := Try.checked) own started (by kernel_rfl) Try.func6
    (ChangeSpec.witness6 (enc := enc) (C := Try.checked) false ⟨#[], #[.agg #[.int .i64 0, .slice none 0 0], .int .u32 0], []⟩ 8 (by kernel_rfl) (by kernel_rfl) (by kernel_rfl) (by kernel_rfl)) ?_
  intro W base args ds gs before hval0 hW hcnd hsz0 _
  have hsz : (DataW.weightsEach Try.prog (Try.f6.params.toList ++ Rows.slotsFoundSpec.plain.varTypes Try.prog) (ds ++ gs)).all (· ≤ reachBytes) = true := hsz0
  have hval : ∀ (j : Nat) t v, Try.f6.params[j]? = some t → args[j]? = some v → Value.okWide Try.prog W .any base t v := hval0
  have hW' := hW
  obtain ⟨p, q, hA0, hV, rfl, hfz, hnd⟩ := hW
  have hA : DataW.TrodAll enc Try.prog W 0 (fun _ => true) true Try.f6.params.toList args.toList ds p := hA0
  rw [Try.params6] at hA hval hsz
  obtain ⟨v0, vs0, d0, ds0, p0, q0, hargs, rfl, rfl, h0, r0⟩ := trodAll_cons hA
  obtain ⟨v1, vs1, d1, ds1, p1, q1, rfl, rfl, rfl, h1, r1⟩ := trodAll_cons r0
  obtain ⟨rfl, rfl, rfl⟩ := trodAll_nil r1
  obtain rfl : args = #[v0, v1] := by cases args; simp_all
  obtain ⟨rfl, rfl⟩ := trodVars_none hV
  have k0 := h0
  have lt0 : ∀ x ∈ p0, x.block < W.heap.size := by obtain ⟨m, hm⟩ := k0; exact DataW.trod_lt m _ _ _ hm
  obtain ⟨g0_0, g0_1, j0_0, j0_1, n0, rfl, rfl, rfl, hy0_0, hy0_1⟩ := Joins.open_agg2 Try.underlying24 (by kernel_rfl) (by kernel_rfl) (hval 0 24 v0 rfl rfl) h0
  obtain ⟨a0_0, e0_0, o0_0, w0_0⟩ := DataW.trod_int Try.underlying3 hy0_0
  obtain rfl : g0_0 = .int .i64 a0_0 := List.head_eq_of_cons_eq e0_0
  obtain ⟨l0_1, ⟨A0_1, c0_1, e0_1, hc0_1, hr0_1⟩, m0_1, w0_1⟩ := (opens_slice_ Try.underlying22 (by kernel_rfl) opens42 42) hy0_1
  obtain rfl : g0_1 = _ := List.head_eq_of_cons_eq e0_1
  obtain ⟨a1, rfl, rfl, rfl, w1⟩ := open_int Try.underlying25 (hval 1 25 v1 rfl rfl) h1
  clear hA0 hval0 hsz0 hsz
  obtain ⟨k, hk⟩ := Pure.SlotsFound a0_0 l0_1 a1 w0_0 m0_1 w0_1 w1
  refine (bitloftlaw11_SlotsFound.calls k a0_0 _ _ l0_1 a1 true W hr0_1 hc0_1 rfl hk).mono fun e W' ⟨he, bel0⟩ => ?_
  have bel := bel0
  subst he
  exact ⟨_, rfl, _, _, _, [], _, [], hW', trodAll_mk1 (shut_bool Try.underlying4 _), (trodAll_cons_mk (Below.trod laidOut (by kernel_rfl) (of_decide_eq_true (by kernel_rfl)) k0 bel lt0) (trodAll_cons_mk (shut_int Try.underlying25 w1) trodAll_mk0)), rfl, bel.frame _, fun h => by cases h⟩
theorem over : Rows.slotsFoundRow.holds Try.pinned (OpenSpec.ofChange Rows.slotsFoundSpec) :=
  OpenClaim.holds_of_wide 6 Try.f6 rfl rfl rfl rfl rfl rfl rfl ⟨rfl, rfl, rfl, rfl, rfl⟩ rfl rfl rfl rfl rfl (by kernel_rfl) Try.func6 (by kernel_rfl)
    (of_decide_eq_true (by kernel_rfl)) (by unfold Func.isWrapper; first | (rw [if_pos (by decide +kernel)]; kernel_rfl) | (rw [if_neg (by decide +kernel)]; exact ⟨rfl, rfl⟩))
    (fun os started H enc _ => lifted os started H enc)
theorem proved : Rows.SlotsFoundSaid := over
#print axioms proved
end Go.Proofs.Ytaomhenneenaaaa.slotsFound
namespace Go.Proofs.Ytaomhenneenaaaa
/-- The row, under a short name, for the claim. -/
theorem slotsFound_holds : Rows.SlotsFoundSaid := slotsFound.proved
end Go.Proofs.Ytaomhenneenaaaa
