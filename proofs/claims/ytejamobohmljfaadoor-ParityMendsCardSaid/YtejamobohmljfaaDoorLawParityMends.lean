-- Laid by a program of this session (wip/mkxprint.py, over the kit's print): Lean checks it.
import Derived.Test.YtejamobohmljfaaDoorRows
import Derived.Test.YtejamobohmljfaaDoorTie
import Derived.Test.YtejamobohmljfaaDoorCards
import Derived.SevenTiedAt
import Derived.LaidMore
import Derived.Lay
import Derived.Test.YtejamobohmljfaaDoorXParityMendsx8
import Derived.Test.YtejamobohmljfaaDoorPureParityMends
import Derived.WalkKit
import Derived.ProofKit
import Derived.OpenShut
import Derived.ShutString
import Derived.ChangeOld
import Derived.Below
import Derived.SizedLaws
import Derived.Lib.SmallJoins
import Derived.Test.YtejamobohmljfaaDoorWSized
namespace Go.Proofs.YtejamobohmljfaaDoor.parityMends
open Go.ChangeShapes Go.WideShapes Go.ChangeAt Go.RowKit Go.Proofs.YtejamobohmljfaaDoor.XParityMends Go.Proofs.YtejamobohmljfaaDoorW.PrintWords Go.Proofs.YtejamobohmljfaaDoorW.PrintLast
open Go.ChangeMaps (open_string shut_string)
set_option linter.unusedVariables false
set_option linter.unusedSimpArgs false
theorem own : ownKnob Tryd.prog.godebug = none := by kernel_rfl
open Go.Proofs.YtejamobohmljfaaDoor.XParityMends Go.Proofs.YtejamobohmljfaaDoorW.PrintWords Go.Proofs.YtejamobohmljfaaDoorW.PrintLast
/-- A table of whole numbers that reads as the datum: its cells. -/
theorem ints_of_trod_ {H : Type} {enc : TypeId × Value → H} {P : Program} {w : World} {base : Nat} {sp : Nat → Bool} {held : Bool} {fuel : Nat} {t e : TypeId} {k : IntKind} {n : Nat} {cs : List Value} {xs : List Int} {p : List MemPlace}
    (ht : P.underlying t = some (.array n e)) (he : P.underlying e = some (.int k)) (hc : P.cellsOf e = 1)
    (h : DataW.trod enc P w base sp held fuel t cs = some (.agg (xs.map fun x => .lit (.int k x)), p)) : ∀ i : Nat, i < n → cs[i]? = some (.int k (xs.getD i 0)) := by
  obtain ⟨ys, m, rfl, hx, hl, hn, hel⟩ := DataW.trod_array ht h
  intro i hi
  simp only [Prod.mk.injEq, DataW.agg.injEq] at hx
  have h1 := hel i hi
  rw [hc, Nat.mul_one] at h1
  have hyi : i < ys.length := by omega
  rw [List.getElem?_eq_getElem hyi] at h1
  obtain ⟨q, h2, h3, _⟩ := DataW.trod_int he h1
  have e1 := congrArg (fun l => l[i]?) hx.1
  simp only [List.getElem?_map, List.getElem?_eq_getElem hyi, Option.map_some, h3] at e1
  have h4 : cs[i]? = some (.int k q) := by
    have := congrArg (fun l : List Value => l[0]?) h2
    simpa [List.getElem?_take, List.getElem?_drop] using this
  rw [h4]
  cases hq : xs[i]? with
  | none => rw [hq] at e1; simp at e1
  | some z => rw [hq] at e1; simp at e1; rw [List.getD_eq_getElem?_getD, hq, e1]; rfl

theorem laidOut : laidOutB Tryd.prog = true := by kernel_rfl
/-- A slice of whole numbers that came in, opened. -/
theorem field_ints_ {H : Type} {enc : TypeId × Value → H} {P : Program} {w : World} {t e : TypeId} {k : IntKind} {fuel : Nat} {v : Value} {x : DataW H × List MemPlace} (ht : P.underlying t = some (.slice e)) (he : P.underlying e = some (.int k)) (hc : P.cellsOf e = 1)
    (h : DataW.trod enc P w 0 (fun _ => true) true fuel t [v] = some x) :
    ∃ (A : Option Addr) (c : Nat) (l : List Int), v = .slice A l.length c ∧ Kd.C (Kd.int k) w A l.length l ∧ l.length ≤ c ∧ l.length ≤ maxLen ∧ ∀ x ∈ l, (Lit.int k x).wf = true := by
  have key : ∃ (a : Option Addr) (len cap : Nat) (zs : List Int), v = .slice a len cap ∧ ((a = none ∧ len = 0 ∧ cap = 0 ∧ zs = []) ∨ ∃ x, a = some x ∧ len ≤ cap ∧ cap ≤ maxLen ∧ zs.length = cap ∧ (∀ i, i < zs.length → w.cell? (x.add i) = some (.int k (zs.getD i 0))) ∧ ∀ n ∈ zs, (Lit.int k n).wf = true) := by
    rcases Go.ChangeShapes.open_ints ht he hc h with ⟨hcs, _⟩ | ⟨a, len, cap, zs, hcs, _, hl, hm, hz, _, hcell, hwz⟩
    · exact ⟨none, 0, 0, [], List.head_eq_of_cons_eq hcs, .inl ⟨rfl, rfl, rfl, rfl⟩⟩
    · exact ⟨some a, len, cap, zs, List.head_eq_of_cons_eq hcs, .inr ⟨a, rfl, hl, hm, by simpa using hz, hcell, hwz⟩⟩
  obtain ⟨a, len, cap, zs, rfl, hrow⟩ := key
  obtain ⟨l, rfl, hr, hm, hw, hcap⟩ := ReadsInt.ofRowC hrow
  exact ⟨a, cap, l, rfl, Kd.C_of_reads (d := (0 : Int)) (h1 := fun _ => rfl) hr, hcap, hm, hw⟩

/-- What is read as data of type t is of kind d. -/
def Opens_ {α : Type} (P : Program) (t : TypeId) (d : Kd α) (wf : α → Prop) : Prop :=
  ∀ {H : Type} {enc : TypeId × Value → H} {w : World} {sp : Nat → Bool} {held : Bool} {fuel : Nat} {cs : List Value} {x : DataW H × List MemPlace}, DataW.trod enc P w 0 sp held fuel t cs = some x → ∃ a, d.K w a cs ∧ wf a
theorem opens_int_ {P : Program} {t : TypeId} {k : IntKind} (ht : P.underlying t = some (.int k)) : Opens_ P t (Kd.int k) (fun n => (Lit.int k n).wf = true) := fun h => by
  obtain ⟨n, rfl, _, hw⟩ := DataW.trod_int ht h
  exact ⟨n, rfl, hw⟩
theorem opens_bool_ {P : Program} {t : TypeId} (ht : P.underlying t = some .bool) : Opens_ P t Kd.bool (fun _ => True) := fun h => by
  obtain ⟨n, rfl, _⟩ := DataW.trod_bool ht h
  exact ⟨n, rfl, trivial⟩
theorem list_of_ {α : Type} (n : Nat) (Q : Nat → α → Prop) (h : ∀ i, i < n → ∃ a, Q i a) : ∃ l : List α, l.length = n ∧ ∀ i a, l[i]? = some a → Q i a := by
  induction n with
  | zero => exact ⟨[], rfl, fun i a h => by simp at h⟩
  | succ n ih =>
    obtain ⟨l, hl, hq⟩ := ih (fun i hi => h i (by omega))
    obtain ⟨a, ha⟩ := h n (by omega)
    refine ⟨l ++ [a], by simp [hl], fun i b hb => ?_⟩
    rcases Nat.lt_or_ge i l.length with hi | hi
    · rw [List.getElem?_append_left hi] at hb; exact hq i b hb
    · rw [List.getElem?_append_right hi] at hb
      have z : i - l.length = 0 := by
        rcases Nat.eq_zero_or_pos (i - l.length) with z | z
        · exact z
        · rw [List.getElem?_eq_none (by simp; omega)] at hb; cases hb
      rw [z] at hb
      simp at hb
      subst hb
      obtain rfl : i = n := by omega
      exact ha
theorem opens_slice_ {α : Type} {P : Program} {t e : TypeId} {d : Kd α} {wf : α → Prop} (ht : P.underlying t = some (.slice e)) (hc : P.cellsOf e = d.sz) (ho : Opens_ P e d wf) (E : Nat) : Opens_ P t (Kd.slice E d) (fun l => l.length ≤ maxLen ∧ ∀ x ∈ l, wf x) := fun {H enc w sp held fuel cs x} h => by
  rcases DataW.trod_slice ht h with ⟨rfl, _⟩ | ⟨a, len, cap, elems, rest, n, rfl, rfl, _, _, hlc, hm, hel, hat, _, _⟩
  · exact ⟨[], ⟨none, 0, rfl, Nat.le_refl _, ⟨rfl, by simp, fun h => absurd h (by simp)⟩⟩, by simp, fun x hx => by simp at hx⟩
  · have each : ∀ i, i < len → ∃ x, (∃ c, w.cells? 0 (a.add (i * d.sz)) d.sz = some c ∧ d.K w x c) ∧ wf x := fun i hi => by
      have h1 := hat i hi
      rw [hc, List.getElem?_eq_getElem (by omega)] at h1
      obtain ⟨c, h2, h3⟩ := Option.bind_eq_some_iff.1 h1
      obtain ⟨x, h4, h5⟩ := ho h3
      exact ⟨x, ⟨c, h2, h4⟩, h5⟩
    obtain ⟨l, hl, hq⟩ := list_of_ len _ each
    have hm' : l.length ≤ maxLen := by omega
    refine ⟨l, ⟨some a, cap, by rw [hl], by omega, ⟨rfl, by unfold maxLen at hm'; omega, fun _ => ⟨a, rfl, fun j p hp => ?_⟩⟩⟩, hm', fun x hx => ?_⟩
    · obtain ⟨⟨c, h1, h2⟩, _⟩ := hq j p hp
      refine ⟨c, d.K_len h2, h2, fun i u hu => ?_⟩
      have h3 := (World.cells?_some h1).2.2
      have hi : i < d.sz := by rw [← d.K_len h2]; exact (List.getElem?_eq_some_iff.1 hu).1
      have h4 := h3 i hi
      rw [add_add] at h4
      rw [h4, hu]
    · obtain ⟨i, hi, rfl⟩ := List.getElem_of_mem hx
      exact (hq i _ (List.getElem?_eq_getElem hi)).2
/-- What is read as data of type t is of kind d, and of a size that the datum's weights allow. -/
def OpensZ_ {α : Type} (P : Program) (t : TypeId) (d : Kd α) (wf sz : α → Prop) : Prop :=
  ∀ {H : Type} {enc : TypeId × Value → H} {w : World} {sp : Nat → Bool} {held : Bool} {fuel : Nat} {cs : List Value} {x : DataW H × List MemPlace}, DataW.trod enc P w 0 sp held fuel t cs = some x → ∃ a, d.K w a cs ∧ wf a ∧ ((∀ n ∈ DataW.weights P t x.1, n ≤ reachBytes) → sz a)
theorem openz_int_ {P : Program} {t : TypeId} {k : IntKind} (ht : P.underlying t = some (.int k)) : OpensZ_ P t (Kd.int k) (fun n => (Lit.int k n).wf = true) (fun _ => True) := fun h => by
  obtain ⟨n, rfl, _, hw⟩ := DataW.trod_int ht h
  exact ⟨n, rfl, hw, fun _ => trivial⟩
theorem all_mem_ {H : Type} {P : Program} {e : TypeId} : ∀ {ds : List (DataW H)} {i : Nat} {d : DataW H}, ds[i]? = some d → ∀ n ∈ DataW.weights P e d, n ∈ DataW.weightsAll P e ds
  | d0 :: ds, 0, d, hd, n, hn => by
    simp only [List.getElem?_cons_zero, Option.some.injEq] at hd
    subst hd
    simp only [DataW.weightsAll, List.mem_append]
    exact Or.inl hn
  | d0 :: ds, i + 1, d, hd, n, hn => by
    simp only [List.getElem?_cons_succ] at hd
    simp only [DataW.weightsAll, List.mem_append]
    exact Or.inr (all_mem_ hd n hn)
  | [], _, _, hd, _, _ => by simp at hd
theorem openz_slice_ {α : Type} {P : Program} {t e : TypeId} {d : Kd α} {wf sz : α → Prop} (ht : P.underlying t = some (.slice e)) (hc : P.cellsOf e = d.sz) (ho : OpensZ_ P e d wf sz) (E : Nat) : OpensZ_ P t (Kd.slice E d) (fun l => l.length ≤ maxLen ∧ ∀ x ∈ l, wf x) (fun l => l.length * P.bytesOf e ≤ reachBytes ∧ ∀ x ∈ l, sz x) := fun {H enc w sp held fuel cs x} h => by
  rcases DataW.trod_slice ht h with ⟨rfl, _⟩ | ⟨a, len, cap, elems, rest, n, rfl, rfl, hx, _, hlc, hm, hel, hat, _, _⟩
  · exact ⟨[], ⟨none, 0, rfl, Nat.le_refl _, ⟨rfl, by simp, fun h => absurd h (by simp)⟩⟩, ⟨by simp, fun x hx => by simp at hx⟩, fun _ => ⟨by simp, fun x hx => by simp at hx⟩⟩
  · have each : ∀ i, i < len → ∃ y, ((∃ c, w.cells? 0 (a.add (i * d.sz)) d.sz = some c ∧ d.K w y c) ∧ wf y) ∧ ((∀ n ∈ DataW.weights P t x.1, n ≤ reachBytes) → sz y) := fun i hi => by
      have h1 := hat i hi
      rw [hc, List.getElem?_eq_getElem (by omega)] at h1
      obtain ⟨c, h2, h3⟩ := Option.bind_eq_some_iff.1 h1
      obtain ⟨y, h4, h5, h6⟩ := ho h3
      refine ⟨y, ⟨⟨c, h2, h4⟩, h5⟩, fun hz => h6 (fun m hm => hz m ?_)⟩
      rw [hx]
      simp only [DataW.weights, ht, List.mem_cons, List.mem_append]
      refine Or.inr (Or.inl (all_mem_ (i := i) (d := elems[i].1) ?_ m hm))
      rw [List.getElem?_map, List.getElem?_eq_getElem (by omega)]; rfl
    obtain ⟨l, hl, hq⟩ := list_of_ len _ each
    have hm' : l.length ≤ maxLen := by omega
    refine ⟨l, ⟨some a, cap, by rw [hl], by omega, ⟨rfl, by unfold maxLen at hm'; omega, fun _ => ⟨a, rfl, fun j p hp => ?_⟩⟩⟩, ⟨hm', fun x hx => ?_⟩, fun hz => ⟨?_, fun y hy => ?_⟩⟩
    · obtain ⟨⟨⟨c, h1, h2⟩, _⟩, _⟩ := hq j p hp
      refine ⟨c, d.K_len h2, h2, fun i u hu => ?_⟩
      have h3 := (World.cells?_some h1).2.2
      have hi : i < d.sz := by rw [← d.K_len h2]; exact (List.getElem?_eq_some_iff.1 hu).1
      have h4 := h3 i hi
      rw [add_add] at h4
      rw [h4, hu]
    · obtain ⟨i, hi, rfl⟩ := List.getElem_of_mem hx
      exact (hq i _ (List.getElem?_eq_getElem hi)).1.2
    · have h1 := hz ((elems.length + rest.length) * P.bytesOf e) (by rw [hx]; simp [DataW.weights, ht])
      rw [hl, ← hel]
      exact Nat.le_trans (Nat.mul_le_mul_right _ (Nat.le_add_right _ _)) h1
    · obtain ⟨i, hi, rfl⟩ := List.getElem_of_mem hy
      exact (hq i _ (List.getElem?_eq_getElem hi)).2 hz
/-- An array of whole numbers. -/
theorem opens_arr_ {P : Program} {t e : TypeId} {k : IntKind} {n : Nat} (ht : P.underlying t = some (.array n e)) (he : P.underlying e = some (.int k)) (hc : P.cellsOf e = 1) (hn : P.cellsOf t = n) {H : Type} {enc : TypeId × Value → H} {w : World} {sp : Nat → Bool} {held : Bool} {fuel : Nat} {cs : List Value} {x : DataW H × List MemPlace}
    (h : DataW.trod enc P w 0 sp held fuel t cs = some x) : ∃ l : List Int, l.length = n ∧ cs = l.map (fun y => .int k y) ∧ ∀ y ∈ l, (Lit.int k y).wf = true := by
  obtain ⟨ys, m, rfl, hx, hl, hy, hel⟩ := DataW.trod_array ht h
  have each : ∀ i, i < n → ∃ y : Int, cs[i]? = some (.int k y) ∧ (Lit.int k y).wf = true := fun i hi => by
    have h1 := hel i hi
    rw [hc, Nat.mul_one, List.getElem?_eq_getElem (by omega)] at h1
    obtain ⟨q, h2, _, h4⟩ := DataW.trod_int he h1
    refine ⟨q, ?_, h4⟩
    have := congrArg (fun l : List Value => l[0]?) h2
    simpa [List.getElem?_take, List.getElem?_drop] using this
  obtain ⟨l, hl2, hq⟩ := list_of_ n _ each
  refine ⟨l, hl2, ?_, fun y hy => ?_⟩
  · apply List.ext_getElem?
    intro i
    rw [List.getElem?_map]
    rcases Nat.lt_or_ge i n with hi | hi
    · rw [List.getElem?_eq_getElem (show i < l.length by omega), Option.map_some]
      exact (hq i _ (List.getElem?_eq_getElem (by omega))).1
    · rw [List.getElem?_eq_none (by omega), List.getElem?_eq_none (by omega)]; rfl
  · obtain ⟨i, hi, rfl⟩ := List.getElem_of_mem hy
    exact (hq i _ (List.getElem?_eq_getElem hi)).2
/-- A struct of one field of one cell, opened. -/
theorem open_agg1_ {H : Type} {enc : TypeId × Value → H} {P : Program} {w : World} {base : Nat} {spare : Nat → Bool} {held : Bool} {r : Reach} {b0 : Nat} {t : TypeId} {f0 : Field} {v : Value} {d : DataW H} {p : List MemPlace} (hs : P.underlying t = some (.struct #[f0])) (hone : Go.Deep.oneCellFields P #[f0] = true) (hC : P.cellsOf t = 1)
    (hv : Value.okWide P w r b0 t v) (h : DataW.Trod enc P w base spare held t v d p) :
    ∃ (v0 : Value) (y0 : DataW H × List MemPlace) (n : Nat), v = .agg #[v0] ∧ d = .agg [y0.1] ∧ p = y0.2 ∧ DataW.trod enc P w base spare held n f0.type [v0] = some y0 := by
  obtain ⟨cs, rfl, hsz⟩ := okWide_struct hs hv
  obtain ⟨c0, rfl⟩ : ∃ c0, cs = #[c0] := by
    obtain ⟨l⟩ := cs
    have hl : l.length = 1 := hsz.trans hC
    match l, hl with
    | [c0], _ => exact ⟨c0, rfl⟩
  obtain ⟨fuel, hf⟩ := h
  obtain ⟨xs, n, _, hx, hl, hlen, hf'⟩ := DataW.trod_struct hs hf
  obtain ⟨o0, k0⟩ := Go.Deep.hone_of hone 0 f0 rfl
  match xs, hlen with
  | [y0], _ =>
    simp only [Prod.mk.injEq] at hx
    refine ⟨c0, y0, n, rfl, by simpa using hx.1, by simpa using hx.2, ?_⟩
    have := hf' 0 f0 rfl
    simpa [Value.cells, o0, k0] using this


set_option maxRecDepth 100000 in
set_option maxHeartbeats 1000000 in
theorem lifted (os : Os) (started : os.Started) (H : Type) (enc : TypeId × Value → H) :
    ReturnsInHanded {} Tryd.checked os 5 .any (fun w args => (Rows.parityMendsSpec.pre enc Tryd.prog Tryd.f5 Rows.parityMendsRow.domain false w args ∧ laidMet Tryd.prog [("unicode/utf8.acceptRanges", Rows.laid_unicode_utf8_acceptRanges), ("unicode/utf8.first", Rows.laid_unicode_utf8_first)] w) ∧ sizedMet enc Tryd.prog Tryd.f5 (OpenSpec.ofChange Rows.parityMendsSpec) false w args) (Rows.parityMendsSpec.post enc Tryd.prog Tryd.f5 false true false false) := by
  refine returnsInHanded_of_change_and (C := Tryd.checked) (X := fun w _ => laidMet Tryd.prog [("unicode/utf8.acceptRanges", Rows.laid_unicode_utf8_acceptRanges), ("unicode/utf8.first", Rows.laid_unicode_utf8_first)] w) (fun _ _ _ hh h => h.of_heap hh) own started (by kernel_rfl) Tryd.func5
    (ChangeSpec.witness_shaped (enc := enc) (C := Tryd.checked) (os := os) (X := fun w _ => laidMet Tryd.prog [("unicode/utf8.acceptRanges", Rows.laid_unicode_utf8_acceptRanges), ("unicode/utf8.first", Rows.laid_unicode_utf8_first)] w) false (World.laidAll Tryd.prog os [("unicode/utf8.acceptRanges", Rows.laid_unicode_utf8_acceptRanges), ("unicode/utf8.first", Rows.laid_unicode_utf8_first)]) #[.slice none 0 0, .slice none 0 0, .int .i64 0, .slice none 0 0] 8 (World.laidAll_os _ _ _) (World.shaped_of_ZipB (by kernel_rfl) (by kernel_rfl)) (by kernel_rfl) (by kernel_rfl) (by kernel_rfl) (laidMet_laidAll _ (by kernel_rfl) (by kernel_rfl))) ?_
  intro W base args ds gs before hval0 hW hcnd hsz0 hL _
  clear hL
  have hsz : (DataW.weightsEach Tryd.prog (Tryd.f5.params.toList ++ Rows.parityMendsSpec.plain.varTypes Tryd.prog) (ds ++ gs)).all (· ≤ reachBytes) = true := hsz0
  have hval : ∀ (j : Nat) t v, Tryd.f5.params[j]? = some t → args[j]? = some v → Value.okWide Tryd.prog W .any base t v := hval0
  have hW' := hW
  obtain ⟨p, q, hA0, hV, rfl, hfz, hnd⟩ := hW
  have hA : DataW.TrodAll enc Tryd.prog W 0 (fun _ => true) true Tryd.f5.params.toList args.toList ds p := hA0
  rw [Tryd.params5] at hA hval hsz
  obtain ⟨v0, vs0, d0, ds0, p0, q0, hargs, rfl, rfl, h0, r0⟩ := trodAll_cons hA
  obtain ⟨v1, vs1, d1, ds1, p1, q1, rfl, rfl, rfl, h1, r1⟩ := trodAll_cons r0
  obtain ⟨v2, vs2, d2, ds2, p2, q2, rfl, rfl, rfl, h2, r2⟩ := trodAll_cons r1
  obtain ⟨v3, vs3, d3, ds3, p3, q3, rfl, rfl, rfl, h3, r3⟩ := trodAll_cons r2
  obtain ⟨rfl, rfl, rfl⟩ := trodAll_nil r3
  obtain rfl : args = #[v0, v1, v2, v3] := by cases args; simp_all
  obtain ⟨rfl, rfl⟩ := trodVars_none hV
  obtain ⟨b0, len0, cap0, rfl⟩ := okWide_slice Tryd.underlying22 (hval 0 22 v0 rfl rfl)
  have k0 := h0
  have lt0 : ∀ x ∈ p0, x.block < W.heap.size := by obtain ⟨m, hm⟩ := k0; exact DataW.trod_lt m _ _ _ hm
  obtain ⟨fu0, hf0⟩ := h0
  have hg0 : DataW.trod enc Tryd.prog W 0 (fun _ => true) true fu0 22 [.slice b0 len0 cap0] = some (d0, p0) := by simpa [Value.cells] using hf0
  obtain ⟨l0, ⟨A0, c0, e0, hc0, hr0⟩, ⟨m0, w0⟩, z0⟩ := (openz_slice_ Tryd.underlying22 (by kernel_rfl) (openz_slice_ Tryd.underlying23 (by kernel_rfl) (openz_int_ Tryd.underlying5) 5) 23) hg0
  have s0 : ∀ x_ ∈ l0, x_.length < 140737488355328 := fun x_ hx_ => by
    have h_ := ((z0 (fun n hn => by
      have h2_ := List.all_eq_true.1 hsz n (DataW.weights_mem_each (j := 0) (t := 22) (d := d0) rfl rfl n hn)
      simpa using h2_)).2 x_ hx_).1
    rw [show Tryd.prog.bytesOf 5 = 1 by kernel_rfl, Nat.mul_one] at h_
    exact Nat.lt_of_le_of_lt h_ (by decide)
  clear z0
  have e0' := List.head_eq_of_cons_eq e0
  injection e0' with e0_1 e0_2 e0_3
  subst e0_1 e0_2 e0_3
  obtain ⟨b1, len1, cap1, rfl⟩ := okWide_slice Tryd.underlying31 (hval 1 31 v1 rfl rfl)
  have k1 := h1
  have lt1 : ∀ x ∈ p1, x.block < W.heap.size := by obtain ⟨m, hm⟩ := k1; exact DataW.trod_lt m _ _ _ hm
  obtain ⟨fu1, hf1⟩ := h1
  have hg1 : DataW.trod enc Tryd.prog W 0 (fun _ => true) true fu1 31 [.slice b1 len1 cap1] = some (d1, p1) := by simpa [Value.cells] using hf1
  obtain ⟨l1, ⟨A1, c1, e1, hc1, hr1⟩, m1, w1⟩ := (opens_slice_ Tryd.underlying31 (by kernel_rfl) (opens_bool_ Tryd.underlying4) 4) hg1
  have e1' := List.head_eq_of_cons_eq e1
  injection e1' with e1_1 e1_2 e1_3
  subst e1_1 e1_2 e1_3
  obtain ⟨a2, rfl, rfl, rfl, w2⟩ := open_int Tryd.underlying3 (hval 2 3 v2 rfl rfl) h2
  obtain ⟨b3, len3, cap3, rfl⟩ := okWide_slice Tryd.underlying22 (hval 3 22 v3 rfl rfl)
  have k3 := h3
  have lt3 : ∀ x ∈ p3, x.block < W.heap.size := by obtain ⟨m, hm⟩ := k3; exact DataW.trod_lt m _ _ _ hm
  obtain ⟨fu3, hf3⟩ := h3
  have hg3 : DataW.trod enc Tryd.prog W 0 (fun _ => true) true fu3 22 [.slice b3 len3 cap3] = some (d3, p3) := by simpa [Value.cells] using hf3
  obtain ⟨l3, ⟨A3, c3, e3, hc3, hr3⟩, m3, w3⟩ := (opens_slice_ Tryd.underlying22 (by kernel_rfl) (opens_slice_ Tryd.underlying23 (by kernel_rfl) (opens_int_ Tryd.underlying5) 5) 23) hg3
  have e3' := List.head_eq_of_cons_eq e3
  injection e3' with e3_1 e3_2 e3_3
  subst e3_1 e3_2 e3_3
  clear hA0 hval0 hsz0 hsz
  obtain ⟨k, hk⟩ := Pure.ParityMends l0 l1 a2 l3 m0 w0 s0 m3 w3
  refine (bitloftlaw42_ParityMends.calls k _ _ l0 _ _ l1 a2 _ _ l3 true W hr0 hc0 hr1 hc1 hr3 hc3 rfl hk).mono fun e W' ⟨he, bel0⟩ => ?_
  have bel := bel0
  subst he
  exact ⟨_, rfl, _, _, _, [], _, [], hW', trodAll_mk1 (shut_bool Tryd.underlying4 _), (trodAll_cons_mk (Below.trod laidOut (by kernel_rfl) (of_decide_eq_true (by kernel_rfl)) k0 bel lt0) (trodAll_cons_mk (Below.trod laidOut (by kernel_rfl) (of_decide_eq_true (by kernel_rfl)) k1 bel lt1) (trodAll_cons_mk (shut_int Tryd.underlying3 w2) (trodAll_cons_mk (Below.trod laidOut (by kernel_rfl) (of_decide_eq_true (by kernel_rfl)) k3 bel lt3) trodAll_mk0)))), rfl, bel.frame _, fun h => by cases h⟩
theorem over : Rows.parityMendsRow.holds Tryd.pinned (OpenSpec.ofChange Rows.parityMendsSpec) :=
  OpenClaim.holds_of_wide 5 Tryd.f5 rfl rfl rfl rfl rfl rfl rfl ⟨rfl, rfl, rfl, rfl, rfl⟩ rfl rfl rfl rfl rfl (by kernel_rfl) Tryd.func5 (by kernel_rfl)
    (of_decide_eq_true (by kernel_rfl)) (by unfold Func.isWrapper; first | (rw [if_pos (by decide +kernel)]; kernel_rfl) | (rw [if_neg (by decide +kernel)]; exact ⟨rfl, rfl⟩))
    (fun os started H enc _ => lifted os started H enc)
theorem proved : Rows.ParityMendsSaid := over
theorem card : Rows.ParityMendsCardSaid :=
  Claim7.holds_tied_plain_at .later [] [.data, .pinned] true (true, "212a47095e83ca5439cb527b0584dfd728658dce3e0f4901db5fa0a611320ff7") false
    proved (fun _ h => by cases h) (by kernel_rfl) (fun _ h => by cases h) parityMends_row_tie rfl ⟨rfl, rfl⟩ (by kernel_rfl) rfl
    (fun f fn hf hfn => by
      obtain rfl : f = 5 := Option.some.inj ((show Tryd.prog.funcNamed "bitloft/bitloftlaw42.ParityMends" = some 5 by kernel_rfl).symm.trans hf) |>.symm
      obtain rfl : fn = Tryd.f5 := (Option.some.inj (Tryd.func5.symm.trans hfn)).symm
      refine ⟨by kernel_rfl, fun j t ht => ?_⟩
      rw [Tryd.params5] at ht
      have hm := Array.mem_of_getElem? ht
      simp only [List.mem_toArray, List.mem_cons, List.not_mem_nil, or_false] at hm
      rcases hm with rfl | rfl | rfl | rfl
      · exact (show Tryd.prog.wantsStandIn 22 = false by kernel_rfl)
      · exact (show Tryd.prog.wantsStandIn 31 = false by kernel_rfl)
      · exact (show Tryd.prog.wantsStandIn 3 = false by kernel_rfl)
      · exact (show Tryd.prog.wantsStandIn 22 = false by kernel_rfl))
    (by kernel_rfl)
#print axioms card
end Go.Proofs.YtejamobohmljfaaDoor.parityMends
namespace Go.Proofs.YtejamobohmljfaaDoor
/-- The row, under a short name, for the claim. -/
theorem parityMends_holds : Rows.ParityMendsCardSaid := parityMends.card
end Go.Proofs.YtejamobohmljfaaDoor
