-- Laid by a program of this session (wip/mkxprint.py, over the kit's print): Lean checks it.
import Derived.Test.YtmncppbhnjngkaaDoorRows
import Derived.Test.YtmncppbhnjngkaaDoorTie
import Derived.Test.YtmncppbhnjngkaaDoorCards
import Derived.SevenTiedAt
import Derived.LaidMore
import Derived.Test.YtmncppbhnjngkaaDoorXAdaptPartsx7
import Derived.Test.YtmncppbhnjngkaaDoorPureAdaptParts
import Derived.WalkKit
import Derived.ProofKit
import Derived.OpenShut
import Derived.ShutString
import Derived.ChangeOld
import Derived.Below
import Derived.SizedLaws
import Derived.Lib.SmallJoins
import Derived.Test.YtmncppbhnjngkaaDoorSlim
namespace Go.Proofs.YtmncppbhnjngkaaDoor.adaptParts
open Go.ChangeShapes Go.WideShapes Go.ChangeAt Go.RowKit Go.Proofs.YtmncppbhnjngkaaDoor.XAdaptParts Go.Proofs.YtmncppbhnjngkaaDoorW.PrintWords Go.Proofs.YtmncppbhnjngkaaDoorW.PrintLast
open Go.ChangeMaps (open_string shut_string)
set_option linter.unusedVariables false
set_option linter.unusedSimpArgs false
theorem own : ownKnob Tryd.prog.godebug = none := by kernel_rfl
open Go.Proofs.YtmncppbhnjngkaaDoor.XAdaptParts Go.Proofs.YtmncppbhnjngkaaDoorW.PrintWords Go.Proofs.YtmncppbhnjngkaaDoorW.PrintLast
/-- A table of whole numbers that reads as the datum: its cells. -/
theorem ints_of_trod_ {H : Type} {enc : TypeId × Value → H} {P : Program} {w : World} {base : Nat} {sp : Nat → Bool} {held : Bool} {fuel : Nat} {t e : TypeId} {k : IntKind} {n : Nat} {cs : List Value} {xs : List Int} {p : List MemPlace}
    (ht : P.underlying t = some (.array n e)) (he : P.underlying e = some (.int k)) (hc : P.cellsOf e = 1)
    (h : DataW.trod enc P w base sp held fuel t cs = some (.agg (xs.map fun x => .lit (.int k x)), p)) : ∀ i : Nat, i < n → cs[i]? = some (.int k (xs.getD i 0)) := by
  obtain ⟨ys, m, rfl, hx, hl, hn, hel⟩ := DataW.trod_array ht h
  intro i hi
  simp only [Prod.mk.injEq, DataW.agg.injEq] at hx
  have h1 := hel i hi
  rw [hc, Nat.mul_one] at h1
  have hyi : i < ys.length := by omega
  rw [List.getElem?_eq_getElem hyi] at h1
  obtain ⟨q, h2, h3, _⟩ := DataW.trod_int he h1
  have e1 := congrArg (fun l => l[i]?) hx.1
  simp only [List.getElem?_map, List.getElem?_eq_getElem hyi, Option.map_some, h3] at e1
  have h4 : cs[i]? = some (.int k q) := by
    have := congrArg (fun l : List Value => l[0]?) h2
    simpa [List.getElem?_take, List.getElem?_drop] using this
  rw [h4]
  cases hq : xs[i]? with
  | none => rw [hq] at e1; simp at e1
  | some z => rw [hq] at e1; simp at e1; rw [List.getD_eq_getElem?_getD, hq, e1]; rfl
theorem gRow_ : Tryd.prog.globalNamed "bitloft/adapt.targets" = some 0 := by kernel_rfl
theorem tRow_ : (Tryd.prog.globals[0]?).map (·.type) = some 65 := by kernel_rfl
theorem tab_of_laid {W : World} (h : laidMet Tryd.prog [("bitloft/adapt.targets", Rows.laid_bitloft_adapt_targets)] W) : Tab_ W := by
  obtain ⟨ps, ⟨g, t, cs, fuel, p, q, hg, ht, hvar, hd, _, _⟩, _⟩ := h
  obtain rfl := Option.some.inj (gRow_.symm.trans hg)
  obtain rfl := Option.some.inj (tRow_.symm.trans ht)
  refine ⟨fun i hi => ?_⟩
  rw [World.var?_cell hg hvar i]
  have := ints_of_trod_ (xs := tgRow) Tryd.underlying65 Tryd.underlying21 (by kernel_rfl) hd i hi
  rw [← Array.getElem?_toList, this]
  rfl
/-- The heap that the door's own run leaves meets the condition. -/
theorem door_met (os : Os) (args : Array Value) : laidMet Tryd.prog [("bitloft/adapt.targets", Rows.laid_bitloft_adapt_targets)] ((World.doorLaid Tryd.prog 14 os).forCall (fun _ _ => 0) ⟨#[], args, []⟩).memory :=
  laidMet_of_run' 8 (by kernel_rfl) (by kernel_rfl)
theorem laidOut : laidOutB Tryd.prog = true := by kernel_rfl
/-- A slice of whole numbers that came in, opened. -/
theorem field_ints_ {H : Type} {enc : TypeId × Value → H} {P : Program} {w : World} {t e : TypeId} {k : IntKind} {fuel : Nat} {v : Value} {x : DataW H × List MemPlace} (ht : P.underlying t = some (.slice e)) (he : P.underlying e = some (.int k)) (hc : P.cellsOf e = 1)
    (h : DataW.trod enc P w 0 (fun _ => true) true fuel t [v] = some x) :
    ∃ (A : Option Addr) (c : Nat) (l : List Int), v = .slice A l.length c ∧ Kd.C (Kd.int k) w A l.length l ∧ l.length ≤ c ∧ l.length ≤ maxLen ∧ ∀ x ∈ l, (Lit.int k x).wf = true := by
  have key : ∃ (a : Option Addr) (len cap : Nat) (zs : List Int), v = .slice a len cap ∧ ((a = none ∧ len = 0 ∧ cap = 0 ∧ zs = []) ∨ ∃ x, a = some x ∧ len ≤ cap ∧ cap ≤ maxLen ∧ zs.length = cap ∧ (∀ i, i < zs.length → w.cell? (x.add i) = some (.int k (zs.getD i 0))) ∧ ∀ n ∈ zs, (Lit.int k n).wf = true) := by
    rcases Go.ChangeShapes.open_ints ht he hc h with ⟨hcs, _⟩ | ⟨a, len, cap, zs, hcs, _, hl, hm, hz, _, hcell, hwz⟩
    · exact ⟨none, 0, 0, [], List.head_eq_of_cons_eq hcs, .inl ⟨rfl, rfl, rfl, rfl⟩⟩
    · exact ⟨some a, len, cap, zs, List.head_eq_of_cons_eq hcs, .inr ⟨a, rfl, hl, hm, by simpa using hz, hcell, hwz⟩⟩
  obtain ⟨a, len, cap, zs, rfl, hrow⟩ := key
  obtain ⟨l, rfl, hr, hm, hw, hcap⟩ := ReadsInt.ofRowC hrow
  exact ⟨a, cap, l, rfl, Kd.C_of_reads (d := (0 : Int)) (h1 := fun _ => rfl) hr, hcap, hm, hw⟩

set_option maxRecDepth 100000 in
set_option maxHeartbeats 1000000 in
theorem lifted (os : Os) (started : os.Started) (H : Type) (enc : TypeId × Value → H) :
    ReturnsInHanded {} Tryd.checked os 8 .any (fun w args => (Rows.adaptPartsSpec.pre enc Tryd.prog Tryd.f8 Rows.adaptPartsRow.domain false w args ∧ laidMet Tryd.prog [("bitloft/adapt.targets", Rows.laid_bitloft_adapt_targets)] w) ∧ sizedMet enc Tryd.prog Tryd.f8 (OpenSpec.ofChange Rows.adaptPartsSpec) false w args) (Rows.adaptPartsSpec.post enc Tryd.prog Tryd.f8 false true false false) := by
  refine returnsInHanded_of_change_and (C := Tryd.checked) (X := fun w _ => laidMet Tryd.prog [("bitloft/adapt.targets", Rows.laid_bitloft_adapt_targets)] w) (fun _ _ _ hh h => h.of_heap hh) own started (by kernel_rfl) Tryd.func8
    (ChangeSpec.witness_shaped (enc := enc) (C := Tryd.checked) (os := os) (X := fun w _ => laidMet Tryd.prog [("bitloft/adapt.targets", Rows.laid_bitloft_adapt_targets)] w) false (World.doorLaid Tryd.prog 14 os) #[.agg #[.int .i32 0, .slice none 0 0, .slice none 0 0], .int .u8 0, .slice none 0 0, .int .i64 0] 8 rfl (World.shaped_of_RefB (by kernel_rfl) (by kernel_rfl)) (by kernel_rfl) (by kernel_rfl) (by kernel_rfl) (door_met os _)) ?_
  intro W base args ds gs before hval0 hW hcnd hsz0 hL _
  have hT := tab_of_laid hL
  clear hL
  have hsz : (DataW.weightsEach Tryd.prog (Tryd.f8.params.toList ++ Rows.adaptPartsSpec.plain.varTypes Tryd.prog) (ds ++ gs)).all (· ≤ reachBytes) = true := hsz0
  have hval : ∀ (j : Nat) t v, Tryd.f8.params[j]? = some t → args[j]? = some v → Value.okWide Tryd.prog W .any base t v := hval0
  have hW' := hW
  obtain ⟨p, q, hA0, hV, rfl, hfz, hnd⟩ := hW
  have hA : DataW.TrodAll enc Tryd.prog W 0 (fun _ => true) true Tryd.f8.params.toList args.toList ds p := hA0
  rw [Tryd.params8] at hA hval hsz
  obtain ⟨v0, vs0, d0, ds0, p0, q0, hargs, rfl, rfl, h0, r0⟩ := trodAll_cons hA
  obtain ⟨v1, vs1, d1, ds1, p1, q1, rfl, rfl, rfl, h1, r1⟩ := trodAll_cons r0
  obtain ⟨v2, vs2, d2, ds2, p2, q2, rfl, rfl, rfl, h2, r2⟩ := trodAll_cons r1
  obtain ⟨v3, vs3, d3, ds3, p3, q3, rfl, rfl, rfl, h3, r3⟩ := trodAll_cons r2
  obtain ⟨rfl, rfl, rfl⟩ := trodAll_nil r3
  obtain rfl : args = #[v0, v1, v2, v3] := by cases args; simp_all
  obtain ⟨rfl, rfl⟩ := trodVars_none hV
  have k0 := h0
  have lt0 : ∀ x ∈ p0, x.block < W.heap.size := by obtain ⟨m, hm⟩ := k0; exact DataW.trod_lt m _ _ _ hm
  obtain ⟨g0_0, g0_1, g0_2, j0_0, j0_1, j0_2, n0, rfl, rfl, rfl, hy0_0, hy0_1, hy0_2⟩ := Joins.open_agg3 Tryd.underlying24 (by kernel_rfl) (by kernel_rfl) (hval 0 24 v0 rfl rfl) h0
  obtain ⟨a0_0, e0_0, o0_0, w0_0⟩ := DataW.trod_int Tryd.underlying21 hy0_0
  obtain rfl : g0_0 = .int .i32 a0_0 := List.head_eq_of_cons_eq e0_0
  obtain ⟨A0_1, c0_1, l0_1, rfl, hr0_1, hc0_1, m0_1, w0_1⟩ := field_ints_ Tryd.underlying22 Tryd.underlying21 (by kernel_rfl) hy0_1
  obtain ⟨A0_2, c0_2, l0_2, rfl, hr0_2, hc0_2, m0_2, w0_2⟩ := field_ints_ Tryd.underlying22 Tryd.underlying21 (by kernel_rfl) hy0_2
  obtain ⟨a1, rfl, rfl, rfl, w1⟩ := open_int Tryd.underlying5 (hval 1 5 v1 rfl rfl) h1
  obtain ⟨b2, len2, cap2, rfl⟩ := okWide_slice Tryd.underlying44 (hval 2 44 v2 rfl rfl)
  have k2 := h2
  have lt2 : ∀ x ∈ p2, x.block < W.heap.size := by obtain ⟨m, hm⟩ := k2; exact DataW.trod_lt m _ _ _ hm
  have z2 : len2 * 1 ≤ 140737488351232 := Go.Proofs.YtmncppbhnjngkaaDoorW.PrintWords.sized_ints hsz (j := 2) (t := 44) rfl rfl Tryd.underlying44 Tryd.underlying5 (by kernel_rfl) (by kernel_rfl) h2
  obtain ⟨fu2, hf2⟩ := h2
  obtain ⟨A2, c2, l2, e2, hr2, hc2, m2, w2⟩ := field_ints_ Tryd.underlying44 Tryd.underlying5 (by kernel_rfl) (v := .slice b2 len2 cap2) (by simpa [Value.cells] using hf2)
  injection e2 with e2_1 e2_2 e2_3
  subst e2_1 e2_2 e2_3
  have y2 := z2
  obtain ⟨a3, rfl, rfl, rfl, w3⟩ := open_int Tryd.underlying3 (hval 3 3 v3 rfl rfl) h3
  clear hA0 hval0 hsz0 hsz
  obtain ⟨k, hk⟩ := Pure.AdaptParts a0_0 l0_1 l0_2 a1 l2 a3 w0_0 m0_1 w0_1 m0_2 w0_2 w1 m2 y2 w2 w3
  refine (bitloftlaw09_AdaptParts.calls k a0_0 _ _ l0_1 _ _ l0_2 a1 _ _ l2 a3 true W hr0_1 hc0_1 hr0_2 hc0_2 hr2 hc2  hT rfl hk).mono fun e W' ⟨he, bel0⟩ => ?_
  have bel := bel0
  subst he
  exact ⟨_, rfl, _, _, _, [], _, [], hW', trodAll_mk1 (shut_bool Tryd.underlying4 _), (trodAll_cons_mk (Below.trod laidOut (by kernel_rfl) (of_decide_eq_true (by kernel_rfl)) k0 bel lt0) (trodAll_cons_mk (shut_int Tryd.underlying5 w1) (trodAll_cons_mk (Below.trod laidOut (by kernel_rfl) (of_decide_eq_true (by kernel_rfl)) k2 bel lt2) (trodAll_cons_mk (shut_int Tryd.underlying3 w3) trodAll_mk0)))), rfl, bel.frame _, fun h => by cases h⟩
theorem over : Rows.adaptPartsRow.holds Tryd.pinned (OpenSpec.ofChange Rows.adaptPartsSpec) :=
  OpenClaim.holds_of_wide 8 Tryd.f8 rfl rfl rfl rfl rfl rfl rfl ⟨rfl, rfl, rfl, rfl, rfl⟩ rfl rfl rfl rfl rfl (by kernel_rfl) Tryd.func8 (by kernel_rfl)
    (of_decide_eq_true (by kernel_rfl)) (by unfold Func.isWrapper; first | (rw [if_pos (by decide +kernel)]; kernel_rfl) | (rw [if_neg (by decide +kernel)]; exact ⟨rfl, rfl⟩))
    (fun os started H enc _ => lifted os started H enc)
theorem proved : Rows.AdaptPartsSaid := over
theorem card : Rows.AdaptPartsCardSaid :=
  Claim7.holds_tied_plain_at .later [] [.data] true (true, "35d041995ee3036b9e7fa5caf0845b79aae5a576e2f502f6ec3a49ff036b6dcd") false
    proved (fun _ h => by cases h) (by kernel_rfl) (fun _ h => by cases h) adaptParts_row_tie rfl ⟨rfl, rfl⟩ (by kernel_rfl) rfl
    (fun f fn hf hfn => by
      obtain rfl : f = 8 := Option.some.inj ((show Tryd.prog.funcNamed "bitloft/bitloftlaw09.AdaptParts" = some 8 by kernel_rfl).symm.trans hf) |>.symm
      obtain rfl : fn = Tryd.f8 := (Option.some.inj (Tryd.func8.symm.trans hfn)).symm
      refine ⟨by kernel_rfl, fun j t ht => ?_⟩
      rw [Tryd.params8] at ht
      have hm := Array.mem_of_getElem? ht
      simp only [List.mem_toArray, List.mem_cons, List.not_mem_nil, or_false] at hm
      rcases hm with rfl | rfl | rfl | rfl
      · exact (show Tryd.prog.wantsStandIn 24 = false by kernel_rfl)
      · exact (show Tryd.prog.wantsStandIn 5 = false by kernel_rfl)
      · exact (show Tryd.prog.wantsStandIn 44 = false by kernel_rfl)
      · exact (show Tryd.prog.wantsStandIn 3 = false by kernel_rfl))
    (by kernel_rfl)
#print axioms card
end Go.Proofs.YtmncppbhnjngkaaDoor.adaptParts
namespace Go.Proofs.YtmncppbhnjngkaaDoor
/-- The row, under a short name, for the claim. -/
theorem adaptParts_holds : Rows.AdaptPartsCardSaid := adaptParts.card
end Go.Proofs.YtmncppbhnjngkaaDoor
