-- Laid by a program of this session (wip/mkxprint.py, over the kit's print): Lean checks it.
import Derived.Test.YtmncppbhnjngkaaDoorRows
import Derived.Test.YtmncppbhnjngkaaDoorTie
import Derived.Test.YtmncppbhnjngkaaDoorCards
import Derived.SevenTiedAt
import Derived.LaidMore
import Derived.Test.YtmncppbhnjngkaaDoorXAdaptNamesx6
import Derived.Test.YtmncppbhnjngkaaDoorPureAdaptNames
import Derived.WalkKit
import Derived.ProofKit
import Derived.OpenShut
import Derived.ShutString
import Derived.ChangeOld
import Derived.Below
import Derived.SizedLaws
namespace Go.Proofs.YtmncppbhnjngkaaDoor.adaptNames
open Go.ChangeShapes Go.WideShapes Go.ChangeAt Go.RowKit
open Go.ChangeMaps (open_string shut_string)
set_option linter.unusedVariables false
theorem own : ownKnob Tryd.prog.godebug = none := by kernel_rfl
open Go.Proofs.YtmncppbhnjngkaaDoor.XAdaptNames Go.Proofs.YtmncppbhnjngkaaDoorW.PrintWords Go.Proofs.YtmncppbhnjngkaaDoorW.PrintLast
/-- A table of whole numbers that reads as the datum: its cells. -/
theorem ints_of_trod_ {H : Type} {enc : TypeId × Value → H} {P : Program} {w : World} {base : Nat} {sp : Nat → Bool} {held : Bool} {fuel : Nat} {t e : TypeId} {k : IntKind} {n : Nat} {cs : List Value} {xs : List Int} {p : List MemPlace}
    (ht : P.underlying t = some (.array n e)) (he : P.underlying e = some (.int k)) (hc : P.cellsOf e = 1)
    (h : DataW.trod enc P w base sp held fuel t cs = some (.agg (xs.map fun x => .lit (.int k x)), p)) : ∀ i : Nat, i < n → cs[i]? = some (.int k (xs.getD i 0)) := by
  obtain ⟨ys, m, rfl, hx, hl, hn, hel⟩ := DataW.trod_array ht h
  intro i hi
  simp only [Prod.mk.injEq, DataW.agg.injEq] at hx
  have h1 := hel i hi
  rw [hc, Nat.mul_one] at h1
  have hyi : i < ys.length := by omega
  rw [List.getElem?_eq_getElem hyi] at h1
  obtain ⟨q, h2, h3, _⟩ := DataW.trod_int he h1
  have e1 := congrArg (fun l => l[i]?) hx.1
  simp only [List.getElem?_map, List.getElem?_eq_getElem hyi, Option.map_some, h3] at e1
  have h4 : cs[i]? = some (.int k q) := by
    have := congrArg (fun l : List Value => l[0]?) h2
    simpa [List.getElem?_take, List.getElem?_drop] using this
  rw [h4]
  cases hq : xs[i]? with
  | none => rw [hq] at e1; simp at e1
  | some z => rw [hq] at e1; simp at e1; rw [List.getD_eq_getElem?_getD, hq, e1]; rfl
theorem gRow_ : Tryd.prog.globalNamed "bitloft/adapt.targets" = some 0 := by kernel_rfl
theorem tRow_ : (Tryd.prog.globals[0]?).map (·.type) = some 65 := by kernel_rfl
theorem tab_of_laid {W : World} (h : laidMet Tryd.prog [("bitloft/adapt.targets", Rows.laid_bitloft_adapt_targets)] W) : Tab_ W := by
  obtain ⟨ps, ⟨g, t, cs, fuel, p, q, hg, ht, hvar, hd, _, _⟩, _⟩ := h
  obtain rfl := Option.some.inj (gRow_.symm.trans hg)
  obtain rfl := Option.some.inj (tRow_.symm.trans ht)
  refine ⟨fun i hi => ?_⟩
  rw [World.var?_cell hg hvar i]
  have := ints_of_trod_ (xs := tgRow) Tryd.underlying65 Tryd.underlying21 (by kernel_rfl) hd i hi
  rw [← Array.getElem?_toList, this]
  rfl
/-- The heap that the door's own run leaves meets the condition. -/
theorem door_met (os : Os) (args : Array Value) : laidMet Tryd.prog [("bitloft/adapt.targets", Rows.laid_bitloft_adapt_targets)] ((World.doorLaid Tryd.prog 14 os).forCall (fun _ _ => 0) ⟨#[], args, []⟩).memory :=
  laidMet_of_run' 8 (by kernel_rfl) (by kernel_rfl)
set_option maxRecDepth 100000 in
theorem lifted (os : Os) (started : os.Started) (H : Type) (enc : TypeId × Value → H) :
    ReturnsInHanded {} Tryd.checked os 7 .any (fun w args => (Rows.adaptNamesSpec.pre enc Tryd.prog Tryd.f7 Rows.adaptNamesRow.domain false w args ∧ laidMet Tryd.prog [("bitloft/adapt.targets", Rows.laid_bitloft_adapt_targets)] w) ∧ sizedMet enc Tryd.prog Tryd.f7 (OpenSpec.ofChange Rows.adaptNamesSpec) false w args) (Rows.adaptNamesSpec.post enc Tryd.prog Tryd.f7 false true false false) := by
  refine returnsInHanded_of_change_and (C := Tryd.checked) (X := fun w _ => laidMet Tryd.prog [("bitloft/adapt.targets", Rows.laid_bitloft_adapt_targets)] w) (fun _ _ _ hh h => h.of_heap hh) own started (by kernel_rfl) Tryd.func7
    (ChangeSpec.witness_shaped (enc := enc) (C := Tryd.checked) (os := os) (X := fun w _ => laidMet Tryd.prog [("bitloft/adapt.targets", Rows.laid_bitloft_adapt_targets)] w) false (World.doorLaid Tryd.prog 14 os) #[] 8 rfl (World.shaped_of_RefB (by kernel_rfl) (by kernel_rfl)) (by kernel_rfl) (by kernel_rfl) (by kernel_rfl) (door_met os _)) ?_
  intro W base args ds gs before hval0 hW hcnd hsz0 hL _
  have hT := tab_of_laid hL
  clear hL
  have hsz : (DataW.weightsEach Tryd.prog (Tryd.f7.params.toList ++ Rows.adaptNamesSpec.plain.varTypes Tryd.prog) (ds ++ gs)).all (· ≤ reachBytes) = true := hsz0
  have hval : ∀ (j : Nat) t v, Tryd.f7.params[j]? = some t → args[j]? = some v → Value.okWide Tryd.prog W .any base t v := hval0
  have hW' := hW
  obtain ⟨p, q, hA0, hV, rfl, hfz, hnd⟩ := hW
  have hA : DataW.TrodAll enc Tryd.prog W 0 (fun _ => true) true Tryd.f7.params.toList args.toList ds p := hA0
  rw [Tryd.params7] at hA hval hsz
  obtain ⟨rfl, rfl, rfl⟩ := trodAll_none hA
  obtain ⟨rfl, rfl⟩ := trodVars_none hV
  clear hA0 hval0 hsz0 hsz
  refine (XAdaptNames.bitloftlaw09_AdaptNames.walk Pure.AdaptNames  W  hT).mono fun e W' ⟨he, bel⟩ => ?_
  subst he
  exact ⟨_, rfl, _, _, _, [], _, [], hW', trodAll_mk1 (shut_bool Tryd.underlying4 _), trodAll_mk0, rfl, bel.frame _, fun h => by cases h⟩
theorem over : Rows.adaptNamesRow.holds Tryd.pinned (OpenSpec.ofChange Rows.adaptNamesSpec) :=
  OpenClaim.holds_of_wide 7 Tryd.f7 rfl rfl rfl rfl rfl rfl rfl ⟨rfl, rfl, rfl, rfl, rfl⟩ rfl rfl rfl rfl rfl (by kernel_rfl) Tryd.func7 (by kernel_rfl)
    (of_decide_eq_true (by kernel_rfl)) (by unfold Func.isWrapper; first | (rw [if_pos (by decide +kernel)]; kernel_rfl) | (rw [if_neg (by decide +kernel)]; exact ⟨rfl, rfl⟩))
    (fun os started H enc _ => lifted os started H enc)
theorem proved : Rows.AdaptNamesSaid := over
theorem card : Rows.AdaptNamesCardSaid :=
  Claim7.holds_tied_plain_at .later [] [.data] true (true, "35d041995ee3036b9e7fa5caf0845b79aae5a576e2f502f6ec3a49ff036b6dcd") false
    proved (fun _ h => by cases h) (by kernel_rfl) (fun _ h => by cases h) adaptNames_row_tie rfl ⟨rfl, rfl⟩ (by kernel_rfl) rfl
    (fun f fn hf hfn => by
      obtain rfl : f = 7 := Option.some.inj ((show Tryd.prog.funcNamed "bitloft/bitloftlaw09.AdaptNames" = some 7 by kernel_rfl).symm.trans hf) |>.symm
      obtain rfl : fn = Tryd.f7 := (Option.some.inj (Tryd.func7.symm.trans hfn)).symm
      refine ⟨by kernel_rfl, fun j t ht => ?_⟩
      rw [Tryd.params7] at ht
      simp at ht)
    (by kernel_rfl)
#print axioms card
end Go.Proofs.YtmncppbhnjngkaaDoor.adaptNames
namespace Go.Proofs.YtmncppbhnjngkaaDoor
/-- The row, under a short name, for the claim. -/
theorem adaptNames_holds : Rows.AdaptNamesCardSaid := adaptNames.card
end Go.Proofs.YtmncppbhnjngkaaDoor
