-- Laid by a program of this session (wip/mkxprint.py, over the kit's print): Lean checks it.
import Derived.Test.YtlpkfljihcklkaaDoorRows
import Derived.Test.YtlpkfljihcklkaaDoorTie
import Derived.Test.YtlpkfljihcklkaaDoorCards
import Derived.SevenTiedAt
import Derived.LaidMore
import Derived.Test.YtlpkfljihcklkaaDoorXMixerNamesx4
import Derived.Test.YtlpkfljihcklkaaDoorPureMixerNames
import Derived.WalkKit
import Derived.ProofKit
import Derived.OpenShut
import Derived.ShutString
import Derived.ChangeOld
import Derived.Below
import Derived.SizedLaws
namespace Go.Proofs.YtlpkfljihcklkaaDoor.mixerNames
open Go.ChangeShapes Go.WideShapes Go.ChangeAt Go.RowKit
open Go.ChangeMaps (open_string shut_string)
set_option linter.unusedVariables false
theorem own : ownKnob Tryd.prog.godebug = none := by kernel_rfl
open Go.Proofs.YtlpkfljihcklkaaDoor.XMixerNames Go.Proofs.YtlpkfljihcklkaaDoorW.PrintWords Go.Proofs.YtlpkfljihcklkaaDoorW.PrintLast
/-- A table of whole numbers that reads as the datum: its cells. -/
theorem ints_of_trod_ {H : Type} {enc : TypeId × Value → H} {P : Program} {w : World} {base : Nat} {sp : Nat → Bool} {held : Bool} {fuel : Nat} {t e : TypeId} {k : IntKind} {n : Nat} {cs : List Value} {xs : List Int} {p : List MemPlace}
    (ht : P.underlying t = some (.array n e)) (he : P.underlying e = some (.int k)) (hc : P.cellsOf e = 1)
    (h : DataW.trod enc P w base sp held fuel t cs = some (.agg (xs.map fun x => .lit (.int k x)), p)) : ∀ i : Nat, i < n → cs[i]? = some (.int k (xs.getD i 0)) := by
  obtain ⟨ys, m, rfl, hx, hl, hn, hel⟩ := DataW.trod_array ht h
  intro i hi
  simp only [Prod.mk.injEq, DataW.agg.injEq] at hx
  have h1 := hel i hi
  rw [hc, Nat.mul_one] at h1
  have hyi : i < ys.length := by omega
  rw [List.getElem?_eq_getElem hyi] at h1
  obtain ⟨q, h2, h3, _⟩ := DataW.trod_int he h1
  have e1 := congrArg (fun l => l[i]?) hx.1
  simp only [List.getElem?_map, List.getElem?_eq_getElem hyi, Option.map_some, h3] at e1
  have h4 : cs[i]? = some (.int k q) := by
    have := congrArg (fun l : List Value => l[0]?) h2
    simpa [List.getElem?_take, List.getElem?_drop] using this
  rw [h4]
  cases hq : xs[i]? with
  | none => rw [hq] at e1; simp at e1
  | some z => rw [hq] at e1; simp at e1; rw [List.getD_eq_getElem?_getD, hq, e1]; rfl
theorem gRow_ : Tryd.prog.globalNamed "bitloft/squash.row" = some 0 := by kernel_rfl
theorem tRow_ : (Tryd.prog.globals[0]?).map (·.type) = some 68 := by kernel_rfl
theorem tab_of_laid {W : World} (h : laidMet Tryd.prog [("bitloft/squash.row", Rows.laid_bitloft_squash_row)] W) : Tab_ W := by
  obtain ⟨ps, ⟨g, t, cs, fuel, p, q, hg, ht, hvar, hd, _, _⟩, _⟩ := h
  obtain rfl := Option.some.inj (gRow_.symm.trans hg)
  obtain rfl := Option.some.inj (tRow_.symm.trans ht)
  refine ⟨fun i hi => ?_⟩
  rw [World.var?_cell hg hvar i]
  have := ints_of_trod_ (xs := sqRow) Tryd.underlying68 Tryd.underlying21 (by kernel_rfl) hd i hi
  rw [← Array.getElem?_toList, this]
  rfl
/-- The heap that the door's own run leaves meets the condition. -/
theorem door_met (os : Os) (args : Array Value) : laidMet Tryd.prog [("bitloft/squash.row", Rows.laid_bitloft_squash_row)] ((World.doorLaid Tryd.prog 14 os).forCall (fun _ _ => 0) ⟨#[], args, []⟩).memory :=
  laidMet_of_run' 8 (by kernel_rfl) (by kernel_rfl)
set_option maxRecDepth 100000 in
theorem lifted (os : Os) (started : os.Started) (H : Type) (enc : TypeId × Value → H) :
    ReturnsInHanded {} Tryd.checked os 4 .any (fun w args => (Rows.mixerNamesSpec.pre enc Tryd.prog Tryd.f4 Rows.mixerNamesRow.domain false w args ∧ laidMet Tryd.prog [("bitloft/squash.row", Rows.laid_bitloft_squash_row)] w) ∧ sizedMet enc Tryd.prog Tryd.f4 (OpenSpec.ofChange Rows.mixerNamesSpec) false w args) (Rows.mixerNamesSpec.post enc Tryd.prog Tryd.f4 false true false false) := by
  refine returnsInHanded_of_change_and (C := Tryd.checked) (X := fun w _ => laidMet Tryd.prog [("bitloft/squash.row", Rows.laid_bitloft_squash_row)] w) (fun _ _ _ hh h => h.of_heap hh) own started (by kernel_rfl) Tryd.func4
    (ChangeSpec.witness_shaped (enc := enc) (C := Tryd.checked) (os := os) (X := fun w _ => laidMet Tryd.prog [("bitloft/squash.row", Rows.laid_bitloft_squash_row)] w) false (World.doorLaid Tryd.prog 14 os) #[] 8 rfl (World.shaped_of_RefB (by kernel_rfl) (by kernel_rfl)) (by kernel_rfl) (by kernel_rfl) (by kernel_rfl) (door_met os _)) ?_
  intro W base args ds gs before hval0 hW hcnd hsz0 hL _
  have hT := tab_of_laid hL
  clear hL
  have hsz : (DataW.weightsEach Tryd.prog (Tryd.f4.params.toList ++ Rows.mixerNamesSpec.plain.varTypes Tryd.prog) (ds ++ gs)).all (· ≤ reachBytes) = true := hsz0
  have hval : ∀ (j : Nat) t v, Tryd.f4.params[j]? = some t → args[j]? = some v → Value.okWide Tryd.prog W .any base t v := hval0
  have hW' := hW
  obtain ⟨p, q, hA0, hV, rfl, hfz, hnd⟩ := hW
  have hA : DataW.TrodAll enc Tryd.prog W 0 (fun _ => true) true Tryd.f4.params.toList args.toList ds p := hA0
  rw [Tryd.params4] at hA hval hsz
  obtain ⟨rfl, rfl, rfl⟩ := trodAll_none hA
  obtain ⟨rfl, rfl⟩ := trodVars_none hV
  clear hA0 hval0 hsz0 hsz
  refine (XMixerNames.bitloftlaw16_MixerNames.walk Pure.MixerNames  W  hT).mono fun e W' ⟨he, bel⟩ => ?_
  subst he
  exact ⟨_, rfl, _, _, _, [], _, [], hW', trodAll_mk1 (shut_bool Tryd.underlying4 _), trodAll_mk0, rfl, bel.frame _, fun h => by cases h⟩
theorem over : Rows.mixerNamesRow.holds Tryd.pinned (OpenSpec.ofChange Rows.mixerNamesSpec) :=
  OpenClaim.holds_of_wide 4 Tryd.f4 rfl rfl rfl rfl rfl rfl rfl ⟨rfl, rfl, rfl, rfl, rfl⟩ rfl rfl rfl rfl rfl (by kernel_rfl) Tryd.func4 (by kernel_rfl)
    (of_decide_eq_true (by kernel_rfl)) (by unfold Func.isWrapper; first | (rw [if_pos (by decide +kernel)]; kernel_rfl) | (rw [if_neg (by decide +kernel)]; exact ⟨rfl, rfl⟩))
    (fun os started H enc _ => lifted os started H enc)
theorem proved : Rows.MixerNamesSaid := over
theorem card : Rows.MixerNamesCardSaid :=
  Claim7.holds_tied_plain_at .later [] [.data] true (true, "82d0dbcda5ccf7a6276ff6d474a9df130c2a73b2b96434ebd0684f4a7a9d15a1") false
    proved (fun _ h => by cases h) (by kernel_rfl) (fun _ h => by cases h) mixerNames_row_tie rfl ⟨rfl, rfl⟩ (by kernel_rfl) rfl
    (fun f fn hf hfn => by
      obtain rfl : f = 4 := Option.some.inj ((show Tryd.prog.funcNamed "bitloft/bitloftlaw16.MixerNames" = some 4 by kernel_rfl).symm.trans hf) |>.symm
      obtain rfl : fn = Tryd.f4 := (Option.some.inj (Tryd.func4.symm.trans hfn)).symm
      refine ⟨by kernel_rfl, fun j t ht => ?_⟩
      rw [Tryd.params4] at ht
      simp at ht)
    (by kernel_rfl)
#print axioms card
end Go.Proofs.YtlpkfljihcklkaaDoor.mixerNames
namespace Go.Proofs.YtlpkfljihcklkaaDoor
/-- The row, under a short name, for the claim. -/
theorem mixerNames_holds : Rows.MixerNamesCardSaid := mixerNames.card
end Go.Proofs.YtlpkfljihcklkaaDoor
