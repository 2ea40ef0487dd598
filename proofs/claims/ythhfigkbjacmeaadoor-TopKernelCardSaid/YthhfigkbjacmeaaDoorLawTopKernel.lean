-- Laid by a program of this session (wip/mkxprint.py, over the kit's print): Lean checks it.
import Derived.Test.YthhfigkbjacmeaaDoorRows
import Derived.Test.YthhfigkbjacmeaaDoorTie
import Derived.Test.YthhfigkbjacmeaaDoorCards
import Derived.SevenTiedAt
import Derived.LaidMore
import Derived.Test.YthhfigkbjacmeaaDoorXTopKernelx9
import Derived.Test.YthhfigkbjacmeaaDoorPureTopKernel
import Derived.WalkKit
import Derived.ProofKit
import Derived.OpenShut
import Derived.ShutString
import Derived.ChangeOld
import Derived.Below
import Derived.SizedLaws
import Derived.Test.YthhfigkbjacmeaaDoorWSized
namespace Go.Proofs.YthhfigkbjacmeaaDoor.topKernel
open Go.ChangeShapes Go.WideShapes Go.ChangeAt Go.RowKit
open Go.ChangeMaps (open_string shut_string)
set_option linter.unusedVariables false
theorem own : ownKnob Tryd.prog.godebug = none := by kernel_rfl
open Go.Proofs.YthhfigkbjacmeaaDoor.XTopKernel Go.Proofs.YthhfigkbjacmeaaDoorW.PrintWords Go.Proofs.YthhfigkbjacmeaaDoorW.PrintLast
/-- A table of whole numbers that reads as the datum: its cells. -/
theorem ints_of_trod_ {H : Type} {enc : TypeId × Value → H} {P : Program} {w : World} {base : Nat} {sp : Nat → Bool} {held : Bool} {fuel : Nat} {t e : TypeId} {k : IntKind} {n : Nat} {cs : List Value} {xs : List Int} {p : List MemPlace}
    (ht : P.underlying t = some (.array n e)) (he : P.underlying e = some (.int k)) (hc : P.cellsOf e = 1)
    (h : DataW.trod enc P w base sp held fuel t cs = some (.agg (xs.map fun x => .lit (.int k x)), p)) : ∀ i : Nat, i < n → cs[i]? = some (.int k (xs.getD i 0)) := by
  obtain ⟨ys, m, rfl, hx, hl, hn, hel⟩ := DataW.trod_array ht h
  intro i hi
  simp only [Prod.mk.injEq, DataW.agg.injEq] at hx
  have h1 := hel i hi
  rw [hc, Nat.mul_one] at h1
  have hyi : i < ys.length := by omega
  rw [List.getElem?_eq_getElem hyi] at h1
  obtain ⟨q, h2, h3, _⟩ := DataW.trod_int he h1
  have e1 := congrArg (fun l => l[i]?) hx.1
  simp only [List.getElem?_map, List.getElem?_eq_getElem hyi, Option.map_some, h3] at e1
  have h4 : cs[i]? = some (.int k q) := by
    have := congrArg (fun l : List Value => l[0]?) h2
    simpa [List.getElem?_take, List.getElem?_drop] using this
  rw [h4]
  cases hq : xs[i]? with
  | none => rw [hq] at e1; simp at e1
  | some z => rw [hq] at e1; simp at e1; rw [List.getD_eq_getElem?_getD, hq, e1]; rfl
theorem gRow_ : Tryd.prog.globalNamed "bitloft/squash.row" = some 1 := by kernel_rfl
theorem tRow_ : (Tryd.prog.globals[1]?).map (·.type) = some 140 := by kernel_rfl
theorem gTop_ : Tryd.prog.globalNamed "bitloft/octet.tops" = some 0 := by kernel_rfl
theorem tTop_ : (Tryd.prog.globals[0]?).map (·.type) = some 137 := by kernel_rfl
theorem gQu_ : Tryd.prog.globalNamed "bitloft/sha.quarters" = some 2 := by kernel_rfl
theorem tQu_ : (Tryd.prog.globals[2]?).map (·.type) = some 168 := by kernel_rfl
theorem tab_of_laid {W : World} (h : laidMet Tryd.prog [("bitloft/octet.tops", Rows.laid_bitloft_octet_tops), ("bitloft/sha.quarters", Rows.laid_bitloft_sha_quarters), ("bitloft/squash.row", Rows.laid_bitloft_squash_row)] W) : Tab_ W := by
  obtain ⟨ps, ⟨g, t, cs, fuel, p, q, hg, ht, hvar, hd, ⟨g2, t2, cs2, fuel2, p2, q2, hg2, ht2, hvar2, hd2, ⟨g3, t3, cs3, fuel3, p3, q3, hg3, ht3, hvar3, hd3, _, _⟩, _⟩, _⟩, _⟩ := h
  obtain rfl := Option.some.inj (gTop_.symm.trans hg)
  obtain rfl := Option.some.inj (tTop_.symm.trans ht)
  obtain rfl := Option.some.inj (gQu_.symm.trans hg2)
  obtain rfl := Option.some.inj (tQu_.symm.trans ht2)
  obtain rfl := Option.some.inj (gRow_.symm.trans hg3)
  obtain rfl := Option.some.inj (tRow_.symm.trans ht3)
  refine ⟨fun i hi => ?_, fun i hi => ?_, fun i hi => ?_⟩
  · rw [World.var?_cell hg3 hvar3 i]
    have := ints_of_trod_ (xs := sqRow) Tryd.underlying140 Tryd.underlying21 (by kernel_rfl) hd3 i hi
    rw [← Array.getElem?_toList, this]
    rfl
  · rw [World.var?_cell hg hvar i]
    have := ints_of_trod_ (xs := topRow) Tryd.underlying137 Tryd.underlying31 (by kernel_rfl) hd i hi
    rw [← Array.getElem?_toList, this]
    rfl
  · rw [World.var?_cell hg2 hvar2 i]
    have := ints_of_trod_ (xs := quRow) Tryd.underlying168 Tryd.underlying34 (by kernel_rfl) hd2 i hi
    rw [← Array.getElem?_toList, this]
    rfl
/-- The heap that the door's own run leaves meets the condition. -/
theorem door_met (os : Os) (args : Array Value) : laidMet Tryd.prog [("bitloft/octet.tops", Rows.laid_bitloft_octet_tops), ("bitloft/sha.quarters", Rows.laid_bitloft_sha_quarters), ("bitloft/squash.row", Rows.laid_bitloft_squash_row)] ((World.doorLaid Tryd.prog 39 os).forCall (fun _ _ => 0) ⟨#[], args, []⟩).memory :=
  laidMet_of_run' 8 (by kernel_rfl) (by kernel_rfl)
theorem laidOut : laidOutB Tryd.prog = true := by kernel_rfl
def IsRow (k : IntKind) (w : World) (a : Option Addr) (len cap : Nat) (zs : List Int) : Prop :=
  (a = none ∧ len = 0 ∧ cap = 0 ∧ zs = []) ∨
  ∃ x, a = some x ∧ len ≤ cap ∧ cap ≤ maxLen ∧ zs.length = cap ∧ (∀ i, i < zs.length → w.cell? (x.add i) = some (.int k (zs.getD i 0))) ∧ ∀ n ∈ zs, (Lit.int k n).wf = true
set_option maxRecDepth 100000 in
theorem lifted (os : Os) (started : os.Started) (H : Type) (enc : TypeId × Value → H) :
    ReturnsInHanded {} Tryd.checked os 3 .any (fun w args => (Rows.topKernelSpec.pre enc Tryd.prog Tryd.f3 Rows.topKernelRow.domain false w args ∧ laidMet Tryd.prog [("bitloft/octet.tops", Rows.laid_bitloft_octet_tops), ("bitloft/sha.quarters", Rows.laid_bitloft_sha_quarters), ("bitloft/squash.row", Rows.laid_bitloft_squash_row)] w) ∧ sizedMet enc Tryd.prog Tryd.f3 (OpenSpec.ofChange Rows.topKernelSpec) false w args) (Rows.topKernelSpec.post enc Tryd.prog Tryd.f3 false true false false) := by
  refine returnsInHanded_of_change_and (C := Tryd.checked) (X := fun w _ => laidMet Tryd.prog [("bitloft/octet.tops", Rows.laid_bitloft_octet_tops), ("bitloft/sha.quarters", Rows.laid_bitloft_sha_quarters), ("bitloft/squash.row", Rows.laid_bitloft_squash_row)] w) (fun _ _ _ hh h => h.of_heap hh) own started (by kernel_rfl) Tryd.func3
    (ChangeSpec.witness_shaped (enc := enc) (C := Tryd.checked) (os := os) (X := fun w _ => laidMet Tryd.prog [("bitloft/octet.tops", Rows.laid_bitloft_octet_tops), ("bitloft/sha.quarters", Rows.laid_bitloft_sha_quarters), ("bitloft/squash.row", Rows.laid_bitloft_squash_row)] w) false (World.doorLaid Tryd.prog 39 os) #[.slice none 0 0, .int .i64 0, .int .i32 0] 8 rfl (World.shaped_of_RefB (by kernel_rfl) (by kernel_rfl)) (by kernel_rfl) (by kernel_rfl) (by kernel_rfl) (door_met os _)) ?_
  intro W base args ds gs before hval0 hW hcnd hsz0 hL _
  have hT := tab_of_laid hL
  clear hL
  have hsz : (DataW.weightsEach Tryd.prog (Tryd.f3.params.toList ++ Rows.topKernelSpec.plain.varTypes Tryd.prog) (ds ++ gs)).all (· ≤ reachBytes) = true := hsz0
  have hval : ∀ (j : Nat) t v, Tryd.f3.params[j]? = some t → args[j]? = some v → Value.okWide Tryd.prog W .any base t v := hval0
  have hW' := hW
  obtain ⟨p, q, hA0, hV, rfl, hfz, hnd⟩ := hW
  have hA : DataW.TrodAll enc Tryd.prog W 0 (fun _ => true) true Tryd.f3.params.toList args.toList ds p := hA0
  rw [Tryd.params3] at hA hval hsz
  obtain ⟨v0, vs0, d0, ds0, p0, q0, hargs, rfl, rfl, h0, r0⟩ := trodAll_cons hA
  obtain ⟨v1, vs1, d1, ds1, p1, q1, rfl, rfl, rfl, h1, r1⟩ := trodAll_cons r0
  obtain ⟨v2, vs2, d2, ds2, p2, q2, rfl, rfl, rfl, h2, r2⟩ := trodAll_cons r1
  obtain ⟨rfl, rfl, rfl⟩ := trodAll_nil r2
  obtain rfl : args = #[v0, v1, v2] := by cases args; simp_all
  obtain ⟨rfl, rfl⟩ := trodVars_none hV
  obtain ⟨a0, len0, cap0, rfl⟩ := okWide_slice Tryd.underlying22 (hval 0 22 v0 rfl rfl)
  have k0 := h0
  have lt0 : ∀ x ∈ p0, x.block < W.heap.size := by obtain ⟨m, hm⟩ := k0; exact DataW.trod_lt m _ _ _ hm
  obtain ⟨z0, w0⟩ : ∃ zs, IsRow .u8 W a0 len0 cap0 zs := by
    obtain ⟨fuel, hf⟩ := h0
    rcases open_ints Tryd.underlying22 Tryd.underlying5 (by kernel_rfl) hf with ⟨hcs, _⟩ | ⟨x, l, c, zs, hcs, _, hl, hm, hz, _, hcell, hwz⟩
    · simp [Value.cells] at hcs
      obtain ⟨rfl, rfl, rfl⟩ := hcs
      exact ⟨[], .inl ⟨rfl, rfl, rfl, rfl⟩⟩
    · simp [Value.cells] at hcs
      obtain ⟨rfl, rfl, rfl⟩ := hcs
      exact ⟨zs, .inr ⟨_, rfl, hl, hm, by simpa using hz, hcell, hwz⟩⟩
  have y0 : len0 * 1 ≤ 140737488351232 := Go.Proofs.YthhfigkbjacmeaaDoorW.PrintWords.sized_ints hsz (j := 0) (t := 22) rfl rfl Tryd.underlying22 Tryd.underlying5 (by kernel_rfl) (by kernel_rfl) h0
  obtain ⟨a1, rfl, rfl, rfl, w1⟩ := open_int Tryd.underlying3 (hval 1 3 v1 rfl rfl) h1
  obtain ⟨a2, rfl, rfl, rfl, w2⟩ := open_int Tryd.underlying21 (hval 2 21 v2 rfl rfl) h2
  clear hA0 hval0 hsz0 hsz
  refine (XTopKernel.bitlofttop_TopKernel.walk Pure.TopKernel a0 len0 cap0 z0 a1 a2 W w0 y0 w1 w2 hT).mono fun e W' ⟨he, bel⟩ => ?_
  subst he
  exact ⟨_, rfl, _, _, _, [], _, [], hW', trodAll_mk1 (shut_bool Tryd.underlying4 _), (trodAll_cons_mk (Below.trod laidOut (by kernel_rfl) (of_decide_eq_true (by kernel_rfl)) k0 bel lt0) (trodAll_cons_mk (shut_int Tryd.underlying3 w1) (trodAll_cons_mk (shut_int Tryd.underlying21 w2) trodAll_mk0))), rfl, bel.frame _, fun h => by cases h⟩
theorem over : Rows.topKernelRow.holds Tryd.pinned (OpenSpec.ofChange Rows.topKernelSpec) :=
  OpenClaim.holds_of_wide 3 Tryd.f3 rfl rfl rfl rfl rfl rfl rfl ⟨rfl, rfl, rfl, rfl, rfl⟩ rfl rfl rfl rfl rfl (by kernel_rfl) Tryd.func3 (by kernel_rfl)
    (of_decide_eq_true (by kernel_rfl)) (by unfold Func.isWrapper; first | (rw [if_pos (by decide +kernel)]; kernel_rfl) | (rw [if_neg (by decide +kernel)]; exact ⟨rfl, rfl⟩))
    (fun os started H enc _ => lifted os started H enc)
theorem proved : Rows.TopKernelSaid := over
theorem card : Rows.TopKernelCardSaid :=
  Claim7.holds_tied_plain_at .later [] [.data, .data, .data] true (true, "5485b8a7e23e219f87d8b53062769c9fac1b61e8faa194c82811b1833cf09518") false
    proved (fun _ h => by cases h) (by kernel_rfl) (fun _ h => by cases h) topKernel_row_tie rfl ⟨rfl, rfl⟩ (by kernel_rfl) rfl
    (fun f fn hf hfn => by
      obtain rfl : f = 3 := Option.some.inj ((show Tryd.prog.funcNamed "bitloft/bitlofttop.TopKernel" = some 3 by kernel_rfl).symm.trans hf) |>.symm
      obtain rfl : fn = Tryd.f3 := (Option.some.inj (Tryd.func3.symm.trans hfn)).symm
      refine ⟨by kernel_rfl, fun j t ht => ?_⟩
      rw [Tryd.params3] at ht
      have hm := Array.mem_of_getElem? ht
      simp only [List.mem_toArray, List.mem_cons, List.not_mem_nil, or_false] at hm
      rcases hm with rfl | rfl | rfl
      · exact (show Tryd.prog.wantsStandIn 22 = false by kernel_rfl)
      · exact (show Tryd.prog.wantsStandIn 3 = false by kernel_rfl)
      · exact (show Tryd.prog.wantsStandIn 21 = false by kernel_rfl))
    (by kernel_rfl)
#print axioms card
end Go.Proofs.YthhfigkbjacmeaaDoor.topKernel
namespace Go.Proofs.YthhfigkbjacmeaaDoor
/-- The row, under a short name, for the claim. -/
theorem topKernel_holds : Rows.TopKernelCardSaid := topKernel.card
end Go.Proofs.YthhfigkbjacmeaaDoor
