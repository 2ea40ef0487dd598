-- Laid by a program of this session (wip/mkxprint.py, over the kit's print): Lean checks it.
import Derived.Test.YtimjmbaonkpmpaaDoorProg
import Derived.Below
import Derived.Deep.Draws
import Derived.Deep.AppendLies
import Derived.Maps.AppendAt
import Derived.OwnWalk
import Derived.Laws.BytesArg
import Derived.Laws.MakeOwn
import Derived.Laws.OwnMore
import Derived.Deep.OwnRows
import Derived.Tactics
import Derived.Lib.ConvBytes
import Derived.Laws.Slices
import Derived.WalkKit
import Derived.KernelRfl
import Derived.RowKit3
import Derived.Deep.LoopGhost
import Derived.Deep.QuietTactic
import Derived.BigQuiet
import Derived.WideLaws
import Derived.Deep.DeepCutAuto
import Derived.Deep.CutBlock
import Derived.Deep.RegionHeld3
import Derived.Laws.Rows
import Derived.Lib.AppendStr
import Derived.ArgAppend
import Derived.Laws.IdiomCopy
import Derived.OrdersHeld
import Derived.Laws.BitsLemmas
import Derived.RowKit
import Derived.ChangeKeysEq
import Derived.Test.YtimjmbaonkpmpaaDoorWWords
import Derived.Test.YtimjmbaonkpmpaaDoorWLast
import Derived.Test.YtimjmbaonkpmpaaDoorWTab
import Derived.Test.YtimjmbaonkpmpaaDoorWFour
import Derived.Test.YtimjmbaonkpmpaaDoorWQPut
import Derived.Test.YtimjmbaonkpmpaaDoorWApart
import Derived.Test.YtimjmbaonkpmpaaDoorWArr
import Derived.Test.YtimjmbaonkpmpaaDoorWZeros
import Derived.Test.YtimjmbaonkpmpaaDoorWFoot
import Derived.Test.YtimjmbaonkpmpaaDoorWKept
import Derived.Test.YtimjmbaonkpmpaaDoorWShare
import Derived.Test.YtimjmbaonkpmpaaDoorWN
import Derived.Test.YtimjmbaonkpmpaaDoorWFootNe
import Derived.Test.YtimjmbaonkpmpaaDoorWAt
import Derived.Test.YtimjmbaonkpmpaaDoorWEqStruct
import Derived.Test.YtimjmbaonkpmpaaDoorWRepsOne
import Derived.Test.YtimjmbaonkpmpaaDoorWInv
import Derived.Test.YtimjmbaonkpmpaaDoorWInvWords
import Derived.Test.YtimjmbaonkpmpaaDoorWGuard
import Derived.Test.YtimjmbaonkpmpaaDoorWNEv
import Derived.Test.YtimjmbaonkpmpaaDoorWMore
namespace Go.Proofs.YtimjmbaonkpmpaaDoor.XSquashPlaces
open List (setIfInBounds_toArray set_cons_zero set_cons_succ)
open Go.RowKit Go.Proofs.YtimjmbaonkpmpaaDoorW.PrintWords Go.Proofs.YtimjmbaonkpmpaaDoorW.PrintLast Go.Proofs.YtimjmbaonkpmpaaDoorW.PrintMore
attribute [local go_sem] max2_int min2_int max_two min_two max_three min_three max_four min_four   -- for this text's walks alone
set_option linter.unusedVariables false
set_option linter.unusedSimpArgs false



def errW : Option Int → Value
  | none => .nilIface
  | some c => .iface 0 (.int .i64 c)
theorem errW_none : errW none = .nilIface := rfl
theorem errW_some (c : Int) : errW (some c) = .iface 0 (.int .i64 c) := rfl

/-- A call as one step of the walk (the print's own 'goesL_', its plain facts found by themselves). -/
theorem gL_ {P : Program} {ops : Array Oper} {Q : Exit → Act → World → Prop} {rest : List Oper} {oi : Oper} {a : Act} {w : World} (N : Option Tmp) {f : FuncId} {fn : Func} (hf : P.funcs[f]? = some fn) (args : Array Value) {az : Array Operand} {ts : Array TypeId}
    (h : Calls P f args w fun e w' => ∃ v, e = .returned v ∧ wpList P ops Q rest (a.put N v) w') (hd : oi.dst = N := by rfl) (hg : oi.guard = none := by rfl) (hname : (fn.name == "runtime.NumGoroutine") = false := by kernel_rfl) (hb : fn.body.isSome = true := by rfl)
    (hop : oi.op = .call { callee := .value (.func f), args := az, argTypes := ts } := by rfl) (hargs : az.map a.eval = args := by first | rfl | ((try simp only [List.map_toArray, List.map_cons, List.map_nil]); first | done | rfl | (simp only [List.length_drop, List.length_take]; rfl))) : wpList P ops Q (oi :: rest) a w :=
  goesL_ N hd hg hf hname hb args hop hargs h
/-- A row that is read, its length told otherwise. -/
theorem C_len_ {α : Type} {d : Kd α} {w : World} {A : Option Addr} {n n' : Nat} {xs : List α} (h : n' = n) (H : d.C w A n' xs) : d.C w A n xs := h ▸ H
/-- A short name. -/
theorem bN_ {B : Nat} {w W : World} (h : Below B w W) (n : Nat) : Below B w (W.drewN n) := pw_below_drewN h n
/-- A row of the call's own behind a store into another block. -/
theorem own_set_ {w : World} {base n : Nat} {e : TypeId} {size : Nat} {v : Value} {xs : List Value} (h : w.ownsRow base e size v n xs) {g : Nat} (hne : some g ≠ v.ownBlock) (o : Nat) (u : Value) : (w.setCell ⟨g, o, none⟩ u).ownsRow base e size v n xs :=
  own_move h (fun k hk => Below.heap_setCell w ⟨g, o, none⟩ u k (fun e => hne (by rw [hk, e])))
/-- Short names. -/
abbrev nO_ (k : Nat) (v : Value) : Prop := some k ≠ v.ownBlock
abbrev rA_ := @Kd.R_alloc
abbrev rN_ := @Kd.R_drewN
abbrev rD_ := @Kd.R_drew
abbrev sA_ := @List.setIfInBounds_toArray
abbrev sZ_ := @List.set_cons_zero
abbrev sS_ := @List.set_cons_succ
abbrev t_ := true
abbrev f_ := false
theorem pL_ {p q : Prop} (h : p) (f : p → q := by intro h_; (with_reducible repeat (first | apply rA_ | apply rN_ | apply rD_)); exact h_) : q := f h
section
variable {P : Program} {d c i : Nat} {e : TypeId} {xs ys : Array Value} {is : List Nat} {a b : Value} {r s : Bool} {w : World}
/-- Elements of arrays, compared one by one. -/
theorem eqi_last (ha : (part e xs (i * c)).run P w = .ok a w) (hb : (part e ys (i * c)).run P w = .ok b w) (he : (Op.equalIn d e a b).run P w = .ok r w) : (Op.eqItems d e c xs ys [i]).run P w = .ok r w := by
  simp only [Op.eqItems, Sem.run_bind, ha, hb, he, Result.andThen_ok]
  cases r <;> simp
theorem eqi_cons (ha : (part e xs (i * c)).run P w = .ok a w) (hb : (part e ys (i * c)).run P w = .ok b w) (he : (Op.equalIn d e a b).run P w = .ok r w) (hr : (Op.eqItems d e c xs ys is).run P w = .ok s w) : (Op.eqItems d e c xs ys (i :: is)).run P w = .ok (r && s) w := by
  simp only [Op.eqItems, Sem.run_bind, ha, hb, he, Result.andThen_ok]
  cases r
  · simp
  · simpa using hr
end
/-- An element of a row of cells, at an index. -/
theorem arr_sel_ (k : IntKind) {n : Nat} (l : List Int) (hn : l.length = n) {i : Int} (h0 : 0 ≤ i) (h1 : i < (n : Int)) : (l.map (fun x => Value.int k x)).toArray[i.toNat]? = some (.int k (rd l i)) := by
  have hl : i.toNat < l.length := by omega
  rw [List.getElem?_toArray, List.getElem?_map, List.getElem?_eq_getElem hl, Option.map_some]
  unfold rd
  rw [List.getD_eq_getElem?_getD, List.getElem?_eq_getElem hl]
  rfl
/-- Cells that lie side by side, one at an index. -/
theorem sel_cells_ {w : World} {b o : Nat} {k : IntKind} {s n : Nat} (l : List Int) (hn : l.length = n) (h : ∀ i : Nat, i < n → w.cell? ⟨b, o + (s + i), none⟩ = some (.int k (rd l (i : Int)))) (i : Int) (h0 : 0 ≤ i) (h1 : i < (n : Int)) : w.cell? ⟨b, o + (s + i.toNat), none⟩ = some (.int k (rd l i)) := by
  have := h i.toNat (by omega)
  rwa [Int.toNat_of_nonneg h0] at this
/-- A variable of many cells, written whole. -/
theorem wstore_event {P : Program} {ops : Array Oper} {Q : Exit → Act → World → Prop} {rest : List Oper} {o : Oper} {a : Act} {W : World} {t : TypeId} {p : Tmp} {v : Operand} {g : Nat} {cs old : Array Value} {t' : TypeId} (hgd : o.guard = none) (ho : o.op = .store t (.tmp p) v) (hN : o.dst = none)
    (hx : a.eval (.tmp p) = .pointer (some ⟨g, 0, none⟩)) (hy : a.eval v = .agg cs) (hg : W.heap[g]? = some (.cells old t' (0, 0))) (hi : (P.info? t).map (·.size) = some cs.size) (hold : old.toList.length = cs.toList.length) (h1 : cs.toList.all (·.oneCell') = true)
    (h : ∀ w', w'.heap[g]? = some (.cells cs t' (0, 0)) → W.grownBy w' (some g) → wpList P ops Q rest a w') : wpList P ops Q (o :: rest) a W := by
  refine wpList_plain hgd fun K hK => wp_store_row t (.tmp p) v ho g cs hx hy t' old hg hi (by simpa using hold) (by rw [← Array.all_toList]; exact h1) ?_
  rw [hN]
  refine hK _ _ (h _ (setRow_heap W g old cs t' (0, 0) hg) ⟨rfl, rfl, rfl, by simp [World.setRow], fun k _ hk => ?_⟩)
  have : k ≠ g := fun e => hk (by rw [e])
  simp only [World.setRow, Array.getElem?_modify]
  rw [if_neg (Ne.symm this)]

-- the values' own types

end Go.Proofs.YtimjmbaonkpmpaaDoor.XSquashPlaces
