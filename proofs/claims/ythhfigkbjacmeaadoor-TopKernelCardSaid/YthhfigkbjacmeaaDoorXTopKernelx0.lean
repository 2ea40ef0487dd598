-- Laid by a program of this session (wip/mkxprint.py, over the kit's print): Lean checks it.
import Derived.Test.YthhfigkbjacmeaaDoorProg
import Derived.Below
import Derived.Deep.Draws
import Derived.Deep.AppendLies
import Derived.Maps.AppendAt
import Derived.OwnWalk
import Derived.Laws.BytesArg
import Derived.Laws.MakeOwn
import Derived.Laws.OwnMore
import Derived.Deep.OwnRows
import Derived.Tactics
import Derived.Lib.ConvBytes
import Derived.Laws.Slices
import Derived.WalkKit
import Derived.KernelRfl
import Derived.RowKit3
import Derived.Deep.LoopGhost
import Derived.Deep.QuietTactic
import Derived.BigQuiet
import Derived.WideLaws
import Derived.Deep.DeepCutAuto
import Derived.Deep.CutBlock
import Derived.Deep.RegionHeld3
import Derived.Laws.Rows
import Derived.Lib.AppendStr
import Derived.ArgAppend
import Derived.Laws.IdiomCopy
import Derived.OrdersHeld
import Derived.Laws.BitsLemmas
import Derived.RowKit
import Derived.ChangeKeysEq
import Derived.Laws.Externs
import Derived.Lib.SlBytesConst
import Derived.RangeFuncBox
import Derived.RangeFuncLeaves
import Derived.Shelf.Abstract
import Derived.OwnWalkIn
import Derived.TacticsInMore
import Derived.LoopNIn
import Derived.LoopIn
import Derived.Test.YthhfigkbjacmeaaDoorWWords
import Derived.Test.YthhfigkbjacmeaaDoorWLast
import Derived.Test.YthhfigkbjacmeaaDoorWTab
import Derived.Test.YthhfigkbjacmeaaDoorWQPut
import Derived.Test.YthhfigkbjacmeaaDoorWApart
import Derived.Test.YthhfigkbjacmeaaDoorWArr
import Derived.Test.YthhfigkbjacmeaaDoorWZeros
import Derived.Test.YthhfigkbjacmeaaDoorWFoot
import Derived.Test.YthhfigkbjacmeaaDoorWKept
import Derived.Test.YthhfigkbjacmeaaDoorWShare
import Derived.Test.YthhfigkbjacmeaaDoorWN
import Derived.Test.YthhfigkbjacmeaaDoorWFootNe
import Derived.Test.YthhfigkbjacmeaaDoorWAt
import Derived.Test.YthhfigkbjacmeaaDoorWEqStruct
import Derived.Test.YthhfigkbjacmeaaDoorWRepsOne
import Derived.Test.YthhfigkbjacmeaaDoorWGuard
import Derived.Test.YthhfigkbjacmeaaDoorWNEv
import Derived.Test.YthhfigkbjacmeaaDoorWMore
namespace Go.Proofs.YthhfigkbjacmeaaDoor.XTopKernel
open List (setIfInBounds_toArray set_cons_zero set_cons_succ)
open Go.RowKit Go.Proofs.YthhfigkbjacmeaaDoorW.PrintWords Go.Proofs.YthhfigkbjacmeaaDoorW.PrintLast Go.Proofs.YthhfigkbjacmeaaDoorW.PrintMore
attribute [local go_sem] max2_int min2_int max_two min_two max_three min_three max_four min_four   -- for this text's walks alone
set_option linter.unusedVariables false
set_option linter.unusedSimpArgs false



def errW : Option Int → Value
  | none => .nilIface
  | some c => .iface 0 (.int .i64 c)
theorem errW_none : errW none = .nilIface := rfl
theorem errW_some (c : Int) : errW (some c) = .iface 0 (.int .i64 c) := rfl

/-- A call as one step of the walk (the print's own 'goesL_', its plain facts found by themselves). -/
theorem gL_ {P : Program} {ops : Array Oper} {Q : Exit → Act → World → Prop} {rest : List Oper} {oi : Oper} {a : Act} {w : World} (N : Option Tmp) {f : FuncId} {fn : Func} (hf : P.funcs[f]? = some fn) (args : Array Value) {az : Array Operand} {ts : Array TypeId}
    (h : Calls P f args w fun e w' => ∃ v, e = .returned v ∧ wpList P ops Q rest (a.put N v) w') (hd : oi.dst = N := by rfl) (hg : oi.guard = none := by rfl) (hname : (fn.name == "runtime.NumGoroutine") = false := by kernel_rfl) (hb : fn.body.isSome = true := by rfl)
    (hop : oi.op = .call { callee := .value (.func f), args := az, argTypes := ts } := by rfl) (hargs : az.map a.eval = args := by first | rfl | ((try simp only [List.map_toArray, List.map_cons, List.map_nil]); first | done | rfl | (simp only [List.length_drop, List.length_take]; rfl))) : wpList P ops Q (oi :: rest) a w :=
  goesL_ N hd hg hf hname hb args hop hargs h
/-- A row that is read, its length told otherwise. -/
theorem C_len_ {α : Type} {d : Kd α} {w : World} {A : Option Addr} {n n' : Nat} {xs : List α} (h : n' = n) (H : d.C w A n' xs) : d.C w A n xs := h ▸ H
/-- A short name. -/
theorem bN_ {B : Nat} {w W : World} (h : Below B w W) (n : Nat) : Below B w (W.drewN n) := pw_below_drewN h n
/-- A row of the call's own behind a store into another block. -/
theorem own_set_ {w : World} {base n : Nat} {e : TypeId} {size : Nat} {v : Value} {xs : List Value} (h : w.ownsRow base e size v n xs) {g : Nat} (hne : some g ≠ v.ownBlock) (o : Nat) (u : Value) : (w.setCell ⟨g, o, none⟩ u).ownsRow base e size v n xs :=
  own_move h (fun k hk => Below.heap_setCell w ⟨g, o, none⟩ u k (fun e => hne (by rw [hk, e])))
/-- Short names. -/
abbrev nO_ (k : Nat) (v : Value) : Prop := some k ≠ v.ownBlock
abbrev rA_ := @Kd.R_alloc
abbrev rN_ := @Kd.R_drewN
abbrev rD_ := @Kd.R_drew
abbrev sA_ := @List.setIfInBounds_toArray
abbrev sZ_ := @List.set_cons_zero
abbrev sS_ := @List.set_cons_succ
abbrev m0_ := @Aside0.mk
abbrev kn_ := @blk_drewN
abbrev kd_ := @blk_drew
abbrev ka_ := @blk_alloc
abbrev nl_ := @Nat.ne_of_lt
abbrev ng_ := @Nat.ne_of_gt
abbrev bl_ := @blk_lt
abbrev t_ := true
abbrev f_ := false
theorem tdq_ (x y : Int) (h : -9223372036854775808 ≤ x ∧ x ≤ 9223372036854775807 ∧ 1 ≤ y) : wrap64 (x.tdiv y) = x.tdiv y := by
  have e : x.tdiv y = if 0 ≤ x then x / y else -((-x) / y) := by
    split
    · exact Int.tdiv_eq_ediv_of_nonneg (by omega)
    · have := Int.neg_tdiv x y
      rw [Int.tdiv_eq_ediv_of_nonneg (by omega)] at this
      omega
  have b : -9223372036854775808 ≤ x.tdiv y ∧ x.tdiv y ≤ 9223372036854775807 := by
    rw [e]
    split
    · have h1 := Int.ediv_nonneg (a := x) (b := y) (by omega) (by omega)
      have h2 := Int.ediv_le_self y (a := x) (by omega)
      omega
    · have h1 := Int.ediv_nonneg (a := -x) (b := y) (by omega) (by omega)
      have h2 := Int.ediv_le_self y (a := -x) (by omega)
      omega
  unfold wrap64
  omega
theorem pQ_ {p q : Prop} (h : p) (f : p → q := by intro h_; (with_reducible repeat (first | apply Kd.Q_alloc | apply Kd.Q_drewN | apply Kd.Q_drew)); exact h_) : q := f h
theorem pH_ {p q : Prop} (h : p) (f : p → q := by intro h_; repeat (first | (with_reducible first | exact h_ | apply below_alloc | apply bN_ | apply below_drew1 | refine below_set ?_ (Aside0.out (by assumption))) | exact h_)) : q := f h
theorem pG_ {p q : Prop} (h : p) (f : p → q := by intro h_; (with_reducible repeat (first | refine blk_drewN ?_ _ | refine blk_drew ?_ | refine blk_alloc ?_ _)); exact h_) : q := f h
theorem pL_ {p q : Prop} (h : p) (f : p → q := by intro h_; (with_reducible repeat (first | apply rA_ | apply rN_ | apply rD_)); exact h_) : q := f h
section
variable {P : Program} {d c i : Nat} {e : TypeId} {xs ys : Array Value} {is : List Nat} {a b : Value} {r s : Bool} {w : World}
/-- Elements of arrays, compared one by one. -/
theorem eqi_last (ha : (part e xs (i * c)).run P w = .ok a w) (hb : (part e ys (i * c)).run P w = .ok b w) (he : (Op.equalIn d e a b).run P w = .ok r w) : (Op.eqItems d e c xs ys [i]).run P w = .ok r w := by
  simp only [Op.eqItems, Sem.run_bind, ha, hb, he, Result.andThen_ok]
  cases r <;> simp
theorem eqi_cons (ha : (part e xs (i * c)).run P w = .ok a w) (hb : (part e ys (i * c)).run P w = .ok b w) (he : (Op.equalIn d e a b).run P w = .ok r w) (hr : (Op.eqItems d e c xs ys is).run P w = .ok s w) : (Op.eqItems d e c xs ys (i :: is)).run P w = .ok (r && s) w := by
  simp only [Op.eqItems, Sem.run_bind, ha, hb, he, Result.andThen_ok]
  cases r
  · simp
  · simpa using hr
end
/-- An element of a row of cells, at an index. -/
theorem arr_sel_ (k : IntKind) {n : Nat} (l : List Int) (hn : l.length = n) {i : Int} (h0 : 0 ≤ i) (h1 : i < (n : Int)) : (l.map (fun x => Value.int k x)).toArray[i.toNat]? = some (.int k (rd l i)) := by
  have hl : i.toNat < l.length := by omega
  rw [List.getElem?_toArray, List.getElem?_map, List.getElem?_eq_getElem hl, Option.map_some]
  unfold rd
  rw [List.getD_eq_getElem?_getD, List.getElem?_eq_getElem hl]
  rfl
/-- Cells that lie side by side, one at an index. -/
theorem sel_cells_ {w : World} {b o : Nat} {k : IntKind} {s n : Nat} (l : List Int) (hn : l.length = n) (h : ∀ i : Nat, i < n → w.cell? ⟨b, o + (s + i), none⟩ = some (.int k (rd l (i : Int)))) (i : Int) (h0 : 0 ≤ i) (h1 : i < (n : Int)) : w.cell? ⟨b, o + s + i.toNat, none⟩ = some (.int k (rd l i)) := by
  have := h i.toNat (by omega)
  rwa [Int.toNat_of_nonneg h0, ← Nat.add_assoc] at this
/-- A variable of many cells, written whole. -/
theorem wstore_event {P : Program} {ops : Array Oper} {Q : Exit → Act → World → Prop} {rest : List Oper} {o : Oper} {a : Act} {W : World} {t : TypeId} {p : Tmp} {v : Operand} {g : Nat} {cs old : Array Value} {t' : TypeId} (hgd : o.guard = none) (ho : o.op = .store t (.tmp p) v) (hN : o.dst = none)
    (hx : a.eval (.tmp p) = .pointer (some ⟨g, 0, none⟩)) (hy : a.eval v = .agg cs) (hg : W.heap[g]? = some (.cells old t' (0, 0))) (hi : (P.info? t).map (·.size) = some cs.size) (hold : old.toList.length = cs.toList.length) (h1 : cs.toList.all (·.oneCell') = true)
    (h : ∀ w', w'.heap[g]? = some (.cells cs t' (0, 0)) → W.grownBy w' (some g) → wpList P ops Q rest a w') : wpList P ops Q (o :: rest) a W := by
  refine wpList_plain hgd fun K hK => wp_store_row t (.tmp p) v ho g cs hx hy t' old hg hi (by simpa using hold) (by rw [← Array.all_toList]; exact h1) ?_
  rw [hN]
  refine hK _ _ (h _ (setRow_heap W g old cs t' (0, 0) hg) ⟨rfl, rfl, rfl, by simp [World.setRow], fun k _ hk => ?_⟩)
  have : k ≠ g := fun e => hk (by rw [e])
  simp only [World.setRow, Array.getElem?_modify]
  rw [if_neg (Ne.symm this)]
/-- 's == nil' at a slice. -/
theorem eql_nil_ {P : Program} {t e : TypeId} (ht : P.underlying t = some (.slice e)) (a : Option Addr) (n c : Nat) (w : World) : (binOp .eql t (.slice a n c) (.slice none 0 0)).run P w = .ok (.bool a.isNone) w := by
  have h : ∀ d : Nat, (Op.equalIn (d + 1) t (.slice a n c) (.slice none 0 0)).run P w = .ok a.isNone w := fun d => by
    cases a <;> simp [Op.equalIn, run_underlying ht]
  have h2 : (Op.equal t (.slice a n c) (.slice none 0 0)).run P w = .ok a.isNone w := h 9999
  simp only [binOp]
  simp [h2]
/-- An array in memory, cut whole. -/
theorem slice_arr_ {P : Program} {t e : TypeId} {n : Nat} {i : TypeInfo} (ht : P.underlying t = some (.array n e)) (hi : P.info? e = some i) (hs : i.size = 1) (g o : Nat) (y : List Int) (hy : y.length = n) (W : World) :
    (Instr.sliceAt t (.pointer (some ⟨g, o, none⟩)) none none none).run P W = .ok (.slice (some ⟨g, o, none⟩) y.length y.length) W := by
  have h1 : P.arrayLen t = n := by simp [Program.arrayLen, ht]
  have h2 : P.elem t = e := by simp [Program.elem, ht]
  rw [run_sliceAt_array_all W t _ (by rw [h1, h2]; exact ht), h1, h2, hy]
  have h3 : (⟨g, o, none⟩ : Addr).add 0 = ⟨g, o, none⟩ := by simp [Addr.add]
  by_cases hn : n = 0
  · subst hn; simp [sizeOf, typeInfo, hi, slicedAt, Result.andThen]
  · simp [sizeOf, typeInfo, hi, slicedAt, Result.andThen, hn, h3]
/-- .. and read as a row. -/
theorem arr_C_ {k : IntKind} {w : World} {g : Nat} {t : TypeId} {cs : Array Value} (h : w.heap[g]? = some (.cells cs t (0, 0))) (o : Nat) (y : List Int) (hb : y.length ≤ 9223372036854775807) (hc : ∀ j : Nat, j < y.length → cs[o + j]? = some (.int k (y.getD j 0))) :
    Kd.C (Kd.int k) w (some ⟨g, o, none⟩) y.length y :=
  Kd.C_of_reads (d := (0 : Int)) (h1 := fun _ => rfl) ⟨rfl, hb, fun _ => ⟨_, rfl, fun j hj => by
    have e : (⟨g, o, none⟩ : Addr).add j = ⟨g, o + j, none⟩ := by unfold Addr.add; split <;> simp_all
    rw [e, blk_cell h, hc j hj]⟩⟩
/-- What follows is made a variable. -/
theorem wp_tail_ {P : Program} {s : Code} {Q : Exit → Act → World → Prop} {a : Act} {w : World}
    (h : ∀ K : Act → World → Prop, (∀ a' w', Q .normal a' w' → K a' w') → s.wp P (Exit.then K Q) a w) : s.wp P Q a w := by
  refine wp_mono (h (Q .normal) (fun _ _ q => q)) ?_
  intro e a' w' hq
  cases e with
  | normal => exact hq
  | exit id => exact hq
  | goto l => exact hq
  | ret => exact hq
  | panic ch => exact hq
  | outgrown => exact hq
theorem then_id_ {P : Program} {s : Code} {K : Act → World → Prop} {Q : Exit → Act → World → Prop} {a : Act} {w : World}
    (h : s.wp P (Exit.then K Q) a w) : s.wp P (Exit.then K Q) a w := h
theorem drewN_setCell_ (w : World) (n : Nat) (a : Addr) (v : Value) : (w.drewN n).setCell a v = (w.setCell a v).drewN n := rfl
/-! ### A row of the call's own, cells of which are copied over. -/
def setL_ : List Value → Nat → List Value → List Value
  | xs, _, [] => xs
  | xs, o, v :: r => setL_ (xs.set o v) (o + 1) r
theorem setL_len_ (cs : List Value) : ∀ (xs : List Value) (o : Nat), (setL_ xs o cs).length = xs.length := by
  induction cs with
  | nil => exact fun _ _ => rfl
  | cons v r ih => intro xs o; rw [setL_, ih, List.length_set]
theorem setL_out_ (cs : List Value) : ∀ (xs : List Value) (o j : Nat), (j < o ∨ o + cs.length ≤ j) → (setL_ xs o cs)[j]? = xs[j]? := by
  induction cs with
  | nil => exact fun _ _ _ _ => rfl
  | cons v r ih =>
    intro xs o j h
    simp only [List.length_cons] at h
    rw [setL_, ih _ _ _ (by omega), List.getElem?_set_ne (by omega)]
theorem setL_in_ (cs : List Value) : ∀ (xs : List Value) (o j : Nat), j < cs.length → o + cs.length ≤ xs.length → (setL_ xs o cs)[o + j]? = cs[j]? := by
  induction cs with
  | nil => intro xs o j h; exact absurd h (Nat.not_lt_zero _)
  | cons v r ih =>
    intro xs o j h hl
    simp only [List.length_cons] at h hl
    cases j with
    | zero => rw [setL_, setL_out_ _ _ _ _ (by omega), Nat.add_zero, List.getElem?_set_self (by omega)]; rfl
    | succ j => rw [setL_, show o + (j + 1) = o + 1 + j from by omega, ih _ _ _ (by omega) (by rw [List.length_set]; omega)]; rfl
theorem own_setCell_ {w : World} {base : Nat} {e : TypeId} {g n cap : Nat} {xs : List Value} (h : w.ownsRow base e 1 (.slice (some ⟨g, 0, none⟩) n cap) n xs) (o : Nat) (v : Value) :
    (w.setCell ⟨g, o, none⟩ v).ownsRow base e 1 (.slice (some ⟨g, 0, none⟩) n cap) n (xs.set o v) := by
  obtain ⟨h1, h2⟩ := h
  rcases h2 with ⟨q, _⟩ | ⟨g', cap', cur, q, hb, hh, a, b, c, d⟩
  · cases q
  · simp only [Value.slice.injEq, Option.some.injEq, Addr.mk.injEq, true_and, and_true] at q
    obtain ⟨rfl, rfl⟩ := q
    refine ⟨by rw [List.length_set]; exact h1, .inr ⟨g, cap, cur.setIfInBounds o v, rfl, hb, ?_, a, b, by simpa using c, ?_⟩⟩
    · simp [World.setCell, Array.getElem?_modify, hh]
    · rw [Array.toList_setIfInBounds, List.take_set, d]
theorem own_setCells_ {base : Nat} {e : TypeId} {g n cap : Nat} (cs : List Value) : ∀ (w : World) (xs : List Value) (o : Nat), w.ownsRow base e 1 (.slice (some ⟨g, 0, none⟩) n cap) n xs →
    (w.setCells g o cs).ownsRow base e 1 (.slice (some ⟨g, 0, none⟩) n cap) n (setL_ xs o cs) := by
  induction cs with
  | nil => exact fun w xs o h => h
  | cons v r ih => exact fun w xs o h => ih _ _ _ (own_setCell_ h o v)
theorem below_setCells_ {w0 : World} {g : Nat} (hg : w0.heap.size ≤ g) (cs : List Value) : ∀ (w : World) (o : Nat), Below w0.heap.size w0 w → Below w0.heap.size w0 (w.setCells g o cs) := by
  induction cs with
  | nil => exact fun w o h => h
  | cons v r ih => exact fun w o h => ih _ _ (below_set h hg)
theorem own_cell_ {w : World} {base : Nat} {e : TypeId} {g n cap : Nat} {xs : List Value} (h : w.ownsRow base e 1 (.slice (some ⟨g, 0, none⟩) n cap) n xs) (j : Nat) (hj : j < n) : w.cell? ⟨g, j, none⟩ = xs[j]? ∧ w.frozen? ⟨g, j, none⟩ = false ∧ base ≤ g := by
  obtain ⟨h1, h2⟩ := h
  rcases h2 with ⟨q, _⟩ | ⟨g', cap', cur, q, hb, hh, a, b, c, d⟩
  · cases q
  · simp only [Value.slice.injEq, Option.some.injEq, Addr.mk.injEq, true_and, and_true] at q
    obtain ⟨rfl, rfl⟩ := q
    refine ⟨?_, blk_frozen hh j, hb⟩
    rw [blk_cell hh j, ← d, List.getElem?_take_of_lt (by omega)]
    simp
/-- What is copied within a row of the call's own. -/
theorem own_copy_ {P : Program} {w : World} {base : Nat} {dT sT ty e : TypeId} {g n cap : Nat} {xs cs : List Value} (h : w.ownsRow base e 1 (.slice (some ⟨g, 0, none⟩) n cap) n xs) (hu : P.underlying dT = some (.slice e)) (hs : (P.info? e).map (·.size) = some 1)
    (o dl dc : Nat) (a : Addr) (sl sc : Nat) (hn : cs.length = Nat.min sl dl) (ho : o + cs.length ≤ n) (hsrc : ∀ j v, cs[j]? = some v → w.cell? (a.add j) = some v) (h1 : ∀ v ∈ cs, v.oneCell' = true) :
    (Builtin.copy_ #[dT, sT] ty #[.slice (some ⟨g, o, none⟩) dl dc, .slice (some a) sl sc]).run P w = .ok (goInt cs.length) (w.setCells g o cs) := by
  have hx : xs.length = n := by have := h.1; omega
  exact run_copy_cells w dT sT ty e g o dl dc a sl sc cs hu hs hn hsrc (fun j hj => by rw [(own_cell_ h (o + j) (by omega)).1, List.getElem?_eq_getElem (by omega)]; rfl) (fun j hj => (own_cell_ h (o + j) (by omega)).2.1) h1
/-- An operation that yields a value and changes the world. -/
theorem does_ {P : Program} {ops : Array Oper} {Q : Exit → Act → World → Prop} {oi : Oper} {N : Option Tmp} {a : Act} {w w1 : World} {K : Act → World → Prop} {v : Value} (hw : Region.wanted oi (yielded ops a.tmps) = true) (hN : oi.dst = N)
    (hrun : (execOp a.eval oi).run P w = .ok (.value v) w1) (h : K (a.put N v) w1) : if Region.wanted oi (yielded ops a.tmps) = true then Oper.wp P oi a w K Q else K (a.put N undef) w := by
  rw [if_pos hw]
  unfold Oper.wp
  rw [hrun]
  show K (a.put oi.dst v) w1
  rw [hN]
  exact h
theorem add0_ (g j : Nat) : (⟨g, 0, none⟩ : Addr).add j = ⟨g, j, none⟩ := by unfold Addr.add; split <;> simp_all

/-- The row. -/
def sqRow : List Int := [1, 2, 3, 6, 10, 16, 27, 45, 73, 120, 194, 310, 488, 747, 1101, 1546, 2047, 2549, 2994, 3348, 3607, 3785, 3901, 3975, 4022, 4050, 4068, 4079, 4085, 4089, 4092, 4093, 4094]
/-- The greatest numbers of so many bytes. -/
def topRow : List Int := [0, 255, 65535, 16777215, 4294967295, 1099511627775, 281474976710655, 72057594037927935, 18446744073709551615]
/-- The four quarters' constants. -/
def quRow : List Int := [1518500249, 1859775393, 2400959708, 3395469782]
/-- What the package variables read as. -/
structure Tab_ (w : World) : Prop where mk :: (out : ∀ i : Nat, i < 33 → w.cell? ⟨1, i, none⟩ = some (.int .i32 (rd sqRow (i : Int)))) (tops : ∀ i : Nat, i < 9 → w.cell? ⟨0, i, none⟩ = some (.int .u64 (rd topRow (i : Int)))) (qs : ∀ i : Nat, i < 4 → w.cell? ⟨2, i, none⟩ = some (.int .u32 (rd quRow (i : Int))))
theorem tab_bel {w w' : World} (h : Tab_ w) (b : Below w.heap.size w w') : Tab_ w' := by
  refine ⟨fun i hi => ?_, fun i hi => ?_, fun i hi => ?_⟩
  · have c := h.out i hi
    exact (b.cell (p := ⟨1, i, none⟩) (World.block_lt_of_cell? w _ c)).trans c
  · have c := h.tops i hi
    exact (b.cell (p := ⟨0, i, none⟩) (World.block_lt_of_cell? w _ c)).trans c
  · have c := h.qs i hi
    exact (b.cell (p := ⟨2, i, none⟩) (World.block_lt_of_cell? w _ c)).trans c
theorem tabT_ {w : World} (h : Tab_ w) (j : Int) (h0 : 0 ≤ j) (h1 : j < 9) : w.cell? ⟨0, j.toNat, none⟩ = some (.int .u64 (rd topRow j)) := by
  have := h.tops j.toNat (by omega)
  rwa [Int.toNat_of_nonneg h0] at this
theorem tabQ_ {w : World} (h : Tab_ w) (j : Int) (h0 : 0 ≤ j) (h1 : j < 4) : w.cell? ⟨2, j.toNat, none⟩ = some (.int .u32 (rd quRow j)) := by
  have := h.qs j.toNat (by omega)
  rwa [Int.toNat_of_nonneg h0] at this

theorem info5 : (Tryd.prog.info? 5).map (fun i => (i.zero, i.size, i.bytes)) = some (some (.int .u8 0), 1, 1) := by kernel_rfl
theorem info21 : (Tryd.prog.info? 21).map (fun i => (i.zero, i.size, i.bytes)) = some (some (.int .i32 0), 1, 4) := by kernel_rfl
theorem info22 : (Tryd.prog.info? 22).map (fun i => (i.zero, i.size, i.bytes)) = some (some (.slice none 0 0), 1, 24) := by kernel_rfl
-- the values' own types
def rd_L2 (xs : List (List Int)) (i : Int) : (List Int) := xs.getD i.toNat ([] : List Int)
theorem at_L2 {w : World} {A : Option Addr} {n : Nat} {xs : List (List Int)} (h : Kd.C (Kd.slice 5 (Kd.int .u8)) w A n xs) (i : Int) (h0 : 0 ≤ i) (h1 : i < n) : ∃ ad A0 c0, A = some ad ∧ w.cell? (ad.add i.toNat) = some (.slice A0 (rd_L2 xs i).length c0) ∧ (rd_L2 xs i).length ≤ c0 ∧ (Kd.int .u8).C w A0 (rd_L2 xs i).length (rd_L2 xs i) := by
  obtain ⟨ad, c, e, _, hK, hc0⟩ := Kd.C_get h ([] : List Int) i h0 h1
  have hc : ∀ j u, c[j]? = some u → w.cell? (ad.add (i.toNat * 1 + j)) = some u := hc0
  obtain ⟨A0, c0, rfl, l0, g0⟩ := hK
  exact ⟨ad, A0, c0, e, by have hq := hc 0 _ rfl; rwa [Nat.mul_one, Nat.add_zero] at hq, l0, g0⟩



end Go.Proofs.YthhfigkbjacmeaaDoor.XTopKernel
