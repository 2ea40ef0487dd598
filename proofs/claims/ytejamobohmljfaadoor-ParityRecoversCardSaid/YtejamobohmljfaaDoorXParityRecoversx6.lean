-- Laid by a program of this session (wip/mkxprint.py, over the kit's print): Lean checks it.
import Derived.Test.YtejamobohmljfaaDoorXParityRecoversx0
import Derived.Test.YtejamobohmljfaaDoorXParityRecoversx2
import Derived.Test.YtejamobohmljfaaDoorXParityRecoversx3
import Derived.Test.YtejamobohmljfaaDoorXParityRecoversx4
import Derived.Test.YtejamobohmljfaaDoorXParityRecoversx5
namespace Go.Proofs.YtejamobohmljfaaDoor.XParityRecovers
open List (setIfInBounds_toArray set_cons_zero set_cons_succ)
open Go.RowKit Go.Proofs.YtejamobohmljfaaDoorW.PrintWords Go.Proofs.YtejamobohmljfaaDoorW.PrintLast Go.Proofs.YtejamobohmljfaaDoorW.PrintMore
attribute [local go_sem] max2_int min2_int max_two min_two max_three min_three max_four min_four   -- for this text's walks alone
set_option linter.unusedVariables false
set_option linter.unusedSimpArgs false

/-! ### bitloftlaw42_ParityRecovers: function 7 -/
mutual
def bitloftlaw42_ParityRecovers.j0 : Nat → List (List Int) → List Bool → Int → Bool → List (List Int) → Bool → Option (Bool)
 | 0, _, _, _, _, _, _ => none
 | k + 1, x0, x1, x2, x7, x8, x45 => if x45 = true then (some x7) else ((parity_Protect.f k x0 x2).bind fun bt197 => ((parity_Right.f k x0 x2 bt197.1).bind fun bt201 => (if bt197.2 = 0 then (if (bt197.1.length : Int) = (x8.length : Int) then (if bt201.2 = 0 then (bitloftlaw42_ParityRecovers.j1 k x0 x1 x2 x7 bt197.1 (!bt201.1)) else (bitloftlaw42_ParityRecovers.j1 k x0 x1 x2 x7 bt197.1 true)) else (bitloftlaw42_ParityRecovers.j1 k x0 x1 x2 x7 bt197.1 true)) else (bitloftlaw42_ParityRecovers.j1 k x0 x1 x2 x7 bt197.1 true))))
def bitloftlaw42_ParityRecovers.j1 : Nat → List (List Int) → List Bool → Int → Bool → List (List Int) → Bool → Option (Bool)
 | 0, _, _, _, _, _, _ => none
 | k + 1, x0, x1, x2, x7, x10, x76 => if x76 = true then (some false) else (if 0 ≤ (x10.length : Int) then (if ((x10.length : Int) : Int).toNat ≤ 35184372088832 then (bitloftlaw42_ParityRecovers.l0 k x0 x1 x2 x7 x10 ([] : List (List Int)) (List.replicate ((x10.length : Int) : Int).toNat 0) 0) else (none)) else (none))
def bitloftlaw42_ParityRecovers.l0 : Nat → List (List Int) → List Bool → Int → Bool → List (List Int) → List (List Int) → List Int → Int → Option (Bool)
 | 0, _, _, _, _, _, _, _, _ => none
 | k + 1, x0, x1, x2, x7, x10, x14, x15, x16 => if x16 < (x0.length : Int) then (if 0 ≤ x16 then (if x16 < (x1.length : Int) then (if rdOf false x1 x16 = true then (if x14.length < 5864062014805 then (if x2 = 0 then (none) else (if 0 ≤ (wrap64 (Int.tdiv x16 x2)) then (if (wrap64 (Int.tdiv x16 x2)) < (x15.length : Int) then (bitloftlaw42_ParityRecovers.j3 k x0 x1 x2 x7 x10 (x14 ++ [(([(x16) % 256] : List Int))]) (x15.set ((wrap64 (Int.tdiv x16 x2)) : Int).toNat (wrap64 ((rd x15 (wrap64 (Int.tdiv x16 x2))) + 1))) x16) else (none)) else (none))) else (none)) else (if x14.length < 5864062014805 then (bitloftlaw42_ParityRecovers.j3 k x0 x1 x2 x7 x10 (x14 ++ [rd_L1 x0 x16]) x15 x16) else (none))) else (none)) else (none)) else (bitloftlaw42_ParityRecovers.l1 k x0 x1 x2 x7 x10 x14 x15 0)
def bitloftlaw42_ParityRecovers.j3 : Nat → List (List Int) → List Bool → Int → Bool → List (List Int) → List (List Int) → List Int → Int → Option (Bool)
 | 0, _, _, _, _, _, _, _, _ => none
 | k + 1, x0, x1, x2, x7, x10, x14, x15, x16 => bitloftlaw42_ParityRecovers.l0 k x0 x1 x2 x7 x10 x14 x15 (wrap64 (x16 + 1))
def bitloftlaw42_ParityRecovers.l1 : Nat → List (List Int) → List Bool → Int → Bool → List (List Int) → List (List Int) → List Int → Int → Option (Bool)
 | 0, _, _, _, _, _, _, _, _ => none
 | k + 1, x0, x1, x2, x7, x10, x14, x15, x17 => if x17 < (x15.length : Int) then (if 0 ≤ x17 then (if (rd x15 x17) > 1 then ((parity_Recover.f k x14 x1 x2 x10).bind fun bt220 => (if x7 = true then (some (bt220.2 == 40)) else (some false))) else (bitloftlaw42_ParityRecovers.l1 k x0 x1 x2 x7 x10 x14 x15 (wrap64 (x17 + 1)))) else (none)) else ((parity_Recover.f k x14 x1 x2 x10).bind fun bt224 => (if x7 = true then (if bt224.2 = 0 then ((bitloftref42_Same.f k bt224.1 x0).bind fun t228 => (bitloftlaw42_ParityRecovers.j5 k t228)) else (bitloftlaw42_ParityRecovers.j5 k false)) else (bitloftlaw42_ParityRecovers.j5 k false)))
def bitloftlaw42_ParityRecovers.j5 : Nat → Bool → Option (Bool)
 | 0, _ => none
 | k + 1, x6 => some x6
end
def bitloftlaw42_ParityRecovers.f (k : Nat) (l0 : List (List Int)) (l1 : List Bool) (a2 : Int) : Option (Bool) := (bitloftlaw42_alive.f).bind fun t191 => ((bitloftref42_Protect.f k l0 a2).bind fun bt192 => ((bitloftref42_Great.f k l0).bind fun t196 => (if t196 = true then (bitloftlaw42_ParityRecovers.j0 k l0 l1 a2 t191 bt192.1 true) else (if bt192.2 = 0 then (if (l1.length : Int) = (l0.length : Int) then (bitloftlaw42_ParityRecovers.j0 k l0 l1 a2 t191 bt192.1 (!t191)) else (bitloftlaw42_ParityRecovers.j0 k l0 l1 a2 t191 bt192.1 true)) else (bitloftlaw42_ParityRecovers.j0 k l0 l1 a2 t191 bt192.1 true)))))
theorem bitloftlaw42_ParityRecovers.mono_l : ∀ k, (∀ y0 y1 y2 y3 y4 y5, LeO (bitloftlaw42_ParityRecovers.j0 k y0 y1 y2 y3 y4 y5) (bitloftlaw42_ParityRecovers.j0 (k + 1) y0 y1 y2 y3 y4 y5)) ∧ (∀ y0 y1 y2 y3 y4 y5, LeO (bitloftlaw42_ParityRecovers.j1 k y0 y1 y2 y3 y4 y5) (bitloftlaw42_ParityRecovers.j1 (k + 1) y0 y1 y2 y3 y4 y5)) ∧ (∀ y0 y1 y2 y3 y4 y5 y6 y7, LeO (bitloftlaw42_ParityRecovers.l0 k y0 y1 y2 y3 y4 y5 y6 y7) (bitloftlaw42_ParityRecovers.l0 (k + 1) y0 y1 y2 y3 y4 y5 y6 y7)) ∧ (∀ y0 y1 y2 y3 y4 y5 y6 y7, LeO (bitloftlaw42_ParityRecovers.j3 k y0 y1 y2 y3 y4 y5 y6 y7) (bitloftlaw42_ParityRecovers.j3 (k + 1) y0 y1 y2 y3 y4 y5 y6 y7)) ∧ (∀ y0 y1 y2 y3 y4 y5 y6 y7, LeO (bitloftlaw42_ParityRecovers.l1 k y0 y1 y2 y3 y4 y5 y6 y7) (bitloftlaw42_ParityRecovers.l1 (k + 1) y0 y1 y2 y3 y4 y5 y6 y7)) ∧ (∀ y0, LeO (bitloftlaw42_ParityRecovers.j5 k y0) (bitloftlaw42_ParityRecovers.j5 (k + 1) y0))
 | 0 => ⟨fun _ _ _ _ _ _ r h => by simp [bitloftlaw42_ParityRecovers.j0] at h, fun _ _ _ _ _ _ r h => by simp [bitloftlaw42_ParityRecovers.j1] at h, fun _ _ _ _ _ _ _ _ r h => by simp [bitloftlaw42_ParityRecovers.l0] at h, fun _ _ _ _ _ _ _ _ r h => by simp [bitloftlaw42_ParityRecovers.j3] at h, fun _ _ _ _ _ _ _ _ r h => by simp [bitloftlaw42_ParityRecovers.l1] at h, fun _ r h => by simp [bitloftlaw42_ParityRecovers.j5] at h⟩
 | k + 1 => by
  obtain ⟨ih0, ih1, ih2, ih3, ih4, ih5⟩ := bitloftlaw42_ParityRecovers.mono_l k; refine ⟨?_, ?_, ?_, ?_, ?_, ?_⟩
  ·
   intro y0 y1 y2 y3 y4 y5
   unfold bitloftlaw42_ParityRecovers.j0
   repeat' first
   | (with_reducible exact ih0 _ _ _ _ _ _)
   | (with_reducible exact ih1 _ _ _ _ _ _)
   | (with_reducible exact ih2 _ _ _ _ _ _ _ _)
   | (with_reducible exact ih3 _ _ _ _ _ _ _ _)
   | (with_reducible exact ih4 _ _ _ _ _ _ _ _)
   | (with_reducible exact ih5 _)
   | (with_reducible exact bitloftref42_Great.mono _ _)
   | (with_reducible exact bitloftref42_Protect.mono _ _ _)
   | (with_reducible exact bitloftref42_Same.mono _ _ _)
   | (with_reducible exact parity_Protect.mono _ _ _)
   | (with_reducible exact parity_Recover.mono _ _ _ _ _)
   | (with_reducible exact parity_Right.mono _ _ _ _)
   | (with_reducible exact LeO.refl _)
   | (with_reducible exact LeO.none _)
   | (with_reducible refine LeO.ite ?_ ?_)
   | (with_reducible refine LeO.bind ?_ (fun _ => ?_))
   | exact ih0 _ _ _ _ _ _
   | exact ih1 _ _ _ _ _ _
   | exact ih2 _ _ _ _ _ _ _ _
   | exact ih3 _ _ _ _ _ _ _ _
   | exact ih4 _ _ _ _ _ _ _ _
   | exact ih5 _
   | exact bitloftref42_Great.mono _ _
   | exact bitloftref42_Protect.mono _ _ _
   | exact bitloftref42_Same.mono _ _ _
   | exact parity_Protect.mono _ _ _
   | exact parity_Recover.mono _ _ _ _ _
   | exact parity_Right.mono _ _ _ _
   | exact LeO.none _
   | refine LeO.ite ?_ ?_
   | refine LeO.bind ?_ (fun _ => ?_)
  ·
   intro y0 y1 y2 y3 y4 y5
   unfold bitloftlaw42_ParityRecovers.j1
   repeat' first
   | (with_reducible exact ih0 _ _ _ _ _ _)
   | (with_reducible exact ih1 _ _ _ _ _ _)
   | (with_reducible exact ih2 _ _ _ _ _ _ _ _)
   | (with_reducible exact ih3 _ _ _ _ _ _ _ _)
   | (with_reducible exact ih4 _ _ _ _ _ _ _ _)
   | (with_reducible exact ih5 _)
   | (with_reducible exact bitloftref42_Great.mono _ _)
   | (with_reducible exact bitloftref42_Protect.mono _ _ _)
   | (with_reducible exact bitloftref42_Same.mono _ _ _)
   | (with_reducible exact parity_Protect.mono _ _ _)
   | (with_reducible exact parity_Recover.mono _ _ _ _ _)
   | (with_reducible exact parity_Right.mono _ _ _ _)
   | (with_reducible exact LeO.refl _)
   | (with_reducible exact LeO.none _)
   | (with_reducible refine LeO.ite ?_ ?_)
   | (with_reducible refine LeO.bind ?_ (fun _ => ?_))
   | exact ih0 _ _ _ _ _ _
   | exact ih1 _ _ _ _ _ _
   | exact ih2 _ _ _ _ _ _ _ _
   | exact ih3 _ _ _ _ _ _ _ _
   | exact ih4 _ _ _ _ _ _ _ _
   | exact ih5 _
   | exact bitloftref42_Great.mono _ _
   | exact bitloftref42_Protect.mono _ _ _
   | exact bitloftref42_Same.mono _ _ _
   | exact parity_Protect.mono _ _ _
   | exact parity_Recover.mono _ _ _ _ _
   | exact parity_Right.mono _ _ _ _
   | exact LeO.none _
   | refine LeO.ite ?_ ?_
   | refine LeO.bind ?_ (fun _ => ?_)
  ·
   intro y0 y1 y2 y3 y4 y5 y6 y7
   unfold bitloftlaw42_ParityRecovers.l0
   repeat' first
   | (with_reducible exact ih0 _ _ _ _ _ _)
   | (with_reducible exact ih1 _ _ _ _ _ _)
   | (with_reducible exact ih2 _ _ _ _ _ _ _ _)
   | (with_reducible exact ih3 _ _ _ _ _ _ _ _)
   | (with_reducible exact ih4 _ _ _ _ _ _ _ _)
   | (with_reducible exact ih5 _)
   | (with_reducible exact bitloftref42_Great.mono _ _)
   | (with_reducible exact bitloftref42_Protect.mono _ _ _)
   | (with_reducible exact bitloftref42_Same.mono _ _ _)
   | (with_reducible exact parity_Protect.mono _ _ _)
   | (with_reducible exact parity_Recover.mono _ _ _ _ _)
   | (with_reducible exact parity_Right.mono _ _ _ _)
   | (with_reducible exact LeO.refl _)
   | (with_reducible exact LeO.none _)
   | (with_reducible refine LeO.ite ?_ ?_)
   | (with_reducible refine LeO.bind ?_ (fun _ => ?_))
   | exact ih0 _ _ _ _ _ _
   | exact ih1 _ _ _ _ _ _
   | exact ih2 _ _ _ _ _ _ _ _
   | exact ih3 _ _ _ _ _ _ _ _
   | exact ih4 _ _ _ _ _ _ _ _
   | exact ih5 _
   | exact bitloftref42_Great.mono _ _
   | exact bitloftref42_Protect.mono _ _ _
   | exact bitloftref42_Same.mono _ _ _
   | exact parity_Protect.mono _ _ _
   | exact parity_Recover.mono _ _ _ _ _
   | exact parity_Right.mono _ _ _ _
   | exact LeO.none _
   | refine LeO.ite ?_ ?_
   | refine LeO.bind ?_ (fun _ => ?_)
  ·
   intro y0 y1 y2 y3 y4 y5 y6 y7
   unfold bitloftlaw42_ParityRecovers.j3
   repeat' first
   | (with_reducible exact ih0 _ _ _ _ _ _)
   | (with_reducible exact ih1 _ _ _ _ _ _)
   | (with_reducible exact ih2 _ _ _ _ _ _ _ _)
   | (with_reducible exact ih3 _ _ _ _ _ _ _ _)
   | (with_reducible exact ih4 _ _ _ _ _ _ _ _)
   | (with_reducible exact ih5 _)
   | (with_reducible exact bitloftref42_Great.mono _ _)
   | (with_reducible exact bitloftref42_Protect.mono _ _ _)
   | (with_reducible exact bitloftref42_Same.mono _ _ _)
   | (with_reducible exact parity_Protect.mono _ _ _)
   | (with_reducible exact parity_Recover.mono _ _ _ _ _)
   | (with_reducible exact parity_Right.mono _ _ _ _)
   | (with_reducible exact LeO.refl _)
   | (with_reducible exact LeO.none _)
   | (with_reducible refine LeO.ite ?_ ?_)
   | (with_reducible refine LeO.bind ?_ (fun _ => ?_))
   | exact ih0 _ _ _ _ _ _
   | exact ih1 _ _ _ _ _ _
   | exact ih2 _ _ _ _ _ _ _ _
   | exact ih3 _ _ _ _ _ _ _ _
   | exact ih4 _ _ _ _ _ _ _ _
   | exact ih5 _
   | exact bitloftref42_Great.mono _ _
   | exact bitloftref42_Protect.mono _ _ _
   | exact bitloftref42_Same.mono _ _ _
   | exact parity_Protect.mono _ _ _
   | exact parity_Recover.mono _ _ _ _ _
   | exact parity_Right.mono _ _ _ _
   | exact LeO.none _
   | refine LeO.ite ?_ ?_
   | refine LeO.bind ?_ (fun _ => ?_)
  ·
   intro y0 y1 y2 y3 y4 y5 y6 y7
   unfold bitloftlaw42_ParityRecovers.l1
   repeat' first
   | (with_reducible exact ih0 _ _ _ _ _ _)
   | (with_reducible exact ih1 _ _ _ _ _ _)
   | (with_reducible exact ih2 _ _ _ _ _ _ _ _)
   | (with_reducible exact ih3 _ _ _ _ _ _ _ _)
   | (with_reducible exact ih4 _ _ _ _ _ _ _ _)
   | (with_reducible exact ih5 _)
   | (with_reducible exact bitloftref42_Great.mono _ _)
   | (with_reducible exact bitloftref42_Protect.mono _ _ _)
   | (with_reducible exact bitloftref42_Same.mono _ _ _)
   | (with_reducible exact parity_Protect.mono _ _ _)
   | (with_reducible exact parity_Recover.mono _ _ _ _ _)
   | (with_reducible exact parity_Right.mono _ _ _ _)
   | (with_reducible exact LeO.refl _)
   | (with_reducible exact LeO.none _)
   | (with_reducible refine LeO.ite ?_ ?_)
   | (with_reducible refine LeO.bind ?_ (fun _ => ?_))
   | exact ih0 _ _ _ _ _ _
   | exact ih1 _ _ _ _ _ _
   | exact ih2 _ _ _ _ _ _ _ _
   | exact ih3 _ _ _ _ _ _ _ _
   | exact ih4 _ _ _ _ _ _ _ _
   | exact ih5 _
   | exact bitloftref42_Great.mono _ _
   | exact bitloftref42_Protect.mono _ _ _
   | exact bitloftref42_Same.mono _ _ _
   | exact parity_Protect.mono _ _ _
   | exact parity_Recover.mono _ _ _ _ _
   | exact parity_Right.mono _ _ _ _
   | exact LeO.none _
   | refine LeO.ite ?_ ?_
   | refine LeO.bind ?_ (fun _ => ?_)
  ·
   intro y0
   unfold bitloftlaw42_ParityRecovers.j5
   repeat' first
   | (with_reducible exact ih0 _ _ _ _ _ _)
   | (with_reducible exact ih1 _ _ _ _ _ _)
   | (with_reducible exact ih2 _ _ _ _ _ _ _ _)
   | (with_reducible exact ih3 _ _ _ _ _ _ _ _)
   | (with_reducible exact ih4 _ _ _ _ _ _ _ _)
   | (with_reducible exact ih5 _)
   | (with_reducible exact bitloftref42_Great.mono _ _)
   | (with_reducible exact bitloftref42_Protect.mono _ _ _)
   | (with_reducible exact bitloftref42_Same.mono _ _ _)
   | (with_reducible exact parity_Protect.mono _ _ _)
   | (with_reducible exact parity_Recover.mono _ _ _ _ _)
   | (with_reducible exact parity_Right.mono _ _ _ _)
   | (with_reducible exact LeO.refl _)
   | (with_reducible exact LeO.none _)
   | (with_reducible refine LeO.ite ?_ ?_)
   | (with_reducible refine LeO.bind ?_ (fun _ => ?_))
   | exact ih0 _ _ _ _ _ _
   | exact ih1 _ _ _ _ _ _
   | exact ih2 _ _ _ _ _ _ _ _
   | exact ih3 _ _ _ _ _ _ _ _
   | exact ih4 _ _ _ _ _ _ _ _
   | exact ih5 _
   | exact bitloftref42_Great.mono _ _
   | exact bitloftref42_Protect.mono _ _ _
   | exact bitloftref42_Same.mono _ _ _
   | exact parity_Protect.mono _ _ _
   | exact parity_Recover.mono _ _ _ _ _
   | exact parity_Right.mono _ _ _ _
   | exact LeO.none _
   | refine LeO.ite ?_ ?_
   | refine LeO.bind ?_ (fun _ => ?_)
theorem bitloftlaw42_ParityRecovers.mono : ∀ a0 a1 a2 k, LeO (bitloftlaw42_ParityRecovers.f k a0 a1 a2) (bitloftlaw42_ParityRecovers.f (k + 1) a0 a1 a2) := by
 intro a0 a1 a2 k; obtain ⟨ih0, ih1, ih2, ih3, ih4, ih5⟩ := bitloftlaw42_ParityRecovers.mono_l k
 unfold bitloftlaw42_ParityRecovers.f
 repeat' first
   | (with_reducible exact ih0 _ _ _ _ _ _)
   | (with_reducible exact ih1 _ _ _ _ _ _)
   | (with_reducible exact ih2 _ _ _ _ _ _ _ _)
   | (with_reducible exact ih3 _ _ _ _ _ _ _ _)
   | (with_reducible exact ih4 _ _ _ _ _ _ _ _)
   | (with_reducible exact ih5 _)
   | (with_reducible exact bitloftref42_Great.mono _ _)
   | (with_reducible exact bitloftref42_Protect.mono _ _ _)
   | (with_reducible exact bitloftref42_Same.mono _ _ _)
   | (with_reducible exact parity_Protect.mono _ _ _)
   | (with_reducible exact parity_Recover.mono _ _ _ _ _)
   | (with_reducible exact parity_Right.mono _ _ _ _)
   | (with_reducible exact LeO.refl _)
   | (with_reducible exact LeO.none _)
   | (with_reducible refine LeO.ite ?_ ?_)
   | (with_reducible refine LeO.bind ?_ (fun _ => ?_))
   | exact ih0 _ _ _ _ _ _
   | exact ih1 _ _ _ _ _ _
   | exact ih2 _ _ _ _ _ _ _ _
   | exact ih3 _ _ _ _ _ _ _ _
   | exact ih4 _ _ _ _ _ _ _ _
   | exact ih5 _
   | exact bitloftref42_Great.mono _ _
   | exact bitloftref42_Protect.mono _ _ _
   | exact bitloftref42_Same.mono _ _ _
   | exact parity_Protect.mono _ _ _
   | exact parity_Recover.mono _ _ _ _ _
   | exact parity_Right.mono _ _ _ _
   | exact LeO.none _
   | refine LeO.ite ?_ ?_
   | refine LeO.bind ?_ (fun _ => ?_)
set_option maxHeartbeats 8000000 in
set_option maxRecDepth 100000 in
theorem bitloftlaw42_ParityRecovers.calls (k : Nat) (P0_ : Nat → Prop) (A0 : Option Addr) (c0 : Nat) (l0 : List (List Int)) (A1 : Option Addr) (c1 : Nat) (l1 : List Bool) (a2 : Int) (r : Bool) (w : World) (hs0 : Kd.V (Kd.slice 5 (Kd.int .u8)) 23 w w.heap.size (fun k_ => P0_ k_) (.slice A0 l0.length c0) l0) (hr1 : Kd.C Kd.bool w A1 l1.length l1) (hc1 : l1.length ≤ c1) (hr_ : r = true) (h : bitloftlaw42_ParityRecovers.f k l0 l1 a2 = some r) :
  Calls Tryd.prog 7 #[.slice A0 l0.length c0, .slice A1 l1.length c1, .int .i64 a2] w fun e w' => e = .returned (.bool r) ∧ Below w.heap.size w w' := by
 have HRT_ := Aside0.mk hr_; clear hr_; have HO0 := Aside0.mk (show Kd.V (Kd.slice 5 (Kd.int .u8)) 23 w w.heap.size (fun k_ => (P0_ k_ ∨ w.heap.size ≤ k_)) (.slice A0 l0.length c0) l0 from Kd.V_mono hs0 (fun k_ hk => .inl hk)); have HR1 := Aside0.mk hr1; have HC1 := Aside0.mk hc1; clear hr1 hc1; have HB := Aside0.mk (Below.refl w.heap.size w); have H : ((bitloftlaw42_alive.f).bind fun t191 => ((bitloftref42_Protect.f k l0 a2).bind fun bt192 => ((bitloftref42_Great.f k l0).bind fun t196 => (if t196 = true then (bitloftlaw42_ParityRecovers.j0 k l0 l1 a2 t191 bt192.1 true) else (if bt192.2 = 0 then (if (l1.length : Int) = (l0.length : Int) then (bitloftlaw42_ParityRecovers.j0 k l0 l1 a2 t191 bt192.1 (!t191)) else (bitloftlaw42_ParityRecovers.j0 k l0 l1 a2 t191 bt192.1 true)) else (bitloftlaw42_ParityRecovers.j0 k l0 l1 a2 t191 bt192.1 true)))))) = some r := h; clear h; replace H := Option.bind_eq_some_iff.mp H; obtain ⟨t191, A40, H⟩ := H; replace H : ((bitloftref42_Protect.f k l0 a2).bind fun bt192 => ((bitloftref42_Great.f k l0).bind fun t196 => (if t196 = true then (bitloftlaw42_ParityRecovers.j0 k l0 l1 a2 t191 bt192.1 true) else (if bt192.2 = 0 then (if (l1.length : Int) = (l0.length : Int) then (bitloftlaw42_ParityRecovers.j0 k l0 l1 a2 t191 bt192.1 (!t191)) else (bitloftlaw42_ParityRecovers.j0 k l0 l1 a2 t191 bt192.1 true)) else (bitloftlaw42_ParityRecovers.j0 k l0 l1 a2 t191 bt192.1 true))))) = some r := H; have A4 := Aside0.mk A40; clear A40; replace H := Option.bind_eq_some_iff.mp H; obtain ⟨⟨t192, t193⟩, A50, H⟩ := H; replace H : ((bitloftref42_Great.f k l0).bind fun t196 => (if t196 = true then (bitloftlaw42_ParityRecovers.j0 k l0 l1 a2 t191 t192 true) else (if t193 = 0 then (if (l1.length : Int) = (l0.length : Int) then (bitloftlaw42_ParityRecovers.j0 k l0 l1 a2 t191 t192 (!t191)) else (bitloftlaw42_ParityRecovers.j0 k l0 l1 a2 t191 t192 true)) else (bitloftlaw42_ParityRecovers.j0 k l0 l1 a2 t191 t192 true)))) = some r := H; have A5 := Aside0.mk A50; clear A50; have HC6 := Aside0.mk H; clear H
 go_enter Tryd.func7, Tryd.ntmps7
 go_upto_region 3 with (first | ((with_reducible refine gate_callee (f := 8) rfl ?_); refine gL_ (some 22) Tryd.func8 #[] ?_; (with_reducible refine (bitloftlaw42_alive.calls  t191 _ A4.out).mono ?_); rintro e w7 ⟨rfl, hb⟩; refine ⟨_, rfl, ?_⟩; have n0_ := Aside0.mk (Kd.V_below (by (with_reducible repeat (first | apply Kd.V_alloc | apply Kd.V_drewN | apply Kd.V_drew)); exact HO0.out) hb); have n1_ := Aside0.mk (below_step (pH_ HB.out) hb); clear HO0; clear HB; have HO0 := n0_; have HB := n1_; clear n0_ n1_; (try clear hb)) | ((with_reducible refine gate_callee (f := 19) rfl ?_); refine gL_ (some 26) Tryd.func19 #[.slice A0 l0.length c0, .int .i64 a2] ?_; (with_reducible refine (bitloftref42_Protect.calls k _ _ l0 a2 t192 t193 _ ?side1 ?side2 A5.out).mono ?_); (case side1 => repeat (first | exact (Kd.V_reads' HO0.out).2.2 | (with_reducible refine Kd.C_alloc ?_ _) | (with_reducible refine Kd.C_drewN ?_ _) | (with_reducible refine Kd.C_drew ?_))); (case side2 => exact (Kd.V_reads' HO0.out).2.1); rintro e w8 ⟨v194, rfl, ho0, hb⟩; refine ⟨_, rfl, ?_⟩; have n0_ := Aside0.mk (Kd.V_elder' (by (with_reducible repeat (first | apply Kd.V_alloc | apply Kd.V_drewN | apply Kd.V_drew)); exact HO0.out) (by first | exact Kd.N_base ho0 | exact Kd.N_base (Kd.S_N ho0)) hb); have n1_ := Aside0.mk (Kd.N_lower (Kd.N_mono (ok' := fun k_ => (P0_ k_ ∨ w.heap.size ≤ k_)) (Kd.S_N (Kd.S_bound ho0)) (fun k_ hk_ => (.inr (Nat.le_trans (below_size (pH_ HB.out)) hk_.2.1)))) (below_size (pH_ HB.out))); have n2_ := Aside0.mk (below_step (pH_ HB.out) hb); clear HO0; clear HB; have HO0 := n0_; have HO195 := n1_; have HB := n2_; clear n0_ n1_ n2_; (try clear hb); (try clear ho0)))
 (try simp only [Act.put, sA_, sZ_, sS_]); (with_reducible first | refine then_id_ ?_ | (refine wp_tail_ ?_; intro Kt_ hKt_))
 go_cut [45] (fun v45 wc => ∃ (kq : Nat) (x45_5 : Bool), v45 = .bool x45_5 ∧ Aside0 (bitloftlaw42_ParityRecovers.j0 kq l0 l1 a2 t191 t192 x45_5 = some r) ∧ Aside0 (kq ≤ k) ∧ Aside0 (Kd.V (Kd.slice 5 (Kd.int .u8)) 23 wc w.heap.size (fun k_ => (P0_ k_ ∨ w.heap.size ≤ k_) ∧ nO_ k_ v194) (.slice A0 l0.length c0) l0) ∧ Aside0 (Kd.N (Kd.slice 5 (Kd.int .u8)) 23 wc w.heap.size (fun k_ => (P0_ k_ ∨ w.heap.size ≤ k_)) v194 t192) ∧ Aside0 (Below w.heap.size w wc))
 case first =>
  have H := HC6.out; clear HC6; replace H := Option.bind_eq_some_iff.mp H; obtain ⟨t196, A90, H⟩ := H; replace H : (if t196 = true then (bitloftlaw42_ParityRecovers.j0 k l0 l1 a2 t191 t192 true) else (if t193 = 0 then (if (l1.length : Int) = (l0.length : Int) then (bitloftlaw42_ParityRecovers.j0 k l0 l1 a2 t191 t192 (!t191)) else (bitloftlaw42_ParityRecovers.j0 k l0 l1 a2 t191 t192 true)) else (bitloftlaw42_ParityRecovers.j0 k l0 l1 a2 t191 t192 true))) = some r := H; have A9 := Aside0.mk A90; clear A90
  by_cases c10 : t196 = true
  ·
   subst c10
   have H1 : (bitloftlaw42_ParityRecovers.j0 k l0 l1 a2 t191 t192 true) = some r := by rw [if_pos rfl] at H; exact H
   clear H; have H := H1; clear H1; have H' := Aside0.mk H; clear H
   go_wp2_with (first | ((with_reducible refine gate_callee (f := 12) rfl ?_); refine gL_ (some 30) Tryd.func12 #[.slice A0 l0.length c0] ?_; (with_reducible refine (bitloftref42_Great.calls k _ _ l0 true _ ?side1 ?side2 A9.out).mono ?_); (case side1 => repeat (first | exact (Kd.V_reads' HO0.out).2.2 | (with_reducible refine Kd.C_alloc ?_ _) | (with_reducible refine Kd.C_drewN ?_ _) | (with_reducible refine Kd.C_drew ?_))); (case side2 => exact (Kd.V_reads' HO0.out).2.1); rintro e w' ⟨rfl, ⟨nd, rfl⟩⟩; refine ⟨_, rfl, ?_⟩))
   go_meet
   case rel => exact ⟨_, (true), (by first | rfl | (simp; done) | (simp [*]; done)), H', ⟨by first | omega | exact Nat.le_refl _⟩, ⟨by (with_reducible repeat (first | apply Kd.V_alloc | apply Kd.V_drewN | apply Kd.V_drew)); exact HO0.out⟩, ⟨by (with_reducible repeat (first | apply Kd.N_alloc | apply Kd.N_drewN | apply Kd.N_drew)); exact HO195.out⟩, ⟨pH_ HB.out⟩⟩
  ·
   replace c10 := Bool.eq_false_iff.mpr c10
   subst c10
   have H1 : (if t193 = 0 then (if (l1.length : Int) = (l0.length : Int) then (bitloftlaw42_ParityRecovers.j0 k l0 l1 a2 t191 t192 (!t191)) else (bitloftlaw42_ParityRecovers.j0 k l0 l1 a2 t191 t192 true)) else (bitloftlaw42_ParityRecovers.j0 k l0 l1 a2 t191 t192 true)) = some r := by rw [if_neg (show ¬ (false = true) by decide)] at H; exact H
   clear H; have H := H1; clear H1
   by_cases c11 : t193 = 0
   ·
    rw [if_pos c11] at H; have c11b0 : (t193 == 0) = true := beq_iff_eq.mpr c11; have c11b1 : (t193 != 0) = false := bne_eq_false_iff_eq.mpr c11; clear c11; (first | rw [c11b0] | (simp only [i64_w, i32_w]; rw [c11b0]) | skip)
    by_cases c12 : (l1.length : Int) = (l0.length : Int)
    ·
     rw [if_pos c12] at H; have c12b0 : ((l1.length : Int) == (l0.length : Int)) = true := beq_iff_eq.mpr c12; have c12b1 : ((l1.length : Int) != (l0.length : Int)) = false := bne_eq_false_iff_eq.mpr c12
     have c12b2 : (l1.length == l0.length) = true := by first | simpa using c12 | (simp at c12 ⊢; omega)
     clear c12; have H' := Aside0.mk H; clear H
     go_wp2_with (first | ((with_reducible refine gate_callee (f := 12) rfl ?_); refine gL_ (some 30) Tryd.func12 #[.slice A0 l0.length c0] ?_; (with_reducible refine (bitloftref42_Great.calls k _ _ l0 false _ ?side1 ?side2 A9.out).mono ?_); (case side1 => repeat (first | exact (Kd.V_reads' HO0.out).2.2 | (with_reducible refine Kd.C_alloc ?_ _) | (with_reducible refine Kd.C_drewN ?_ _) | (with_reducible refine Kd.C_drew ?_))); (case side2 => exact (Kd.V_reads' HO0.out).2.1); rintro e w' ⟨rfl, ⟨nd, rfl⟩⟩; refine ⟨_, rfl, ?_⟩))
     (first | go_meet | (refine Met.intro ?_; go_step; (repeat apply Exists.intro); refine ⟨?rel, ?eqf_⟩; case eqf_ => ((simp only [c12b0, c11b0]) <;> rfl)))
     case rel => exact ⟨_, (!t191), (by first | rfl | (simp; done) | (simp [*]; done)), H', ⟨by first | omega | exact Nat.le_refl _⟩, ⟨by (with_reducible repeat (first | apply Kd.V_alloc | apply Kd.V_drewN | apply Kd.V_drew)); exact HO0.out⟩, ⟨by (with_reducible repeat (first | apply Kd.N_alloc | apply Kd.N_drewN | apply Kd.N_drew)); exact HO195.out⟩, ⟨pH_ HB.out⟩⟩
    ·
     rw [if_neg c12] at H; have c12b0 : ((l1.length : Int) == (l0.length : Int)) = false := beq_eq_false_iff_ne.mpr c12; have c12b1 : ((l1.length : Int) != (l0.length : Int)) = true := bne_iff_ne.mpr c12
     have c12b2 : (l1.length == l0.length) = false := by first | simpa using c12 | (simp at c12 ⊢; omega)
     have H' := Aside0.mk H; clear H
     go_wp2_with (first | ((with_reducible refine gate_callee (f := 12) rfl ?_); refine gL_ (some 30) Tryd.func12 #[.slice A0 l0.length c0] ?_; (with_reducible refine (bitloftref42_Great.calls k _ _ l0 false _ ?side1 ?side2 A9.out).mono ?_); (case side1 => repeat (first | exact (Kd.V_reads' HO0.out).2.2 | (with_reducible refine Kd.C_alloc ?_ _) | (with_reducible refine Kd.C_drewN ?_ _) | (with_reducible refine Kd.C_drew ?_))); (case side2 => exact (Kd.V_reads' HO0.out).2.1); rintro e w' ⟨rfl, ⟨nd, rfl⟩⟩; refine ⟨_, rfl, ?_⟩))
     (first | go_meet | (refine Met.intro ?_; go_step; (repeat apply Exists.intro); refine ⟨?rel, ?eqf_⟩; case eqf_ => ((simp only [c12b0, c11b0]) <;> rfl)))
     case rel => exact ⟨_, (true), (by first | rfl | (simp; done) | (simp [*]; done)), H', ⟨by first | omega | exact Nat.le_refl _⟩, ⟨by (with_reducible repeat (first | apply Kd.V_alloc | apply Kd.V_drewN | apply Kd.V_drew)); exact HO0.out⟩, ⟨by (with_reducible repeat (first | apply Kd.N_alloc | apply Kd.N_drewN | apply Kd.N_drew)); exact HO195.out⟩, ⟨pH_ HB.out⟩⟩
   ·
    rw [if_neg c11] at H; have c11b0 : (t193 == 0) = false := beq_eq_false_iff_ne.mpr c11; have c11b1 : (t193 != 0) = true := bne_iff_ne.mpr c11; (first | rw [c11b0] | (simp only [i64_w, i32_w]; rw [c11b0]) | skip); have H' := Aside0.mk H; clear H
    go_wp2_with (first | ((with_reducible refine gate_callee (f := 12) rfl ?_); refine gL_ (some 30) Tryd.func12 #[.slice A0 l0.length c0] ?_; (with_reducible refine (bitloftref42_Great.calls k _ _ l0 false _ ?side1 ?side2 A9.out).mono ?_); (case side1 => repeat (first | exact (Kd.V_reads' HO0.out).2.2 | (with_reducible refine Kd.C_alloc ?_ _) | (with_reducible refine Kd.C_drewN ?_ _) | (with_reducible refine Kd.C_drew ?_))); (case side2 => exact (Kd.V_reads' HO0.out).2.1); rintro e w' ⟨rfl, ⟨nd, rfl⟩⟩; refine ⟨_, rfl, ?_⟩))
    (first | go_meet | (refine Met.intro ?_; go_step; (repeat apply Exists.intro); refine ⟨?rel, ?eqf_⟩; case eqf_ => ((simp only [c11b0]) <;> rfl)))
    case rel => exact ⟨_, (true), (by first | rfl | (simp; done) | (simp [*]; done)), H', ⟨by first | omega | exact Nat.le_refl _⟩, ⟨by (with_reducible repeat (first | apply Kd.V_alloc | apply Kd.V_drewN | apply Kd.V_drew)); exact HO0.out⟩, ⟨by (with_reducible repeat (first | apply Kd.N_alloc | apply Kd.N_drewN | apply Kd.N_drew)); exact HO195.out⟩, ⟨pH_ HB.out⟩⟩
 case rest =>
  (try (refine hKt_ _ _ ?_; clear hKt_; clear Kt_)); clear HC6
  try clear c1
  try clear p2
  try clear c7
  try clear c8
  try clear c10
  try clear c11
  try clear c11b0
  try clear c11b1
  try clear c12
  try clear c12b0
  try clear c12b1
  try clear c12b2
  obtain ⟨kq, x45_5, rfl, HA, HJ5, HO_0, HO_8, HB⟩ := hcut
  cases kq with
  | zero => exact absurd HA.out (by simp [bitloftlaw42_ParityRecovers.j0])
  | succ kj5 =>
   have H := HA.out; clear HA; simp only [bitloftlaw42_ParityRecovers.j0] at H
   by_cases c13 : x45_5 = true
   ·
    subst c13
    have H1 : (some t191) = some r := by rw [if_pos rfl] at H; exact H
    clear H; have H := H1; clear H1; obtain rfl := Option.some.inj H
    go_wp2
    go_ret
    exact ⟨by first | rfl | (simp [errW_none, errW_some] <;> rfl) | (simp [*, errW_none, errW_some] <;> rfl), pH_ HB.out⟩
   ·
    replace c13 := Bool.eq_false_iff.mpr c13
    subst c13
    have H1 : ((parity_Protect.f kj5 l0 a2).bind fun bt197 => ((parity_Right.f kj5 l0 a2 bt197.1).bind fun bt201 => (if bt197.2 = 0 then (if (bt197.1.length : Int) = (t192.length : Int) then (if bt201.2 = 0 then (bitloftlaw42_ParityRecovers.j1 kj5 l0 l1 a2 t191 bt197.1 (!bt201.1)) else (bitloftlaw42_ParityRecovers.j1 kj5 l0 l1 a2 t191 bt197.1 true)) else (bitloftlaw42_ParityRecovers.j1 kj5 l0 l1 a2 t191 bt197.1 true)) else (bitloftlaw42_ParityRecovers.j1 kj5 l0 l1 a2 t191 bt197.1 true)))) = some r := by rw [if_neg (show ¬ (false = true) by decide)] at H; exact H
    clear H; have H := H1; clear H1; replace H := Option.bind_eq_some_iff.mp H; obtain ⟨⟨t197, t200⟩, A140, H⟩ := H; replace H : ((parity_Right.f kj5 l0 a2 t197).bind fun bt201 => (if t200 = 0 then (if (t197.length : Int) = (t192.length : Int) then (if bt201.2 = 0 then (bitloftlaw42_ParityRecovers.j1 kj5 l0 l1 a2 t191 t197 (!bt201.1)) else (bitloftlaw42_ParityRecovers.j1 kj5 l0 l1 a2 t191 t197 true)) else (bitloftlaw42_ParityRecovers.j1 kj5 l0 l1 a2 t191 t197 true)) else (bitloftlaw42_ParityRecovers.j1 kj5 l0 l1 a2 t191 t197 true))) = some r := H; have A14 := Aside0.mk A140; clear A140; replace H := Option.bind_eq_some_iff.mp H; obtain ⟨⟨t201, t202⟩, A150, H⟩ := H; replace H : (if t200 = 0 then (if (t197.length : Int) = (t192.length : Int) then (if t202 = 0 then (bitloftlaw42_ParityRecovers.j1 kj5 l0 l1 a2 t191 t197 (!t201)) else (bitloftlaw42_ParityRecovers.j1 kj5 l0 l1 a2 t191 t197 true)) else (bitloftlaw42_ParityRecovers.j1 kj5 l0 l1 a2 t191 t197 true)) else (bitloftlaw42_ParityRecovers.j1 kj5 l0 l1 a2 t191 t197 true)) = some r := H; have A15 := Aside0.mk A150; clear A150; have HC16 := Aside0.mk H; clear H
    go_upto_region 7 with (first | ((with_reducible refine gate_callee (f := 18) rfl ?_); refine gL_ (some 50) Tryd.func18 #[.slice A0 l0.length c0, .int .i64 a2] ?_; (with_reducible refine (parity_Protect.calls kj5 (fun k_ => ((P0_ k_ ∨ w.heap.size ≤ k_) ∧ nO_ k_ v194)) _ _ l0 a2 t197 t200 _ ?side1 A14.out).mono ?_); (case side1 => exact HO_0.out); rintro e w17 ⟨v198, rfl, ho0, hb⟩; refine ⟨_, rfl, ?_⟩; have n0_ := Aside0.mk (Kd.V_elder' (by (with_reducible repeat (first | apply Kd.V_alloc | apply Kd.V_drewN | apply Kd.V_drew)); exact HO_0.out) (by first | exact Kd.N_base ho0 | exact Kd.N_base (Kd.S_N ho0)) hb); have n1_ := Aside0.mk (Kd.N_elder' (by (with_reducible repeat (first | apply Kd.N_alloc | apply Kd.N_drewN | apply Kd.N_drew)); exact HO_8.out) (by first | exact Kd.N_base ho0 | exact Kd.N_base (Kd.S_N ho0)) hb); have n2_ := Aside0.mk (Kd.N_lower (Kd.N_mono (ok' := fun k_ => (P0_ k_ ∨ w.heap.size ≤ k_) ∧ nO_ k_ v194) ho0 (fun k_ hk_ => ⟨Or.elim hk_ (fun hs_ => hs_.1) (fun hn_ => (.inr (Nat.le_trans (below_size (pH_ HB.out)) hn_))), Or.elim hk_ (fun hs_ => hs_.2) (fun hn_ => (Kd.fresh' (Kd.N_lt (by (with_reducible repeat (first | apply Kd.N_alloc | apply Kd.N_drewN | apply Kd.N_drew)); exact HO_8.out)) k_ hn_))⟩)) (below_size (pH_ HB.out))); have n3_ := Aside0.mk (below_step (pH_ HB.out) hb); clear HO_0; clear HO_8; clear HB; have HO_0 := n0_; have HO_8 := n1_; have HO199 := n2_; have HB := n3_; clear n0_ n1_ n2_ n3_; (try clear hb); (try clear ho0); obtain ⟨Ao18, co18, eo18⟩ := Kd.N_slice HO199.out; subst eo18) | ((with_reducible refine gate_callee (f := 13) rfl ?_); refine gL_ (some 57) Tryd.func13 #[.slice A0 l0.length c0, .int .i64 a2, .slice Ao18 t197.length co18] ?_; (with_reducible refine (parity_Right.calls kj5 _ _ l0 a2 _ _ t197 t201 t202 _ ?side1 ?side2 ?side3 ?side4 A15.out).mono ?_); (case side1 => repeat (first | exact (Kd.V_reads' HO_0.out).2.2 | (with_reducible refine Kd.C_alloc ?_ _) | (with_reducible refine Kd.C_drewN ?_ _) | (with_reducible refine Kd.C_drew ?_))); (case side2 => exact (Kd.V_reads' HO_0.out).2.1); (case side3 => repeat (first | exact (Kd.N_reads' HO199.out).2.2 | (with_reducible refine Kd.C_alloc ?_ _) | (with_reducible refine Kd.C_drewN ?_ _) | (with_reducible refine Kd.C_drew ?_))); (case side4 => exact (Kd.N_reads' HO199.out).2.1); rintro e w19 ⟨rfl, hb⟩; refine ⟨_, rfl, ?_⟩; have n0_ := Aside0.mk (Kd.V_below (by (with_reducible repeat (first | apply Kd.V_alloc | apply Kd.V_drewN | apply Kd.V_drew)); exact HO_0.out) hb); have n1_ := Aside0.mk (Kd.N_below (by (with_reducible repeat (first | apply Kd.N_alloc | apply Kd.N_drewN | apply Kd.N_drew)); exact HO_8.out) hb); have n2_ := Aside0.mk (Kd.N_below (by (with_reducible repeat (first | apply Kd.N_alloc | apply Kd.N_drewN | apply Kd.N_drew)); exact HO199.out) hb); have n3_ := Aside0.mk (below_step (pH_ HB.out) hb); clear HO_0; clear HO_8; clear HO199; clear HB; have HO_0 := n0_; have HO_8 := n1_; have HO199 := n2_; have HB := n3_; clear n0_ n1_ n2_ n3_; (try clear hb)))
    (try simp only [Act.put, sA_, sZ_, sS_]); (with_reducible first | refine then_id_ ?_ | (refine wp_tail_ ?_; intro Kt_ hKt_))
    go_cut [76] (fun v76 wc => ∃ (kq : Nat) (x76_15 : Bool), v76 = .bool x76_15 ∧ Aside0 (bitloftlaw42_ParityRecovers.j1 kq l0 l1 a2 t191 t197 x76_15 = some r) ∧ Aside0 (kq ≤ kj5) ∧ Aside0 (Kd.V (Kd.slice 5 (Kd.int .u8)) 23 wc w.heap.size (fun k_ => (P0_ k_ ∨ w.heap.size ≤ k_) ∧ some k_ ≠ ((.slice Ao18 t197.length co18) : Value).ownBlock) (.slice A0 l0.length c0) l0) ∧ Aside0 (Kd.N (Kd.slice 5 (Kd.int .u8)) 23 wc w.heap.size (fun k_ => (P0_ k_ ∨ w.heap.size ≤ k_)) (.slice Ao18 t197.length co18) t197) ∧ Aside0 (Below w.heap.size w wc))
    case first =>
     have H := HC16.out; clear HC16
     by_cases c20 : t200 = 0
     ·
      rw [if_pos c20] at H; have c20b0 : (t200 == 0) = true := beq_iff_eq.mpr c20; have c20b1 : (t200 != 0) = false := bne_eq_false_iff_eq.mpr c20; clear c20; (first | rw [c20b0] | (simp only [i64_w, i32_w]; rw [c20b0]) | skip)
      by_cases c21 : (t197.length : Int) = (t192.length : Int)
      ·
       rw [if_pos c21] at H; have c21b0 : ((t197.length : Int) == (t192.length : Int)) = true := beq_iff_eq.mpr c21; have c21b1 : ((t197.length : Int) != (t192.length : Int)) = false := bne_eq_false_iff_eq.mpr c21
       have c21b2 : (t197.length == t192.length) = true := by first | simpa using c21 | (simp at c21 ⊢; omega)
       clear c21
       by_cases c22 : t202 = 0
       ·
        rw [if_pos c22] at H; have c22b0 : (t202 == 0) = true := beq_iff_eq.mpr c22; have c22b1 : (t202 != 0) = false := bne_eq_false_iff_eq.mpr c22; clear c22; have H' := Aside0.mk H; clear H; obtain ⟨Ao23, co23, eo23⟩ := Kd.N_slice HO_8.out
        subst eo23
        go_wp2
        (first | go_meet | (refine Met.intro ?_; go_step; (repeat apply Exists.intro); refine ⟨?rel, ?eqf_⟩; case eqf_ => ((simp only [c22b0, c21b0, c20b0]) <;> rfl)))
        case rel => exact ⟨_, (!t201), (by first | rfl | (simp; done) | (simp [*]; done)), H', ⟨by have := HJ5.out; first | omega | exact Nat.le_refl _⟩, ⟨by (with_reducible repeat (first | apply Kd.V_alloc | apply Kd.V_drewN | apply Kd.V_drew)); exact Kd.V_mono HO_0.out (fun _ hk => ⟨hk.1.1, hk.2⟩)⟩, ⟨by (with_reducible repeat (first | apply Kd.N_alloc | apply Kd.N_drewN | apply Kd.N_drew)); exact Kd.N_mono HO199.out (fun _ hk => hk.1)⟩, ⟨pH_ HB.out⟩⟩
       ·
        rw [if_neg c22] at H; have c22b0 : (t202 == 0) = false := beq_eq_false_iff_ne.mpr c22; have c22b1 : (t202 != 0) = true := bne_iff_ne.mpr c22; exact absurd (H.trans (congrArg some HRT_.out)) (by first | (simp; done) | (generalize kj5 = k_; cases k_ <;> simp [bitloftlaw42_ParityRecovers.j0, bitloftlaw42_ParityRecovers.j1, bitloftlaw42_ParityRecovers.l0, bitloftlaw42_ParityRecovers.j3, bitloftlaw42_ParityRecovers.l1, bitloftlaw42_ParityRecovers.j5]))
      ·
       rw [if_neg c21] at H; have c21b0 : ((t197.length : Int) == (t192.length : Int)) = false := beq_eq_false_iff_ne.mpr c21; have c21b1 : ((t197.length : Int) != (t192.length : Int)) = true := bne_iff_ne.mpr c21
       have c21b2 : (t197.length == t192.length) = false := by first | simpa using c21 | (simp at c21 ⊢; omega)
       exact absurd (H.trans (congrArg some HRT_.out)) (by first | (simp; done) | (generalize kj5 = k_; cases k_ <;> simp [bitloftlaw42_ParityRecovers.j0, bitloftlaw42_ParityRecovers.j1, bitloftlaw42_ParityRecovers.l0, bitloftlaw42_ParityRecovers.j3, bitloftlaw42_ParityRecovers.l1, bitloftlaw42_ParityRecovers.j5]))
     ·
      rw [if_neg c20] at H; have c20b0 : (t200 == 0) = false := beq_eq_false_iff_ne.mpr c20; have c20b1 : (t200 != 0) = true := bne_iff_ne.mpr c20; (first | rw [c20b0] | (simp only [i64_w, i32_w]; rw [c20b0]) | skip); exact absurd (H.trans (congrArg some HRT_.out)) (by first | (simp; done) | (generalize kj5 = k_; cases k_ <;> simp [bitloftlaw42_ParityRecovers.j0, bitloftlaw42_ParityRecovers.j1, bitloftlaw42_ParityRecovers.l0, bitloftlaw42_ParityRecovers.j3, bitloftlaw42_ParityRecovers.l1, bitloftlaw42_ParityRecovers.j5]))
    case rest =>
     (try (refine hKt_ _ _ ?_; clear hKt_; clear Kt_)); clear HC16
     try clear c1
     try clear c2
     try clear p2
     try clear c7
     try clear c8
     try clear c10
     try clear c11
     try clear c11b0
     try clear c11b1
     try clear c12
     try clear c12b0
     try clear c12b1
     try clear c12b2
     try clear c13
     try clear c18
     try clear c19
     try clear c20
     try clear c20b0
     try clear c20b1
     try clear c21
     try clear c21b0
     try clear c21b1
     try clear c21b2
     try clear c22
     try clear c22b0
     try clear c22b1
     try clear p2
     obtain ⟨kq, x76_15, rfl, HA, HJ15, HO_0, HO_10, HB⟩ := hcut
     cases kq with
     | zero => exact absurd HA.out (by simp [bitloftlaw42_ParityRecovers.j1])
     | succ kj15 =>
      have H := HA.out; clear HA; simp only [bitloftlaw42_ParityRecovers.j1] at H
      by_cases c24 : x76_15 = true
      ·
       subst c24
       have H1 : (some false) = some r := by rw [if_pos rfl] at H; exact H
       clear H; have H := H1; clear H1; exact absurd (H.trans (congrArg some HRT_.out)) (by simp)
      ·
       replace c24 := Bool.eq_false_iff.mpr c24
       subst c24
       have H1 : (if 0 ≤ (t197.length : Int) then (if ((t197.length : Int) : Int).toNat ≤ 35184372088832 then (bitloftlaw42_ParityRecovers.l0 kj15 l0 l1 a2 t191 t197 ([] : List (List Int)) (List.replicate ((t197.length : Int) : Int).toNat 0) 0) else (none)) else (none)) = some r := by rw [if_neg (show ¬ (false = true) by decide)] at H; exact H
       clear H; have H := H1; clear H1
       by_cases c25 : 0 ≤ (t197.length : Int)
       ·
        rw [if_pos c25] at H; have c25b0 := eq_true c25; have c25b1 : decide (0 ≤ (t197.length : Int)) = true := decide_eq_true c25; clear c25
        by_cases c26 : ((t197.length : Int) : Int).toNat ≤ 35184372088832
        ·
         rw [if_pos c26] at H; have c26b0 := eq_true c26; have c26b1 : decide (((t197.length : Int) : Int).toNat ≤ 35184372088832) = true := decide_eq_true c26; clear c26; obtain ⟨y203, hy203⟩ : ∃ y_ : List Int, y_ = (List.replicate ((t197.length : Int) : Int).toNat 0) := ⟨_, rfl⟩
         replace H : (bitloftlaw42_ParityRecovers.l0 kj15 l0 l1 a2 t191 t197 ([] : List (List Int)) y203 0) = some r := by first | (rw [hy203]; with_reducible exact H) | (have H2_ := (Option.bind_some _ _).symm.trans H; rw [hy203]; with_reducible exact H2_) | (have H2_ := (Option.bind_some _ _).symm.trans H; with_reducible exact H2_) | with_reducible exact H | (rw [hy203]; exact H) | exact H
         have Ny203 := Aside0.mk hy203; clear hy203; have H' := Aside0.mk H; clear H
         go_wp2_with (first | ((with_reducible refine gate_dst (N := 79) rfl ?_); (try (refine gate_guard (by rfl) ?_; dsimp only)); refine Kd.R_make (Kd.int .i64) _ 3 rfl (N := 79) rfl 44 _ _ rfl (t197.length : Int) rfl rfl Tryd.underlying44 (.int .i64 0) 8 info3 rfl (by decide) (by omega) 0 (ok := fun _ => True) (okp := fun _ => True) rfl (fun _ hk => hk) trivial (of_decide_eq_true (by first | (with_reducible assumption) | assumption)) (Nat.le_trans (Nat.mul_le_mul_right _ (of_decide_eq_true (by first | (with_reducible assumption) | assumption) : (t197.length : Int).toNat ≤ 35184372088832)) (by omega)) (Below.refl _ _) (Nat.le_refl _) ?_; intro v204 w27 ho28 hb hg_ hnew_; clear hg_ hnew_; (first | rw [← Ny203.out] at ho28 | (simp only [Int.reduceToNat] at ho28; rw [← Ny203.out] at ho28)); have n0_ := Aside0.mk (Kd.V_elder' (by (with_reducible repeat (first | apply Kd.V_alloc | apply Kd.V_drewN | apply Kd.V_drew)); exact HO_0.out) (Kd.R_base ho28) hb); have n1_ := Aside0.mk (Kd.N_elder' (by (with_reducible repeat (first | apply Kd.N_alloc | apply Kd.N_drewN | apply Kd.N_drew)); exact HO_10.out) (Kd.R_base ho28) hb); have n2_ := Aside0.mk (Kd.R_lower (Kd.R_newM (M := fun k_ => (w.heap.size ≤ k_)) ho28 (below_size (pH_ HB.out)) (fun k_ h_ => h_)) (below_size (pH_ HB.out))); have n3_ := Aside0.mk (below_step (pH_ HB.out) hb); clear HO_0; clear HO_10; clear HB; have HO_0 := n0_; have HO_10 := n1_; have HO205 := n2_; have HB := n3_; clear n0_ n1_ n2_ n3_; clear hb ho28))
         go_loopg [14, 16] kj15 (fun kq v14 v16 w' => ∃ (x14_3 : List (List Int)) (x15_3 : List Int) (x16_3 : Int), v16 = .int .i64 x16_3 ∧ Aside0 (bitloftlaw42_ParityRecovers.l0 kq l0 l1 a2 t191 t197 x14_3 x15_3 x16_3 = some r) ∧ Aside0 (kq ≤ kj15) ∧ Aside0 (Kd.V (Kd.slice 5 (Kd.int .u8)) 23 w' w.heap.size (fun k_ => (P0_ k_ ∨ w.heap.size ≤ k_) ∧ some k_ ≠ ((.slice Ao18 t197.length co18) : Value).ownBlock ∧ nO_ k_ v14 ∧ nO_ k_ v204) (.slice A0 l0.length c0) l0) ∧ Aside0 (Kd.N (Kd.slice 5 (Kd.int .u8)) 23 w' w.heap.size (fun k_ => (P0_ k_ ∨ w.heap.size ≤ k_) ∧ nO_ k_ v14 ∧ nO_ k_ v204) (.slice Ao18 t197.length co18) t197) ∧ Aside0 (Kd.N (Kd.slice 5 (Kd.int .u8)) 23 w' w.heap.size (fun k_ => (P0_ k_ ∨ w.heap.size ≤ k_) ∧ some k_ ≠ ((.slice Ao18 t197.length co18) : Value).ownBlock ∧ nO_ k_ v204) v14 x14_3) ∧ Aside0 (Kd.R (Kd.int .i64) 3 w' w.heap.size (fun k_ => (w.heap.size ≤ k_)) v204 x15_3) ∧ Aside0 (Below w.heap.size w w'))
         case atStart => exact ⟨(([] : List (List Int))), (y203), (0), (by first | rfl | (simp; done) | (simp [*]; done)), H', ⟨Nat.le_refl _⟩, ⟨by (with_reducible repeat (first | apply Kd.V_alloc | apply Kd.V_drewN | apply Kd.V_drew)); exact Kd.V_mono HO_0.out (fun _ hk => ⟨hk.1.1, ⟨hk.1.2, ⟨(by simp [Value.ownBlock]), hk.2⟩⟩⟩)⟩, ⟨by (with_reducible repeat (first | apply Kd.N_alloc | apply Kd.N_drewN | apply Kd.N_drew)); exact Kd.N_mono HO_10.out (fun _ hk => ⟨hk.1, ⟨(by simp [Value.ownBlock]), hk.2⟩⟩)⟩, ⟨by first | exact Kd.S_nil _ _ _ _ _ | exact Kd.N_nil _ _ _ _ _ | exact Kd.V_nil _ _ _ _ _ | exact Kd.Q_nil _ _ _ _ _ | exact Kd.R_nil _ _ _ _ _⟩, ⟨by (with_reducible repeat (first | apply rA_ | apply rN_ | apply rD_)); exact Kd.R_mono HO205.out (fun _ hk => hk.1)⟩, ⟨pH_ HB.out⟩⟩
         case round =>
          clear H'
          try clear c1
          try clear c2
          try clear p2
          try clear c7
          try clear c8
          try clear c10
          try clear c11
          try clear c11b0
          try clear c11b1
          try clear c12
          try clear c12b0
          try clear c12b1
          try clear c12b2
          try clear c13
          try clear c18
          try clear c19
          try clear c20
          try clear c20b0
          try clear c20b1
          try clear c21
          try clear c21b0
          try clear c21b1
          try clear c21b2
          try clear c22
          try clear c22b0
          try clear c22b1
          try clear c24
          try clear c25
          try clear c25b0
          try clear c25b1
          try clear c26
          try clear c26b0
          try clear c26b1
          try clear p2
          obtain ⟨x14_3, x15_3, x16_3, rfl, HA, HK3, HO_0, HO_10, HO_14, HO_15, HB⟩ := hrel
          cases gk with
          | zero => exact absurd HA.out (by simp [bitloftlaw42_ParityRecovers.l0])
          | succ k3 =>
           have H := HA.out; clear HA; simp only [bitloftlaw42_ParityRecovers.l0] at H
           by_cases c29 : x16_3 < (l0.length : Int)
           ·
            rw [if_pos c29] at H; have c29b0 : decide (x16_3 < (l0.length : Int)) = true := decide_eq_true c29; clear c29; have HC30 := Aside0.mk H; clear H
            go_upto_block 1 with (fail)
            (with_reducible first | refine then_id_ ?_ | (refine wp_tail_ ?_; intro Kt_ hKt_))
            go_cut [14] (fun v14 wc => ∃ (kq : Nat) (x14_29 : List (List Int)) (x15_29 : List Int), Aside0 (bitloftlaw42_ParityRecovers.j3 kq l0 l1 a2 t191 t197 x14_29 x15_29 x16_3 = some r) ∧ Aside0 (kq ≤ k3) ∧ Aside0 (Kd.V (Kd.slice 5 (Kd.int .u8)) 23 wc w.heap.size (fun k_ => (P0_ k_ ∨ w.heap.size ≤ k_) ∧ some k_ ≠ ((.slice Ao18 t197.length co18) : Value).ownBlock ∧ nO_ k_ v14 ∧ nO_ k_ v204) (.slice A0 l0.length c0) l0) ∧ Aside0 (Kd.N (Kd.slice 5 (Kd.int .u8)) 23 wc w.heap.size (fun k_ => (P0_ k_ ∨ w.heap.size ≤ k_) ∧ nO_ k_ v14 ∧ nO_ k_ v204) (.slice Ao18 t197.length co18) t197) ∧ Aside0 (Kd.N (Kd.slice 5 (Kd.int .u8)) 23 wc w.heap.size (fun k_ => (P0_ k_ ∨ w.heap.size ≤ k_) ∧ some k_ ≠ ((.slice Ao18 t197.length co18) : Value).ownBlock ∧ nO_ k_ v204) v14 x14_29) ∧ Aside0 (Kd.R (Kd.int .i64) 3 wc w.heap.size (fun k_ => (w.heap.size ≤ k_)) v204 x15_29) ∧ Aside0 (Below w.heap.size w wc))
            case first =>
             have H := HC30.out; clear HC30
             by_cases c31 : 0 ≤ x16_3
             ·
              rw [if_pos c31] at H; have c31b0 : decide (0 ≤ x16_3) = true := decide_eq_true c31; clear c31; (first | rw [c31b0] | (simp only [i64_w, i32_w]; rw [c31b0]) | skip)
              by_cases c32 : x16_3 < (l1.length : Int)
              ·
               rw [if_pos c32] at H; have c32b0 : decide (x16_3 < (l1.length : Int)) = true := decide_eq_true c32; clear c32; obtain ⟨bq33, hbq33⟩ : ∃ b_ : Bool, b_ = (rdOf false l1 x16_3) := ⟨_, rfl⟩
               replace H : (if bq33 = true then (if x14_3.length < 5864062014805 then (if a2 = 0 then (none) else (if 0 ≤ (wrap64 (Int.tdiv x16_3 a2)) then (if (wrap64 (Int.tdiv x16_3 a2)) < (x15_3.length : Int) then (bitloftlaw42_ParityRecovers.j3 k3 l0 l1 a2 t191 t197 (x14_3 ++ [(([(x16_3) % 256] : List Int))]) (x15_3.set ((wrap64 (Int.tdiv x16_3 a2)) : Int).toNat (wrap64 ((rd x15_3 (wrap64 (Int.tdiv x16_3 a2))) + 1))) x16_3) else (none)) else (none))) else (none)) else (if x14_3.length < 5864062014805 then (bitloftlaw42_ParityRecovers.j3 k3 l0 l1 a2 t191 t197 (x14_3 ++ [rd_L1 l0 x16_3]) x15_3 x16_3) else (none))) = some r := by rw [← hbq33] at H; exact H
               have Nbq33 := Aside0.mk hbq33; clear hbq33
               by_cases c34 : bq33 = true
               ·
                subst c34
                have H1 : (if x14_3.length < 5864062014805 then (if a2 = 0 then (none) else (if 0 ≤ (wrap64 (Int.tdiv x16_3 a2)) then (if (wrap64 (Int.tdiv x16_3 a2)) < (x15_3.length : Int) then (bitloftlaw42_ParityRecovers.j3 k3 l0 l1 a2 t191 t197 (x14_3 ++ [(([(x16_3) % 256] : List Int))]) (x15_3.set ((wrap64 (Int.tdiv x16_3 a2)) : Int).toNat (wrap64 ((rd x15_3 (wrap64 (Int.tdiv x16_3 a2))) + 1))) x16_3) else (none)) else (none))) else (none)) = some r := by rw [if_pos rfl] at H; exact H
                clear H; have H := H1; clear H1; obtain ⟨y211, hy211⟩ : ∃ y_ : List Int, y_ = (([(x16_3) % 256] : List Int)) := ⟨_, rfl⟩
                replace H : (if x14_3.length < 5864062014805 then (if a2 = 0 then (none) else (if 0 ≤ (wrap64 (Int.tdiv x16_3 a2)) then (if (wrap64 (Int.tdiv x16_3 a2)) < (x15_3.length : Int) then (bitloftlaw42_ParityRecovers.j3 k3 l0 l1 a2 t191 t197 (x14_3 ++ [y211]) (x15_3.set ((wrap64 (Int.tdiv x16_3 a2)) : Int).toNat (wrap64 ((rd x15_3 (wrap64 (Int.tdiv x16_3 a2))) + 1))) x16_3) else (none)) else (none))) else (none)) = some r := by first | (rw [hy211]; with_reducible exact H) | (have H2_ := (Option.bind_some _ _).symm.trans H; rw [hy211]; with_reducible exact H2_) | (have H2_ := (Option.bind_some _ _).symm.trans H; with_reducible exact H2_) | with_reducible exact H | (rw [hy211]; exact H) | exact H
                have Ny211 := Aside0.mk hy211; clear hy211
                by_cases c35 : x14_3.length < 5864062014805
                ·
                 rw [if_pos c35] at H; have LMc35 := Aside0.mk c35; clear c35; obtain ⟨y214, hy214⟩ : ∃ y_ : List (List Int), y_ = (x14_3 ++ [y211]) := ⟨_, rfl⟩
                 replace H : (if a2 = 0 then (none) else (if 0 ≤ (wrap64 (Int.tdiv x16_3 a2)) then (if (wrap64 (Int.tdiv x16_3 a2)) < (x15_3.length : Int) then (bitloftlaw42_ParityRecovers.j3 k3 l0 l1 a2 t191 t197 y214 (x15_3.set ((wrap64 (Int.tdiv x16_3 a2)) : Int).toNat (wrap64 ((rd x15_3 (wrap64 (Int.tdiv x16_3 a2))) + 1))) x16_3) else (none)) else (none))) = some r := by first | (rw [hy214]; with_reducible exact H) | (have H2_ := (Option.bind_some _ _).symm.trans H; rw [hy214]; with_reducible exact H2_) | (have H2_ := (Option.bind_some _ _).symm.trans H; with_reducible exact H2_) | with_reducible exact H | (rw [hy214]; exact H) | exact H
                 have Ny214 := Aside0.mk hy214; clear hy214
                 by_cases c36 : a2 = 0
                 ·
                  rw [if_pos c36] at H; exact absurd H (by simp)
                 ·
                  rw [if_neg c36] at H; have c36b0 : (a2 == 0) = false := beq_eq_false_iff_ne.mpr c36; have c36b1 : (a2 != 0) = true := bne_iff_ne.mpr c36; obtain ⟨ji37, hji37⟩ : ∃ j_ : Int, (wrap64 (Int.tdiv x16_3 a2)) = j_ := ⟨_, rfl⟩
                  replace H : (if 0 ≤ (ji37) then (if (ji37) < (x15_3.length : Int) then (bitloftlaw42_ParityRecovers.j3 k3 l0 l1 a2 t191 t197 y214 (x15_3.set ((ji37) : Int).toNat (wrap64 ((rd x15_3 (ji37)) + 1))) x16_3) else (none)) else (none)) = some r := by first | (rw [hji37] at H; exact H) | (simp only [hji37] at H ⊢; exact H)
                  have hji37w : (IntKind.i64.wrap (Int.tdiv x16_3 a2)) = ji37 := (i64_w _).trans hji37
                  by_cases c38 : 0 ≤ (ji37)
                  ·
                   rw [if_pos c38] at H; have c38b0 : decide (0 ≤ (ji37)) = true := decide_eq_true c38; clear c38
                   by_cases c39 : (ji37) < (x15_3.length : Int)
                   ·
                    rw [if_pos c39] at H; have c39b0 : decide ((ji37) < (x15_3.length : Int)) = true := decide_eq_true c39; clear c39; obtain ⟨y218, hy218⟩ : ∃ y_ : List Int, y_ = (x15_3.set ((ji37) : Int).toNat (wrap64 ((rd x15_3 (ji37)) + 1))) := ⟨_, rfl⟩
                    replace H : (bitloftlaw42_ParityRecovers.j3 k3 l0 l1 a2 t191 t197 y214 y218 x16_3) = some r := by first | (rw [hy218]; with_reducible exact H) | (have H2_ := (Option.bind_some _ _).symm.trans H; rw [hy218]; with_reducible exact H2_) | (have H2_ := (Option.bind_some _ _).symm.trans H; with_reducible exact H2_) | with_reducible exact H | (rw [hy218]; exact H) | exact H
                    have Ny218 := Aside0.mk hy218; clear hy218; have H' := Aside0.mk H; clear H; have p206 : 0 ≤ (x16_3 : Int) := of_decide_eq_true (by first | (with_reducible assumption) | assumption); have q206 : x16_3 < (l1.length : Int) := of_decide_eq_true (by first | (with_reducible assumption) | assumption); obtain ⟨ad206, e206, hx206_0⟩ := Kd.at_bool HR1.out x16_3 p206 q206; (try rw [← Nbq33.out] at hx206_0)
                    cases e206
                    replace hx206_0 := (HB.out.cell (World.block_lt_of_cell? w _ hx206_0)).trans hx206_0; replace p206 := eq_true p206; replace q206 := eq_true q206
                    go_wp2_with (first | ((with_reducible refine gate_dst (N := 101) rfl ?_); (try (refine gate_guard (by rfl) ?_; dsimp only)); refine Kd.R_lit (Kd.int .u8) _ 5 ?hg (N := 101) ?hd (xs := ([(x16_3) % 256] : List Int)) (inner := [.int .u8 ((x16_3) % 256)]) (ok := fun _ => True) (okp := fun _ => True) ?hr ?hp (fun _ hk => hk) trivial (Below.refl _ _) (Nat.le_refl _) (by simp) ?_; (case hd => rfl); (case hg => rfl); (case hr => first | (go_simp; done) | (go_simp; rfl)); (case hp => exact (Reps.one (show Kd.M (Kd.int .u8) _ _ _ ((x16_3) % 256) [.int .u8 ((x16_3) % 256)] from rfl) (Reps.none _ _))); intro v212 w41 ho42 hb hg_ hnew_; clear hg_ hnew_; (first | rw [← Ny211.out] at ho42 | (simp only [Int.reduceToNat] at ho42; rw [← Ny211.out] at ho42)); have n0_ := Aside0.mk (Kd.V_elder' (by (with_reducible repeat (first | apply Kd.V_alloc | apply Kd.V_drewN | apply Kd.V_drew)); exact HO_0.out) (Kd.R_base ho42) hb); have n1_ := Aside0.mk (Kd.N_elder' (by (with_reducible repeat (first | apply Kd.N_alloc | apply Kd.N_drewN | apply Kd.N_drew)); exact HO_10.out) (Kd.R_base ho42) hb); have n2_ := Aside0.mk (Kd.N_elder' (by (with_reducible repeat (first | apply Kd.N_alloc | apply Kd.N_drewN | apply Kd.N_drew)); exact HO_14.out) (Kd.R_base ho42) hb); have n3_ := Aside0.mk (Kd.R_below (pL_ HO_15.out) hb); have n4_ := Aside0.mk (Kd.R_lower (Kd.R_newM (M := fun k_ => (w.heap.size ≤ k_)) ho42 (below_size (pH_ HB.out)) (fun k_ h_ => h_)) (below_size (pH_ HB.out))); have n5_ := Aside0.mk (below_step (pH_ HB.out) hb); clear HO_0; clear HO_10; clear HO_14; clear HO_15; clear HB; have HO_0 := n0_; have HO_10 := n1_; have HO_14 := n2_; have HO_15 := n3_; have HO213 := n4_; have HB := n5_; clear n0_ n1_ n2_ n3_ n4_ n5_; clear hb ho42; obtain ⟨Ao44, co44, eo44⟩ := Kd.R_slice HO213.out; subst eo44) | ((with_reducible refine gate_builtin (b := .append) (xs := #[.tmp 98, .tmp 102]) rfl ?_); (try (refine gate_guard (by rfl) ?_; dsimp only)); at_builtin; refine Kd.N_append (Kd.slice 5 (Kd.int .u8)) (w0 := w) w.heap.size rfl (.tmp 98) (.tmp 102) 22 23 (.slice none 0 0) 24 rfl Tryd.underlying22 info23 rfl (by decide) (by omega) u14 x14_3 y211 [.slice Ao44 y211.length co44] (fun k_ => (P0_ k_ ∨ w.heap.size ≤ k_) ∧ nO_ k_ (.slice Ao18 t197.length co18) ∧ nO_ k_ v204) (fun k_ => ((fun k_ => (P0_ k_ ∨ w.heap.size ≤ k_) ∧ nO_ k_ (.slice Ao18 t197.length co18) ∧ nO_ k_ v204)) k_ ∧ nO_ k_ u14) rfl rfl ?aP (fun _ hk => hk) ?aF ?aO ?aB ?aS ?aL ?_; (case aP => exact (by have zf0_ := (Kd.R_mono (ok' := (fun k_ => ((fun k_ => (P0_ k_ ∨ w.heap.size ≤ k_) ∧ nO_ k_ (.slice Ao18 t197.length co18) ∧ nO_ k_ v204)) k_ ∧ nO_ k_ u14)) (Kd.R_apart' (Kd.R_apart' (Kd.R_apart' (HO213.out) (Kd.N_typed HO_10.out) (by decide)) (Kd.R_typed HO_15.out) (by decide)) (Kd.N_typed HO_14.out) (by decide)) (fun k_ hk => ⟨⟨(.inr (hk.1.1.1.1)), ⟨hk.1.1.2, hk.1.2⟩⟩, hk.2⟩)); first | exact Kd.FK_slice_mk (Kd.R_reads' zf0_).2.1 (Kd.R_F zf0_) | (obtain ⟨Az_, cz_, ez_⟩ := Kd.R_slice zf0_; have zg_ := zf0_; rw [ez_] at zg_ ⊢; exact Kd.FK_slice_mk (Kd.R_reads' zg_).2.1 (Kd.R_F zg_)))); (case aB => exact (pH_ HB.out)); (case aF => exact (fun k_ hk => ⟨(.inr (Nat.le_trans (below_size (pH_ HB.out)) hk)), Kd.fresh' (Kd.N_lt (by (with_reducible repeat (first | apply Kd.N_alloc | apply Kd.N_drewN | apply Kd.N_drew)); exact HO_10.out)) k_ hk, Kd.fresh' (Kd.R_lt (pL_ HO_15.out)) k_ hk⟩)); (case aO => exact (by (with_reducible repeat (first | apply Kd.N_alloc | apply Kd.N_drewN | apply Kd.N_drew)); exact Kd.N_mono HO_14.out (fun _ hk => ⟨hk.1.1, ⟨hk.1.2.1, hk.1.2.2⟩⟩))); (case aS => exact (below_size (pH_ HB.out))); (case aL => have := LMc35.out; omega); intro v215 w43 ho hb hg hat; (try simp only [Int.reduceToNat] at ho); rw [← Ny214.out] at ho; have n0_ := Aside0.mk (Kd.V_afterv (ok := (fun k_ => (P0_ k_ ∨ w.heap.size ≤ k_) ∧ nO_ k_ (.slice Ao18 t197.length co18) ∧ nO_ k_ v204 ∧ nO_ k_ (.slice Ao44 y211.length co44))) (by (with_reducible repeat (first | apply Kd.V_alloc | apply Kd.V_drewN | apply Kd.V_drew)); exact Kd.V_mono HO_0.out (fun _ hk => ⟨⟨hk.1.1, ⟨hk.1.2.1, ⟨hk.1.2.2.2, hk.2⟩⟩⟩, hk.1.2.2.1⟩)) hg hat); have n1_ := Aside0.mk (Kd.N_afterv (ok := (fun k_ => (P0_ k_ ∨ w.heap.size ≤ k_) ∧ nO_ k_ v204 ∧ nO_ k_ (.slice Ao44 y211.length co44))) (by (with_reducible repeat (first | apply Kd.N_alloc | apply Kd.N_drewN | apply Kd.N_drew)); exact Kd.N_mono HO_10.out (fun _ hk => ⟨⟨hk.1.1, ⟨hk.1.2.2, hk.2⟩⟩, hk.1.2.1⟩)) hg hat); have n2_ := Aside0.mk (Kd.R_over' (pL_ HO_15.out) (Kd.N_typed (by (with_reducible repeat (first | apply Kd.N_alloc | apply Kd.N_drewN | apply Kd.N_drew)); exact HO_14.out)) (by decide) hg); have n3_ := Aside0.mk (hb); have n4_ := Aside0.mk (ho); clear HO_0; clear HO_10; clear HO_15; clear HB; clear HO_14; clear HO213; have HO_0 := n0_; have HO_10 := n1_; have HO_15 := n2_; have HB := n3_; have HO216 := n4_; clear n0_ n1_ n2_ n3_ n4_; clear ho hb hg hat; obtain ⟨Ao45, co45, eo45⟩ := Kd.R_slice HO_15.out; subst eo45; have p217 : 0 ≤ ((ji37) : Int) := of_decide_eq_true (by first | (with_reducible assumption) | assumption); have q217 : (ji37) < (x15_3.length : Int) := of_decide_eq_true (by first | (with_reducible assumption) | assumption); obtain ⟨ad217, e217, hx217_0⟩ := Kd.at_int (Kd.R_reads' HO_15.out).2.2 (ji37) p217 q217; cases e217; replace p217 := eq_true p217; replace q217 := eq_true q217; have p40 : 0 ≤ ((ji37) : Int) := of_decide_eq_true (by first | (with_reducible assumption) | assumption); have q40 : ((ji37) : Int) < ((x15_3.length : Int) : Int) := of_decide_eq_true (by first | (with_reducible assumption) | assumption); obtain ⟨go40, co40, eo40, gb40, gl40, cl40, HG40⟩ := Kd.R_form HO_15.out (by omega); (first | cases eo40 | (injection eo40 with ea_ en_ ec_; (first | subst ea_ | (injection ea_ with ea_; subst ea_)); subst ec_; clear en_)); have GB40 := Aside0.mk gb40; have GG40 := Aside0.mk HG40; clear gb40 gl40 HG40; (first | simp only [add_plain] at hx217_0 | skip); obtain ⟨hx40_0, hf40_0⟩ := Kd.R_celln 0 HO_15.out ((ji37) : Int) p40 q40; replace p40 := eq_true p40; replace q40 := eq_true q40; obtain ⟨hy46_, hz46_⟩ := Kd.R_celln 0 HO_15.out ((ji37) : Int) (of_decide_eq_true (by first | (with_reducible assumption) | assumption)) (of_decide_eq_true (by first | (with_reducible assumption) | assumption)); have HP46 := Kd.R_putg HO_15.out ((ji37) : Int) (wrap64 ((rd x15_3 (ji37)) + 1))) | ((with_reducible refine gate_store (t := 3) (p := 111) rfl ?_); refine store_event (t := 3) (p := 111) (v := ?vo_w47) (w1 := (w43.setCell ⟨go40, ((ji37) : Int).toNat, none⟩ (.int .i64 (wrap64 ((rd x15_3 (ji37)) + 1))))) ?hg ?ho ?hn ?hr ?_; (case ho => rfl); (case hg => rfl); (case hn => rfl); (case hr => first | (go_simp; done) | (go_simp; rfl)); intro w47 hw; have hg : w43.grownBy w47 (some go40) := (by rw [hw]; exact HP46.2); have hp_ : Kd.R (Kd.int .i64) 3 w47 w.heap.size (fun k_ => (w.heap.size ≤ k_)) (.slice (some ⟨go40, 0, none⟩) x15_3.length co45) y218 := (by rw [hw, Ny218.out]; exact HP46.1); clear HP46; have n0_ := Aside0.mk (Kd.V_afterv (v := (.slice (some ⟨go40, 0, none⟩) x15_3.length co45)) (v1 := (.slice (some ⟨go40, 0, none⟩) x15_3.length co45)) (ok := (fun k_ => (P0_ k_ ∨ w.heap.size ≤ k_) ∧ nO_ k_ (.slice Ao18 t197.length co18) ∧ nO_ k_ v215)) (by (with_reducible repeat (first | apply Kd.V_alloc | apply Kd.V_drewN | apply Kd.V_drew)); exact Kd.V_mono HO_0.out (fun _ hk => ⟨⟨hk.1.1, ⟨hk.1.2.1, hk.2⟩⟩, hk.1.2.2.1⟩)) hg (.inl rfl)); have n1_ := Aside0.mk (Kd.N_afterv (v := (.slice (some ⟨go40, 0, none⟩) x15_3.length co45)) (v1 := (.slice (some ⟨go40, 0, none⟩) x15_3.length co45)) (ok := (fun k_ => (P0_ k_ ∨ w.heap.size ≤ k_) ∧ nO_ k_ v215)) (by (with_reducible repeat (first | apply Kd.N_alloc | apply Kd.N_drewN | apply Kd.N_drew)); exact Kd.N_mono HO_10.out (fun _ hk => ⟨⟨hk.1.1, hk.2⟩, hk.1.2.1⟩)) hg (.inl rfl)); have n2_ := Aside0.mk (hp_); have n3_ := Aside0.mk (Kd.N_afterv (v := (.slice (some ⟨go40, 0, none⟩) x15_3.length co45)) (v1 := (.slice (some ⟨go40, 0, none⟩) x15_3.length co45)) (ok := (fun k_ => (P0_ k_ ∨ w.heap.size ≤ k_) ∧ nO_ k_ (.slice Ao18 t197.length co18))) (by (with_reducible repeat (first | apply Kd.N_alloc | apply Kd.N_drewN | apply Kd.N_drew)); exact Kd.N_mono HO216.out (fun _ hk => ⟨⟨hk.1, hk.2.1⟩, hk.2.2⟩)) hg (.inl rfl)); have n4_ := Aside0.mk ((by rw [hw]; exact below_set (HB.out) GB40.out : Below w.heap.size w w47)); clear HO_0; clear HO_10; clear HO_15; clear HO216; clear HB; have HO_0 := n0_; have HO_10 := n1_; have HO_15 := n2_; have HO216 := n3_; have HB := n4_; clear n0_ n1_ n2_ n3_ n4_; clear hg hw hp_))
                    (first | go_meet | (refine Met.intro ?_; go_step; (repeat apply Exists.intro); refine ⟨?rel, ?eqf_⟩; case eqf_ => ((simp only [c39b0, c38b0, c36b0, c32b0, c31b0, c29b0]) <;> rfl)))
                    case rel => exact ⟨_, (y214), (y218), H', ⟨by have := HJ5.out; have := HJ15.out; have := HK3.out; first | omega | exact Nat.le_refl _⟩, ⟨by (with_reducible repeat (first | apply Kd.V_alloc | apply Kd.V_drewN | apply Kd.V_drew)); exact Kd.V_mono HO_0.out (fun _ hk => ⟨hk.1.1, ⟨hk.1.2.1, ⟨hk.1.2.2, hk.2⟩⟩⟩)⟩, ⟨by (with_reducible repeat (first | apply Kd.N_alloc | apply Kd.N_drewN | apply Kd.N_drew)); exact Kd.N_mono HO_10.out (fun _ hk => ⟨hk.1.1, ⟨hk.1.2, hk.2⟩⟩)⟩, ⟨by (with_reducible repeat (first | apply Kd.N_alloc | apply Kd.N_drewN | apply Kd.N_drew)); exact Kd.N_mono HO216.out (fun _ hk => ⟨hk.1.1, ⟨hk.1.2, hk.2⟩⟩)⟩, ⟨pL_ HO_15.out⟩, ⟨pH_ HB.out⟩⟩
                   ·
                    rw [if_neg c39] at H; exact absurd H (by simp)
                  ·
                   rw [if_neg c38] at H; exact absurd H (by simp)
                ·
                 rw [if_neg c35] at H; exact absurd H (by simp)
               ·
                replace c34 := Bool.eq_false_iff.mpr c34
                subst c34
                have H1 : (if x14_3.length < 5864062014805 then (bitloftlaw42_ParityRecovers.j3 k3 l0 l1 a2 t191 t197 (x14_3 ++ [rd_L1 l0 x16_3]) x15_3 x16_3) else (none)) = some r := by rw [if_neg (show ¬ (false = true) by decide)] at H; exact H
                clear H; have H := H1; clear H1
                by_cases c48 : x14_3.length < 5864062014805
                ·
                 rw [if_pos c48] at H; have LMc48 := Aside0.mk c48; clear c48; obtain ⟨y208, hy208⟩ : ∃ y_ : List (List Int), y_ = (x14_3 ++ [rd_L1 l0 x16_3]) := ⟨_, rfl⟩
                 replace H : (bitloftlaw42_ParityRecovers.j3 k3 l0 l1 a2 t191 t197 y208 x15_3 x16_3) = some r := by first | (rw [hy208]; with_reducible exact H) | (have H2_ := (Option.bind_some _ _).symm.trans H; rw [hy208]; with_reducible exact H2_) | (have H2_ := (Option.bind_some _ _).symm.trans H; with_reducible exact H2_) | with_reducible exact H | (rw [hy208]; exact H) | exact H
                 have Ny208 := Aside0.mk hy208; clear hy208; have H' := Aside0.mk H; clear H; have p206 : 0 ≤ (x16_3 : Int) := of_decide_eq_true (by first | (with_reducible assumption) | assumption); have q206 : x16_3 < (l1.length : Int) := of_decide_eq_true (by first | (with_reducible assumption) | assumption); obtain ⟨ad206, e206, hx206_0⟩ := Kd.at_bool HR1.out x16_3 p206 q206; (try rw [← Nbq33.out] at hx206_0)
                 cases e206
                 replace hx206_0 := (HB.out.cell (World.block_lt_of_cell? w _ hx206_0)).trans hx206_0; replace p206 := eq_true p206; replace q206 := eq_true q206; have p207 : 0 ≤ (x16_3 : Int) := of_decide_eq_true (by first | (with_reducible assumption) | assumption); have q207 : x16_3 < (l0.length : Int) := of_decide_eq_true (by first | (with_reducible assumption) | assumption); obtain ⟨ad207, A207_0, c207_0, e207, hx207_0, hl207_0, hi207_0⟩ := at_L1 (Kd.V_reads' HO_0.out).2.2 x16_3 p207 q207
                 cases e207
                 obtain ⟨ce207, hce207, hMe207, hcc207⟩ := Kd.V_get HO_0.out [] x16_3 p207 (by first | exact q207 | exact of_decide_eq_true (by first | (with_reducible assumption) | assumption) | (have e_ := (Kd.V_reads' HO_0.out).1; omega)); obtain ⟨ua207_0, uc207_0, rfl, ul207_0, ge207_0⟩ := Kd.FK_slice_open hMe207; have hv207_0 := hcc207 0 _ rfl; rw [Nat.add_zero, show ((Kd.slice 5 (Kd.int .u8))).sz = 1 from rfl, Nat.mul_one] at hv207_0; replace hv207_0 := Option.some.inj (hv207_0.symm.trans hx207_0)
                 injection hv207_0 with hva_ hvn_ hvc_
                 rw [hva_] at ge207_0; rw [hvc_] at ul207_0; have HL207_0 := Aside0.mk (show Kd.V (Kd.int .u8) 5 _ w.heap.size _ _ (rd_L1 l0 x16_3) from Kd.V_mk ul207_0 ge207_0); clear hva_ hvn_ hvc_ ge207_0 ul207_0; clear hcc207 hce207; have HR207_0 := Aside0.mk hi207_0; have HC207_0 := Aside0.mk hl207_0; clear hi207_0 hl207_0; replace p207 := eq_true p207; replace q207 := eq_true q207
                 go_wp2_with (first | ((with_reducible refine gate_builtin (b := .append) (xs := #[.tmp 91, .tmp 96]) rfl ?_); (try (refine gate_guard (by rfl) ?_; dsimp only)); at_builtin; refine Kd.N_append (Kd.slice 5 (Kd.int .u8)) (w0 := w) w.heap.size rfl (.tmp 91) (.tmp 96) 22 23 (.slice none 0 0) 24 rfl Tryd.underlying22 info23 rfl (by decide) (by omega) u14 x14_3 (rd_L1 l0 x16_3) [.slice A207_0 (rd_L1 l0 x16_3).length c207_0] (fun k_ => (P0_ k_ ∨ w.heap.size ≤ k_) ∧ nO_ k_ (.slice Ao18 t197.length co18) ∧ nO_ k_ v204) (fun k_ => ((fun k_ => (P0_ k_ ∨ w.heap.size ≤ k_) ∧ nO_ k_ (.slice Ao18 t197.length co18) ∧ nO_ k_ v204)) k_ ∧ nO_ k_ u14) rfl rfl ?aP (fun _ hk => hk) ?aF ?aO ?aB ?aS ?aL ?_; (case aP => exact (Kd.FK_slice_mk (Kd.V_reads' (Kd.V_mono (ok' := (fun k_ => ((fun k_ => (P0_ k_ ∨ w.heap.size ≤ k_) ∧ nO_ k_ (.slice Ao18 t197.length co18) ∧ nO_ k_ v204)) k_ ∧ nO_ k_ u14)) (HL207_0.out) (fun k_ hk => ⟨⟨hk.1, ⟨hk.2.1, hk.2.2.2⟩⟩, hk.2.2.1⟩))).2.1 (Kd.V_F (Kd.V_mono (ok' := (fun k_ => ((fun k_ => (P0_ k_ ∨ w.heap.size ≤ k_) ∧ nO_ k_ (.slice Ao18 t197.length co18) ∧ nO_ k_ v204)) k_ ∧ nO_ k_ u14)) (HL207_0.out) (fun k_ hk => ⟨⟨hk.1, ⟨hk.2.1, hk.2.2.2⟩⟩, hk.2.2.1⟩))))); (case aB => exact (pH_ HB.out)); (case aF => exact (fun k_ hk => ⟨(.inr (Nat.le_trans (below_size (pH_ HB.out)) hk)), Kd.fresh' (Kd.N_lt (by (with_reducible repeat (first | apply Kd.N_alloc | apply Kd.N_drewN | apply Kd.N_drew)); exact HO_10.out)) k_ hk, Kd.fresh' (Kd.R_lt (pL_ HO_15.out)) k_ hk⟩)); (case aO => exact (by (with_reducible repeat (first | apply Kd.N_alloc | apply Kd.N_drewN | apply Kd.N_drew)); exact HO_14.out)); (case aS => exact (below_size (pH_ HB.out))); (case aL => have := LMc48.out; omega); intro v209 w49 ho hb hg hat; (try simp only [Int.reduceToNat] at ho); rw [← Ny208.out] at ho; have n0_ := Aside0.mk (Kd.V_afterv (ok := (fun k_ => (P0_ k_ ∨ w.heap.size ≤ k_) ∧ nO_ k_ (.slice Ao18 t197.length co18) ∧ nO_ k_ v204)) (by (with_reducible repeat (first | apply Kd.V_alloc | apply Kd.V_drewN | apply Kd.V_drew)); exact Kd.V_mono HO_0.out (fun _ hk => ⟨⟨hk.1, ⟨hk.2.1, hk.2.2.2⟩⟩, hk.2.2.1⟩)) hg hat); have n1_ := Aside0.mk (Kd.N_afterv (ok := (fun k_ => (P0_ k_ ∨ w.heap.size ≤ k_) ∧ nO_ k_ v204)) (by (with_reducible repeat (first | apply Kd.N_alloc | apply Kd.N_drewN | apply Kd.N_drew)); exact Kd.N_mono HO_10.out (fun _ hk => ⟨⟨hk.1, hk.2.2⟩, hk.2.1⟩)) hg hat); have n2_ := Aside0.mk (Kd.R_over' (pL_ HO_15.out) (Kd.N_typed (by (with_reducible repeat (first | apply Kd.N_alloc | apply Kd.N_drewN | apply Kd.N_drew)); exact HO_14.out)) (by decide) hg); have n3_ := Aside0.mk (Kd.V_afterv (ok := (fun k_ => (P0_ k_ ∨ w.heap.size ≤ k_) ∧ nO_ k_ (.slice Ao18 t197.length co18) ∧ nO_ k_ v204)) (by (with_reducible repeat (first | apply Kd.V_alloc | apply Kd.V_drewN | apply Kd.V_drew)); exact Kd.V_mono HL207_0.out (fun _ hk => ⟨⟨hk.1, ⟨hk.2.1, hk.2.2.2⟩⟩, hk.2.2.1⟩)) hg hat); have n4_ := Aside0.mk (hb); have n5_ := Aside0.mk (ho); clear HO_0; clear HO_10; clear HO_15; clear HL207_0; clear HB; clear HO_14; have HO_0 := n0_; have HO_10 := n1_; have HO_15 := n2_; have HL207_0 := n3_; have HB := n4_; have HO210 := n5_; clear n0_ n1_ n2_ n3_ n4_ n5_; clear ho hb hg hat))
                 (first | go_meet | (refine Met.intro ?_; go_step; (repeat apply Exists.intro); refine ⟨?rel, ?eqf_⟩; case eqf_ => ((simp only [c32b0, c31b0, c29b0]) <;> rfl)))
                 case rel => exact ⟨_, (y208), (x15_3), H', ⟨by have := HJ5.out; have := HJ15.out; have := HK3.out; first | omega | exact Nat.le_refl _⟩, ⟨by (with_reducible repeat (first | apply Kd.V_alloc | apply Kd.V_drewN | apply Kd.V_drew)); exact Kd.V_mono HO_0.out (fun _ hk => ⟨hk.1.1, ⟨hk.1.2.1, ⟨hk.2, hk.1.2.2⟩⟩⟩)⟩, ⟨by (with_reducible repeat (first | apply Kd.N_alloc | apply Kd.N_drewN | apply Kd.N_drew)); exact Kd.N_mono HO_10.out (fun _ hk => ⟨hk.1.1, ⟨hk.2, hk.1.2⟩⟩)⟩, ⟨by (with_reducible repeat (first | apply Kd.N_alloc | apply Kd.N_drewN | apply Kd.N_drew)); exact HO210.out⟩, ⟨pL_ HO_15.out⟩, ⟨pH_ HB.out⟩⟩
                ·
                 rw [if_neg c48] at H; exact absurd H (by simp)
              ·
               rw [if_neg c32] at H; exact absurd H (by simp)
             ·
              rw [if_neg c31] at H; exact absurd H (by simp)
            case rest =>
             (try (refine hKt_ _ _ ?_; clear hKt_; clear Kt_)); clear HC30
             try clear c1
             try clear c2
             try clear p2
             try clear q2
             try clear hx2
             try clear c3
             try clear q3
             try clear c4
             try clear p4
             try clear q4
             try clear hx4
             try clear hf4
             try clear p6
             try clear c7
             try clear c8
             try clear c10
             try clear c11
             try clear c11b0
             try clear c11b1
             try clear c12
             try clear c12b0
             try clear c12b1
             try clear c12b2
             try clear c13
             try clear c18
             try clear c19
             try clear c20
             try clear c20b0
             try clear c20b1
             try clear p20
             try clear q20
             try clear hx20
             try clear c21
             try clear c21b0
             try clear c21b1
             try clear c21b2
             try clear p21
             try clear q21
             try clear hx21
             try clear c22
             try clear c22b0
             try clear c22b1
             try clear c24
             try clear c25
             try clear c25b0
             try clear c25b1
             try clear c26
             try clear c26b0
             try clear c26b1
             try clear c29
             try clear c29b0
             try clear c31
             try clear c31b0
             try clear c32
             try clear c32b0
             try clear q33
             try clear c34
             try clear c35
             try clear c36
             try clear c36b0
             try clear c36b1
             try clear c38
             try clear c38b0
             try clear c39
             try clear c39b0
             try clear p40
             try clear q40
             try clear hx40
             try clear hf40
             try clear c48
             try clear hx206_0
             try clear hx207_0
             try clear hx217_0
             try clear hx40_0
             try clear p2
             try clear p206
             try clear p207
             try clear p217
             try clear p40
             try clear q206
             try clear q207
             try clear q217
             try clear q40
             obtain ⟨kq, x14_29, x15_29, HA, HJ29, HO_0, HO_10, HO_14, HO_15, HB⟩ := hcut
             cases kq with
             | zero => exact absurd HA.out (by simp [bitloftlaw42_ParityRecovers.j3])
             | succ kj29 =>
              have H := HA.out; clear HA; simp only [bitloftlaw42_ParityRecovers.j3] at H; have H' := Aside0.mk H; clear H
              go_wp2
              go_roundg kj29
              case measure => have := HJ5.out; have := HJ15.out; have := HK3.out; have := HJ29.out; omega
              case rel => exact ⟨(x14_29), (x15_29), (wrap64 (x16_3 + 1)), (by first | rfl | (simp; done) | (simp [*]; done)), H', ⟨by have := HJ5.out; have := HJ15.out; have := HK3.out; have := HJ29.out; omega⟩, ⟨by (with_reducible repeat (first | apply Kd.V_alloc | apply Kd.V_drewN | apply Kd.V_drew)); exact HO_0.out⟩, ⟨by (with_reducible repeat (first | apply Kd.N_alloc | apply Kd.N_drewN | apply Kd.N_drew)); exact HO_10.out⟩, ⟨by (with_reducible repeat (first | apply Kd.N_alloc | apply Kd.N_drewN | apply Kd.N_drew)); exact HO_14.out⟩, ⟨pL_ HO_15.out⟩, ⟨pH_ HB.out⟩⟩
           ·
            rw [if_neg c29] at H; have c29b0 : decide (x16_3 < (l0.length : Int)) = false := decide_eq_false c29; clear c29; have H' := Aside0.mk H; clear H
            go_wp2
            go_loopg [17] k3 (fun kq v17 w' => ∃ (x17_4 : Int), v17 = .int .i64 x17_4 ∧ Aside0 (bitloftlaw42_ParityRecovers.l1 kq l0 l1 a2 t191 t197 x14_3 x15_3 x17_4 = some r) ∧ Aside0 (kq ≤ k3) ∧ Aside0 (Kd.V (Kd.slice 5 (Kd.int .u8)) 23 w' w.heap.size (fun k_ => (P0_ k_ ∨ w.heap.size ≤ k_) ∧ some k_ ≠ ((.slice Ao18 t197.length co18) : Value).ownBlock ∧ nO_ k_ u14 ∧ nO_ k_ v204) (.slice A0 l0.length c0) l0) ∧ Aside0 (Kd.N (Kd.slice 5 (Kd.int .u8)) 23 w' w.heap.size (fun k_ => (P0_ k_ ∨ w.heap.size ≤ k_) ∧ nO_ k_ u14 ∧ nO_ k_ v204) (.slice Ao18 t197.length co18) t197) ∧ Aside0 (Kd.N (Kd.slice 5 (Kd.int .u8)) 23 w' w.heap.size (fun k_ => (P0_ k_ ∨ w.heap.size ≤ k_) ∧ some k_ ≠ ((.slice Ao18 t197.length co18) : Value).ownBlock ∧ nO_ k_ v204) u14 x14_3) ∧ Aside0 (Kd.R (Kd.int .i64) 3 w' w.heap.size (fun k_ => (w.heap.size ≤ k_)) v204 x15_3) ∧ Aside0 (Below w.heap.size w w'))
            case atStart => exact ⟨(0), (by first | rfl | (simp; done) | (simp [*]; done)), H', ⟨Nat.le_refl _⟩, ⟨by (with_reducible repeat (first | apply Kd.V_alloc | apply Kd.V_drewN | apply Kd.V_drew)); exact HO_0.out⟩, ⟨by (with_reducible repeat (first | apply Kd.N_alloc | apply Kd.N_drewN | apply Kd.N_drew)); exact HO_10.out⟩, ⟨by (with_reducible repeat (first | apply Kd.N_alloc | apply Kd.N_drewN | apply Kd.N_drew)); exact HO_14.out⟩, ⟨pL_ HO_15.out⟩, ⟨pH_ HB.out⟩⟩
            case round =>
             clear H'
             try clear c1
             try clear c2
             try clear p2
             try clear q2
             try clear hx2
             try clear c3
             try clear q3
             try clear c4
             try clear p4
             try clear q4
             try clear hx4
             try clear hf4
             try clear p6
             try clear c7
             try clear c8
             try clear c10
             try clear c11
             try clear c11b0
             try clear c11b1
             try clear c12
             try clear c12b0
             try clear c12b1
             try clear c12b2
             try clear c13
             try clear c18
             try clear c19
             try clear c20
             try clear c20b0
             try clear c20b1
             try clear p20
             try clear q20
             try clear hx20
             try clear c21
             try clear c21b0
             try clear c21b1
             try clear c21b2
             try clear p21
             try clear q21
             try clear hx21
             try clear c22
             try clear c22b0
             try clear c22b1
             try clear c24
             try clear c25
             try clear c25b0
             try clear c25b1
             try clear c26
             try clear c26b0
             try clear c26b1
             try clear c29
             try clear c29b0
             try clear c31
             try clear c31b0
             try clear c32
             try clear c32b0
             try clear q33
             try clear c34
             try clear c35
             try clear c36
             try clear c36b0
             try clear c36b1
             try clear c38
             try clear c38b0
             try clear c39
             try clear c39b0
             try clear p40
             try clear q40
             try clear hx40
             try clear hf40
             try clear c48
             try clear hx206_0
             try clear hx207_0
             try clear hx217_0
             try clear hx40_0
             try clear p2
             try clear p20
             try clear p206
             try clear p207
             try clear p21
             try clear p217
             try clear p4
             try clear p40
             try clear p6
             try clear q2
             try clear q20
             try clear q206
             try clear q207
             try clear q21
             try clear q217
             try clear q3
             try clear q33
             try clear q4
             try clear q40
             obtain ⟨x17_4, rfl, HA, HK4, HO_0, HO_10, HO_14, HO_15, HB⟩ := hrel
             cases gk with
             | zero => exact absurd HA.out (by simp [bitloftlaw42_ParityRecovers.l1])
             | succ k4 =>
              have H := HA.out; clear HA; simp only [bitloftlaw42_ParityRecovers.l1] at H
              by_cases c50 : x17_4 < (x15_3.length : Int)
              ·
               rw [if_pos c50] at H; have c50b0 : decide (x17_4 < (x15_3.length : Int)) = true := decide_eq_true c50; clear c50
               by_cases c51 : 0 ≤ x17_4
               ·
                rw [if_pos c51] at H; have c51b0 : decide (0 ≤ x17_4) = true := decide_eq_true c51; clear c51
                by_cases c52 : (rd x15_3 x17_4) > 1
                ·
                 rw [if_pos c52] at H; have c52b0 : decide (1 < (rd x15_3 x17_4)) = true := decide_eq_true c52; clear c52; replace H := Option.bind_eq_some_iff.mp H; obtain ⟨⟨t220, t223⟩, A530, H⟩ := H; replace H : (if t191 = true then (some (t223 == 40)) else (some false)) = some r := H; have A53 := Aside0.mk A530; clear A530
                 by_cases c54 : t191 = true
                 ·
                  subst c54
                  have H1 : (some (t223 == 40)) = some r := by rw [if_pos rfl] at H; exact H
                  clear H; have H := H1; clear H1; obtain rfl := Option.some.inj H; obtain ⟨Ao55, co55, eo55⟩ := Kd.R_slice HO_15.out
                  subst eo55
                  have p219 : 0 ≤ (x17_4 : Int) := of_decide_eq_true (by first | (with_reducible assumption) | assumption); have q219 : x17_4 < (x15_3.length : Int) := of_decide_eq_true (by first | (with_reducible assumption) | assumption); obtain ⟨ad219, e219, hx219_0⟩ := Kd.at_int (Kd.R_reads' HO_15.out).2.2 x17_4 p219 q219
                  cases e219
                  replace p219 := eq_true p219; replace q219 := eq_true q219; obtain ⟨Ao56, co56, eo56⟩ := Kd.N_slice HO_14.out
                  subst eo56
                  go_wp2_with (first | ((with_reducible refine gate_callee (f := 15) rfl ?_); refine gL_ (some 128) Tryd.func15 #[.slice Ao56 x14_3.length co56, .slice A1 l1.length c1, .int .i64 a2, .slice Ao18 t197.length co18] ?_; (with_reducible refine (parity_Recover.calls k4 (fun k_ => ((P0_ k_ ∨ w.heap.size ≤ k_) ∧ (nO_ k_ (.slice Ao18 t197.length co18) ∧ some k_ ≠ (.slice (some ad219) x15_3.length co55 : Value).ownBlock))) _ _ x14_3 _ _ l1 a2 _ _ t197 t220 t223 _ ?side1 ?side2 ?side3 ?side4 ?side5 A53.out).mono ?_); (case side1 => exact Kd.N_V (HO_14.out)); (case side2 => repeat (first | exact (Kd.C_below HR1.out HB.out) | (with_reducible refine Kd.C_alloc ?_ _) | (with_reducible refine Kd.C_drewN ?_ _) | (with_reducible refine Kd.C_drew ?_))); (case side3 => exact HC1.out); (case side4 => repeat (first | exact (Kd.N_reads' HO_10.out).2.2 | (with_reducible refine Kd.C_alloc ?_ _) | (with_reducible refine Kd.C_drewN ?_ _) | (with_reducible refine Kd.C_drew ?_))); (case side5 => exact (Kd.N_reads' HO_10.out).2.1); rintro e w57 ⟨v221, rfl, ho0, hb⟩; refine ⟨_, rfl, ?_⟩; have n0_ := Aside0.mk (Kd.V_elder' (by (with_reducible repeat (first | apply Kd.V_alloc | apply Kd.V_drewN | apply Kd.V_drew)); exact HO_0.out) (by first | exact Kd.N_base ho0 | exact Kd.N_base (Kd.S_N ho0)) hb); have n1_ := Aside0.mk (Kd.N_elder' (by (with_reducible repeat (first | apply Kd.N_alloc | apply Kd.N_drewN | apply Kd.N_drew)); exact HO_10.out) (by first | exact Kd.N_base ho0 | exact Kd.N_base (Kd.S_N ho0)) hb); have n2_ := Aside0.mk (Kd.N_elder' (by (with_reducible repeat (first | apply Kd.N_alloc | apply Kd.N_drewN | apply Kd.N_drew)); exact HO_14.out) (by first | exact Kd.N_base ho0 | exact Kd.N_base (Kd.S_N ho0)) hb); have n3_ := Aside0.mk (Kd.R_below (pL_ HO_15.out) hb); have n4_ := Aside0.mk (Kd.N_lower (Kd.N_mono (ok' := fun k_ => (P0_ k_ ∨ w.heap.size ≤ k_) ∧ nO_ k_ (.slice Ao18 t197.length co18) ∧ some k_ ≠ (.slice (some ad219) x15_3.length co55 : Value).ownBlock) ho0 (fun k_ hk_ => ⟨Or.elim hk_ (fun hs_ => hs_.1) (fun hn_ => (.inr (Nat.le_trans (below_size (pH_ HB.out)) hn_))), Or.elim hk_ (fun hs_ => hs_.2.1) (fun hn_ => (Kd.fresh' (Kd.N_lt (by (with_reducible repeat (first | apply Kd.N_alloc | apply Kd.N_drewN | apply Kd.N_drew)); exact HO_10.out)) k_ hn_)), Or.elim hk_ (fun hs_ => hs_.2.2) (fun hn_ => (Kd.fresh' (Kd.R_lt (pL_ HO_15.out)) k_ hn_))⟩)) (below_size (pH_ HB.out))); have n5_ := Aside0.mk (below_step (pH_ HB.out) hb); clear HO_0; clear HO_10; clear HO_14; clear HO_15; clear HB; have HO_0 := n0_; have HO_10 := n1_; have HO_14 := n2_; have HO_15 := n3_; have HO222 := n4_; have HB := n5_; clear n0_ n1_ n2_ n3_ n4_ n5_; (try clear hb); (try clear ho0)))
                  go_ret
                  exact ⟨by first | rfl | (simp [errW_none, errW_some] <;> rfl) | (simp [*, errW_none, errW_some] <;> rfl), pH_ HB.out⟩
                 ·
                  replace c54 := Bool.eq_false_iff.mpr c54
                  subst c54
                  have H1 : (some false) = some r := by rw [if_neg (show ¬ (false = true) by decide)] at H; exact H
                  clear H; have H := H1; clear H1; exact absurd (H.trans (congrArg some HRT_.out)) (by simp)
                ·
                 rw [if_neg c52] at H; have c52b0 : decide (1 < (rd x15_3 x17_4)) = false := decide_eq_false c52; clear c52; have H' := Aside0.mk H; clear H; obtain ⟨Ao58, co58, eo58⟩ := Kd.R_slice HO_15.out
                 subst eo58
                 have p219 : 0 ≤ (x17_4 : Int) := of_decide_eq_true (by first | (with_reducible assumption) | assumption); have q219 : x17_4 < (x15_3.length : Int) := of_decide_eq_true (by first | (with_reducible assumption) | assumption); obtain ⟨ad219, e219, hx219_0⟩ := Kd.at_int (Kd.R_reads' HO_15.out).2.2 x17_4 p219 q219
                 cases e219
                 replace p219 := eq_true p219; replace q219 := eq_true q219
                 go_wp2
                 go_roundg k4
                 case measure => have := HJ5.out; have := HJ15.out; have := HK3.out; have := HK4.out; omega
                 case rel => exact ⟨(wrap64 (x17_4 + 1)), (by first | rfl | (simp; done) | (simp [*]; done)), H', ⟨by have := HJ5.out; have := HJ15.out; have := HK3.out; have := HK4.out; omega⟩, ⟨by (with_reducible repeat (first | apply Kd.V_alloc | apply Kd.V_drewN | apply Kd.V_drew)); exact HO_0.out⟩, ⟨by (with_reducible repeat (first | apply Kd.N_alloc | apply Kd.N_drewN | apply Kd.N_drew)); exact HO_10.out⟩, ⟨by (with_reducible repeat (first | apply Kd.N_alloc | apply Kd.N_drewN | apply Kd.N_drew)); exact HO_14.out⟩, ⟨pL_ HO_15.out⟩, ⟨pH_ HB.out⟩⟩
               ·
                rw [if_neg c51] at H; exact absurd H (by simp)
              ·
               rw [if_neg c50] at H; have c50b0 : decide (x17_4 < (x15_3.length : Int)) = false := decide_eq_false c50; clear c50; replace H := Option.bind_eq_some_iff.mp H; obtain ⟨⟨t224, t227⟩, A590, H⟩ := H; replace H : (if t191 = true then (if t227 = 0 then ((bitloftref42_Same.f k4 t224 l0).bind fun t228 => (bitloftlaw42_ParityRecovers.j5 k4 t228)) else (bitloftlaw42_ParityRecovers.j5 k4 false)) else (bitloftlaw42_ParityRecovers.j5 k4 false)) = some r := H; have A59 := Aside0.mk A590; clear A590; have HC60 := Aside0.mk H; clear H; obtain ⟨Ao61, co61, eo61⟩ := Kd.R_slice HO_15.out
               subst eo61
               obtain ⟨Ao62, co62, eo62⟩ := Kd.N_slice HO_14.out
               subst eo62
               go_upto_region 25 with (first | ((with_reducible refine gate_callee (f := 15) rfl ?_); refine gL_ (some 141) Tryd.func15 #[.slice Ao62 x14_3.length co62, .slice A1 l1.length c1, .int .i64 a2, .slice Ao18 t197.length co18] ?_; (with_reducible refine (parity_Recover.calls k4 (fun k_ => ((P0_ k_ ∨ w.heap.size ≤ k_) ∧ (nO_ k_ (.slice Ao18 t197.length co18) ∧ nO_ k_ (.slice Ao61 x15_3.length co61)))) _ _ x14_3 _ _ l1 a2 _ _ t197 t224 t227 _ ?side1 ?side2 ?side3 ?side4 ?side5 A59.out).mono ?_); (case side1 => exact Kd.N_V (HO_14.out)); (case side2 => repeat (first | exact (Kd.C_below HR1.out HB.out) | (with_reducible refine Kd.C_alloc ?_ _) | (with_reducible refine Kd.C_drewN ?_ _) | (with_reducible refine Kd.C_drew ?_))); (case side3 => exact HC1.out); (case side4 => repeat (first | exact (Kd.N_reads' HO_10.out).2.2 | (with_reducible refine Kd.C_alloc ?_ _) | (with_reducible refine Kd.C_drewN ?_ _) | (with_reducible refine Kd.C_drew ?_))); (case side5 => exact (Kd.N_reads' HO_10.out).2.1); rintro e w63 ⟨v225, rfl, ho0, hb⟩; refine ⟨_, rfl, ?_⟩; have n0_ := Aside0.mk (Kd.V_elder' (by (with_reducible repeat (first | apply Kd.V_alloc | apply Kd.V_drewN | apply Kd.V_drew)); exact HO_0.out) (by first | exact Kd.N_base ho0 | exact Kd.N_base (Kd.S_N ho0)) hb); have n1_ := Aside0.mk (Kd.N_elder' (by (with_reducible repeat (first | apply Kd.N_alloc | apply Kd.N_drewN | apply Kd.N_drew)); exact HO_10.out) (by first | exact Kd.N_base ho0 | exact Kd.N_base (Kd.S_N ho0)) hb); have n2_ := Aside0.mk (Kd.N_elder' (by (with_reducible repeat (first | apply Kd.N_alloc | apply Kd.N_drewN | apply Kd.N_drew)); exact HO_14.out) (by first | exact Kd.N_base ho0 | exact Kd.N_base (Kd.S_N ho0)) hb); have n3_ := Aside0.mk (Kd.R_below (pL_ HO_15.out) hb); have n4_ := Aside0.mk (Kd.N_lower (Kd.N_mono (ok' := fun k_ => (P0_ k_ ∨ w.heap.size ≤ k_) ∧ nO_ k_ (.slice Ao18 t197.length co18) ∧ nO_ k_ (.slice Ao61 x15_3.length co61)) ho0 (fun k_ hk_ => ⟨Or.elim hk_ (fun hs_ => hs_.1) (fun hn_ => (.inr (Nat.le_trans (below_size (pH_ HB.out)) hn_))), Or.elim hk_ (fun hs_ => hs_.2.1) (fun hn_ => (Kd.fresh' (Kd.N_lt (by (with_reducible repeat (first | apply Kd.N_alloc | apply Kd.N_drewN | apply Kd.N_drew)); exact HO_10.out)) k_ hn_)), Or.elim hk_ (fun hs_ => hs_.2.2) (fun hn_ => (Kd.fresh' (Kd.R_lt (pL_ HO_15.out)) k_ hn_))⟩)) (below_size (pH_ HB.out))); have n5_ := Aside0.mk (below_step (pH_ HB.out) hb); clear HO_0; clear HO_10; clear HO_14; clear HO_15; clear HB; have HO_0 := n0_; have HO_10 := n1_; have HO_14 := n2_; have HO_15 := n3_; have HO226 := n4_; have HB := n5_; clear n0_ n1_ n2_ n3_ n4_ n5_; (try clear hb); (try clear ho0)))
               (try simp only [Act.put, sA_, sZ_, sS_]); (with_reducible first | refine then_id_ ?_ | (refine wp_tail_ ?_; intro Kt_ hKt_))
               go_cut [6] (fun v6 wc => ∃ (kq : Nat) (x6_59 : Bool), v6 = .bool x6_59 ∧ Aside0 (bitloftlaw42_ParityRecovers.j5 kq x6_59 = some r) ∧ Aside0 (kq ≤ k4) ∧ Aside0 (Below w.heap.size w wc))
               case first =>
                have H := HC60.out; clear HC60
                by_cases c64 : t191 = true
                ·
                 subst c64
                 have H1 : (if t227 = 0 then ((bitloftref42_Same.f k4 t224 l0).bind fun t228 => (bitloftlaw42_ParityRecovers.j5 k4 t228)) else (bitloftlaw42_ParityRecovers.j5 k4 false)) = some r := by rw [if_pos rfl] at H; exact H
                 clear H; have H := H1; clear H1
                 by_cases c65 : t227 = 0
                 ·
                  rw [if_pos c65] at H; have c65b0 : (t227 == 0) = true := beq_iff_eq.mpr c65; have c65b1 : (t227 != 0) = false := bne_eq_false_iff_eq.mpr c65; clear c65; (first | rw [c65b0] | (simp only [i64_w, i32_w]; rw [c65b0]) | skip); replace H := Option.bind_eq_some_iff.mp H; obtain ⟨t228, A660, H⟩ := H; replace H : (bitloftlaw42_ParityRecovers.j5 k4 t228) = some r := H; have A66 := Aside0.mk A660; clear A660; have H' := Aside0.mk H; clear H; obtain ⟨Ao67, co67, eo67⟩ := Kd.N_slice HO226.out
                  subst eo67
                  go_wp2_with (first | (go_at_call 17; (with_reducible refine (bitloftref42_Same.calls k4 _ _ t224 _ _ l0 t228 _ ?side1 ?side2 ?side3 ?side4 A66.out).mono ?_); (case side1 => repeat (first | exact (Kd.N_reads' HO226.out).2.2 | (with_reducible refine Kd.C_alloc ?_ _) | (with_reducible refine Kd.C_drewN ?_ _) | (with_reducible refine Kd.C_drew ?_))); (case side2 => exact (Kd.N_reads' HO226.out).2.1); (case side3 => repeat (first | exact (Kd.V_reads' HO_0.out).2.2 | (with_reducible refine Kd.C_alloc ?_ _) | (with_reducible refine Kd.C_drewN ?_ _) | (with_reducible refine Kd.C_drew ?_))); (case side4 => exact (Kd.V_reads' HO_0.out).2.1); rintro e w' ⟨rfl, ⟨nd, rfl⟩⟩))
                  (first | go_meet | (refine Met.intro ?_; go_step; (repeat apply Exists.intro); refine ⟨?rel, ?eqf_⟩; case eqf_ => ((simp only [c65b0, c50b0]) <;> rfl)))
                  case rel => exact ⟨_, (t228), (by first | rfl | (simp; done) | (simp [*]; done)), H', ⟨by have := HJ5.out; have := HJ15.out; have := HK3.out; have := HK4.out; first | omega | exact Nat.le_refl _⟩, ⟨pH_ HB.out⟩⟩
                 ·
                  rw [if_neg c65] at H; have c65b0 : (t227 == 0) = false := beq_eq_false_iff_ne.mpr c65; have c65b1 : (t227 != 0) = true := bne_iff_ne.mpr c65; (first | rw [c65b0] | (simp only [i64_w, i32_w]; rw [c65b0]) | skip); exact absurd (H.trans (congrArg some HRT_.out)) (by first | (simp; done) | (generalize k4 = k_; cases k_ <;> simp [bitloftlaw42_ParityRecovers.j0, bitloftlaw42_ParityRecovers.j1, bitloftlaw42_ParityRecovers.l0, bitloftlaw42_ParityRecovers.j3, bitloftlaw42_ParityRecovers.l1, bitloftlaw42_ParityRecovers.j5]))
                ·
                 replace c64 := Bool.eq_false_iff.mpr c64
                 subst c64
                 have H1 : (bitloftlaw42_ParityRecovers.j5 k4 false) = some r := by rw [if_neg (show ¬ (false = true) by decide)] at H; exact H
                 clear H; have H := H1; clear H1; exact absurd (H.trans (congrArg some HRT_.out)) (by first | (simp; done) | (generalize k4 = k_; cases k_ <;> simp [bitloftlaw42_ParityRecovers.j0, bitloftlaw42_ParityRecovers.j1, bitloftlaw42_ParityRecovers.l0, bitloftlaw42_ParityRecovers.j3, bitloftlaw42_ParityRecovers.l1, bitloftlaw42_ParityRecovers.j5]))
               case rest =>
                (try (refine hKt_ _ _ ?_; clear hKt_; clear Kt_)); clear HC60
                try clear c1
                try clear c2
                try clear p2
                try clear q2
                try clear hx2
                try clear c3
                try clear q3
                try clear c4
                try clear p4
                try clear q4
                try clear hx4
                try clear hf4
                try clear c5
                try clear c6
                try clear p6
                try clear c7
                try clear c8
                try clear c10
                try clear c11
                try clear c11b0
                try clear c11b1
                try clear c12
                try clear c12b0
                try clear c12b1
                try clear c12b2
                try clear c13
                try clear c15
                try clear c18
                try clear c19
                try clear c20
                try clear c20b0
                try clear c20b1
                try clear p20
                try clear q20
                try clear hx20
                try clear c21
                try clear c21b0
                try clear c21b1
                try clear c21b2
                try clear p21
                try clear q21
                try clear hx21
                try clear c22
                try clear c22b0
                try clear c22b1
                try clear c24
                try clear c25
                try clear c25b0
                try clear c25b1
                try clear c26
                try clear c26b0
                try clear c26b1
                try clear c29
                try clear c29b0
                try clear c31
                try clear c31b0
                try clear c32
                try clear c32b0
                try clear q33
                try clear c34
                try clear c35
                try clear c36
                try clear c36b0
                try clear c36b1
                try clear c38
                try clear c38b0
                try clear c39
                try clear c39b0
                try clear p40
                try clear q40
                try clear hx40
                try clear hf40
                try clear c48
                try clear c50
                try clear c50b0
                try clear c51
                try clear c51b0
                try clear c52
                try clear c52b0
                try clear c54
                try clear c64
                try clear p64
                try clear c65
                try clear c65b0
                try clear c65b1
                try clear hx206_0
                try clear hx207_0
                try clear hx217_0
                try clear hx219_0
                try clear hx40_0
                try clear p2
                try clear p20
                try clear p206
                try clear p207
                try clear p21
                try clear p217
                try clear p219
                try clear p4
                try clear p40
                try clear p6
                try clear q2
                try clear q20
                try clear q206
                try clear q207
                try clear q21
                try clear q217
                try clear q219
                try clear q3
                try clear q33
                try clear q4
                try clear q40
                obtain ⟨kq, x6_59, rfl, HA, HJ59, HB⟩ := hcut
                cases kq with
                | zero => exact absurd HA.out (by simp [bitloftlaw42_ParityRecovers.j5])
                | succ kj59 =>
                 have H := HA.out; clear HA; simp only [bitloftlaw42_ParityRecovers.j5] at H; obtain rfl := Option.some.inj H
                 go_wp2
                 go_ret
                 exact ⟨by first | rfl | (simp [errW_none, errW_some] <;> rfl) | (simp [*, errW_none, errW_some] <;> rfl), pH_ HB.out⟩
        ·
         rw [if_neg c26] at H; exact absurd H (by simp)
       ·
        rw [if_neg c25] at H; exact absurd H (by simp)

/-- The one plain statement of bitloftlaw42_ParityRecovers. -/
def bitloftlaw42_ParityRecovers.Pure : Prop := ∀ (l0 : List (List Int)) (l1 : List Bool) (a2 : Int), l0.length ≤ maxLen → (∀ x_ ∈ l0, (fun l_ : List Int => l_.length ≤ maxLen ∧ ∀ x_ ∈ l_, (fun n_ : Int => (Lit.int .u8 n_).wf = true) x_) x_) → l1.length ≤ maxLen → (∀ x_ ∈ l1, (fun _ : Bool => True) x_) → (Lit.int .i64 a2).wf = true → ∃ k, bitloftlaw42_ParityRecovers.f k l0 l1 a2 = some true

end Go.Proofs.YtejamobohmljfaaDoor.XParityRecovers
