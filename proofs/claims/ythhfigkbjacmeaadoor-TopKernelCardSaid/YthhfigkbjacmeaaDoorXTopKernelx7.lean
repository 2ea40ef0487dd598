-- Laid by a program of this session (wip/mkxprint.py, over the kit's print): Lean checks it.
import Derived.Test.YthhfigkbjacmeaaDoorXTopKernelx0
import Derived.Test.YthhfigkbjacmeaaDoorXTopKernelx4
import Derived.Test.YthhfigkbjacmeaaDoorXTopKernelx6
namespace Go.Proofs.YthhfigkbjacmeaaDoor.XTopKernel
open List (setIfInBounds_toArray set_cons_zero set_cons_succ)
open Go.RowKit Go.Proofs.YthhfigkbjacmeaaDoorW.PrintWords Go.Proofs.YthhfigkbjacmeaaDoorW.PrintLast Go.Proofs.YthhfigkbjacmeaaDoorW.PrintMore
attribute [local go_sem] max2_int min2_int max_two min_two max_three min_three max_four min_four   -- for this text's walks alone
set_option linter.unusedVariables false
set_option linter.unusedSimpArgs false

/-! ### sha_do: function 83 -/
def sha_do.rot (x n : Int) : Int := (bits_RotateLeft32.f x n).getD 0
theorem sha_do.rot_call (x n : Int) (hn : n = 1 ∨ n = 5 ∨ n = 30) (w : World) : Calls Tryd.prog 104 #[.int .u32 x, .int .i64 n] w fun e w' => e = .returned (.int .u32 (sha_do.rot x n)) ∧ ∃ m, w' = w.drewN m := by
  have h : bits_RotateLeft32.f x n = some (sha_do.rot x n) := by
    unfold sha_do.rot
    rcases hn with rfl | rfl | rfl <;> (unfold bits_RotateLeft32.f; rw [if_pos (by decide), if_pos (by decide)]; rfl)
  refine (bits_RotateLeft32.calls x n _ w h).mono ?_
  rintro e w' ⟨rfl, m, rfl⟩
  exact ⟨rfl, m, rfl⟩
def sha_do.mixf (q b c d : Int) : Int := (sha_mix.f q b c d).getD 0
theorem sha_do.mix_call (q b c d : Int) (w : World) : Calls Tryd.prog 105 #[.int .i64 q, .int .u32 b, .int .u32 c, .int .u32 d] w fun e w' => e = .returned (.int .u32 (sha_do.mixf q b c d)) ∧ ∃ m, w' = w.drewN m := by
  have h : sha_mix.f q b c d = some (sha_do.mixf q b c d) := by
    unfold sha_do.mixf sha_mix.f
    split
    · rfl
    · split <;> rfl
  refine (sha_mix.calls q b c d _ w h).mono ?_
  rintro e w' ⟨rfl, m, rfl⟩
  exact ⟨rfl, m, rfl⟩
/-- The sixteen words behind the first k bytes. -/
def sha_do.load (l : List Int) : Nat → List Int
  | 0 => List.replicate 16 0
  | k + 1 => (sha_do.load l k).set (k / 4) (bits .or .u32 (rd (sha_do.load l k) ((k / 4 : Nat) : Int) * 256 % 4294967296) (rd l (k : Int) % 4294967296))
theorem sha_do.load_len (l : List Int) (k : Nat) : (sha_do.load l k).length = 16 := by
  induction k with
  | zero => rfl
  | succ k ih => rw [sha_do.load, List.length_set, ih]
theorem sha_do.start_blk (w : World) (a b c : Obj) : (((w.alloc a).alloc b).alloc c).heap[w.heap.size + 2]? = some c := by
  have h : ((w.alloc a).alloc b).heap.size = w.heap.size + 2 := by simp
  rw [← h]
  exact blk_new _ _
structure sha_do.St where mk :: (ws : List Int) (a b c d e : Int)
def sha_do.upd (ws : List Int) (t : Nat) : List Int := if 16 ≤ t then ws.set (t % 16) (sha_do.rot (bits .xor .u32 (bits .xor .u32 (bits .xor .u32 (rd ws (((t + 13) % 16 : Nat) : Int)) (rd ws (((t + 8) % 16 : Nat) : Int))) (rd ws (((t + 2) % 16 : Nat) : Int))) (rd ws ((t % 16 : Nat) : Int))) 1) else ws
def sha_do.nxt (ws : List Int) (t : Nat) (a b c d e : Int) : Int := (sha_do.rot a 5 + sha_do.mixf ((t / 20 : Nat) : Int) b c d + e + rd quRow ((t / 20 : Nat) : Int) + rd ws ((t % 16 : Nat) : Int)) % 4294967296
def sha_do.step (s : sha_do.St) (t : Nat) : sha_do.St := ⟨sha_do.upd s.ws t, sha_do.nxt (sha_do.upd s.ws t) t s.a s.b s.c s.d s.e, s.a, sha_do.rot s.b 30, s.c, s.d⟩
def sha_do.go (ws0 : List Int) (h0 h1 h2 h3 h4 : Int) : Nat → sha_do.St
  | 0 => ⟨ws0, h0, h1, h2, h3, h4⟩
  | t + 1 => sha_do.step (sha_do.go ws0 h0 h1 h2 h3 h4 t) t
theorem sha_do.go_len (ws0 : List Int) (hw : ws0.length = 16) (h0 h1 h2 h3 h4 : Int) (t : Nat) : (sha_do.go ws0 h0 h1 h2 h3 h4 t).ws.length = 16 := by
  induction t with
  | zero => exact hw
  | succ t ih =>
    rw [sha_do.go]
    show (sha_do.upd _ t).length = 16
    unfold sha_do.upd
    split
    · rw [List.length_set]; exact ih
    · exact ih
theorem sha_do.cells_set (ws : List Int) (k : Nat) (v : Int) : ((ws.map (fun x => Value.int .u32 x)).toArray.setIfInBounds k (.int .u32 v)) = ((ws.set k v).map (fun x => Value.int .u32 x)).toArray := by
  simp
theorem sha_do.cell_at (ws : List Int) (h : ws.length = 16) (k : Nat) (hk : k < 16) : (ws.map (fun x => Value.int .u32 x)).toArray[k]? = some (.int .u32 (rd ws (k : Int))) := by
  have := arr_sel_ .u32 ws h (i := (k : Int)) (by omega) (by omega)
  rwa [Int.toNat_natCast] at this
theorem sha_do.item (A0 : Option Addr) (l0 : List Int) (w : World) (hr0 : Kd.C (Kd.int .u8) w A0 l0.length l0) (k : Nat) (hk : k < l0.length) :
    ∃ ad, A0 = some ad ∧ w.cell? (ad.add k) = some (.int .u8 (rd l0 (k : Int))) := by
  obtain ⟨ad, c, e, hl, hK, hc⟩ := ReadsRow.get_ hr0 0 (k : Int) (by omega) (by omega)
  refine ⟨ad, e, ?_⟩
  have h0 : c = [.int .u8 (rd l0 (k : Int))] := hK
  have := hc 0 (.int .u8 (rd l0 (k : Int))) (by rw [h0]; rfl)
  rw [Int.toNat_natCast, show (Kd.int .u8).sz = 1 from rfl, Nat.mul_one, Nat.add_zero] at this
  exact this
set_option maxHeartbeats 8000000 in
set_option maxRecDepth 100000 in
theorem sha_do.run (h0 h1 h2 h3 h4 : Int) (A0 : Option Addr) (c0 : Nat) (l : List Int) (w : World) (hT : Tab_ w) (hr0 : Kd.C (Kd.int .u8) w A0 l.length l) (hc0 : l.length ≤ c0) (h64 : 64 ≤ l.length) (q p : Nat) (hq : q = 64) (hp : p = 80) :
    Calls Tryd.prog 83 #[.agg #[.int .u32 h0, .int .u32 h1, .int .u32 h2, .int .u32 h3, .int .u32 h4], .slice A0 l.length c0] w fun e w' => e = .returned (.agg #[.int .u32 (IntKind.u32.wrap (h0 + (sha_do.go (sha_do.load l q) h0 h1 h2 h3 h4 p).a)), .int .u32 (IntKind.u32.wrap (h1 + (sha_do.go (sha_do.load l q) h0 h1 h2 h3 h4 p).b)), .int .u32 (IntKind.u32.wrap (h2 + (sha_do.go (sha_do.load l q) h0 h1 h2 h3 h4 p).c)), .int .u32 (IntKind.u32.wrap (h3 + (sha_do.go (sha_do.load l q) h0 h1 h2 h3 h4 p).d)), .int .u32 (IntKind.u32.wrap (h4 + (sha_do.go (sha_do.load l q) h0 h1 h2 h3 h4 p).e))]) ∧ Below w.heap.size w w' := by
  have HT := Aside0.mk hT
  have HR := Aside0.mk hr0
  obtain ⟨i0, hi0, _, hsz0, _⟩ := info_parts info5
  have hcut : ∀ W : World, (Instr.slice 22 (.slice A0 l.length c0) none (some (.int .i64 64)) none).run Tryd.prog W = .ok (.slice A0 64 c0) W := cut_to 22 5 .i64 Tryd.underlying22 hi0 A0 l.length c0 64 (by decide) (by omega) hc0
  clear hT hr0 hi0 hsz0
  have HQ := Aside0.mk hq
  have HP := Aside0.mk hp
  clear hq hp
  go_enter Tryd.func83, Tryd.ntmps83
  go_wp2
  go_loopg [6, 7, 18] 64 (fun kx s6 s7 s18 wr => ∃ k : Nat, k ≤ 64 ∧ s18 = .int .i64 k ∧ 64 - k ≤ kx ∧ Aside0 (Below w.heap.size w wr) ∧ Aside0 (wr.heap[w.heap.size]? = some (.cells #[.int .u32 h0, .int .u32 h1, .int .u32 h2, .int .u32 h3, .int .u32 h4] 145 (0, 0))) ∧ Aside0 (∃ cs, cs.size = 5 ∧ wr.heap[w.heap.size + 1]? = some (.cells cs 145 (0, 0))) ∧ Aside0 (wr.heap[w.heap.size + 2]? = some (.cells ((sha_do.load l k).map (fun x => Value.int .u32 x)).toArray 165 (0, 0))))
  case atStart => exact ⟨0, by omega, rfl, by omega, Aside0.mk (by repeat (first | exact Below.refl _ _ | apply below_alloc | apply pw_below_drewN | apply below_drew)), Aside0.mk (blk_alloc (blk_alloc (blk_new w _) _) _), Aside0.mk ⟨_, rfl, blk_alloc ((show (w.alloc (.cells #[.int .u32 h0, .int .u32 h1, .int .u32 h2, .int .u32 h3, .int .u32 h4] 145 (0, 0))).heap.size = w.heap.size + 1 by simp) ▸ blk_new _ _) _⟩, Aside0.mk (sha_do.start_blk w _ _ _)⟩
  case round =>
    obtain ⟨k, hk, rfl, hg, HB, HH, HZ, HO⟩ := hrel
    by_cases hlt : k < 64
    · obtain ⟨ad, e, hit⟩ := sha_do.item A0 l wr (Kd.C_below HR.out HB.out) k (by omega)
      subst e
      obtain ⟨j, hj⟩ : ∃ j : Nat, k / 4 = j := ⟨_, rfl⟩
      have c1 : wr.cell? ⟨w.heap.size + 2, j, none⟩ = some (.int .u32 (rd (sha_do.load l k) (j : Int))) := (blk_cell HO.out j).trans (sha_do.cell_at _ (sha_do.load_len l k) j (by omega))
      have c2 := blk_frozen HO.out j
      have e1 : Int.tdiv (k : Int) 4 = (j : Int) := by rw [Int.tdiv_eq_ediv_of_nonneg (by omega)]; omega
      have j0 : (0 : Int) ≤ (j : Int) := by omega
      have j1 : (j : Int) < 16 := by omega
      have hkz : (k : Int) < 64 := by omega
      have hk0 : (0 : Int) ≤ (k : Int) := by omega
      have HL := Aside0.mk (show sha_do.load l (k + 1) = (sha_do.load l k).set j (bits .or .u32 (rd (sha_do.load l k) (j : Int) * 256 % 4294967296) (rd l (k : Int) % 4294967296)) from by rw [← hj]; rfl)
      go_wp2
      go_roundg (64 - (k + 1))
      case measure => omega
      case rel =>
        refine ⟨k + 1, by omega, by go_num, Nat.le_refl _, Aside0.mk (below_set HB.out (by show w.heap.size ≤ w.heap.size + 1 + 1; omega)), Aside0.mk (blk_far HH.out (by show w.heap.size ≠ w.heap.size + 1 + 1; omega) _), Aside0.mk ?_, Aside0.mk ?_⟩
        · obtain ⟨cs, h1, h2⟩ := HZ.out
          exact ⟨cs, h1, blk_far h2 (by show w.heap.size + 1 ≠ w.heap.size + 1 + 1; omega) _⟩
        · rw [HL.out, ← sha_do.cells_set]
          exact blk_set HO.out j _
    · obtain rfl : k = q := by have := HQ.out; omega
      clear HQ
      have hkz : ¬ (k : Int) < 64 := by omega
      obtain ⟨cz, hz1, hz2⟩ := HZ.out
      have HZ2 := Aside0.mk hz2
      have HZ1 := Aside0.mk hz1
      clear hz1 hz2 HZ
      generalize hws : sha_do.load l k = ws0 at HO
      have HW0 : Aside0 (ws0.length = 16) := Aside0.mk (by rw [← hws]; exact sha_do.load_len l k)
      have HWS := Aside0.mk hws
      clear hws
      have b0 := (blk_cell HH.out 0).trans (rfl : _ = some (Value.int .u32 h0))
      have b1 := (blk_cell HH.out 1).trans (rfl : _ = some (Value.int .u32 h1))
      have b2 := (blk_cell HH.out 2).trans (rfl : _ = some (Value.int .u32 h2))
      have b3 := (blk_cell HH.out 3).trans (rfl : _ = some (Value.int .u32 h3))
      have b4 := (blk_cell HH.out 4).trans (rfl : _ = some (Value.int .u32 h4))
      go_wp2
      go_region
      clear b0 b1 b2 b3 b4
      have HOd := HO
      clear HO
      go_wp2
      go_loopg [8, 9, 10, 11, 12, 13, 14, 45] 80 (fun kx s8 s9 s10 s11 s12 s13 s14 s45 w2 => ∃ t : Nat, t ≤ 80 ∧ s45 = .int .i64 t ∧ 80 - t ≤ kx ∧ s8 = .int .u32 (sha_do.go ws0 h0 h1 h2 h3 h4 t).a ∧ s9 = .int .u32 (sha_do.go ws0 h0 h1 h2 h3 h4 t).b ∧ s10 = .int .u32 (sha_do.go ws0 h0 h1 h2 h3 h4 t).c ∧ s11 = .int .u32 (sha_do.go ws0 h0 h1 h2 h3 h4 t).d ∧ s12 = .int .u32 (sha_do.go ws0 h0 h1 h2 h3 h4 t).e ∧ Aside0 (Below w.heap.size w w2) ∧ Aside0 (w2.heap[w.heap.size]? = some (.cells #[.int .u32 h0, .int .u32 h1, .int .u32 h2, .int .u32 h3, .int .u32 h4] 145 (0, 0))) ∧ Aside0 (w2.heap[w.heap.size + 1]? = some (.cells cz 145 (0, 0))) ∧ Aside0 (w2.heap[w.heap.size + 2]? = some (.cells ((sha_do.go ws0 h0 h1 h2 h3 h4 t).ws.map (fun x => Value.int .u32 x)).toArray 165 (0, 0))))
      case atStart => exact ⟨0, by omega, rfl, by omega, rfl, rfl, rfl, rfl, rfl, Aside0.mk (below_drew1 HB.out), HH, HZ2, HOd⟩
      case round =>
        clear HH HZ2 HOd HB
        obtain ⟨t, ht, rfl, hg, rfl, rfl, rfl, rfl, rfl, HB, HH, HZ2, HO⟩ := hrel
        by_cases hlt : t < 80
        · have HS : Aside0 (sha_do.go ws0 h0 h1 h2 h3 h4 (t + 1) = sha_do.step (sha_do.go ws0 h0 h1 h2 h3 h4 t) t) := Aside0.mk rfl
          have HL : Aside0 ((sha_do.go ws0 h0 h1 h2 h3 h4 t).ws.length = 16) := Aside0.mk (sha_do.go_len _ HW0.out _ _ _ _ _ _)
          generalize sha_do.go ws0 h0 h1 h2 h3 h4 t = s at HS HL HO ⊢
          obtain ⟨ws, a, b, c, d, e⟩ := s
          dsimp only at HL HO
          have htz : (t : Int) < 80 := by omega
          have ht0 : (0 : Int) ≤ (t : Int) := by omega
          obtain ⟨j, hj⟩ : ∃ j : Nat, t % 16 = j := ⟨_, rfl⟩
          obtain ⟨q, hq20⟩ : ∃ q : Nat, t / 20 = q := ⟨_, rfl⟩
          have ej : Int.tmod (t : Int) 16 = (j : Int) := by rw [Int.tmod_eq_emod_of_nonneg (by omega)]; omega
          have eq20 : Int.tdiv (t : Int) 20 = (q : Int) := by rw [Int.tdiv_eq_ediv_of_nonneg (by omega)]; omega
          have j0 : (0 : Int) ≤ (j : Int) := by omega
          have j1 : (j : Int) < 16 := by omega
          have q0 : (0 : Int) ≤ (q : Int) := by omega
          have q1 : (q : Int) < 4 := by omega
          by_cases h16 : 16 ≤ t
          · have h16z : (16 : Int) ≤ (t : Int) := by omega
            obtain ⟨ja, hja⟩ : ∃ j : Nat, (t + 13) % 16 = j := ⟨_, rfl⟩
            obtain ⟨jb, hjb⟩ : ∃ j : Nat, (t + 8) % 16 = j := ⟨_, rfl⟩
            obtain ⟨jc, hjc⟩ : ∃ j : Nat, (t + 2) % 16 = j := ⟨_, rfl⟩
            have eja : Int.tmod ((t : Int) + 13) 16 = (ja : Int) := by rw [Int.tmod_eq_emod_of_nonneg (by omega)]; omega
            have ejb : Int.tmod ((t : Int) + 8) 16 = (jb : Int) := by rw [Int.tmod_eq_emod_of_nonneg (by omega)]; omega
            have ejc : Int.tmod ((t : Int) + 2) 16 = (jc : Int) := by rw [Int.tmod_eq_emod_of_nonneg (by omega)]; omega
            have ja0 : (0 : Int) ≤ (ja : Int) := by omega
            have ja1 : (ja : Int) < 16 := by omega
            have jb0 : (0 : Int) ≤ (jb : Int) := by omega
            have jb1 : (jb : Int) < 16 := by omega
            have jc0 : (0 : Int) ≤ (jc : Int) := by omega
            have jc1 : (jc : Int) < 16 := by omega
            have ca := (blk_cell HO.out ja).trans (sha_do.cell_at _ HL.out ja (by omega))
            have cb := (blk_cell HO.out jb).trans (sha_do.cell_at _ HL.out jb (by omega))
            have cc := (blk_cell HO.out jc).trans (sha_do.cell_at _ HL.out jc (by omega))
            have cj := (blk_cell HO.out j).trans (sha_do.cell_at _ HL.out j (by omega))
            have cf := blk_frozen HO.out j
            have wa : IntKind.i64.wrap ((t : Int) + 13) = (t : Int) + 13 := by rw [i64_w, wrap64]; omega
            have wb : IntKind.i64.wrap ((t : Int) + 8) = (t : Int) + 8 := by rw [i64_w, wrap64]; omega
            have wc : IntKind.i64.wrap ((t : Int) + 2) = (t : Int) + 2 := by rw [i64_w, wrap64]; omega
            go_wp2
            refine start_ (n := 27) (S := fun w' => w'.cell? ⟨w.heap.size + 1 + 1, ja, none⟩ = some (.int .u32 (rd ws (ja : Int))) ∧ w'.cell? ⟨w.heap.size + 1 + 1, jb, none⟩ = some (.int .u32 (rd ws (jb : Int))) ∧ w'.cell? ⟨w.heap.size + 1 + 1, jc, none⟩ = some (.int .u32 (rd ws (jc : Int))) ∧ w'.cell? ⟨w.heap.size + 1 + 1, j, none⟩ = some (.int .u32 (rd ws (j : Int)))) (ds := [26]) #[false, false, false, false, false, false, false, false, false, false, false, false, false, false, false, false, false, false, false, false, false, false, false, false, false, false, false] (by kernel_rfl) rfl rfl ⟨ca, cb, cc, cj⟩ (fun hHeld => ?_)
            refine take_ (i := 0) (N := some 50) (v := ?_) (a' := ?_) #[true, false, false, false, false, false, false, false, false, false, false, false, false, false, false, false, false, false, false, false, false, false, false, false, false, false, false] rfl rfl (by kernel_rfl) (fun _ _ _ h => h) (Or.inl ⟨by rfl, ?_⟩) hHeld ?_ ?_; rotate_left
            · rintro w' ⟨s0, s1, s2, s3⟩; go_simp; with_reducible rfl
            rotate_left
            · simp only [Act.put, setIfInBounds_toArray, set_cons_zero, set_cons_succ, i64_w, i32_w]; rfl
            refine take_ (i := 1) (N := some 51) (v := ?_) (a' := ?_) #[true, true, false, false, false, false, false, false, false, false, false, false, false, false, false, false, false, false, false, false, false, false, false, false, false, false, false] rfl rfl (by kernel_rfl) (fun _ _ _ h => h) (Or.inl ⟨by rfl, ?_⟩) hHeld ?_ ?_; rotate_left
            · rintro w' ⟨s0, s1, s2, s3⟩; go_simp; with_reducible rfl
            rotate_left
            · simp only [Act.put, setIfInBounds_toArray, set_cons_zero, set_cons_succ, i64_w, i32_w]; rfl
            refine take_ (i := 2) (N := some 52) (v := ?_) (a' := ?_) #[true, true, true, false, false, false, false, false, false, false, false, false, false, false, false, false, false, false, false, false, false, false, false, false, false, false, false] rfl rfl (by kernel_rfl) (fun _ _ _ h => h) (Or.inl ⟨by rfl, ?_⟩) hHeld ?_ ?_; rotate_left
            · rintro w' ⟨s0, s1, s2, s3⟩; go_simp; with_reducible rfl
            rotate_left
            · simp only [Act.put, setIfInBounds_toArray, set_cons_zero, set_cons_succ, i64_w, i32_w]; rfl
            refine take_ (i := 3) (N := some 53) (v := ?_) (a' := ?_) #[true, true, true, true, false, false, false, false, false, false, false, false, false, false, false, false, false, false, false, false, false, false, false, false, false, false, false] rfl rfl (by kernel_rfl) (fun _ _ _ h => h) (Or.inl ⟨by rfl, ?_⟩) hHeld ?_ ?_; rotate_left
            · rintro w' ⟨s0, s1, s2, s3⟩; go_simp; with_reducible rfl
            rotate_left
            · simp only [Act.put, setIfInBounds_toArray, set_cons_zero, set_cons_succ, i64_w, i32_w]; rfl
            refine take_ (i := 4) (N := some 54) (v := ?_) (a' := ?_) #[true, true, true, true, true, false, false, false, false, false, false, false, false, false, false, false, false, false, false, false, false, false, false, false, false, false, false] rfl rfl (by kernel_rfl) (fun _ _ _ h => h) (Or.inl ⟨by rfl, ?_⟩) hHeld ?_ ?_; rotate_left
            · rintro w' ⟨s0, s1, s2, s3⟩; go_simp; with_reducible rfl
            rotate_left
            · simp only [Act.put, setIfInBounds_toArray, set_cons_zero, set_cons_succ, i64_w, i32_w]; rfl
            refine take_ (i := 5) (N := some 55) (v := ?_) (a' := ?_) #[true, true, true, true, true, true, false, false, false, false, false, false, false, false, false, false, false, false, false, false, false, false, false, false, false, false, false] rfl rfl (by kernel_rfl) (fun _ _ _ h => h) (Or.inl ⟨by rfl, ?_⟩) hHeld ?_ ?_; rotate_left
            · rintro w' ⟨s0, s1, s2, s3⟩; go_simp; with_reducible rfl
            rotate_left
            · simp only [Act.put, setIfInBounds_toArray, set_cons_zero, set_cons_succ, i64_w, i32_w]; rfl
            refine take_ (i := 6) (N := some 56) (v := ?_) (a' := ?_) #[true, true, true, true, true, true, true, false, false, false, false, false, false, false, false, false, false, false, false, false, false, false, false, false, false, false, false] rfl rfl (by kernel_rfl) (fun _ _ _ h => h) (Or.inl ⟨by rfl, ?_⟩) hHeld ?_ ?_; rotate_left
            · rintro w' ⟨s0, s1, s2, s3⟩; go_simp; with_reducible rfl
            rotate_left
            · simp only [Act.put, setIfInBounds_toArray, set_cons_zero, set_cons_succ, i64_w, i32_w]; rfl
            refine take_ (i := 7) (N := some 57) (v := ?_) (a' := ?_) #[true, true, true, true, true, true, true, true, false, false, false, false, false, false, false, false, false, false, false, false, false, false, false, false, false, false, false] rfl rfl (by kernel_rfl) (fun _ _ _ h => h) (Or.inl ⟨by rfl, ?_⟩) hHeld ?_ ?_; rotate_left
            · rintro w' ⟨s0, s1, s2, s3⟩; go_simp; with_reducible rfl
            rotate_left
            · simp only [Act.put, setIfInBounds_toArray, set_cons_zero, set_cons_succ, i64_w, i32_w]; rfl
            refine take_ (i := 8) (N := some 58) (v := ?_) (a' := ?_) #[true, true, true, true, true, true, true, true, true, false, false, false, false, false, false, false, false, false, false, false, false, false, false, false, false, false, false] rfl rfl (by kernel_rfl) (fun _ _ _ h => h) (Or.inl ⟨by rfl, ?_⟩) hHeld ?_ ?_; rotate_left
            · rintro w' ⟨s0, s1, s2, s3⟩; go_simp; with_reducible rfl
            rotate_left
            · simp only [Act.put, setIfInBounds_toArray, set_cons_zero, set_cons_succ, i64_w, i32_w]; rfl
            refine take_ (i := 9) (N := some 59) (v := ?_) (a' := ?_) #[true, true, true, true, true, true, true, true, true, true, false, false, false, false, false, false, false, false, false, false, false, false, false, false, false, false, false] rfl rfl (by kernel_rfl) (fun _ _ _ h => h) (Or.inl ⟨by rfl, ?_⟩) hHeld ?_ ?_; rotate_left
            · rintro w' ⟨s0, s1, s2, s3⟩; go_simp; with_reducible rfl
            rotate_left
            · simp only [Act.put, setIfInBounds_toArray, set_cons_zero, set_cons_succ, i64_w, i32_w]; rfl
            refine take_ (i := 10) (N := some 60) (v := ?_) (a' := ?_) #[true, true, true, true, true, true, true, true, true, true, true, false, false, false, false, false, false, false, false, false, false, false, false, false, false, false, false] rfl rfl (by kernel_rfl) (fun _ _ _ h => h) (Or.inl ⟨by rfl, ?_⟩) hHeld ?_ ?_; rotate_left
            · rintro w' ⟨s0, s1, s2, s3⟩; go_simp; with_reducible rfl
            rotate_left
            · simp only [Act.put, setIfInBounds_toArray, set_cons_zero, set_cons_succ, i64_w, i32_w]; rfl
            refine take_ (i := 11) (N := some 61) (v := ?_) (a' := ?_) #[true, true, true, true, true, true, true, true, true, true, true, true, false, false, false, false, false, false, false, false, false, false, false, false, false, false, false] rfl rfl (by kernel_rfl) (fun _ _ _ h => h) (Or.inl ⟨by rfl, ?_⟩) hHeld ?_ ?_; rotate_left
            · rintro w' ⟨s0, s1, s2, s3⟩; go_simp; with_reducible rfl
            rotate_left
            · simp only [Act.put, setIfInBounds_toArray, set_cons_zero, set_cons_succ, i64_w, i32_w]; rfl
            refine take_ (i := 12) (N := some 62) (v := ?_) (a' := ?_) #[true, true, true, true, true, true, true, true, true, true, true, true, true, false, false, false, false, false, false, false, false, false, false, false, false, false, false] rfl rfl (by kernel_rfl) (fun _ _ _ h => h) (Or.inl ⟨by rfl, ?_⟩) hHeld ?_ ?_; rotate_left
            · rintro w' ⟨s0, s1, s2, s3⟩; go_simp; with_reducible rfl
            rotate_left
            · simp only [Act.put, setIfInBounds_toArray, set_cons_zero, set_cons_succ, i64_w, i32_w]; rfl
            refine take_ (i := 13) (N := some 63) (v := ?_) (a' := ?_) #[true, true, true, true, true, true, true, true, true, true, true, true, true, true, false, false, false, false, false, false, false, false, false, false, false, false, false] rfl rfl (by kernel_rfl) (fun _ _ _ h => h) (Or.inl ⟨by rfl, ?_⟩) hHeld ?_ ?_; rotate_left
            · rintro w' ⟨s0, s1, s2, s3⟩; go_simp; with_reducible rfl
            rotate_left
            · simp only [Act.put, setIfInBounds_toArray, set_cons_zero, set_cons_succ, i64_w, i32_w]; rfl
            refine take_ (i := 14) (N := some 64) (v := ?_) (a' := ?_) #[true, true, true, true, true, true, true, true, true, true, true, true, true, true, true, false, false, false, false, false, false, false, false, false, false, false, false] rfl rfl (by kernel_rfl) (fun _ _ _ h => h) (Or.inl ⟨by rfl, ?_⟩) hHeld ?_ ?_; rotate_left
            · rintro w' ⟨s0, s1, s2, s3⟩; go_simp; with_reducible rfl
            rotate_left
            · simp only [Act.put, setIfInBounds_toArray, set_cons_zero, set_cons_succ, i64_w, i32_w]; rfl
            refine take_ (i := 15) (N := some 65) (v := ?_) (a' := ?_) #[true, true, true, true, true, true, true, true, true, true, true, true, true, true, true, true, false, false, false, false, false, false, false, false, false, false, false] rfl rfl (by kernel_rfl) (fun _ _ _ h => h) (Or.inl ⟨by rfl, ?_⟩) hHeld ?_ ?_; rotate_left
            · rintro w' ⟨s0, s1, s2, s3⟩; go_simp; with_reducible rfl
            rotate_left
            · simp only [Act.put, setIfInBounds_toArray, set_cons_zero, set_cons_succ, i64_w, i32_w]; rfl
            refine take_ (i := 16) (N := some 66) (v := ?_) (a' := ?_) #[true, true, true, true, true, true, true, true, true, true, true, true, true, true, true, true, true, false, false, false, false, false, false, false, false, false, false] rfl rfl (by kernel_rfl) (fun _ _ _ h => h) (Or.inl ⟨by rfl, ?_⟩) hHeld ?_ ?_; rotate_left
            · rintro w' ⟨s0, s1, s2, s3⟩; go_simp; with_reducible rfl
            rotate_left
            · simp only [Act.put, setIfInBounds_toArray, set_cons_zero, set_cons_succ, i64_w, i32_w]; rfl
            refine take_ (i := 17) (N := some 67) (v := ?_) (a' := ?_) #[true, true, true, true, true, true, true, true, true, true, true, true, true, true, true, true, true, true, false, false, false, false, false, false, false, false, false] rfl rfl (by kernel_rfl) (fun _ _ _ h => h) (Or.inl ⟨by rfl, ?_⟩) hHeld ?_ ?_; rotate_left
            · rintro w' ⟨s0, s1, s2, s3⟩; go_simp; with_reducible rfl
            rotate_left
            · simp only [Act.put, setIfInBounds_toArray, set_cons_zero, set_cons_succ, i64_w, i32_w]; rfl
            refine take_ (i := 18) (N := some 68) (v := ?_) (a' := ?_) #[true, true, true, true, true, true, true, true, true, true, true, true, true, true, true, true, true, true, true, false, false, false, false, false, false, false, false] rfl rfl (by kernel_rfl) (fun _ _ _ h => h) (Or.inl ⟨by rfl, ?_⟩) hHeld ?_ ?_; rotate_left
            · rintro w' ⟨s0, s1, s2, s3⟩; go_simp; with_reducible rfl
            rotate_left
            · simp only [Act.put, setIfInBounds_toArray, set_cons_zero, set_cons_succ, i64_w, i32_w]; rfl
            refine take_ (i := 19) (N := some 69) (v := ?_) (a' := ?_) #[true, true, true, true, true, true, true, true, true, true, true, true, true, true, true, true, true, true, true, true, false, false, false, false, false, false, false] rfl rfl (by kernel_rfl) (fun _ _ _ h => h) (Or.inl ⟨by rfl, ?_⟩) hHeld ?_ ?_; rotate_left
            · rintro w' ⟨s0, s1, s2, s3⟩; go_simp; with_reducible rfl
            rotate_left
            · simp only [Act.put, setIfInBounds_toArray, set_cons_zero, set_cons_succ, i64_w, i32_w]; rfl
            refine take_ (i := 20) (N := some 70) (v := ?_) (a' := ?_) #[true, true, true, true, true, true, true, true, true, true, true, true, true, true, true, true, true, true, true, true, true, false, false, false, false, false, false] rfl rfl (by kernel_rfl) (fun _ _ _ h => h) (Or.inl ⟨by rfl, ?_⟩) hHeld ?_ ?_; rotate_left
            · rintro w' ⟨s0, s1, s2, s3⟩; go_simp; with_reducible rfl
            rotate_left
            · simp only [Act.put, setIfInBounds_toArray, set_cons_zero, set_cons_succ, i64_w, i32_w]; rfl
            refine take_ (i := 21) (N := some 71) (v := ?_) (a' := ?_) #[true, true, true, true, true, true, true, true, true, true, true, true, true, true, true, true, true, true, true, true, true, true, false, false, false, false, false] rfl rfl (by kernel_rfl) (fun _ _ _ h => h) (Or.inl ⟨by rfl, ?_⟩) hHeld ?_ ?_; rotate_left
            · rintro w' ⟨s0, s1, s2, s3⟩; go_simp; with_reducible rfl
            rotate_left
            · simp only [Act.put, setIfInBounds_toArray, set_cons_zero, set_cons_succ, i64_w, i32_w]; rfl
            refine take_ (i := 22) (N := some 72) (v := ?_) (a' := ?_) #[true, true, true, true, true, true, true, true, true, true, true, true, true, true, true, true, true, true, true, true, true, true, true, false, false, false, false] rfl rfl (by kernel_rfl) (fun _ _ _ h => h) (Or.inl ⟨by rfl, ?_⟩) hHeld ?_ ?_; rotate_left
            · rintro w' ⟨s0, s1, s2, s3⟩; go_simp; with_reducible rfl
            rotate_left
            · simp only [Act.put, setIfInBounds_toArray, set_cons_zero, set_cons_succ, i64_w, i32_w]; rfl
            refine take_ (i := 23) (N := some 73) (v := ?_) (a' := ?_) #[true, true, true, true, true, true, true, true, true, true, true, true, true, true, true, true, true, true, true, true, true, true, true, true, false, false, false] rfl rfl (by kernel_rfl) (fun _ _ _ h => h) (Or.inl ⟨by rfl, ?_⟩) hHeld ?_ ?_; rotate_left
            · rintro w' ⟨s0, s1, s2, s3⟩; go_simp; with_reducible rfl
            rotate_left
            · simp only [Act.put, setIfInBounds_toArray, set_cons_zero, set_cons_succ, i64_w, i32_w]; rfl
            refine one_ (i := 24) (N := some 74) #[true, true, true, true, true, true, true, true, true, true, true, true, true, true, true, true, true, true, true, true, true, true, true, true, true, false, false] rfl rfl (by kernel_rfl) (by decide) (fun K hK => ?_)
            refine goes_ Tryd.func104 (by kernel_rfl) rfl #[.int .u32 _, .int .i64 1] (by rfl) rfl rfl (by (try simp only [List.map_toArray, List.map_cons, List.map_nil]); first | done | rfl) ?_
            refine (sha_do.rot_call _ 1 (Or.inl rfl) _).mono ?_
            rintro e w2 ⟨rfl, m, rfl⟩
            refine ⟨_, rfl, ?_⟩
            refine hK.out _ _ hHeld (fun hHeld4 => ?_); clear hK K
            refine norm_ (a' := ?_) ?_ ?_; rotate_left
            · show Act.put _ (some 74) _ = _; simp only [Act.put, setIfInBounds_toArray, set_cons_zero, set_cons_succ, i64_w, i32_w]; rfl
            have hfd : (wr.drew.drewN m).frozen? ⟨w.heap.size + 1 + 1, j, none⟩ = false := cf
            have hxd : (wr.drew.drewN m).cell? ⟨w.heap.size + 1 + 1, j, none⟩ = _ := cj
            refine take_ (i := 25) (N := some 75) (v := ?_) (a' := ?_) #[true, true, true, true, true, true, true, true, true, true, true, true, true, true, true, true, true, true, true, true, true, true, true, true, true, true, false] rfl rfl (by kernel_rfl) (fun _ _ _ h => h) (Or.inl ⟨by rfl, ?_⟩) hHeld4 ?_ ?_; rotate_left
            · rintro w' ⟨s0, s1, s2, s3⟩; go_simp; with_reducible rfl
            rotate_left
            · simp only [Act.put, setIfInBounds_toArray, set_cons_zero, set_cons_succ, i64_w, i32_w]; rfl
            refine last_ (i := 26) (N := none) #[true, true, true, true, true, true, true, true, true, true, true, true, true, true, true, true, true, true, true, true, true, true, true, true, true, true, true] rfl rfl (by kernel_rfl) (by decide) (fun K hK => ?_); refine skip_ (w1 := ?_) (by rfl) rfl ?_ ?_; rotate_left
            · go_simp; rfl
            refine hK.out _ _ ?_; clear hK K; refine done_ (by kernel_rfl) ?_
            clear ca cb cc cj cf hfd hxd hHeld hHeld4
            have hWS : Aside0 (sha_do.upd ws t = ws.set j (sha_do.rot (bits .xor .u32 (bits .xor .u32 (bits .xor .u32 (rd ws (ja : Int)) (rd ws (jb : Int))) (rd ws (jc : Int))) (rd ws (j : Int))) 1)) := Aside0.mk (by unfold sha_do.upd; rw [if_pos h16, hja, hjb, hjc, hj])
            have HO2 := Aside0.mk (blk_set (blk_drewN HO.out (1 + m)) j (Value.int .u32 (sha_do.rot (bits .xor .u32 (bits .xor .u32 (bits .xor .u32 (rd ws (ja : Int)) (rd ws (jb : Int))) (rd ws (jc : Int))) (rd ws (j : Int))) 1)))
            rw [sha_do.cells_set, ← hWS.out] at HO2
            have HL2 : Aside0 ((sha_do.upd ws t).length = 16) := Aside0.mk (by rw [hWS.out, List.length_set]; exact HL.out)
            have HB2 : Aside0 (Below w.heap.size w ((wr.drewN (1 + m)).setCell ⟨w.heap.size + 1 + 1, j, none⟩ (.int .u32 (sha_do.rot (bits .xor .u32 (bits .xor .u32 (bits .xor .u32 (rd ws (ja : Int)) (rd ws (jb : Int))) (rd ws (jc : Int))) (rd ws (j : Int))) 1)))) := Aside0.mk (below_set (pw_below_drewN HB.out _) (by show w.heap.size ≤ w.heap.size + 1 + 1; omega))
            have HH2 := Aside0.mk (blk_far (p := ⟨w.heap.size + 1 + 1, j, none⟩) (blk_drewN HH.out (1 + m)) (by show w.heap.size ≠ w.heap.size + 1 + 1; omega) (Value.int .u32 (sha_do.rot (bits .xor .u32 (bits .xor .u32 (bits .xor .u32 (rd ws (ja : Int)) (rd ws (jb : Int))) (rd ws (jc : Int))) (rd ws (j : Int))) 1)))
            have HZ3 := Aside0.mk (blk_far (p := ⟨w.heap.size + 1 + 1, j, none⟩) (blk_drewN HZ2.out (1 + m)) (by show w.heap.size + 1 ≠ w.heap.size + 1 + 1; omega) (Value.int .u32 (sha_do.rot (bits .xor .u32 (bits .xor .u32 (bits .xor .u32 (rd ws (ja : Int)) (rd ws (jb : Int))) (rd ws (jc : Int))) (rd ws (j : Int))) 1)))
            clear HB HH HZ2 HO HL hWS
            generalize (wr.drewN (1 + m)).setCell ⟨w.heap.size + 1 + 1, j, none⟩ (.int .u32 (sha_do.rot (bits .xor .u32 (bits .xor .u32 (bits .xor .u32 (rd ws (ja : Int)) (rd ws (jb : Int))) (rd ws (jc : Int))) (rd ws (j : Int))) 1)) = w1 at HB2 HH2 HZ3 HO2 ⊢
            generalize hu : sha_do.upd ws t = ws1 at HO2 HL2
            have HU := Aside0.mk hu
            clear hu eja ejb ejc ja0 ja1 jb0 jb1 jc0 jc1 wa wb wc hja hjb hjc h16 h16z
            have cj := (blk_cell HO2.out j).trans (sha_do.cell_at _ HL2.out j (by omega))
            have cq := tabQ_ (tab_bel HT.out HB2.out) (q : Int) q0 q1
            rw [Int.toNat_natCast] at cq
            go_wp2
            go_quiet (first | (go_at_call 104; exact Calls.quiet_of (sha_do.rot_call _ 5 (Or.inr (Or.inl rfl)) _)) | (go_at_call 105; exact Calls.quiet_of (sha_do.mix_call _ _ _ _ _)))
            clear cj cq
            go_wp2_with (go_at_call 104; refine (sha_do.rot_call _ 30 (Or.inr (Or.inr rfl)) _).mono ?_; rintro e' w2' ⟨rfl, m2, rfl⟩)
            have HS2 : Aside0 (sha_do.go ws0 h0 h1 h2 h3 h4 (t + 1) = ⟨ws1, (sha_do.rot a 5 + sha_do.mixf (q : Int) b c d + e + rd quRow (q : Int) + rd ws1 (j : Int)) % 4294967296, a, sha_do.rot b 30, c, d⟩) := Aside0.mk (by rw [HS.out, sha_do.step]; show sha_do.St.mk (sha_do.upd ws t) (sha_do.nxt (sha_do.upd ws t) t a b c d e) a (sha_do.rot b 30) c d = _; rw [HU.out, sha_do.nxt, hq20, hj])
            clear HS HU
            go_roundg (80 - (t + 1))
            case measure => omega
            case rel =>
              refine ⟨t + 1, by omega, by go_num, Nat.le_refl _, by rw [HS2.out], by rw [HS2.out], by rw [HS2.out], by rw [HS2.out], by rw [HS2.out], Aside0.mk (pw_below_drewN HB2.out _), HH2, HZ3, by rw [HS2.out]; exact HO2⟩
          · have h16z : ¬ (16 : Int) ≤ (t : Int) := by omega
            have HU : Aside0 (sha_do.upd ws t = ws) := Aside0.mk (by unfold sha_do.upd; rw [if_neg h16])
            have HO2 := HO
            have HL2 := HL
            have HB2 := HB
            have HH2 := HH
            have HZ3 := HZ2
            clear HO HL HB HH HZ2
            have cj := (blk_cell HO2.out j).trans (sha_do.cell_at _ HL2.out j (by omega))
            have cq := tabQ_ (tab_bel HT.out HB2.out) (q : Int) q0 q1
            rw [Int.toNat_natCast] at cq
            go_wp2
            go_quiet (first | (go_at_call 104; exact Calls.quiet_of (sha_do.rot_call _ 5 (Or.inr (Or.inl rfl)) _)) | (go_at_call 105; exact Calls.quiet_of (sha_do.mix_call _ _ _ _ _)))
            clear cj cq
            go_wp2_with (go_at_call 104; refine (sha_do.rot_call _ 30 (Or.inr (Or.inr rfl)) _).mono ?_; rintro e' w2' ⟨rfl, m2, rfl⟩)
            have HS2 : Aside0 (sha_do.go ws0 h0 h1 h2 h3 h4 (t + 1) = ⟨ws, (sha_do.rot a 5 + sha_do.mixf (q : Int) b c d + e + rd quRow (q : Int) + rd ws (j : Int)) % 4294967296, a, sha_do.rot b 30, c, d⟩) := Aside0.mk (by rw [HS.out, sha_do.step]; show sha_do.St.mk (sha_do.upd ws t) (sha_do.nxt (sha_do.upd ws t) t a b c d e) a (sha_do.rot b 30) c d = _; rw [HU.out, sha_do.nxt, hq20, hj])
            clear HS HU
            go_roundg (80 - (t + 1))
            case measure => omega
            case rel =>
              refine ⟨t + 1, by omega, by go_num, Nat.le_refl _, by rw [HS2.out], by rw [HS2.out], by rw [HS2.out], by rw [HS2.out], by rw [HS2.out], Aside0.mk (pw_below_drewN HB2.out _), HH2, HZ3, by rw [HS2.out]; exact HO2⟩
        · obtain rfl : t = p := by have := HP.out; omega
          have htz : ¬ (t : Int) < 80 := by omega
          clear HP
          generalize hgo : sha_do.go ws0 h0 h1 h2 h3 h4 t = s at HO
          have HGO := Aside0.mk hgo
          clear hgo
          obtain ⟨ws, a, b, c, d, e⟩ := s
          (try rw [HGO.out])
          have b0 := (blk_cell HH.out 0).trans (rfl : _ = some (Value.int .u32 h0))
          have b1 := (blk_cell HH.out 1).trans (rfl : _ = some (Value.int .u32 h1))
          have b2 := (blk_cell HH.out 2).trans (rfl : _ = some (Value.int .u32 h2))
          have b3 := (blk_cell HH.out 3).trans (rfl : _ = some (Value.int .u32 h3))
          have b4 := (blk_cell HH.out 4).trans (rfl : _ = some (Value.int .u32 h4))
          go_wp2_with ((with_reducible refine gate_store (t := 145) (p := 4) rfl ?_); refine wstore_event (t := 145) (p := 4) (v := ?vo) (cs := #[.int .u32 (IntKind.u32.wrap (h0 + a)), .int .u32 (IntKind.u32.wrap (h1 + b)), .int .u32 (IntKind.u32.wrap (h2 + c)), .int .u32 (IntKind.u32.wrap (h3 + d)), .int .u32 (IntKind.u32.wrap (h4 + e))]) ?hg ?ho ?hn ?hx ?hy HZ2.out (by kernel_rfl) (by have := HZ1.out; simpa using this) (by rfl) ?_; (case ho => rfl); (case hg => rfl); (case hn => rfl); (case hx => first | rfl | (go_simp; done) | (go_simp; rfl)); (case hy => first | rfl | (go_simp; done) | (go_simp; rfl)); intro w2 hbox hgr; have BX := Aside0.mk hbox; have GR := Aside0.mk hgr; clear hbox hgr)
          refine bodyPost_ret (results_cell_row rfl _ _ (w.heap.size + 1) 145 #[.int .u32 (IntKind.u32.wrap (h0 + a)), .int .u32 (IntKind.u32.wrap (h1 + b)), .int .u32 (IntKind.u32.wrap (h2 + c)), .int .u32 (IntKind.u32.wrap (h3 + d)), .int .u32 (IntKind.u32.wrap (h4 + e))] (0, 0) _ rfl BX.out Tryd.underlying145 rfl (by kernel_rfl)) rfl ?_
          exact ⟨by rw [HWS.out, HGO.out], pw_below_grown HB.out _ (below_size HB.out) GR.out (fun k_ e_ => by injection e_ with e_; omega)⟩

/-! ### sha_Sum: function 44 -/
def sha_Sum.q64 : Nat := 64
def sha_Sum.p80 : Nat := 80
/-- Five words. -/
structure sha_Sum.H5 where mk :: (a b c d e : Int)
def sha_Sum.next (x : sha_Sum.H5) (l : List Int) : sha_Sum.H5 := ⟨IntKind.u32.wrap (x.a + (sha_do.go (sha_do.load l sha_Sum.q64) x.a x.b x.c x.d x.e sha_Sum.p80).a), IntKind.u32.wrap (x.b + (sha_do.go (sha_do.load l sha_Sum.q64) x.a x.b x.c x.d x.e sha_Sum.p80).b), IntKind.u32.wrap (x.c + (sha_do.go (sha_do.load l sha_Sum.q64) x.a x.b x.c x.d x.e sha_Sum.p80).c), IntKind.u32.wrap (x.d + (sha_do.go (sha_do.load l sha_Sum.q64) x.a x.b x.c x.d x.e sha_Sum.p80).d), IntKind.u32.wrap (x.e + (sha_do.go (sha_do.load l sha_Sum.q64) x.a x.b x.c x.d x.e sha_Sum.p80).e)⟩
/-- The words behind the first i blocks. -/
def sha_Sum.words (l : List Int) : Nat → sha_Sum.H5
  | 0 => ⟨1732584193, 4023233417, 2562383102, 271733878, 3285377520⟩
  | i + 1 => sha_Sum.next (sha_Sum.words l i) (l.drop (64 * i))
def sha_Sum.at_ (x : sha_Sum.H5) (k : Nat) : Int := rd [x.a, x.b, x.c, x.d, x.e] (k : Int)
/-- The bytes of the first k words, and zeros. -/
def sha_Sum.outL (x : sha_Sum.H5) : Nat → List Int
  | 0 => List.replicate 20 0
  | k + 1 => ((((sha_Sum.outL x k).set (4 * k) (sha_Sum.at_ x k / 16777216 % 256)).set (4 * k + 1) (sha_Sum.at_ x k / 65536 % 256)).set (4 * k + 2) (sha_Sum.at_ x k / 256 % 256)).set (4 * k + 3) (sha_Sum.at_ x k % 256)
theorem sha_Sum.outL_len (x : sha_Sum.H5) (k : Nat) : (sha_Sum.outL x k).length = 20 := by
  induction k with
  | zero => rfl
  | succ k ih => simp only [sha_Sum.outL, List.length_set, ih]
def sha_Sum.cs5 (x : sha_Sum.H5) : Array Value := #[.int .u32 x.a, .int .u32 x.b, .int .u32 x.c, .int .u32 x.d, .int .u32 x.e]
theorem sha_Sum.index_ (x : sha_Sum.H5) (k : Nat) (hk : k < 5) (W : World) : (Instr.index 145 (.agg (sha_Sum.cs5 x)) (.int .i64 k)).run Tryd.prog W = .ok (.int .u32 (sha_Sum.at_ x k)) W := by
  have hi : (Tryd.prog.info? 34).map (·.size) = some 1 := by kernel_rfl
  obtain ⟨i0, hi0, hs0⟩ := Option.map_eq_some_iff.mp hi
  match k, hk with
  | 0, _ => simp [Instr.index, run_underlying Tryd.underlying145, asIntOf, go_sem, sizeOf, typeInfo, hi0, hs0, part, sha_Sum.cs5, sha_Sum.at_, rd]
  | 1, _ => simp [Instr.index, run_underlying Tryd.underlying145, asIntOf, go_sem, sizeOf, typeInfo, hi0, hs0, part, sha_Sum.cs5, sha_Sum.at_, rd]
  | 2, _ => simp [Instr.index, run_underlying Tryd.underlying145, asIntOf, go_sem, sizeOf, typeInfo, hi0, hs0, part, sha_Sum.cs5, sha_Sum.at_, rd]
  | 3, _ => simp [Instr.index, run_underlying Tryd.underlying145, asIntOf, go_sem, sizeOf, typeInfo, hi0, hs0, part, sha_Sum.cs5, sha_Sum.at_, rd]
  | 4, _ => simp [Instr.index, run_underlying Tryd.underlying145, asIntOf, go_sem, sizeOf, typeInfo, hi0, hs0, part, sha_Sum.cs5, sha_Sum.at_, rd]
theorem sha_Sum.do_ (x : sha_Sum.H5) (A0 : Option Addr) (c0 : Nat) (l : List Int) (w : World) (hT : Tab_ w) (hr0 : Kd.C (Kd.int .u8) w A0 l.length l) (hc0 : l.length ≤ c0) (h64 : 64 ≤ l.length) :
    Calls Tryd.prog 83 #[.agg (sha_Sum.cs5 x), .slice A0 l.length c0] w fun e w' => e = .returned (.agg (sha_Sum.cs5 (sha_Sum.next x l))) ∧ Below w.heap.size w w' :=
  sha_do.run x.a x.b x.c x.d x.e A0 c0 l w hT hr0 hc0 h64 sha_Sum.q64 sha_Sum.p80 rfl rfl
theorem sha_Sum.cellO (ws : List Int) (h : ws.length = 20) (k : Nat) (hk : k < 20) : (ws.map (fun x => Value.int .u8 x)).toArray[k]? = some (.int .u8 (rd ws (k : Int))) := by
  have := arr_sel_ .u8 ws h (i := (k : Int)) (by omega) (by omega)
  rwa [Int.toNat_natCast] at this
theorem sha_Sum.cellsO_set (ws : List Int) (k : Nat) (v : Int) : ((ws.map (fun x => Value.int .u8 x)).toArray.setIfInBounds k (.int .u8 v)) = ((ws.set k v).map (fun x => Value.int .u8 x)).toArray := by
  simp
theorem sha_Sum.blk1 (w : World) (a b : Obj) : ((w.alloc a).alloc b).heap[w.heap.size + 1]? = some b := by
  have h : (w.alloc a).heap.size = w.heap.size + 1 := by simp
  rw [← h]
  exact blk_new _ _
/-- The digest's twenty bytes. -/
def sha_Sum.dig (l : List Int) : Option (List Int) :=
  if l.length ≤ 20000 then (sha_pad.f 100 (l.length : Int)).bind fun p => if (l ++ p).length % 64 = 0 ∧ (l ++ p).length < 1000000 then some (sha_Sum.outL (sha_Sum.words (l ++ p) ((l ++ p).length / 64)) 5) else none else none
theorem sha_Sum.dig_len (l d : List Int) (h : sha_Sum.dig l = some d) : d.length = 20 := by
  unfold sha_Sum.dig at h
  split at h
  · obtain ⟨p, _, h⟩ := Option.bind_eq_some_iff.mp h
    split at h
    · obtain rfl := Option.some.inj h
      exact sha_Sum.outL_len _ _
    · exact absurd h (by simp)
  · exact absurd h (by simp)
def sha_Sum.f (l0 : List Int) : Option (Int × Int × Int × Int × Int × Int × Int × Int × Int × Int × Int × Int × Int × Int × Int × Int × Int × Int × Int × Int × Int) := (sha_Sum.dig l0).bind fun d => some (rd d 0, rd d 1, rd d 2, rd d 3, rd d 4, rd d 5, rd d 6, rd d 7, rd d 8, rd d 9, rd d 10, rd d 11, rd d 12, rd d 13, rd d 14, rd d 15, rd d 16, rd d 17, rd d 18, rd d 19, 0)
theorem sha_Sum.agg20 (d : List Int) (h : d.length = 20) : (d.map (fun x => Value.int .u8 x)).toArray = #[.int .u8 (rd d 0), .int .u8 (rd d 1), .int .u8 (rd d 2), .int .u8 (rd d 3), .int .u8 (rd d 4), .int .u8 (rd d 5), .int .u8 (rd d 6), .int .u8 (rd d 7), .int .u8 (rd d 8), .int .u8 (rd d 9), .int .u8 (rd d 10), .int .u8 (rd d 11), .int .u8 (rd d 12), .int .u8 (rd d 13), .int .u8 (rd d 14), .int .u8 (rd d 15), .int .u8 (rd d 16), .int .u8 (rd d 17), .int .u8 (rd d 18), .int .u8 (rd d 19)] := by
  refine congrArg List.toArray (List.ext_getElem (by simp [h]) (fun i h1 h2 => ?_))
  rw [List.getElem_map]
  have hi : i < d.length := by simpa using h1
  have e : d[i] = rd d (i : Int) := by
    unfold rd
    rw [Int.toNat_natCast, List.getD_eq_getElem?_getD, List.getElem?_eq_getElem hi]
    rfl
  rw [e]
  have hi2 : i < 20 := by omega
  have key : ∀ j : Fin 20, Value.int .u8 (rd d (j.val : Int)) = [Value.int .u8 (rd d 0), Value.int .u8 (rd d 1), Value.int .u8 (rd d 2), Value.int .u8 (rd d 3), Value.int .u8 (rd d 4), Value.int .u8 (rd d 5), Value.int .u8 (rd d 6), Value.int .u8 (rd d 7), Value.int .u8 (rd d 8), Value.int .u8 (rd d 9), Value.int .u8 (rd d 10), Value.int .u8 (rd d 11), Value.int .u8 (rd d 12), Value.int .u8 (rd d 13), Value.int .u8 (rd d 14), Value.int .u8 (rd d 15), Value.int .u8 (rd d 16), Value.int .u8 (rd d 17), Value.int .u8 (rd d 18), Value.int .u8 (rd d 19)][j.val] := fun j => by
    match j with
    | 0 => rfl
    | 1 => rfl
    | 2 => rfl
    | 3 => rfl
    | 4 => rfl
    | 5 => rfl
    | 6 => rfl
    | 7 => rfl
    | 8 => rfl
    | 9 => rfl
    | 10 => rfl
    | 11 => rfl
    | 12 => rfl
    | 13 => rfl
    | 14 => rfl
    | 15 => rfl
    | 16 => rfl
    | 17 => rfl
    | 18 => rfl
    | 19 => rfl
    | ⟨n + 20, hn⟩ => exact absurd hn (by omega)
  exact key ⟨i, hi2⟩
set_option maxHeartbeats 8000000 in
set_option maxRecDepth 100000 in
theorem sha_Sum.run (A0 : Option Addr) (c0 : Nat) (l p : List Int) (w : World) (hT : Tab_ w) (hr0 : Kd.C (Kd.int .u8) w A0 l.length l) (hc0 : l.length ≤ c0) (hl : l.length ≤ 20000) (hp : sha_pad.f 100 (l.length : Int) = some p) (hm : (l ++ p).length % 64 = 0) (hs : (l ++ p).length < 1000000) :
    Calls Tryd.prog 44 #[.slice A0 l.length c0] w fun e w' => e = .returned (.tuple #[.agg ((sha_Sum.outL (sha_Sum.words (l ++ p) ((l ++ p).length / 64)) 5).map (fun x => Value.int .u8 x)).toArray, .int .i64 0]) ∧ Below w.heap.size w w' := by
  have HT := Aside0.mk hT
  have HR := Aside0.mk hr0
  have HC0 := Aside0.mk hc0
  have HP := Aside0.mk hp
  have HM := Aside0.mk hm
  have HS := Aside0.mk hs
  have hlz : ¬ (20000 : Int) < (l.length : Int) := by omega
  have HL := Aside0.mk hl
  have HB := Aside0.mk (Below.refl w.heap.size w)
  clear hT hr0 hc0 hp hm hs hl
  generalize hall : l ++ p = all at HM HS
  have HF : Aside0 (slices_Concat_byte_byte.f [l, p] = some all) := Aside0.mk (by
    have e : ([l, p] : List (List Int)).flatten = all := by rw [← hall]; simp
    unfold slices_Concat_byte_byte.f
    rw [e, if_pos ⟨HS.out, by simp⟩])
  have HALL := Aside0.mk hall
  clear hall
  go_enter Tryd.func44, Tryd.ntmps44
  go_wp2_with (first | ((with_reducible refine gate_store (t := 145) (p := 4) rfl ?_); refine wstore_event (t := 145) (p := 4) (v := ?vo) (cs := sha_Sum.cs5 (sha_Sum.words all 0)) ?hg ?ho ?hn ?hx ?hy (sha_Sum.blk1 w _ _) (by kernel_rfl) (by rfl) (by rfl) ?_; (case ho => rfl); (case hg => rfl); (case hn => rfl); (case hx => first | rfl | (go_simp; done) | (go_simp; rfl)); (case hy => first | rfl | (go_simp; done) | (go_simp; rfl)); intro w1 hbox hgr; have BK1 := Aside0.mk hbox; have BZ := Aside0.mk (blk_grown (blk_alloc (blk_new w _) _) hgr (by intro e_; injection e_ with e_; omega)); have HB1 := Aside0.mk (pw_below_grown (below_alloc (below_alloc HB.out _) _) _ (below_size (below_alloc (below_alloc HB.out _) _)) hgr (fun k_ e_ => by injection e_ with e_; omega)); clear hbox hgr HB) | (go_at_call 82; refine (sha_pad.calls 100 _ _ _ HP.out).mono ?_; rintro e w2 ⟨v2, rfl, ho, hb⟩; have BK2 := Aside0.mk (blk_below BK1.out hb); have BZ2 := Aside0.mk (blk_below BZ.out hb); have HB2 := Aside0.mk (below_step HB1.out hb); have HO2 := Aside0.mk ho; have HR2 := Aside0.mk (Kd.C_below HR.out HB2.out); clear ho hb BK1 BZ HB1; obtain ⟨Ap, cp, ep⟩ := Kd.R_slice HO2.out; subst ep) | ((with_reducible refine gate_dst (N := 17) rfl ?_); refine Kd.N_lit (Kd.slice 5 (Kd.int .u8)) _ 22 ?hg (N' := 17) ?hd (xs := [l, p]) (inner := [.slice A0 l.length c0, .slice Ap p.length cp]) (ok := fun _ => True) (okp := fun _ => True) ?hr ?hp (fun _ hk => hk) trivial (Below.refl _ _) (Nat.le_refl _) (by simp) ?_; (case hd => rfl); (case hg => rfl); (case hr => first | (go_simp; done) | (go_simp; rfl)); (case hp => exact Reps.one (Kd.FK_slice_mk HC0.out (Kd.F_mono (Kd.C_F (Kd.heap_int _) HR2.out) (fun _ _ => trivial))) (Reps.one (Kd.FK_slice_mk (Kd.R_reads' HO2.out).2.1 (Kd.F_mono (Kd.R_F HO2.out) (fun _ _ => trivial))) (Reps.none _ _))); intro v3 w3 hn3 hb hg_ hnew_; have BK3 := Aside0.mk (blk_below BK2.out hb); have BZ3 := Aside0.mk (blk_below BZ2.out hb); have HB3 := Aside0.mk (below_step HB2.out hb); have HN3 := Aside0.mk hn3; clear hn3 hb hg_ hnew_ BK2 BZ2 HB2; obtain ⟨An, cn, en⟩ := Kd.N_slice HN3.out; subst en) | (go_at_call 81; refine (slices_Concat_byte_byte.calls _ _ [l, p] all _ (Kd.N_reads' HN3.out).2.2 (Kd.N_reads' HN3.out).2.1 HF.out).mono ?_; rintro e w4 ⟨v4, rfl, ho, hb⟩; have BK4 := Aside0.mk (blk_below BK3.out hb); have BZ4 := Aside0.mk (blk_below BZ3.out hb); have HB4 := Aside0.mk (below_step HB3.out hb); have HO4 := Aside0.mk ho; have HG4 := Aside0.mk (blk_lt BK3.out); clear ho hb BK3 BZ3 HB3 HN3))
  have HFAR : Aside0 (∀ ad c n, v4 = .slice (some ad) n c → 0 < all.length → ad.block ≠ w.heap.size + 1) := Aside0.mk (by
    intro ad c n e h0 hb
    obtain ⟨g, cap, e2, hg, _⟩ := Kd.R_form HO4.out h0
    rw [e] at e2
    injection e2 with e3 _ _
    injection e3 with e3
    subst e3
    have := HG4.out
    change g = w.heap.size + 1 at hb
    omega)
  obtain ⟨Aa, ca, ea, hla, hCa⟩ := Kd.R_reads HO4.out
  subst ea
  have HC4 := Aside0.mk hCa
  have HLA := Aside0.mk hla
  clear hCa hla HO4 HG4 HO2 HR2 HF HP
  obtain ⟨Nb, hNb⟩ : ∃ Nb : Nat, all.length = 64 * Nb := ⟨all.length / 64, by have := HM.out; omega⟩
  have HNB := Aside0.mk hNb
  clear hNb
  obtain ⟨i0, hi0, _, hsz0, _⟩ := info_parts info5
  have hcutF := fun (A : Option Addr) (n c : Nat) (h : 64 ≤ n) => cut_from (P := Tryd.prog) 22 5 .i64 Tryd.underlying22 hi0 1 hsz0 A n c 64 (by decide) (by omega)
  have HCUT := Aside0.mk hcutF
  clear hcutF hi0 hsz0
  go_loopg [5] Nb (fun kx s5 wr => ∃ (i : Nat) (A : Option Addr) (c : Nat), i ≤ Nb ∧ Nb - i ≤ kx ∧ s5 = .slice A (all.drop (64 * i)).length c ∧ Aside0 ((all.drop (64 * i)).length ≤ c) ∧ Aside0 (Kd.C (Kd.int .u8) wr A (all.drop (64 * i)).length (all.drop (64 * i))) ∧ Aside0 (∀ ad, A = some ad → 0 < all.length → ad.block ≠ w.heap.size + 1) ∧ Aside0 (wr.heap[w.heap.size + 1]? = some (.cells (sha_Sum.cs5 (sha_Sum.words all i)) 145 (0, 0))) ∧ Aside0 (wr.heap[w.heap.size]? = some (.cells #[.int .u8 0, .int .u8 0, .int .u8 0, .int .u8 0, .int .u8 0, .int .u8 0, .int .u8 0, .int .u8 0, .int .u8 0, .int .u8 0, .int .u8 0, .int .u8 0, .int .u8 0, .int .u8 0, .int .u8 0, .int .u8 0, .int .u8 0, .int .u8 0, .int .u8 0, .int .u8 0] 103 (0, 0))) ∧ Aside0 (Below w.heap.size w wr))
  case atStart => exact ⟨0, Aa, ca, Nat.zero_le _, by omega, rfl, HLA, HC4, Aside0.mk (fun ad e h0 => HFAR.out ad ca _ (by rw [e]) h0), BK4, BZ4, HB4⟩
  case round =>
    clear HC4 HLA HFAR BK4 BZ4 HB4
    obtain ⟨i, A, c, hi, hg, rfl, HLc, HC, HFR, BK, BZ, HB⟩ := hrel
    by_cases hlt : i < Nb
    · have hlen : (all.drop (64 * i)).length = all.length - 64 * i := List.length_drop
      have h64 : 64 ≤ (all.drop (64 * i)).length := by have := HNB.out; omega
      have hpos : (0 : Int) < ((all.drop (64 * i)).length : Int) := by omega
      obtain ⟨A2, hA2⟩ : ∃ A2 : Option Addr, A2 = (if c = 64 then A else A.map (·.add (64 * 1))) := ⟨_, rfl⟩
      have hcut : ∀ W : World, (Instr.slice 22 (.slice A (all.drop (64 * i)).length c) (some (.int .i64 64)) none none).run Tryd.prog W = .ok (.slice A2 ((all.drop (64 * i)).length - 64) (c - 64)) W := by
        intro W
        rw [hA2]
        exact HCUT.out A (all.drop (64 * i)).length c h64 W
      have HD := Aside0.mk (Kd.C_drop HC.out h64 HLc.out)
      have HFR2 : Aside0 (∀ ad, A2 = some ad → 0 < all.length → ad.block ≠ w.heap.size + 1) := Aside0.mk (by
        intro ad e h0
        rw [hA2] at e
        by_cases hc : c = 64
        · rw [if_pos hc] at e; exact HFR.out ad e h0
        · rw [if_neg hc] at e
          obtain ⟨ad0, e0, e1⟩ := Option.map_eq_some_iff.mp e
          rw [← e1, add_block]
          exact HFR.out ad0 e0 h0)
      have hD2 : Kd.C (Kd.int .u8) wr A2 ((all.drop (64 * i)).drop 64).length ((all.drop (64 * i)).drop 64) := by rw [hA2]; exact HD.out
      clear HD
      have HD := Aside0.mk hD2
      have HPOS : Aside0 (0 < all.length) := Aside0.mk (by have := HNB.out; omega)
      clear hD2 hA2
      have HW : Aside0 (sha_Sum.words all (i + 1) = sha_Sum.next (sha_Sum.words all i) (all.drop (64 * i))) := Aside0.mk rfl
      have HDR : Aside0 ((all.drop (64 * i)).drop 64 = all.drop (64 * (i + 1))) := Aside0.mk (by rw [List.drop_drop]; congr 1)
      have HLC2 : Aside0 (((all.drop (64 * i)).drop 64).length ≤ c - 64) := Aside0.mk (by rw [List.length_drop]; have := HLc.out; omega)
      have HCALL := Aside0.mk (fun (W : World) (b : Below w.heap.size w W) (h : Kd.C (Kd.int .u8) W A (all.drop (64 * i)).length (all.drop (64 * i))) => sha_Sum.do_ (sha_Sum.words all i) A c (all.drop (64 * i)) W (tab_bel HT.out b) h HLc.out h64)
      clear h64 hlen HFR HLc
      generalize hrest : all.drop (64 * i) = rest at *
      generalize hx0 : sha_Sum.words all i = x at *
      clear hrest hx0
      go_wp2_with (first | (refine wpList_load_row rfl 145 (.tmp 4) rfl (w.heap.size + 1) rfl 145 _ (0, 0) _ BK.out Tryd.underlying145 rfl (by kernel_rfl) ?_) | (go_at_call 83; refine (HCALL.out _ HB.out HC.out).mono ?_; rintro e w2 ⟨rfl, hb⟩; have BK2 := Aside0.mk (blk_below BK.out hb); have BZ2 := Aside0.mk (blk_below BZ.out hb); have HB2 := Aside0.mk (below_step HB.out hb); have HD2 := Aside0.mk (Kd.C_below HD.out hb); clear hb BK BZ HB HC HD HCALL) | ((with_reducible refine gate_store (t := 145) (p := 4) rfl ?_); refine wstore_event (t := 145) (p := 4) (v := ?vo2) (cs := sha_Sum.cs5 (sha_Sum.next x rest)) ?hg ?ho ?hn ?hx ?hy BK2.out (by kernel_rfl) (by rfl) (by rfl) ?_; (case ho => rfl); (case hg => rfl); (case hn => rfl); (case hx => first | rfl | (go_simp; done) | (go_simp; rfl)); (case hy => first | rfl | (go_simp; done) | (go_simp; rfl)); intro w3 hbox hgr; have BK3 := Aside0.mk hbox; have BZ3 := Aside0.mk (blk_grown BZ2.out hgr (by intro e_; injection e_ with e_; omega)); have HB3 := Aside0.mk (pw_below_grown HB2.out _ (below_size HB2.out) hgr (fun k_ e_ => by injection e_ with e_; omega)); have HD3 := Aside0.mk (Kd.C_keep (0 : Int) HD2.out ⟨hgr.size, fun k_ h1_ h2_ _ => hgr.block k_ h1_ (fun e_ => by injection e_ with e_; exact h2_ e_)⟩ (fun ad e _ => HFR2.out ad e HPOS.out)); clear hbox hgr BK2 BZ2 HB2 HD2))
      go_roundg (Nb - (i + 1))
      case measure => omega
      case rel => exact ⟨i + 1, A2, c - 64, by omega, Nat.le_refl _, by rw [← HDR.out, List.length_drop], by rw [← HDR.out]; exact HLC2, by rw [← HDR.out]; exact HD3, HFR2, by rw [HW.out]; exact BK3, BZ3, HB3⟩
    · obtain rfl : i = Nb := by omega
      have hlen : (all.drop (64 * i)).length = 0 := by rw [List.length_drop]; have := HNB.out; omega
      rw [hlen]
      have HN2 : Aside0 (all.length / 64 = i) := Aside0.mk (by have := HNB.out; omega)
      clear hlen HC HLc HFR HCUT
      generalize hx0 : sha_Sum.words all i = x at BK
      have HX0 := Aside0.mk hx0
      clear hx0
      go_wp2_with (refine wpList_load_row rfl 145 (.tmp 4) rfl (w.heap.size + 1) rfl 145 _ (0, 0) _ BK.out Tryd.underlying145 rfl (by kernel_rfl) ?_)
      go_loopg [6, 7, 28] 5 (fun kx s6 s7 s28 w5 => ∃ k : Nat, k ≤ 5 ∧ s28 = .int .i64 k ∧ 5 - k ≤ kx ∧ Aside0 (Below w.heap.size w w5) ∧ Aside0 (w5.heap[w.heap.size]? = some (.cells ((sha_Sum.outL x k).map (fun x => Value.int .u8 x)).toArray 103 (0, 0))))
      case atStart => exact ⟨0, by omega, rfl, by omega, HB, BZ⟩
      case round =>
        clear HB BZ BK
        obtain ⟨k, hk, rfl, hg2, HB, BO⟩ := hrel
        by_cases hlt2 : k < 5
        · have hkz : (k : Int) < 5 := by omega
          have hk0 : (0 : Int) ≤ (k : Int) := by omega
          have hix := sha_Sum.index_ x k hlt2
          have hL := sha_Sum.outL_len x k
          have hfz := fun j => blk_frozen BO.out j
          have hcl := fun j h => (blk_cell BO.out j).trans (sha_Sum.cellO _ hL j h)
          have c0 := hcl (4 * k) (by omega)
          have c1 := hcl (4 * k + 1) (by omega)
          have c2 := hcl (4 * k + 2) (by omega)
          have c3 := hcl (4 * k + 3) (by omega)
          have f0 := hfz (4 * k)
          have f1 := hfz (4 * k + 1)
          have f2 := hfz (4 * k + 2)
          have f3 := hfz (4 * k + 3)
          clear hcl hfz hL
          have HOS : Aside0 (sha_Sum.outL x (k + 1) = ((((sha_Sum.outL x k).set (4 * k) (sha_Sum.at_ x k / 16777216 % 256)).set (4 * k + 1) (sha_Sum.at_ x k / 65536 % 256)).set (4 * k + 2) (sha_Sum.at_ x k / 256 % 256)).set (4 * k + 3) (sha_Sum.at_ x k % 256)) := Aside0.mk rfl
          generalize hos2 : sha_Sum.outL x (k + 1) = o2 at HOS
          have HOS2 := Aside0.mk hos2
          clear hos2
          generalize sha_Sum.outL x k = o1 at HOS BO c0 c1 c2 c3
          generalize sha_Sum.at_ x k = q at HOS hix
          go_wp2
          go_roundg (5 - (k + 1))
          case measure => omega
          case rel =>
            refine ⟨k + 1, by omega, by go_num, Nat.le_refl _, Aside0.mk (below_set (below_set (below_set (below_set HB.out (Nat.le_refl _)) (Nat.le_refl _)) (Nat.le_refl _)) (Nat.le_refl _)), Aside0.mk ?_⟩
            rw [HOS2.out, HOS.out]
            simp only [← sha_Sum.cellsO_set]
            exact blk_set (blk_set (blk_set (blk_set BO.out _ _) _ _) _ _) _ _
        · obtain rfl : k = 5 := by omega
          have hkz : ¬ ((5 : Nat) : Int) < 5 := by omega
          clear hlt2 hk
          have HL20 := Aside0.mk (sha_Sum.outL_len x 5)
          generalize hoo : sha_Sum.outL x 5 = o at BO HL20
          have HOO := Aside0.mk hoo
          clear hoo
          have hsz : (o.map (fun x => Value.int .u8 x)).toArray.size = 20 := by simp [HL20.out]
          have HI : Aside0 ((Tryd.prog.info? 103).map (·.size) = some (o.map (fun x => Value.int .u8 x)).toArray.size) := Aside0.mk (by rw [hsz]; kernel_rfl)
          have H1 : Aside0 ((o.map (fun x => Value.int .u8 x)).toArray.toList.all (·.oneCell') = true) := Aside0.mk (by simp [Value.oneCell'])
          clear hsz
          go_wp2_with (first | (refine wpList_load_row rfl 103 (.tmp 2) rfl w.heap.size rfl 103 _ (0, 0) _ BO.out Tryd.underlying103 rfl HI.out ?_) | ((with_reducible refine gate_store (t := 103) (p := 2) rfl ?_); refine wstore_event (t := 103) (p := 2) (v := ?vo3) (cs := (o.map (fun x => Value.int .u8 x)).toArray) ?hg ?ho ?hn ?hx ?hy BO.out HI.out rfl H1.out ?_; (case ho => rfl); (case hg => rfl); (case hn => rfl); (case hx => first | rfl | (go_simp; done) | (go_simp; rfl)); (case hy => first | rfl | (go_simp; done) | (go_simp; rfl)); intro w6 hbox hgr; have BX := Aside0.mk hbox; have GR := Aside0.mk hgr; clear hbox hgr))
          refine bodyPost_ret (results_ct rfl _ _ w.heap.size 103 (o.map (fun x => Value.int .u8 x)).toArray (0, 0) _ rfl BX.out Tryd.underlying103 rfl HI.out) rfl ?_
          exact ⟨by (try rw [HALL.out]); rw [HN2.out, HX0.out, HOO.out]; rfl, pw_below_grown HB.out _ (below_size HB.out) GR.out (fun k_ e_ => by injection e_ with e_; omega)⟩
theorem sha_Sum.calls (A0 : Option Addr) (c0 : Nat) (l0 : List Int) (r1 r2 r3 r4 r5 r6 r7 r8 r9 r10 r11 r12 r13 r14 r15 r16 r17 r18 r19 r20 r21 : Int) (w : World) (hr0 : Kd.C (Kd.int .u8) w A0 l0.length l0) (hc0 : l0.length ≤ c0) (hT : Tab_ w) (h : sha_Sum.f l0 = some (r1, r2, r3, r4, r5, r6, r7, r8, r9, r10, r11, r12, r13, r14, r15, r16, r17, r18, r19, r20, r21)) :
    Calls Tryd.prog 44 #[.slice A0 l0.length c0] w fun e w' => e = .returned (.tuple #[.agg #[.int .u8 r1, .int .u8 r2, .int .u8 r3, .int .u8 r4, .int .u8 r5, .int .u8 r6, .int .u8 r7, .int .u8 r8, .int .u8 r9, .int .u8 r10, .int .u8 r11, .int .u8 r12, .int .u8 r13, .int .u8 r14, .int .u8 r15, .int .u8 r16, .int .u8 r17, .int .u8 r18, .int .u8 r19, .int .u8 r20], .int .i64 r21]) ∧ Below w.heap.size w w' := by
  unfold sha_Sum.f at h
  obtain ⟨d, hd, h⟩ := Option.bind_eq_some_iff.mp h
  have hl := sha_Sum.dig_len l0 d hd
  simp only [Option.some.injEq, Prod.mk.injEq] at h
  obtain ⟨rfl, rfl, rfl, rfl, rfl, rfl, rfl, rfl, rfl, rfl, rfl, rfl, rfl, rfl, rfl, rfl, rfl, rfl, rfl, rfl, rfl⟩ := h
  rw [← sha_Sum.agg20 d hl]
  unfold sha_Sum.dig at hd
  split at hd
  · rename_i h1
    obtain ⟨p, hp, hd⟩ := Option.bind_eq_some_iff.mp hd
    split at hd
    · rename_i h2
      obtain rfl := Option.some.inj hd
      exact sha_Sum.run A0 c0 l0 p w hT hr0 hc0 h1 hp h2.1 h2.2
    · exact absurd hd (by simp)
  · exact absurd hd (by simp)

/-! ### hashes_Of: function 45 -/
def hashes_Of.f (k : Nat) (a0 : Int) (l1 : List Int) : Option (Int × Int) := (hashes_Start.f a0).bind fun bt257 => (if bt257.2 = 0 then (if (l1.length : Int) > 20000 then (some (0, 4)) else ((hashes_steps.f k bt257.1 l1).bind fun t259 => (some (t259, 0)))) else (some (0, bt257.2)))
theorem hashes_Of.mono : ∀ a0 a1 k, LeO (hashes_Of.f k a0 a1) (hashes_Of.f (k + 1) a0 a1) := by
 intro a0 a1 k
 unfold hashes_Of.f
 repeat' first
   | (with_reducible exact hashes_steps.mono _ _ _)
   | (with_reducible exact LeO.refl _)
   | (with_reducible exact LeO.none _)
   | (with_reducible refine LeO.ite ?_ ?_)
   | (with_reducible refine LeO.bind ?_ (fun _ => ?_))
   | exact hashes_steps.mono _ _ _
   | exact LeO.none _
   | refine LeO.ite ?_ ?_
   | refine LeO.bind ?_ (fun _ => ?_)
set_option maxHeartbeats 8000000 in
set_option maxRecDepth 100000 in
theorem hashes_Of.calls (k : Nat) (a0 : Int) (A1 : Option Addr) (c1 : Nat) (l1 : List Int) (r1 : Int) (r2 : Int) (w : World) (hr1 : Kd.C (Kd.int .u8) w A1 l1.length l1) (hc1 : l1.length ≤ c1) (h : hashes_Of.f k a0 l1 = some (r1, r2)) :
  Calls Tryd.prog 45 #[.int .i64 a0, .slice A1 l1.length c1] w fun e w' => e = .returned (.tuple #[.int .u32 r1, .int .i64 r2]) ∧ Drawn0 w w' := by
 have HR1 := Aside0.mk hr1; have HC1 := Aside0.mk hc1; clear hr1 hc1; have H : ((hashes_Start.f a0).bind fun bt257 => (if bt257.2 = 0 then (if (l1.length : Int) > 20000 then (some (0, 4)) else ((hashes_steps.f k bt257.1 l1).bind fun t259 => (some (t259, 0)))) else (some (0, bt257.2)))) = some (r1, r2) := h; clear h; replace H := Option.bind_eq_some_iff.mp H; obtain ⟨⟨t257, t258⟩, A30, H⟩ := H; replace H : (if t258 = 0 then (if (l1.length : Int) > 20000 then (some (0, 4)) else ((hashes_steps.f k t257 l1).bind fun t259 => (some (t259, 0)))) else (some (0, t258))) = some (r1, r2) := H; have A3 := Aside0.mk A30; clear A30
 by_cases c4 : t258 = 0
 ·
  rw [if_pos c4] at H; have c4b0 : (t258 == 0) = true := beq_iff_eq.mpr c4; have c4b1 : (t258 != 0) = false := bne_eq_false_iff_eq.mpr c4; clear c4
  by_cases c5 : (l1.length : Int) > 20000
  ·
   rw [if_pos c5] at H; have c5b0 : decide (20000 < (l1.length : Int)) = true := decide_eq_true c5; have c5b1 : decide (20000 < l1.length) = true := decide_eq_true (by omega); clear c5; simp only [Option.some.injEq, Prod.mk.injEq] at H; obtain ⟨rfl, rfl⟩ := H
   go_enter Tryd.func45, Tryd.ntmps45
   go_wp2_with (first | ((with_reducible refine gate_callee (f := 9) rfl ?_); refine gL_ (some 10) Tryd.func9 #[.int .i64 a0] ?_; (with_reducible refine (hashes_Start.calls a0 t257 t258 _ A3.out).mono ?_); rintro e w' ⟨rfl, ⟨nd, rfl⟩⟩; refine ⟨_, rfl, ?_⟩))
   go_ret2
   exact ⟨by first | rfl | (simp; done) | (simp [*]; done), by repeat (first | exact Drawn0.refl _ | apply Drawn0.step)⟩
  ·
   rw [if_neg c5] at H; have c5b0 : decide (20000 < (l1.length : Int)) = false := decide_eq_false c5; have c5b1 : decide (20000 < l1.length) = false := decide_eq_false (by omega); clear c5; replace H := Option.bind_eq_some_iff.mp H; obtain ⟨t259, A60, H⟩ := H; replace H : (some (t259, 0)) = some (r1, r2) := H; have A6 := Aside0.mk A60; clear A60; simp only [Option.some.injEq, Prod.mk.injEq] at H; obtain ⟨rfl, rfl⟩ := H
   go_enter Tryd.func45, Tryd.ntmps45
   go_wp2_with (first | ((with_reducible refine gate_callee (f := 9) rfl ?_); refine gL_ (some 10) Tryd.func9 #[.int .i64 a0] ?_; (with_reducible refine (hashes_Start.calls a0 t257 t258 _ A3.out).mono ?_); rintro e w' ⟨rfl, ⟨nd, rfl⟩⟩; refine ⟨_, rfl, ?_⟩) | ((with_reducible refine gate_callee (f := 33) rfl ?_); refine gL_ (some 21) Tryd.func33 #[.int .u32 t257, .slice A1 l1.length c1] ?_; (with_reducible refine (hashes_steps.calls k t257 _ _ l1 t259 _ ?side1 ?side2 A6.out).mono ?_); (case side1 => repeat (first | exact HR1.out | (with_reducible refine Kd.C_alloc ?_ _) | (with_reducible refine Kd.C_drewN ?_ _) | (with_reducible refine Kd.C_drew ?_))); (case side2 => exact HC1.out); rintro e w' ⟨rfl, ⟨nd, rfl⟩⟩; refine ⟨_, rfl, ?_⟩))
   go_ret2
   exact ⟨by first | rfl | (simp; done) | (simp [*]; done), by repeat (first | exact Drawn0.refl _ | apply Drawn0.step)⟩
 ·
  rw [if_neg c4] at H; have c4b0 : (t258 == 0) = false := beq_eq_false_iff_ne.mpr c4; have c4b1 : (t258 != 0) = true := bne_iff_ne.mpr c4; simp only [Option.some.injEq, Prod.mk.injEq] at H; obtain ⟨rfl, rfl⟩ := H
  go_enter Tryd.func45, Tryd.ntmps45
  go_wp2_with (first | ((with_reducible refine gate_callee (f := 9) rfl ?_); refine gL_ (some 10) Tryd.func9 #[.int .i64 a0] ?_; (with_reducible refine (hashes_Start.calls a0 t257 t258 _ A3.out).mono ?_); rintro e w' ⟨rfl, ⟨nd, rfl⟩⟩; refine ⟨_, rfl, ?_⟩))
  go_ret2
  exact ⟨by first | rfl | (simp; done) | (simp [*]; done), by repeat (first | exact Drawn0.refl _ | apply Drawn0.step)⟩

/-! ### bitloftref01_Same: function 46 -/
def bitloftref01_Same.l0 : Nat → List Int → List Int → Int → Option (Bool)
 | 0, _, _, _ => none
 | k + 1, x0, x1, x5 => if x5 < (x0.length : Int) then (if 0 ≤ x5 then (if x5 < (x1.length : Int) then (if (rd x0 x5) = (rd x1 x5) then (bitloftref01_Same.l0 k x0 x1 (wrap64 (x5 + 1))) else (some false)) else (none)) else (none)) else (some true)
def bitloftref01_Same.f (k : Nat) (l0 : List Int) (l1 : List Int) : Option (Bool) := if (l0.length : Int) = (l1.length : Int) then (bitloftref01_Same.l0 k l0 l1 0) else (some false)
theorem bitloftref01_Same.mono_l : ∀ k, (∀ y0 y1 y2, LeO (bitloftref01_Same.l0 k y0 y1 y2) (bitloftref01_Same.l0 (k + 1) y0 y1 y2))
 | 0 => fun _ _ _ r h => by simp [bitloftref01_Same.l0] at h
 | k + 1 => by
  have ih0 := bitloftref01_Same.mono_l k
  ·
   intro y0 y1 y2
   unfold bitloftref01_Same.l0
   repeat' first
   | (with_reducible exact ih0 _ _ _)
   | (with_reducible exact LeO.refl _)
   | (with_reducible exact LeO.none _)
   | (with_reducible refine LeO.ite ?_ ?_)
   | (with_reducible refine LeO.bind ?_ (fun _ => ?_))
   | exact ih0 _ _ _
   | exact LeO.none _
   | refine LeO.ite ?_ ?_
   | refine LeO.bind ?_ (fun _ => ?_)
theorem bitloftref01_Same.mono : ∀ a0 a1 k, LeO (bitloftref01_Same.f k a0 a1) (bitloftref01_Same.f (k + 1) a0 a1) := by
 intro a0 a1 k; have ih0 := bitloftref01_Same.mono_l k
 unfold bitloftref01_Same.f
 repeat' first
   | (with_reducible exact ih0 _ _ _)
   | (with_reducible exact LeO.refl _)
   | (with_reducible exact LeO.none _)
   | (with_reducible refine LeO.ite ?_ ?_)
   | (with_reducible refine LeO.bind ?_ (fun _ => ?_))
   | exact ih0 _ _ _
   | exact LeO.none _
   | refine LeO.ite ?_ ?_
   | refine LeO.bind ?_ (fun _ => ?_)
set_option maxHeartbeats 8000000 in
set_option maxRecDepth 100000 in
theorem bitloftref01_Same.calls (k : Nat) (A0 : Option Addr) (c0 : Nat) (l0 : List Int) (A1 : Option Addr) (c1 : Nat) (l1 : List Int) (r : Bool) (w : World) (hr0 : Kd.C (Kd.int .u8) w A0 l0.length l0) (hc0 : l0.length ≤ c0) (hr1 : Kd.C (Kd.int .u8) w A1 l1.length l1) (hc1 : l1.length ≤ c1) (h : bitloftref01_Same.f k l0 l1 = some r) :
  Calls Tryd.prog 46 #[.slice A0 l0.length c0, .slice A1 l1.length c1] w fun e w' => e = .returned (.bool r) ∧ Drawn0 w w' := by
 have HR0 := Aside0.mk hr0; have HC0 := Aside0.mk hc0; clear hr0 hc0; have HR1 := Aside0.mk hr1; have HC1 := Aside0.mk hc1; clear hr1 hc1; have H : (if (l0.length : Int) = (l1.length : Int) then (bitloftref01_Same.l0 k l0 l1 0) else (some false)) = some r := h; clear h
 by_cases c3 : (l0.length : Int) = (l1.length : Int)
 ·
  rw [if_pos c3] at H; have c3b0 : ((l0.length : Int) == (l1.length : Int)) = true := beq_iff_eq.mpr c3; have c3b1 : ((l0.length : Int) != (l1.length : Int)) = false := bne_eq_false_iff_eq.mpr c3
  have c3b2 : (l0.length == l1.length) = true := by first | simpa using c3 | (simp at c3 ⊢; omega)
  clear c3; have H' := Aside0.mk H; clear H
  go_enter Tryd.func46, Tryd.ntmps46
  go_wp2
  repeat (go_quiet (fail); try go_wp2)
  go_loopg [5] k (fun kq v5 w' => ∃ (x5_1 : Int), v5 = .int .i64 x5_1 ∧ Aside0 (bitloftref01_Same.l0 kq l0 l1 x5_1 = some r) ∧ Aside0 (kq ≤ k) ∧ Drawn0 w w')
  case atStart => exact ⟨(0), (by first | rfl | (simp; done) | (simp [*]; done)), H', ⟨Nat.le_refl _⟩, by repeat (first | exact Drawn0.refl _ | apply Drawn0.step)⟩
  case round =>
   clear H'
   try clear c1
   try clear p2
   try clear c3
   try clear c3b0
   try clear c3b1
   try clear c3b2
   obtain ⟨x5_1, rfl, HA, HK1, ⟨m1, rfl⟩⟩ := hrel
   cases gk with
   | zero => exact absurd HA.out (by simp [bitloftref01_Same.l0])
   | succ k1 =>
    have H := HA.out; clear HA; simp only [bitloftref01_Same.l0] at H
    by_cases c4 : x5_1 < (l0.length : Int)
    ·
     rw [if_pos c4] at H; have c4b0 : decide (x5_1 < (l0.length : Int)) = true := decide_eq_true c4; clear c4
     by_cases c5 : 0 ≤ x5_1
     ·
      rw [if_pos c5] at H; have c5b0 : decide (0 ≤ x5_1) = true := decide_eq_true c5; clear c5
      by_cases c6 : x5_1 < (l1.length : Int)
      ·
       rw [if_pos c6] at H; have c6b0 : decide (x5_1 < (l1.length : Int)) = true := decide_eq_true c6; clear c6
       by_cases c7 : (rd l0 x5_1) = (rd l1 x5_1)
       ·
        rw [if_pos c7] at H; have c7b0 : ((rd l0 x5_1) == (rd l1 x5_1)) = true := beq_iff_eq.mpr c7; have c7b1 : ((rd l0 x5_1) != (rd l1 x5_1)) = false := bne_eq_false_iff_eq.mpr c7; clear c7; have H' := Aside0.mk H; clear H; have p260 : 0 ≤ (x5_1 : Int) := of_decide_eq_true (by first | (with_reducible assumption) | assumption); have q260 : x5_1 < (l0.length : Int) := of_decide_eq_true (by first | (with_reducible assumption) | assumption); obtain ⟨ad260, e260, hx260_0⟩ := Kd.at_int HR0.out x5_1 p260 q260
        cases e260
        replace p260 := eq_true p260; replace q260 := eq_true q260; have p261 : 0 ≤ (x5_1 : Int) := of_decide_eq_true (by first | (with_reducible assumption) | assumption); have q261 : x5_1 < (l1.length : Int) := of_decide_eq_true (by first | (with_reducible assumption) | assumption); obtain ⟨ad261, e261, hx261_0⟩ := Kd.at_int HR1.out x5_1 p261 q261
        cases e261
        replace p261 := eq_true p261; replace q261 := eq_true q261
        go_wp2
        repeat (go_quiet (fail); try go_wp2)
        go_roundg k1
        case measure => have := HK1.out; omega
        case rel => exact ⟨(wrap64 (x5_1 + 1)), (by first | rfl | (simp; done) | (simp [*]; done)), H', ⟨by have := HK1.out; omega⟩, by repeat (first | exact Drawn0.refl _ | apply Drawn0.step)⟩
       ·
        rw [if_neg c7] at H; have c7b0 : ((rd l0 x5_1) == (rd l1 x5_1)) = false := beq_eq_false_iff_ne.mpr c7; have c7b1 : ((rd l0 x5_1) != (rd l1 x5_1)) = true := bne_iff_ne.mpr c7; obtain rfl := Option.some.inj H; have p260 : 0 ≤ (x5_1 : Int) := of_decide_eq_true (by first | (with_reducible assumption) | assumption); have q260 : x5_1 < (l0.length : Int) := of_decide_eq_true (by first | (with_reducible assumption) | assumption); obtain ⟨ad260, e260, hx260_0⟩ := Kd.at_int HR0.out x5_1 p260 q260
        cases e260
        replace p260 := eq_true p260; replace q260 := eq_true q260; have p261 : 0 ≤ (x5_1 : Int) := of_decide_eq_true (by first | (with_reducible assumption) | assumption); have q261 : x5_1 < (l1.length : Int) := of_decide_eq_true (by first | (with_reducible assumption) | assumption); obtain ⟨ad261, e261, hx261_0⟩ := Kd.at_int HR1.out x5_1 p261 q261
        cases e261
        replace p261 := eq_true p261; replace q261 := eq_true q261
        go_wp2
        repeat (go_quiet (fail); try go_wp2)
        go_ret
        exact ⟨by first | rfl | (simp; done) | (simp [*]; done), by repeat (first | exact Drawn0.refl _ | apply Drawn0.step)⟩
      ·
       rw [if_neg c6] at H; exact absurd H (by simp)
     ·
      rw [if_neg c5] at H; exact absurd H (by simp)
    ·
     rw [if_neg c4] at H; have c4b0 : decide (x5_1 < (l0.length : Int)) = false := decide_eq_false c4; clear c4; obtain rfl := Option.some.inj H
     go_wp2
     repeat (go_quiet (fail); try go_wp2)
     go_ret
     exact ⟨by first | rfl | (simp; done) | (simp [*]; done), by repeat (first | exact Drawn0.refl _ | apply Drawn0.step)⟩
 ·
  rw [if_neg c3] at H; have c3b0 : ((l0.length : Int) == (l1.length : Int)) = false := beq_eq_false_iff_ne.mpr c3; have c3b1 : ((l0.length : Int) != (l1.length : Int)) = true := bne_iff_ne.mpr c3
  have c3b2 : (l0.length == l1.length) = false := by first | simpa using c3 | (simp at c3 ⊢; omega)
  obtain rfl := Option.some.inj H
  go_enter Tryd.func46, Tryd.ntmps46
  go_wp2
  repeat (go_quiet (fail); try go_wp2)
  go_ret
  exact ⟨by first | rfl | (simp; done) | (simp [*]; done), by repeat (first | exact Drawn0.refl _ | apply Drawn0.step)⟩

/-! ### bitloftref01_Whole: function 47 -/
def bitloftref01_Whole.l0 : Nat → List (List Int) → List Int → Int → Option (List Int)
 | 0, _, _, _ => none
 | k + 1, x0, x3, x4 => if x4 < (x0.length : Int) then (if 0 ≤ x4 then (if x3.length + (rd_L2 x0 x4).length < 140737488355328 then (bitloftref01_Whole.l0 k x0 (x3 ++ (rd_L2 x0 x4)) (wrap64 (x4 + 1))) else (none)) else (none)) else (some x3)
def bitloftref01_Whole.f (k : Nat) (l0 : List (List Int)) : Option (List Int) := bitloftref01_Whole.l0 k l0 ([] : List Int) 0
theorem bitloftref01_Whole.mono_l : ∀ k, (∀ y0 y1 y2, LeO (bitloftref01_Whole.l0 k y0 y1 y2) (bitloftref01_Whole.l0 (k + 1) y0 y1 y2))
 | 0 => fun _ _ _ r h => by simp [bitloftref01_Whole.l0] at h
 | k + 1 => by
  have ih0 := bitloftref01_Whole.mono_l k
  ·
   intro y0 y1 y2
   unfold bitloftref01_Whole.l0
   repeat' first
   | (with_reducible exact ih0 _ _ _)
   | (with_reducible exact LeO.refl _)
   | (with_reducible exact LeO.none _)
   | (with_reducible refine LeO.ite ?_ ?_)
   | (with_reducible refine LeO.bind ?_ (fun _ => ?_))
   | exact ih0 _ _ _
   | exact LeO.none _
   | refine LeO.ite ?_ ?_
   | refine LeO.bind ?_ (fun _ => ?_)
theorem bitloftref01_Whole.mono : ∀ a0 k, LeO (bitloftref01_Whole.f k a0) (bitloftref01_Whole.f (k + 1) a0) := by
 intro a0 k; have ih0 := bitloftref01_Whole.mono_l k
 unfold bitloftref01_Whole.f
 repeat' first
   | (with_reducible exact ih0 _ _ _)
   | (with_reducible exact LeO.refl _)
   | (with_reducible exact LeO.none _)
   | (with_reducible refine LeO.ite ?_ ?_)
   | (with_reducible refine LeO.bind ?_ (fun _ => ?_))
   | exact ih0 _ _ _
   | exact LeO.none _
   | refine LeO.ite ?_ ?_
   | refine LeO.bind ?_ (fun _ => ?_)
set_option maxHeartbeats 8000000 in
set_option maxRecDepth 100000 in
theorem bitloftref01_Whole.calls (k : Nat) (A0 : Option Addr) (c0 : Nat) (l0 : List (List Int)) (r : List Int) (w : World) (hr0 : Kd.C (Kd.slice 5 (Kd.int .u8)) w A0 l0.length l0) (hc0 : l0.length ≤ c0) (h : bitloftref01_Whole.f k l0 = some r) :
  Calls Tryd.prog 47 #[.slice A0 l0.length c0] w fun e w' => ∃ v0_ : Value, e = .returned (v0_) ∧ Kd.R (Kd.int .u8) 5 w' w.heap.size (fun _ => True) v0_ r ∧ Below w.heap.size w w' := by
 have HR0 := Aside0.mk hr0; have HC0 := Aside0.mk hc0; clear hr0 hc0; have HB := Aside0.mk (Below.refl w.heap.size w); have H : (bitloftref01_Whole.l0 k l0 ([] : List Int) 0) = some r := h; clear h; have H' := Aside0.mk H; clear H
 go_enter Tryd.func47, Tryd.ntmps47
 go_wp2
 go_loopg [3, 4] k (fun kq v3 v4 w' => ∃ (x3_1 : List Int) (x4_1 : Int), v4 = .int .i64 x4_1 ∧ Aside0 (bitloftref01_Whole.l0 kq l0 x3_1 x4_1 = some r) ∧ Aside0 (kq ≤ k) ∧ Aside0 (Kd.R (Kd.int .u8) 5 w' w.heap.size (fun _ => True) v3 x3_1) ∧ Aside0 (Below w.heap.size w w'))
 case atStart => exact ⟨(([] : List Int)), (0), (by first | rfl | (simp; done) | (simp [*]; done)), H', ⟨Nat.le_refl _⟩, ⟨by first | exact Kd.R_nil _ _ _ _ _ | exact Kd.N_nil _ _ _ _ _ | exact Kd.V_nil _ _ _ _ _ | exact Kd.Q_nil _ _ _ _ _ | exact Kd.S_nil _ _ _ _ _⟩, ⟨pH_ HB.out⟩⟩
 case round =>
  clear H'; obtain ⟨x3_1, x4_1, rfl, HA, HK1, HO_3, HB⟩ := hrel
  cases gk with
  | zero => exact absurd HA.out (by simp [bitloftref01_Whole.l0])
  | succ k1 =>
   have H := HA.out; clear HA; simp only [bitloftref01_Whole.l0] at H
   by_cases c2 : x4_1 < (l0.length : Int)
   ·
    rw [if_pos c2] at H; have c2b0 : decide (x4_1 < (l0.length : Int)) = true := decide_eq_true c2; clear c2
    by_cases c3 : 0 ≤ x4_1
    ·
     rw [if_pos c3] at H; have c3b0 : decide (0 ≤ x4_1) = true := decide_eq_true c3; clear c3
     by_cases c4 : x3_1.length + (rd_L2 l0 x4_1).length < 140737488355328
     ·
      rw [if_pos c4] at H; have LMc4 := Aside0.mk c4; clear c4; obtain ⟨y263, hy263⟩ : ∃ y_ : List Int, y_ = (x3_1 ++ (rd_L2 l0 x4_1)) := ⟨_, rfl⟩
      replace H : (bitloftref01_Whole.l0 k1 l0 y263 (wrap64 (x4_1 + 1))) = some r := by first | (rw [hy263]; with_reducible exact H) | (have H2_ := (Option.bind_some _ _).symm.trans H; rw [hy263]; with_reducible exact H2_) | (have H2_ := (Option.bind_some _ _).symm.trans H; with_reducible exact H2_) | with_reducible exact H | (rw [hy263]; exact H) | exact H
      have Ny263 := Aside0.mk hy263; clear hy263; have H' := Aside0.mk H; clear H; have p262 : 0 ≤ (x4_1 : Int) := of_decide_eq_true (by first | (with_reducible assumption) | assumption); have q262 : x4_1 < (l0.length : Int) := of_decide_eq_true (by first | (with_reducible assumption) | assumption); obtain ⟨ad262, A262_0, c262_0, e262, hx262_0, hl262_0, hi262_0⟩ := at_L2 HR0.out x4_1 p262 q262
      cases e262
      replace hx262_0 := (HB.out.cell (World.block_lt_of_cell? w _ hx262_0)).trans hx262_0; have HR262_0 := Aside0.mk hi262_0; have HC262_0 := Aside0.mk hl262_0; clear hi262_0 hl262_0; replace p262 := eq_true p262; replace q262 := eq_true q262
      go_wp2_with (first | ((with_reducible refine gate_builtin (b := .append) (xs := #[.tmp 11, .tmp 15]) rfl ?_); at_builtin; refine Kd.R_append_rows (Kd.int .u8) (w0 := w) w.heap.size rfl (.tmp 11) (.tmp 15) 22 5 (.int .u8 0) 1 rfl Tryd.underlying22 info5 rfl (by decide) (by omega) u3 x3_1 (rd_L2 l0 x4_1) _ _ _ (fun _ => True) (fun _ => False) rfl rfl ?aO ?aR (fun _ _ h => h) (fun _ h => h.elim) ?aF ?aB ?aS ?aL ?_; (case aR => repeat (first | exact (Kd.C_below HR262_0.out HB.out) | (with_reducible refine Kd.C_alloc ?_ _) | (with_reducible refine Kd.C_drewN ?_ _) | (with_reducible refine Kd.C_drew ?_))); (case aB => exact (pH_ HB.out)); (case aF => exact (fun _ _ => trivial)); (case aO => exact (pL_ HO_3.out)); (case aS => exact (below_size (pH_ HB.out))); (case aL => have := LMc4.out; omega); intro v264 w5 ho hb hg hat; (try simp only [Int.reduceToNat] at ho); rw [← Ny263.out] at ho; have n0_ := Aside0.mk (hb); have n1_ := Aside0.mk (ho); clear HB; clear HO_3; have HB := n0_; have HO265 := n1_; clear n0_ n1_; clear ho hb hg hat))
      go_roundg k1
      case measure => have := HK1.out; omega
      case rel => exact ⟨(y263), (wrap64 (x4_1 + 1)), (by first | rfl | (simp; done) | (simp [*]; done)), H', ⟨by have := HK1.out; omega⟩, ⟨pL_ HO265.out⟩, ⟨pH_ HB.out⟩⟩
     ·
      rw [if_neg c4] at H; exact absurd H (by simp)
    ·
     rw [if_neg c3] at H; exact absurd H (by simp)
   ·
    rw [if_neg c2] at H; have c2b0 : decide (x4_1 < (l0.length : Int)) = false := decide_eq_false c2; clear c2; obtain rfl := Option.some.inj H
    go_wp2
    go_ret
    exact ⟨_, by first | rfl | (simp [errW_none, errW_some] <;> rfl) | (simp [*, errW_none, errW_some] <;> rfl), by (with_reducible repeat (first | apply rA_ | apply rN_ | apply rD_)); exact HO_3.out, pH_ HB.out⟩

/-! ### sha_Pieces: function 48 -/
def sha_Pieces.f (l0 : List (List Int)) : Option (Int × Int × Int × Int × Int × Int × Int × Int × Int × Int × Int × Int × Int × Int × Int × Int × Int × Int × Int × Int × Int) := if l0.length ≤ 20 then (slices_Concat_byte_byte.f l0).bind fun all => sha_Sum.f all else none
set_option maxHeartbeats 8000000 in
set_option maxRecDepth 100000 in
theorem sha_Pieces.calls (A0 : Option Addr) (c0 : Nat) (l0 : List (List Int)) (r1 r2 r3 r4 r5 r6 r7 r8 r9 r10 r11 r12 r13 r14 r15 r16 r17 r18 r19 r20 r21 : Int) (w : World) (hr0 : Kd.C (Kd.slice 5 (Kd.int .u8)) w A0 l0.length l0) (hc0 : l0.length ≤ c0) (hT : Tab_ w) (h : sha_Pieces.f l0 = some (r1, r2, r3, r4, r5, r6, r7, r8, r9, r10, r11, r12, r13, r14, r15, r16, r17, r18, r19, r20, r21)) :
    Calls Tryd.prog 48 #[.slice A0 l0.length c0] w fun e w' => e = .returned (.tuple #[.agg #[.int .u8 r1, .int .u8 r2, .int .u8 r3, .int .u8 r4, .int .u8 r5, .int .u8 r6, .int .u8 r7, .int .u8 r8, .int .u8 r9, .int .u8 r10, .int .u8 r11, .int .u8 r12, .int .u8 r13, .int .u8 r14, .int .u8 r15, .int .u8 r16, .int .u8 r17, .int .u8 r18, .int .u8 r19, .int .u8 r20], .int .i64 r21]) ∧ Below w.heap.size w w' := by
  unfold sha_Pieces.f at h
  by_cases hl : l0.length ≤ 20
  case neg => rw [if_neg hl] at h; exact absurd h (by simp)
  rw [if_pos hl] at h
  obtain ⟨all, hf, h⟩ := Option.bind_eq_some_iff.mp h
  have HT := Aside0.mk hT
  have HR := Aside0.mk hr0
  have HC0 := Aside0.mk hc0
  have HF := Aside0.mk hf
  have HS := Aside0.mk h
  have hlz : ¬ (20 : Int) < (l0.length : Int) := by omega
  have HB := Aside0.mk (Below.refl w.heap.size w)
  clear hT hr0 hc0 hf h hl
  go_enter Tryd.func48, Tryd.ntmps48
  go_wp2_with (first | (go_at_call 81; refine (slices_Concat_byte_byte.calls _ _ l0 all _ (Kd.C_alloc HR.out _) HC0.out HF.out).mono ?_; rintro e w2 ⟨v2, rfl, ho, hb⟩; have BZ := Aside0.mk (blk_below (blk_new w _) hb); have HB2 := Aside0.mk (below_step (below_alloc HB.out _) hb); have HO2 := Aside0.mk ho; clear ho hb HB; obtain ⟨Ap, cp, ep⟩ := Kd.R_slice HO2.out; subst ep) | (go_at_call 44; refine (sha_Sum.calls _ _ all _ _ _ _ _ _ _ _ _ _ _ _ _ _ _ _ _ _ _ _ _ _ (Kd.R_reads' HO2.out).2.2 (Kd.R_reads' HO2.out).2.1 (tab_bel HT.out HB2.out) HS.out).mono ?_; rintro e w3 ⟨rfl, hb⟩; have BZ3 := Aside0.mk (blk_below BZ.out hb); have HB3 := Aside0.mk (below_step HB2.out hb); clear hb BZ HB2) | ((with_reducible refine gate_store (t := 103) (p := 2) rfl ?_); refine wstore_event (t := 103) (p := 2) (v := ?vo3) (cs := #[.int .u8 r1, .int .u8 r2, .int .u8 r3, .int .u8 r4, .int .u8 r5, .int .u8 r6, .int .u8 r7, .int .u8 r8, .int .u8 r9, .int .u8 r10, .int .u8 r11, .int .u8 r12, .int .u8 r13, .int .u8 r14, .int .u8 r15, .int .u8 r16, .int .u8 r17, .int .u8 r18, .int .u8 r19, .int .u8 r20]) ?hg ?ho ?hn ?hx ?hy BZ3.out (by kernel_rfl) (by rfl) (by rfl) ?_; (case ho => rfl); (case hg => rfl); (case hn => rfl); (case hx => first | rfl | (go_simp; done) | (go_simp; rfl)); (case hy => first | rfl | (go_simp; done) | (go_simp; rfl)); intro w6 hbox hgr; have BX := Aside0.mk hbox; have GR := Aside0.mk hgr; clear hbox hgr))
  refine bodyPost_ret (results_ct rfl _ _ w.heap.size 103 #[.int .u8 r1, .int .u8 r2, .int .u8 r3, .int .u8 r4, .int .u8 r5, .int .u8 r6, .int .u8 r7, .int .u8 r8, .int .u8 r9, .int .u8 r10, .int .u8 r11, .int .u8 r12, .int .u8 r13, .int .u8 r14, .int .u8 r15, .int .u8 r16, .int .u8 r17, .int .u8 r18, .int .u8 r19, .int .u8 r20] (0, 0) _ rfl BX.out Tryd.underlying103 rfl (by kernel_rfl)) rfl ?_
  exact ⟨rfl, pw_below_grown HB3.out _ (below_size HB3.out) GR.out (fun k_ e_ => by injection e_ with e_; omega)⟩

end Go.Proofs.YthhfigkbjacmeaaDoor.XTopKernel
