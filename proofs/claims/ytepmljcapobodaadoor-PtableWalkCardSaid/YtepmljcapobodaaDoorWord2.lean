/- Contracts of package word, second part: Put, Get, and the reference's. -/
import Derived.Test.YtepmljcapobodaaDoorWord
namespace Go.Proofs.YtepmljcapobodaaDoor
open Go.RowKit
set_option linter.unusedVariables false
set_option maxRecDepth 100000

theorem chk_ok {e : Ent} (h : okE e = true) : chk e = 0 := by simp [chk, h]
theorem chk_no {e : Ent} (h : okE e = false) : chk e = 2 := by simp [chk, h]
set_option maxHeartbeats 800000 in
theorem put_no (e : Ent) (w : World) (h : okE e = false) :
    Calls Tryd.prog 97 #[e.val] w fun r w' => r = .returned (.tuple #[.int .u32 0, .int .i64 2]) ∧ Keep nob w w' := by
  obtain ⟨p, wr, c, f⟩ := e
  have hk := Lib.hid (check_ok ⟨p, wr, c, f⟩ (w.alloc (.cells #[.bool p, .bool wr, .bool c, .int .i64 f] 69)))
  rw [chk_no h] at hk
  unfold Ent.val at hk ⊢
  clear h
  go_enter Tryd.func97, Tryd.ntmps97
  go_wp2_with fail
  refine Calls.mono hk.out ?_
  rintro e w1 ⟨rfl, K1⟩
  go_wp2
  go_ret2
  exact ⟨rfl, (Keep.alloc (Keep.refl _ _) _).then K1⟩
set_option maxHeartbeats 1600000 in
theorem put_yes (e : Ent) (w : World) (h : okE e = true) :
    Calls Tryd.prog 97 #[e.val] w fun r w' => r = .returned (.tuple #[.int .u32 (putW e), .int .i64 0]) ∧ Keep nob w w' := by
  obtain ⟨p, wr, c, f⟩ := e
  have hf : 0 ≤ f ∧ f < 1024 := by
    simp only [okE, Bool.and_eq_true, decide_eq_true_eq] at h
    exact h.1.1
  obtain ⟨hf0, hf1⟩ := hf
  have hk := Lib.hid (check_ok ⟨p, wr, c, f⟩ (w.alloc (.cells #[.bool p, .bool wr, .bool c, .int .i64 f] 69)))
  rw [chk_ok h] at hk
  unfold Ent.val at hk ⊢
  clear h
  have bp : 0 ≤ bit p 1 ∧ bit p 1 ≤ 1 := by cases p <;> simp [bit]
  have bw : bit wr 2 = 0 ∨ bit wr 2 = 2 := by cases wr <;> simp [bit]
  have s0 := Lib.hid (show (f * 256) % 2 < 1 by omega)
  have s1 := Lib.hid (show (f * 256 + bit p 1) % 4 < 2 ∧ 0 ≤ f * 256 + bit p 1 ∧ f * 256 + bit p 1 < 2147483648 by omega)
  have s2 := Lib.hid (show (f * 256 + bit p 1 + bit wr 2) % 8 < 4 ∧ 0 ≤ f * 256 + bit p 1 + bit wr 2 ∧ f * 256 + bit p 1 + bit wr 2 < 2147483648 by omega)
  clear bp bw
  go_enter Tryd.func97, Tryd.ntmps97
  go_wp2_with fail
  refine Calls.mono hk.out ?_
  rintro e w1 ⟨rfl, K1⟩
  have c0 := K1.some (p := ⟨w.heap.size, 0, none⟩) (v := .bool p) (by rw [World.cell?_alloc_new]; rfl) (fun x => x)
  have c1 := K1.some (p := ⟨w.heap.size, 1, none⟩) (v := .bool wr) (by rw [World.cell?_alloc_new]; rfl) (fun x => x)
  have c2 := K1.some (p := ⟨w.heap.size, 2, none⟩) (v := .bool c) (by rw [World.cell?_alloc_new]; rfl) (fun x => x)
  have c3 := K1.some (p := ⟨w.heap.size, 3, none⟩) (v := .int .i64 f) (by rw [World.cell?_alloc_new]; rfl) (fun x => x)
  have hb0 := World.block_lt_of_cell? _ _ c0
  have hne := Lib.hid (show ¬ w.heap.size = w1.heap.size by have : w.heap.size < w1.heap.size := hb0; omega)
  have A1 := Lib.hid ((Keep.alloc (Keep.refl nob w) _).then K1)
  clear hk K1
  go_wp2_with fail
  refine Calls.mono (set_any0 p w1.heap.size (f * 256) _ (by go_simp) (by go_simp) (by omega) (by omega) s0.out) ?_
  rintro e w2 ⟨rfl, v2, z2, K2⟩
  have d0 := K2.some (p := ⟨w.heap.size, 0, none⟩) (v := .bool p) (by rw [alloc_lt hb0]; exact c0) hne.out
  have d1 := K2.some (p := ⟨w.heap.size, 1, none⟩) (v := .bool wr) (by rw [alloc_lt hb0]; exact c1) hne.out
  have d2 := K2.some (p := ⟨w.heap.size, 2, none⟩) (v := .bool c) (by rw [alloc_lt hb0]; exact c2) hne.out
  have A2 := Lib.hid (A1.out.trans (Keep.trans (Keep.alloc (Keep.refl (only w1.heap.size) w1) _) K2 (fun _ _ h => h)) (fun k hk e => by
    have e : k = w1.heap.size := e
    have := A1.out.size
    omega))
  clear c0 c1 c2 c3 K2 A1 s0
  have hsz := Lib.hid (show w.heap.size ≤ w1.heap.size by have : w.heap.size < w1.heap.size := hb0; omega)
  go_wp2_with fail
  refine Calls.mono (set_any1 wr w1.heap.size (f * 256 + bit p 1) _ v2 z2 s1.out.2.1 s1.out.2.2 s1.out.1) ?_
  rintro e w3 ⟨rfl, v3, z3, K3⟩
  have e2 := K3.some d2 hne.out
  have A3 := Lib.hid (A2.out.trans K3 (fun k hk e => by
    have e : k = w1.heap.size := e
    have := hsz.out
    omega))
  clear d0 d1 d2 K3 A2 s1 v2 z2
  go_wp2_with fail
  refine Calls.mono (set_any2 c w1.heap.size (f * 256 + bit p 1 + bit wr 2) _ v3 z3 s2.out.2.1 s2.out.2.2 s2.out.1) ?_
  rintro e w4 ⟨rfl, v4, z4, K4⟩
  have A4 := A3.out.trans K4 (fun k hk e => by
    have e : k = w1.heap.size := e
    have := hsz.out
    omega)
  clear e2 K4 A3 s2 v3 z3 z4
  go_wp2
  go_ret2
  exact ⟨rfl, A4⟩
/-- Of any entry: its word, or refused. -/
def putR (e : Ent) : Int := if okE e then putW e else 0
theorem put_ok (e : Ent) (w : World) :
    Calls Tryd.prog 97 #[e.val] w fun r w' => r = .returned (.tuple #[.int .u32 (putR e), .int .i64 (chk e)]) ∧ Keep nob w w' := by
  cases h : okE e
  · have := put_no e w h
    simp only [putR, chk, h]
    exact this
  · have := put_yes e w h
    simp only [putR, chk, h]
    exact this

/-! ### Get -/
def entOf (x : Int) : Ent := ⟨decide (x % 2 = 1), decide (x / 2 % 2 = 1), decide (x / 4 % 2 = 1), x / 256⟩
def okW (x : Int) : Bool := okE (entOf x) && decide (putW (entOf x) = x)
def getR (x : Int) : Ent := if okW x then entOf x else Ent.zero
def gchk (x : Int) : Int := if okW x then 0 else 6
theorem and_one (y : Int) (h0 : 0 ≤ y) (h1 : y < 4294967296) : bits .and .u32 y 1 = y % 2 := by
  obtain ⟨a, rfl⟩ : ∃ a : Nat, y = a := ⟨y.toNat, by omega⟩
  rw [show (1 : Int) = ((1 : Nat) : Int) from rfl, u32_and_nat a 1 (by omega) (by omega), Nat.and_one_is_mod]
  omega
theorem ix0 (w : World) : (Instr.index 177 (.agg #[.int .i64 0, .int .i64 1, .int .i64 2]) (.int .i64 0)).run Tryd.prog w = .ok (.int .i64 0) w := by kernel_rfl
theorem ix1 (w : World) : (Instr.index 177 (.agg #[.int .i64 0, .int .i64 1, .int .i64 2]) (.int .i64 1)).run Tryd.prog w = .ok (.int .i64 1) w := by kernel_rfl
theorem ix2 (w : World) : (Instr.index 177 (.agg #[.int .i64 0, .int .i64 1, .int .i64 2]) (.int .i64 2)).run Tryd.prog w = .ok (.int .i64 2) w := by kernel_rfl
def GetI (w : World) (x : Int) (i : Value) (wr : World) : Prop :=
  ∃ (k : Int) (b0 b1 b2 : Bool), i = .int .i64 k ∧ 0 ≤ k ∧ k ≤ 3 ∧ (1 ≤ k → b0 = decide (x % 2 = 1)) ∧ (2 ≤ k → b1 = decide (x / 2 % 2 = 1)) ∧ (3 ≤ k → b2 = decide (x / 4 % 2 = 1)) ∧
    wr = (w.alloc (.cells #[.bool false, .bool false, .bool false, .int .i64 0] 69)).alloc (.cells #[.bool b0, .bool b1, .bool b2] 176)
set_option maxHeartbeats 1600000 in
theorem get_ok (x : Int) (w : World) (hx0 : 0 ≤ x) (hx1 : x < 4294967296) :
    Calls Tryd.prog 96 #[.int .u32 x] w fun r w' => r = .returned (.tuple #[(getR x).val, .int .i64 (gchk x)]) ∧ Keep nob w w' := by
  have e0 := Lib.hid (and_one x hx0 hx1)
  have e1 := Lib.hid (and_one (x / 2) (by omega) (by omega))
  have e2 := Lib.hid (and_one (x / 4) (by omega) (by omega))
  have i0 := ix0
  have i1 := ix1
  have i2 := ix2
  go_enter Tryd.func96, Tryd.ntmps96
  go_wp2_with fail
  go_loopw [5, 6, 11] (fun _ _ i wr => GetI w x i wr) (fun _ _ i _ => (3 - intOf i).toNat)
  case atStart => exact ⟨0, false, false, false, rfl, by decide, by decide, fun h => absurd h (by decide), fun h => absurd h (by decide), fun h => absurd h (by decide), rfl⟩
  case round =>
    obtain ⟨k, b0, b1, b2, rfl, hk0, hk3, h0, h1, h2, rfl⟩ := hrel
    obtain rfl | rfl | rfl | rfl : k = 0 ∨ k = 1 ∨ k = 2 ∨ k = 3 := by omega
    · go_wp2_with fail
      go_roundw
      case rel => exact ⟨1, (bits .and .u32 x 1 == 1), b1, b2, rfl, by decide, by decide, fun _ => by rw [e0.out]; rfl, fun h => absurd h (by decide), fun h => absurd h (by decide), rfl⟩
      case measure => simp [intOf]
    · have h0 := Lib.hid (h0 (by decide))
      go_wp2_with fail
      go_roundw
      case rel => exact ⟨2, decide (x % 2 = 1), (bits .and .u32 (x / 2) 1 == 1), b2, rfl, by decide, by decide, fun _ => rfl, fun _ => by rw [e1.out]; rfl, fun h => absurd h (by decide), rfl⟩
      case measure => simp [intOf]
    · have h0 := Lib.hid (h0 (by decide))
      have h1 := Lib.hid (h1 (by decide))
      go_wp2_with fail
      go_roundw
      case rel => exact ⟨3, decide (x % 2 = 1), decide (x / 2 % 2 = 1), (bits .and .u32 (x / 4) 1 == 1), rfl, by decide, by decide, fun _ => rfl, fun _ => rfl, fun _ => by rw [e2.out]; rfl, rfl⟩
      case measure => simp [intOf]
    · have h0 := h0 (by decide)
      have h1 := h1 (by decide)
      have h2 := h2 (by decide)
      subst h0
      subst h1
      subst h2
      clear e0 e1 e2
      go_wp2_with fail
      obtain ⟨W, hW⟩ : ∃ W, W = (((w.alloc (.cells #[.bool false, .bool false, .bool false, .int .i64 0] 69)).alloc (.cells #[.bool (decide (x % 2 = 1)), .bool (decide (x / 2 % 2 = 1)), .bool (decide (x / 4 % 2 = 1))] 176)).alloc (.cells #[.bool (decide (x % 2 = 1)), .bool (decide (x / 2 % 2 = 1)), .bool (decide (x / 4 % 2 = 1)), .int .i64 (x / 256)] 69)) := ⟨_, rfl⟩
      have A0 : Keep nob w W := by rw [hW]; exact (((Keep.refl _ _).alloc _).alloc _).alloc _
      have c0 : W.cell? ⟨w.heap.size + 2, 0, none⟩ = some (.bool (decide (x % 2 = 1))) := by rw [hW]; go_simp
      have c1 : W.cell? ⟨w.heap.size + 2, 1, none⟩ = some (.bool (decide (x / 2 % 2 = 1))) := by rw [hW]; go_simp
      have c2 : W.cell? ⟨w.heap.size + 2, 2, none⟩ = some (.bool (decide (x / 4 % 2 = 1))) := by rw [hW]; go_simp
      have c3 : W.cell? ⟨w.heap.size + 2, 3, none⟩ = some (.int .i64 (x / 256)) := by rw [hW]; go_simp
      have r0 : W.cell? ⟨w.heap.size, 0, none⟩ = some (.bool false) := by rw [hW]; go_simp
      have r1 : W.cell? ⟨w.heap.size, 1, none⟩ = some (.bool false) := by rw [hW]; go_simp
      have r2 : W.cell? ⟨w.heap.size, 2, none⟩ = some (.bool false) := by rw [hW]; go_simp
      have r3 : W.cell? ⟨w.heap.size, 3, none⟩ = some (.int .i64 0) := by rw [hW]; go_simp
      have z : ∀ j, W.frozen? ⟨w.heap.size, j, none⟩ = false := by intro j; rw [hW]; go_simp
      rw [← hW]
      clear hW
      have hp := put_ok (entOf x) W
      obtain ⟨P, hP⟩ : ∃ P, putR (entOf x) = P := ⟨_, rfl⟩
      obtain ⟨C, hC⟩ : ∃ C, chk (entOf x) = C := ⟨_, rfl⟩
      rw [hP, hC] at hp
      have HP := Lib.hid hP
      have HC := Lib.hid hC
      have A0 := Lib.hid A0
      clear hP hC
      refine Calls.mono hp ?_
      clear hp
      rintro e w1 ⟨rfl, K1⟩
      have d0 := K1.some c0 (fun x => x)
      have d1 := K1.some c1 (fun x => x)
      have d2 := K1.some c2 (fun x => x)
      have d3 := K1.some c3 (fun x => x)
      have q0 := K1.some r0 (fun x => x)
      have q1 := K1.some r1 (fun x => x)
      have q2 := K1.some r2 (fun x => x)
      have q3 := K1.some r3 (fun x => x)
      have hb := World.block_lt_of_cell? _ _ r0
      have z0 := (K1.frozen (p := ⟨w.heap.size, 0, none⟩) hb (fun x => x)).trans (z 0)
      have z1 := (K1.frozen (p := ⟨w.heap.size, 1, none⟩) hb (fun x => x)).trans (z 1)
      have z2 := (K1.frozen (p := ⟨w.heap.size, 2, none⟩) hb (fun x => x)).trans (z 2)
      have z3 := (K1.frozen (p := ⟨w.heap.size, 3, none⟩) hb (fun x => x)).trans (z 3)
      have A1 := Lib.hid (A0.out.then K1)
      clear c0 c1 c2 c3 r0 r1 r2 r3 z K1 A0 hb
      by_cases hok : okE (entOf x) = true
      · obtain rfl : C = 0 := by rw [← HC.out, chk_ok hok]
        obtain rfl : P = putW (entOf x) := by rw [← HP.out, putR, if_pos hok]
        clear HP HC
        by_cases hw : putW (entOf x) = x
        · have hg : Hid (getR x = entOf x) := by simp [Hid, getR, okW, hok, hw]
          have hgk : Hid (gchk x = 0) := by simp [Hid, gchk, okW, hok, hw]
          rw [hw]
          clear hw hok
          go_wp2_with fail
          refine bodyPost_ret (v := .tuple #[.agg #[.bool (decide (x % 2 = 1)), .bool (decide (x / 2 % 2 = 1)), .bool (decide (x / 4 % 2 = 1)), .int .i64 (x / 256)], .int .i64 0]) (by rw [results_cell_tmp rfl]; go_simp) rfl ⟨?_, ?_⟩
          · rw [hg.out, hgk.out]; rfl
          · exact (((A1.out.setCell (p := ⟨w.heap.size, 0, none⟩) _ (Or.inl (Nat.le_refl _))).setCell (p := ⟨w.heap.size, 1, none⟩) _ (Or.inl (Nat.le_refl _))).setCell (p := ⟨w.heap.size, 2, none⟩) _ (Or.inl (Nat.le_refl _))).setCell (p := ⟨w.heap.size, 3, none⟩) _ (Or.inl (Nat.le_refl _))
        · have hg : Hid (getR x = Ent.zero) := by simp [Hid, getR, okW, hw]
          have hgk : Hid (gchk x = 6) := by simp [Hid, gchk, okW, hw]
          have tw : (putW (entOf x) != x) = true := by simpa using hw
          have hw := Lib.hid hw
          clear hok
          go_wp2_with fail
          refine bodyPost_ret (v := .tuple #[.agg #[.bool false, .bool false, .bool false, .int .i64 0], .int .i64 6]) (by rw [results_cell_tmp rfl]; go_simp) rfl ⟨?_, ?_⟩
          · rw [hg.out, hgk.out]; rfl
          · exact (((A1.out.setCell (p := ⟨w.heap.size, 0, none⟩) _ (Or.inl (Nat.le_refl _))).setCell (p := ⟨w.heap.size, 1, none⟩) _ (Or.inl (Nat.le_refl _))).setCell (p := ⟨w.heap.size, 2, none⟩) _ (Or.inl (Nat.le_refl _))).setCell (p := ⟨w.heap.size, 3, none⟩) _ (Or.inl (Nat.le_refl _))
      · have hok : okE (entOf x) = false := by simpa using hok
        obtain rfl : C = 2 := by rw [← HC.out, chk_no hok]
        have HK := Lib.hid hok
        clear hok HP HC
        have hg : Hid (getR x = Ent.zero) := by simp [Hid, getR, okW, HK.out]
        have hgk : Hid (gchk x = 6) := by simp [Hid, gchk, okW, HK.out]
        go_wp2_with fail
        refine bodyPost_ret (v := .tuple #[.agg #[.bool false, .bool false, .bool false, .int .i64 0], .int .i64 6]) (by rw [results_cell_tmp rfl]; go_simp) rfl ⟨?_, ?_⟩
        · rw [hg.out, hgk.out]; rfl
        · exact (((A1.out.setCell (p := ⟨w.heap.size, 0, none⟩) _ (Or.inl (Nat.le_refl _))).setCell (p := ⟨w.heap.size, 1, none⟩) _ (Or.inl (Nat.le_refl _))).setCell (p := ⟨w.heap.size, 2, none⟩) _ (Or.inl (Nat.le_refl _))).setCell (p := ⟨w.heap.size, 3, none⟩) _ (Or.inl (Nat.le_refl _))
end Go.Proofs.YtepmljcapobodaaDoor
