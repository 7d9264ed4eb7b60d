/- Contracts of the reference's frames (prioryref04): Words, Of. -/
import Derived.Test.YtkkkmaigcnpmeaaTrap2
namespace Go.Proofs.Ytkkkmaigcnpmeaa
open Go.RowKit
set_option linter.unusedVariables false
set_option maxRecDepth 100000
def RefWI (w W : World) (L : List Int) (v i : Value) (wr : World) : Prop :=
  ∃ k : Nat, i = .int .i64 k ∧ k ≤ 8 ∧ wr.ownsRow W.heap.size 23 1 v k ((L.take k).map (Value.int .u32)) ∧ Keep nob W wr
theorem row_snoc (L : List Int) (k : Nat) (hk : k < L.length) : (L.take (k + 1)).map (Value.int .u32) = (L.take k).map (Value.int .u32) ++ [.int .u32 (ix L k)] := by
  rw [List.take_succ_eq_append_getElem hk, List.map_append]
  unfold ix
  rw [List.getD_eq_getElem?_getD, List.getElem?_eq_getElem hk]
  rfl
theorem row_ten (L : List Int) (h : L.length = 10) : (L.take 8).map (Value.int .u32) ++ [.int .u32 (ix L 8), .int .u32 (ix L 9)] = L.map (Value.int .u32) := by
  match L, h with
  | [a0, a1, a2, a3, a4, a5, a6, a7, a8, a9], _ => rfl
set_option maxHeartbeats 800000 in
theorem refwords_ok (t : Trap) (w : World) :
    Calls Try.prog 54 #[t.val] w fun r w' => ∃ v, r = .returned v ∧ RowIs w.heap.size w' v 10 t.list ∧ Keep nob w w' := by
  obtain ⟨W, hW⟩ : ∃ W, W = w.alloc (.cells t.cells 76) := ⟨_, rfl⟩
  have C : Hid (∀ j u, t.cells.toList[j]? = some u → W.cell? ⟨w.heap.size, j, none⟩ = some u) := by rw [hW]; exact fun j u => new_at _ _ _ j u
  have K : Hid (Keep nob w W) := by rw [hW]; exact (Keep.refl _ _).alloc _
  have hs : Hid (W.heap.size = w.heap.size + 1) := by rw [hW]; exact World.size_alloc _ _
  have CL : Hid (∀ j, j < 10 → W.cell? ⟨w.heap.size, j, none⟩ = some (.int .u32 (ix t.list j))) := Lib.hid (fun j hj => C.out j _ (by
    rw [Trap.cells_list, List.getElem?_map]
    unfold ix
    rw [List.getD_eq_getElem?_getD, List.getElem?_eq_getElem (by rw [t.list_len]; exact hj)]; rfl))
  obtain ⟨i0, hi, hz0, hz1, hz2⟩ := info_parts infoWord
  have HI := Lib.hid hi
  have HZ0 := Lib.hid hz0
  have HZ1 := Lib.hid hz1
  have HZ2 := Lib.hid hz2
  clear hi hz0 hz1 hz2
  obtain ⟨L, hL⟩ : ∃ L, L = t.list := ⟨_, rfl⟩
  have HL := Lib.hid hL
  rw [← hL] at CL
  have HLen := Lib.hid (show L.length = 10 by rw [hL]; rfl)
  rw [← hL]
  obtain ⟨x0, x1, x2, x3, x4, x5, x6, x7, x8, x9⟩ := t
  clear hL C
  unfold Trap.val Trap.cells at *
  go_enter Try.func54, Try.ntmps54
  go_wp2_with fail
  rw [← hW]
  clear hW
  go_loopw [3, 4] (fun v i wr => RefWI w W L v i wr) (fun _ i _ => (8 - intOf i).toNat)
  case atStart => exact ⟨0, rfl, by decide, by simpa using World.ownsRow_nil _ _ _ _, Keep.refl _ _⟩
  case round =>
    obtain ⟨k, rfl, hk, O, A⟩ := hrel
    by_cases hlt : k < 8
    · have b1 : ((k : Int) < 8) := by omega
      have c0 := A.some (CL.out k (by omega)) (fun x => x)
      have A := Lib.hid A
      have O := Lib.hid O
      go_wp2_with (at_builtin; refine wpList_append_own _ rfl (.tmp 9) (.tmp 14) 37 rfl W.heap.size 23 i0 (.int .u32 0) 1 4 Try.underlying37 HI.out HZ0.out HZ1.out HZ2.out rfl (by decide) u3 k _ rfl (own_next O.out ((Keep.refl _ _).alloc _)) ⟨wr.heap.size, 0, none⟩ 1 1 [.int .u32 (ix L k)] rfl rfl ?c1 ?c2 ?c3 ?c4 ?c5 ?_)
      case c1 => intro j u hu; rw [Addr.add_mid, Nat.zero_add]; exact new_at _ _ _ j u hu
      case c2 => simp [Value.oneCell']
      case c3 => unfold maxLen; omega
      case c4 => omega
      case c5 => exact Nat.le_trans A.out.size (by simp)
      intro v' w1 hown hgrow _
      have O1 := Lib.hid hown
      have A1 := Lib.hid ((A.out.alloc _).own_into (keep_of_own (own_next O.out ((Keep.refl _ _).alloc _)) hgrow) (Nat.le_refl _))
      clear hown hgrow O A c0
      go_wp2_with fail
      go_roundw
      case rel =>
        refine ⟨k + 1, by go_num, by omega, ?_, A1.out⟩
        rw [row_snoc L k (by rw [HLen.out]; omega), List.map_take]
        exact O1.out
      case measure => simp [intOf]; omega
    · obtain rfl : k = 8 := by omega
      have c8 := A.some (CL.out 8 (by decide)) (fun x => x)
      have c9 := A.some (CL.out 9 (by decide)) (fun x => x)
      have A := Lib.hid A
      have O := Lib.hid O
      go_wp2_with (at_builtin; refine wpList_append_own _ rfl (.tmp 16) (.tmp 21) 37 rfl W.heap.size 23 i0 (.int .u32 0) 1 4 Try.underlying37 HI.out HZ0.out HZ1.out HZ2.out rfl (by decide) u3 8 _ rfl (own_next O.out ((Keep.refl _ _).alloc _)) ⟨wr.heap.size, 0, none⟩ 2 2 [.int .u32 (ix L 8), .int .u32 (ix L 9)] rfl rfl ?c1 ?c2 ?c3 ?c4 ?c5 ?_)
      case c1 => intro j u hu; rw [Addr.add_mid, Nat.zero_add]; exact new_at _ _ _ j u hu
      case c2 => simp [Value.oneCell']
      case c3 => decide
      case c4 => decide
      case c5 => exact Nat.le_trans A.out.size (by simp)
      intro v' w1 hown hgrow _
      have A1 := Lib.hid ((A.out.alloc _).own_into (keep_of_own (own_next O.out ((Keep.refl _ _).alloc _)) hgrow) (Nat.le_refl _))
      obtain ⟨g, cap, rfl⟩ := Joins.ownsRow_form hown (by decide)
      have R := Lib.hid (rowIs_of_owns (n := 10) (l := L) HLen.out (by decide) (by rw [← row_ten L HLen.out, List.map_take]; exact hown))
      clear hown hgrow O A c8 c9
      go_wp2_with fail
      go_ret
      exact ⟨_, rfl, R.out.mono (by rw [hs.out]; omega), K.out.then A1.out⟩
def RefOI (w : World) (b : Nat) (l : List Int) (i : Value) (wr : World) : Prop :=
  ∃ k : Nat, i = .int .i64 k ∧ k ≤ 8 ∧ Ten wr b (upto l k) ∧ Ten wr w.heap.size (upto l 0) ∧ Keep nob w wr
set_option maxHeartbeats 800000 in
theorem refof_yes (v : Value) (l : List Int) (w : World) (h : WordsAt w v l) (hl : l.length = 10) :
    Calls Try.prog 52 #[v] w fun r w' => r = .returned (.tuple #[(trapOf l).val, .int .i64 0]) ∧ Keep nob w w' := by
  obtain ⟨a, cap, rfl, hc⟩ := h
  obtain ⟨g, o, rfl, hg⟩ := hc (by intro e; rw [e] at hl; cases hl)
  have C := Lib.hid (show ∀ k, k < 10 → w.cell? ⟨g, o + k, none⟩ = some (.int .u32 (ix l k)) from fun k hk => hg k _ (by unfold ix; rw [List.getD_eq_getElem?_getD, List.getElem?_eq_getElem (by omega)]; rfl))
  rw [hl]
  clear hc hg hl
  obtain ⟨W, hW⟩ : ∃ W, W = (w.alloc (.cells #[.int .u32 0, .int .u32 0, .int .u32 0, .int .u32 0, .int .u32 0, .int .u32 0, .int .u32 0, .int .u32 0, .int .u32 0, .int .u32 0] 76)).alloc (.cells #[.int .u32 0, .int .u32 0, .int .u32 0, .int .u32 0, .int .u32 0, .int .u32 0, .int .u32 0, .int .u32 0, .int .u32 0, .int .u32 0] 76) := ⟨_, rfl⟩
  have HK : Hid (Keep nob w W) := by rw [hW]; exact ((Keep.refl _ _).alloc _).alloc _
  have HT0 : Hid (Ten W w.heap.size (upto l 0)) := by rw [hW, upto_zero]; exact (Ten.new w _).keep (S := nob) ((Keep.refl _ _).alloc _) (fun x => x)
  have HT : Hid (Ten W (w.heap.size + 1) (upto l 0)) := by
    rw [hW, upto_zero]
    have := Ten.new (w.alloc (.cells Trap.zero.cells 76)) 76
    rw [World.size_alloc] at this
    exact this
  go_enter Try.func52, Try.ntmps52
  go_wp2_with fail
  rw [← hW]
  clear hW
  go_loopw [5] (fun i wr => RefOI w (w.heap.size + 1) l i wr) (fun i _ => (8 - intOf i).toNat)
  case atStart => exact ⟨0, rfl, by decide, HT.out, HT0.out, HK.out⟩
  case round =>
    clear HT HT0 HK
    obtain ⟨k, rfl, hk, T, T0, A⟩ := hrel
    have T := Lib.hid T
    have T0 := Lib.hid T0
    have A := Lib.hid A
    by_cases hlt : k < 8
    · have b1 : ((k : Int) < 8) := by omega
      have g0 := A.out.some (C.out k (by omega)) (fun x => x)
      have c0 := (T.out k (by omega)).1
      have z0 := (T.out k (by omega)).2
      have tk : decide ((k : Int) < 10) = true := by simp; omega
      have tn : decide (k < 10) = true := by simp; omega
      go_wp2_with fail
      go_roundw
      case rel =>
        refine ⟨k + 1, by go_num, by omega, T.out.set (by omega) _ rfl, ?_, A.out.setCell _ (Or.inl (Nat.le_succ _))⟩
        exact T0.out.keep (S := only (w.heap.size + 1)) (Keep.setCell (Keep.refl _ _) (p := ⟨w.heap.size + 1, k, none⟩) (.int .u32 (ix l k)) (Or.inr rfl)) (by unfold only; omega)
      case measure => simp [intOf]; omega
    · obtain rfl : k = 8 := by omega
      clear hlt hk
      have g8 := A.out.some (C.out 8 (by decide)) (fun x => x)
      have g9 := A.out.some (C.out 9 (by decide)) (fun x => x)
      have d8 := (T.out 8 (by decide)).1
      have e8 := (T.out 8 (by decide)).2
      have d9 := (T.out 9 (by decide)).1
      have e9 := (T.out 9 (by decide)).2
      obtain ⟨W3, hW3⟩ : ∃ W3, W3 = (wr.setCell ⟨w.heap.size + 1, 8, none⟩ (.int .u32 (ix l 8))).setCell ⟨w.heap.size + 1, 9, none⟩ (.int .u32 (ix l 9)) := ⟨_, rfl⟩
      have T3 : Hid (Ten W3 (w.heap.size + 1) (upto l 10)) := by rw [hW3]; exact (T.out.set (k := 8) (by decide) _ rfl).set (k := 9) (by decide) _ rfl
      have T0 : Hid (Ten W3 w.heap.size (upto l 0)) := by
        rw [hW3]
        exact T0.out.keep (S := only (w.heap.size + 1)) (((Keep.refl _ _).store 8 _).store 9 _) (by unfold only; omega)
      have A : Hid (Keep nob w W3) := by rw [hW3]; exact (A.out.setCell _ (Or.inl (Nat.le_succ _))).setCell _ (Or.inl (Nat.le_succ _))
      have HW := Lib.hid hW3
      clear hW3
      go_upto_region 10 with (fail)
      rw [← HW.out]
      clear d8 e8 d9 e9 g8 g9 T
      have c0 := (T3.out 0 (by decide)).1
      have z0 := (T3.out 0 (by decide)).2
      have c1 := (T3.out 1 (by decide)).1
      have z1 := (T3.out 1 (by decide)).2
      have c2 := (T3.out 2 (by decide)).1
      have z2 := (T3.out 2 (by decide)).2
      have c3 := (T3.out 3 (by decide)).1
      have z3 := (T3.out 3 (by decide)).2
      have c4 := (T3.out 4 (by decide)).1
      have z4 := (T3.out 4 (by decide)).2
      have c5 := (T3.out 5 (by decide)).1
      have z5 := (T3.out 5 (by decide)).2
      have c6 := (T3.out 6 (by decide)).1
      have z6 := (T3.out 6 (by decide)).2
      have c7 := (T3.out 7 (by decide)).1
      have z7 := (T3.out 7 (by decide)).2
      have c8 := (T3.out 8 (by decide)).1
      have z8 := (T3.out 8 (by decide)).2
      have c9 := (T3.out 9 (by decide)).1
      have z9 := (T3.out 9 (by decide)).2
      have y0 := (T0.out 0 (by decide)).1
      have x0 := (T0.out 0 (by decide)).2
      have y1 := (T0.out 1 (by decide)).1
      have x1 := (T0.out 1 (by decide)).2
      have y2 := (T0.out 2 (by decide)).1
      have x2 := (T0.out 2 (by decide)).2
      have y3 := (T0.out 3 (by decide)).1
      have x3 := (T0.out 3 (by decide)).2
      have y4 := (T0.out 4 (by decide)).1
      have x4 := (T0.out 4 (by decide)).2
      have y5 := (T0.out 5 (by decide)).1
      have x5 := (T0.out 5 (by decide)).2
      have y6 := (T0.out 6 (by decide)).1
      have x6 := (T0.out 6 (by decide)).2
      have y7 := (T0.out 7 (by decide)).1
      have x7 := (T0.out 7 (by decide)).2
      have y8 := (T0.out 8 (by decide)).1
      have x8 := (T0.out 8 (by decide)).2
      have y9 := (T0.out 9 (by decide)).1
      have x9 := (T0.out 9 (by decide)).2
      have hup : ∀ j, j < 10 → upto l 10 j = ix l j := fun j hj => by unfold upto; rw [if_pos hj]
      rw [hup _ (by decide)] at c0 c1 c2 c3 c4 c5 c6 c7 c8 c9
      clear hup T3 T0
      go_wp2_with fail
      refine bodyPost_ret (v := .tuple #[(trapOf l).val, .int .i64 0]) (by unfold trapOf Trap.val Trap.cells; rw [results_cell_tmp rfl]; go_simp) rfl ⟨rfl, ?_⟩
      repeat (refine Keep.setCell ?_ _ (Or.inl (Nat.le_refl _)))
      exact A.out
theorem refof_no (v : Value) (l : List Int) (w : World) (h : WordsAt w v l) (hl : l.length ≠ 10) :
    Calls Try.prog 52 #[v] w fun r w' => r = .returned (.tuple #[Trap.zero.val, .int .i64 2]) ∧ Keep nob w w' := by
  obtain ⟨a, cap, rfl, hc⟩ := h
  have t1 : ((l.length : Int) != 10) = true := by simp; omega
  have t2 : (l.length != 10) = true := by simpa using hl
  clear hc hl
  go_enter Try.func52, Try.ntmps52
  go_wp2_with fail
  refine bodyPost_ret (v := .tuple #[Trap.zero.val, .int .i64 2]) (by unfold Trap.zero Trap.val Trap.cells; rw [results_cell_tmp rfl]; go_simp) rfl ⟨rfl, ?_⟩
  first
    | exact ((Keep.refl _ _).alloc _).alloc _
    | (repeat (refine Keep.setCell ?_ _ (Or.inl (Nat.le_refl _))))
      exact ((Keep.refl _ _).alloc _).alloc _
theorem refof_ok (v : Value) (l : List Int) (w : World) (h : WordsAt w v l) :
    Calls Try.prog 52 #[v] w fun r w' => r = .returned (.tuple #[(ofT l).val, .int .i64 (ofE l)]) ∧ Keep nob w w' := by
  unfold ofT ofE
  by_cases hl : l.length = 10
  · rw [if_pos hl, if_pos hl]
    exact refof_yes v l w h hl
  · rw [if_neg hl, if_neg hl]
    exact refof_no v l w h hl
end Go.Proofs.Ytkkkmaigcnpmeaa
