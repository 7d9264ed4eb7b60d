/- Contracts of package trap: the cursor, and Of: what has ten words. -/
import Derived.Test.YtkkkmaigcnpmeaaTrap
namespace Go.Proofs.Ytkkkmaigcnpmeaa
open Go.RowKit
set_option linter.unusedVariables false
set_option maxRecDepth 100000
/-- The slice v holds the words l, and its capacity is no less. -/
def WordsC (w : World) (v : Value) (l : List Int) : Prop :=
  ∃ a cap, v = .slice a l.length cap ∧ l.length ≤ cap ∧ (l ≠ [] → ∃ g o, a = some ⟨g, o, none⟩ ∧ ∀ k x, l[k]? = some x → w.cell? ⟨g, o + k, none⟩ = some (.int .u32 x))
theorem WordsC.next {w w' : World} {v : Value} {l : List Int} (h : WordsC w v l) (k : Keep nob w w') : WordsC w' v l := by
  obtain ⟨a, cap, hv, hc, h⟩ := h
  exact ⟨a, cap, hv, hc, fun hl => let ⟨g, o, h1, h2⟩ := h hl; ⟨g, o, h1, fun j x hx => k.some (h2 j x hx) (fun x => x)⟩⟩
theorem WordsC.words {w : World} {v : Value} {l : List Int} (h : WordsC w v l) : WordsAt w v l := by
  obtain ⟨a, cap, hv, hc, h⟩ := h
  exact ⟨a, cap, hv, h⟩
theorem RowIs.wordsC {base n : Nat} {w : World} {v : Value} {l : List Int} (h : RowIs base w v n l) : WordsC w v l := by
  obtain ⟨a, cap', hv, h2⟩ := h.words
  obtain ⟨g, cap, cur, h1, _, h3, h4, h5, h6, h7, h8⟩ := h
  rw [h1] at hv
  injection hv with e1 e2 e3
  exact ⟨a, cap', by rw [h1, e1, e2, e3], by omega, h2⟩

/-- The k-th number of a list, 0 where there is none. -/
def ix (l : List Int) (k : Nat) : Int := l.getD k 0
/-- A cursor at pc that has n words left. -/
structure CurAt (w : World) (pc g o n cap : Nat) : Prop where
  cell : w.cell? ⟨pc, 0, none⟩ = some (.slice (some ⟨g, o, none⟩) n cap)
  free : w.frozen? ⟨pc, 0, none⟩ = false
theorem CurAt.keep {w w' : World} {pc g o n cap : Nat} {S : Nat → Prop} (h : CurAt w pc g o n cap) (k : Keep S w w') (hs : ¬ S pc) : CurAt w' pc g o n cap :=
  ⟨k.some h.cell hs, by rw [k.frozen (World.block_lt_of_cell? _ _ h.cell) hs]; exact h.free⟩
theorem next_more (pc g o n cap : Nat) (x : Int) (w : World) (h : CurAt w pc g o n cap) (hx : w.cell? ⟨g, o, none⟩ = some (.int .u32 x)) (h1 : 1 < cap) (hn : 1 ≤ n) (hc : n ≤ cap) :
    Calls Try.prog 79 #[.pointer (some ⟨pc, 0, none⟩)] w fun r w' => r = .returned (.int .u32 x) ∧ CurAt w' pc g (o + 1) (n - 1) (cap - 1) ∧ Keep (only pc) w w' := by
  have c0 := h.cell
  have z0 := h.free
  have t1 : decide (n < 1) = false := by simp; omega
  have t3 : (decide (0 < n)) = true := by simp; omega
  have t2 : ¬ (cap = 1) := by omega
  have HF := Lib.hid h
  clear h
  go_enter Try.func79, Try.ntmps79
  go_wp2
  go_ret
  refine ⟨rfl, ?_, ?_⟩
  · exact ⟨setCell_eq c0, by rw [frozen_setCell]; exact z0⟩
  · exact Keep.setCell (Keep.refl _ _) _ (Or.inr rfl)
theorem next_last (pc g o : Nat) (x : Int) (w : World) (h : CurAt w pc g o 1 1) (hx : w.cell? ⟨g, o, none⟩ = some (.int .u32 x)) :
    Calls Try.prog 79 #[.pointer (some ⟨pc, 0, none⟩)] w fun r w' => r = .returned (.int .u32 x) ∧ Keep (only pc) w w' := by
  have c0 := h.cell
  have z0 := h.free
  have HF := Lib.hid h
  clear h
  go_enter Try.func79, Try.ntmps79
  go_wp2
  go_ret
  exact ⟨rfl, Keep.setCell (Keep.refl _ _) _ (Or.inr rfl)⟩
def CurNext (w : World) (pc g o n cap : Nat) : Prop := 1 < n → CurAt w pc g o (n - 1) (cap - 1)
theorem next_any (pc g o n cap : Nat) (x : Int) (w : World) (h : CurAt w pc g o n cap) (hx : w.cell? ⟨g, o, none⟩ = some (.int .u32 x)) (hn : 1 ≤ n) (hc : n ≤ cap) :
    Calls Try.prog 79 #[.pointer (some ⟨pc, 0, none⟩)] w fun r w' => r = .returned (.int .u32 x) ∧ CurNext w' pc g (o + 1) n cap ∧ Keep (only pc) w w' := by
  by_cases h1 : 1 < cap
  · exact (next_more pc g o n cap x w h hx h1 hn hc).mono (fun r w' q => ⟨q.1, fun _ => q.2.1, q.2.2⟩)
  · obtain rfl : cap = 1 := by omega
    obtain rfl : n = 1 := by omega
    exact (next_last pc g o x w h hx).mono (fun r w' q => ⟨q.1, fun h => absurd h (by omega), q.2⟩)
/-- Ten words that lie in block b. -/
def Ten (w : World) (b : Nat) (d : Nat → Int) : Prop := ∀ j, j < 10 → w.cell? ⟨b, j, none⟩ = some (.int .u32 (d j)) ∧ w.frozen? ⟨b, j, none⟩ = false
theorem Ten.keep {w w' : World} {b : Nat} {d : Nat → Int} {S : Nat → Prop} (h : Ten w b d) (k : Keep S w w') (hs : ¬ S b) : Ten w' b d :=
  fun j hj => ⟨k.some (h j hj).1 hs, by rw [k.frozen (World.block_lt_of_cell? _ _ (h j hj).1) hs]; exact (h j hj).2⟩
def upto (l : List Int) (k : Nat) : Nat → Int := fun j => if j < k then ix l j else 0
theorem Ten.set {w : World} {b : Nat} {l : List Int} {k : Nat} (h : Ten w b (upto l k)) (hk : k < 10) (x : Int) (hx : ix l k = x) : Ten (w.setCell ⟨b, k, none⟩ (.int .u32 x)) b (upto l (k + 1)) := by
  intro j hj
  refine ⟨?_, by rw [frozen_setCell]; exact (h j hj).2⟩
  by_cases e : j = k
  · subst e
    rw [setCell_eq (h j hj).1]
    unfold upto
    rw [if_pos (Nat.lt_succ_self _), hx]
  · rw [setCell_off (Ne.symm e), (h j hj).1]
    unfold upto
    by_cases q : j < k
    · rw [if_pos q, if_pos (by omega)]
    · rw [if_neg q, if_neg (by omega)]
theorem Ten.new (w : World) (t : TypeId) : Ten (w.alloc (.cells Trap.zero.cells t)) w.heap.size (upto [] 0) := by
  intro j hj
  refine ⟨new_at _ _ _ j _ ?_, ?_⟩
  · unfold upto
    rw [if_neg (Nat.not_lt_zero _)]
    rcases j with _ | _ | _ | _ | _ | _ | _ | _ | _ | _ | j <;> first | rfl | omega
  · exact new_free _ _ _ _
theorem upto_zero (l : List Int) : upto l 0 = upto [] 0 := by
  funext j
  unfold upto
  rw [if_neg (Nat.not_lt_zero _), if_neg (Nat.not_lt_zero _)]
def trapOf (l : List Int) : Trap := ⟨ix l 0, ix l 1, ix l 2, ix l 3, ix l 4, ix l 5, ix l 6, ix l 7, ix l 8, ix l 9⟩
def OfI (w : World) (b pc g o cap : Nat) (l : List Int) (i : Value) (wr : World) : Prop :=
  ∃ k : Nat, i = .int .i64 k ∧ k ≤ 8 ∧ Ten wr b (upto l k) ∧ CurAt wr pc g (o + k) (10 - k) (cap - k) ∧ Keep nob w wr
set_option maxHeartbeats 800000 in
theorem of_yes (v : Value) (l : List Int) (w : World) (h : WordsC w v l) (hl : l.length = 10) :
    Calls Try.prog 51 #[v] w fun r w' => r = .returned (.tuple #[(trapOf l).val, .int .i64 0]) ∧ Keep nob w w' := by
  obtain ⟨a, cap, rfl, hcap, hc⟩ := h
  obtain ⟨g, o, rfl, hg⟩ := hc (by intro e; rw [e] at hl; cases hl)
  have C := Lib.hid (show ∀ k, k < 10 → w.cell? ⟨g, o + k, none⟩ = some (.int .u32 (ix l k)) from fun k hk => hg k _ (by unfold ix; rw [List.getD_eq_getElem?_getD, List.getElem?_eq_getElem (by omega)]; rfl))
  rw [hl]
  rw [hl] at hcap
  have HC := Lib.hid hcap
  clear hc hg hl hcap
  have hg0 := World.block_lt_of_cell? _ _ (C.out 0 (by decide))
  obtain ⟨W, hW⟩ : ∃ W, W = (w.alloc (.cells #[.int .u32 0, .int .u32 0, .int .u32 0, .int .u32 0, .int .u32 0, .int .u32 0, .int .u32 0, .int .u32 0, .int .u32 0, .int .u32 0] 76)).alloc (.cells #[.slice (some ⟨g, o, none⟩) 10 cap] 120) := ⟨_, rfl⟩
  have HK : Hid (Keep nob w W) := by rw [hW]; exact ((Keep.refl _ _).alloc _).alloc _
  have HT : Hid (Ten W w.heap.size (upto l 0)) := by rw [hW, upto_zero]; exact (Ten.new w _).keep (S := nob) ((Keep.refl _ _).alloc _) (fun x => x)
  have HC0 : Hid (CurAt W (w.heap.size + 1) g o 10 cap) := by
    rw [hW]
    refine ⟨by rw [show w.heap.size + 1 = (w.alloc (.cells #[.int .u32 0, .int .u32 0, .int .u32 0, .int .u32 0, .int .u32 0, .int .u32 0, .int .u32 0, .int .u32 0, .int .u32 0, .int .u32 0] 76)).heap.size from (World.size_alloc _ _).symm]; exact new_at _ _ _ 0 _ rfl, ?_⟩
    rw [show w.heap.size + 1 = (w.alloc (.cells #[.int .u32 0, .int .u32 0, .int .u32 0, .int .u32 0, .int .u32 0, .int .u32 0, .int .u32 0, .int .u32 0, .int .u32 0, .int .u32 0] 76)).heap.size from (World.size_alloc _ _).symm]
    simp only [World.frozen?, World.alloc, Array.getElem?_push_size]
    rw [Bool.and_eq_false_iff]
    right
    exact decide_eq_false (by omega)
  have hg1 := Lib.hid (show g ≠ w.heap.size + 1 by have : g < w.heap.size := hg0; omega)
  clear hg0
  go_enter Try.func51, Try.ntmps51
  go_wp2_with fail
  rw [← hW]
  clear hW
  go_loopw [16] (fun i wr => OfI w w.heap.size (w.heap.size + 1) g o cap l i wr) (fun i _ => (8 - intOf i).toNat)
  case atStart => exact ⟨0, rfl, by decide, HT.out, HC0.out, HK.out⟩
  case round =>
    clear HT HC0 HK
    obtain ⟨k, rfl, hk, T, C1, A⟩ := hrel
    have T := Lib.hid T
    have C1 := Lib.hid C1
    have A := Lib.hid A
    by_cases hlt : k < 8
    · have b1 : ((k : Int) < 8) := by omega
      go_wp2_with fail
      refine Calls.mono (next_any _ g (o + k) (10 - k) (cap - k) (ix l k) _ C1.out (A.out.some (C.out k (by omega)) (fun x => x)) (by omega) (by have := HC.out; omega)) ?_
      rintro r w2 ⟨rfl, C2, K2⟩
      have T2 := T.out.keep K2 (by unfold only; omega)
      have A2 := Lib.hid (A.out.trans K2 (fun q hq e => by have e : q = w.heap.size + 1 := e; omega))
      have c0 := (T2 k (by omega)).1
      have z0 := (T2 k (by omega)).2
      have T2 := Lib.hid T2
      have C2 := Lib.hid (C2 (by omega))
      clear T C1 A K2
      go_wp2_with fail
      go_roundw
      case rel =>
        refine ⟨k + 1, by go_num, by omega, T2.out.set (by omega) _ rfl, ?_, A2.out.setCell _ (Or.inl (Nat.le_refl _))⟩
        have := C2.out.keep (S := only w.heap.size) (Keep.setCell (Keep.refl _ _) (p := ⟨w.heap.size, k, none⟩) (.int .u32 (ix l k)) (Or.inr rfl)) (by unfold only; omega)
        rw [show o + (k + 1) = o + k + 1 by omega, show 10 - (k + 1) = 10 - k - 1 by omega, show cap - (k + 1) = cap - k - 1 by omega]
        exact this
      case measure => simp [intOf]; omega
    · obtain rfl : k = 8 := by omega
      clear hlt hk
      go_wp2_with fail
      refine Calls.mono (next_any _ g (o + 8) 2 (cap - 8) (ix l 8) _ C1.out (A.out.some (C.out 8 (by decide)) (fun x => x)) (by decide) (by have := HC.out; omega)) ?_
      rintro r w2 ⟨rfl, C2, K2⟩
      have T2 := Lib.hid (T.out.keep K2 (by unfold only; omega))
      have A2 := Lib.hid (A.out.trans K2 (fun q hq e => by have e : q = w.heap.size + 1 := e; omega))
      have C2 := Lib.hid (C2 (by decide))
      clear T C1 A K2
      go_wp2_with fail
      refine Calls.mono (next_any _ g (o + 8 + 1) 1 (cap - 8 - 1) (ix l 9) _ C2.out (A2.out.some (C.out 9 (by decide)) (fun x => x)) (by decide) (by have := HC.out; omega)) ?_
      rintro r w3 ⟨rfl, _, K3⟩
      have T3 := Lib.hid (T2.out.keep K3 (by unfold only; omega))
      have A3 := Lib.hid (A2.out.trans K3 (fun q hq e => by have e : q = w.heap.size + 1 := e; omega))
      clear T2 C2 A2 K3
      obtain ⟨W4, hW4⟩ : ∃ W4, W4 = (w3.setCell ⟨w.heap.size, 8, none⟩ (.int .u32 (ix l 8))).setCell ⟨w.heap.size, 9, none⟩ (.int .u32 (ix l 9)) := ⟨_, rfl⟩
      have T4 : Hid (Ten W4 w.heap.size (upto l 10)) := by rw [hW4]; exact (T3.out.set (k := 8) (by decide) _ rfl).set (k := 9) (by decide) _ rfl
      have A4 : Hid (Keep nob w W4) := by rw [hW4]; exact (A3.out.setCell _ (Or.inl (Nat.le_refl _))).setCell _ (Or.inl (Nat.le_refl _))
      have HW := Lib.hid hW4
      clear hW4
      have d8 := (T3.out 8 (by decide)).1
      have e8 := (T3.out 8 (by decide)).2
      have d9 := (T3.out 9 (by decide)).1
      have e9 := (T3.out 9 (by decide)).2
      go_upto_region 11 with (fail)
      rw [← HW.out]
      clear d8 e8 d9 e9 T3 A3
      have c0 := (T4.out 0 (by decide)).1
      have z0 := (T4.out 0 (by decide)).2
      have c1 := (T4.out 1 (by decide)).1
      have z1 := (T4.out 1 (by decide)).2
      have c2 := (T4.out 2 (by decide)).1
      have z2 := (T4.out 2 (by decide)).2
      have c3 := (T4.out 3 (by decide)).1
      have z3 := (T4.out 3 (by decide)).2
      have c4 := (T4.out 4 (by decide)).1
      have z4 := (T4.out 4 (by decide)).2
      have c5 := (T4.out 5 (by decide)).1
      have z5 := (T4.out 5 (by decide)).2
      have c6 := (T4.out 6 (by decide)).1
      have z6 := (T4.out 6 (by decide)).2
      have c7 := (T4.out 7 (by decide)).1
      have z7 := (T4.out 7 (by decide)).2
      have c8 := (T4.out 8 (by decide)).1
      have z8 := (T4.out 8 (by decide)).2
      have c9 := (T4.out 9 (by decide)).1
      have z9 := (T4.out 9 (by decide)).2
      have hup : ∀ j, j < 10 → upto l 10 j = ix l j := fun j hj => by unfold upto; rw [if_pos hj]
      rw [hup _ (by decide)] at c0 c1 c2 c3 c4 c5 c6 c7 c8 c9
      clear hup T4
      go_wp2_with fail
      refine bodyPost_ret (v := .tuple #[(trapOf l).val, .int .i64 0]) (by unfold trapOf Trap.val Trap.cells; rw [results_cell_tmp rfl]; go_simp) rfl ⟨rfl, ?_⟩
      repeat (refine Keep.setCell ?_ _ (Or.inl (Nat.le_refl _)))
      exact A4.out
theorem of_no (v : Value) (l : List Int) (w : World) (h : WordsAt w v l) (hl : l.length ≠ 10) :
    Calls Try.prog 51 #[v] w fun r w' => r = .returned (.tuple #[Trap.zero.val, .int .i64 2]) ∧ Keep nob w w' := by
  obtain ⟨a, cap, rfl, hc⟩ := h
  have t1 : ((l.length : Int) != 10) = true := by simp; omega
  have t2 : (l.length != 10) = true := by simpa using hl
  clear hc hl
  go_enter Try.func51, Try.ntmps51
  go_wp2_with fail
  refine bodyPost_ret (v := .tuple #[Trap.zero.val, .int .i64 2]) (by unfold Trap.zero Trap.val Trap.cells; rw [results_cell_tmp rfl]; go_simp) rfl ⟨rfl, ?_⟩
  first
    | exact (Keep.refl _ _).alloc _
    | (repeat (refine Keep.setCell ?_ _ (Or.inl (Nat.le_refl _))))
      exact (Keep.refl _ _).alloc _
def ofT (l : List Int) : Trap := if l.length = 10 then trapOf l else Trap.zero
def ofE (l : List Int) : Int := if l.length = 10 then 0 else 2
theorem of_ok (v : Value) (l : List Int) (w : World) (h : WordsC w v l) :
    Calls Try.prog 51 #[v] w fun r w' => r = .returned (.tuple #[(ofT l).val, .int .i64 (ofE l)]) ∧ Keep nob w w' := by
  unfold ofT ofE
  by_cases hl : l.length = 10
  · rw [if_pos hl, if_pos hl]
    exact of_yes v l w h hl
  · rw [if_neg hl, if_neg hl]
    exact of_no v l w h.words hl
theorem ofT_list (t : Trap) : ofT t.list = t := by
  unfold ofT
  rw [if_pos t.list_len]
  rfl
theorem ofE_list (t : Trap) : ofE t.list = 0 := if_pos t.list_len
theorem list_of_trap (l : List Int) (h : l.length = 10) : (ofT l).list = l := by
  unfold ofT
  rw [if_pos h]
  match l, h with
  | [a0, a1, a2, a3, a4, a5, a6, a7, a8, a9], _ => rfl
end Go.Proofs.Ytkkkmaigcnpmeaa
