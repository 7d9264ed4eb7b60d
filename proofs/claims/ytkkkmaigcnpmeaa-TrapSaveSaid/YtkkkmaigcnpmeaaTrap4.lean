/- Contracts of package trap: asked, Save, Load. -/
import Derived.Test.YtkkkmaigcnpmeaaTrap3
namespace Go.Proofs.Ytkkkmaigcnpmeaa
open Go.RowKit
set_option linter.unusedVariables false
set_option maxRecDepth 100000
def inS (n : Nat) (f s : Int) : Prop := 0 ≤ f ∧ f < n ∧ 0 ≤ s ∧ s < 3
instance (n : Nat) (i j : Int) : Decidable (inS n i j) := by unfold inS; infer_instance
theorem asked_yes {w : World} {b f n : Nat} {c : Nat → Int} (M : MemAt w b f n c) (i s : Int) (h : inS n i s) :
    Calls Try.prog 81 #[.pointer (some ⟨b, 0, none⟩), .int .i64 i, .int .i64 s] w fun r w' => r = .returned (.int .i64 0) ∧ w = w' := by
  obtain ⟨h1, h2, h3, h4⟩ := h
  have lo := M.lo
  have hn : ¬ ((n : Int) = 0) := by omega
  have hn2 : ((n : Int) == 0) = false := by simp; omega
  have hn3 : (n == 0) = false := by simp; omega
  have t1 : decide (i < 0) = false := by simpa using h1
  have t2 : decide ((n : Int) ≤ i) = false := by simpa using h2
  have t3 : decide (s < 0) = false := by simpa using h3
  have t4 : decide (3 ≤ s) = false := by simpa using h4
  have HM := Lib.hid (frames_at M)
  clear M
  go_enter Try.func81, Try.ntmps81
  go_wp2_with fail
  refine Calls.mono HM.out ?_
  rintro r w1 ⟨rfl, rfl⟩
  go_wp2_with fail
  refine Calls.mono HM.out ?_
  rintro r w1 ⟨rfl, rfl⟩
  go_wp2_with fail
  go_ret
  exact ⟨rfl, rfl⟩
theorem asked_no {w : World} {b f n : Nat} {c : Nat → Int} (M : MemAt w b f n c) (i s : Int) (h : ¬ inS n i s) :
    Calls Try.prog 81 #[.pointer (some ⟨b, 0, none⟩), .int .i64 i, .int .i64 s] w fun r w' => r = .returned (.int .i64 2) ∧ w = w' := by
  have lo := M.lo
  have hn2 : ((n : Int) == 0) = false := by simp; omega
  have hn3 : (n == 0) = false := by simp; omega
  have HM := Lib.hid (frames_at M)
  obtain ⟨T1, t1⟩ : ∃ T, decide (i < 0) = T := ⟨_, rfl⟩
  obtain ⟨T2, t2⟩ : ∃ T, decide ((n : Int) ≤ i) = T := ⟨_, rfl⟩
  obtain ⟨T3, t3⟩ : ∃ T, decide (s < 0) = T := ⟨_, rfl⟩
  obtain ⟨T4, t4⟩ : ∃ T, decide (3 ≤ s) = T := ⟨_, rfl⟩
  have HT : (T1 || (T2 || (T3 || T4))) = true := by
    rw [← t1, ← t2, ← t3, ← t4]
    simp only [Bool.or_eq_true, decide_eq_true_eq]
    unfold inS at h
    omega
  clear M h
  go_enter Try.func81, Try.ntmps81
  go_wp2_with fail
  refine Calls.mono HM.out ?_
  rintro r w1 ⟨rfl, rfl⟩
  go_wp2_with (refine Calls.mono HM.out ?_; rintro r w1 ⟨rfl, rfl⟩)
  all_goals first
    | (go_ret; exact ⟨rfl, rfl⟩)
    | (exfalso; simp_all; done)
theorem asked_none {w : World} {v : Value} (h : NoMem w v) (i s : Int) :
    Calls Try.prog 81 #[v, .int .i64 i, .int .i64 s] w fun r w' => r = .returned (.int .i64 1) ∧ w = w' := by
  have HM := Lib.hid (frames_none h)
  clear h
  go_enter Try.func81, Try.ntmps81
  go_wp2_with fail
  refine Calls.mono HM.out ?_
  rintro r w1 ⟨rfl, rfl⟩
  go_wp2_with fail
  go_ret
  exact ⟨rfl, rfl⟩

/-! ### Save -/
/-- From place o on the first k words of l; elsewhere c. -/
def span (c : Nat → Int) (o : Nat) (l : List Int) (k : Nat) : Nat → Int := fun q => if o ≤ q ∧ q < o + k then ix l (q - o) else c q
theorem span_zero (c : Nat → Int) (o : Nat) (l : List Int) : span c o l 0 = c := by
  funext q
  unfold span
  rw [if_neg (by omega)]
theorem span_succ (c : Nat → Int) (o : Nat) (l : List Int) (k : Nat) : upd (span c o l k) (o + k) (ix l k) = span c o l (k + 1) := by
  funext q
  unfold upd span
  by_cases h : q = o + k
  · subst h
    rw [if_pos rfl, if_pos ⟨by omega, by omega⟩, show o + k - o = k by omega]
  · rw [if_neg h]
    by_cases h2 : o ≤ q ∧ q < o + k
    · rw [if_pos h2, if_pos ⟨h2.1, by omega⟩]
    · rw [if_neg h2, if_neg (by omega)]
def Trap.fine (t : Trap) : Prop := ∀ x ∈ t.list, 0 ≤ x ∧ x < 4294967296
theorem Trap.fine_ix {t : Trap} (h : t.fine) (k : Nat) (hk : k < 10) : 0 ≤ ix t.list k ∧ ix t.list k < 4294967296 := by
  refine h _ ?_
  unfold ix
  rw [List.getD_eq_getElem?_getD, List.getElem?_eq_getElem (by rw [t.list_len]; exact hk)]
  exact List.getElem_mem _
def SaveI (W : World) (b f n o base : Nat) (c : Nat → Int) (L : List Int) (v i : Value) (wr : World) : Prop :=
  ∃ k : Nat, i = .int .i64 k ∧ k ≤ 10 ∧ MemAt wr b f n (span c o L k) ∧ RowIs base wr v 10 L ∧ Keep (only f) W wr
set_option maxHeartbeats 800000 in
theorem save_in {w : World} {b f n : Nat} {c : Nat → Int} (M : MemAt w b f n c) (i s : Int) (t : Trap) (ht : t.fine) (h : inS n i s) :
    Calls Try.prog 56 #[.pointer (some ⟨b, 0, none⟩), .int .i64 i, .int .i64 s, t.val] w
      fun r w' => r = .returned (.int .i64 0) ∧ MemAt w' b f n (span c (i.toNat * 32 + s.toNat * 10) t.list 10) ∧ Keep (only f) w w' := by
  obtain ⟨W, hW⟩ : ∃ W, W = w.alloc (.cells t.cells 76) := ⟨_, rfl⟩
  have C : Hid (∀ j u, t.cells.toList[j]? = some u → W.cell? ⟨w.heap.size, j, none⟩ = some u) := by rw [hW]; exact fun j u => new_at _ _ _ j u
  have K : Hid (Keep nob w W) := by rw [hW]; exact (Keep.refl _ _).alloc _
  have hs : Hid (W.heap.size = w.heap.size + 1) := by rw [hW]; exact World.size_alloc _ _
  have hfl := Lib.hid M.flt
  have MW := Lib.hid (M.next K.out)
  have WK := Lib.hid (fun W1 => words_ok t W1)
  have HF := Lib.hid ht
  have AY := Lib.hid (asked_yes MW.out i s h)
  have HS := Lib.hid h
  obtain ⟨L, hL⟩ : ∃ L, L = t.list := ⟨_, rfl⟩
  have HL := Lib.hid hL
  rw [← hL] at WK ⊢
  have hfx : Hid (∀ k, k < 10 → 0 ≤ ix L k ∧ ix L k < 4294967296) := by rw [hL]; exact Lib.hid (fun k hk => Trap.fine_ix ht k hk)
  clear M ht h HF
  obtain ⟨x0, x1, x2, x3, x4, x5, x6, x7, x8, x9⟩ := t
  clear hL
  have c0 := C.out 0 _ rfl
  have c1 := C.out 1 _ rfl
  have c2 := C.out 2 _ rfl
  have c3 := C.out 3 _ rfl
  have c4 := C.out 4 _ rfl
  have c5 := C.out 5 _ rfl
  have c6 := C.out 6 _ rfl
  have c7 := C.out 7 _ rfl
  have c8 := C.out 8 _ rfl
  have c9 := C.out 9 _ rfl
  unfold Trap.val Trap.cells at *
  clear C
  go_enter Try.func56, Try.ntmps56
  go_wp2_with fail
  rw [← hW]
  clear hW
  refine Calls.mono AY.out ?_
  rintro r w1 ⟨rfl, rfl⟩
  clear AY
  go_wp2_with fail
  refine Calls.mono (WK.out _) ?_
  rintro r w1 ⟨v, rfl, R, K1⟩
  clear c0 c1 c2 c3 c4 c5 c6 c7 c8 c9 WK
  obtain ⟨g, cap, rfl⟩ := R.form
  have R := Lib.hid R
  have MW := Lib.hid (MW.out.next K1)
  have K1 := Lib.hid K1
  go_wp2_with fail
  obtain ⟨i0, i1, s0, s1⟩ := HS.out
  have hb0 := Lib.hid (show f < w1.heap.size by have := hfl.out; have := hs.out; have := K1.out.size; omega)
  have hw0 := Lib.hid (show f < W.heap.size by have := hfl.out; have := hs.out; omega)
  go_loopw [22] (fun i' wr => SaveI w1 b f n (i.toNat * 32 + s.toNat * 10) W.heap.size c L (.slice (some ⟨g, 0, none⟩) 10 cap) i' wr) (fun i _ => (10 - intOf i).toNat)
  case atStart => exact ⟨0, rfl, by decide, by rw [span_zero]; exact MW.out, R.out, Keep.refl _ _⟩
  case round =>
    clear MW R
    obtain ⟨k, rfl, hk, M, R, A⟩ := hrel
    by_cases hlt : k < 10
    · have b1 : ((k : Int) < 10) := by omega
      have g0 := (R.cell k (ix L k) (by
        have : L.length = 10 := by rw [HL.out]; rfl
        unfold ix; rw [List.getD_eq_getElem?_getD, List.getElem?_eq_getElem (by omega)]; rfl)).1
      have hx := hfx.out k hlt
      have WR := Lib.hid (write_in M i (s * 10 + k) (ix L k) i0 i1 (by omega) (by omega) hx)
      have R := Lib.hid R
      have A := Lib.hid A
      have e1 : Hid (upd (span c (i.toNat * 32 + s.toNat * 10) L k) (i.toNat * 32 + (s * 10 + k).toNat) (ix L k) = span c (i.toNat * 32 + s.toNat * 10) L (k + 1)) := by
        rw [show i.toNat * 32 + (s * 10 + k).toNat = i.toNat * 32 + s.toNat * 10 + k by omega, span_succ]
        exact Lib.hid rfl
      clear M
      go_wp2_with fail
      refine Calls.mono WR.out ?_
      rintro r w2 ⟨rfl, M2, K2⟩
      rw [e1.out] at M2
      have R2 := Lib.hid (R.out.write K2 hw0.out)
      have A2 := Lib.hid (A.out.trans K2 (fun _ _ e => e))
      have M2 := Lib.hid M2
      clear WR K2 A R g0
      go_wp2_with fail
      go_roundw
      case rel => exact ⟨k + 1, by go_num, by omega, M2.out, R2.out, A2.out⟩
      case measure => simp [intOf]; omega
    · obtain rfl : k = 10 := by omega
      have M := Lib.hid M
      have A := Lib.hid A
      clear R hlt hk
      go_wp2_with fail
      go_ret
      exact ⟨rfl, M.out, (K.out.then K1.out).nob.trans A.out (fun _ _ e => e)⟩
theorem save_out {w : World} {b f n : Nat} {c : Nat → Int} (M : MemAt w b f n c) (i s : Int) (t : Trap) (h : ¬ inS n i s) :
    Calls Try.prog 56 #[.pointer (some ⟨b, 0, none⟩), .int .i64 i, .int .i64 s, t.val] w fun r w' => r = .returned (.int .i64 2) ∧ Keep nob w w' := by
  have AY := Lib.hid (fun o => asked_no (M.next (Keep.alloc (Keep.refl _ w) o)) i s h)
  clear M h
  obtain ⟨x0, x1, x2, x3, x4, x5, x6, x7, x8, x9⟩ := t
  unfold Trap.val Trap.cells at *
  go_enter Try.func56, Try.ntmps56
  go_wp2_with fail
  refine Calls.mono (AY.out _) ?_
  rintro r w1 ⟨rfl, rfl⟩
  clear AY
  go_wp2_with fail
  go_ret
  exact ⟨rfl, (Keep.refl _ _).alloc _⟩
theorem save_none {w : World} {v : Value} (h : NoMem w v) (i s : Int) (t : Trap) :
    Calls Try.prog 56 #[v, .int .i64 i, .int .i64 s, t.val] w fun r w' => r = .returned (.int .i64 1) ∧ Keep nob w w' := by
  have AY := Lib.hid (fun o => asked_none (h.next (Keep.alloc (Keep.refl _ w) o)) i s)
  clear h
  obtain ⟨x0, x1, x2, x3, x4, x5, x6, x7, x8, x9⟩ := t
  unfold Trap.val Trap.cells at *
  go_enter Try.func56, Try.ntmps56
  go_wp2_with fail
  refine Calls.mono (AY.out _) ?_
  rintro r w1 ⟨rfl, rfl⟩
  clear AY
  go_wp2_with fail
  go_ret
  exact ⟨rfl, (Keep.refl _ _).alloc _⟩

/-! ### Load -/
theorem RowIs.cap {base n g cap : Nat} {w : World} {l : List Int} (h : RowIs base w (.slice (some ⟨g, 0, none⟩) n cap) n l) : n ≤ cap := by
  obtain ⟨g', cap', cur, h1, h2, h3, h4, _⟩ := h
  injection h1 with _ _ hc
  omega
def slotL (c : Nat → Int) (i s : Int) : List Int := ((words c i.toNat).drop (s.toNat * 10)).take 10
theorem slotL_len (c : Nat → Int) (i s : Int) (h : s < 3) : (slotL c i s).length = 10 := by
  unfold slotL
  rw [List.length_take, List.length_drop, words_len]
  omega
theorem load_out {w : World} {b f n : Nat} {c : Nat → Int} (M : MemAt w b f n c) (i s : Int) (h : ¬ inS n i s) :
    Calls Try.prog 57 #[.pointer (some ⟨b, 0, none⟩), .int .i64 i, .int .i64 s] w fun r w' => r = .returned (.tuple #[Trap.zero.val, .int .i64 2]) ∧ Keep nob w w' := by
  have AY := Lib.hid (fun o => asked_no (M.next (Keep.alloc (Keep.refl _ w) o)) i s h)
  clear M h
  go_enter Try.func57, Try.ntmps57
  go_wp2_with fail
  refine Calls.mono (AY.out _) ?_
  rintro r w1 ⟨rfl, rfl⟩
  clear AY
  go_wp2_with fail
  refine bodyPost_ret (v := .tuple #[Trap.zero.val, .int .i64 2]) (by unfold Trap.zero Trap.val Trap.cells; rw [results_cell_tmp rfl]; go_simp) rfl ⟨rfl, ?_⟩
  first
    | exact (Keep.refl _ _).alloc _
    | (repeat (refine Keep.setCell ?_ _ (Or.inl (Nat.le_refl _))))
      exact (Keep.refl _ _).alloc _
theorem load_none {w : World} {v : Value} (h : NoMem w v) (i s : Int) :
    Calls Try.prog 57 #[v, .int .i64 i, .int .i64 s] w fun r w' => r = .returned (.tuple #[Trap.zero.val, .int .i64 1]) ∧ Keep nob w w' := by
  have AY := Lib.hid (fun o => asked_none (h.next (Keep.alloc (Keep.refl _ w) o)) i s)
  clear h
  go_enter Try.func57, Try.ntmps57
  go_wp2_with fail
  refine Calls.mono (AY.out _) ?_
  rintro r w1 ⟨rfl, rfl⟩
  clear AY
  go_wp2_with fail
  refine bodyPost_ret (v := .tuple #[Trap.zero.val, .int .i64 1]) (by unfold Trap.zero Trap.val Trap.cells; rw [results_cell_tmp rfl]; go_simp) rfl ⟨rfl, ?_⟩
  first
    | exact (Keep.refl _ _).alloc _
    | (repeat (refine Keep.setCell ?_ _ (Or.inl (Nat.le_refl _))))
      exact (Keep.refl _ _).alloc _
theorem slot_words {base g cap : Nat} {w : World} {c : Nat → Int} {i : Int} (h : RowIs base w (.slice (some ⟨g, 0, none⟩) 32 cap) 32 (words c i.toNat)) (s : Int) (s0 : 0 ≤ s) (s1 : s < 3) :
    WordsC w (.slice (some ⟨g, (s * 10).toNat, none⟩) ((s * 10 + 10).toNat - (s * 10).toNat) (cap - (s * 10).toNat)) (slotL c i s) := by
  have hc := h.cap
  refine ⟨_, _, by rw [slotL_len c i s s1, show (s * 10 + 10).toNat - (s * 10).toNat = 10 by omega], by rw [slotL_len c i s s1]; omega, fun _ => ⟨g, _, rfl, fun k x hx => ?_⟩⟩
  have hk : k < 10 := by have := (List.getElem?_eq_some_iff.1 hx).1; rwa [slotL_len c i s s1] at this
  refine (h.cell _ x ?_).1
  rw [← hx]
  unfold slotL
  rw [List.getElem?_take, if_pos hk, List.getElem?_drop, show s.toNat * 10 + k = (s * 10).toNat + k by omega]
set_option maxHeartbeats 800000 in
theorem load_in {w : World} {b f n : Nat} {c : Nat → Int} (M : MemAt w b f n c) (i s : Int) (h : inS n i s) :
    Calls Try.prog 57 #[.pointer (some ⟨b, 0, none⟩), .int .i64 i, .int .i64 s] w fun r w' => r = .returned (.tuple #[(ofT (slotL c i s)).val, .int .i64 0]) ∧ Keep nob w w' := by
  have AY := Lib.hid (fun o => asked_yes (M.next (Keep.alloc (Keep.refl _ w) o)) i s h)
  obtain ⟨i0, i1, s0, s1⟩ := h
  have PG := Lib.hid (fun o => page_in (M.next (Keep.alloc (Keep.refl _ w) o)) i i0 i1)
  have OK := Lib.hid (fun v w1 (h : WordsC w1 v (slotL c i s)) => of_ok v _ w1 h)
  have HE : Hid (ofE (slotL c i s) = 0) := Lib.hid (if_pos (slotL_len c i s s1))
  rw [HE.out] at OK
  obtain ⟨T, hT⟩ : ∃ T, T = ofT (slotL c i s) := ⟨_, rfl⟩
  rw [← hT] at OK ⊢
  clear hT HE M
  obtain ⟨x0, x1, x2, x3, x4, x5, x6, x7, x8, x9⟩ := T
  unfold Trap.val Trap.cells at *
  go_enter Try.func57, Try.ntmps57
  go_wp2_with fail
  refine Calls.mono (AY.out _) ?_
  rintro r w1 ⟨rfl, rfl⟩
  clear AY
  go_wp2_with fail
  refine Calls.mono (PG.out _) ?_
  rintro r w1 ⟨v, rfl, R, K1⟩
  clear PG
  obtain ⟨g, cap, rfl⟩ := R.form
  have hcap := R.cap
  have R := Lib.hid R
  go_wp2_with fail
  refine Calls.mono (OK.out _ _ (slot_words R.out s s0 s1)) ?_
  rintro r w2 ⟨rfl, K2⟩
  have K12 := Lib.hid (((Keep.alloc (Keep.refl nob w) _).then K1).then K2)
  have T2 := Lib.hid (((Ten.new w 76).keep K1 (fun x => x)).keep K2 (fun x => x))
  have y0 := (T2.out 0 (by decide)).1
  have z0 := (T2.out 0 (by decide)).2
  have y1 := (T2.out 1 (by decide)).1
  have z1 := (T2.out 1 (by decide)).2
  have y2 := (T2.out 2 (by decide)).1
  have z2 := (T2.out 2 (by decide)).2
  have y3 := (T2.out 3 (by decide)).1
  have z3 := (T2.out 3 (by decide)).2
  have y4 := (T2.out 4 (by decide)).1
  have z4 := (T2.out 4 (by decide)).2
  have y5 := (T2.out 5 (by decide)).1
  have z5 := (T2.out 5 (by decide)).2
  have y6 := (T2.out 6 (by decide)).1
  have z6 := (T2.out 6 (by decide)).2
  have y7 := (T2.out 7 (by decide)).1
  have z7 := (T2.out 7 (by decide)).2
  have y8 := (T2.out 8 (by decide)).1
  have z8 := (T2.out 8 (by decide)).2
  have y9 := (T2.out 9 (by decide)).1
  have z9 := (T2.out 9 (by decide)).2
  clear T2 K1 K2 R OK
  go_wp2_with fail
  refine bodyPost_ret (v := .tuple #[(.agg #[.int .u32 x0, .int .u32 x1, .int .u32 x2, .int .u32 x3, .int .u32 x4, .int .u32 x5, .int .u32 x6, .int .u32 x7, .int .u32 x8, .int .u32 x9]), .int .i64 0]) (by rw [results_cell_tmp rfl]; go_simp) rfl ⟨rfl, ?_⟩
  repeat (refine Keep.setCell ?_ _ (Or.inl (Nat.le_refl _)))
  exact K12.out
end Go.Proofs.Ytkkkmaigcnpmeaa
