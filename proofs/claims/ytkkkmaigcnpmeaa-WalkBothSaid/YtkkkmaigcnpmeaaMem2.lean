/- Contracts of package mem, second half: Write, Zero, Copy, Page, New, Frames. -/
import Derived.Test.YtkkkmaigcnpmeaaMem
namespace Go.Proofs.Ytkkkmaigcnpmeaa
open Go.RowKit
set_option linter.unusedVariables false
set_option maxRecDepth 100000

set_option maxHeartbeats 400000 in
theorem write_in {w : World} {b f n : Nat} {c : Nat → Int} (M : MemAt w b f n c) (i j v : Int) (hi0 : 0 ≤ i) (hi1 : i < n) (h0 : 0 ≤ j) (h1 : j < 32) (hv : 0 ≤ v ∧ v < 4294967296) :
    Calls Try.prog 30 #[.pointer (some ⟨b, 0, none⟩), .int .i64 i, .int .i64 j, .int .u32 v] w
      fun e w' => e = .returned (.int .i64 0) ∧ MemAt w' b f n (upd c (i.toNat * 32 + j.toNat) v) ∧ Keep (only f) w w' := by
  have hbs := M.blt
  have hfs := M.flt
  have hb1 : b < w.heap.size + 1 := by omega
  have hf1 : f < w.heap.size + 1 := by omega
  have hp := M.ptr
  have hx := M.cell (i.toNat * 32 + j.toNat) (by omega)
  have hz := M.free (i.toNat * 32 + j.toNat)
  have HK := Lib.hid (show i.toNat * 32 + j.toNat < n * 32 by omega)
  go_enter Try.func30, Try.ntmps30
  go_wp2_with fail
  refine Calls.mono (with_in 70 _ ?R b f n i j _ ent_write ?hc hi0 hi1 h0 h1 ?hcall) ?_
  case hcall => refine write1 (i.toNat * 32) (w.heap.size + 1) w.heap.size f j v (c (i.toNat * 32 + j.toNat)) _ ?_ ?_ h0 h1 ?_ ?_ <;> go_simp
  case hc => go_simp
  rintro e w' ⟨rfl, rfl⟩
  go_wp2
  go_ret
  refine ⟨rfl, ?_, ?_⟩
  · exact (M.set _ HK.out v hv).next (((Keep.refl _ _).alloc _).alloc _).drew
  · exact ((((Keep.refl (only f) _).setCell (p := ⟨f, i.toNat * 32 + j.toNat, none⟩) _ (Or.inr rfl)).alloc _).alloc _).drew
set_option maxHeartbeats 400000 in
theorem write_out {w : World} {b f n : Nat} {c : Nat → Int} (M : MemAt w b f n c) (i j v : Int) (h : ¬ (0 ≤ i ∧ i < n ∧ 0 ≤ j ∧ j < 32)) :
    Calls Try.prog 30 #[.pointer (some ⟨b, 0, none⟩), .int .i64 i, .int .i64 j, .int .u32 v] w
      fun e w' => e = .returned (.int .i64 2) ∧ Keep nob w w' := by
  have hbs := M.blt
  have hb1 : b < w.heap.size + 1 := by omega
  have hp := M.ptr
  have H := Lib.hid h
  clear h
  go_enter Try.func30, Try.ntmps30
  go_wp2_with fail
  refine Calls.mono (with_out 70 _ b f n i j _ ?hc H.out) ?_
  case hc => go_simp
  rintro e w' ⟨rfl, rfl⟩
  go_wp2
  go_ret
  exact ⟨rfl, ((Keep.refl _ _).alloc _).alloc _⟩
set_option maxHeartbeats 400000 in
theorem write_nil (w : World) (i j v : Int) :
    Calls Try.prog 30 #[.pointer none, .int .i64 i, .int .i64 j, .int .u32 v] w
      fun e w' => e = .returned (.int .i64 1) ∧ Keep nob w w' := by
  go_enter Try.func30, Try.ntmps30
  go_wp2_with fail
  refine Calls.mono (with_nil _ _ _ _) ?_
  rintro e w' ⟨rfl, rfl⟩
  go_wp2
  go_ret
  exact ⟨rfl, ((Keep.refl _ _).alloc _).alloc _⟩
set_option maxHeartbeats 400000 in
theorem write_zero (w : World) (b : Nat) (i j v : Int) (hp : w.cell? ⟨b, 0, none⟩ = some (.slice none 0 0)) :
    Calls Try.prog 30 #[.pointer (some ⟨b, 0, none⟩), .int .i64 i, .int .i64 j, .int .u32 v] w
      fun e w' => e = .returned (.int .i64 1) ∧ Keep nob w w' := by
  have hbs := World.block_lt_of_cell? _ _ hp
  have hb1 : b < w.heap.size + 1 := Nat.lt_succ_of_lt hbs
  go_enter Try.func30, Try.ntmps30
  go_wp2_with fail
  refine Calls.mono (with_zero b _ _ _ _ ?hc) ?_
  case hc => go_simp
  rintro e w' ⟨rfl, rfl⟩
  go_wp2
  go_ret
  exact ⟨rfl, ((Keep.refl _ _).alloc _).alloc _⟩

/-! ### Zero -/
set_option maxHeartbeats 400000 in
theorem zero_in {w : World} {b f n : Nat} {c : Nat → Int} (M : MemAt w b f n c) (i : Int) (hi0 : 0 ≤ i) (hi1 : i < n) :
    Calls Try.prog 36 #[.pointer (some ⟨b, 0, none⟩), .int .i64 i] w
      fun e w' => e = .returned (.int .i64 0) ∧ MemAt w' b f n (updRow c i.toNat fun _ => 0) ∧ Keep (only f) w w' := by
  have hp := M.ptr
  have HT := Lib.hid (M.there i.toNat (by omega))
  have HR := Lib.hid (M.setRow i.toNat (by omega) (fun _ => 0) (fun _ => by decide))
  go_enter Try.func36, Try.ntmps36
  go_wp2_with fail
  refine Calls.mono (with_in 75 _ ?R b f n i 0 _ ent_zero hp hi0 hi1 (by decide) (by decide) ?hcall) ?_
  case hcall => exact zero1 f (i.toNat * 32) _ HT.out
  rintro e w' ⟨rfl, rfl⟩
  go_wp2
  go_ret
  refine ⟨rfl, ?_, ?_⟩
  · exact HR.out
  · exact Keep.setCells _ _ _ _ (Keep.refl _ _) (Or.inr rfl)
set_option maxHeartbeats 400000 in
theorem zero_out {w : World} {b f n : Nat} {c : Nat → Int} (M : MemAt w b f n c) (i : Int) (h : ¬ (0 ≤ i ∧ i < n)) :
    Calls Try.prog 36 #[.pointer (some ⟨b, 0, none⟩), .int .i64 i] w
      fun e w' => e = .returned (.int .i64 2) ∧ Keep nob w w' := by
  have hp := M.ptr
  have H := Lib.hid h
  clear h
  go_enter Try.func36, Try.ntmps36
  go_wp2_with fail
  refine Calls.mono (with_out 75 _ b f n i 0 _ hp (fun h => H.out ⟨h.1, h.2.1⟩)) ?_
  rintro e w' ⟨rfl, rfl⟩
  go_wp2
  go_ret
  exact ⟨rfl, Keep.refl _ _⟩
theorem zero_nil (w : World) (i : Int) :
    Calls Try.prog 36 #[.pointer none, .int .i64 i] w fun e w' => e = .returned (.int .i64 1) ∧ Keep nob w w' := by
  go_enter Try.func36, Try.ntmps36
  go_wp2_with fail
  refine Calls.mono (with_nil _ _ _ _) ?_
  rintro e w' ⟨rfl, rfl⟩
  go_wp2
  go_ret
  exact ⟨rfl, Keep.refl _ _⟩
theorem zero_zero (w : World) (b : Nat) (i : Int) (hp : w.cell? ⟨b, 0, none⟩ = some (.slice none 0 0)) :
    Calls Try.prog 36 #[.pointer (some ⟨b, 0, none⟩), .int .i64 i] w fun e w' => e = .returned (.int .i64 1) ∧ Keep nob w w' := by
  go_enter Try.func36, Try.ntmps36
  go_wp2_with fail
  refine Calls.mono (with_zero b _ _ _ _ hp) ?_
  rintro e w' ⟨rfl, rfl⟩
  go_wp2
  go_ret
  exact ⟨rfl, Keep.refl _ _⟩

/-! ### Page -/
/-- v is a slice of n words of its own, that lie in a block from base on: the list l. -/
def RowIs (base : Nat) (w' : World) (v : Value) (n : Nat) (l : List Int) : Prop :=
  ∃ g cap cur, v = .slice (some ⟨g, 0, none⟩) n cap ∧ base ≤ g ∧ w'.heap[g]? = some (.cells cur 23 (0, 0)) ∧ n ≤ cap ∧ cap = cur.size ∧ cap ≤ maxLen ∧ cur.toList.take n = l.map (Value.int .u32) ∧ l.length = n
theorem RowIs.keep {base n : Nat} {w w' : World} {v : Value} {l : List Int} {S : Nat → Prop} (h : RowIs base w v n l) (k : Keep S w w') (hS : ∀ g, base ≤ g → ¬ S g) : RowIs base w' v n l := by
  obtain ⟨g, cap, cur, h1, h2, h3, h4⟩ := h
  exact ⟨g, cap, cur, h1, h2, (k.block g (Array.getElem?_eq_some_iff.1 h3).1 (hS g h2)).trans h3, h4⟩
theorem RowIs.next {base n : Nat} {w w' : World} {v : Value} {l : List Int} (h : RowIs base w v n l) (k : Keep nob w w') : RowIs base w' v n l := h.keep k (fun _ _ x => x)
theorem RowIs.mono {base base' n : Nat} {w : World} {v : Value} {l : List Int} (h : RowIs base w v n l) (hb : base' ≤ base) : RowIs base' w v n l := by
  obtain ⟨g, cap, cur, h1, h2, h3⟩ := h
  exact ⟨g, cap, cur, h1, Nat.le_trans hb h2, h3⟩
def words (c : Nat → Int) (i : Nat) : List Int := (List.range 32).map fun j => c (i * 32 + j)
theorem row_words (c : Nat → Int) (i : Nat) : row c i = (words c i).map (Value.int .u32) := by simp [row, words, Function.comp_def]
theorem rowIs_of_owns {base : Nat} {w' : World} {g cap : Nat} {n : Nat} {l : List Int} (hn : l.length = n) (hn0 : 0 < n) (h : w'.ownsRow base 23 1 (.slice (some ⟨g, 0, none⟩) n cap) n (l.map (Value.int .u32))) :
    RowIs base w' (.slice (some ⟨g, 0, none⟩) n cap) n l := by
  obtain ⟨_, h | ⟨g', cap', cur, h1, h2, h3, h4, h5, h6, h7⟩⟩ := h
  · omega
  · injection h1 with h1 _ h1c
    injection h1 with h1
    injection h1 with h1
    subst h1; subst h1c
    exact ⟨g, cap, cur, rfl, h2, h3, h4, by omega, h5, by simpa using h7, hn⟩
theorem page_in {w : World} {b f n : Nat} {c : Nat → Int} (M : MemAt w b f n c) (i : Int) (hi0 : 0 ≤ i) (hi1 : i < n) :
    Calls Try.prog 33 #[.pointer (some ⟨b, 0, none⟩), .int .i64 i] w
      fun e w' => ∃ v, e = .returned (.tuple #[v, .int .i64 0]) ∧ RowIs w.heap.size w' v 32 (words c i.toNat) ∧ Keep nob w w' := by
  have hbs := M.blt
  have hfs := M.flt
  have hb1 : b < w.heap.size + 1 := by omega
  have hp := M.ptr
  have HR := Lib.hid (M.range i.toNat (by omega))
  go_enter Try.func33, Try.ntmps33
  go_wp2_with fail
  refine Calls.mono (with_in 74 _ ?R b f n i 0 _ ent_page ?hc hi0 hi1 (by decide) (by decide) ?hcall) ?_
  case hcall => exact page1 f (i.toNat * 32) w.heap.size (row c i.toNat) (row_len _ _) (row_one _ _) _ ((M.next ((Keep.refl _ _).alloc (.cells #[.slice none 0 0] 37))).range _ (by omega)) (by go_simp) (by go_simp)
  case hc => go_simp
  rintro e w1 ⟨rfl, g, cap, h1, h2, h3, h4⟩
  have H2 := Lib.hid h2
  clear h2
  go_wp2
  refine bodyPost_ret (v := .tuple #[.slice (some ⟨g, 0, none⟩) 32 cap, .int .i64 0]) (by rw [results_cell_tmp rfl]; go_simp) rfl ⟨_, rfl, ?_, ?_⟩
  · have H := H2.out
    rw [row_words] at H
    have R := (rowIs_of_owns (by simp [words]) (by decide) H).keep (S := only w.heap.size) (Keep.setCell (Keep.refl _ _) (p := ⟨w.heap.size, 0, none⟩) (.slice (some ⟨g, 0, none⟩) 32 cap) (Or.inr rfl)) (fun k hk e => by
      simp only [World.size_alloc] at hk
      unfold only at e
      omega)
    exact R.mono (by simp)
  · have K : Keep (only w.heap.size) w w1 := Keep.trans (Keep.alloc (Keep.refl _ _) _) h4 (fun _ _ h => h)
    exact (K.setCell (p := ⟨w.heap.size, 0, none⟩) _ (Or.inr rfl)).mono (fun k hk e => by unfold only at e; omega)
theorem page_out {w : World} {b f n : Nat} {c : Nat → Int} (M : MemAt w b f n c) (i : Int) (h : ¬ (0 ≤ i ∧ i < n)) :
    Calls Try.prog 33 #[.pointer (some ⟨b, 0, none⟩), .int .i64 i] w
      fun e w' => e = .returned (.tuple #[.slice none 0 0, .int .i64 2]) ∧ Keep nob w w' := by
  have hbs := M.blt
  have hb1 : b < w.heap.size + 1 := by omega
  have hp := M.ptr
  have H := Lib.hid h
  clear h
  go_enter Try.func33, Try.ntmps33
  go_wp2_with fail
  refine Calls.mono (with_out 74 _ b f n i 0 _ ?hc (fun h => H.out ⟨h.1, h.2.1⟩)) ?_
  case hc => go_simp
  rintro e w1 ⟨rfl, rfl⟩
  go_wp2
  refine bodyPost_ret (v := .tuple #[.slice none 0 0, .int .i64 2]) (by rw [results_cell_tmp rfl]; go_simp) rfl ⟨rfl, ?_⟩
  exact Keep.alloc (Keep.refl _ _) _
theorem page_nil (w : World) (i : Int) :
    Calls Try.prog 33 #[.pointer none, .int .i64 i] w fun e w' => e = .returned (.tuple #[.slice none 0 0, .int .i64 1]) ∧ Keep nob w w' := by
  go_enter Try.func33, Try.ntmps33
  go_wp2_with fail
  refine Calls.mono (with_nil _ _ _ _) ?_
  rintro e w1 ⟨rfl, rfl⟩
  go_wp2
  refine bodyPost_ret (v := .tuple #[.slice none 0 0, .int .i64 1]) (by rw [results_cell_tmp rfl]; go_simp) rfl ⟨rfl, ?_⟩
  exact Keep.alloc (Keep.refl _ _) _
theorem page_zero (w : World) (b : Nat) (i : Int) (hp : w.cell? ⟨b, 0, none⟩ = some (.slice none 0 0)) :
    Calls Try.prog 33 #[.pointer (some ⟨b, 0, none⟩), .int .i64 i] w fun e w' => e = .returned (.tuple #[.slice none 0 0, .int .i64 1]) ∧ Keep nob w w' := by
  have hbs := World.block_lt_of_cell? _ _ hp
  go_enter Try.func33, Try.ntmps33
  go_wp2_with fail
  refine Calls.mono (with_zero b _ _ _ _ ?hc) ?_
  case hc => go_simp
  rintro e w1 ⟨rfl, rfl⟩
  go_wp2
  refine bodyPost_ret (v := .tuple #[.slice none 0 0, .int .i64 1]) (by rw [results_cell_tmp rfl]; go_simp) rfl ⟨rfl, ?_⟩
  exact Keep.alloc (Keep.refl _ _) _
/-! ### Copy -/
def zeroFrame : Array Value := #[.int .u32 0, .int .u32 0, .int .u32 0, .int .u32 0, .int .u32 0, .int .u32 0, .int .u32 0, .int .u32 0, .int .u32 0, .int .u32 0, .int .u32 0, .int .u32 0, .int .u32 0, .int .u32 0, .int .u32 0, .int .u32 0, .int .u32 0, .int .u32 0, .int .u32 0, .int .u32 0, .int .u32 0, .int .u32 0, .int .u32 0, .int .u32 0, .int .u32 0, .int .u32 0, .int .u32 0, .int .u32 0, .int .u32 0, .int .u32 0, .int .u32 0, .int .u32 0]
theorem there_new (w : World) (t : TypeId) : (w.alloc (.cells zeroFrame t)).there w.heap.size 0 32 := by
  intro j hj
  refine ⟨?_, ?_⟩
  · rw [World.cell?_alloc_new]
    have : zeroFrame[0 + j]?.isSome = true := by
      rw [Array.getElem?_eq_getElem (by simp [zeroFrame]; omega)]; rfl
    exact this
  · simp only [World.frozen?, World.alloc, Array.getElem?_push_size]
    rw [Bool.and_eq_false_iff]
    right
    exact decide_eq_false (by omega)
theorem copy_mid {W W1 : World} {b f n p i : Nat} {c : Nat → Int} (M : MemAt W b f n c) (hi : i < n) (hT : W.there p 0 32) (hb : b ≠ p) (hf : f ≠ p) (h : W1 = W.setCells p 0 (row c i)) :
    MemAt W1 b f n c ∧ W1.rangeAt p 0 (row c i) ∧ Keep (only p) W W1 := by
  have K : Keep (only p) W (W.setCells p 0 (row c i)) := Keep.setCells _ _ _ _ (Keep.refl _ _) (Or.inr rfl)
  subst h
  exact ⟨M.keep K hb hf, World.rangeAt_setCells_same _ _ _ _ (by rw [row_len]; exact hT), K⟩
set_option maxHeartbeats 800000 in
theorem copy_in {w : World} {b f n : Nat} {c : Nat → Int} (M : MemAt w b f n c) (t i : Int) (ht0 : 0 ≤ t) (ht1 : t < n) (hi0 : 0 ≤ i) (hi1 : i < n) :
    Calls Try.prog 31 #[.pointer (some ⟨b, 0, none⟩), .int .i64 t, .int .i64 i] w
      fun e w' => e = .returned (.int .i64 0) ∧ MemAt w' b f n (updRow c t.toNat fun k => c (i.toNat * 32 + k)) ∧ Keep (only f) w w' := by
  have hbs := M.blt
  have hfs := M.flt
  obtain ⟨W0, hW0⟩ : ∃ W0, W0 = w.alloc (.cells zeroFrame 112) := ⟨_, rfl⟩
  have K0 : Keep nob w W0 := by rw [hW0]; exact (Keep.refl _ _).alloc _
  have T0 : Hid (W0.there w.heap.size 0 32) := by rw [hW0]; exact there_new _ _
  have HW := Lib.hid hW0
  have HI := Lib.hid (show i.toNat < n by omega)
  have HT := Lib.hid (show t.toNat < n by omega)
  clear hW0
  have M0 := M.next K0
  have hne1 := Lib.hid (show b ≠ w.heap.size by omega)
  have hne2 := Lib.hid (show f ≠ w.heap.size by omega)
  have hp0 := M0.ptr
  go_enter Try.func31, Try.ntmps31
  go_wp2_with fail
  change Calls _ _ _ (w.alloc (.cells zeroFrame 112)) _
  rw [← HW.out]
  refine Calls.mono (with_in 71 _ ?R b f n i 0 _ ent_copy1 hp0 hi0 hi1 (by decide) (by decide) ?hcall) ?_
  case hcall => exact copy1 f (i.toNat * 32) w.heap.size (row c i.toNat) (row_len _ _) (row_one _ _) _ (M0.range _ HI.out) T0.out
  rintro e W1 ⟨rfl, h1⟩
  obtain ⟨M1, r1, K1⟩ := copy_mid M0 HI.out T0.out hne1.out hne2.out h1
  have R1 := Lib.hid r1
  have hp1 := M1.ptr
  clear h1 r1
  go_wp2_with fail
  refine Calls.mono (with_in 72 _ ?R2 b f n t 0 _ ent_copy2 hp1 ht0 ht1 (by decide) (by decide) ?hcall) ?_
  case hcall => exact copy2 f (t.toNat * 32) w.heap.size (row c i.toNat) (row_len _ _) (row_one _ _) _ R1.out (M1.there _ HT.out)
  rintro e W2 ⟨rfl, h2⟩
  have H2 := Lib.hid h2
  clear h2
  go_wp2
  go_ret
  refine ⟨rfl, ?_, ?_⟩
  · rw [H2.out]; exact M1.setRow _ HT.out (fun k => c (i.toNat * 32 + k)) (fun k => M.rng _)
  · have K2 : Keep (only f) W1 W2 := by rw [H2.out]; exact Keep.setCells _ _ _ _ (Keep.refl _ _) (Or.inr rfl)
    have K01 : Keep nob w W1 := (Keep.trans K0.nob K1 (fun _ _ h => h)).mono (fun k hk e => by unfold only at e; omega)
    exact K01.nob.trans K2 (fun _ _ h => h)
set_option maxHeartbeats 800000 in
theorem copy_out {w : World} {b f n : Nat} {c : Nat → Int} (M : MemAt w b f n c) (t i : Int) (h : ¬ (0 ≤ t ∧ t < n ∧ 0 ≤ i ∧ i < n)) :
    Calls Try.prog 31 #[.pointer (some ⟨b, 0, none⟩), .int .i64 t, .int .i64 i] w
      fun e w' => e = .returned (.int .i64 2) ∧ Keep nob w w' := by
  have hbs := M.blt
  have hfs := M.flt
  obtain ⟨W0, hW0⟩ : ∃ W0, W0 = w.alloc (.cells zeroFrame 112) := ⟨_, rfl⟩
  have K0 : Keep nob w W0 := by rw [hW0]; exact (Keep.refl _ _).alloc _
  have T0 : Hid (W0.there w.heap.size 0 32) := by rw [hW0]; exact there_new _ _
  have HW := Lib.hid hW0
  clear hW0
  have M0 := M.next K0
  have hne1 := Lib.hid (show b ≠ w.heap.size by omega)
  have hne2 := Lib.hid (show f ≠ w.heap.size by omega)
  have hp0 := M0.ptr
  by_cases hi : 0 ≤ i ∧ i < n
  · obtain ⟨hi0, hi1⟩ := hi
    have HI := Lib.hid (show i.toNat < n by omega)
    have HT := Lib.hid (show ¬ (0 ≤ t ∧ t < n ∧ (0 : Int) ≤ 0 ∧ (0 : Int) < 32) by omega)
    clear h
    go_enter Try.func31, Try.ntmps31
    go_wp2_with fail
    change Calls _ _ _ (w.alloc (.cells zeroFrame 112)) _
    rw [← HW.out]
    refine Calls.mono (with_in 71 _ ?R b f n i 0 _ ent_copy1 hp0 hi0 hi1 (by decide) (by decide) ?hcall) ?_
    case hcall => exact copy1 f (i.toNat * 32) w.heap.size (row c i.toNat) (row_len _ _) (row_one _ _) _ (M0.range _ HI.out) T0.out
    rintro e W1 ⟨rfl, h1⟩
    obtain ⟨M1, r1, K1⟩ := copy_mid M0 HI.out T0.out hne1.out hne2.out h1
    have hp1 := M1.ptr
    clear h1 r1
    go_wp2_with fail
    refine Calls.mono (with_out 72 _ b f n t 0 _ hp1 HT.out) ?_
    rintro e W2 ⟨rfl, rfl⟩
    go_wp2
    go_ret
    exact ⟨rfl, (Keep.trans K0.nob K1 (fun _ _ h => h)).mono (fun k hk e => by unfold only at e; omega)⟩
  · have HT := Lib.hid (show ¬ (0 ≤ i ∧ i < n ∧ (0 : Int) ≤ 0 ∧ (0 : Int) < 32) by omega)
    clear h hi
    go_enter Try.func31, Try.ntmps31
    go_wp2_with fail
    change Calls _ _ _ (w.alloc (.cells zeroFrame 112)) _
    rw [← HW.out]
    refine Calls.mono (with_out 71 _ b f n i 0 _ hp0 HT.out) ?_
    rintro e W1 ⟨rfl, rfl⟩
    go_wp2
    go_ret
    exact ⟨rfl, K0⟩
theorem copy_nil (w : World) (t i : Int) :
    Calls Try.prog 31 #[.pointer none, .int .i64 t, .int .i64 i] w fun e w' => e = .returned (.int .i64 1) ∧ Keep nob w w' := by
  go_enter Try.func31, Try.ntmps31
  go_wp2_with fail
  refine Calls.mono (with_nil _ _ _ _) ?_
  rintro e w1 ⟨rfl, rfl⟩
  go_wp2
  go_ret
  exact ⟨rfl, Keep.alloc (Keep.refl _ _) _⟩
theorem copy_zero (w : World) (b : Nat) (t i : Int) (hp : w.cell? ⟨b, 0, none⟩ = some (.slice none 0 0)) :
    Calls Try.prog 31 #[.pointer (some ⟨b, 0, none⟩), .int .i64 t, .int .i64 i] w fun e w' => e = .returned (.int .i64 1) ∧ Keep nob w w' := by
  have hbs := World.block_lt_of_cell? _ _ hp
  go_enter Try.func31, Try.ntmps31
  go_wp2_with fail
  refine Calls.mono (with_zero b _ _ _ _ ?hc) ?_
  case hc => go_simp
  rintro e w1 ⟨rfl, rfl⟩
  go_wp2
  go_ret
  exact ⟨rfl, Keep.alloc (Keep.refl _ _) _⟩

/-! ### Frames, New -/
theorem frames_at {w : World} {b f n : Nat} {c : Nat → Int} (M : MemAt w b f n c) :
    Calls Try.prog 35 #[.pointer (some ⟨b, 0, none⟩)] w fun e w' => e = .returned (.int .i64 n) ∧ w = w' := by
  have hp := M.ptr
  go_enter Try.func35, Try.ntmps35
  go_wp2
  go_ret
  exact ⟨rfl, rfl⟩
theorem frames_nil (w : World) :
    Calls Try.prog 35 #[.pointer none] w fun e w' => e = .returned (.int .i64 0) ∧ w = w' := by
  go_enter Try.func35, Try.ntmps35
  go_wp2
  go_ret
  exact ⟨rfl, rfl⟩
theorem frames_zero (w : World) (b : Nat) (hp : w.cell? ⟨b, 0, none⟩ = some (.slice none 0 0)) :
    Calls Try.prog 35 #[.pointer (some ⟨b, 0, none⟩)] w fun e w' => e = .returned (.int .i64 0) ∧ w = w' := by
  go_enter Try.func35, Try.ntmps35
  go_wp2
  go_ret
  exact ⟨rfl, rfl⟩
theorem new_out (w : World) (n : Int) (h : ¬ (1 ≤ n ∧ n ≤ 1024)) :
    Calls Try.prog 29 #[.int .i64 n] w fun e w' => e = .returned (.tuple #[.pointer none, .int .i64 2]) ∧ w = w' := by
  by_cases h1 : n < 1
  · have t1 : decide (n < 1) = true := by simpa using h1
    go_enter Try.func29, Try.ntmps29
    go_wp2
    go_ret2
    exact ⟨rfl, rfl⟩
  · have t1 : decide (n < 1) = false := by simpa using h1
    have t2 : decide (1024 < n) = true := by simp; omega
    go_enter Try.func29, Try.ntmps29
    go_wp2
    go_ret2
    exact ⟨rfl, rfl⟩
theorem infoFrame3 : (Try.prog.info? 112).map (fun i => (i.zero, i.size, i.bytes)) = some (some (.agg zeroFrame), 32, 128) := by kernel_rfl
theorem made_zero (m k : Nat) (hk : k < m) : (madeCells zeroFrame m)[k]? = some (.int .u32 0) := by
  have h : ∀ j, j < 32 → zeroFrame[j]! = .int .u32 0 := by
    intro j hj
    have : zeroFrame = (List.replicate 32 (Value.int .u32 0)).toArray := rfl
    rw [this, getElem!_pos _ _ (by simpa using hj)]
    simp only [List.getElem_toArray, List.getElem_replicate]
  simp only [madeCells, Array.getElem?_map, Array.getElem?_range, if_pos hk, Option.map_some]
  have hs : zeroFrame.size = 32 := rfl
  rw [hs, h _ (Nat.mod_lt _ (by decide))]
theorem mem_new (w : World) (n : Nat) (h1 : 1 ≤ n) (h2 : n ≤ 1024) :
    MemAt ((w.alloc (.cells (madeCells zeroFrame (n * 32)) 112)).alloc (.cells #[.slice (some ⟨w.heap.size, 0, none⟩) n n] 66)) (w.heap.size + 1) w.heap.size n (fun _ => 0) := by
  have e1 : (w.alloc (.cells (madeCells zeroFrame (n * 32)) 112)).heap.size = w.heap.size + 1 := by simp
  refine ⟨?_, fun k hk => ?_, fun k => ?_, h1, h2, by omega, fun _ => by decide⟩
  · rw [← e1, World.cell?_alloc_new]; rfl
  · rw [alloc_lt (by rw [e1]; exact Nat.lt_succ_self _), World.cell?_alloc_new]
    exact made_zero _ _ hk
  · simp only [World.frozen?, World.alloc]
    rw [Array.getElem?_push_lt (by simp), ← Array.getElem?_eq_getElem, Array.getElem?_push_size]
    simp only [Bool.and_eq_false_iff]
    right
    exact decide_eq_false (by omega)
set_option maxHeartbeats 400000 in
theorem new_in (w : World) (n : Nat) (h1 : 1 ≤ n) (h2 : n ≤ 1024) :
    Calls Try.prog 29 #[.int .i64 n] w fun e w' => e = .returned (.tuple #[.pointer (some ⟨w.heap.size + 1, 0, none⟩), .int .i64 0]) ∧ MemAt w' (w.heap.size + 1) w.heap.size n (fun _ => 0) ∧ Keep nob w w' := by
  obtain ⟨i0, hi, hz0, hz1, hz2⟩ := info_parts infoFrame3
  have hmk := fun w : World => run_make (P := Try.prog) w 64 112 i0 (.agg zeroFrame) Try.underlying64 hi hz0 .i64 .i64 n n (by omega) (by omega) (by rw [hz2]; omega) (by omega)
  simp only [Int.toNat_natCast, hz1] at hmk
  have t1 : decide ((n : Int) < 1) = false := by simp; omega
  have t2 : decide ((1024 : Int) < n) = false := by simp; omega
  have H1 := Lib.hid h1
  have H2 := Lib.hid h2
  clear hi hz0 hz1 hz2 h1 h2
  go_enter Try.func29, Try.ntmps29
  go_wp2
  go_ret2
  exact ⟨rfl, mem_new w n H1.out H2.out, ((Keep.refl _ _).alloc _).alloc _⟩
theorem new_ok (w : World) (n : Int) (h1 : 1 ≤ n) (h2 : n ≤ 1024) :
    Calls Try.prog 29 #[.int .i64 n] w fun e w' => ∃ b f, e = .returned (.tuple #[.pointer (some ⟨b, 0, none⟩), .int .i64 0]) ∧ MemAt w' b f n.toNat (fun _ => 0) ∧ w.heap.size ≤ b ∧ w.heap.size ≤ f ∧ Keep nob w w' := by
  obtain ⟨m, rfl⟩ : ∃ m : Nat, n = m := ⟨n.toNat, by omega⟩
  refine (new_in w m (by omega) (by omega)).mono ?_
  rintro e w' ⟨rfl, M, K⟩
  exact ⟨_, _, rfl, M, by omega, Nat.le_refl _, K⟩

/-! ### No memory: nil, or one that nobody made -/
def NoMem (w : World) (v : Value) : Prop := v = .pointer none ∨ ∃ b, v = .pointer (some ⟨b, 0, none⟩) ∧ w.cell? ⟨b, 0, none⟩ = some (.slice none 0 0)
theorem NoMem.next {w w' : World} {v : Value} (h : NoMem w v) (k : Keep nob w w') : NoMem w' v := by
  rcases h with h | ⟨b, h, hc⟩
  · exact Or.inl h
  · exact Or.inr ⟨b, h, k.some hc (fun x => x)⟩
theorem read_none {w : World} {v : Value} (h : NoMem w v) (i j : Int) :
    Calls Try.prog 32 #[v, .int .i64 i, .int .i64 j] w fun e w' => e = .returned (.tuple #[.int .u32 0, .int .i64 1]) ∧ Keep nob w w' := by
  rcases h with rfl | ⟨b, rfl, hc⟩
  · exact read_nil w i j
  · exact read_zero w b i j hc
theorem write_none {w : World} {v : Value} (h : NoMem w v) (i j x : Int) :
    Calls Try.prog 30 #[v, .int .i64 i, .int .i64 j, .int .u32 x] w fun e w' => e = .returned (.int .i64 1) ∧ Keep nob w w' := by
  rcases h with rfl | ⟨b, rfl, hc⟩
  · exact write_nil w i j x
  · exact write_zero w b i j x hc
theorem zero_none {w : World} {v : Value} (h : NoMem w v) (i : Int) :
    Calls Try.prog 36 #[v, .int .i64 i] w fun e w' => e = .returned (.int .i64 1) ∧ Keep nob w w' := by
  rcases h with rfl | ⟨b, rfl, hc⟩
  · exact zero_nil w i
  · exact zero_zero w b i hc
theorem copy_none {w : World} {v : Value} (h : NoMem w v) (t i : Int) :
    Calls Try.prog 31 #[v, .int .i64 t, .int .i64 i] w fun e w' => e = .returned (.int .i64 1) ∧ Keep nob w w' := by
  rcases h with rfl | ⟨b, rfl, hc⟩
  · exact copy_nil w t i
  · exact copy_zero w b t i hc
theorem page_none {w : World} {v : Value} (h : NoMem w v) (i : Int) :
    Calls Try.prog 33 #[v, .int .i64 i] w fun e w' => e = .returned (.tuple #[.slice none 0 0, .int .i64 1]) ∧ Keep nob w w' := by
  rcases h with rfl | ⟨b, rfl, hc⟩
  · exact page_nil w i
  · exact page_zero w b i hc
theorem frames_none {w : World} {v : Value} (h : NoMem w v) :
    Calls Try.prog 35 #[v] w fun e w' => e = .returned (.int .i64 0) ∧ w = w' := by
  rcases h with rfl | ⟨b, rfl, hc⟩
  · exact frames_nil w
  · exact frames_zero w b hc

/-! ### Whatever the place -/
def inR (n : Nat) (i j : Int) : Prop := 0 ≤ i ∧ i < n ∧ 0 ≤ j ∧ j < 32
instance (n : Nat) (i j : Int) : Decidable (inR n i j) := by unfold inR; infer_instance
theorem write_any {w : World} {b f n : Nat} {c : Nat → Int} (M : MemAt w b f n c) (i j v : Int) (hv : 0 ≤ v ∧ v < 4294967296) :
    Calls Try.prog 30 #[.pointer (some ⟨b, 0, none⟩), .int .i64 i, .int .i64 j, .int .u32 v] w
      fun e w' => e = .returned (.int .i64 (if inR n i j then 0 else 2)) ∧ MemAt w' b f n (if inR n i j then upd c (i.toNat * 32 + j.toNat) v else c) ∧ Keep (only f) w w' := by
  by_cases h : inR n i j
  · simp only [if_pos h]
    exact write_in M i j v h.1 h.2.1 h.2.2.1 h.2.2.2 hv
  · simp only [if_neg h]
    refine (write_out M i j v h).mono ?_
    rintro e w' ⟨rfl, K⟩
    exact ⟨rfl, M.next K, K.nob⟩
theorem read_any {w : World} {b f n : Nat} {c : Nat → Int} (M : MemAt w b f n c) (i j : Int) :
    Calls Try.prog 32 #[.pointer (some ⟨b, 0, none⟩), .int .i64 i, .int .i64 j] w
      fun e w' => e = .returned (.tuple #[.int .u32 (if inR n i j then c (i.toNat * 32 + j.toNat) else 0), .int .i64 (if inR n i j then 0 else 2)]) ∧ Keep nob w w' := by
  by_cases h : inR n i j
  · simp only [if_pos h]
    exact read_in M i j h.1 h.2.1 h.2.2.1 h.2.2.2
  · simp only [if_neg h]
    exact read_out M i j h
end Go.Proofs.Ytkkkmaigcnpmeaa
