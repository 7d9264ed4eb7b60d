/- Contracts of package mem, second half: Write, Zero, Copy, Page, New, Frames. -/
import Derived.Test.YtepmljcapobodaaDoorMem
namespace Go.Proofs.YtepmljcapobodaaDoor
open Go.RowKit
set_option linter.unusedVariables false
set_option maxRecDepth 100000

set_option maxHeartbeats 400000 in
theorem write_in {w : World} {b f n : Nat} {c : Nat → Int} (M : MemAt w b f n c) (i j v : Int) (hi0 : 0 ≤ i) (hi1 : i < n) (h0 : 0 ≤ j) (h1 : j < 32) (hv : 0 ≤ v ∧ v < 4294967296) :
    Calls Tryd.prog 31 #[.pointer (some ⟨b, 0, none⟩), .int .i64 i, .int .i64 j, .int .u32 v] w
      fun e w' => e = .returned (.int .i64 0) ∧ MemAt w' b f n (upd c (i.toNat * 32 + j.toNat) v) ∧ Keep (only f) w w' := by
  have hbs := M.blt
  have hfs := M.flt
  have hb1 : b < w.heap.size + 1 := by omega
  have hf1 : f < w.heap.size + 1 := by omega
  have hp := M.ptr
  have hx := M.cell (i.toNat * 32 + j.toNat) (by omega)
  have hz := M.free (i.toNat * 32 + j.toNat)
  have HK := Lib.hid (show i.toNat * 32 + j.toNat < n * 32 by omega)
  go_enter Tryd.func31, Tryd.ntmps31
  go_wp2_with fail
  refine Calls.mono (with_in 70 _ ?R b f n i j _ ent_write ?hc hi0 hi1 h0 h1 ?hcall) ?_
  case hcall => refine write1 (i.toNat * 32) (w.heap.size + 1) w.heap.size f j v (c (i.toNat * 32 + j.toNat)) _ ?_ ?_ h0 h1 ?_ ?_ <;> go_simp
  case hc => go_simp
  rintro e w' ⟨rfl, rfl⟩
  go_wp2
  go_ret
  refine ⟨rfl, ?_, ?_⟩
  · exact (M.set _ HK.out v hv).next (((Keep.refl _ _).alloc _).alloc _).drew
  · exact ((((Keep.refl (only f) _).setCell (p := ⟨f, i.toNat * 32 + j.toNat, none⟩) _ (Or.inr rfl)).alloc _).alloc _).drew
set_option maxHeartbeats 400000 in
theorem write_out {w : World} {b f n : Nat} {c : Nat → Int} (M : MemAt w b f n c) (i j v : Int) (h : ¬ (0 ≤ i ∧ i < n ∧ 0 ≤ j ∧ j < 32)) :
    Calls Tryd.prog 31 #[.pointer (some ⟨b, 0, none⟩), .int .i64 i, .int .i64 j, .int .u32 v] w
      fun e w' => e = .returned (.int .i64 2) ∧ Keep nob w w' := by
  have hbs := M.blt
  have hb1 : b < w.heap.size + 1 := by omega
  have hp := M.ptr
  have H := Lib.hid h
  clear h
  go_enter Tryd.func31, Tryd.ntmps31
  go_wp2_with fail
  refine Calls.mono (with_out 70 _ b f n i j _ ?hc H.out) ?_
  case hc => go_simp
  rintro e w' ⟨rfl, rfl⟩
  go_wp2
  go_ret
  exact ⟨rfl, ((Keep.refl _ _).alloc _).alloc _⟩
set_option maxHeartbeats 400000 in
theorem write_nil (w : World) (i j v : Int) :
    Calls Tryd.prog 31 #[.pointer none, .int .i64 i, .int .i64 j, .int .u32 v] w
      fun e w' => e = .returned (.int .i64 1) ∧ Keep nob w w' := by
  go_enter Tryd.func31, Tryd.ntmps31
  go_wp2_with fail
  refine Calls.mono (with_nil _ _ _ _) ?_
  rintro e w' ⟨rfl, rfl⟩
  go_wp2
  go_ret
  exact ⟨rfl, ((Keep.refl _ _).alloc _).alloc _⟩
set_option maxHeartbeats 400000 in
theorem write_zero (w : World) (b : Nat) (i j v : Int) (hp : w.cell? ⟨b, 0, none⟩ = some (.slice none 0 0)) :
    Calls Tryd.prog 31 #[.pointer (some ⟨b, 0, none⟩), .int .i64 i, .int .i64 j, .int .u32 v] w
      fun e w' => e = .returned (.int .i64 1) ∧ Keep nob w w' := by
  have hbs := World.block_lt_of_cell? _ _ hp
  have hb1 : b < w.heap.size + 1 := Nat.lt_succ_of_lt hbs
  go_enter Tryd.func31, Tryd.ntmps31
  go_wp2_with fail
  refine Calls.mono (with_zero b _ _ _ _ ?hc) ?_
  case hc => go_simp
  rintro e w' ⟨rfl, rfl⟩
  go_wp2
  go_ret
  exact ⟨rfl, ((Keep.refl _ _).alloc _).alloc _⟩

/-! ### Zero -/
set_option maxHeartbeats 400000 in
theorem zero_in {w : World} {b f n : Nat} {c : Nat → Int} (M : MemAt w b f n c) (i : Int) (hi0 : 0 ≤ i) (hi1 : i < n) :
    Calls Tryd.prog 55 #[.pointer (some ⟨b, 0, none⟩), .int .i64 i] w
      fun e w' => e = .returned (.int .i64 0) ∧ MemAt w' b f n (updRow c i.toNat fun _ => 0) ∧ Keep (only f) w w' := by
  have hp := M.ptr
  have HT := Lib.hid (M.there i.toNat (by omega))
  have HR := Lib.hid (M.setRow i.toNat (by omega) (fun _ => 0) (fun _ => by decide))
  go_enter Tryd.func55, Tryd.ntmps55
  go_wp2_with fail
  refine Calls.mono (with_in 90 _ ?R b f n i 0 _ ent_zero hp hi0 hi1 (by decide) (by decide) ?hcall) ?_
  case hcall => exact zero1 f (i.toNat * 32) _ HT.out
  rintro e w' ⟨rfl, rfl⟩
  go_wp2
  go_ret
  refine ⟨rfl, ?_, ?_⟩
  · exact HR.out
  · exact Keep.setCells _ _ _ _ (Keep.refl _ _) (Or.inr rfl)
set_option maxHeartbeats 400000 in
theorem zero_out {w : World} {b f n : Nat} {c : Nat → Int} (M : MemAt w b f n c) (i : Int) (h : ¬ (0 ≤ i ∧ i < n)) :
    Calls Tryd.prog 55 #[.pointer (some ⟨b, 0, none⟩), .int .i64 i] w
      fun e w' => e = .returned (.int .i64 2) ∧ Keep nob w w' := by
  have hp := M.ptr
  have H := Lib.hid h
  clear h
  go_enter Tryd.func55, Tryd.ntmps55
  go_wp2_with fail
  refine Calls.mono (with_out 90 _ b f n i 0 _ hp (fun h => H.out ⟨h.1, h.2.1⟩)) ?_
  rintro e w' ⟨rfl, rfl⟩
  go_wp2
  go_ret
  exact ⟨rfl, Keep.refl _ _⟩
theorem zero_nil (w : World) (i : Int) :
    Calls Tryd.prog 55 #[.pointer none, .int .i64 i] w fun e w' => e = .returned (.int .i64 1) ∧ Keep nob w w' := by
  go_enter Tryd.func55, Tryd.ntmps55
  go_wp2_with fail
  refine Calls.mono (with_nil _ _ _ _) ?_
  rintro e w' ⟨rfl, rfl⟩
  go_wp2
  go_ret
  exact ⟨rfl, Keep.refl _ _⟩
theorem zero_zero (w : World) (b : Nat) (i : Int) (hp : w.cell? ⟨b, 0, none⟩ = some (.slice none 0 0)) :
    Calls Tryd.prog 55 #[.pointer (some ⟨b, 0, none⟩), .int .i64 i] w fun e w' => e = .returned (.int .i64 1) ∧ Keep nob w w' := by
  go_enter Tryd.func55, Tryd.ntmps55
  go_wp2_with fail
  refine Calls.mono (with_zero b _ _ _ _ hp) ?_
  rintro e w' ⟨rfl, rfl⟩
  go_wp2
  go_ret
  exact ⟨rfl, Keep.refl _ _⟩

/-! ### Page -/
/-- v is a slice of n words of its own, that lie in a block from base on: the list l. -/
def RowIs (base : Nat) (w' : World) (v : Value) (n : Nat) (l : List Int) : Prop :=
  ∃ g cap cur, v = .slice (some ⟨g, 0, none⟩) n cap ∧ base ≤ g ∧ w'.heap[g]? = some (.cells cur 66 (0, 0)) ∧ n ≤ cap ∧ cap = cur.size ∧ cap ≤ maxLen ∧ cur.toList.take n = l.map (Value.int .u32) ∧ l.length = n
theorem RowIs.keep {base n : Nat} {w w' : World} {v : Value} {l : List Int} {S : Nat → Prop} (h : RowIs base w v n l) (k : Keep S w w') (hS : ∀ g, base ≤ g → ¬ S g) : RowIs base w' v n l := by
  obtain ⟨g, cap, cur, h1, h2, h3, h4⟩ := h
  exact ⟨g, cap, cur, h1, h2, (k.block g (Array.getElem?_eq_some_iff.1 h3).1 (hS g h2)).trans h3, h4⟩
theorem RowIs.next {base n : Nat} {w w' : World} {v : Value} {l : List Int} (h : RowIs base w v n l) (k : Keep nob w w') : RowIs base w' v n l := h.keep k (fun _ _ x => x)
theorem RowIs.mono {base base' n : Nat} {w : World} {v : Value} {l : List Int} (h : RowIs base w v n l) (hb : base' ≤ base) : RowIs base' w v n l := by
  obtain ⟨g, cap, cur, h1, h2, h3⟩ := h
  exact ⟨g, cap, cur, h1, Nat.le_trans hb h2, h3⟩
def words (c : Nat → Int) (i : Nat) : List Int := (List.range 32).map fun j => c (i * 32 + j)
theorem row_words (c : Nat → Int) (i : Nat) : row c i = (words c i).map (Value.int .u32) := by simp [row, words, Function.comp_def]
theorem rowIs_of_owns {base : Nat} {w' : World} {g cap : Nat} {n : Nat} {l : List Int} (hn : l.length = n) (hn0 : 0 < n) (h : w'.ownsRow base 66 1 (.slice (some ⟨g, 0, none⟩) n cap) n (l.map (Value.int .u32))) :
    RowIs base w' (.slice (some ⟨g, 0, none⟩) n cap) n l := by
  obtain ⟨_, h | ⟨g', cap', cur, h1, h2, h3, h4, h5, h6, h7⟩⟩ := h
  · omega
  · injection h1 with h1 _ h1c
    injection h1 with h1
    injection h1 with h1
    subst h1; subst h1c
    exact ⟨g, cap, cur, rfl, h2, h3, h4, by omega, h5, by simpa using h7, hn⟩
theorem page_in {w : World} {b f n : Nat} {c : Nat → Int} (M : MemAt w b f n c) (i : Int) (hi0 : 0 ≤ i) (hi1 : i < n) :
    Calls Tryd.prog 28 #[.pointer (some ⟨b, 0, none⟩), .int .i64 i] w
      fun e w' => ∃ v, e = .returned (.tuple #[v, .int .i64 0]) ∧ RowIs w.heap.size w' v 32 (words c i.toNat) ∧ Keep nob w w' := by
  have hbs := M.blt
  have hfs := M.flt
  have hb1 : b < w.heap.size + 1 := by omega
  have hp := M.ptr
  have HR := Lib.hid (M.range i.toNat (by omega))
  go_enter Tryd.func28, Tryd.ntmps28
  go_wp2_with fail
  refine Calls.mono (with_in 68 _ ?R b f n i 0 _ ent_page ?hc hi0 hi1 (by decide) (by decide) ?hcall) ?_
  case hcall => exact page1 f (i.toNat * 32) w.heap.size (row c i.toNat) (row_len _ _) (row_one _ _) _ ((M.next ((Keep.refl _ _).alloc (.cells #[.slice none 0 0] 51))).range _ (by omega)) (by go_simp) (by go_simp)
  case hc => go_simp
  rintro e w1 ⟨rfl, g, cap, h1, h2, h3, h4⟩
  have H2 := Lib.hid h2
  clear h2
  go_wp2
  refine bodyPost_ret (v := .tuple #[.slice (some ⟨g, 0, none⟩) 32 cap, .int .i64 0]) (by rw [results_cell_tmp rfl]; go_simp) rfl ⟨_, rfl, ?_, ?_⟩
  · have H := H2.out
    rw [row_words] at H
    have R := (rowIs_of_owns (by simp [words]) (by decide) H).keep (S := only w.heap.size) (Keep.setCell (Keep.refl _ _) (p := ⟨w.heap.size, 0, none⟩) (.slice (some ⟨g, 0, none⟩) 32 cap) (Or.inr rfl)) (fun k hk e => by
      simp only [World.size_alloc] at hk
      unfold only at e
      omega)
    exact R.mono (by simp)
  · have K : Keep (only w.heap.size) w w1 := Keep.trans (Keep.alloc (Keep.refl _ _) _) h4 (fun _ _ h => h)
    exact (K.setCell (p := ⟨w.heap.size, 0, none⟩) _ (Or.inr rfl)).mono (fun k hk e => by unfold only at e; omega)
theorem page_out {w : World} {b f n : Nat} {c : Nat → Int} (M : MemAt w b f n c) (i : Int) (h : ¬ (0 ≤ i ∧ i < n)) :
    Calls Tryd.prog 28 #[.pointer (some ⟨b, 0, none⟩), .int .i64 i] w
      fun e w' => e = .returned (.tuple #[.slice none 0 0, .int .i64 2]) ∧ Keep nob w w' := by
  have hbs := M.blt
  have hb1 : b < w.heap.size + 1 := by omega
  have hp := M.ptr
  have H := Lib.hid h
  clear h
  go_enter Tryd.func28, Tryd.ntmps28
  go_wp2_with fail
  refine Calls.mono (with_out 68 _ b f n i 0 _ ?hc (fun h => H.out ⟨h.1, h.2.1⟩)) ?_
  case hc => go_simp
  rintro e w1 ⟨rfl, rfl⟩
  go_wp2
  refine bodyPost_ret (v := .tuple #[.slice none 0 0, .int .i64 2]) (by rw [results_cell_tmp rfl]; go_simp) rfl ⟨rfl, ?_⟩
  exact Keep.alloc (Keep.refl _ _) _
theorem page_nil (w : World) (i : Int) :
    Calls Tryd.prog 28 #[.pointer none, .int .i64 i] w fun e w' => e = .returned (.tuple #[.slice none 0 0, .int .i64 1]) ∧ Keep nob w w' := by
  go_enter Tryd.func28, Tryd.ntmps28
  go_wp2_with fail
  refine Calls.mono (with_nil _ _ _ _) ?_
  rintro e w1 ⟨rfl, rfl⟩
  go_wp2
  refine bodyPost_ret (v := .tuple #[.slice none 0 0, .int .i64 1]) (by rw [results_cell_tmp rfl]; go_simp) rfl ⟨rfl, ?_⟩
  exact Keep.alloc (Keep.refl _ _) _
theorem page_zero (w : World) (b : Nat) (i : Int) (hp : w.cell? ⟨b, 0, none⟩ = some (.slice none 0 0)) :
    Calls Tryd.prog 28 #[.pointer (some ⟨b, 0, none⟩), .int .i64 i] w fun e w' => e = .returned (.tuple #[.slice none 0 0, .int .i64 1]) ∧ Keep nob w w' := by
  have hbs := World.block_lt_of_cell? _ _ hp
  go_enter Tryd.func28, Tryd.ntmps28
  go_wp2_with fail
  refine Calls.mono (with_zero b _ _ _ _ ?hc) ?_
  case hc => go_simp
  rintro e w1 ⟨rfl, rfl⟩
  go_wp2
  refine bodyPost_ret (v := .tuple #[.slice none 0 0, .int .i64 1]) (by rw [results_cell_tmp rfl]; go_simp) rfl ⟨rfl, ?_⟩
  exact Keep.alloc (Keep.refl _ _) _
/-! ### Copy -/
def zeroFrame : Array Value := #[.int .u32 0, .int .u32 0, .int .u32 0, .int .u32 0, .int .u32 0, .int .u32 0, .int .u32 0, .int .u32 0, .int .u32 0, .int .u32 0, .int .u32 0, .int .u32 0, .int .u32 0, .int .u32 0, .int .u32 0, .int .u32 0, .int .u32 0, .int .u32 0, .int .u32 0, .int .u32 0, .int .u32 0, .int .u32 0, .int .u32 0, .int .u32 0, .int .u32 0, .int .u32 0, .int .u32 0, .int .u32 0, .int .u32 0, .int .u32 0, .int .u32 0, .int .u32 0]
theorem there_new (w : World) (t : TypeId) : (w.alloc (.cells zeroFrame t)).there w.heap.size 0 32 := by
  intro j hj
  refine ⟨?_, ?_⟩
  · rw [World.cell?_alloc_new]
    have : zeroFrame[0 + j]?.isSome = true := by
      rw [Array.getElem?_eq_getElem (by simp [zeroFrame]; omega)]; rfl
    exact this
  · simp only [World.frozen?, World.alloc, Array.getElem?_push_size]
    rw [Bool.and_eq_false_iff]
    right
    exact decide_eq_false (by omega)
/-! ### Frames, New -/
theorem frames_at {w : World} {b f n : Nat} {c : Nat → Int} (M : MemAt w b f n c) :
    Calls Tryd.prog 51 #[.pointer (some ⟨b, 0, none⟩)] w fun e w' => e = .returned (.int .i64 n) ∧ w = w' := by
  have hp := M.ptr
  go_enter Tryd.func51, Tryd.ntmps51
  go_wp2
  go_ret
  exact ⟨rfl, rfl⟩
theorem frames_nil (w : World) :
    Calls Tryd.prog 51 #[.pointer none] w fun e w' => e = .returned (.int .i64 0) ∧ w = w' := by
  go_enter Tryd.func51, Tryd.ntmps51
  go_wp2
  go_ret
  exact ⟨rfl, rfl⟩
theorem frames_zero (w : World) (b : Nat) (hp : w.cell? ⟨b, 0, none⟩ = some (.slice none 0 0)) :
    Calls Tryd.prog 51 #[.pointer (some ⟨b, 0, none⟩)] w fun e w' => e = .returned (.int .i64 0) ∧ w = w' := by
  go_enter Tryd.func51, Tryd.ntmps51
  go_wp2
  go_ret
  exact ⟨rfl, rfl⟩
theorem new_out (w : World) (n : Int) (h : ¬ (1 ≤ n ∧ n ≤ 1024)) :
    Calls Tryd.prog 17 #[.int .i64 n] w fun e w' => e = .returned (.tuple #[.pointer none, .int .i64 2]) ∧ w = w' := by
  by_cases h1 : n < 1
  · have t1 : decide (n < 1) = true := by simpa using h1
    go_enter Tryd.func17, Tryd.ntmps17
    go_wp2
    go_ret2
    exact ⟨rfl, rfl⟩
  · have t1 : decide (n < 1) = false := by simpa using h1
    have t2 : decide (1024 < n) = true := by simp; omega
    go_enter Tryd.func17, Tryd.ntmps17
    go_wp2
    go_ret2
    exact ⟨rfl, rfl⟩
theorem infoFrame3 : (Tryd.prog.info? 158).map (fun i => (i.zero, i.size, i.bytes)) = some (some (.agg zeroFrame), 32, 128) := by kernel_rfl
theorem made_zero (m k : Nat) (hk : k < m) : (madeCells zeroFrame m)[k]? = some (.int .u32 0) := by
  have h : ∀ j, j < 32 → zeroFrame[j]! = .int .u32 0 := by
    intro j hj
    have : zeroFrame = (List.replicate 32 (Value.int .u32 0)).toArray := rfl
    rw [this, getElem!_pos _ _ (by simpa using hj)]
    simp only [List.getElem_toArray, List.getElem_replicate]
  simp only [madeCells, Array.getElem?_map, Array.getElem?_range, if_pos hk, Option.map_some]
  have hs : zeroFrame.size = 32 := rfl
  rw [hs, h _ (Nat.mod_lt _ (by decide))]
theorem mem_new (w : World) (n : Nat) (h1 : 1 ≤ n) (h2 : n ≤ 1024) :
    MemAt ((w.alloc (.cells (madeCells zeroFrame (n * 32)) 158)).alloc (.cells #[.slice (some ⟨w.heap.size, 0, none⟩) n n] 114)) (w.heap.size + 1) w.heap.size n (fun _ => 0) := by
  have e1 : (w.alloc (.cells (madeCells zeroFrame (n * 32)) 158)).heap.size = w.heap.size + 1 := by simp
  refine ⟨?_, fun k hk => ?_, fun k => ?_, h1, h2, by omega, fun _ => by decide⟩
  · rw [← e1, World.cell?_alloc_new]; rfl
  · rw [alloc_lt (by rw [e1]; exact Nat.lt_succ_self _), World.cell?_alloc_new]
    exact made_zero _ _ hk
  · simp only [World.frozen?, World.alloc]
    rw [Array.getElem?_push_lt (by simp), ← Array.getElem?_eq_getElem, Array.getElem?_push_size]
    simp only [Bool.and_eq_false_iff]
    right
    exact decide_eq_false (by omega)
set_option maxHeartbeats 400000 in
theorem new_in (w : World) (n : Nat) (h1 : 1 ≤ n) (h2 : n ≤ 1024) :
    Calls Tryd.prog 17 #[.int .i64 n] w fun e w' => e = .returned (.tuple #[.pointer (some ⟨w.heap.size + 1, 0, none⟩), .int .i64 0]) ∧ MemAt w' (w.heap.size + 1) w.heap.size n (fun _ => 0) ∧ Keep nob w w' := by
  obtain ⟨i0, hi, hz0, hz1, hz2⟩ := info_parts infoFrame3
  have hmk := fun w : World => run_make (P := Tryd.prog) w 112 158 i0 (.agg zeroFrame) Tryd.underlying112 hi hz0 .i64 .i64 n n (by omega) (by omega) (by rw [hz2]; omega) (by omega)
  simp only [Int.toNat_natCast, hz1] at hmk
  have t1 : decide ((n : Int) < 1) = false := by simp; omega
  have t2 : decide ((1024 : Int) < n) = false := by simp; omega
  have H1 := Lib.hid h1
  have H2 := Lib.hid h2
  clear hi hz0 hz1 hz2 h1 h2
  go_enter Tryd.func17, Tryd.ntmps17
  go_wp2
  go_ret2
  exact ⟨rfl, mem_new w n H1.out H2.out, ((Keep.refl _ _).alloc _).alloc _⟩
theorem new_ok (w : World) (n : Int) (h1 : 1 ≤ n) (h2 : n ≤ 1024) :
    Calls Tryd.prog 17 #[.int .i64 n] w fun e w' => ∃ b f, e = .returned (.tuple #[.pointer (some ⟨b, 0, none⟩), .int .i64 0]) ∧ MemAt w' b f n.toNat (fun _ => 0) ∧ w.heap.size ≤ b ∧ w.heap.size ≤ f ∧ Keep nob w w' := by
  obtain ⟨m, rfl⟩ : ∃ m : Nat, n = m := ⟨n.toNat, by omega⟩
  refine (new_in w m (by omega) (by omega)).mono ?_
  rintro e w' ⟨rfl, M, K⟩
  exact ⟨_, _, rfl, M, by omega, Nat.le_refl _, K⟩

/-! ### No memory: nil, or one that nobody made -/
def NoMem (w : World) (v : Value) : Prop := v = .pointer none ∨ ∃ b, v = .pointer (some ⟨b, 0, none⟩) ∧ w.cell? ⟨b, 0, none⟩ = some (.slice none 0 0)
theorem NoMem.next {w w' : World} {v : Value} (h : NoMem w v) (k : Keep nob w w') : NoMem w' v := by
  rcases h with h | ⟨b, h, hc⟩
  · exact Or.inl h
  · exact Or.inr ⟨b, h, k.some hc (fun x => x)⟩
theorem read_none {w : World} {v : Value} (h : NoMem w v) (i j : Int) :
    Calls Tryd.prog 95 #[v, .int .i64 i, .int .i64 j] w fun e w' => e = .returned (.tuple #[.int .u32 0, .int .i64 1]) ∧ Keep nob w w' := by
  rcases h with rfl | ⟨b, rfl, hc⟩
  · exact read_nil w i j
  · exact read_zero w b i j hc
theorem write_none {w : World} {v : Value} (h : NoMem w v) (i j x : Int) :
    Calls Tryd.prog 31 #[v, .int .i64 i, .int .i64 j, .int .u32 x] w fun e w' => e = .returned (.int .i64 1) ∧ Keep nob w w' := by
  rcases h with rfl | ⟨b, rfl, hc⟩
  · exact write_nil w i j x
  · exact write_zero w b i j x hc
theorem zero_none {w : World} {v : Value} (h : NoMem w v) (i : Int) :
    Calls Tryd.prog 55 #[v, .int .i64 i] w fun e w' => e = .returned (.int .i64 1) ∧ Keep nob w w' := by
  rcases h with rfl | ⟨b, rfl, hc⟩
  · exact zero_nil w i
  · exact zero_zero w b i hc
theorem page_none {w : World} {v : Value} (h : NoMem w v) (i : Int) :
    Calls Tryd.prog 28 #[v, .int .i64 i] w fun e w' => e = .returned (.tuple #[.slice none 0 0, .int .i64 1]) ∧ Keep nob w w' := by
  rcases h with rfl | ⟨b, rfl, hc⟩
  · exact page_nil w i
  · exact page_zero w b i hc
theorem frames_none {w : World} {v : Value} (h : NoMem w v) :
    Calls Tryd.prog 51 #[v] w fun e w' => e = .returned (.int .i64 0) ∧ w = w' := by
  rcases h with rfl | ⟨b, rfl, hc⟩
  · exact frames_nil w
  · exact frames_zero w b hc

/-! ### Whatever the place -/
def inR (n : Nat) (i j : Int) : Prop := 0 ≤ i ∧ i < n ∧ 0 ≤ j ∧ j < 32
instance (n : Nat) (i j : Int) : Decidable (inR n i j) := by unfold inR; infer_instance
theorem write_any {w : World} {b f n : Nat} {c : Nat → Int} (M : MemAt w b f n c) (i j v : Int) (hv : 0 ≤ v ∧ v < 4294967296) :
    Calls Tryd.prog 31 #[.pointer (some ⟨b, 0, none⟩), .int .i64 i, .int .i64 j, .int .u32 v] w
      fun e w' => e = .returned (.int .i64 (if inR n i j then 0 else 2)) ∧ MemAt w' b f n (if inR n i j then upd c (i.toNat * 32 + j.toNat) v else c) ∧ Keep (only f) w w' := by
  by_cases h : inR n i j
  · simp only [if_pos h]
    exact write_in M i j v h.1 h.2.1 h.2.2.1 h.2.2.2 hv
  · simp only [if_neg h]
    refine (write_out M i j v h).mono ?_
    rintro e w' ⟨rfl, K⟩
    exact ⟨rfl, M.next K, K.nob⟩
theorem read_any {w : World} {b f n : Nat} {c : Nat → Int} (M : MemAt w b f n c) (i j : Int) :
    Calls Tryd.prog 95 #[.pointer (some ⟨b, 0, none⟩), .int .i64 i, .int .i64 j] w
      fun e w' => e = .returned (.tuple #[.int .u32 (if inR n i j then c (i.toNat * 32 + j.toNat) else 0), .int .i64 (if inR n i j then 0 else 2)]) ∧ Keep nob w w' := by
  by_cases h : inR n i j
  · simp only [if_pos h]
    exact read_in M i j h.1 h.2.1 h.2.2.1 h.2.2.2
  · simp only [if_neg h]
    exact read_out M i j h
end Go.Proofs.YtepmljcapobodaaDoor
