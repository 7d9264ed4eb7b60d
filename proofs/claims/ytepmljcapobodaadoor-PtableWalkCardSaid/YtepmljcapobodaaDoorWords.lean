/- Slices of words that are read: when a slice holds a list; the reference's Same tells whether two lists are one. -/
import Derived.Test.YtepmljcapobodaaDoorMem2
import Derived.Deep.QuietTactic
import Derived.BigQuiet
namespace Go.Proofs.YtepmljcapobodaaDoor
open Go.RowKit
set_option linter.unusedVariables false
set_option maxRecDepth 100000

/-- The slice v holds the words l. -/
def WordsAt (w : World) (v : Value) (l : List Int) : Prop :=
  ∃ a cap, v = .slice a l.length cap ∧ (l ≠ [] → ∃ g o, a = some ⟨g, o, none⟩ ∧ ∀ k x, l[k]? = some x → w.cell? ⟨g, o + k, none⟩ = some (.int .u32 x))
theorem WordsAt.next {w w' : World} {v : Value} {l : List Int} (h : WordsAt w v l) (k : Keep nob w w') : WordsAt w' v l := by
  obtain ⟨a, cap, hv, h⟩ := h
  exact ⟨a, cap, hv, fun hl => let ⟨g, o, h1, h2⟩ := h hl; ⟨g, o, h1, fun j x hx => k.some (h2 j x hx) (fun x => x)⟩⟩
theorem RowIs.words {base n : Nat} {w : World} {v : Value} {l : List Int} (h : RowIs base w v n l) : WordsAt w v l := by
  obtain ⟨g, cap, cur, h1, h2, h3, h4, h5, h6, h7, h8⟩ := h
  refine ⟨some ⟨g, 0, none⟩, cap, by rw [h8]; exact h1, fun _ => ⟨g, 0, rfl, fun k x hx => ?_⟩⟩
  have hk : k < n := by rw [← h8]; exact (List.getElem?_eq_some_iff.1 hx).1
  have e : cur.toList[k]? = some (.int .u32 x) := by
    have := congrArg (fun m : List Value => m[k]?) h7
    simp only [List.getElem?_take, hk, if_true, List.getElem?_map, hx, Option.map_some] at this
    exact this
  simp only [World.cell?, h3, Nat.zero_add]
  simpa using e
theorem wordsAt_nil (w : World) : WordsAt w (.slice none 0 0) [] := ⟨none, 0, rfl, fun h => absurd rfl h⟩

theorem words_get (c : Nat → Int) (i j : Nat) (hj : j < 32) : (words c i)[j]? = some (c (i * 32 + j)) := by simp [words, hj]
theorem words_len (c : Nat → Int) (i : Nat) : (words c i).length = 32 := by simp [words]
theorem RowIs.write {base n f : Nat} {w w' : World} {v : Value} {l : List Int} (h : RowIs base w v n l) (k : Keep (only f) w w') (hf : f < base) : RowIs base w' v n l :=
  h.keep k (fun g hg e => by have e : g = f := e; omega)
theorem ret_bool {a b : Bool} (h : a = b) : Ending.returned (.bool a) = Ending.returned (.bool b) := by rw [h]
def SameI (w : World) (l1 l2 : List Int) (i : Value) (wr : World) : Prop :=
  ∃ k : Nat, i = .int .i64 k ∧ k ≤ l1.length ∧ l1.take k = l2.take k ∧ Keep nob w wr

set_option maxHeartbeats 800000 in
theorem same_ok {w : World} {v1 v2 : Value} {l1 l2 : List Int} (h1 : WordsAt w v1 l1) (h2 : WordsAt w v2 l2) (hm : l1.length < 4294967296) :
    Calls Tryd.prog 30 #[v1, v2] w fun e w' => e = .returned (.bool (decide (l1 = l2))) ∧ Keep nob w w' := by
  obtain ⟨a1, c1, rfl, g1⟩ := h1
  obtain ⟨a2, c2, rfl, g2⟩ := h2
  have G1 := Lib.hid g1
  have G2 := Lib.hid g2
  clear g1 g2
  by_cases hl : l1.length = l2.length
  · have t1 : ((l1.length : Int) != (l2.length : Int)) = false := by simp [hl]
    have HL := Lib.hid hl
    clear hl
    go_enter Tryd.func30, Tryd.ntmps30
    go_wp2_with fail
    go_loopw [5] (fun i wr => SameI w l1 l2 i wr) (fun i _ => (l1.length - intOf i).toNat)
    case atStart => exact ⟨0, rfl, Nat.zero_le _, by simp, Keep.refl _ _⟩
    case round =>
      obtain ⟨k, rfl, hk, ht, A⟩ := hrel
      by_cases hlt : k < l1.length
      · have hlt2 : k < l2.length := by rw [← HL.out]; exact hlt
        obtain ⟨ga, oa, rfl, ca⟩ := G1.out (by intro e; rw [e] at hlt; simp at hlt)
        obtain ⟨gb, ob, rfl, cb⟩ := G2.out (by intro e; rw [e] at hlt2; simp at hlt2)
        have da := A.some (ca k _ (List.getElem?_eq_getElem hlt)) (fun x => x)
        have db := A.some (cb k _ (List.getElem?_eq_getElem hlt2)) (fun x => x)
        have b1 : ((k : Int) < (l1.length : Int)) := by omega
        have b2 : ((k : Int) < (l2.length : Int)) := by omega
        have ha := Lib.hid A
        have htt := Lib.hid ht
        clear A ht ca cb
        by_cases he : l1[k] = l2[k]
        · have t3 : (l1[k] != l2[k]) = false := by simp [he]
          have he' := Lib.hid he
          clear he
          go_wp2_with fail
          go_quiet (fail)
          go_wp2_with fail
          go_roundw
          case rel =>
            refine ⟨k + 1, by go_num, hlt, ?_, ha.out.then (Keep.drewN (Keep.refl _ _) _)⟩
            rw [List.take_succ_eq_append_getElem hlt, List.take_succ_eq_append_getElem hlt2, htt.out, he'.out]
          case measure => simp [intOf]; omega
        · have t3 : (l1[k] != l2[k]) = true := by simpa using he
          have he' := Lib.hid he
          clear he
          go_wp2_with fail
          go_quiet (fail)
          go_wp2_with fail
          go_ret
          refine ⟨?_, ha.out.then (Keep.drewN (Keep.refl _ _) _)⟩
          have hne : ¬ l1 = l2 := by
            intro e
            subst e
            exact he'.out rfl
          exact ret_bool (decide_eq_false hne).symm
      · have t4 : decide (k < l1.length) = false := by simpa using hlt
        have A := Lib.hid A
        have ht := Lib.hid ht
        go_wp2_with fail
        go_ret
        have ht := ht.out
        have A := A.out
        refine ⟨?_, A⟩
        rw [List.take_of_length_le (by omega), List.take_of_length_le (by rw [← HL.out]; omega)] at ht
        exact ret_bool (decide_eq_true ht).symm
  · have t1 : ((l1.length : Int) != (l2.length : Int)) = true := by simp; omega
    have t2 : (l1.length != l2.length) = true := by simpa using hl
    have t3 : (l1.length == l2.length) = false := by simpa using hl
    have HL := Lib.hid hl
    clear hl
    go_enter Tryd.func30, Tryd.ntmps30
    go_wp2
    go_ret
    refine ⟨?_, Keep.refl _ _⟩
    exact ret_bool (decide_eq_false (fun e => HL.out (by rw [e]))).symm

/-! ### A row of one's own: its cells, and a store into it -/
theorem RowIs.cell {base n g cap : Nat} {w : World} {l : List Int} (h : RowIs base w (.slice (some ⟨g, 0, none⟩) n cap) n l) (k : Nat) (x : Int) (hx : l[k]? = some x) :
    w.cell? ⟨g, k, none⟩ = some (.int .u32 x) ∧ w.frozen? ⟨g, k, none⟩ = false := by
  obtain ⟨g', cap', cur, h1, h2, h3, h4, h5, h6, h7, h8⟩ := h
  injection h1 with h1 _ _
  injection h1 with h1
  injection h1 with h1
  subst h1
  have hk : k < n := by rw [← h8]; exact (List.getElem?_eq_some_iff.1 hx).1
  have e : cur.toList[k]? = some (.int .u32 x) := by
    have := congrArg (fun m : List Value => m[k]?) h7
    simp only [List.getElem?_take, hk, if_true, List.getElem?_map, hx, Option.map_some] at this
    exact this
  refine ⟨?_, ?_⟩
  · simp only [World.cell?, h3]
    simpa using e
  · simp only [World.frozen?, h3]
    simp
theorem RowIs.ge {base n g cap : Nat} {w : World} {l : List Int} (h : RowIs base w (.slice (some ⟨g, 0, none⟩) n cap) n l) : base ≤ g ∧ g < w.heap.size := by
  obtain ⟨g', cap', cur, h1, h2, h3, h4⟩ := h
  injection h1 with h1 _ _
  injection h1 with h1
  injection h1 with h1
  subst h1
  exact ⟨h2, (Array.getElem?_eq_some_iff.1 h3).1⟩
theorem RowIs.form {base n : Nat} {w : World} {v : Value} {l : List Int} (h : RowIs base w v n l) : ∃ g cap, v = .slice (some ⟨g, 0, none⟩) n cap := by
  obtain ⟨g, cap, cur, h1, _⟩ := h
  exact ⟨g, cap, h1⟩
theorem RowIs.set {base n g cap : Nat} {w : World} {l : List Int} (h : RowIs base w (.slice (some ⟨g, 0, none⟩) n cap) n l) (k : Nat) (x : Int) (hk : k < n) :
    RowIs base (w.setCell ⟨g, k, none⟩ (.int .u32 x)) (.slice (some ⟨g, 0, none⟩) n cap) n (l.set k x) := by
  obtain ⟨g', cap', cur, h1, h2, h3, h4, h5, h6, h7, h8⟩ := h
  injection h1 with h1 _ hc
  injection h1 with h1
  injection h1 with h1
  subst h1; subst hc
  refine ⟨g, cap, cur.setIfInBounds k (.int .u32 x), rfl, h2, ?_, h4, by simpa using h5, h6, ?_, by simpa using h8⟩
  · simp [World.setCell, Array.getElem?_modify, h3]
  · rw [Array.toList_setIfInBounds, List.take_set, h7, List.map_set]

/-! ### make([]Word, 32) -/
theorem make32 (w : World) : (Instr.makeSlice 51 (.int .i64 32) (.int .i64 32)).run Tryd.prog w = .ok (.slice (some ⟨w.heap.size, 0, none⟩) 32 32) (w.alloc (.cells zeroFrame 66)) := by kernel_rfl
theorem wordsAt_zero (w : World) (t : TypeId) : WordsAt (w.alloc (.cells zeroFrame t)) (.slice (some ⟨w.heap.size, 0, none⟩) 32 32) (List.replicate 32 0) := by
  refine ⟨some ⟨w.heap.size, 0, none⟩, 32, by rw [List.length_replicate], fun _ => ⟨w.heap.size, 0, rfl, fun k x hx => ?_⟩⟩
  have hk : k < 32 := by have := (List.getElem?_eq_some_iff.1 hx).1; simpa using this
  rw [World.cell?_alloc_new]
  rw [List.getElem?_replicate, if_pos hk] at hx
  injection hx with hx
  subst hx
  have : zeroFrame = (List.replicate 32 (Value.int .u32 0)).toArray := rfl
  rw [this, List.getElem?_toArray, List.getElem?_replicate, if_pos (by omega)]

/-! ### The words of a frame behind a copy, a zeroing -/
theorem words_copy (c : Nat → Int) (t i : Nat) : words (updRow c t fun k => c (i * 32 + k)) t = words c i := by
  unfold words
  refine List.map_congr_left (fun j hj => ?_)
  have hj := List.mem_range.1 hj
  simp only [updRow]
  rw [if_pos ⟨by omega, by omega⟩, show t * 32 + j - t * 32 = j by omega]
theorem words_zero (c : Nat → Int) (t : Nat) : words (updRow c t fun _ => 0) t = List.replicate 32 0 := by
  unfold words
  rw [List.eq_replicate_iff]
  refine ⟨by simp, fun x hx => ?_⟩
  obtain ⟨j, hj, rfl⟩ := List.mem_map.1 hx
  have hj := List.mem_range.1 hj
  simp only [updRow]
  rw [if_pos ⟨by omega, by omega⟩]
theorem words_other (c d : Nat → Int) (t i : Nat) (h : i ≠ t) : words (updRow c t d) i = words c i := by
  unfold words
  refine List.map_congr_left (fun j hj => ?_)
  have hj := List.mem_range.1 hj
  simp only [updRow]
  rw [if_neg (by omega)]
end Go.Proofs.YtepmljcapobodaaDoor
