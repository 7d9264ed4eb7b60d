/- Contracts of package trap: Words, Of, and the frame's words as a list. -/
import Derived.Test.YtkkkmaigcnpmeaaWords
import Derived.Test.YtkkkmaigcnpmeaaOwn
import Derived.Deep.RegionWith
import Derived.Deep.Cut
namespace Go.Proofs.Ytkkkmaigcnpmeaa
open Go.RowKit
set_option linter.unusedVariables false
set_option maxRecDepth 100000

/-- A trap's frame: its ten words. -/
structure Trap where
  x0 : Int
  x1 : Int
  x2 : Int
  x3 : Int
  x4 : Int
  x5 : Int
  x6 : Int
  x7 : Int
  x8 : Int
  x9 : Int
def Trap.cells (t : Trap) : Array Value := #[.int .u32 t.x0, .int .u32 t.x1, .int .u32 t.x2, .int .u32 t.x3, .int .u32 t.x4, .int .u32 t.x5, .int .u32 t.x6, .int .u32 t.x7, .int .u32 t.x8, .int .u32 t.x9]
def Trap.val (t : Trap) : Value := .agg t.cells
def Trap.list (t : Trap) : List Int := [t.x0, t.x1, t.x2, t.x3, t.x4, t.x5, t.x6, t.x7, t.x8, t.x9]
def Trap.zero : Trap := ⟨0, 0, 0, 0, 0, 0, 0, 0, 0, 0⟩
theorem Trap.list_len (t : Trap) : t.list.length = 10 := rfl
theorem Trap.cells_list (t : Trap) : t.cells.toList = t.list.map (Value.int .u32) := rfl

set_option maxHeartbeats 400000 in
theorem words_ok (t : Trap) (w : World) :
    Calls Try.prog 53 #[t.val] w fun r w' => ∃ v, r = .returned v ∧ RowIs w.heap.size w' v 10 t.list ∧ Keep nob w w' := by
  obtain ⟨W, hW⟩ : ∃ W, W = w.alloc (.cells t.cells 76) := ⟨_, rfl⟩
  have C : Hid (∀ j u, t.cells.toList[j]? = some u → W.cell? ⟨w.heap.size, j, none⟩ = some u) := by rw [hW]; exact fun j u => new_at _ _ _ j u
  have K : Hid (Keep nob w W) := by rw [hW]; exact (Keep.refl _ _).alloc _
  have hs : Hid (W.heap.size = w.heap.size + 1) := by rw [hW]; exact World.size_alloc _ _
  obtain ⟨x0, x1, x2, x3, x4, x5, x6, x7, x8, x9⟩ := t
  have c8 := C.out 8 _ rfl
  have c9 := C.out 9 _ rfl
  obtain ⟨i0, hi, hz0, hz1, hz2⟩ := info_parts infoWord
  unfold Trap.val Trap.cells at *
  go_enter Try.func53, Try.ntmps53
  go_wp2_with fail
  rw [← hW]
  clear hW
  go_region_law (first | (refine step_append_grows rfl (.tmp 4) (.tmp 9) 37 rfl 23 i0 (.int .u32 0) 1 4 Try.underlying37 hi hz0 hz1 hz2 rfl (by decide) (some ⟨w.heap.size, 0, none⟩) 8 8 [.int .u32 x0, .int .u32 x1, .int .u32 x2, .int .u32 x3, .int .u32 x4, .int .u32 x5, .int .u32 x6, .int .u32 x7] (by simp [Act.eval]) (fun h => by cases h) rfl (by
    rintro b hb j u hu
    injection hb with hb
    subst hb
    have hj := (List.getElem?_eq_some_iff.1 hu).1
    simp only [List.length_cons, List.length_nil] at hj
    rw [Addr.add_mid, drew_cell, alloc_lt (by rw [hs.out]; exact Nat.lt_succ_self _), Nat.zero_add]
    refine C.out j u ?_
    rw [← hu]
    rcases j with _ | _ | _ | _ | _ | _ | _ | _ | j <;> first | rfl | omega) ⟨W.heap.size, 0, none⟩ 2 2 [.int .u32 x8, .int .u32 x9] (by simp [Act.eval]) rfl (by
    intro j u hu
    rw [Addr.add_mid, Nat.zero_add, drew_cell]
    exact new_at _ _ _ j u hu) (by simp [Value.oneCell']) (by decide) (by decide) (by decide) ?_; intro v' w' hown hgrow; obtain ⟨g, cap, rfl⟩ := Joins.ownsRow_form hown (by decide); have hk := Lib.hid (keep_of_grown hgrow); have hown' := Lib.hid hown; clear hown hgrow) )
  all_goals
    go_wp2
    go_ret
    refine ⟨_, rfl, ?_, K.out.then ((((Keep.refl nob _).alloc _).drew).then hk.out)⟩
    have R := rowIs_of_owns (n := 10) (l := [x0, x1, x2, x3, x4, x5, x6, x7, x8, x9]) rfl (by decide) hown'.out
    refine R.mono ?_
    show w.heap.size ≤ (W.alloc _).heap.size
    rw [World.size_alloc, hs.out]
    omega
end Go.Proofs.Ytkkkmaigcnpmeaa
