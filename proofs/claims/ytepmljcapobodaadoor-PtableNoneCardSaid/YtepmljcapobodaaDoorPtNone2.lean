/- A manager that is none: Map, Set. -/
import Derived.Test.YtepmljcapobodaaDoorPtNone
namespace Go.Proofs.YtepmljcapobodaaDoor
open Go.RowKit
set_option linter.unusedVariables false
set_option maxRecDepth 100000
set_option maxHeartbeats 1600000 in
theorem mset {w : World} {v : Value} (h : NoMgr w v) (root page : Int) (e : Ent) :
    Calls Tryd.prog 48 #[v, .int .i64 root, .int .i64 page, e.val] w fun r w' => r = .returned (.int .i64 1) ∧ Keep nob w w' := by
  have CF := fun W' (k : Keep nob w W') => mfits (h.next k) e
  have CA := fun W' (k : Keep nob w W') => masked (h.next k) root page false
  have hv : ∃ a, v = .pointer a := by rcases h with h | ⟨b, h, -⟩ <;> exact ⟨_, h⟩
  obtain ⟨a, rfl⟩ := hv
  obtain ⟨p, x, cc, fr⟩ := e
  obtain ⟨W, hW⟩ : ∃ W, W = w.alloc (.cells #[.bool p, .bool x, .bool cc, .int .i64 fr] 69) := ⟨_, rfl⟩
  have KW : Keep nob w W := by rw [hW]; exact (Keep.refl _ _).alloc _
  have EE : EntAt W w.heap.size p x cc fr := by rw [hW]; exact EntAt.new _ _ _ _ _ _
  unfold Ent.val at CF ⊢
  dsimp only at CF ⊢
  obtain ⟨d0, d1, d2, d3, -, -, -, -⟩ := id EE
  replace CF := Lib.hid CF
  replace CA := Lib.hid CA
  replace KW := Lib.hid KW
  replace EE := Lib.hid EE
  replace hW := Lib.hid hW
  clear h
  go_enter Tryd.func48, Tryd.ntmps48
  go_wp2_with fail
  rw [← hW.out]
  refine Calls.mono (CF.out _ KW.out) ?_
  rintro r w1 ⟨rfl, K1⟩
  have Ka := KW.out.then K1
  replace K1 := Lib.hid K1
  replace Ka := Lib.hid Ka
  go_wp2_with fail
  refine Calls.mono (CA.out _ Ka.out) ?_
  rintro r w2 ⟨rfl, rfl⟩
  go_wp2_with fail
  go_ret
  exact ⟨rfl, Ka.out⟩
set_option maxHeartbeats 1600000 in
theorem mmap {w : World} {v : Value} (h : NoMgr w v) (root page : Int) (e : Ent) :
    Calls Tryd.prog 35 #[v, .int .i64 root, .int .i64 page, e.val] w fun r w' => r = .returned (.int .i64 1) ∧ Keep nob w w' := by
  have CF := fun W' (k : Keep nob w W') => mfits (h.next k) e
  have CA := fun W' (k : Keep nob w W') => masked (h.next k) root page false
  have hv : ∃ a, v = .pointer a := by rcases h with h | ⟨b, h, -⟩ <;> exact ⟨_, h⟩
  obtain ⟨a, rfl⟩ := hv
  obtain ⟨p, x, cc, fr⟩ := e
  obtain ⟨W, hW⟩ : ∃ W, W = w.alloc (.cells #[.bool p, .bool x, .bool cc, .int .i64 fr] 69) := ⟨_, rfl⟩
  have KW : Keep nob w W := by rw [hW]; exact (Keep.refl _ _).alloc _
  have EE : EntAt W w.heap.size p x cc fr := by rw [hW]; exact EntAt.new _ _ _ _ _ _
  unfold Ent.val at CF ⊢
  dsimp only at CF ⊢
  obtain ⟨d0, d1, d2, d3, -, -, -, -⟩ := id EE
  replace CF := Lib.hid CF
  replace CA := Lib.hid CA
  replace KW := Lib.hid KW
  replace EE := Lib.hid EE
  replace hW := Lib.hid hW
  clear h
  go_enter Tryd.func35, Tryd.ntmps35
  go_wp2_with fail
  rw [← hW.out]
  refine Calls.mono (CF.out _ KW.out) ?_
  rintro r w1 ⟨rfl, K1⟩
  have Ka := KW.out.then K1
  replace K1 := Lib.hid K1
  replace Ka := Lib.hid Ka
  go_wp2_with fail
  refine Calls.mono (CA.out _ Ka.out) ?_
  rintro r w2 ⟨rfl, rfl⟩
  go_wp2_with fail
  go_ret
  exact ⟨rfl, Ka.out⟩
end Go.Proofs.YtepmljcapobodaaDoor
