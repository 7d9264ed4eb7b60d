/- A manager that is not there, or that nobody made. -/
import Derived.Test.YtepmljcapobodaaDoorPtAwake
namespace Go.Proofs.YtepmljcapobodaaDoor
open Go.RowKit
set_option linter.unusedVariables false
set_option maxRecDepth 100000
def NoMgr (w : World) (v : Value) : Prop := v = .pointer none ∨ ∃ b, v = .pointer (some ⟨b, 0, none⟩) ∧ w.cell? ⟨b, 0, none⟩ = some (.pointer none)
theorem NoMgr.next {w w' : World} {v : Value} (h : NoMgr w v) (k : Keep nob w w') : NoMgr w' v := by
  rcases h with h | ⟨b, h, c⟩
  · exact Or.inl h
  · exact Or.inr ⟨b, h, k.some c (fun x => x)⟩
theorem mnone {w : World} {v : Value} (h : NoMgr w v) :
    Calls Tryd.prog 71 #[v] w fun r w' => r = .returned (.bool true) ∧ w = w' := by
  rcases h with rfl | ⟨b, rfl, c⟩
  · go_enter Tryd.func71, Tryd.ntmps71
    go_wp2_with fail
    go_ret
    exact ⟨rfl, rfl⟩
  · go_enter Tryd.func71, Tryd.ntmps71
    go_wp2_with fail
    go_ret
    exact ⟨rfl, rfl⟩
theorem mopen {w : World} {v : Value} (h : NoMgr w v) :
    Calls Tryd.prog 34 #[v] w fun r w' => r = .returned (.tuple #[.int .i64 0, .int .i64 1]) ∧ w = w' := by
  have N := Lib.hid (mnone h)
  clear h
  go_enter Tryd.func34, Tryd.ntmps34
  go_wp2_with fail
  refine Calls.mono (N.out) ?_
  rintro r w1 ⟨rfl, rfl⟩
  go_wp2_with fail
  go_ret2
  exact ⟨rfl, rfl⟩
theorem mclose {w : World} {v : Value} (h : NoMgr w v) (root : Int) :
    Calls Tryd.prog 38 #[v, .int .i64 root] w fun r w' => r = .returned (.int .i64 1) ∧ w = w' := by
  have N := Lib.hid (mnone h)
  clear h
  go_enter Tryd.func38, Tryd.ntmps38
  go_wp2_with fail
  refine Calls.mono (N.out) ?_
  rintro r w1 ⟨rfl, rfl⟩
  go_wp2_with fail
  go_ret
  exact ⟨rfl, rfl⟩
theorem masked {w : World} {v : Value} (h : NoMgr w v) (root page : Int) (fine : Bool) :
    Calls Tryd.prog 72 #[v, .int .i64 root, .int .i64 page, .bool fine] w fun r w' => r = .returned (.int .i64 1) ∧ w = w' := by
  have N := Lib.hid (mnone h)
  clear h
  go_enter Tryd.func72, Tryd.ntmps72
  go_wp2_with fail
  refine Calls.mono (N.out) ?_
  rintro r w1 ⟨rfl, rfl⟩
  go_wp2_with fail
  go_ret
  exact ⟨rfl, rfl⟩
theorem mtables {w : World} {v : Value} (h : NoMgr w v) (root : Int) :
    Calls Tryd.prog 37 #[v, .int .i64 root] w fun r w' => r = .returned (.int .i64 0) ∧ w = w' := by
  have N := Lib.hid (masked h root 0 true)
  clear h
  go_enter Tryd.func37, Tryd.ntmps37
  go_wp2_with fail
  refine Calls.mono (N.out) ?_
  rintro r w1 ⟨rfl, rfl⟩
  go_wp2_with fail
  go_ret
  exact ⟨rfl, rfl⟩
theorem mquery {w : World} {v : Value} (h : NoMgr w v) (root page : Int) :
    Calls Tryd.prog 44 #[v, .int .i64 root, .int .i64 page] w fun r w' => r = .returned (.tuple #[Ent.zero.val, .bool false]) ∧ Keep nob w w' := by
  obtain ⟨W, hW⟩ : ∃ W, W = w.alloc (.cells #[.bool false, .bool false, .bool false, .int .i64 0] 69) := ⟨_, rfl⟩
  have KW : Keep nob w W := by rw [hW]; exact (Keep.refl _ _).alloc _
  have E0 : EntAt W w.heap.size false false false 0 := by rw [hW]; exact EntAt.new _ _ _ _ _ _
  have C := masked (h.next KW) root page true
  unfold Ent.val Ent.zero
  dsimp only
  replace C := Lib.hid C
  replace KW := Lib.hid KW
  replace E0 := Lib.hid E0
  replace hW := Lib.hid hW
  clear h
  go_enter Tryd.func44, Tryd.ntmps44
  go_wp2_with fail
  rw [← hW.out]
  refine Calls.mono C.out ?_
  rintro r w1 ⟨rfl, rfl⟩
  obtain ⟨d0, d1, d2, d3, z0, z1, z2, z3⟩ := E0.out
  have F := fun p' q' c' f' => E0.out.put (p' := p') (q' := q') (c' := c') (f' := f')
  replace F := Lib.hid F
  go_wp2_with fail
  refine bodyPost_ret (results_ent rfl _ _ w.heap.size (F.out false false false 0) rfl (.bool false) rfl) rfl ⟨rfl, ?_⟩
  repeat (refine Keep.setCell ?_ _ (Or.inl (Nat.le_refl _)))
  exact KW.out
theorem munmap {w : World} {v : Value} (h : NoMgr w v) (root page : Int) :
    Calls Tryd.prog 39 #[v, .int .i64 root, .int .i64 page] w fun r w' => r = .returned (.tuple #[Ent.zero.val, .int .i64 1]) ∧ Keep nob w w' := by
  obtain ⟨W, hW⟩ : ∃ W, W = w.alloc (.cells #[.bool false, .bool false, .bool false, .int .i64 0] 69) := ⟨_, rfl⟩
  have KW : Keep nob w W := by rw [hW]; exact (Keep.refl _ _).alloc _
  have E0 : EntAt W w.heap.size false false false 0 := by rw [hW]; exact EntAt.new _ _ _ _ _ _
  have C := masked (h.next KW) root page true
  unfold Ent.val Ent.zero
  dsimp only
  replace C := Lib.hid C
  replace KW := Lib.hid KW
  replace E0 := Lib.hid E0
  replace hW := Lib.hid hW
  clear h
  go_enter Tryd.func39, Tryd.ntmps39
  go_wp2_with fail
  rw [← hW.out]
  refine Calls.mono C.out ?_
  rintro r w1 ⟨rfl, rfl⟩
  obtain ⟨d0, d1, d2, d3, z0, z1, z2, z3⟩ := E0.out
  have F := fun p' q' c' f' => E0.out.put (p' := p') (q' := q') (c' := c') (f' := f')
  replace F := Lib.hid F
  go_wp2_with fail
  refine bodyPost_ret (results_ent rfl _ _ w.heap.size (F.out false false false 0) rfl (.int .i64 1) rfl) rfl ⟨rfl, ?_⟩
  repeat (refine Keep.setCell ?_ _ (Or.inl (Nat.le_refl _)))
  exact KW.out
theorem mall {w : World} {v : Value} (h : NoMgr w v) (root : Int) :
    Calls Tryd.prog 36 #[v, .int .i64 root] w fun r w' => r = .returned (.slice none 0 0) ∧ Keep nob w w' := by
  have K : Keep nob w (w.alloc (.cells #[v] 70)) := (Keep.refl _ _).alloc _
  have N := masked (h.next K) root 0 true
  have hv : ∃ a, v = .pointer a := by rcases h with h | ⟨b, h, -⟩ <;> exact ⟨_, h⟩
  obtain ⟨a, rfl⟩ := hv
  replace N := Lib.hid N
  replace K := Lib.hid K
  clear h
  go_enter Tryd.func36, Tryd.ntmps36
  go_wp2_with fail
  refine Calls.mono (N.out) ?_
  rintro r w1 ⟨rfl, rfl⟩
  go_wp2_with fail
  go_ret
  exact ⟨rfl, K.out⟩
set_option maxHeartbeats 6400000 in
theorem mfits {w : World} {v : Value} (h : NoMgr w v) (e : Ent) :
    Calls Tryd.prog 73 #[v, e.val] w fun r w' => r = .returned (.bool false) ∧ Keep nob w w' := by
  obtain ⟨p, x, cc, fr⟩ := e
  have K1 : Keep nob w (w.alloc (.cells #[.bool p, .bool x, .bool cc, .int .i64 fr] 69)) := (Keep.refl _ _).alloc _
  obtain ⟨W, hW⟩ : ∃ W, W = w.alloc (.cells #[.bool p, .bool x, .bool cc, .int .i64 fr] 69) := ⟨_, rfl⟩
  rw [← hW] at K1
  have KD : Keep nob W W.drew := (Keep.refl nob W).drew
  have N := mnone ((h.next K1).next KD)
  have hv : ∃ a, v = .pointer a := by rcases h with h | ⟨b, h, -⟩ <;> exact ⟨_, h⟩
  obtain ⟨a, rfl⟩ := hv
  unfold Ent.val
  dsimp only
  replace hW := Lib.hid hW
  replace N := Lib.hid N
  replace K1 := Lib.hid K1
  replace KD := Lib.hid KD
  clear h
  go_enter Tryd.func73, Tryd.ntmps73
  go_wp2_with fail
  rw [← hW.out]
  first
    | (go_region_with (first | (go_at_call 71; refine Calls.mono N.out ?_; rintro r w1 ⟨rfl, rfl⟩)))
    | fail
  all_goals
    go_wp2_with fail
    go_ret
    exact ⟨rfl, K1.out.then KD.out⟩
end Go.Proofs.YtepmljcapobodaaDoor
