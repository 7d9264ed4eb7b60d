/- An api.Entry in a block: read, stored, handed back. -/
import Derived.Test.YtepmljcapobodaaDoorWord2
import Derived.Test.YtepmljcapobodaaDoorOwn
namespace Go.Proofs.YtepmljcapobodaaDoor
open Go.RowKit
set_option linter.unusedVariables false
set_option linter.unusedSimpArgs false
set_option maxRecDepth 100000
/-- An entry that lies in block b. -/
structure EntAt (w : World) (b : Nat) (p q c : Bool) (f : Int) : Prop where
  c0 : w.cell? ⟨b, 0, none⟩ = some (.bool p)
  c1 : w.cell? ⟨b, 1, none⟩ = some (.bool q)
  c2 : w.cell? ⟨b, 2, none⟩ = some (.bool c)
  c3 : w.cell? ⟨b, 3, none⟩ = some (.int .i64 f)
  z0 : w.frozen? ⟨b, 0, none⟩ = false
  z1 : w.frozen? ⟨b, 1, none⟩ = false
  z2 : w.frozen? ⟨b, 2, none⟩ = false
  z3 : w.frozen? ⟨b, 3, none⟩ = false
theorem EntAt.lt {w : World} {b : Nat} {p q c : Bool} {f : Int} (h : EntAt w b p q c f) : b < w.heap.size := World.block_lt_of_cell? _ _ h.c0
theorem EntAt.keep {w w' : World} {b : Nat} {p q c : Bool} {f : Int} {S : Nat → Prop} (h : EntAt w b p q c f) (k : Keep S w w') (hs : ¬ S b) : EntAt w' b p q c f :=
  ⟨k.some h.c0 hs, k.some h.c1 hs, k.some h.c2 hs, k.some h.c3 hs, (k.frozen (p := ⟨b, 0, none⟩) h.lt hs).trans h.z0, (k.frozen (p := ⟨b, 1, none⟩) h.lt hs).trans h.z1, (k.frozen (p := ⟨b, 2, none⟩) h.lt hs).trans h.z2, (k.frozen (p := ⟨b, 3, none⟩) h.lt hs).trans h.z3⟩
theorem EntAt.next {w w' : World} {b : Nat} {p q c : Bool} {f : Int} (h : EntAt w b p q c f) (k : Keep nob w w') : EntAt w' b p q c f := h.keep k (fun x => x)
theorem EntAt.new (w : World) (p q c : Bool) (f : Int) (t : TypeId) : EntAt (w.alloc (.cells #[.bool p, .bool q, .bool c, .int .i64 f] t)) w.heap.size p q c f :=
  ⟨new_at _ _ _ 0 _ rfl, new_at _ _ _ 1 _ rfl, new_at _ _ _ 2 _ rfl, new_at _ _ _ 3 _ rfl, new_free _ _ _ _, new_free _ _ _ _, new_free _ _ _ _, new_free _ _ _ _⟩
theorem EntAt.newAt (w : World) (o : Obj) (p q c : Bool) (f : Int) (t : TypeId) : EntAt ((w.alloc o).alloc (.cells #[.bool p, .bool q, .bool c, .int .i64 f] t)) (w.heap.size + 1) p q c f := by
  have := EntAt.new (w.alloc o) p q c f t
  rw [World.size_alloc] at this
  exact this
theorem EntAt.put {w : World} {b : Nat} {p q c p' q' c' : Bool} {f f' : Int} (h : EntAt w b p q c f) :
    EntAt ((((w.setCell ⟨b, 0, none⟩ (.bool p')).setCell ⟨b, 1, none⟩ (.bool q')).setCell ⟨b, 2, none⟩ (.bool c')).setCell ⟨b, 3, none⟩ (.int .i64 f')) b p' q' c' f' := by
  have s (w : World) (k k' : Nat) (v : Value) (hk : k ≠ k') : (w.setCell ⟨b, k, none⟩ v).cell? ⟨b, k', none⟩ = w.cell? ⟨b, k', none⟩ := setCell_off hk
  refine ⟨?_, ?_, ?_, ?_, ?_, ?_, ?_, ?_⟩
  · rw [s _ 3 0 _ (by decide), s _ 2 0 _ (by decide), s _ 1 0 _ (by decide)]; exact setCell_eq h.c0
  · rw [s _ 3 1 _ (by decide), s _ 2 1 _ (by decide)]; exact setCell_eq (u := .bool q) (by rw [s _ 0 1 _ (by decide)]; exact h.c1)
  · rw [s _ 3 2 _ (by decide)]; exact setCell_eq (u := .bool c) (by rw [s _ 1 2 _ (by decide), s _ 0 2 _ (by decide)]; exact h.c2)
  · exact setCell_eq (u := .int .i64 f) (by rw [s _ 2 3 _ (by decide), s _ 1 3 _ (by decide), s _ 0 3 _ (by decide)]; exact h.c3)
  · rw [frozen_setCell, frozen_setCell, frozen_setCell, frozen_setCell]; exact h.z0
  · rw [frozen_setCell, frozen_setCell, frozen_setCell, frozen_setCell]; exact h.z1
  · rw [frozen_setCell, frozen_setCell, frozen_setCell, frozen_setCell]; exact h.z2
  · rw [frozen_setCell, frozen_setCell, frozen_setCell, frozen_setCell]; exact h.z3
theorem infoEnt : (Tryd.prog.info? 69).map (·.size) = some 4 := by kernel_rfl
theorem EntAt.range {w : World} {b : Nat} {p q c : Bool} {f : Int} (h : EntAt w b p q c f) : w.rangeAt b 0 [.bool p, .bool q, .bool c, .int .i64 f] := by
  intro j v hv
  rw [Nat.zero_add]
  rcases j with _ | _ | _ | _ | j
  · injection hv with hv; rw [← hv]; exact h.c0
  · injection hv with hv; rw [← hv]; exact h.c1
  · injection hv with hv; rw [← hv]; exact h.c2
  · injection hv with hv; rw [← hv]; exact h.c3
  · simp at hv
theorem results_ent {fn : Func} {r u : Tmp} (h : fn.results = #[.cell r 69, .tmp u]) (tmps : Array Value) (w : World) (b : Nat) {p q c : Bool} {f : Int} (hE : EntAt w b p q c f) (hp : tmps.getD r undef = .pointer (some ⟨b, 0, none⟩)) (U : Value)
    (hu : tmps.getD u undef = U) : (results fn tmps).run Tryd.prog w = .ok (.tuple #[.agg #[.bool p, .bool q, .bool c, .int .i64 f], U]) w := by
  rw [results_cell_tmp h, hp, hu]
  have := run_loadVar_mid w b 0 69 _ _ hE.range Tryd.underlying69 rfl infoEnt
  simp [asAddr, Sem.run_pure, Result.andThen_ok, this]
theorem results_cell1 {fn : Func} {p : Tmp} {ty : TypeId} (h : fn.results = #[.cell p ty]) (tmps : Array Value) (P : Program) (w : World) :
    (results fn tmps).run P w = ((do loadVar ty (← asAddr (tmps.getD p undef)) : Sem Value)).run P w := by
  unfold results
  rw [h]
  simp
theorem results_ent1 {fn : Func} {r : Tmp} (h : fn.results = #[.cell r 69]) (tmps : Array Value) (w : World) (b : Nat) {p q c : Bool} {f : Int} (hE : EntAt w b p q c f) (hp : tmps.getD r undef = .pointer (some ⟨b, 0, none⟩)) :
    (results fn tmps).run Tryd.prog w = .ok (.agg #[.bool p, .bool q, .bool c, .int .i64 f]) w := by
  have := run_loadVar_mid w b 0 69 _ _ hE.range Tryd.underlying69 rfl infoEnt
  rw [results_cell1 h, hp]
  simp [asAddr, Sem.run_pure, Result.andThen_ok, this]
end Go.Proofs.YtepmljcapobodaaDoor
