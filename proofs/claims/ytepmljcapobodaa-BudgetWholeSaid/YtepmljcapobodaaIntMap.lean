/- A map[int]int of one's own, as a function. -/
import Derived.Test.YtepmljcapobodaaRows
import Derived.Test.YtepmljcapobodaaOwn
import Derived.Maps.OwnSet
import Derived.WalkArith
namespace Go.Proofs.Ytepmljcapobodaa
open Go.RowKit Go.ChangeMaps Go.MapKept
open Go.Maps
set_option linter.unusedVariables false
set_option maxRecDepth 100000
def wfI (k : Int) : Prop := -9223372036854775808 ≤ k ∧ k < 9223372036854775808
theorem wfI.wf {k : Int} (h : wfI k) : (Lit.int .i64 k).wf = true := WalkArith.wf_i64 (by unfold wfI at h; omega)
def updI (f : Int → Int) (k v : Int) : Int → Int := fun x => if x = k then v else f x
/-- Block b of w is a map of at most n entries that reads as f. -/
def MapI (w : World) (b n : Nat) (f : Int → Int) : Prop := ∃ D : DataW Unit, w.ownsMap Try.prog 3 (plainElem Try.prog 3) b n D ∧ IsMap D ∧ ∀ k, D.atKey (.int .i64 k) (.lit (.int .i64 0)) = .lit (.int .i64 (f k))
theorem keyedI : Keyed Try.prog 3 := int_keyed Try.underlying3
theorem MapI.blt {w : World} {b n : Nat} {f : Int → Int} (h : MapI w b n f) : b < w.heap.size := by
  obtain ⟨D, hD, -⟩ := h
  exact hD.lt
theorem MapI.keep {w w' : World} {b n : Nat} {f : Int → Int} {S : Nat → Prop} (h : MapI w b n f) (k : Keep S w w') (hs : ¬ S b) : MapI w' b n f := by
  have hlt := h.blt
  obtain ⟨D, ⟨es, clock, hb, F, hz, hD⟩, r⟩ := h
  exact ⟨D, ⟨es, clock, (k.block b hlt hs).trans hb, F, hz, hD⟩, r⟩
theorem MapI.next {w w' : World} {b n : Nat} {f : Int → Int} (h : MapI w b n f) (k : Keep nob w w') : MapI w' b n f := h.keep k (fun x => x)
theorem MapI.mono {w : World} {b n m : Nat} {f : Int → Int} (h : MapI w b n f) (hm : n ≤ m) : MapI w b m f := by
  obtain ⟨D, hD, r⟩ := h
  exact ⟨D, hD.mono hm, r⟩
theorem MapI.made (w : World) : MapI (w.alloc (.map #[] 0)) w.heap.size 0 (fun _ => 0) := ⟨.map [], World.ownsMap_made _ _ _ _, isMap_empty, fun k => rfl⟩
theorem keep_of_turned {w w' : World} {b : Nat} (h : w.mapTurned w' b) : Keep (only b) w w' := by
  obtain ⟨es, clock, es', clock', hb, rfl⟩ := h
  refine ⟨rfl, rfl, rfl, by simp [setBlock], fun k hk hs => heap_setBlock_other hb _ (fun e => hs e)⟩
theorem keep_of_grown_at {w w' : World} {b : Nat} (h : w.grownBy w' (some b)) : Keep (only b) w w' := ⟨h.os, h.tape, h.output, h.size, fun k hk hs => h.block k hk (fun e => hs (by cases e; rfl))⟩
theorem lit_int_ne {a b : Int} (h : a ≠ b) : (Lit.int .i64 a) ≠ (Lit.int .i64 b) := fun e => h (by injection e)
end Go.Proofs.Ytepmljcapobodaa
