/- A map[int]int of one's own, as a function. -/
import Derived.Test.YtepmljcapobodaaDoorRows
import Derived.Test.YtepmljcapobodaaDoorOwn
import Derived.Maps.OwnSet
import Derived.WalkArith
namespace Go.Proofs.YtepmljcapobodaaDoor
open Go.RowKit Go.ChangeMaps Go.MapKept
open Go.Maps
set_option linter.unusedVariables false
set_option maxRecDepth 100000
def wfI (k : Int) : Prop := -9223372036854775808 ≤ k ∧ k < 9223372036854775808
theorem wfI.wf {k : Int} (h : wfI k) : (Lit.int .i64 k).wf = true := WalkArith.wf_i64 (by unfold wfI at h; omega)
def updI (f : Int → Int) (k v : Int) : Int → Int := fun x => if x = k then v else f x
/-- Block b of w is a map of at most n entries that reads as f. -/
def MapI (w : World) (b n : Nat) (f : Int → Int) : Prop := ∃ D : DataW Unit, w.ownsMap Tryd.prog 3 (plainElem Tryd.prog 3) b n D ∧ IsMap D ∧ ∀ k, D.atKey (.int .i64 k) (.lit (.int .i64 0)) = .lit (.int .i64 (f k))
theorem keyedI : Keyed Tryd.prog 3 := int_keyed Tryd.underlying3
theorem MapI.blt {w : World} {b n : Nat} {f : Int → Int} (h : MapI w b n f) : b < w.heap.size := by
  obtain ⟨D, hD, -⟩ := h
  exact hD.lt
theorem MapI.keep {w w' : World} {b n : Nat} {f : Int → Int} {S : Nat → Prop} (h : MapI w b n f) (k : Keep S w w') (hs : ¬ S b) : MapI w' b n f := by
  have hlt := h.blt
  obtain ⟨D, ⟨es, clock, hb, F, hz, hD⟩, r⟩ := h
  exact ⟨D, ⟨es, clock, (k.block b hlt hs).trans hb, F, hz, hD⟩, r⟩
theorem MapI.next {w w' : World} {b n : Nat} {f : Int → Int} (h : MapI w b n f) (k : Keep nob w w') : MapI w' b n f := h.keep k (fun x => x)
theorem MapI.mono {w : World} {b n m : Nat} {f : Int → Int} (h : MapI w b n f) (hm : n ≤ m) : MapI w b m f := by
  obtain ⟨D, hD, r⟩ := h
  exact ⟨D, hD.mono hm, r⟩
theorem MapI.made (w : World) : MapI (w.alloc (.map #[] 0)) w.heap.size 0 (fun _ => 0) := ⟨.map [], World.ownsMap_made _ _ _ _, isMap_empty, fun k => rfl⟩
theorem keep_of_turned {w w' : World} {b : Nat} (h : w.mapTurned w' b) : Keep (only b) w w' := by
  obtain ⟨es, clock, es', clock', hb, rfl⟩ := h
  refine ⟨rfl, rfl, rfl, by simp [setBlock], fun k hk hs => heap_setBlock_other hb _ (fun e => hs e)⟩
theorem keep_of_grown_at {w w' : World} {b : Nat} (h : w.grownBy w' (some b)) : Keep (only b) w w' := ⟨h.os, h.tape, h.output, h.size, fun k hk hs => h.block k hk (fun e => hs (by cases e; rfl))⟩
theorem lit_int_ne {a b : Int} (h : a ≠ b) : (Lit.int .i64 a) ≠ (Lit.int .i64 b) := fun e => h (by injection e)
section
variable {ops : Array Oper} {rest : List Oper} {o : Oper} {a : Act} {w : World} {Q : Exit → Act → World → Prop}
theorem wpList_look (hg : o.guard = none) (m x : Operand) (hop : o.op = Op.lookup 40 m x false) (b n : Nat) (f : Int → Int) (h : MapI w b n f) (k : Int) (hk : wfI k)
    (hm : a.eval m = .map (some b)) (hx : a.eval x = .int .i64 k) (hK : wpList Tryd.prog ops Q rest (a.put o.dst (.int .i64 (f k))) w) : wpList Tryd.prog ops Q (o :: rest) a w := by
  obtain ⟨D, hD, hM, hf⟩ := h
  refine wpList_lookup_own_int w hg m x _ hop 3 3 .i64 keyedI Tryd.underlying40 Tryd.underlying3 (by go_simp) b n D hm hD _ _ hx (keyOf_int_mk Tryd.underlying3 hk.wf) ?_
  intro c hc hw
  rw [hf k] at hc
  injection hc with hc
  injection hc with _ hc
  rw [← hc]
  exact hK
theorem wpList_put (hg : o.guard = none) (m x v : Operand) (hop : o.op = Op.mapUpdate 40 m x v) (b n : Nat) (f : Int → Int) (h : MapI w b n f) (hn : n < 4611686018427387904) (k c : Int) (hk : wfI k) (hc : wfI c)
    (hm : a.eval m = .map (some b)) (hx : a.eval x = .int .i64 k) (hv : a.eval v = .int .i64 c)
    (hK : ∀ w', MapI w' b (n + 1) (updI f k c) → Keep (only b) w w' → wpList Tryd.prog ops Q rest (a.put o.dst undef) w') : wpList Tryd.prog ops Q (o :: rest) a w := by
  obtain ⟨D, hD, hM, hf⟩ := h
  refine wpList_mapUpdate_own w hg m x v _ hop 3 3 keyedI Tryd.underlying40 _ b n D hm hD (by unfold maxLen; omega) _ _ _ hx hv (keyOf_int_mk Tryd.underlying3 hk.wf) _ [] (plainElem_int Tryd.underlying3 hc.wf) ?_
  intro w' hD' hG
  refine hK w' ⟨_, hD', hM.put _ _, fun x => ?_⟩ (keep_of_grown_at hG)
  unfold updI
  by_cases q : x = k
  · rw [if_pos q, q]
    exact atKey_put_same hM (by simp [WideAt.IsKeyLit]) _ _
  · rw [if_neg q, ← hf x]
    exact atKey_put_other (lit_int_ne q) _ _
theorem wpList_del (hg : o.guard = none) (m x : Operand) (hop : o.op = Op.call { callee := Callee.builtin Builtin.delete, args := #[m, x], argTypes := #[40, 3] }) (b n : Nat) (f : Int → Int) (h : MapI w b n f) (k : Int) (hk : wfI k)
    (hm : a.eval m = .map (some b)) (hx : a.eval x = .int .i64 k)
    (hK : ∀ w', MapI w' b n (updI f k 0) → Keep (only b) w w' → wpList Tryd.prog ops Q rest (a.put o.dst (.tuple #[])) w') : wpList Tryd.prog ops Q (o :: rest) a w := by
  obtain ⟨D, hD, hM, hf⟩ := h
  refine wpList_delete_own w hg m x _ _ hop 3 keyedI Tryd.underlying40 _ b n D hm hD _ _ hx (keyOf_int_mk Tryd.underlying3 hk.wf) ?_
  intro w' hD' hG
  refine hK w' ⟨_, hD', hM.del _, fun x => ?_⟩ (keep_of_turned hG)
  unfold updI
  by_cases q : x = k
  · rw [if_pos q, q]
    exact atKey_del_same _
  · rw [if_neg q, ← hf x]
    exact atKey_del_other (lit_int_ne q) _
end
end Go.Proofs.YtepmljcapobodaaDoor
