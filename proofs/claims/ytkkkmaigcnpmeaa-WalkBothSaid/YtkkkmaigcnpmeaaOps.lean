/- The calls of layer 2's scripts, told as lists. -/
import Derived.Test.YtkkkmaigcnpmeaaArgs
namespace Go.Proofs.Ytkkkmaigcnpmeaa
open Go.ChangeShapes Go.WideShapes Go.ChangeAt Go.RowKit Go.Deep
set_option linter.unusedVariables false
set_option maxRecDepth 100000
/-- A call of a script. -/
structure Op where
  do_ : Int
  a : Int
  b : Int
  x : Int
def Op.cells (o : Op) : List Value := [.int .i64 o.do_, .int .i64 o.a, .int .i64 o.b, .int .u32 o.x]
def Op.fine (o : Op) : Prop := (0 ≤ o.x ∧ o.x < 4294967296)
section
variable {H : Type} {enc : TypeId × Value → H} {w : World} {spare : Nat → Bool} {held : Bool}
theorem cellsOp : Try.prog.cellsOf 36 = 4 := by kernel_rfl
theorem cellsInt : Try.prog.cellsOf 3 = 1 := by kernel_rfl
theorem cellsWord : Try.prog.cellsOf 23 = 1 := by kernel_rfl
theorem four {cs : List Value} (h : cs.length = 4) : ∃ a b c d, cs = [a, b, c, d] := by
  match cs, h with
  | [a, b, c, d], _ => exact ⟨a, b, c, d, rfl⟩
theorem read_op (n base : Nat) (cs : List Value) (y : DataW H × List MemPlace) (h : DataW.trod enc Try.prog w base spare held n 36 cs = some y) : ∃ o : Op, o.fine ∧ cs = o.cells := by
  obtain ⟨xs, m, _, _, hl, hx, hf⟩ := DataW.trod_struct Try.underlying36 h
  rw [cellsOp] at hl
  obtain ⟨c0, c1, c2, c3, rfl⟩ := four hl
  have h0 : DataW.trod enc Try.prog w base spare held m 3 ([c0, c1, c2, c3].take (Try.prog.cellsOf 3)) = xs[0]? := hf 0 _ rfl
  have h1 : DataW.trod enc Try.prog w base spare held m 3 ([c1, c2, c3].take (Try.prog.cellsOf 3)) = xs[1]? := hf 1 _ rfl
  have h2 : DataW.trod enc Try.prog w base spare held m 3 ([c2, c3].take (Try.prog.cellsOf 3)) = xs[2]? := hf 2 _ rfl
  have h3 : DataW.trod enc Try.prog w base spare held m 23 ([c3].take (Try.prog.cellsOf 23)) = xs[3]? := hf 3 _ rfl
  rw [cellsInt] at h0 h1 h2
  rw [cellsWord] at h3
  have hx : xs.length = 4 := hx
  rw [List.getElem?_eq_getElem (by omega)] at h0 h1 h2 h3
  obtain ⟨n0, e0, _, _⟩ := DataW.trod_int Try.underlying3 h0
  obtain ⟨n1, e1, _, _⟩ := DataW.trod_int Try.underlying3 h1
  obtain ⟨n2, e2, _, _⟩ := DataW.trod_int Try.underlying3 h2
  obtain ⟨n3, e3, _, wf⟩ := DataW.trod_int Try.underlying23 h3
  injection e0 with e0; injection e1 with e1; injection e2 with e2; injection e3 with e3
  subst e0; subst e1; subst e2; subst e3
  have := bounds_u32 wf
  exact ⟨⟨n0, n1, n2, n3⟩, by unfold Op.fine; simp only; omega, rfl⟩
/-- The slice v holds the calls l. -/
def OpsAt (w : World) (v : Value) (l : List Op) : Prop :=
  ∃ a cap, v = .slice a l.length cap ∧ l.length ≤ 9223372036854775807 ∧ (∀ o ∈ l, o.fine) ∧ (l ≠ [] → ∃ g o, a = some ⟨g, o, none⟩ ∧ ∀ (k : Nat) (c : Op), l[k]? = some c →
    w.cell? ⟨g, o + k * 4, none⟩ = some (.int .i64 c.do_) ∧ w.cell? ⟨g, o + k * 4 + 1, none⟩ = some (.int .i64 c.a) ∧ w.cell? ⟨g, o + k * 4 + 2, none⟩ = some (.int .i64 c.b) ∧ w.cell? ⟨g, o + k * 4 + 3, none⟩ = some (.int .u32 c.x))
theorem OpsAt.next {w w' : World} {v : Value} {l : List Op} (h : OpsAt w v l) (k : Keep nob w w') : OpsAt w' v l := by
  obtain ⟨a, cap, hv, hm, hf, h⟩ := h
  exact ⟨a, cap, hv, hm, hf, fun hl => let ⟨g, o, h1, h2⟩ := h hl; ⟨g, o, h1, fun i c hi => let ⟨q0, q1, q2, q3⟩ := h2 i c hi; ⟨k.some q0 (fun x => x), k.some q1 (fun x => x), k.some q2 (fun x => x), k.some q3 (fun x => x)⟩⟩⟩
theorem open_ops {v : Value} {d : DataW H} {p : List MemPlace} {r : Reach} {b0 base : Nat}
    (hv : Value.okWide Try.prog w r b0 34 v) (h : DataW.Trod enc Try.prog w base spare held 34 v d p) : ∃ l : List Op, OpsAt w v l := by
  obtain ⟨l, ⟨a, cap, hv, hm, hc⟩, hl⟩ := open_rows (N := 4) (fun cs => ∃ o : Op, o.fine ∧ cs = o.cells) Try.underlying34 cellsOp (by decide) (fun n cs y hy => read_op n base cs y hy) hv h
  obtain ⟨ls, hlen, hls⟩ := list_of (n := l.length) (R := fun i (o : Op) => o.fine ∧ l[i]? = some o.cells) (fun i hi => by
    obtain ⟨_, o, ho, e⟩ := hl l[i] (List.getElem_mem hi)
    exact ⟨o, ho, by rw [List.getElem?_eq_getElem hi, e]⟩)
  refine ⟨ls, a, cap, by rw [hlen]; exact hv, by omega, fun o ho => ?_, fun hne => ?_⟩
  · obtain ⟨k, hk⟩ := List.mem_iff_getElem?.1 ho
    exact (hls k o hk).1
  · obtain ⟨g, o, h1, h2⟩ := hc (by intro e; rw [e] at hlen; exact hne (List.eq_nil_of_length_eq_zero hlen))
    refine ⟨g, o, h1, fun k c hk => ?_⟩
    have q := h2 k _ (hls k c hk).2
    exact ⟨q 0 _ rfl, q 1 _ rfl, q 2 _ rfl, q 3 _ rfl⟩
end
end Go.Proofs.Ytkkkmaigcnpmeaa
