/- What a law's arguments hold: any struct of numbers and bools, and slices of such structs, told as lists. -/
import Derived.Test.YtepmljcapobodaaArgs
import Derived.Test.YtepmljcapobodaaIntMap
namespace Go.Proofs.Ytepmljcapobodaa
open Go.ChangeShapes Go.WideShapes Go.ChangeAt Go.RowKit Go.Deep
set_option linter.unusedVariables false
set_option maxRecDepth 100000
/-- The kind of a cell. -/
inductive CK
  | i (k : IntKind)
  | b
def CK.has : CK → Value → Prop
  | .i k, v => ∃ n, v = .int k n ∧ (Lit.int k n).wf = true
  | .b, v => ∃ x, v = .bool x
def HasAll : List CK → List Value → Prop
  | [], [] => True
  | k :: ks, v :: vs => k.has v ∧ HasAll ks vs
  | _, _ => False
theorem HasAll.app : ∀ {a b : List CK} {u v : List Value}, HasAll a u → HasAll b v → HasAll (a ++ b) (u ++ v)
  | [], b, [], v, _, h => h
  | k :: a, b, x :: u, v, h, h2 => ⟨h.1, HasAll.app h.2 h2⟩
  | [], _, _ :: _, _, h, _ => h.elim
  | _ :: _, _, [], _, h, _ => h.elim
theorem HasAll.cons {k : CK} {ks : List CK} {cs : List Value} (h : HasAll (k :: ks) cs) : ∃ v vs, cs = v :: vs ∧ k.has v ∧ HasAll ks vs := by
  cases cs with
  | nil => exact h.elim
  | cons v vs => exact ⟨v, vs, rfl, h.1, h.2⟩
theorem HasAll.nil {cs : List Value} (h : HasAll [] cs) : cs = [] := by
  cases cs with
  | nil => rfl
  | cons v vs => exact h.elim
/-- All readings of the type have cells of these kinds. -/
def Flat (t : TypeId) (ks : List CK) : Prop :=
  ∀ (H : Type) (enc : TypeId × Value → H) (w : World) (spare : Nat → Bool) (held : Bool) (base n : Nat) (cs : List Value) (y : DataW H × List MemPlace), DataW.trod enc Try.prog w base spare held n t cs = some y → HasAll ks cs
theorem flat_int {t : TypeId} {k : IntKind} (h : Try.prog.underlying t = some (.int k)) : Flat t [.i k] := fun H enc w spare held base n cs y hy => by
  obtain ⟨n0, rfl, _, wf⟩ := DataW.trod_int h hy
  exact ⟨⟨n0, rfl, wf⟩, trivial⟩
theorem flat_bool {t : TypeId} (h : Try.prog.underlying t = some .bool) : Flat t [.b] := fun H enc w spare held base n cs y hy => by
  obtain ⟨n0, rfl, _⟩ := DataW.trod_bool h hy
  exact ⟨⟨n0, rfl⟩, trivial⟩
inductive Flats : List Field → Nat → List (List CK) → Prop
  | nil (o : Nat) : Flats [] o []
  | cons {f : Field} {fs : List Field} {o : Nat} {k : List CK} {ks : List (List CK)} (h : Flat f.type k) (ho : f.offset = o) (hc : Try.prog.cellsOf f.type = k.length) (r : Flats fs (o + k.length) ks) : Flats (f :: fs) o (k :: ks)
theorem flats_all {H : Type} {enc : TypeId × Value → H} {w : World} {spare : Nat → Bool} {held : Bool} {base n : Nat} {cs : List Value} :
    ∀ {fs : List Field} {o : Nat} {ks : List (List CK)}, Flats fs o ks → (∀ f ∈ fs, ∃ y, DataW.trod enc Try.prog w base spare held n f.type ((cs.drop f.offset).take (Try.prog.cellsOf f.type)) = some y) → cs.length = o + ks.flatten.length → HasAll ks.flatten (cs.drop o) := by
  intro fs o ks h
  induction h with
  | nil o =>
    intro _ hl
    rw [List.drop_of_length_le (by simp at hl; omega)]
    exact trivial
  | cons h ho hc r ih =>
    rename_i f fs o k ks
    intro hy hl
    obtain ⟨y, hy0⟩ := hy f (List.mem_cons_self)
    rw [ho, hc] at hy0
    have a := h _ _ _ _ _ _ _ _ _ hy0
    have b := ih (fun f hf => hy f (List.mem_cons_of_mem _ hf)) (by rw [hl, List.flatten_cons, List.length_append]; omega)
    have e : cs.drop o = (cs.drop o).take k.length ++ cs.drop (o + k.length) := by
      rw [← List.drop_drop, List.take_append_drop]
    rw [e]
    exact a.app b
theorem flat_struct {t : TypeId} {fs : Array Field} {ks : List (List CK)} (ht : Try.prog.underlying t = some (.struct fs)) (hc : Try.prog.cellsOf t = ks.flatten.length) (h : Flats fs.toList 0 ks) : Flat t ks.flatten := fun H enc w spare held base n cs y hy => by
  obtain ⟨xs, m, _, _, hl, hx, hf⟩ := DataW.trod_struct ht hy
  have := flats_all (cs := cs) (H := H) (enc := enc) (w := w) (spare := spare) (held := held) (base := base) (n := m) h (fun f hfm => by
    obtain ⟨i, hi⟩ := List.mem_iff_getElem?.1 hfm
    have hi' : fs[i]? = some f := by simpa using hi
    have hlt : i < xs.length := by
      rw [hx]
      exact (Array.getElem?_eq_some_iff.1 hi').1
    exact ⟨xs[i], by rw [hf i f hi', List.getElem?_eq_getElem hlt]⟩) (by rw [hl, hc]; omega)
  simpa using this
/-- The slice v holds l, each element of it as N cells. -/
def RowsAt {α : Type} (N : Nat) (cells : α → List Value) (w : World) (v : Value) (l : List α) : Prop :=
  ∃ a cap, v = .slice a l.length cap ∧ l.length ≤ 9223372036854775807 ∧ l.length ≤ cap ∧ (l ≠ [] → ∃ g o, a = some ⟨g, o, none⟩ ∧ ∀ (k : Nat) (c : α), l[k]? = some c → ∀ (j : Nat) (u : Value), (cells c)[j]? = some u → w.cell? ⟨g, o + (k * N + j), none⟩ = some u)
theorem RowsAt.next {α : Type} {N : Nat} {cells : α → List Value} {w w' : World} {v : Value} {l : List α} (h : RowsAt N cells w v l) (k : Keep nob w w') : RowsAt N cells w' v l := by
  obtain ⟨a, cap, hv, hm, hcap, h⟩ := h
  exact ⟨a, cap, hv, hm, hcap, fun hl => let ⟨g, o, h1, h2⟩ := h hl; ⟨g, o, h1, fun i c hi j u hu => k.some (h2 i c hi j u hu) (fun x => x)⟩⟩
section
variable {H : Type} {enc : TypeId × Value → H} {w : World} {spare : Nat → Bool} {held : Bool}
theorem trod_cap {t e : TypeId} {v : Value} {d : DataW H} {p : List MemPlace} {base : Nat} (ht : Try.prog.underlying t = some (.slice e)) (h : DataW.Trod enc Try.prog w base spare held t v d p) (a : Option Addr) (len cap : Nat) (e : v = .slice a len cap) : len ≤ cap := by
  subst e
  obtain ⟨fuel, hf⟩ := h
  rcases open_slice ht hf with ⟨h1, h2⟩ | ⟨a', len', cap', m, n, D, Pl, hcs, hb, hl, _⟩
  · simp only [Value.cells, List.cons.injEq, and_true] at h1
    injection h1 with h1 h2 h3
    omega
  · simp only [Value.cells, List.cons.injEq, and_true] at hcs
    injection hcs with h1 h2 h3
    omega
theorem open_flat {α : Type} {t e N : Nat} {v : Value} {d : DataW H} {p : List MemPlace} {r : Reach} {b0 base : Nat} {ks : List CK} (cells : α → List Value) (fine : α → Prop) (ht : Try.prog.underlying t = some (.slice e)) (hC : Try.prog.cellsOf e = N) (hN : 0 < N)
    (hF : Flat e ks) (hc : ∀ cs, HasAll ks cs → ∃ o, fine o ∧ cs = cells o) (hv : Value.okWide Try.prog w r b0 t v) (h : DataW.Trod enc Try.prog w base spare held t v d p) : ∃ l : List α, RowsAt N cells w v l ∧ ∀ o ∈ l, fine o := by
  obtain ⟨l, ⟨a, cap, hv', hm, hl⟩, hq⟩ := open_rows (N := N) (fun cs => ∃ o, fine o ∧ cs = cells o) ht hC hN (fun n cs y hy => hc cs (hF _ _ _ _ _ _ _ _ _ hy)) hv h
  obtain ⟨ls, hlen, hls⟩ := list_of (n := l.length) (R := fun i o => fine o ∧ l[i]? = some (cells o)) (fun i hi => by
    obtain ⟨_, o, ho, e⟩ := hq l[i] (List.getElem_mem hi)
    exact ⟨o, ho, by rw [List.getElem?_eq_getElem hi, e]⟩)
  refine ⟨ls, ⟨a, cap, by rw [hlen]; exact hv', by omega, by rw [hlen]; exact trod_cap ht h _ _ _ hv', fun hne => ?_⟩, fun o ho => ?_⟩
  · obtain ⟨g, o, h1, h2⟩ := hl (by intro e; rw [e] at hlen; exact hne (List.eq_nil_of_length_eq_zero hlen))
    exact ⟨g, o, h1, fun k c hk j u hu => h2 k _ (hls k c hk).2 j u hu⟩
  · obtain ⟨k, hk⟩ := List.mem_iff_getElem?.1 ho
    exact (hls k o hk).1
end
theorem wfI_of {x : Int} (h : (Lit.int .i64 x).wf = true) : wfI x := by
  have := bounds_i64 h
  unfold wfI
  omega
/-! ### Pairs of numbers -/
def pairCells (x : Int × Int) : List Value := [.int .i64 x.1, .int .i64 x.2]
def pairFine (x : Int × Int) : Prop := wfI x.1 ∧ wfI x.2
theorem pair_has (cs : List Value) (h : HasAll [.i .i64, .i .i64] cs) : ∃ o, pairFine o ∧ cs = pairCells o := by
  obtain ⟨a, r1, e1, ⟨x, x1, hx⟩, h1⟩ := HasAll.cons h
  obtain ⟨b, r2, e2, ⟨y, y1, hy⟩, h2⟩ := HasAll.cons h1
  have e3 := HasAll.nil h2
  rw [e1, e2, e3, x1, y1]
  exact ⟨(x, y), ⟨wfI_of hx, wfI_of hy⟩, rfl⟩
abbrev PairsAt (w : World) (v : Value) (l : List (Int × Int)) : Prop := RowsAt 2 pairCells w v l
end Go.Proofs.Ytepmljcapobodaa
