/- What a law's arguments hold: slices of structs, structs by value, told as lists of numbers. -/
import Derived.Test.YtepmljcapobodaaRows
import Derived.Test.YtepmljcapobodaaLib
import Derived.ProofKit
import Derived.OpenShut
import Derived.ChangeOld
import Derived.Below
import Derived.Deep.Slices
import Derived.Deep.Fields
namespace Go.Proofs.Ytepmljcapobodaa
open Go.ChangeShapes Go.WideShapes Go.ChangeAt Go.RowKit Go.Deep
set_option linter.unusedVariables false
set_option maxRecDepth 100000

section
variable {H : Type} {enc : TypeId × Value → H} {w : World} {spare : Nat → Bool} {held : Bool}
/-- Of the numbers below n, each of which has something: the list of it. -/
theorem list_of {α : Type} {n : Nat} {R : Nat → α → Prop} (h : ∀ i, i < n → ∃ x, R i x) : ∃ l : List α, l.length = n ∧ ∀ i x, l[i]? = some x → R i x := by
  induction n with
  | zero => exact ⟨[], rfl, fun i x hx => by simp at hx⟩
  | succ n ih =>
    obtain ⟨l, hl, hr⟩ := ih (fun i hi => h i (by omega))
    obtain ⟨y, hy⟩ := h n (by omega)
    refine ⟨l ++ [y], by simp [hl], fun i x hx => ?_⟩
    by_cases hi : i < l.length
    · rw [List.getElem?_append_left hi] at hx
      exact hr i x hx
    · rw [List.getElem?_append_right (by omega)] at hx
      have : i - l.length = 0 := by
        have := (List.getElem?_eq_some_iff.1 hx).1
        simp at this
        omega
      rw [this] at hx
      have hi' : i = n := by omega
      subst hi'
      simp only [List.getElem?_cons_zero] at hx
      injection hx with hx
      exact hx ▸ hy
/-- The slice v holds l, each element of it N cells. -/
def CellsAt (w : World) (N : Nat) (v : Value) (l : List (List Value)) : Prop :=
  ∃ a cap, v = .slice a l.length cap ∧ l.length ≤ 9223372036854775807 ∧ (l ≠ [] → ∃ g o, a = some ⟨g, o, none⟩ ∧ ∀ (k : Nat) (cs : List Value), l[k]? = some cs → ∀ (j : Nat) (u : Value), cs[j]? = some u → w.cell? ⟨g, o + (k * N + j), none⟩ = some u)
theorem CellsAt.next {w w' : World} {N : Nat} {v : Value} {l : List (List Value)} (h : CellsAt w N v l) (k : Keep nob w w') : CellsAt w' N v l := by
  obtain ⟨a, cap, hv, hm, h⟩ := h
  exact ⟨a, cap, hv, hm, fun hl => let ⟨g, o, h1, h2⟩ := h hl; ⟨g, o, h1, fun i cs hi j u hu => k.some (h2 i cs hi j u hu) (fun x => x)⟩⟩
theorem CellsAt.old {w w' : World} {N : Nat} {v : Value} {l : List (List Value)} (h : CellsAt w N v l) (k : Keep (since w.heap.size) w w') : CellsAt w' N v l := h.next k.own
theorem add_plain {a : Addr} {n : Nat} {w : World} {u : Value} (h : w.cell? (a.add n) = some u) (hn : n = 0 ∨ a.spot = none) : a.spot = none := by
  rcases hn with rfl | hn
  · cases a with
    | mk b o s =>
      simp only [Addr.add, if_true, World.cell?] at h
      split at h
      · split at h
        · cases h
        · cases s with
          | none => rfl
          | some _ => simp_all
      · cases h
  · exact hn
theorem open_rows {t e N : Nat} {v : Value} {d : DataW H} {p : List MemPlace} {r : Reach} {b0 base : Nat} (Q : List Value → Prop) (ht : Try.prog.underlying t = some (.slice e)) (hC : Try.prog.cellsOf e = N) (hN : 0 < N)
    (hQ : ∀ n cs y, DataW.trod enc Try.prog w base spare held n e cs = some y → Q cs)
    (hv : Value.okWide Try.prog w r b0 t v) (h : DataW.Trod enc Try.prog w base spare held t v d p) :
    ∃ l : List (List Value), CellsAt w N v l ∧ (∀ cs ∈ l, cs.length = N ∧ Q cs) := by
  obtain ⟨a0, len, cap, rfl⟩ := okWide_slice ht hv
  obtain ⟨fuel, hf⟩ := h
  rcases open_slice ht hf with ⟨h1, h2⟩ | ⟨a, len', cap', m, n, D, Pl, hcs, hb, hl, hm, hmm, hx, hi⟩
  · simp only [Value.cells, List.cons.injEq, and_true] at h1
    injection h1 with h1 h2 h3
    subst h1; subst h2; subst h3
    exact ⟨[], ⟨none, 0, rfl, by decide, fun h => absurd rfl h⟩, fun cs hc => by simp at hc⟩
  · simp only [Value.cells, List.cons.injEq, and_true] at hcs
    injection hcs with h1 h2 h3
    subst h1; subst h2; subst h3
    have hmle : len ≤ m := by rw [hmm]; split <;> omega
    obtain ⟨l, hlen, hl2⟩ := list_of (n := len) (R := fun i cs => w.cells? base (a.add (i * Try.prog.cellsOf e)) (Try.prog.cellsOf e) = some cs ∧ Q cs) (fun i hi' => by
      obtain ⟨cs', g1, g2⟩ := hi i (by omega)
      exact ⟨cs', g1, hQ _ _ _ g2⟩)
    have key : ∀ (k : Nat) (cs : List Value), l[k]? = some cs → cs.length = N ∧ ∀ (j : Nat) (u : Value), cs[j]? = some u → w.cell? (a.add (k * N + j)) = some u := by
      intro k cs hk
      obtain ⟨g1, g2⟩ := hl2 k cs hk
      obtain ⟨_, g4, g5⟩ := World.cells?_some g1
      rw [hC] at g4 g5
      refine ⟨g4, fun j u hu => ?_⟩
      have := g5 j (by have := (List.getElem?_eq_some_iff.1 hu).1; omega)
      rw [hu, add_add] at this
      exact this
    refine ⟨l, ⟨some a, cap, by rw [hlen], by simp [maxLen] at hm; omega, fun hne => ?_⟩, fun cs hc => ?_⟩
    · have hspot : a.spot = none := by
        cases l with
        | nil => exact absurd rfl hne
        | cons c0 rest =>
          obtain ⟨q1, q2⟩ := key 0 c0 rfl
          cases c0 with
          | nil => simp at q1; omega
          | cons u us => exact add_plain (q2 0 u rfl) (Or.inl (by simp))
      cases a with
      | mk b o s =>
        simp only at hspot
        subst hspot
        refine ⟨b, o, rfl, fun k cs hk j u hu => ?_⟩
        have := (key k cs hk).2 j u hu
        rwa [Addr.add_mid] at this
    · obtain ⟨k, hk⟩ := List.mem_iff_getElem?.1 hc
      exact ⟨(key k cs hk).1, (hl2 k cs hk).2⟩
end
end Go.Proofs.Ytepmljcapobodaa
