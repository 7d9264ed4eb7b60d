/- Rows of one's own (slices that were made by appends): how they are kept, what an append to one keeps. -/
import Derived.Test.YtepmljcapobodaaLib
import Derived.Laws.AppendOwn
namespace Go.Proofs.Ytepmljcapobodaa
open Go.RowKit
theorem own_keep {w w' : World} {base : Nat} {e : TypeId} {size n : Nat} {v : Value} {xs : List Value} {S : Nat → Prop} (h : w.ownsRow base e size v n xs) (k : Keep S w w') (hS : ∀ g, base ≤ g → ¬ S g) :
    w'.ownsRow base e size v n xs := by
  obtain ⟨hl, h | ⟨g, cap, cur, h1, h2, h3, h4⟩⟩ := h
  · exact ⟨hl, Or.inl h⟩
  · exact ⟨hl, Or.inr ⟨g, cap, cur, h1, h2, (k.block g (Array.getElem?_eq_some_iff.1 h3).1 (hS g h2)).trans h3, h4⟩⟩
theorem own_next {w w' : World} {base : Nat} {e : TypeId} {size n : Nat} {v : Value} {xs : List Value} (h : w.ownsRow base e size v n xs) (k : Keep nob w w') : w'.ownsRow base e size v n xs :=
  own_keep h k (fun _ _ x => x)
/-- A store elsewhere: the row of E's stays where another block is written. -/
theorem own_base {w : World} {base base' : Nat} {e : TypeId} {size n : Nat} {v : Value} {xs : List Value} (h : w.ownsRow base e size v n xs) (hb : base' ≤ base) : w.ownsRow base' e size v n xs := by
  obtain ⟨hl, h | ⟨g, cap, cur, h1, h2, h3⟩⟩ := h
  · exact ⟨hl, Or.inl h⟩
  · exact ⟨hl, Or.inr ⟨g, cap, cur, h1, Nat.le_trans hb h2, h3⟩⟩
theorem own_block {w : World} {base : Nat} {e : TypeId} {size n : Nat} {v : Value} {xs : List Value} (h : w.ownsRow base e size v n xs) (g : Nat) (hg : some g = v.ownBlock) : base ≤ g := by
  obtain ⟨hl, ⟨rfl, _⟩ | ⟨g', cap, cur, rfl, h2, h3⟩⟩ := h
  · cases hg
  · simp only [Value.ownBlock] at hg
    injection hg with hg
    omega
theorem keep_of_own {w w' : World} {base : Nat} {e : TypeId} {size n : Nat} {v : Value} {xs : List Value} (h : w.ownsRow base e size v n xs) (k : w.grownBy w' v.ownBlock) : Keep (since base) w w' :=
  ⟨k.os, k.tape, k.output, k.size, fun q hq hs => k.block q hq (fun e => hs (own_block h q e))⟩
/-- What was kept since w, behind an append to a row from base on. -/
theorem Keep.own_into {a b c : World} {base : Nat} (h : Keep Ytepmljcapobodaa.nob a b) (k : Keep (since base) b c) (hb : a.heap.size ≤ base) : Keep Ytepmljcapobodaa.nob a c :=
  h.trans k (fun q hq e => by have e : base ≤ q := e; show False; omega)
theorem own_cell {w : World} {base : Nat} {e : TypeId} {n : Nat} {v : Value} {xs : List Value} (h : w.ownsRow base e 1 v n xs) (hn : 0 < n) :
    ∃ g cap, v = .slice (some ⟨g, 0, none⟩) n cap ∧ base ≤ g ∧ n ≤ cap ∧ ∀ j u, xs[j]? = some u → w.cell? ⟨g, j, none⟩ = some u ∧ w.frozen? ⟨g, j, none⟩ = false := by
  obtain ⟨hl, ⟨_, h⟩ | ⟨g, cap, cur, rfl, h2, h3, h4, h5, h6, h7⟩⟩ := h
  · omega
  · refine ⟨g, cap, rfl, h2, h4, fun j u hu => ?_⟩
    have hj : j < xs.length := (List.getElem?_eq_some_iff.1 hu).1
    rw [← h7] at hu
    rw [List.getElem?_take] at hu
    split at hu
    · refine ⟨?_, ?_⟩
      · simp only [World.cell?, h3]
        simpa using hu
      · simp only [World.frozen?, h3]
        simp
    · cases hu
theorem new_at (w : World) (cs : Array Value) (t : TypeId) (j : Nat) (u : Value) (h : cs.toList[j]? = some u) : (w.alloc (.cells cs t)).cell? ⟨w.heap.size, j, none⟩ = some u := by
  rw [World.cell?_alloc_new]
  simpa using h
theorem drew_cell (w : World) (p : Addr) : w.drew.cell? p = w.cell? p := rfl
theorem new_free (w : World) (cs : Array Value) (t : TypeId) (j : Nat) : (w.alloc (.cells cs t)).frozen? ⟨w.heap.size, j, none⟩ = false := by
  simp only [World.frozen?, World.alloc, Array.getElem?_push_size]
  rw [Bool.and_eq_false_iff]
  right
  exact decide_eq_false (by omega)
/-- Stores into one block. -/
theorem Keep.store {a w : World} {b : Nat} (h : Keep (only b) a w) (k : Nat) (v : Value) : Keep (only b) a (w.setCell ⟨b, k, none⟩ v) := Keep.setCell h (p := ⟨b, k, none⟩) v (Or.inr rfl)
/-- A store into a block that is new since a. -/
theorem Keep.fresh {S : Nat → Prop} {a w : World} (h : Keep S a w) {b : Nat} (k : Nat) (v : Value) (hb : a.heap.size ≤ b) : Keep S a (w.setCell ⟨b, k, none⟩ v) := Keep.setCell h (p := ⟨b, k, none⟩) v (Or.inl hb)
end Go.Proofs.Ytepmljcapobodaa
