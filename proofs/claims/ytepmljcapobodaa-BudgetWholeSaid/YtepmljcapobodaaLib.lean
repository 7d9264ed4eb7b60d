/- Small general lemmas: how a world is kept but for some blocks, and reading cells of blocks that are kept. -/
import Derived.WalkKit
import Derived.WalkSpells
import Derived.WalkLawsBesides
import Derived.Outline
import Derived.Lib.Hide
import Derived.Laws.ResultCell
import Derived.Deep.RegionLawGrows
import Derived.Lib.SmallJoins
import Derived.Deep.MidRow
namespace Go.Proofs.Ytepmljcapobodaa
open Go.RowKit

/-- All blocks of w but those of S are as they were; nothing else of w has turned. -/
structure Keep (S : Nat → Prop) (w w' : World) : Prop where
  os : w'.os = w.os
  tape : w'.tape = w.tape
  output : w'.output = w.output
  size : w.heap.size ≤ w'.heap.size
  block : ∀ k, k < w.heap.size → ¬ S k → w'.heap[k]? = w.heap[k]?

def nob : Nat → Prop := fun _ => False

def only (b : Nat) : Nat → Prop := fun k => k = b

theorem Keep.refl (S : Nat → Prop) (w : World) : Keep S w w := ⟨rfl, rfl, rfl, Nat.le_refl _, fun _ _ _ => rfl⟩
theorem Keep.trans {S T : Nat → Prop} {a b c : World} (h : Keep S a b) (k : Keep T b c) (hT : ∀ k, k < a.heap.size → T k → S k) : Keep S a c :=
  ⟨k.os.trans h.os, k.tape.trans h.tape, k.output.trans h.output, Nat.le_trans h.size k.size,
    fun i hi hs => (k.block i (Nat.lt_of_lt_of_le hi h.size) (fun t => hs (hT i hi t))).trans (h.block i hi hs)⟩
theorem Keep.mono {S T : Nat → Prop} {a b : World} (h : Keep S a b) (hT : ∀ k, k < a.heap.size → S k → T k) : Keep T a b :=
  ⟨h.os, h.tape, h.output, h.size, fun i hi ht => h.block i hi (fun s => ht (hT i hi s))⟩
theorem Keep.nob {S : Nat → Prop} {a b : World} (h : Keep nob a b) : Keep S a b := h.mono (fun _ _ f => f.elim)
theorem Keep.then {S : Nat → Prop} {a b c : World} (h : Keep S a b) (k : Keep Ytepmljcapobodaa.nob b c) : Keep S a c := h.trans k (fun _ _ f => f.elim)
theorem Keep.drew {S : Nat → Prop} {a w : World} (h : Keep S a w) : Keep S a w.drew := ⟨h.os, h.tape, h.output, h.size, h.block⟩
theorem Keep.drewN {S : Nat → Prop} {a w : World} (h : Keep S a w) (n : Nat) : Keep S a (w.drewN n) := ⟨h.os, h.tape, h.output, h.size, h.block⟩
theorem Keep.alloc {S : Nat → Prop} {a w : World} (h : Keep S a w) (o : Obj) : Keep S a (w.alloc o) :=
  ⟨h.os, h.tape, h.output, Nat.le_trans h.size (by simp), fun i hi hs => (Below.heap_alloc w o i (Nat.lt_of_lt_of_le hi h.size)).trans (h.block i hi hs)⟩
theorem Keep.setCell {S : Nat → Prop} {a w : World} (h : Keep S a w) {p : Addr} (v : Value) (hp : a.heap.size ≤ p.block ∨ S p.block) : Keep S a (w.setCell p v) :=
  ⟨h.os, h.tape, h.output, Nat.le_trans h.size (by simp [World.setCell]), fun i hi hs => (Below.heap_setCell w p v i (by
    rintro rfl
    rcases hp with hp | hp
    · omega
    · exact hs hp)).trans (h.block i hi hs)⟩
def since (B : Nat) : Nat → Prop := fun k => B ≤ k
theorem Keep.into {B f : Nat} {a b c : World} (h : Keep (since B) a b) (k : Keep (only f) b c) (hf : B ≤ f) : Keep (since B) a c :=
  h.trans k (fun q _ e => by have e : q = f := e; show B ≤ q; omega)
theorem Keep.to {B : Nat} {a b : World} (h : Keep Ytepmljcapobodaa.nob a b) : Keep (since B) a b := h.nob
theorem Keep.own {a b : World} (h : Keep (since a.heap.size) a b) : Keep Ytepmljcapobodaa.nob a b := h.mono (fun q hq e => by have e : a.heap.size ≤ q := e; show False; omega)
theorem keep_of_grown {w w' : World} (h : w.grownBy w' none) : Keep Ytepmljcapobodaa.nob w w' := ⟨h.os, h.tape, h.output, h.size, fun k hk _ => h.block k hk (by simp)⟩
theorem Keep.below {a b : World} (h : Keep Ytepmljcapobodaa.nob a b) : Below a.heap.size a b := ⟨h.os, h.tape, h.output, h.size, fun k hk => h.block k hk (fun f => f)⟩
theorem Keep.of_below {S : Nat → Prop} {a b : World} (h : Below a.heap.size a b) : Keep S a b := ⟨h.os, h.tape, h.output, h.size, fun k hk _ => h.block k hk⟩
theorem Keep.cell {S : Nat → Prop} {a b : World} (h : Keep S a b) {p : Addr} (hp : p.block < a.heap.size) (hs : ¬ S p.block) : b.cell? p = a.cell? p :=
  World.cell?_of_block (w := a) (h.block p.block hp hs)
theorem Keep.frozen {S : Nat → Prop} {a b : World} (h : Keep S a b) {p : Addr} (hp : p.block < a.heap.size) (hs : ¬ S p.block) : b.frozen? p = a.frozen? p :=
  World.frozen?_of_block (w := a) (h.block p.block hp hs)
theorem Keep.some {S : Nat → Prop} {a b : World} (h : Keep S a b) {p : Addr} {v : Value} (hv : a.cell? p = some v) (hs : ¬ S p.block) : b.cell? p = some v :=
  (h.cell (World.block_lt_of_cell? _ _ hv) hs).trans hv
/-- Behind several steps: the blocks that were written are below, new blocks free. -/
theorem Keep.old {S : Nat → Prop} {a b : World} (h : Keep S a b) (hS : ∀ k, k < a.heap.size → ¬ S k) : Below a.heap.size a b :=
  ⟨h.os, h.tape, h.output, h.size, fun k hk => h.block k hk (hS k hk)⟩
theorem alloc_lt {w : World} {o : Obj} {a : Addr} (h : a.block < w.heap.size) : (w.alloc o).cell? a = w.cell? a := by
  cases a with
  | mk b i s => simp only [World.cell?, World.alloc]; rw [Array.getElem?_push_lt h, Array.getElem?_eq_getElem h]
theorem setCell_eq {w : World} {a : Addr} {u v : Value} (h : w.cell? a = some u) : (w.setCell a v).cell? a = some v := World.cell?_setCell_same _ _ _ h
theorem setCell_blk {w : World} {a p : Addr} {v : Value} (h : a.block ≠ p.block) : (w.setCell a v).cell? p = w.cell? p :=
  World.cell?_setCell_other _ _ _ _ (fun e => h (by rw [e]))
theorem setCell_off {w : World} {a p : Addr} {v : Value} (h : a.off ≠ p.off) : (w.setCell a v).cell? p = w.cell? p :=
  World.cell?_setCell_other _ _ _ _ (fun e => h (by rw [e]))
theorem frozen_setCell (w : World) (a p : Addr) (v : Value) : (w.setCell a v).frozen? p = w.frozen? p := by
  simp only [World.frozen?, World.setCell, Array.getElem?_modify]
  by_cases h : a.block = p.block
  · rw [if_pos h]
    cases w.heap[p.block]? with
    | none => rfl
    | some o => cases o <;> rfl
  · rw [if_neg h]
end Go.Proofs.Ytepmljcapobodaa
