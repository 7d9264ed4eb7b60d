/- A pool of package palloc: its state, its laws, Owner, Refs, Left. -/
import Derived.Test.YtepmljcapobodaaDoorPick5
import Derived.Test.YtepmljcapobodaaDoorIntMap
import Derived.Test.YtepmljcapobodaaDoorMem2
namespace Go.Proofs.YtepmljcapobodaaDoor
open Go.RowKit
set_option linter.unusedVariables false
set_option maxRecDepth 100000
/-- Where a pool's parts lie. -/
structure PB where
  p : Nat
  g : Nat
  r : Nat
  s : Nat → Nat
  b : Nat
  mf : Nat
  n : Nat
  lo : Nat
  hi : Nat
  cap : Nat
  l : List (Nat × Nat)
def PB.fr (B : PB) (j : Nat) : Nat := (B.l.getD j (0, 0)).1
def PB.mn (B : PB) (j : Nat) : Nat := (B.l.getD j (0, 0)).2
/-- A number lies in the j-th range. -/
def PB.inr (B : PB) (j : Nat) (x : Int) : Prop := j < B.l.length ∧ B.fr j ≤ x ∧ x < B.fr j + B.mn j
/-- The ranges of a pool. -/
structure Geo (B : PB) : Prop where
  some : 1 ≤ B.l.length ∧ B.l.length ≤ 8
  fit : ∀ j, j < B.l.length → 1 ≤ B.mn j ∧ B.fr j + B.mn j ≤ B.n
  n : B.n ≤ 1024
  one : ∀ i j x, B.inr i x → B.inr j x → i = j
  p : B.lo ≤ B.p ∧ B.p < B.hi
  g : B.lo ≤ B.g ∧ B.g < B.hi
  r : B.lo ≤ B.r ∧ B.r < B.hi
  s : ∀ j, j < B.l.length → B.lo ≤ B.s j ∧ B.s j < B.hi ∧ B.s j ≠ B.p ∧ B.s j ≠ B.g ∧ B.s j ≠ B.r
  ss : ∀ i j, i < B.l.length → j < B.l.length → B.s i = B.s j → i = j
  pg : B.p ≠ B.g ∧ B.p ≠ B.r ∧ B.g ≠ B.r
  m : B.b < B.lo ∧ B.mf < B.lo
/-- How often each number is held. -/
structure RefsOk (B : PB) (f : Int → Int) : Prop where
  rng : ∀ x, 0 ≤ f x ∧ f x ≤ 64
  out : ∀ x, (∀ j, ¬ B.inr j x) → f x = 0
structure PoolAt (w : World) (B : PB) (c : Nat → Int) (f : Int → Int) (q : Nat) : Prop where
  mem : MemAt w B.b B.mf B.n c
  pm : w.cell? ⟨B.p, 0, none⟩ = some (.pointer (some ⟨B.b, 0, none⟩))
  pl : w.cell? ⟨B.p, 1, none⟩ = some (.slice (some ⟨B.g, 0, none⟩) B.l.length B.cap)
  pr : w.cell? ⟨B.p, 2, none⟩ = some (.map (some B.r))
  gs : ∀ j, j < B.l.length → w.cell? ⟨B.g, j * 3, none⟩ = some (.pointer (some ⟨B.s j, 0, none⟩))
  gf : ∀ j, j < B.l.length → w.cell? ⟨B.g, j * 3 + 1, none⟩ = some (.int .i64 (B.fr j))
  gm : ∀ j, j < B.l.length → w.cell? ⟨B.g, j * 3 + 2, none⟩ = some (.int .i64 (B.mn j))
  set : ∀ j, j < B.l.length → ∃ W, SetAt w (B.s j) W ∧ ∀ k : Nat, (memW W k = true ↔ B.inr j k ∧ f k = 0)
  map : MapI w B.r q f
/-- The blocks that a pool's calls may write. -/
def own (B : PB) : Nat → Prop := fun k => k = B.mf ∨ (B.lo ≤ k ∧ k < B.hi)
theorem PoolAt.keep {w w' : World} {B : PB} {c : Nat → Int} {f : Int → Int} {q : Nat} {S : Nat → Prop} (G : Geo B) (P : PoolAt w B c f q) (k : Keep S w w') (hb : ¬ S B.b) (hS : ∀ x, own B x → ¬ S x) : PoolAt w' B c f q := by
  have hp := hS B.p (Or.inr G.p)
  have hg := hS B.g (Or.inr G.g)
  have hr := hS B.r (Or.inr G.r)
  have hs := fun j hj => hS (B.s j) (Or.inr ⟨(G.s j hj).1, (G.s j hj).2.1⟩)
  exact ⟨P.mem.keep k hb (hS _ (Or.inl rfl)), k.some P.pm hp, k.some P.pl hp, k.some P.pr hp, fun j hj => k.some (P.gs j hj) hg, fun j hj => k.some (P.gf j hj) hg, fun j hj => k.some (P.gm j hj) hg,
    fun j hj => let ⟨W, h1, h2⟩ := P.set j hj; ⟨W, h1.keep k (hs j hj), h2⟩, P.map.keep k hr⟩
theorem PoolAt.next {w w' : World} {B : PB} {c : Nat → Int} {f : Int → Int} {q : Nat} (G : Geo B) (P : PoolAt w B c f q) (k : Keep nob w w') : PoolAt w' B c f q := P.keep G k (fun x => x) (fun _ _ x => x)
theorem PoolAt.mono {w : World} {B : PB} {c : Nat → Int} {f : Int → Int} {q r : Nat} (P : PoolAt w B c f q) (h : q ≤ r) : PoolAt w B c f r := ⟨P.mem, P.pm, P.pl, P.pr, P.gs, P.gf, P.gm, P.set, P.map.mono h⟩
theorem none_ok {w : World} {B : PB} {c : Nat → Int} {f : Int → Int} {q : Nat} (P : PoolAt w B c f q) :
    Calls Tryd.prog 53 #[.pointer (some ⟨B.p, 0, none⟩)] w fun r w' => r = .returned (.bool false) ∧ w = w' := by
  have c0 := P.pm
  clear P
  go_enter Tryd.func53, Tryd.ntmps53
  go_wp2_with fail
  go_ret
  exact ⟨rfl, rfl⟩
theorem refs_ok {w : World} {B : PB} {c : Nat → Int} {f : Int → Int} {q : Nat} (P : PoolAt w B c f q) (x : Int) (hx : wfI x) :
    Calls Tryd.prog 21 #[.pointer (some ⟨B.p, 0, none⟩), .int .i64 x] w fun r w' => r = .returned (.int .i64 (f x)) ∧ w = w' := by
  have c2 := P.pr
  have M := Lib.hid P.map
  have P := Lib.hid P
  have hx := Lib.hid hx
  go_enter Tryd.func21, Tryd.ntmps21
  go_wp2_with fail
  refine Calls.mono (none_ok P.out) ?_
  rintro r w1 ⟨rfl, rfl⟩
  go_wp2_with (at_lookup; refine wpList_look rfl _ _ rfl B.r q f M.out x hx.out rfl rfl ?_)
  go_ret
  exact ⟨rfl, rfl⟩
end Go.Proofs.YtepmljcapobodaaDoor
