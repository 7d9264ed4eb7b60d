/- A pool of one range from 0 on. -/
import Derived.Test.YtepmljcapobodaaDoorPalAwake
namespace Go.Proofs.YtepmljcapobodaaDoor
open Go.RowKit
set_option linter.unusedVariables false
set_option maxRecDepth 100000
theorem ranges1 (w : World) (a b : Int) (T : TypeId) (ha : wfI a) (hb : wfI b) : RangesAt (w.alloc (.cells #[.int .i64 a, .int .i64 b] T)) ⟨w.heap.size, 0, none⟩ [(a, b)] := by
  refine ⟨fun j hj => ?_, fun j hj => ?_, fun j => ?_, rfl⟩
  · obtain rfl : j = 0 := by have hj : j < 1 := hj; omega
    exact new_at _ _ _ 0 _ rfl
  · obtain rfl : j = 0 := by have hj : j < 1 := hj; omega
    exact new_at _ _ _ 1 _ rfl
  · rcases j with _ | j
    · exact ⟨ha, hb⟩
    · exact ⟨by unfold wfI; simp, by unfold wfI; simp⟩
theorem one_new {w w1 : World} (K : Keep nob w w1) {b mf n : Nat} {c : Nat → Int} (M : MemAt w1 b mf n c) (hm : w.heap.size ≤ mf) :
    Calls Tryd.prog 18 #[.pointer (some ⟨b, 0, none⟩), .slice (some ⟨w1.heap.size, 0, none⟩) 1 1] (w1.alloc (.cells #[.int .i64 0, .int .i64 n] 31)) fun r w' =>
      ∃ B : PB, r = .returned (.tuple #[.pointer (some ⟨B.p, 0, none⟩), .int .i64 0]) ∧ Geo B ∧ PoolAt w' B c (fun _ => 0) 0 ∧ Since w B ∧ (∀ x : Int, B.inr 0 x ↔ 0 ≤ x ∧ x < n) ∧ B.l.length = 1 ∧ B.b = b ∧ B.mf = mf ∧ B.n = n ∧ w1.heap.size < B.lo ∧ B.hi = w'.heap.size ∧ Keep nob w w' := by
  have hn := M.lo
  have hn2 := M.hi
  refine (pool_new (M.next ((Keep.refl _ _).alloc _)) _ 1 [(0, (n : Int))] (ranges1 w1 0 n 31 (by unfold wfI; omega) (by unfold wfI; omega)) (by simp) (by simp) (by simp)).mono ?_
  rintro r w2 (⟨V, -⟩ | ⟨V, B, rfl, G, hb, hmf, hbn, hl, hlo, hhi, P, K2⟩)
  · exfalso
    apply V
    refine ⟨by simp, by simp, fun k hk => ?_⟩
    obtain rfl : k = 0 := by have hk : k < 1 := hk; omega
    exact ⟨by unfold fits; simp; omega, fun i hi => absurd hi (Nat.not_lt_zero i)⟩
  have e : (w1.alloc (.cells #[.int .i64 0, .int .i64 n] 31)).heap.size = w1.heap.size + 1 := World.size_alloc _ _
  have ks := K.size
  refine ⟨B, rfl, G, P, ⟨by omega, by omega⟩, fun x => ?_, by rw [hl]; rfl, hb, hmf, hbn, by omega, hhi, K.trans (((Keep.refl nob _).alloc _).trans K2 (fun _ _ x => x)) (fun _ _ x => x)⟩
  unfold PB.inr PB.fr PB.mn
  rw [hl]
  show (0 < 1 ∧ ((0 : Nat) : Int) ≤ x ∧ x < ((0 : Nat) : Int) + (((n : Int).toNat : Nat) : Int)) ↔ _
  omega
theorem freE_yes {B : PB} (G : Geo B) {f : Int → Int} {x : Int} {j : Nat} (h : B.inr j x) (h0 : f x ≠ 0) : freE B f x = 0 ∧ freF B f x = updI f x (f x - 1) := by
  have e : freE B f x = 0 := by unfold freE; rw [ownE_in G h]; simp [h0]
  exact ⟨e, by unfold freF; rw [if_pos e]⟩
theorem freE_no {B : PB} (G : Geo B) {f : Int → Int} {x : Int} {j : Nat} (h : B.inr j x) (h0 : f x = 0) : freE B f x = 4 ∧ freF B f x = f := by
  have e : freE B f x = 4 := by unfold freE; rw [ownE_in G h]; simp [h0]
  exact ⟨e, by unfold freF; rw [if_neg (by rw [e]; decide)]⟩
end Go.Proofs.YtepmljcapobodaaDoor
