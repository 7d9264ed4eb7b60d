/- A pool of two ranges, the second behind the first; plain laws of answers. -/
import Derived.Test.YtepmljcapobodaaDoorPalAns
namespace Go.Proofs.YtepmljcapobodaaDoor
open Go.RowKit
set_option linter.unusedVariables false
set_option maxRecDepth 100000
theorem RangesAt.next {w w' : World} {a : Addr} {L : List (Int × Int)} (h : RangesAt w a L) (k : Keep nob w w') : RangesAt w' a L :=
  ⟨fun j hj => k.some (h.fr j hj) (fun x => x), fun j hj => k.some (h.mn j hj) (fun x => x), h.wf, h.nost⟩
theorem two_new {w w1 : World} (K : Keep nob w w1) {b mf n : Nat} {c : Nat → Int} (M : MemAt w1 b mf n c) (hm : w.heap.size ≤ mf) (ad : Addr) (cap x y : Nat) (hx : 1 ≤ x) (hy : 1 ≤ y) (hn : x + y ≤ n) (R : RangesAt w1 ad [((0 : Int), (x : Int)), ((x : Int), (y : Int))]) (hcap : 2 ≤ cap) :
    Calls Tryd.prog 18 #[.pointer (some ⟨b, 0, none⟩), .slice (some ad) 2 cap] w1 fun r w' =>
      ∃ B : PB, r = .returned (.tuple #[.pointer (some ⟨B.p, 0, none⟩), .int .i64 0]) ∧ Geo B ∧ PoolAt w' B c (fun _ => 0) 0 ∧ Since w B ∧ (∀ k : Int, B.inr 0 k ↔ 0 ≤ k ∧ k < x) ∧ (∀ k : Int, B.inr 1 k ↔ x ≤ k ∧ k < x + y) ∧ B.l = [(0, x), (x, y)] ∧ B.b = b ∧ B.mf = mf ∧ B.n = n ∧ w1.heap.size ≤ B.lo ∧ B.hi = w'.heap.size ∧ Keep nob w1 w' := by
  have hlo := M.lo
  have hhi := M.hi
  refine (pool_new M ad cap [((0 : Int), (x : Int)), ((x : Int), (y : Int))] R (by simp) (by simp) hcap).mono ?_
  rintro r w2 (⟨V, -⟩ | ⟨V, B, rfl, G, hb, hmf, hbn, hl, hlo, hhi, P, K2⟩)
  · exfalso
    apply V
    refine ⟨by simp, by simp, fun k hk => ?_⟩
    rcases k with _ | _ | k
    · exact ⟨by unfold fits; simp; omega, fun i hi => absurd hi (Nat.not_lt_zero i)⟩
    · refine ⟨by unfold fits; simp; omega, fun i hi => ?_⟩
      obtain rfl : i = 0 := by omega
      unfold meet; simp
    · exfalso; have hk : k + 1 + 1 < 2 := hk; omega
  have ks := K.size
  have el : B.l = [(0, x), (x, y)] := by rw [hl]; unfold natL; simp
  refine ⟨B, rfl, G, P, ⟨by omega, by omega⟩, fun k => ?_, fun k => ?_, el, hb, hmf, hbn, by omega, hhi, K2⟩
  · unfold PB.inr PB.fr PB.mn
    rw [el]
    show (0 < 2 ∧ ((0 : Nat) : Int) ≤ k ∧ k < ((0 : Nat) : Int) + ((x : Nat) : Int)) ↔ _
    omega
  · unfold PB.inr PB.fr PB.mn
    rw [el]
    show (1 < 2 ∧ ((x : Nat) : Int) ≤ k ∧ k < ((x : Nat) : Int) + ((y : Nat) : Int)) ↔ _
    omega
/-! ### Two counts that agree on a range -/
theorem leastN_eq {A B : PB} {f g : Int → Int} {i j : Nat} (h : ∀ x : Int, A.inr i x ↔ B.inr j x) (hf : ∀ x : Int, A.inr i x → f x = g x) : leastN A f i = leastN B g j := by
  unfold leastN
  congr 1
  funext n
  apply decide_eq_decide.2
  constructor
  · rintro ⟨a, b⟩; exact ⟨(h _).1 a, by rw [← hf _ a, b]⟩
  · rintro ⟨a, b⟩; exact ⟨(h _).2 a, by rw [hf _ ((h _).2 a), b]⟩
theorem leftN_eq {A B : PB} {f g : Int → Int} {i j : Nat} (h : ∀ x : Int, A.inr i x ↔ B.inr j x) (hf : ∀ x : Int, A.inr i x → f x = g x) : leftN A f i = leftN B g j := by
  unfold leftN
  apply cnt_congr
  intro n _
  apply decide_eq_decide.2
  constructor
  · rintro ⟨a, b⟩; exact ⟨(h _).1 a, by rw [← hf _ a, b]⟩
  · rintro ⟨a, b⟩; exact ⟨(h _).2 a, by rw [hf _ ((h _).2 a), b]⟩
theorem left_all {B : PB} {f : Int → Int} {n : Nat} (hn : n ≤ 1024) (h : ∀ x : Int, B.inr 0 x ↔ 0 ≤ x ∧ x < n) (hf : ∀ x : Int, 0 ≤ x → x < n → f x = 0) : leftN B f 0 = n := by
  unfold leftN
  rw [cnt_congr (Q := fun k => decide (k < n)) _ (fun k hk => by
    have := h k
    by_cases q : k < n
    · simp only [q, decide_true]; exact decide_eq_true ⟨this.2 (by omega), hf _ (by omega) (by omega)⟩
    · simp only [q, decide_false]; exact decide_eq_false (fun e => q (by have := (this.1 e.1).2; omega)))]
  exact cnt_lt n 1024 hn
theorem ownE_eq {A B : PB} (h : A.l = B.l) (x : Int) : ownE A x = ownE B x := by
  have e : ownE A x = ownE A.norm x := rfl
  have e2 : ownE B x = ownE B.norm x := rfl
  rw [e, e2, norm_eq h]
theorem shaE_eq {A B : PB} (h : A.l = B.l) {f g : Int → Int} {x : Int} (hf : f x = g x) : shaE A f x = shaE B g x := by
  unfold shaE; rw [ownE_eq h, hf]
theorem freE_eq {A B : PB} (h : A.l = B.l) {f g : Int → Int} {x : Int} (hf : f x = g x) : freE A f x = freE B g x := by
  unfold freE; rw [ownE_eq h, hf]
theorem updI_ne {f : Int → Int} {x v y : Int} (h : y ≠ x) : updI f x v y = f y := if_neg h
theorem updI_at (f : Int → Int) (x v : Int) : updI f x v x = v := if_pos rfl
theorem shaF_ne (B : PB) (f : Int → Int) {x y : Int} (h : y ≠ x) : shaF B f x y = f y := by
  unfold shaF; split
  · exact updI_ne h
  · rfl
theorem freF_ne (B : PB) (f : Int → Int) {x y : Int} (h : y ≠ x) : freF B f x y = f y := by
  unfold freF; split
  · exact updI_ne h
  · rfl
theorem shaF_at {A B : PB} (h : A.l = B.l) {f g : Int → Int} {x : Int} (hf : f x = g x) : shaF A f x x = shaF B g x x := by
  unfold shaF; rw [shaE_eq h hf]; split
  · rw [updI_at, updI_at, hf]
  · exact hf
theorem freF_at {A B : PB} (h : A.l = B.l) {f g : Int → Int} {x : Int} (hf : f x = g x) : freF A f x x = freF B g x x := by
  unfold freF; rw [freE_eq h hf]; split
  · rw [updI_at, updI_at, hf]
  · exact hf
/-- Alloc turns one number of the range alone. -/
theorem allF_ne (B : PB) (f : Int → Int) {x y : Int} (h : ¬ B.inr x.toNat y ∨ x < 0) : allF B f x y = f y := by
  unfold allF
  cases e : allN B f x with
  | none => rfl
  | some n =>
    simp only
    unfold allN at e
    split at e
    · rename_i hx
      have q := (leastN_some e).1
      unfold updI
      rw [if_neg]
      rintro rfl
      rcases h with h | h
      · exact h q
      · omega
    · cases e
theorem allE_eq {A B : PB} {f g : Int → Int} {x : Int} (hl : A.l.length = B.l.length) (h : ∀ y : Int, A.inr x.toNat y ↔ B.inr x.toNat y) (hf : ∀ y : Int, A.inr x.toNat y → f y = g y) : allE A f x = allE B g x ∧ allN A f x = allN B g x := by
  unfold allE allN
  rw [hl, leastN_eq h hf]
  exact ⟨rfl, rfl⟩
theorem allF_at {A B : PB} {f g : Int → Int} {x y : Int} (h : allN A f x = allN B g x) (hf : f y = g y) : allF A f x y = allF B g x y := by
  unfold allF; rw [h]
  cases allN B g x with
  | none => exact hf
  | some n => simp only; unfold updI; rw [hf]
end Go.Proofs.YtepmljcapobodaaDoor
