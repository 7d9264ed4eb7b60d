/- Contracts of package budget: what a budget is; asked, Left. -/
import Derived.Test.YtepmljcapobodaaGen
import Derived.Test.YtepmljcapobodaaPtrMap
import Derived.Test.YtepmljcapobodaaBudP
namespace Go.Proofs.Ytepmljcapobodaa
open Go.RowKit
set_option linter.unusedVariables false
set_option linter.unusedSimpArgs false
set_option maxRecDepth 100000
def ndCells (x : Nd) : List Value := [.int .i64 x.id, .int .i64 x.up, .int .i64 x.qt, .int .i64 x.us]
theorem ndCells_len (x : Nd) : (ndCells x).length = 4 := rfl
/-- Block p is a container. -/
structure NdAt (w : World) (p : Nat) (x : Nd) : Prop where
  c0 : w.cell? ⟨p, 0, none⟩ = some (.int .i64 x.id)
  c1 : w.cell? ⟨p, 1, none⟩ = some (.int .i64 x.up)
  c2 : w.cell? ⟨p, 2, none⟩ = some (.int .i64 x.qt)
  c3 : w.cell? ⟨p, 3, none⟩ = some (.int .i64 x.us)
  z1 : w.frozen? ⟨p, 1, none⟩ = false
  z3 : w.frozen? ⟨p, 3, none⟩ = false
theorem NdAt.keep {w w' : World} {p : Nat} {x : Nd} {S : Nat → Prop} (h : NdAt w p x) (k : Keep S w w') (hs : ¬ S p) : NdAt w' p x :=
  ⟨k.some h.c0 hs, k.some h.c1 hs, k.some h.c2 hs, k.some h.c3 hs, (k.frozen (p := ⟨p, 1, none⟩) (World.block_lt_of_cell? _ _ h.c1) hs).trans h.z1, (k.frozen (p := ⟨p, 3, none⟩) (World.block_lt_of_cell? _ _ h.c3) hs).trans h.z3⟩
theorem NdAt.next {w w' : World} {p : Nat} {x : Nd} (h : NdAt w p x) (k : Keep nob w w') : NdAt w' p x := h.keep k (fun x => x)
theorem NdAt.new (w : World) (id up qt us : Int) : NdAt (w.alloc (.cells #[.int .i64 id, .int .i64 up, .int .i64 qt, .int .i64 us] 35)) w.heap.size ⟨id, up, qt, us⟩ :=
  ⟨new_at w _ _ 0 _ rfl, new_at w _ _ 1 _ rfl, new_at w _ _ 2 _ rfl, new_at w _ _ 3 _ rfl, new_free w _ _ 1, new_free w _ _ 3⟩
theorem NdAt.setUs {w : World} {p : Nat} {x : Nd} (h : NdAt w p x) (n : Int) : NdAt (w.setCell ⟨p, 3, none⟩ (.int .i64 n)) p { x with us := n } :=
  ⟨by rw [setCell_off (by show (3 : Nat) ≠ 0; decide)]; exact h.c0, by rw [setCell_off (by show (3 : Nat) ≠ 1; decide)]; exact h.c1, by rw [setCell_off (by show (3 : Nat) ≠ 2; decide)]; exact h.c2, setCell_eq h.c3, by rw [frozen_setCell]; exact h.z1, by rw [frozen_setCell]; exact h.z3⟩
theorem NdAt.setUp {w : World} {p : Nat} {x : Nd} (h : NdAt w p x) (n : Int) : NdAt (w.setCell ⟨p, 1, none⟩ (.int .i64 n)) p { x with up := n } :=
  ⟨by rw [setCell_off (by show (1 : Nat) ≠ 0; decide)]; exact h.c0, setCell_eq h.c1, by rw [setCell_off (by show (1 : Nat) ≠ 2; decide)]; exact h.c2, by rw [setCell_off (by show (1 : Nat) ≠ 3; decide)]; exact h.c3, by rw [frozen_setCell]; exact h.z1, by rw [frozen_setCell]; exact h.z3⟩
/-- Block b is a budget, whose map lies in mb, its containers in blocks of P; they are l. -/
structure BuAt (w : World) (b mb : Nat) (P : Nat → Prop) (q : Nat) (f : Int → Option Nat) (l : List Nd) : Prop where
  c : w.cell? ⟨b, 0, none⟩ = some (.map (some mb))
  M : MapP w mb q f
  off : ∀ k, findN l k = none → f k = none
  on : ∀ k x, findN l k = some x → ∃ p, f k = some p ∧ NdAt w p x
  inj : ∀ k k' p, f k = some p → f k' = some p → k = k'
  inP : ∀ k p, f k = some p → P p
  nb : ¬ P b
  nm : ¬ P mb
  ne : b ≠ mb
  lt : ∀ p, P p → p < w.heap.size
/-- The blocks that its calls may write. -/
def ownU (mb : Nat) (P : Nat → Prop) : Nat → Prop := fun k => k = mb ∨ P k
section
variable {w : World} {b mb q : Nat} {P : Nat → Prop} {f : Int → Option Nat} {l : List Nd}
theorem BuAt.keep {w' : World} {S : Nat → Prop} (U : BuAt w b mb P q f l) (k : Keep S w w') (hb : ¬ S b) (hm : ¬ S mb) (hP : ∀ p, P p → ¬ S p) : BuAt w' b mb P q f l :=
  ⟨k.some U.c hb, U.M.keep k hm, U.off, fun i x h => let ⟨p, e, n⟩ := U.on i x h; ⟨p, e, n.keep k (hP p (U.inP _ _ e))⟩, U.inj, U.inP, U.nb, U.nm, U.ne, fun p h => Nat.lt_of_lt_of_le (U.lt p h) k.size⟩
theorem BuAt.next {w' : World} (U : BuAt w b mb P q f l) (k : Keep nob w w') : BuAt w' b mb P q f l := U.keep k (fun x => x) (fun x => x) (fun _ _ x => x)
theorem BuAt.mono {q' : Nat} (U : BuAt w b mb P q f l) (h : q ≤ q') : BuAt w b mb P q' f l := ⟨U.c, U.M.mono h, U.off, U.on, U.inj, U.inP, U.nb, U.nm, U.ne, U.lt⟩
theorem BuAt.blt (U : BuAt w b mb P q f l) : b < w.heap.size := World.block_lt_of_cell? _ _ U.c
theorem BuAt.has (U : BuAt w b mb P q f l) (k : Int) : (f k).isSome = (findN l k).isSome := by
  cases e : findN l k with
  | none => rw [U.off k e]; rfl
  | some x => obtain ⟨p, e2, -⟩ := U.on k x e; rw [e2]; rfl
theorem mapEq (mb : Nat) (w : World) : (binOp .eql 47 (.map (some mb)) (.map none)).run Try.prog w = .ok (.bool false) w := by kernel_rfl
theorem mapEq0 (w : World) : (binOp .eql 47 (.map none) (.map none)).run Try.prog w = .ok (.bool true) w := by kernel_rfl
set_option maxHeartbeats 1600000 in
theorem asked_ok (U : BuAt w b mb P q f l) (id n : Int) : Calls Try.prog 22 #[.pointer (some ⟨b, 0, none⟩), .int .i64 id, .int .i64 n] w fun r w' => r = .returned (.int .i64 (askN l id n)) ∧ w = w' := by
  have c := U.c
  have M := Lib.hid U.M
  have mq := mapEq mb
  unfold askN
  by_cases h : fitsN id n = true
  · obtain ⟨⟨a1, a2⟩, a3, a4⟩ := fitsN_iff.1 h
    have t1 : decide (id < 1) = false := by simp; omega
    have t2 : decide (8 < id) = false := by simp; omega
    have t3 : decide (n < 0) = false := by simp; omega
    have t4 : decide (65536 < n) = false := by simp; omega
    have hk : wfI id := by unfold wfI; omega
    rw [if_pos h]
    cases e : findN l id with
    | none =>
      have ef := U.off id e
      have LR := look_no U.M hk ef
      replace hk := Lib.hid hk
      replace ef := Lib.hid ef
      replace U := Lib.hid U
      go_enter Try.func22, Try.ntmps22
      go_wp2_with fail
      go_ret
      exact ⟨rfl, rfl⟩
    | some x =>
      obtain ⟨p, ef, -⟩ := U.on id x e
      have LR := look_yes U.M hk ef
      replace hk := Lib.hid hk
      replace ef := Lib.hid ef
      replace U := Lib.hid U
      go_enter Try.func22, Try.ntmps22
      go_wp2_with fail
      go_ret
      exact ⟨rfl, rfl⟩
  · rw [if_neg h]
    have h' : id < 1 ∨ 8 < id ∨ n < 0 ∨ 65536 < n := by
      rw [fitsN_iff] at h
      omega
    replace U := Lib.hid U
    by_cases q1 : id < 1
    · have t1 : decide (id < 1) = true := by simpa using q1
      clear h h'
      go_enter Try.func22, Try.ntmps22
      go_wp2_with fail
      go_ret
      exact ⟨rfl, rfl⟩
    have t1 : decide (id < 1) = false := by simpa using q1
    by_cases q2 : 8 < id
    · have t2 : decide (8 < id) = true := by simpa using q2
      clear h h'
      go_enter Try.func22, Try.ntmps22
      go_wp2_with fail
      go_ret
      exact ⟨rfl, rfl⟩
    have t2 : decide (8 < id) = false := by simpa using q2
    by_cases q3 : n < 0
    · have t3 : decide (n < 0) = true := by simpa using q3
      clear h h'
      go_enter Try.func22, Try.ntmps22
      go_wp2_with fail
      go_ret
      exact ⟨rfl, rfl⟩
    have t3 : decide (n < 0) = false := by simpa using q3
    have t4 : decide (65536 < n) = true := by simp; omega
    clear h h'
    go_enter Try.func22, Try.ntmps22
    go_wp2_with fail
    go_ret
    exact ⟨rfl, rfl⟩
end
end Go.Proofs.Ytepmljcapobodaa
