/- Contracts of package word: Check, Put, Get, Cut, Address, Page. -/
import Derived.Test.YtepmljcapobodaaDoorRows
import Derived.Test.YtepmljcapobodaaDoorLib
namespace Go.Proofs.YtepmljcapobodaaDoor
open Go.RowKit
set_option linter.unusedVariables false
set_option maxRecDepth 100000

/-- An entry. -/
structure Ent where
  p : Bool
  w : Bool
  c : Bool
  f : Int
  deriving DecidableEq
def Ent.val (e : Ent) : Value := .agg #[.bool e.p, .bool e.w, .bool e.c, .int .i64 e.f]
def Ent.zero : Ent := ⟨false, false, false, 0⟩
def okE (e : Ent) : Bool := decide (0 ≤ e.f) && decide (e.f < 1024) && !(e.c && e.w) && (e.p || (!e.w && !e.c && decide (e.f = 0)))
def bit (b : Bool) (n : Int) : Int := if b then n else 0
def putW (e : Ent) : Int := e.f * 256 + bit e.p 1 + bit e.w 2 + bit e.c 4
def chk (e : Ent) : Int := if okE e then 0 else 2
theorem ret_int {k : IntKind} {a b : Int} (h : a = b) : Ending.returned (.int k a) = .returned (.int k b) := by rw [h]

set_option maxHeartbeats 1600000 in
theorem check_ok (e : Ent) (w : World) :
    Calls Tryd.prog 94 #[e.val] w fun r w' => r = .returned (.int .i64 (chk e)) ∧ Keep nob w w' := by
  obtain ⟨p, wr, c, f⟩ := e
  unfold Ent.val
  cases p <;> cases wr <;> cases c
  all_goals
    by_cases h0 : f < 0
    · have t0 : decide (f < 0) = true := by simpa using h0
      go_enter Tryd.func94, Tryd.ntmps94
      go_wp2
      go_ret
      exact ⟨ret_int (by simp [chk, okE, show ¬ 0 ≤ f by omega]), Keep.alloc (Keep.refl _ _) _⟩
    have t0 : decide (f < 0) = false := by simpa using h0
    by_cases h1 : 1024 ≤ f
    · have t1 : decide (1024 ≤ f) = true := by simpa using h1
      go_enter Tryd.func94, Tryd.ntmps94
      go_wp2
      go_ret
      exact ⟨ret_int (by simp [chk, okE, show ¬ f < 1024 by omega]), Keep.alloc (Keep.refl _ _) _⟩
    have t1 : decide (1024 ≤ f) = false := by simpa using h1
    by_cases h2 : f = 0
    · subst h2
      clear t0 t1 h0 h1
      go_enter Tryd.func94, Tryd.ntmps94
      go_wp2
      go_ret
      exact ⟨ret_int (by simp [chk, okE]), Keep.alloc (Keep.refl _ _) _⟩
    have t2 : (f == 0) = false := by simpa using h2
    go_enter Tryd.func94, Tryd.ntmps94
    go_wp2
    go_ret
    exact ⟨ret_int (by simp [chk, okE, h2, show 0 ≤ f by omega, show f < 1024 by omega]), Keep.alloc (Keep.refl _ _) _⟩

/-! ### Put -/
theorem or_bit (a k : Nat) (h : a % 2 ^ (k + 1) < 2 ^ k) : a ||| 2 ^ k = a + 2 ^ k := by
  have e1 : a = 2 ^ (k + 1) * (a / 2 ^ (k + 1)) + a % 2 ^ (k + 1) := (Nat.div_add_mod a _).symm
  generalize a / 2 ^ (k + 1) = q at e1
  generalize a % 2 ^ (k + 1) = r at e1 h
  have h1 : r ||| 2 ^ k = 2 ^ k + r := by
    rw [Nat.or_comm]
    have := Nat.two_pow_add_eq_or_of_lt h 1
    rw [Nat.mul_one] at this
    exact this.symm
  have h2 : 2 ^ k + r < 2 ^ (k + 1) := by rw [Nat.pow_succ]; omega
  rw [e1, Nat.two_pow_add_eq_or_of_lt (by rw [Nat.pow_succ]; omega), Nat.or_assoc, h1, ← Nat.two_pow_add_eq_or_of_lt h2, ← Nat.two_pow_add_eq_or_of_lt (by rw [Nat.pow_succ]; omega)]
  omega
theorem bits_or (x : Int) (k : Nat) (hk : k < 31) (h0 : 0 ≤ x) (h1 : x < 2147483648) (h : x % 2 ^ (k + 1) < 2 ^ k) : bits .or .u32 x (2 ^ k : Nat) = x + (2 ^ k : Nat) := by
  obtain ⟨a, rfl⟩ : ∃ a : Nat, x = a := ⟨x.toNat, by omega⟩
  have hp : 2 ^ k < 2 ^ 31 := Nat.pow_lt_pow_right (by decide) hk
  have h' : a % 2 ^ (k + 1) < 2 ^ k := by exact_mod_cast h
  rw [u32_or_nat a (2 ^ k) (by omega) (by omega), or_bit a k h']
  omega
theorem set_false (k : Int) (pv : Nat) (w : World) : Calls Tryd.prog 106 #[.int .i64 k, .bool false, .pointer (some ⟨pv, 0, none⟩)] w fun r w' => r = .returned (.tuple #[]) ∧ w = w' := by
  go_enter Tryd.func106, Tryd.ntmps106
  go_wp2
  go_end0
  exact ⟨rfl, rfl⟩
theorem set_true0 (pv : Nat) (x : Int) (w : World) (hx : w.cell? ⟨pv, 0, none⟩ = some (.int .u32 x)) (hz : w.frozen? ⟨pv, 0, none⟩ = false) (h0 : 0 ≤ x) (h1 : x < 2147483648) (h : x % 2 < 1) :
    Calls Tryd.prog 106 #[.int .i64 0, .bool true, .pointer (some ⟨pv, 0, none⟩)] w fun r w' => r = .returned (.tuple #[]) ∧ w' = (w.setCell ⟨pv, 0, none⟩ (.int .u32 (x + 1))).drew := by
  have hb := Lib.hid (bits_or x 0 (by decide) h0 h1 h)
  go_enter Tryd.func106, Tryd.ntmps106
  go_wp2
  go_region
  all_goals go_end0
  refine ⟨rfl, ?_⟩
  rw [← show bits .or .u32 x 1 = x + 1 from hb.out]
theorem set_true1 (pv : Nat) (x : Int) (w : World) (hx : w.cell? ⟨pv, 0, none⟩ = some (.int .u32 x)) (hz : w.frozen? ⟨pv, 0, none⟩ = false) (h0 : 0 ≤ x) (h1 : x < 2147483648) (h : x % 4 < 2) :
    Calls Tryd.prog 106 #[.int .i64 1, .bool true, .pointer (some ⟨pv, 0, none⟩)] w fun r w' => r = .returned (.tuple #[]) ∧ w' = (w.setCell ⟨pv, 0, none⟩ (.int .u32 (x + 2))).drew := by
  have hb := Lib.hid (bits_or x 1 (by decide) h0 h1 h)
  go_enter Tryd.func106, Tryd.ntmps106
  go_wp2
  go_region
  all_goals go_end0
  refine ⟨rfl, ?_⟩
  rw [← show bits .or .u32 x 2 = x + 2 from hb.out]
theorem set_true2 (pv : Nat) (x : Int) (w : World) (hx : w.cell? ⟨pv, 0, none⟩ = some (.int .u32 x)) (hz : w.frozen? ⟨pv, 0, none⟩ = false) (h0 : 0 ≤ x) (h1 : x < 2147483648) (h : x % 8 < 4) :
    Calls Tryd.prog 106 #[.int .i64 2, .bool true, .pointer (some ⟨pv, 0, none⟩)] w fun r w' => r = .returned (.tuple #[]) ∧ w' = (w.setCell ⟨pv, 0, none⟩ (.int .u32 (x + 4))).drew := by
  have hb := Lib.hid (bits_or x 2 (by decide) h0 h1 h)
  go_enter Tryd.func106, Tryd.ntmps106
  go_wp2
  go_region
  all_goals go_end0
  refine ⟨rfl, ?_⟩
  rw [← show bits .or .u32 x 4 = x + 4 from hb.out]
theorem set_any0 (b : Bool) (pv : Nat) (x : Int) (w : World) (hx : w.cell? ⟨pv, 0, none⟩ = some (.int .u32 x)) (hz : w.frozen? ⟨pv, 0, none⟩ = false) (h0 : 0 ≤ x) (h1 : x < 2147483648) (h : x % 2 < 1) :
    Calls Tryd.prog 106 #[.int .i64 0, .bool b, .pointer (some ⟨pv, 0, none⟩)] w fun r w' => r = .returned (.tuple #[]) ∧ w'.cell? ⟨pv, 0, none⟩ = some (.int .u32 (x + bit b 1)) ∧ w'.frozen? ⟨pv, 0, none⟩ = false ∧ Keep (only pv) w w' := by
  cases b
  · refine (set_false 0 pv w).mono ?_
    rintro r w' ⟨rfl, rfl⟩
    exact ⟨rfl, by simpa [bit] using hx, hz, Keep.refl _ _⟩
  · refine (set_true0 pv x w hx hz h0 h1 h).mono ?_
    rintro r w' ⟨rfl, rfl⟩
    refine ⟨rfl, ?_, ?_, ?_⟩
    · rw [World.cell?_drew, setCell_eq hx]; rfl
    · show (w.setCell _ _).frozen? _ = false
      rw [frozen_setCell]; exact hz
    · exact ((Keep.refl (only pv) _).setCell (p := ⟨pv, 0, none⟩) _ (Or.inr rfl)).drew
theorem set_any1 (b : Bool) (pv : Nat) (x : Int) (w : World) (hx : w.cell? ⟨pv, 0, none⟩ = some (.int .u32 x)) (hz : w.frozen? ⟨pv, 0, none⟩ = false) (h0 : 0 ≤ x) (h1 : x < 2147483648) (h : x % 4 < 2) :
    Calls Tryd.prog 106 #[.int .i64 1, .bool b, .pointer (some ⟨pv, 0, none⟩)] w fun r w' => r = .returned (.tuple #[]) ∧ w'.cell? ⟨pv, 0, none⟩ = some (.int .u32 (x + bit b 2)) ∧ w'.frozen? ⟨pv, 0, none⟩ = false ∧ Keep (only pv) w w' := by
  cases b
  · refine (set_false 1 pv w).mono ?_
    rintro r w' ⟨rfl, rfl⟩
    exact ⟨rfl, by simpa [bit] using hx, hz, Keep.refl _ _⟩
  · refine (set_true1 pv x w hx hz h0 h1 h).mono ?_
    rintro r w' ⟨rfl, rfl⟩
    refine ⟨rfl, ?_, ?_, ?_⟩
    · rw [World.cell?_drew, setCell_eq hx]; rfl
    · show (w.setCell _ _).frozen? _ = false
      rw [frozen_setCell]; exact hz
    · exact ((Keep.refl (only pv) _).setCell (p := ⟨pv, 0, none⟩) _ (Or.inr rfl)).drew
theorem set_any2 (b : Bool) (pv : Nat) (x : Int) (w : World) (hx : w.cell? ⟨pv, 0, none⟩ = some (.int .u32 x)) (hz : w.frozen? ⟨pv, 0, none⟩ = false) (h0 : 0 ≤ x) (h1 : x < 2147483648) (h : x % 8 < 4) :
    Calls Tryd.prog 106 #[.int .i64 2, .bool b, .pointer (some ⟨pv, 0, none⟩)] w fun r w' => r = .returned (.tuple #[]) ∧ w'.cell? ⟨pv, 0, none⟩ = some (.int .u32 (x + bit b 4)) ∧ w'.frozen? ⟨pv, 0, none⟩ = false ∧ Keep (only pv) w w' := by
  cases b
  · refine (set_false 2 pv w).mono ?_
    rintro r w' ⟨rfl, rfl⟩
    exact ⟨rfl, by simpa [bit] using hx, hz, Keep.refl _ _⟩
  · refine (set_true2 pv x w hx hz h0 h1 h).mono ?_
    rintro r w' ⟨rfl, rfl⟩
    refine ⟨rfl, ?_, ?_, ?_⟩
    · rw [World.cell?_drew, setCell_eq hx]; rfl
    · show (w.setCell _ _).frozen? _ = false
      rw [frozen_setCell]; exact hz
    · exact ((Keep.refl (only pv) _).setCell (p := ⟨pv, 0, none⟩) _ (Or.inr rfl)).drew
end Go.Proofs.YtepmljcapobodaaDoor
