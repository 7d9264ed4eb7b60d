/- A pool of package palloc: Owner, Left. -/
import Derived.Test.YtepmljcapobodaaDoorPalloc
namespace Go.Proofs.YtepmljcapobodaaDoor
open Go.RowKit
set_option linter.unusedVariables false
set_option maxRecDepth 100000
/-- Inside the loop of Owner. -/
def OwnI (w : World) (B : PB) (x : Int) (i : Value) (wr : World) : Prop := ∃ k : Nat, i = .int .i64 k ∧ k ≤ B.l.length ∧ (∀ j, j < k → ¬ B.inr j x) ∧ Keep nob w wr
set_option maxHeartbeats 1000000 in
theorem owner_any {w : World} {B : PB} {c : Nat → Int} {f : Int → Int} {q : Nat} (G : Geo B) (P : PoolAt w B c f q) (x : Int) (hx : wfI x) :
    Calls Tryd.prog 23 #[.pointer (some ⟨B.p, 0, none⟩), .int .i64 x] w fun r w' =>
      ((∃ j, B.inr j x ∧ r = .returned (.tuple #[.int .i64 j, .int .i64 0])) ∨ ((∀ j, ¬ B.inr j x) ∧ r = .returned (.tuple #[.int .i64 0, .int .i64 2]))) ∧ Keep nob w w' := by
  have c1 := P.pl
  have P := Lib.hid P
  have G := Lib.hid G
  have hl := G.out.some.2
  have hx := Lib.hid hx
  go_enter Tryd.func23, Tryd.ntmps23
  go_wp2_with fail
  refine Calls.mono (none_ok P.out) ?_
  rintro r w1 ⟨rfl, rfl⟩
  go_wp2_with fail
  go_loopw [15] (fun i wr => OwnI w B x i wr) (fun i _ => (B.l.length - intOf i).toNat)
  case atStart => exact ⟨0, rfl, Nat.zero_le _, fun j hj => absurd hj (Nat.not_lt_zero j), Keep.refl _ _⟩
  case round =>
    obtain ⟨k, rfl, hk, hn, K⟩ := hrel
    have hn := Lib.hid hn
    by_cases hlt : k < B.l.length
    · have t1 : decide ((k : Int) < B.l.length) = true := by simp; omega
      have P' := Lib.hid (P.out.next G.out K)
      have K := Lib.hid K
      have g0 := P'.out.gs k hlt
      have g1 := P'.out.gf k hlt
      have g2 := P'.out.gm k hlt
      obtain ⟨b1, b2⟩ := G.out.fit k hlt
      have b3 := G.out.n
      have b4 : B.fr k ≤ 1024 := by omega
      have b5 : B.mn k ≤ 1024 := by omega
      have Hlt := Lib.hid hlt
      clear c1
      by_cases q1 : (B.fr k : Int) ≤ x
      · by_cases q2 : x < (B.fr k : Int) + B.mn k
        · have t2 : decide ((B.fr k : Int) ≤ x) = true := by simpa using q1
          have t3 : decide (x < (B.fr k : Int) + B.mn k) = true := by simpa using q2
          have I := Lib.hid (show B.inr k x from ⟨hlt, q1, q2⟩)
          clear q1 q2
          go_wp2_with fail
          go_ret2
          exact ⟨Or.inl ⟨k, I.out, rfl⟩, K.out.alloc _⟩
        · have t2 : decide ((B.fr k : Int) ≤ x) = true := by simpa using q1
          have t3 : decide (x < (B.fr k : Int) + B.mn k) = false := by simpa using q2
          have q2 := Lib.hid q2
          clear q1
          go_wp2_with fail
          go_roundw
          case rel =>
            refine ⟨k + 1, by go_num, by have := Hlt.out; omega, fun j hj => ?_, K.out.alloc _⟩
            by_cases e : j = k
            · rw [e]; exact fun h => q2.out h.2.2
            · exact hn.out j (by omega)
          case measure => have := Hlt.out; simp [intOf]; omega
      · have t2 : decide ((B.fr k : Int) ≤ x) = false := by simpa using q1
        have q1 := Lib.hid q1
        go_wp2_with fail
        go_roundw
        case rel =>
          refine ⟨k + 1, by go_num, by have := Hlt.out; omega, fun j hj => ?_, K.out.alloc _⟩
          by_cases e : j = k
          · rw [e]; exact fun h => q1.out h.2.1
          · exact hn.out j (by omega)
        case measure => have := Hlt.out; simp [intOf]; omega
    · have t1 : decide ((k : Int) < B.l.length) = false := by simp; omega
      obtain rfl : k = B.l.length := by omega
      have K := Lib.hid K
      go_wp2_with fail
      go_ret2
      exact ⟨Or.inr ⟨fun j h => hn.out j h.1 h, rfl⟩, K.out⟩
end Go.Proofs.YtepmljcapobodaaDoor
