/- Contracts of package pick (2): the least number of a set. -/
import Derived.Test.YtepmljcapobodaaDoorPick
import Derived.Shelf.Spec.TrailingZeros
namespace Go.Proofs.YtepmljcapobodaaDoor
open Go.RowKit
set_option linter.unusedVariables false
set_option maxRecDepth 100000
set_option maxHeartbeats 1000000 in
theorem tz_core (x k idx : Nat) (w : World) (hx0 : ((x : Int) == 0) = false)
    (key : IntKind.u64.wrap (bits BinOp.and IntKind.u64 (x : Int) (IntKind.u64.wrap (-(x : Int))) * 285870213051353865) / 288230376151711744 = (idx : Int))
    (hi : idx < 64) (hk : k < 64) (hcell : w.cell? ⟨0, idx, none⟩ = some (.int .u8 k)) :
    Calls Tryd.prog 104 #[.int .u64 x] w fun e w' => e = .returned (.int .i64 k) ∧ w = w' := by
  go_enter Tryd.func104, Tryd.ntmps104
  go_wp2_with (simp only [key])
  go_ret
  exact ⟨rfl, rfl⟩
theorem tz_ok (x : Nat) (hx : x < 18446744073709551616) (hx0 : x ≠ 0) (w : World) (hT : TabAt 0 Lib.deBruijn64tab w) :
    Calls Tryd.prog 104 #[.int .u64 x] w fun e w' => e = .returned (.int .i64 (Lib.ctz 64 x)) ∧ w = w' := by
  obtain ⟨hlow, hk⟩ := Lib.lowest_bit 64 x hx0 hx
  obtain ⟨hi, htab⟩ := Lib.deBruijn64_at _ hk
  have hcell := hT _ hi
  rw [htab] at hcell
  exact tz_core x _ _ w (by simp; omega) (tz64_key x _ hx hx0 hlow) hi hk hcell
/-- What first tells: the least number of the set, or -1. -/
def Least (W : Nat → Nat) (v : Int) : Prop := (v = -1 ∧ ∀ n, n < 1024 → memW W n = false) ∨ ∃ n : Nat, n < 1024 ∧ v = n ∧ memW W n = true ∧ ∀ m, m < n → memW W m = false
theorem ctz_lt (x : Nat) (h : x ≠ 0) (hx : x < 2 ^ 64) : Lib.ctz 64 x < 64 := (Lib.lowest_bit 64 x h hx).2
theorem ctz_bit (x : Nat) (h : x ≠ 0) (hx : x < 2 ^ 64) : x.testBit (Lib.ctz 64 x) = true ∧ ∀ j, j < Lib.ctz 64 x → x.testBit j = false := by
  obtain ⟨m, e, -⟩ := Lib.ctzFrom_spec 64 x (Nat.pos_of_ne_zero h) hx
  have ec : Lib.ctz 64 x = Lib.ctzFrom 64 x := if_neg h
  rw [ec]
  generalize Lib.ctzFrom 64 x = k at e
  subst e
  constructor
  · rw [Nat.testBit_two_pow_mul]
    simp [Nat.testBit_zero, Nat.add_mod]
  · intro j hj
    rw [Nat.testBit_two_pow_mul]
    simp; omega
theorem least_none {W : Nat → Nat} (h : ∀ j, j < 16 → W j = 0) : Least W (-1) := by
  refine Or.inl ⟨rfl, fun n hn => ?_⟩
  unfold memW
  rw [h _ (by omega)]
  simp
theorem least_some {W : Nat → Nat} (hlt : ∀ i, W i < 2 ^ 64) (i : Nat) (hi : i < 16) (h : ∀ j, j < i → W j = 0) (hz : W i ≠ 0) : Least W (64 * i + Lib.ctz 64 (W i) : Nat) := by
  have k1 := ctz_lt _ hz (hlt i)
  obtain ⟨k2, k3⟩ := ctz_bit _ hz (hlt i)
  refine Or.inr ⟨64 * i + Lib.ctz 64 (W i), by omega, rfl, ?_, fun m hm => ?_⟩
  · unfold memW
    rw [show (64 * i + Lib.ctz 64 (W i)) / 64 = i by omega, show (64 * i + Lib.ctz 64 (W i)) % 64 = Lib.ctz 64 (W i) by omega]
    exact k2
  · unfold memW
    by_cases q : m / 64 < i
    · rw [h _ q]; simp
    · rw [show m / 64 = i by omega]
      exact k3 _ (by omega)
theorem ent_first : ∀ args w, (callFunc 103 args).run Tryd.prog w = .ok (.enter 103 args) w := fun _ _ => by go_simp
theorem tab_keep {w w' : World} {l : List Nat} (h : TabAt 0 l w) (k : Keep nob w w') : TabAt 0 l w' := fun j hj => k.some (h j hj) (fun x => x)
/-- Inside the loop of first. -/
def FirstI (w : World) (s pf ps : Nat) (W : Nat → Nat) (i : Value) (wr : World) : Prop := ∃ k : Nat, i = .int .i64 k ∧ k ≤ 16 ∧ (∀ j, j < k → W j = 0) ∧ Keep nob w wr ∧ wr.cell? ⟨pf, 0, none⟩ = some (.int .i64 0) ∧ wr.cell? ⟨ps, 0, none⟩ = some (.pointer (some ⟨s, 0, none⟩))
set_option maxHeartbeats 1000000 in
theorem first_ok {w : World} {s : Nat} {W : Nat → Nat} (h : SetAt w s W) (hT : TabAt 0 Lib.deBruijn64tab w) :
    Calls Tryd.prog 89 #[.pointer (some ⟨s, 0, none⟩), .int .i64 0] w fun r w' => ∃ v, r = .returned (.int .i64 v) ∧ Least W v ∧ Keep nob w w' := by
  have H := Lib.hid h
  have HT := Lib.hid hT
  clear h hT
  go_enter Tryd.func89, Tryd.ntmps89
  go_wp2_with fail
  go_loopw [6] (fun i wr => FirstI w s (w.heap.size + 1) w.heap.size W i wr) (fun i _ => (16 - intOf i).toNat)
  case atStart =>
    refine ⟨0, rfl, by decide, fun j hj => absurd hj (Nat.not_lt_zero j), ((Keep.refl _ _).alloc _).alloc _, ?_, ?_⟩
    · go_simp
    · rw [alloc_lt (by simp)]; go_simp
  case round =>
    obtain ⟨k, rfl, hk, hz, A, hf, hs⟩ := hrel
    have A := Lib.hid A
    by_cases hlt : k < 16
    · have t1 : decide ((k : Int) < 16) = true := by simp; omega
      go_wp2_with fail
      refine Calls.mono (first1 (H.out.next A.out) (w.heap.size + 1) w.heap.size k hlt hf hs) ?_
      rintro r w' ⟨rfl, n, rfl⟩
      by_cases q : W k = 0
      · have t2 : ((W k : Int) != 0) = false := by simp [q]
        go_wp2_with fail
        go_roundw
        case rel =>
          refine ⟨k + 1, by go_num, by omega, fun j hj => ?_, A.out.drewN n, hf, hs⟩
          by_cases e : j = k
          · rw [e]; exact q
          · exact hz j (by omega)
        case measure => simp [intOf]; omega
      · have t2 : ((W k : Int) != 0) = true := by simp [q]
        have hlt64 := H.out.lt k
        have c64 := ctz_lt _ q hlt64
        have L := Lib.hid (least_some H.out.lt k hlt hz q)
        go_wp2_with fail
        refine Calls.mono (tz_ok (W k) hlt64 q _ (tab_keep HT.out (A.out.drewN n))) ?_
        rintro r w' ⟨rfl, rfl⟩
        generalize hC : Lib.ctz 64 (W k) = C at *
        go_wp2_with fail
        go_ret
        refine ⟨_, rfl, ?_, A.out.drewN n⟩
        have := L.out
        rw [show ((64 * k + C : Nat) : Int) = 64 * (k : Int) + C by omega] at this
        exact this
    · have t1 : decide ((k : Int) < 16) = false := by simp; omega
      have L := Lib.hid (least_none (W := W) (fun j hj => hz j (by omega)))
      go_wp2_with fail
      go_ret
      exact ⟨_, rfl, L.out, A.out⟩
end Go.Proofs.YtepmljcapobodaaDoor
