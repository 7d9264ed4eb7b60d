/- The document's memory (prioryref02) where it lies as the second cell of a struct: Write, Zero. -/
import Derived.Test.YtepmljcapobodaaDoorRef2
namespace Go.Proofs.YtepmljcapobodaaDoor
open Go.RowKit
set_option linter.unusedVariables false
set_option maxRecDepth 100000
theorem refwrite_at {w : World} {g n pw : Nat} {c : Nat → Int} (M : RefAt w g n c) (hp : w.cell? ⟨pw, 1, none⟩ = some (refV g n)) (hne : pw ≠ g) (i j v : Int) (hv : 0 ≤ v ∧ v < 4294967296) :
    Calls Tryd.prog 63 #[.pointer (some ⟨pw, 1, none⟩), .int .i64 i, .int .i64 j, .int .u32 v] w
      fun r w' => r = .returned (.int .i64 (if inR n i j then 0 else 2)) ∧ RefAt w' g n (if inR n i j then upd c (i.toNat * 32 + j.toNat) v else c) ∧ w'.cell? ⟨pw, 1, none⟩ = some (refV g n) ∧ Keep (only g) w w' := by
  have hb := fun W => refin_ok g n i j W M.hi
  by_cases h : inR n i j
  · simp only [if_pos h]
    have e : inB n i j = true := decide_eq_true h
    rw [e] at hb
    have HB := Lib.hid hb
    clear hb e
    obtain ⟨h0, h1, h2, h3⟩ := h
    have hi := M.hi
    have hix : i.toNat * 32 + j.toNat = (i * 32 + j).toNat := by omega
    have hlt : i.toNat * 32 + j.toNat < n * 32 := by omega
    rw [hix] at hlt ⊢
    have HL := Lib.hid hlt
    clear hix hlt
    unfold refV at *
    have hne := Lib.hid hne
    go_enter Tryd.func63, Tryd.ntmps63
    go_wp2_with fail
    refine Calls.mono (HB.out _) ?_
    rintro r w1 ⟨rfl, K⟩
    have M1 := M.next K
    have p1 := K.some hp (fun x => x)
    have c1 := M1.cell _ HL.out
    have z1 := M1.free (i * 32 + j).toNat
    have A := Lib.hid K
    clear K hp M
    go_wp2
    go_ret
    refine ⟨rfl, M1.set _ HL.out v hv, ?_, ?_⟩
    · rw [setCell_blk (Ne.symm hne.out)]; exact p1
    · exact Keep.setCell (S := only g) A.out.nob (p := ⟨g, (i * 32 + j).toNat, none⟩) _ (Or.inr rfl)
  · simp only [if_neg h]
    have e : inB n i j = false := decide_eq_false h
    rw [e] at hb
    have HB := Lib.hid hb
    clear hb e h
    unfold refV at *
    have hne := Lib.hid hne
    go_enter Tryd.func63, Tryd.ntmps63
    go_wp2_with fail
    refine Calls.mono (HB.out _) ?_
    rintro r w1 ⟨rfl, K⟩
    go_wp2
    go_ret
    exact ⟨rfl, M.next K, K.some hp (fun x => x), K.nob⟩
def ZeroAtI (g n pw : Nat) (c : Nat → Int) (i : Nat) (w : World) (v : Value) (wr : World) : Prop :=
  ∃ k : Nat, v = .int .i64 k ∧ k ≤ 32 ∧ RefAt wr g n (part c i (fun _ => 0) k) ∧ wr.cell? ⟨pw, 1, none⟩ = some (refV g n) ∧ Keep (only g) w wr
set_option maxHeartbeats 800000 in
theorem refzero_at {w : World} {g n pw : Nat} {c : Nat → Int} (M : RefAt w g n c) (hp : w.cell? ⟨pw, 1, none⟩ = some (refV g n)) (hne : pw ≠ g) (i : Int) (h0 : 0 ≤ i) (h1 : i < n) :
    Calls Tryd.prog 93 #[.pointer (some ⟨pw, 1, none⟩), .int .i64 i] w
      fun r w' => r = .returned (.int .i64 0) ∧ RefAt w' g n (updRow c i.toNat fun _ => 0) ∧ w'.cell? ⟨pw, 1, none⟩ = some (refV g n) ∧ Keep (only g) w w' := by
  have hb := fun W => refin_ok g n i 0 W M.hi
  rw [show inB n i 0 = true from decide_eq_true ⟨h0, h1, by decide, by decide⟩] at hb
  have HB := Lib.hid hb
  clear hb
  have hi := M.hi
  have hne := Lib.hid hne
  unfold refV at *
  go_enter Tryd.func93, Tryd.ntmps93
  go_wp2_with fail
  refine Calls.mono (HB.out _) ?_
  rintro r w1 ⟨rfl, K⟩
  have M1 := M.next K
  have p1 := K.some hp (fun x => x)
  have A : Keep (only g) w w1 := K.nob
  clear K hp M HB
  go_wp2_with fail
  go_loopw [5] (fun v wr => ZeroAtI g n pw c i.toNat w v wr) (fun v _ => (32 - intOf v).toNat)
  case atStart => exact ⟨0, rfl, by decide, by rw [part_zero]; exact M1, p1, A⟩
  case round =>
    clear M1 p1 A
    obtain ⟨k, rfl, hk, M, hp, A⟩ := hrel
    unfold refV at hp
    by_cases hlt : k < 32
    · have t1 : decide ((k : Int) < 32) = true := by simp; omega
      have hix := Lib.hid (show i.toNat * 32 + k = (i * 32 + k).toNat by omega)
      have hl := Lib.hid (show (i * 32 + k).toNat < n * 32 by omega)
      have c1 := M.cell _ hl.out
      have z1 := M.free (i * 32 + k).toNat
      have M' := Lib.hid (M.set _ hl.out 0 (by decide))
      have A := Lib.hid A
      have M0 := Lib.hid M
      clear M
      go_wp2_with fail
      go_roundw
      case rel =>
        refine ⟨k + 1, by go_num, by omega, ?_, ?_, ?_⟩
        · have := M'.out
          rw [← hix.out, part_succ c i.toNat (fun _ => 0) k] at this
          rw [← hix.out]
          exact this
        · rw [setCell_blk (Ne.symm hne.out)]; exact hp
        · exact A.out.setCell (p := ⟨g, (i * 32 + k).toNat, none⟩) _ (Or.inr rfl)
      case measure => simp [intOf]; omega
    · have t1 : decide ((k : Int) < 32) = false := by simp; omega
      obtain rfl : k = 32 := by omega
      have A := Lib.hid A
      rw [part_all] at M
      go_wp2
      go_ret
      exact ⟨rfl, M, hp, A.out⟩
end Go.Proofs.YtepmljcapobodaaDoor
