/- Contracts of the reference's memory (prioryref02): a slice of words, frame behind frame. -/
import Derived.Test.YtepmljcapobodaaDoorWords
namespace Go.Proofs.YtepmljcapobodaaDoor
open Go.RowKit
set_option linter.unusedVariables false
set_option maxRecDepth 100000

/-- The words of a memory of n frames lie in block g, the k-th one c k. -/
structure RefAt (w : World) (g n : Nat) (c : Nat → Int) : Prop where
  cell : ∀ k, k < n * 32 → w.cell? ⟨g, k, none⟩ = some (.int .u32 (c k))
  free : ∀ k, w.frozen? ⟨g, k, none⟩ = false
  lo : 1 ≤ n
  hi : n ≤ 1024
  rng : ∀ k, 0 ≤ c k ∧ c k < 4294967296
/-- The slice of it. -/
def refV (g n : Nat) : Value := .slice (some ⟨g, 0, none⟩) (n * 32) (n * 32)
theorem RefAt.glt {w : World} {g n : Nat} {c : Nat → Int} (M : RefAt w g n c) : g < w.heap.size := by
  have := M.lo
  exact World.block_lt_of_cell? _ _ (M.cell 0 (by omega))
theorem RefAt.keep {w w' : World} {g n : Nat} {c : Nat → Int} {S : Nat → Prop} (M : RefAt w g n c) (h : Keep S w w') (hg : ¬ S g) : RefAt w' g n c :=
  ⟨fun k hk => h.some (M.cell k hk) hg, fun k => by rw [h.frozen (p := ⟨g, k, none⟩) M.glt hg]; exact M.free k, M.lo, M.hi, M.rng⟩
theorem RefAt.next {w w' : World} {g n : Nat} {c : Nat → Int} (M : RefAt w g n c) (h : Keep nob w w') : RefAt w' g n c := M.keep h (fun x => x)
theorem RefAt.set {w : World} {g n : Nat} {c : Nat → Int} (M : RefAt w g n c) (k : Nat) (hk : k < n * 32) (v : Int) (hv : 0 ≤ v ∧ v < 4294967296) :
    RefAt (w.setCell ⟨g, k, none⟩ (.int .u32 v)) g n (upd c k v) := by
  refine ⟨fun j hj => ?_, fun j => ?_, M.lo, M.hi, fun j => ?_⟩
  · by_cases h : j = k
    · subst h; rw [setCell_eq (M.cell j hj)]; simp [upd]
    · rw [setCell_off (Ne.symm h)]; simp [upd, h, M.cell j hj]
  · rw [frozen_setCell]; exact M.free j
  · unfold upd; split
    · exact hv
    · exact M.rng j
def inB (n : Nat) (i j : Int) : Bool := decide (inR n i j)
set_option maxHeartbeats 800000 in
theorem refin_ok (g n : Nat) (i j : Int) (w : World) (hn : n ≤ 1024) :
    Calls Tryd.prog 69 #[.agg #[refV g n], .int .i64 i, .int .i64 j] w fun r w' => r = .returned (.bool (inB n i j)) ∧ Keep nob w w' := by
  unfold refV
  have b2 : 0 ≤ ((n * 32 : Nat) : Int) := by omega
  obtain ⟨T1, t1⟩ : ∃ T, decide (0 ≤ i) = T := ⟨_, rfl⟩
  obtain ⟨T2, t2⟩ : ∃ T, decide (i < (n : Int)) = T := ⟨_, rfl⟩
  obtain ⟨T3, t3⟩ : ∃ T, decide (0 ≤ j) = T := ⟨_, rfl⟩
  obtain ⟨T4, t4⟩ : ∃ T, decide (j < 32) = T := ⟨_, rfl⟩
  have hT : Hid ((T1 && (T2 && (T3 && T4))) = inB n i j) := by
    rw [← t1, ← t2, ← t3, ← t4]
    show _ = decide (0 ≤ i ∧ i < (n : Int) ∧ 0 ≤ j ∧ j < 32)
    simp only [Bool.decide_and]
  go_enter Tryd.func69, Tryd.ntmps69
  go_wp2
  all_goals
    go_ret
    refine ⟨ret_bool ?_, Keep.alloc (Keep.refl _ _) _⟩
    rw [← hT.out]
    simp_all
theorem refwrite_ok {w : World} {g n pw : Nat} {c : Nat → Int} (M : RefAt w g n c) (hp : w.cell? ⟨pw, 0, none⟩ = some (refV g n)) (hne : pw ≠ g) (i j v : Int) (hv : 0 ≤ v ∧ v < 4294967296) :
    Calls Tryd.prog 63 #[.pointer (some ⟨pw, 0, none⟩), .int .i64 i, .int .i64 j, .int .u32 v] w
      fun r w' => r = .returned (.int .i64 (if inR n i j then 0 else 2)) ∧ RefAt w' g n (if inR n i j then upd c (i.toNat * 32 + j.toNat) v else c) ∧ w'.cell? ⟨pw, 0, none⟩ = some (refV g n) ∧ Keep (only g) w w' := by
  have hb := fun W => refin_ok g n i j W M.hi
  by_cases h : inR n i j
  · simp only [if_pos h]
    have e : inB n i j = true := decide_eq_true h
    rw [e] at hb
    have HB := Lib.hid hb
    clear hb e
    obtain ⟨h0, h1, h2, h3⟩ := h
    have hi := M.hi
    have hix : i.toNat * 32 + j.toNat = (i * 32 + j).toNat := by omega
    have hlt : i.toNat * 32 + j.toNat < n * 32 := by omega
    rw [hix] at hlt ⊢
    have HL := Lib.hid hlt
    clear hix hlt
    unfold refV at *
    have hne := Lib.hid hne
    go_enter Tryd.func63, Tryd.ntmps63
    go_wp2_with fail
    refine Calls.mono (HB.out _) ?_
    rintro r w1 ⟨rfl, K⟩
    have M1 := M.next K
    have p1 := K.some hp (fun x => x)
    have c1 := M1.cell _ HL.out
    have z1 := M1.free (i * 32 + j).toNat
    have A := Lib.hid K
    clear K hp M
    go_wp2
    go_ret
    refine ⟨rfl, M1.set _ HL.out v hv, ?_, ?_⟩
    · rw [setCell_blk (Ne.symm hne.out)]; exact p1
    · exact Keep.setCell (S := only g) A.out.nob (p := ⟨g, (i * 32 + j).toNat, none⟩) _ (Or.inr rfl)
  · simp only [if_neg h]
    have e : inB n i j = false := decide_eq_false h
    rw [e] at hb
    have HB := Lib.hid hb
    clear hb e h
    unfold refV at *
    have hne := Lib.hid hne
    go_enter Tryd.func63, Tryd.ntmps63
    go_wp2_with fail
    refine Calls.mono (HB.out _) ?_
    rintro r w1 ⟨rfl, K⟩
    go_wp2
    go_ret
    exact ⟨rfl, M.next K, K.some hp (fun x => x), K.nob⟩
end Go.Proofs.YtepmljcapobodaaDoor
