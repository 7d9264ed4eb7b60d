/- Contracts of the reference's memory, second part: New, Zero, Copy. -/
import Derived.Test.YtepmljcapobodaaDoorRef
import Derived.StillTailTactics
namespace Go.Proofs.YtepmljcapobodaaDoor
open Go.RowKit
set_option linter.unusedVariables false
set_option maxRecDepth 100000
def part (c : Nat → Int) (i : Nat) (d : Nat → Int) (k : Nat) : Nat → Int := fun q => if i * 32 ≤ q ∧ q < i * 32 + k then d (q - i * 32) else c q
theorem part_zero (c : Nat → Int) (i : Nat) (d : Nat → Int) : part c i d 0 = c := by
  funext q; unfold part; rw [if_neg (by omega)]
theorem part_all (c : Nat → Int) (i : Nat) (d : Nat → Int) : part c i d 32 = updRow c i d := rfl
theorem part_succ (c : Nat → Int) (i : Nat) (d : Nat → Int) (k : Nat) : upd (part c i d k) (i * 32 + k) (d k) = part c i d (k + 1) := by
  funext q
  unfold upd part
  by_cases h : q = i * 32 + k
  · subst h
    rw [if_pos rfl, if_pos (by omega), show i * 32 + k - i * 32 = k by omega]
  · rw [if_neg h]
    by_cases h2 : i * 32 ≤ q ∧ q < i * 32 + k
    · rw [if_pos h2, if_pos (by omega)]
    · rw [if_neg h2, if_neg (by omega)]
def ZeroI (g n pw : Nat) (c : Nat → Int) (i : Nat) (w : World) (v : Value) (wr : World) : Prop :=
  ∃ k : Nat, v = .int .i64 k ∧ k ≤ 32 ∧ RefAt wr g n (part c i (fun _ => 0) k) ∧ wr.cell? ⟨pw, 0, none⟩ = some (refV g n) ∧ Keep (only g) w wr
set_option maxHeartbeats 800000 in
theorem refzero_in {w : World} {g n pw : Nat} {c : Nat → Int} (M : RefAt w g n c) (hp : w.cell? ⟨pw, 0, none⟩ = some (refV g n)) (hne : pw ≠ g) (i : Int) (h0 : 0 ≤ i) (h1 : i < n) :
    Calls Tryd.prog 93 #[.pointer (some ⟨pw, 0, none⟩), .int .i64 i] w
      fun r w' => r = .returned (.int .i64 0) ∧ RefAt w' g n (updRow c i.toNat fun _ => 0) ∧ w'.cell? ⟨pw, 0, none⟩ = some (refV g n) ∧ Keep (only g) w w' := by
  have hb := fun W => refin_ok g n i 0 W M.hi
  rw [show inB n i 0 = true from decide_eq_true ⟨h0, h1, by decide, by decide⟩] at hb
  have HB := Lib.hid hb
  clear hb
  have hi := M.hi
  have hne := Lib.hid hne
  unfold refV at *
  go_enter Tryd.func93, Tryd.ntmps93
  go_wp2_with fail
  refine Calls.mono (HB.out _) ?_
  rintro r w1 ⟨rfl, K⟩
  have M1 := M.next K
  have p1 := K.some hp (fun x => x)
  have A : Keep (only g) w w1 := K.nob
  clear K hp M HB
  go_wp2_with fail
  go_loopw [5] (fun v wr => ZeroI g n pw c i.toNat w v wr) (fun v _ => (32 - intOf v).toNat)
  case atStart => exact ⟨0, rfl, by decide, by rw [part_zero]; exact M1, p1, A⟩
  case round =>
    clear M1 p1 A
    obtain ⟨k, rfl, hk, M, hp, A⟩ := hrel
    unfold refV at hp
    by_cases hlt : k < 32
    · have t1 : decide ((k : Int) < 32) = true := by simp; omega
      have hix := Lib.hid (show i.toNat * 32 + k = (i * 32 + k).toNat by omega)
      have hl := Lib.hid (show (i * 32 + k).toNat < n * 32 by omega)
      have c1 := M.cell _ hl.out
      have z1 := M.free (i * 32 + k).toNat
      have M' := Lib.hid (M.set _ hl.out 0 (by decide))
      have A := Lib.hid A
      have M0 := Lib.hid M
      clear M
      go_wp2_with fail
      go_roundw
      case rel =>
        refine ⟨k + 1, by go_num, by omega, ?_, ?_, ?_⟩
        · have := M'.out
          rw [← hix.out, part_succ c i.toNat (fun _ => 0) k] at this
          rw [← hix.out]
          exact this
        · rw [setCell_blk (Ne.symm hne.out)]; exact hp
        · exact A.out.setCell (p := ⟨g, (i * 32 + k).toNat, none⟩) _ (Or.inr rfl)
      case measure => simp [intOf]; omega
    · have t1 : decide ((k : Int) < 32) = false := by simp; omega
      obtain rfl : k = 32 := by omega
      have A := Lib.hid A
      rw [part_all] at M
      go_wp2
      go_ret
      exact ⟨rfl, M, hp, A.out⟩
theorem refzero_out {w : World} {g n pw : Nat} {c : Nat → Int} (M : RefAt w g n c) (hp : w.cell? ⟨pw, 0, none⟩ = some (refV g n)) (i : Int) (h : ¬ (0 ≤ i ∧ i < n)) :
    Calls Tryd.prog 93 #[.pointer (some ⟨pw, 0, none⟩), .int .i64 i] w fun r w' => r = .returned (.int .i64 2) ∧ Keep nob w w' := by
  have hb := fun W => refin_ok g n i 0 W M.hi
  rw [show inB n i 0 = false from decide_eq_false (fun q => h ⟨q.1, q.2.1⟩)] at hb
  have HB := Lib.hid hb
  clear hb h
  unfold refV at *
  go_enter Tryd.func93, Tryd.ntmps93
  go_wp2_with fail
  refine Calls.mono (HB.out _) ?_
  rintro r w1 ⟨rfl, K⟩
  go_wp2
  go_ret
  exact ⟨rfl, K⟩

def CopyI (g n pw : Nat) (c : Nat → Int) (t i : Nat) (w : World) (v : Value) (wr : World) : Prop :=
  ∃ k : Nat, v = .int .i64 k ∧ k ≤ 32 ∧ RefAt wr g n (part c t (fun q => c (i * 32 + q)) k) ∧ wr.cell? ⟨pw, 0, none⟩ = some (refV g n) ∧ Keep (only g) w wr
theorem part_read (c : Nat → Int) (t i k : Nat) (hk : k < 32) : part c t (fun q => c (i * 32 + q)) k (i * 32 + k) = c (i * 32 + k) := by
  unfold part
  split
  · rename_i h
    have : i = t := by omega
    subst this
    omega
  · rfl
/-! ### New -/
def zeroWord : Array Value := #[.int .u32 0]
theorem made_word (m k : Nat) (hk : k < m) : (madeCells zeroWord m)[k]? = some (.int .u32 0) := by
  simp only [madeCells, Array.getElem?_map, Array.getElem?_range, if_pos hk, Option.map_some]
  have hs : zeroWord.size = 1 := rfl
  rw [hs, Nat.mod_one]
  rfl
theorem ref_new (w : World) (n : Nat) (t : TypeId) (h1 : 1 ≤ n) (h2 : n ≤ 1024) : RefAt (w.alloc (.cells (madeCells zeroWord (n * 32)) t)) w.heap.size n (fun _ => 0) := by
  refine ⟨fun k hk => ?_, fun k => ?_, h1, h2, fun _ => by decide⟩
  · rw [World.cell?_alloc_new]
    exact made_word _ _ hk
  · simp only [World.frozen?, World.alloc, Array.getElem?_push_size]
    simp only [Bool.and_eq_false_iff]
    right
    exact decide_eq_false (by omega)
set_option maxHeartbeats 800000 in
theorem refnew_in (w : World) (n : Nat) (h1 : 1 ≤ n) (h2 : n ≤ 1024) :
    Calls Tryd.prog 58 #[.int .i64 n] w fun e w' => ∃ g, e = .returned (.tuple #[.agg #[refV g n], .int .i64 0]) ∧ RefAt w' g n (fun _ => 0) ∧ w.heap.size ≤ g ∧ Keep nob w w' := by
  obtain ⟨i0, hi, hz0, hz1, hz2⟩ := info_parts infoWord
  have hmk := fun w : World => run_make (P := Tryd.prog) w 51 66 i0 (.int .u32 0) Tryd.underlying51 hi hz0 .i64 .i64 ((n : Int) * 32) ((n : Int) * 32) (by omega) (by omega) (by rw [hz2]; omega) (by omega)
  rw [hz1, show ((n : Int) * 32).toNat = n * 32 by omega] at hmk
  simp only [Nat.mul_one] at hmk
  change ∀ w : World, _ = Result.ok _ (w.alloc (.cells (madeCells zeroWord (n * 32)) _)) at hmk
  have t1 : decide ((n : Int) < 1) = false := by simp; omega
  have t2 : decide ((1024 : Int) < n) = false := by simp; omega
  have H1 := Lib.hid h1
  clear hi hz0 hz1 hz2 h1
  go_enter Tryd.func58, Tryd.ntmps58
  go_wp2
  refine bodyPost_ret (v := .tuple #[.agg #[.slice (some ⟨w.heap.size + 1, 0, none⟩) (n * 32) (n * 32)], .int .i64 0]) (by rw [results_cell_tmp rfl]; go_simp) rfl ⟨w.heap.size + 1, rfl, ?_, by omega, ((Keep.refl _ _).alloc _).alloc _⟩
  have := ref_new (w.alloc (.cells #[.slice (some ⟨w.heap.size + 1, 0, none⟩) (n * 32) (n * 32)] 53)) n 66 H1.out h2
  simpa using this
theorem refnew_out (w : World) (n : Int) (h : ¬ (1 ≤ n ∧ n ≤ 1024)) :
    Calls Tryd.prog 58 #[.int .i64 n] w fun e w' => e = .returned (.tuple #[.agg #[.slice none 0 0], .int .i64 2]) ∧ Keep nob w w' := by
  by_cases h1 : n < 1
  · have t1 : decide (n < 1) = true := by simpa using h1
    go_enter Tryd.func58, Tryd.ntmps58
    go_wp2
    exact bodyPost_ret (v := .tuple #[.agg #[.slice none 0 0], .int .i64 2]) (by rw [results_cell_tmp rfl]; go_simp) rfl ⟨rfl, (Keep.refl _ _).alloc _⟩
  · have t1 : decide (n < 1) = false := by simpa using h1
    have t2 : decide (1024 < n) = true := by simp; omega
    go_enter Tryd.func58, Tryd.ntmps58
    go_wp2
    exact bodyPost_ret (v := .tuple #[.agg #[.slice none 0 0], .int .i64 2]) (by rw [results_cell_tmp rfl]; go_simp) rfl ⟨rfl, (Keep.refl _ _).alloc _⟩
end Go.Proofs.YtepmljcapobodaaDoor
