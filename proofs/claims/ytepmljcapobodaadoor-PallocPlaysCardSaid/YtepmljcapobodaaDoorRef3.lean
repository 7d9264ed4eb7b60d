/- Contracts of the reference's memory, third part: Page. -/
import Derived.Test.YtepmljcapobodaaDoorRef2
namespace Go.Proofs.YtepmljcapobodaaDoor
open Go.RowKit
set_option linter.unusedVariables false
set_option maxRecDepth 100000
set_option maxHeartbeats 800000 in
theorem refpage_in {w : World} {g n : Nat} {c : Nat → Int} (M : RefAt w g n c) (i : Int) (h0 : 0 ≤ i) (h1 : i < n) :
    Calls Tryd.prog 29 #[.agg #[refV g n], .int .i64 i] w
      fun r w' => ∃ v, r = .returned (.tuple #[v, .int .i64 0]) ∧ RowIs w.heap.size w' v 32 (words c i.toNat) ∧ Keep nob w w' := by
  have hb := fun W => refin_ok g n i 0 W M.hi
  rw [show inB n i 0 = true from decide_eq_true ⟨h0, h1, by decide, by decide⟩] at hb
  have HB := Lib.hid hb
  clear hb
  have hi := M.hi
  unfold refV at *
  obtain ⟨i0, hi0, hz0, hz1, hz2⟩ := info_parts infoWord
  have I1 := Lib.hid hi0
  have I2 := Lib.hid hz0
  have I3 := Lib.hid hz1
  have I4 := Lib.hid hz2
  clear hi0 hz0 hz1 hz2
  have hm := Lib.hid (show (i * 32 + 32).toNat - (i * 32).toNat = 32 by omega)
  have hix := Lib.hid (show (i * 32).toNat = i.toNat * 32 by omega)
  go_enter Tryd.func29, Tryd.ntmps29
  go_wp2_with fail
  refine Calls.mono (HB.out _) ?_
  rintro r w1 ⟨rfl, K⟩
  have c0 := K.some (p := ⟨w.heap.size, 0, none⟩) (v := .slice (some ⟨g, 0, none⟩) (n * 32) (n * 32)) (by rw [World.cell?_alloc_new]; rfl) (fun x => x)
  have A := (Keep.alloc (Keep.refl nob w) _).then K
  have M1 := M.next A
  have hlt := World.block_lt_of_cell? _ _ c0
  have A := Lib.hid A
  clear K M HB
  have M2 := Lib.hid (M1.next ((Keep.refl _ _).alloc (.cells #[] 66)))
  go_wp2_with (at_builtin; refine wpList_append_grows _ rfl (.tmp 10) (.tmp 18) 51 rfl 66 i0 (.int .u32 0) 1 4 Tryd.underlying51 I1.out I2.out I3.out I4.out rfl (by decide) (some ⟨w1.heap.size, 0, none⟩) 0 0 [] rfl (fun h => by cases h) rfl (fun b hb j u hu => by simp at hu) ⟨g, (i * 32).toNat, none⟩ ((i * 32 + 32).toNat - (i * 32).toNat) (n * 32 - (i * 32).toNat) (row c i.toNat) rfl ?c1 ?c2 ?c3 ?c4 ?c5 ?c6 ?_)
  case c1 => rw [hm.out, row_len]
  case c2 =>
    intro j u hu
    have hj : j < 32 := by have := (List.getElem?_eq_some_iff.1 hu).1; rwa [row_len] at this
    rw [row_get c _ j hj] at hu
    injection hu with hu
    rw [Addr.add_mid, hix.out, ← hu]
    exact M2.out.cell _ (by omega)
  case c3 => exact row_one _ _
  case c4 => rw [hm.out]; decide
  case c5 => rw [hm.out]; decide
  case c6 => rw [hm.out]; decide
  rw [hm.out]
  intro v' w' hown hgrow
  obtain ⟨gg, cap, rfl⟩ := Joins.ownsRow_form hown (by decide)
  rw [row_words] at hown
  have R := Lib.hid (rowIs_of_owns (by rw [words_len]) (by decide) hown)
  have K := Lib.hid (keep_of_grown hgrow)
  clear hown hgrow
  go_wp2
  go_ret2
  refine ⟨_, rfl, R.out.mono ?_, (A.out.alloc _).then K.out⟩
  have : w.heap.size < w1.heap.size := hlt
  omega
theorem refpage_out {w : World} {g n : Nat} {c : Nat → Int} (M : RefAt w g n c) (i : Int) (h : ¬ (0 ≤ i ∧ i < n)) :
    Calls Tryd.prog 29 #[.agg #[refV g n], .int .i64 i] w fun r w' => r = .returned (.tuple #[.slice none 0 0, .int .i64 2]) ∧ Keep nob w w' := by
  have hb := fun W => refin_ok g n i 0 W M.hi
  rw [show inB n i 0 = false from decide_eq_false (fun q => h ⟨q.1, q.2.1⟩)] at hb
  have HB := Lib.hid hb
  clear hb h
  unfold refV at *
  go_enter Tryd.func29, Tryd.ntmps29
  go_wp2_with fail
  refine Calls.mono (HB.out _) ?_
  rintro r w1 ⟨rfl, K⟩
  go_wp2
  go_ret2
  exact ⟨rfl, (Keep.alloc (Keep.refl nob w) _).then K⟩
end Go.Proofs.YtepmljcapobodaaDoor
