/- The example of layer 3, and its guard. -/
import Derived.Test.YtkkkmaigcnpmeaaBuilt
namespace Go.Proofs.Ytkkkmaigcnpmeaa
open Go.ChangeShapes Go.WideShapes Go.ChangeAt Go.RowKit Go.Deep
set_option linter.unusedVariables false
set_option maxRecDepth 100000
def fineB (n : Int) (l : List Cel) : Bool := decide (1 ≤ n) && (decide (n ≤ 12) && decide (l.length ≤ 200))
theorem fineB_iff (n : Int) (l : List Cel) : fineB n l = true ↔ 1 ≤ n ∧ n ≤ 12 ∧ l.length ≤ 200 := by
  unfold fineB
  simp only [Bool.and_eq_true, decide_eq_true_eq]
theorem fine_ok (n : Int) (v : Value) (l : List Cel) (w : World) (L : CelsAt w v l) :
    Calls Try.prog 59 #[.int .i64 n, v] w fun r w' => r = .returned (.bool (fineB n l)) ∧ w = w' := by
  obtain ⟨a, cap, rfl, hm, hf, hc⟩ := L
  obtain ⟨T1, t1⟩ : ∃ T, decide (1 ≤ n) = T := ⟨_, rfl⟩
  obtain ⟨T2, t2⟩ : ∃ T, decide (n ≤ 12) = T := ⟨_, rfl⟩
  obtain ⟨T3, t3⟩ : ∃ T, decide ((l.length : Int) ≤ 200) = T := ⟨_, rfl⟩
  have t4 : decide (l.length ≤ 200) = T3 := by rw [← t3]; exact decide_eq_decide.2 (by omega)
  have HT : Hid ((T1 && (T2 && T3)) = fineB n l) := by unfold fineB; rw [t1, t2, t4]; exact Lib.hid rfl
  clear hf hc t4
  go_enter Try.func59, Try.ntmps59
  go_wp2
  all_goals
    go_ret
    refine ⟨ret_bool ?_, rfl⟩
    rw [← HT.out]
    simp_all
def exL : List Cel := [⟨0, 1, 257⟩, ⟨1, 2, 515⟩]
theorem example_ok (w : World) :
    Calls Try.prog 82 #[] w fun r w' => ∃ v, r = .returned v ∧ CelsAt w' v exL ∧ Keep nob w w' := by
  go_enter Try.func82, Try.ntmps82
  go_wp2
  go_ret
  refine ⟨_, rfl, ⟨some ⟨w.heap.size, 0, none⟩, 2, rfl, by decide, ?_, fun _ => ⟨w.heap.size, 0, rfl, ?_⟩⟩, (Keep.refl _ _).alloc _⟩
  · intro o ho
    simp only [exL, List.mem_cons, List.not_mem_nil, or_false] at ho
    rcases ho with rfl | rfl <;> exact ⟨by decide, by decide⟩
  · intro k c hk
    rcases k with _ | _ | k
    · injection hk with hk; rw [← hk]; exact ⟨new_at _ _ _ 0 _ rfl, new_at _ _ _ 1 _ rfl, new_at _ _ _ 2 _ rfl⟩
    · injection hk with hk; rw [← hk]; exact ⟨new_at _ _ _ 3 _ rfl, new_at _ _ _ 4 _ rfl, new_at _ _ _ 5 _ rfl⟩
    · simp [exL] at hk
set_option maxHeartbeats 800000 in
theorem awake03 (w : World) : Calls Try.prog 60 #[] w fun e w' => e = .returned (.bool true) ∧ Keep nob w w' := by
  have v1 : atF (entE 3 (memOf 3 exL)) (entOk 3 (memOf 3 exL)) 0 1091 true = 0 := by decide
  have v2 : atFr (entE 3 (memOf 3 exL)) (entOk 3 (memOf 3 exL)) 0 1091 true = 2 := by decide
  have v3 : atPl (entE 3 (memOf 3 exL)) (entOk 3 (memOf 3 exL)) 0 1091 true = 3 := by decide
  have v4 : atF (entE 3 (memOf 3 exL)) (entOk 3 (memOf 3 exL)) 0 1059 false = 3 := by decide
  have v5 : atF (entE 3 (memOf 3 exL)) (entOk 3 (memOf 3 exL)) 0 67 false = 2 := by decide
  have v6 : atF (entE 3 (memOf 3 exL)) (entOk 3 (memOf 3 exL)) 0 32768 false = 1 := by decide
  have BO := Lib.hid (fun v W (L : CelsAt W v exL) => built_ok 3 v exL W (by decide) (by decide) L)
  go_enter Try.func60, Try.ntmps60
  go_wp2_with fail
  refine Calls.mono (example_ok _) ?_
  rintro e w1 ⟨v, rfl, L1, K1⟩
  have L1 := Lib.hid L1
  go_wp2_with fail
  refine Calls.mono (BO.out _ _ L1.out) ?_
  rintro e w2 ⟨b, f, g, rfl, B⟩
  have EN := entry_at B.m
  have A2 := Lib.hid (K1.then B.k)
  obtain ⟨c, hc⟩ : ∃ c, c = memOf 3 exL := ⟨_, rfl⟩
  rw [← hc] at EN v1 v2 v3 v4 v5 v6
  have EN := Lib.hid EN
  have V1 := Lib.hid v1
  have V2 := Lib.hid v2
  have V3 := Lib.hid v3
  have V4 := Lib.hid v4
  have V5 := Lib.hid v5
  have V6 := Lib.hid v6
  clear hc v1 v2 v3 v4 v5 v6 B K1 L1 BO
  unfold refV
  go_wp2_with fail
  have C1 := at_ok (EN.out.next ((Keep.refl _ _).alloc (.cells #[.slice (some ⟨g, 0, none⟩) (3 * 32) (3 * 32)] 58))) 0 1091 true (by decide) (by decide)
  rw [V1.out, V2.out, V3.out] at C1
  refine Calls.mono C1 ?_
  clear C1
  rintro r w3 ⟨rfl, K3⟩
  have KA := ((Keep.refl nob w2).alloc (.cells #[.slice (some ⟨g, 0, none⟩) (3 * 32) (3 * 32)] 58)).then K3
  have E3 := Lib.hid (EN.out.next KA)
  have A3 := Lib.hid (A2.out.then KA)
  clear K3 KA EN A2
  go_wp2_with fail
  have C1 := at_ok E3.out 0 1059 false (by decide) (by decide)
  rw [V4.out] at C1
  refine Calls.mono C1 ?_
  clear C1
  rintro r w4 ⟨rfl, K4⟩
  have E4 := Lib.hid (E3.out.next K4)
  have A4 := Lib.hid (A3.out.then K4)
  clear K4 E3 A3
  go_wp2_with fail
  have C1 := at_ok E4.out 0 67 false (by decide) (by decide)
  rw [V5.out] at C1
  refine Calls.mono C1 ?_
  clear C1
  rintro r w5 ⟨rfl, K5⟩
  have E5 := Lib.hid (E4.out.next K5)
  have A5 := Lib.hid (A4.out.then K5)
  clear K5 E4 A4
  go_wp2_with fail
  have C1 := at_ok E5.out 0 32768 false (by decide) (by decide)
  rw [V6.out] at C1
  refine Calls.mono C1 ?_
  clear C1
  rintro r w6 ⟨rfl, K6⟩
  have A6 := Lib.hid (A5.out.then K6)
  clear K6 E5 A5
  go_wp2_with fail
  go_ret
  exact ⟨rfl, A6.out⟩
end Go.Proofs.Ytkkkmaigcnpmeaa
