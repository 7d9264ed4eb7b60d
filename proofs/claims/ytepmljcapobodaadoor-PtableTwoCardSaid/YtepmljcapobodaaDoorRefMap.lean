/- Lists of mappings that are read: rows of five cells; mappings and entries compared; the reference's Same. -/
import Derived.Test.YtepmljcapobodaaDoorPtBack
import Derived.Test.YtepmljcapobodaaDoorFlat
import Derived.StillTailTactics
import Derived.Deep.QuietTactic
import Derived.BigQuiet
namespace Go.Proofs.YtepmljcapobodaaDoor
open Go.RowKit
set_option linter.unusedVariables false
set_option linter.unusedSimpArgs false
set_option maxRecDepth 100000
/-! ### Rows of one's own, of any size -/
theorem own_cells {w : World} {base e N n : Nat} {v : Value} {xs : List Value} (h : w.ownsRow base e N v n xs) (hn : 0 < n) :
    ∃ g cap, v = .slice (some ⟨g, 0, none⟩) n cap ∧ base ≤ g ∧ g < w.heap.size ∧ n ≤ cap ∧ ∀ j u, xs[j]? = some u → w.cell? ⟨g, j, none⟩ = some u ∧ w.frozen? ⟨g, j, none⟩ = false := by
  obtain ⟨hl, ⟨_, h⟩ | ⟨g, cap, cur, rfl, h2, h3, h4, h5, h6, h7⟩⟩ := h
  · omega
  · refine ⟨g, cap, rfl, h2, (Array.getElem?_eq_some_iff.1 h3).1, h4, fun j u hu => ?_⟩
    have hj : j < xs.length := (List.getElem?_eq_some_iff.1 hu).1
    rw [← h7] at hu
    rw [List.getElem?_take] at hu
    split at hu
    · refine ⟨?_, ?_⟩
      · simp only [World.cell?, h3]
        simpa using hu
      · simp only [World.frozen?, h3]
        simp
    · cases hu
theorem flat_get {α : Type} {N : Nat} {cells : α → List Value} (hN : ∀ x, (cells x).length = N) : ∀ (l : List α) (k : Nat) (c : α) (j : Nat) (u : Value), l[k]? = some c → (cells c)[j]? = some u → (l.flatMap cells)[k * N + j]? = some u
  | [], k, c, j, u, h, _ => by simp at h
  | a :: l, 0, c, j, u, h, hu => by
    have e : a = c := by simpa using h
    subst e
    have hj : j < (cells a).length := (List.getElem?_eq_some_iff.1 hu).1
    rw [List.flatMap_cons, Nat.zero_mul, Nat.zero_add, List.getElem?_append_left hj]
    exact hu
  | a :: l, k + 1, c, j, u, h, hu => by
    have h' : l[k]? = some c := by simpa using h
    have := flat_get hN l k c j u h' hu
    rw [List.flatMap_cons, List.getElem?_append_right (by rw [hN, Nat.succ_mul]; omega), hN, Nat.succ_mul, show k * N + N + j - N = k * N + j by omega]
    exact this
theorem own_rows {α : Type} {N : Nat} {cells : α → List Value} (hN : ∀ x, (cells x).length = N) {w : World} {base e : Nat} {v : Value} {l : List α} (h : w.ownsRow base e N v l.length (l.flatMap cells)) (hm : l.length ≤ 4611686018427387904) : RowsAt N cells w v l := by
  by_cases hl : l = []
  · subst hl
    rcases h.2 with ⟨h1, -⟩ | ⟨g, cap, cur, hv, -⟩
    · exact ⟨none, 0, h1, by simp, by simp, fun q => absurd rfl q⟩
    · exact ⟨_, cap, hv, by simp, by simp, fun q => absurd rfl q⟩
  · have h0 : 0 < l.length := by
      cases l with
      | nil => exact absurd rfl hl
      | cons a r => simp
    obtain ⟨g, cap, hv, -, -, hc, hcells⟩ := own_cells h h0
    refine ⟨some ⟨g, 0, none⟩, cap, hv, by omega, hc, fun _ => ⟨g, 0, rfl, fun k c hk j u hu => ?_⟩⟩
    rw [Nat.zero_add]
    exact (hcells _ u (flat_get hN l k c j u hk hu)).1
theorem mapCells_len (x : Nat × Ent) : (mapCells x).length = 5 := rfl
/-- A slice of mappings that is read. -/
abbrev MapsIs (w : World) (v : Value) (l : List (Nat × Ent)) : Prop := RowsAt 5 mapCells w v l
theorem MapsAt.is {base : Nat} {w : World} {v : Value} {l : List (Nat × Ent)} (h : MapsAt base w v l) (hm : l.length ≤ 4611686018427387904) : MapsIs w v l := own_rows mapCells_len h.1 hm
theorem MapsAt.keep {base : Nat} {w w' : World} {v : Value} {l : List (Nat × Ent)} {S : Nat → Prop} (h : MapsAt base w v l) (k : Keep S w w') (hS : ∀ g, base ≤ g → ¬ S g) : MapsAt base w' v l := ⟨own_keep h.1 k hS, h.2⟩
/-! ### Entries and mappings compared -/
theorem eqEnt (d : Nat) (w : World) (a b c a' b' c' : Bool) (f f' : Int) :
    (Op.equalIn (d + 1 + 1) 69 (.agg #[.bool a, .bool b, .bool c, .int .i64 f]) (.agg #[.bool a', .bool b', .bool c', .int .i64 f'])).run Tryd.prog w =
      .ok (a == a' && (b == b' && (c == c' && f == f'))) w := by
  rw [Op.equalIn]
  simp only [Sem.run_bind, run_underlying Tryd.underlying69, Result.andThen_ok]
  simp [go_sem, List.range']
  by_cases h0 : a = a' <;> simp [h0, go_sem]
  by_cases h1 : b = b' <;> simp [h1, go_sem]
  by_cases h2 : c = c' <;> simp [h2, go_sem]
  by_cases h3 : f = f' <;> simp [h3]
theorem neEnt (w : World) (a b c a' b' c' : Bool) (f f' : Int) :
    (binOp .neq 69 (.agg #[.bool a, .bool b, .bool c, .int .i64 f]) (.agg #[.bool a', .bool b', .bool c', .int .i64 f'])).run Tryd.prog w =
      .ok (.bool (!decide ((⟨a, b, c, f⟩ : Ent) = ⟨a', b', c', f'⟩))) w := by
  have ha := eqEnt 9998 w a b c a' b' c' f f'
  simp only [run_neq_struct]
  simp [go_sem, ha]
  cases a <;> cases a' <;> cases b <;> cases b' <;> cases c <;> cases c' <;> by_cases h3 : f = f' <;> simp [h3]
theorem neMap (w : World) (n n' : Int) (a b c a' b' c' : Bool) (f f' : Int) :
    (binOp .neq 106 (.agg #[.int .i64 n, .bool a, .bool b, .bool c, .int .i64 f]) (.agg #[.int .i64 n', .bool a', .bool b', .bool c', .int .i64 f'])).run Tryd.prog w =
      .ok (.bool (!decide (n = n' ∧ (⟨a, b, c, f⟩ : Ent) = ⟨a', b', c', f'⟩))) w := by
  have ha := eqEnt 9997 w a b c a' b' c' f f'
  simp only [run_neq_struct]
  simp [go_sem, ha]
  (repeat' split) <;> simp_all
def Same10I (w : World) (l1 l2 : List (Nat × Ent)) (i : Value) (wr : World) : Prop :=
  ∃ k : Nat, i = .int .i64 k ∧ k ≤ l1.length ∧ l1.take k = l2.take k ∧ Keep nob w wr
set_option maxHeartbeats 1600000 in
theorem same10_ok {w : World} {v1 v2 : Value} {l1 l2 : List (Nat × Ent)} (h1 : MapsIs w v1 l1) (h2 : MapsIs w v2 l2) :
    Calls Tryd.prog 46 #[v1, v2] w fun e w' => e = .returned (.bool (decide (l1 = l2))) ∧ Keep nob w w' := by
  obtain ⟨a1, c1, rfl, m1, p1, g1⟩ := h1
  obtain ⟨a2, c2, rfl, m2, p2, g2⟩ := h2
  have G1 := Lib.hid g1
  have G2 := Lib.hid g2
  clear g1 g2
  by_cases hl : l1.length = l2.length
  · have t1 : ((l1.length : Int) != (l2.length : Int)) = false := by simp [hl]
    have HL := Lib.hid hl
    clear hl
    go_enter Tryd.func46, Tryd.ntmps46
    go_wp2_with fail
    go_loopw [5] (fun i wr => Same10I w l1 l2 i wr) (fun i _ => (l1.length - intOf i).toNat)
    case atStart => exact ⟨0, rfl, Nat.zero_le _, by simp, Keep.refl _ _⟩
    case round =>
      obtain ⟨k, rfl, hk, ht, A⟩ := hrel
      by_cases hlt : k < l1.length
      · have hlt2 : k < l2.length := by rw [← HL.out]; exact hlt
        obtain ⟨ga, oa, rfl, ca⟩ := G1.out (by intro e; rw [e] at hlt; simp at hlt)
        obtain ⟨gb, ob, rfl, cb⟩ := G2.out (by intro e; rw [e] at hlt2; simp at hlt2)
        have x1 := List.getElem?_eq_getElem hlt
        have x2 := List.getElem?_eq_getElem hlt2
        obtain ⟨⟨n, ⟨p, q, c, f⟩⟩, hx⟩ : ∃ x, l1[k] = x := ⟨_, rfl⟩
        obtain ⟨⟨n', ⟨p', q', c', f'⟩⟩, hy⟩ : ∃ x, l2[k] = x := ⟨_, rfl⟩
        rw [hx] at x1
        rw [hy] at x2
        have a0 : wr.cell? ⟨ga, oa + k * 5, none⟩ = some (.int .i64 n) := A.some (ca k _ x1 0 _ rfl) (fun x => x)
        have a1 : wr.cell? ⟨ga, oa + k * 5 + 1, none⟩ = some (.bool p) := A.some (ca k _ x1 1 _ rfl) (fun x => x)
        have a2 : wr.cell? ⟨ga, oa + k * 5 + 2, none⟩ = some (.bool q) := A.some (ca k _ x1 2 _ rfl) (fun x => x)
        have a3 : wr.cell? ⟨ga, oa + k * 5 + 3, none⟩ = some (.bool c) := A.some (ca k _ x1 3 _ rfl) (fun x => x)
        have a4 : wr.cell? ⟨ga, oa + k * 5 + 4, none⟩ = some (.int .i64 f) := A.some (ca k _ x1 4 _ rfl) (fun x => x)
        have b0 : wr.cell? ⟨gb, ob + k * 5, none⟩ = some (.int .i64 n') := A.some (cb k _ x2 0 _ rfl) (fun x => x)
        have b1 : wr.cell? ⟨gb, ob + k * 5 + 1, none⟩ = some (.bool p') := A.some (cb k _ x2 1 _ rfl) (fun x => x)
        have b2 : wr.cell? ⟨gb, ob + k * 5 + 2, none⟩ = some (.bool q') := A.some (cb k _ x2 2 _ rfl) (fun x => x)
        have b3 : wr.cell? ⟨gb, ob + k * 5 + 3, none⟩ = some (.bool c') := A.some (cb k _ x2 3 _ rfl) (fun x => x)
        have b4 : wr.cell? ⟨gb, ob + k * 5 + 4, none⟩ = some (.int .i64 f') := A.some (cb k _ x2 4 _ rfl) (fun x => x)
        have q1 : ((k : Int) < (l1.length : Int)) := by omega
        have q2 : ((k : Int) < (l2.length : Int)) := by omega
        have hne : ∀ w, (binOp .neq 106 (.agg #[.int .i64 (n : Int), .bool p, .bool q, .bool c, .int .i64 f]) (.agg #[.int .i64 (n' : Int), .bool p', .bool q', .bool c', .int .i64 f'])).run Tryd.prog w = .ok (.bool (!decide (l1[k] = l2[k]))) w := by
          intro w
          rw [neMap, hx, hy]
          congr 2
          have : ((n : Int) = n' ∧ (⟨p, q, c, f⟩ : Ent) = ⟨p', q', c', f'⟩) ↔ (((n, ⟨p, q, c, f⟩) : Nat × Ent) = (n', ⟨p', q', c', f'⟩)) := by
            constructor
            · rintro ⟨h1, h2⟩
              rw [h2, show n = n' by omega]
            · intro h
              injection h with h1 h2
              exact ⟨by omega, h2⟩
          simp only [this]
        have ha := Lib.hid A
        have htt := Lib.hid ht
        clear A ht ca cb
        replace x1 := Lib.hid x1
        replace x2 := Lib.hid x2
        replace hx := Lib.hid hx
        replace hy := Lib.hid hy
        by_cases he : l1[k] = l2[k]
        · have he' := Lib.hid he
          have td : decide (l1[k] = l2[k]) = true := decide_eq_true he
          rw [td] at hne
          clear he td
          go_wp2_with fail
          go_quiet (fail)
          go_wp2_with fail
          go_roundw
          case rel =>
            refine ⟨k + 1, by go_num, hlt, ?_, ha.out.then (Keep.drewN (Keep.refl _ _) _)⟩
            rw [List.take_succ_eq_append_getElem hlt, List.take_succ_eq_append_getElem hlt2, htt.out, he'.out]
          case measure => simp [intOf]; omega
        · have he' := Lib.hid he
          have td : decide (l1[k] = l2[k]) = false := decide_eq_false he
          rw [td] at hne
          clear he td
          go_wp2_with fail
          go_quiet (fail)
          go_wp2_with fail
          go_ret
          refine ⟨?_, ha.out.then (Keep.drewN (Keep.refl _ _) _)⟩
          have hne : ¬ l1 = l2 := by
            intro e
            subst e
            exact he'.out rfl
          exact ret_bool (decide_eq_false hne).symm
      · have t4 : decide (k < l1.length) = false := by simpa using hlt
        have A := Lib.hid A
        have ht := Lib.hid ht
        go_wp2_with fail
        go_ret
        have ht := ht.out
        have A := A.out
        refine ⟨?_, A⟩
        rw [List.take_of_length_le (by omega), List.take_of_length_le (by rw [← HL.out]; omega)] at ht
        exact ret_bool (decide_eq_true ht).symm
  · have t1 : ((l1.length : Int) != (l2.length : Int)) = true := by simp; omega
    have t2 : (l1.length != l2.length) = true := by simpa using hl
    have t3 : (l1.length == l2.length) = false := by simpa using hl
    have HL := Lib.hid hl
    clear hl
    go_enter Tryd.func46, Tryd.ntmps46
    go_wp2_with fail
    go_ret
    refine ⟨?_, Keep.refl _ _⟩
    exact ret_bool (decide_eq_false (fun e => HL.out (by rw [e]))).symm
end Go.Proofs.YtepmljcapobodaaDoor
