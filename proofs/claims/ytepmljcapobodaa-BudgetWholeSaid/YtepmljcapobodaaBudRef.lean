/- Of prioryref11: lists of containers; fits, At, Left, Same, New. -/
import Derived.Test.YtepmljcapobodaaNdEq
namespace Go.Proofs.Ytepmljcapobodaa
open Go.RowKit
set_option linter.unusedVariables false
set_option linter.unusedSimpArgs false
set_option maxRecDepth 100000
/-- The slice v, of a row of its own, holds l. -/
def NL (w : World) (v : Value) (l : List Nd) : Prop := w.ownsRow 0 35 4 v l.length (l.flatMap ndCells)
/-- .. and lies in none of the blocks S. -/
def offB (S : Nat → Prop) (v : Value) : Prop := ∀ g, v.ownBlock = some g → ¬ S g
section
variable {w : World} {v : Value} {l : List Nd}
theorem NL.next {w' : World} (h : NL w v l) (k : Keep nob w w') : NL w' v l := own_next h k
theorem NL.keep {w' : World} {S : Nat → Prop} (h : NL w v l) (k : Keep S w w') (o : offB S v) : NL w' v l := own_keep2 h k o
theorem NL.lt (h : NL w v l) : ∀ g, v.ownBlock = some g → g < w.heap.size := fun g hg => (own_tag h hg).2.1
theorem NL.form (h : NL w v l) (hl : 0 < l.length) : ∃ g cap, v = .slice (some ⟨g, 0, none⟩) l.length cap ∧ l.length ≤ cap ∧ g < w.heap.size ∧ ∀ (k : Nat) (x : Nd), l[k]? = some x →
    (w.cell? ⟨g, k * 4, none⟩ = some (.int .i64 x.id) ∧ w.cell? ⟨g, k * 4 + 1, none⟩ = some (.int .i64 x.up) ∧ w.cell? ⟨g, k * 4 + 2, none⟩ = some (.int .i64 x.qt) ∧ w.cell? ⟨g, k * 4 + 3, none⟩ = some (.int .i64 x.us)) ∧ w.frozen? ⟨g, k * 4 + 3, none⟩ = false := by
  obtain ⟨g, cap, hv, -, hg, hc, src⟩ := own_cells h hl
  refine ⟨g, cap, hv, hc, hg, fun k x hx => ⟨⟨?_, ?_, ?_, ?_⟩, ?_⟩⟩
  · exact (src _ _ (flat_get ndCells_len l k x 0 _ hx rfl)).1
  · exact (src _ _ (flat_get ndCells_len l k x 1 _ hx rfl)).1
  · exact (src _ _ (flat_get ndCells_len l k x 2 _ hx rfl)).1
  · exact (src _ _ (flat_get ndCells_len l k x 3 _ hx rfl)).1
  · exact (src _ _ (flat_get ndCells_len l k x 3 _ hx rfl)).2
end
/-! ### Places -/
def idxN : List Nd → Int → Nat
  | [], _ => 0
  | x :: l, k => if x.id = k then 0 else idxN l k + 1
def atN (l : List Nd) (k : Int) : Int := if findN l k = none then -1 else idxN l k
theorem idxN_cons (x : Nd) (l : List Nd) (k : Int) : idxN (x :: l) k = if x.id = k then 0 else idxN l k + 1 := rfl
theorem idx_some {l : List Nd} {k : Int} {x : Nd} (h : findN l k = some x) : l[idxN l k]? = some x := by
  induction l with
  | nil => cases h
  | cons y l ih =>
    rw [findN_cons] at h
    rw [idxN_cons]
    split
    · rename_i e; rw [if_pos e] at h; simpa using h
    · rename_i e; rw [if_neg e] at h; simpa using ih h
theorem idx_at {l : List Nd} {k : Int} {i : Nat} {x : Nd} (hx : l[i]? = some x) (e : x.id = k) (h : ∀ (j : Nat) (y : Nd), j < i → l[j]? = some y → y.id ≠ k) : findN l k = some x ∧ idxN l k = i := by
  induction l generalizing i with
  | nil => simp at hx
  | cons y l ih =>
    rw [findN_cons, idxN_cons]
    cases i with
    | zero =>
      have : y = x := by simpa using hx
      subst this
      rw [if_pos e, if_pos e]
      exact ⟨rfl, rfl⟩
    | succ i =>
      have hy := h 0 y (by omega) rfl
      rw [if_neg hy, if_neg hy]
      have := ih (i := i) (by simpa using hx) (fun j z hj hz => h (j + 1) z (by omega) (by simpa using hz))
      exact ⟨this.1, by rw [this.2]⟩
theorem idx_not {l : List Nd} {k : Int} (h : ∀ (j : Nat) (y : Nd), l[j]? = some y → y.id ≠ k) : findN l k = none := by
  cases e : findN l k with
  | none => rfl
  | some x =>
    have := findN_some e
    obtain ⟨j, hj⟩ := List.mem_iff_getElem?.1 this.1
    exact absurd this.2 (h j x hj)
theorem atN_some {l : List Nd} {k : Int} {x : Nd} (h : findN l k = some x) : atN l k = idxN l k := by unfold atN; rw [if_neg (by rw [h]; simp)]
theorem atN_none {l : List Nd} {k : Int} (h : findN l k = none) : atN l k = -1 := by unfold atN; rw [if_pos h]
section
variable {w : World} {v : Value} {l : List Nd}
theorem fits_ok (w : World) (id n : Int) : Calls Try.prog 33 #[.int .i64 id, .int .i64 n] w fun r w' => r = .returned (.bool (fitsN id n)) ∧ w = w' := by
  unfold fitsN
  by_cases q1 : 1 ≤ id
  · have t1 : decide (1 ≤ id) = true := decide_eq_true q1
    by_cases q2 : id ≤ 8
    · have t2 : decide (id ≤ 8) = true := decide_eq_true q2
      by_cases q3 : 0 ≤ n
      · have t3 : decide (0 ≤ n) = true := decide_eq_true q3
        by_cases q4 : n ≤ 65536
        · have t4 : decide (n ≤ 65536) = true := decide_eq_true q4
          rw [t1, t2, t3, t4]
          clear q1 q2 q3 q4
          go_enter Try.func33, Try.ntmps33
          go_wp2_with fail
          go_ret
          exact ⟨rfl, rfl⟩
        · have t4 : decide (n ≤ 65536) = false := decide_eq_false q4
          rw [t1, t2, t3, t4]
          clear q1 q2 q3 q4
          go_enter Try.func33, Try.ntmps33
          go_wp2_with fail
          go_ret
          exact ⟨rfl, rfl⟩
      · have t3 : decide (0 ≤ n) = false := decide_eq_false q3
        rw [t1, t2, t3]
        clear q1 q2 q3
        go_enter Try.func33, Try.ntmps33
        go_wp2_with fail
        go_ret
        exact ⟨rfl, rfl⟩
    · have t2 : decide (id ≤ 8) = false := decide_eq_false q2
      rw [t1, t2]
      clear q1 q2
      go_enter Try.func33, Try.ntmps33
      go_wp2_with fail
      go_ret
      exact ⟨rfl, rfl⟩
  · have t1 : decide (1 ≤ id) = false := decide_eq_false q1
    rw [t1]
    clear q1
    go_enter Try.func33, Try.ntmps33
    go_wp2_with fail
    go_ret
    exact ⟨rfl, rfl⟩
def InvI (w : World) (l : List Nd) (id : Int) (i : Value) (wr : World) : Prop := ∃ k : Nat, i = .int .i64 k ∧ k ≤ l.length ∧ (∀ (j : Nat) (y : Nd), j < k → l[j]? = some y → y.id ≠ id) ∧ w = wr
set_option maxHeartbeats 1600000 in
theorem at_ok11 (h : NL w v l) (hl : 0 < l.length) (h9 : l.length ≤ 1000) (id : Int) : Calls Try.prog 21 #[v, .int .i64 id] w fun r w' => r = .returned (.int .i64 (atN l id)) ∧ w = w' := by
  obtain ⟨g, cap, rfl, hc, hg, src⟩ := h.form hl
  replace h := Lib.hid h
  replace src := Lib.hid src
  go_enter Try.func21, Try.ntmps21
  go_wp2_with fail
  go_loopw [5] (fun i wr => InvI w l id i wr) (fun i _ => (l.length - intOf i).toNat)
  case atStart => exact ⟨0, rfl, Nat.zero_le _, fun j y hj => by omega, rfl⟩
  case round =>
    obtain ⟨k, rfl, hk, hb, rfl⟩ := hrel
    have hb := Lib.hid hb
    by_cases hlt : k < l.length
    · obtain ⟨x, hx⟩ : ∃ x, l[k]? = some x := ⟨l[k], List.getElem?_eq_getElem hlt⟩
      have c0 := (src.out k x hx).1.1
      have kz : (0 : Int) ≤ k := by omega
      have kb : (k : Int) < l.length := by omega
      have t0 : decide (k < l.length) = true := decide_eq_true hlt
      replace hx := Lib.hid hx
      by_cases e : x.id = id
      · have hi := idx_at hx.out e hb.out
        rw [e] at c0
        replace e := Lib.hid e
        replace hi := Lib.hid hi
        go_wp2_with fail
        go_ret
        refine ⟨?_, rfl⟩
        rw [atN_some hi.out.1, hi.out.2]
        rfl
      · have t1 : (x.id == id) = false := by simpa using e
        replace e := Lib.hid e
        go_wp2_with fail
        go_roundw
        case rel =>
          refine ⟨k + 1, by go_num, by omega, fun j y hj hy => ?_, rfl⟩
          by_cases q : j = k
          · subst q
            rw [hx.out] at hy
            injection hy with hy
            subst hy
            exact e.out
          · exact hb.out j y (by omega) hy
        case measure => simp [intOf]; omega
    · obtain rfl : k = l.length := by omega
      have t0 : decide (l.length < l.length) = false := by simp
      have hn : findN l id = none := idx_not fun j y hy => hb.out j y (List.getElem?_eq_some_iff.1 hy).1 hy
      replace hn := Lib.hid hn
      go_wp2_with fail
      go_ret
      refine ⟨?_, rfl⟩
      rw [atN_none hn.out]
      rfl
theorem carvN_take_succ (l : List Nd) {k : Nat} {x : Nd} (hx : l[k]? = some x) (id : Int) : carvN (l.take (k + 1)) id = carvN (l.take k) id + if x.up = id then x.qt else 0 := by
  rw [List.take_add_one, hx, carvN_app]
  show _ + carvN [x] id = _
  rw [carvN_cons]
  show _ + (_ + 0) = _
  omega
theorem Good.carvT {l : List Nd} (G : Good l) (k : Nat) (id : Int) : 0 ≤ carvN (l.take k) id ∧ carvN (l.take k) id ≤ 524288 := by
  have h1 := carvN_nonneg (l := l.take k) (fun x hx => (G.rng x (List.mem_of_mem_take hx)).1) id
  have h2 := carvN_le (l := l.take k) (fun x hx => (G.rng x (List.mem_of_mem_take hx)).2.1) id
  have h3 := G.len
  have h4 : (l.take k).length ≤ l.length := by rw [List.length_take]; omega
  omega
def InvL2 (w : World) (l : List Nd) (id d : Int) (n i : Value) (wr : World) : Prop := ∃ k : Nat, i = .int .i64 k ∧ k ≤ l.length ∧ n = .int .i64 (d - carvN (l.take k) id) ∧ Keep nob w wr
theorem Good.pos {l : List Nd} (G : Good l) : 0 < l.length := by
  cases l with
  | nil => exact absurd rfl G.one
  | cons a l => simp
set_option maxHeartbeats 1600000 in
theorem left_ok11 (h : NL w v l) (G : Good l) (id : Int) : Calls Try.prog 18 #[v, .int .i64 id] w fun r w' => r = .returned (.int .i64 (leftN' l id)) ∧ Keep nob w w' := by
  have A := at_ok11 h G.pos (by have := G.len; omega) id
  have ln := G.len
  obtain ⟨g, cap, rfl, hc, hg, src⟩ := h.form G.pos
  cases e : findN l id with
  | none =>
    have el : leftN' l id = 0 := by unfold leftN'; rw [e]
    rw [atN_none e] at A
    rw [el]
    replace A := Lib.hid A
    replace src := Lib.hid src
    replace h := Lib.hid h
    replace G := Lib.hid G
    replace e := Lib.hid e
    go_enter Try.func18, Try.ntmps18
    go_wp2_with fail
    refine Calls.mono A.out ?_
    rintro r w1 ⟨rfl, rfl⟩
    go_wp2_with fail
    go_ret
    exact ⟨rfl, Keep.refl _ _⟩
  | some x =>
    have el : leftN' l id = x.qt - x.us - carvN l id := by unfold leftN'; rw [e]
    have hx := idx_some e
    have hi : idxN l id < l.length := (List.getElem?_eq_some_iff.1 hx).1
    rw [atN_some e] at A
    have xm := List.mem_of_getElem? hx
    have rq := G.rng x xm
    have us := G.us xm
    obtain ⟨⟨-, -, c2, c3⟩, -⟩ := src _ x hx
    obtain ⟨ix, hix⟩ : ∃ ix, idxN l id = ix := ⟨_, rfl⟩
    rw [hix] at A hx hi c2 c3
    have kz : (0 : Int) ≤ ix := by omega
    have kb : (ix : Int) < l.length := by omega
    have tn : decide ((ix : Int) < 0) = false := by simp
    have b1 : IntKind.i64.wrap (x.qt - x.us) = x.qt - x.us := IntWalk.i64_in _ (by omega)
    obtain ⟨d, hd⟩ : ∃ d, x.qt - x.us = d := ⟨_, rfl⟩
    have bd : -65536 ≤ d ∧ d ≤ 65536 := by omega
    rw [el]
    replace A := Lib.hid A
    replace src := Lib.hid src
    replace h := Lib.hid h
    replace G := Lib.hid G
    replace e := Lib.hid e
    replace hx := Lib.hid hx
    replace rq := Lib.hid rq
    replace el := Lib.hid el
    replace us := Lib.hid us
    replace hix := Lib.hid hix
    go_enter Try.func18, Try.ntmps18
    go_wp2_with fail
    refine Calls.mono A.out ?_
    rintro r w1 ⟨rfl, rfl⟩
    go_wp2_with fail
    go_quiet (fail)
    have K0 : Keep nob w (w.drewN nq) := (Keep.refl nob w).drewN _
    clear b1 c2 c3
    replace K0 := Lib.hid K0
    replace hd := Lib.hid hd
    go_wp2_with fail
    go_loopw [6, 7] (fun n i wr => InvL2 w l id d n i wr) (fun _ i _ => (l.length - intOf i).toNat)
    case atStart => exact ⟨0, rfl, Nat.zero_le _, by simp [carvN], K0.out⟩
    case round =>
      obtain ⟨k, rfl, hk, rfl, K⟩ := hrel
      by_cases hlt : k < l.length
      · obtain ⟨y, hy⟩ : ∃ y, l[k]? = some y := ⟨l[k], List.getElem?_eq_getElem hlt⟩
        obtain ⟨⟨-, d1, d2, -⟩, -⟩ := src.out k y hy
        have d1 := K.some d1 (fun x => x)
        have d2 := K.some d2 (fun x => x)
        have cs := carvN_take_succ l hy id
        have r0 := G.out.carvT k id
        have ry := G.out.rng y (List.mem_of_getElem? hy)
        have kz2 : (0 : Int) ≤ k := by omega
        have kb2 : (k : Int) < l.length := by omega
        have t0 : decide (k < l.length) = true := decide_eq_true hlt
        obtain ⟨cc, hcc⟩ : ∃ cc, carvN (l.take k) id = cc := ⟨_, rfl⟩
        rw [hcc] at cs r0 ⊢
        have b2 : IntKind.i64.wrap (d - cc - y.qt) = d - cc - y.qt := IntWalk.i64_in _ (by omega)
        replace hcc := Lib.hid hcc
        replace cs := Lib.hid cs
        replace r0 := Lib.hid r0
        replace ry := Lib.hid ry
        replace K := Lib.hid K
        replace hy := Lib.hid hy
        by_cases q : y.up = id
        · rw [q] at d1
          replace q := Lib.hid q
          go_wp2_with fail
          go_roundw
          case rel => exact ⟨k + 1, by go_num, by omega, by rw [cs.out, if_pos q.out]; congr 1; omega, K.out⟩
          case measure => simp [intOf]; omega
        · have t1 : (y.up == id) = false := by simpa using q
          replace q := Lib.hid q
          go_wp2_with fail
          go_roundw
          case rel => exact ⟨k + 1, by go_num, by omega, by rw [cs.out, if_neg q.out, Int.add_zero], K.out⟩
          case measure => simp [intOf]; omega
      · obtain rfl : k = l.length := by omega
        have t0 : decide (l.length < l.length) = false := by simp
        rw [List.take_length]
        obtain ⟨cc, hcc⟩ : ∃ cc, carvN l id = cc := ⟨_, rfl⟩
        rw [hcc]
        replace K := Lib.hid K
        go_wp2_with fail
        go_ret
        refine ⟨?_, K.out⟩
        rw [hd.out, hcc]
        rfl
end
end Go.Proofs.Ytepmljcapobodaa
