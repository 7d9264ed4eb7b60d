/- Of prioryref11: Same, New, Open. -/
import Derived.Test.YtepmljcapobodaaBudRef
namespace Go.Proofs.Ytepmljcapobodaa
open Go.RowKit
set_option linter.unusedVariables false
set_option linter.unusedSimpArgs false
set_option maxRecDepth 100000
theorem take_next {la lb : List Nd} {k : Nat} {x : Nd} (h : la.take k = lb.take k) (hx : la[k]? = some x) (hy : lb[k]? = some x) : la.take (k + 1) = lb.take (k + 1) := by
  rw [List.take_add_one, List.take_add_one, h, hx, hy]
def InvS (w : World) (la lb : List Nd) (i : Value) (wr : World) : Prop := ∃ k : Nat, i = .int .i64 k ∧ k ≤ la.length ∧ la.take k = lb.take k ∧ Keep nob w wr
section
variable {w : World} {v : Value} {l : List Nd}
theorem NL.slice (h : NL w v l) : ∃ a cap, v = .slice a l.length cap := row_form h
set_option maxHeartbeats 1600000 in
theorem same_ok11 {va vb : Value} {la lb : List Nd} (ha : NL w va la) (hb : NL w vb lb) (h9 : la.length ≤ 1000) :
    Calls Try.prog 19 #[va, vb] w fun r w' => r = .returned (.bool (decide (la = lb))) ∧ Keep nob w w' := by
  by_cases hl : la.length = lb.length
  · have t1 : ((la.length : Int) != lb.length) = false := by rw [hl]; simp
    have t1' : (la.length != lb.length) = false := by rw [hl]; simp
    obtain ⟨aa, ca, ea⟩ := ha.slice
    obtain ⟨ab, cb, eb⟩ := hb.slice
    subst ea; subst eb
    obtain ⟨nb, hnb⟩ : ∃ nb, nb = lb.length := ⟨_, rfl⟩
    rw [← hnb] at hl hb t1 t1' ⊢
    have hb' : NL w (.slice ab nb cb) lb := hb
    subst hl
    clear hb t1 t1'
    replace ha := Lib.hid ha
    replace hb' := Lib.hid hb'
    replace hnb := Lib.hid hnb
    go_enter Try.func19, Try.ntmps19
    go_wp2_with fail
    go_loopw [5] (fun i wr => InvS w la lb i wr) (fun i _ => (la.length - intOf i).toNat)
    case atStart => exact ⟨0, rfl, Nat.zero_le _, rfl, Keep.refl _ _⟩
    case round =>
      obtain ⟨k, rfl, hk, ht, K⟩ := hrel
      by_cases hlt : k < la.length
      · have hpb : 0 < lb.length := by have := hnb.out; omega
        obtain ⟨ga, ca', hva, hca, hga, sa⟩ := ha.out.form (by omega)
        obtain ⟨gb, cb', hvb, hcb, hgb, sb⟩ := NL.form (show NL w (.slice ab lb.length cb) lb by rw [← hnb.out]; exact hb'.out) hpb
        injection hva with q1 q2 q3
        subst q1; subst q3
        injection hvb with q1 q2 q3
        subst q1; subst q3
        obtain ⟨x, hx⟩ : ∃ x, la[k]? = some x := ⟨la[k], List.getElem?_eq_getElem hlt⟩
        obtain ⟨y, hy⟩ : ∃ y, lb[k]? = some y := ⟨lb[k]'(by have := hnb.out; omega), List.getElem?_eq_getElem _⟩
        obtain ⟨⟨a0, a1, a2, a3⟩, -⟩ := sa k x hx
        obtain ⟨⟨b0, b1, b2, b3⟩, -⟩ := sb k y hy
        replace a0 := K.some a0 (fun x => x)
        replace a1 := K.some a1 (fun x => x)
        replace a2 := K.some a2 (fun x => x)
        replace a3 := K.some a3 (fun x => x)
        replace b0 := K.some b0 (fun x => x)
        replace b1 := K.some b1 (fun x => x)
        replace b2 := K.some b2 (fun x => x)
        replace b3 := K.some b3 (fun x => x)
        have kz : (0 : Int) ≤ k := by omega
        have kb : (k : Int) < la.length := by omega
        have t0 : decide (k < la.length) = true := decide_eq_true hlt
        have NE : ∀ w, (binOp .neq 35 (.agg #[.int .i64 x.id, .int .i64 x.up, .int .i64 x.qt, .int .i64 x.us]) (.agg #[.int .i64 y.id, .int .i64 y.up, .int .i64 y.qt, .int .i64 y.us])).run Try.prog w = .ok (.bool (!decide (x = y))) w := fun w => neNd w x.id x.up x.qt x.us y.id y.up y.qt y.us
        replace hx := Lib.hid hx
        replace hy := Lib.hid hy
        replace sa := Lib.hid sa
        replace sb := Lib.hid sb
        replace ht := Lib.hid ht
        replace K := Lib.hid K
        by_cases e : x = y
        · rw [decide_eq_true e] at NE
          obtain ⟨x', hx'⟩ : ∃ x', x' = y := ⟨_, rfl⟩
          replace e := Lib.hid e
          go_wp2_with fail
          go_quiet (fail)
          go_wp2_with fail
          go_roundw
          case rel => exact ⟨k + 1, by go_num, by omega, take_next ht.out hx.out (by rw [e.out]; exact hy.out), K.out.drewN _⟩
          case measure => simp [intOf]; omega
        · rw [decide_eq_false e] at NE
          replace e := Lib.hid e
          go_wp2_with fail
          go_quiet (fail)
          go_wp2_with fail
          go_ret
          refine ⟨?_, K.out.drewN _⟩
          have ne : ¬ la = lb := fun z => by
            have h1 := hx.out
            rw [z, hy.out] at h1
            injection h1 with h1
            exact e.out h1.symm
          rw [decide_eq_false ne]
          rfl
      · obtain rfl : k = la.length := by omega
        have t0 : decide (la.length < la.length) = false := by simp
        have e : la = lb := by
          have h1 := hnb.out
          rw [List.take_length, h1, List.take_length] at ht
          exact ht
        replace K := Lib.hid K
        replace ht := Lib.hid ht
        replace e := Lib.hid e
        go_wp2_with fail
        go_ret
        refine ⟨?_, K.out⟩
        rw [decide_eq_true e.out]
        rfl
  · have ne : ¬ la = lb := fun z => hl (by rw [z])
    have t1 : ((la.length : Int) != lb.length) = true := by simp; omega
    have t1' : (la.length != lb.length) = true := by simpa using hl
    obtain ⟨aa, ca, ea⟩ := ha.slice
    obtain ⟨ab, cb, eb⟩ := hb.slice
    subst ea; subst eb
    rw [decide_eq_false ne]
    replace ha := Lib.hid ha
    replace hb := Lib.hid hb
    replace ne := Lib.hid ne
    replace hl := Lib.hid hl
    go_enter Try.func19, Try.ntmps19
    go_wp2_with fail
    go_ret
    exact ⟨rfl, Keep.refl _ _⟩
def NlPost (w : World) (v : Value) (l' : List Nd) (code : Int) (r : Ending) (w' : World) : Prop :=
  ∃ v', r = .returned (.tuple #[v', .int .i64 code]) ∧ NL w' v' l' ∧ (v' = v ∨ ∀ g, v'.ownBlock = some g → w.heap.size ≤ g) ∧ Keep nob w w'
theorem NlPost.same {w' : World} {code : Int} (h : NL w v l) (k : Keep nob w w') : NlPost w v l code (.returned (.tuple #[v, .int .i64 code])) w' := ⟨v, rfl, h.next k, Or.inl rfl, k⟩
theorem rnew_ok (w : World) (q : Int) (h0 : 0 ≤ q) (h1 : q ≤ 65536) : Calls Try.prog 16 #[.int .i64 q] w (NlPost w (.slice none 0 0) [⟨1, 0, q, 0⟩] 0) := by
  have t1 : decide (q < 0) = false := by simp; omega
  have t2 : decide (65536 < q) = false := by simp; omega
  have K : Keep nob w (w.alloc (.cells #[.int .i64 1, .int .i64 0, .int .i64 q, .int .i64 0] 35)) := (Keep.refl _ _).alloc _
  have own : (w.alloc (.cells #[.int .i64 1, .int .i64 0, .int .i64 q, .int .i64 0] 35)).ownsRow w.heap.size 35 4 (.slice (some ⟨w.heap.size, 0, none⟩) 1 1) 1 [.int .i64 1, .int .i64 0, .int .i64 q, .int .i64 0] := World.ownsRow_lit w #[.int .i64 1, .int .i64 0, .int .i64 q, .int .i64 0] 1 (Nat.le_refl _) (by decide) rfl
  replace K := Lib.hid K
  replace own := Lib.hid own
  go_enter Try.func16, Try.ntmps16
  go_wp2_with fail
  go_ret2
  exact ⟨_, rfl, own_base own.out (Nat.zero_le _), Or.inr (fun g hg => (own_tag own.out hg).1), K.out⟩
theorem rnew_no (w : World) (q : Int) (h : ¬ (0 ≤ q ∧ q ≤ 65536)) : Calls Try.prog 16 #[.int .i64 q] w fun r w' => r = .returned (.tuple #[.slice none 0 0, .int .i64 2]) ∧ w = w' := by
  by_cases h0 : q < 0
  · have t1 : decide (q < 0) = true := by simpa using h0
    clear h
    go_enter Try.func16, Try.ntmps16
    go_wp2_with fail
    go_ret2
    exact ⟨rfl, rfl⟩
  · have t1 : decide (q < 0) = false := by simpa using h0
    have t2 : decide (65536 < q) = true := by simp; omega
    clear h
    go_enter Try.func16, Try.ntmps16
    go_wp2_with fail
    go_ret2
    exact ⟨rfl, rfl⟩
end
end Go.Proofs.Ytepmljcapobodaa
