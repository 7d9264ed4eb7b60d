/- What one partition does changes nothing of another one's. Condition: none beyond the statement's own. -/
import Derived.Test.YtepmljcapobodaaDoorPalTwo
import Derived.Test.YtepmljcapobodaaDoorHead
import Derived.Test.YtepmljcapobodaaDoorLaid
import Derived.Test.YtepmljcapobodaaDoorCards
import Derived.Test.YtepmljcapobodaaDoorTie
namespace Go.Proofs.YtepmljcapobodaaDoor.pallocApart
open Go.ChangeShapes Go.WideShapes Go.ChangeAt Go.RowKit
set_option linter.unusedVariables false
set_option maxRecDepth 100000
/-- The one pool's counts beside the other's, that saw the second partition's calls alone. -/
structure Rel (x : Nat) (f g : Int → Int) : Prop where
  hi : ∀ k : Int, x ≤ k → f k = g k
  lo : ∀ k : Int, k < x → g k = 0
def Inv (w : World) (A B : PB) (x n base : Nat) (i : Value) (wr : World) : Prop :=
  ∃ (k : Nat) (f g : Int → Int) (c d : Nat → Int), i = .int .i64 k ∧ k ≤ n ∧ PoolAt wr A c f k ∧ PoolAt wr B d g k ∧ RefsOk A f ∧ RefsOk B g ∧ Rel x f g ∧ base ≤ wr.heap.size ∧ Keep nob w wr
/-- Two pools of the same two ranges. -/
structure Duo (A B : PB) (x y : Nat) : Prop where
  a0 : ∀ k : Int, A.inr 0 k ↔ 0 ≤ k ∧ k < x
  a1 : ∀ k : Int, A.inr 1 k ↔ x ≤ k ∧ k < x + y
  b0 : ∀ k : Int, B.inr 0 k ↔ 0 ≤ k ∧ k < x
  b1 : ∀ k : Int, B.inr 1 k ↔ x ≤ k ∧ k < x + y
  l : A.l = B.l
  n : A.l.length = 2
section
variable {A B : PB} {x y : Nat} {f g : Int → Int}
theorem all_mine (D : Duo A B x y) (R : Rel x f g) : allE A f 1 = allE B g 1 ∧ Rel x (allF A f 1) (allF B g 1) := by
  obtain ⟨e1, e2⟩ := allE_eq (A := A) (B := B) (f := f) (g := g) (x := 1) (by rw [D.l]) (fun k => (D.a1 k).trans (D.b1 k).symm) (fun k hk => R.hi k ((D.a1 k).1 hk).1)
  refine ⟨e1, fun k hk => allF_at e2 (R.hi k hk), fun k hk => ?_⟩
  rw [allF_ne B g (Or.inl (fun h => by have := (D.b1 k).1 h; omega))]
  exact R.lo k hk
theorem all_not (D : Duo A B x y) (R : Rel x f g) (z : Int) (hz : z ≠ 1) : Rel x (allF A f z) g := by
  refine ⟨fun k hk => ?_, R.lo⟩
  rw [allF_ne A f, R.hi k hk]
  by_cases h0 : z < 0
  · exact Or.inr h0
  · left
    intro h
    have h1 := h.1
    rw [D.n] at h1
    obtain rfl : z = 0 := by omega
    have := (D.a0 k).1 h
    omega
theorem sha_mine (D : Duo A B x y) (R : Rel x f g) (z : Int) (hz : x ≤ z) : shaE A f z = shaE B g z ∧ Rel x (shaF A f z) (shaF B g z) := by
  refine ⟨shaE_eq D.l (R.hi z hz), fun k hk => ?_, fun k hk => ?_⟩
  · by_cases e : k = z
    · rw [e]; exact shaF_at D.l (R.hi z hz)
    · rw [shaF_ne A f e, shaF_ne B g e]; exact R.hi k hk
  · rw [shaF_ne B g (by omega)]; exact R.lo k hk
theorem fre_mine (D : Duo A B x y) (R : Rel x f g) (z : Int) (hz : x ≤ z) : freE A f z = freE B g z ∧ Rel x (freF A f z) (freF B g z) := by
  refine ⟨freE_eq D.l (R.hi z hz), fun k hk => ?_, fun k hk => ?_⟩
  · by_cases e : k = z
    · rw [e]; exact freF_at D.l (R.hi z hz)
    · rw [freF_ne A f e, freF_ne B g e]; exact R.hi k hk
  · rw [freF_ne B g (by omega)]; exact R.lo k hk
theorem sha_not (D : Duo A B x y) (R : Rel x f g) (z : Int) (hz : ¬ (x : Int) ≤ z) : Rel x (shaF A f z) g := ⟨fun k hk => by rw [shaF_ne A f (by omega)]; exact R.hi k hk, R.lo⟩
theorem fre_not (D : Duo A B x y) (R : Rel x f g) (z : Int) (hz : ¬ (x : Int) ≤ z) : Rel x (freF A f z) g := ⟨fun k hk => by rw [freF_ne A f (by omega)]; exact R.hi k hk, R.lo⟩
theorem left_same (D : Duo A B x y) (R : Rel x f g) : leftN A f 1 = leftN B g 1 := leftN_eq (fun k => (D.a1 k).trans (D.b1 k).symm) (fun k hk => R.hi k ((D.a1 k).1 hk).1)
theorem left_whole (D : Duo A B x y) (hx : x ≤ 1024) (R : Rel x f g) : leftN B g 0 = x := left_all hx D.b0 (fun k _ h => R.lo k h)
end
set_option maxHeartbeats 6400000 in
theorem walk_in (x y : Nat) (h1 : 2 ≤ x) (h2 : x ≤ 20) (h3 : 1 ≤ y) (h4 : y ≤ 20) (v : Value) (l : List (Int × Int)) (hl : l.length ≤ 200) (w : World) (L : PairsAt w v l) (hf : ∀ o ∈ l, pairFine o) (hT : TabAt 0 Lib.deBruijn64tab w) :
    Calls Tryd.prog 6 #[.int .i64 x, .int .i64 y, v] w fun e w' => e = .returned (.bool true) ∧ Keep nob w w' := by
  obtain ⟨a, cap, rfl, hm, hcap, hcells⟩ := L
  have t1 : decide ((x : Int) < 2) = false := by simp; omega
  have t2 : decide ((20 : Int) < x) = false := by simp; omega
  have t3 : decide ((y : Int) < 1) = false := by simp; omega
  have t4 : decide ((20 : Int) < y) = false := by simp; omega
  have t5 : decide ((200 : Int) < l.length) = false := by simp; omega
  replace hf := Lib.hid hf
  replace hcells := Lib.hid hcells
  replace hT := Lib.hid hT
  go_enter Tryd.func6, Tryd.ntmps6
  go_wp2_with fail
  have ex : (x : Int) + y = ((x + y : Nat) : Int) := by omega
  rw [ex]
  obtain ⟨W, hW⟩ : ∃ W, W = w.alloc (.cells #[.int .i64 0, .int .i64 x, .int .i64 x, .int .i64 y] 31) := ⟨_, rfl⟩
  have RA : RangesAt W ⟨w.heap.size, 0, none⟩ [((0 : Int), (x : Int)), ((x : Int), (y : Int))] := by
    rw [hW]; exact ranges2 w 0 x x y 31 (by unfold wfI; omega) (by unfold wfI; omega) (by unfold wfI; omega) (by unfold wfI; omega)
  have K0 : Keep nob w W := by rw [hW]; exact (Keep.refl _ _).alloc _
  have zW : w.heap.size < W.heap.size := by rw [hW, World.size_alloc]; omega
  rw [← hW]
  replace hW := Lib.hid hW
  replace RA := Lib.hid RA
  replace K0 := Lib.hid K0
  replace zW := Lib.hid zW
  replace ex := Lib.hid ex
  refine Calls.mono (new_in W (x + y) (by omega) (by omega)) ?_
  rintro r w1 ⟨rfl, M1, K1⟩
  go_wp2_with fail
  replace M1 := Lib.hid M1
  replace K1 := Lib.hid K1
  rw [ex.out]
  refine Calls.mono (new_in w1 (x + y) (by omega) (by omega)) ?_
  rintro r w2 ⟨rfl, M2, K2⟩
  go_wp2_with fail
  have z0 := K0.out.size
  have z1 := K1.out.size
  have z2 := K2.size
  have M1b := M1.out.blt
  have M1f := M1.out.flt
  have M2b := M2.blt
  have M2f := M2.flt
  have Ka := Lib.hid ((K0.out.then K1.out).then K2)
  have RA2 := Lib.hid (RA.out.next (K1.out.then K2))
  have Ma := Lib.hid (M1.out.next K2)
  replace M2 := Lib.hid M2
  replace K2 := Lib.hid K2
  replace M1b := Lib.hid M1b
  replace M1f := Lib.hid M1f
  replace M2b := Lib.hid M2b
  replace M2f := Lib.hid M2f
  replace z0 := Lib.hid z0
  replace z1 := Lib.hid z1
  replace z2 := Lib.hid z2
  refine Calls.mono (two_new Ka.out Ma.out z0.out _ 2 x y (by omega) (by omega) (by omega) RA2.out (by decide)) ?_
  rintro r w3 ⟨A, rfl, G1, P1, S1, a0, a1, ll1, bb1, bf1, bn1, lo1, hi1, K3⟩
  go_wp2_with fail
  have z3 := K3.size
  have M2' := M2.out.next K3
  have RA3 := RA2.out.next K3
  have Kb := Ka.out.then K3
  replace G1 := Lib.hid G1
  replace P1 := Lib.hid P1
  replace S1 := Lib.hid S1
  replace a0 := Lib.hid a0
  replace a1 := Lib.hid a1
  replace K3 := Lib.hid K3
  replace M2' := Lib.hid M2'
  replace Kb := Lib.hid Kb
  replace ll1 := Lib.hid ll1
  replace bb1 := Lib.hid bb1
  replace bf1 := Lib.hid bf1
  replace bn1 := Lib.hid bn1
  replace lo1 := Lib.hid lo1
  replace hi1 := Lib.hid hi1
  replace z3 := Lib.hid z3
  replace RA3 := Lib.hid RA3
  refine Calls.mono (two_new Kb.out M2'.out (by have := z1.out; have := z0.out; omega) _ 2 x y (by omega) (by omega) (by omega) RA3.out (by decide)) ?_
  rintro r w4 ⟨B, rfl, G2, P2, S2, b0, b1, ll2, bb2, bf2, bn2, lo2, hi2, K4⟩
  go_wp2_with fail
  have z4 := K4.size
  have P1' := P1.out.next G1.out K4
  have Kc := Kb.out.then K4
  replace G2 := Lib.hid G2
  replace P2 := Lib.hid P2
  replace S2 := Lib.hid S2
  replace b0 := Lib.hid b0
  replace b1 := Lib.hid b1
  replace K4 := Lib.hid K4
  replace P1' := Lib.hid P1'
  replace Kc := Lib.hid Kc
  replace ll2 := Lib.hid ll2
  replace bb2 := Lib.hid bb2
  replace bf2 := Lib.hid bf2
  replace bn2 := Lib.hid bn2
  replace lo2 := Lib.hid lo2
  replace hi2 := Lib.hid hi2
  replace z4 := Lib.hid z4
  have ap1 : Apart A B := by
    have := bb1.out; have := bf1.out; have := bb2.out; have := bf2.out; have := lo1.out; have := hi1.out; have := lo2.out; have := M1b.out; have := M1f.out; have := M2b.out; have := M2f.out; have := z1.out; have := z2.out; have := z3.out
    constructor
    · unfold own; omega
    · intro x hx h; unfold own at hx h; omega
  have ap2 : Apart B A := by
    have := bb1.out; have := bf1.out; have := bb2.out; have := bf2.out; have := lo1.out; have := hi1.out; have := lo2.out; have := M1b.out; have := M1f.out; have := M2b.out; have := M2f.out; have := z1.out; have := z2.out; have := z3.out
    constructor
    · unfold own; omega
    · intro x hx h; unfold own at hx h; omega
  have ub1 : ∀ x, w4.heap.size ≤ x → ¬ own A x := by
    have := bb1.out; have := bf1.out; have := hi1.out; have := M1b.out; have := M1f.out; have := z1.out; have := z2.out; have := z3.out; have := z4.out
    intro x hx h; unfold own at h; omega
  have ub2 : ∀ x, w4.heap.size ≤ x → ¬ own B x := by
    have := bb2.out; have := bf2.out; have := hi2.out; have := M2b.out; have := M2f.out; have := z2.out; have := z3.out; have := z4.out
    intro x hx h; unfold own at h; omega
  have D : Duo A B x y := ⟨a0.out, a1.out, b0.out, b1.out, ll1.out.trans ll2.out.symm, by rw [ll1.out]; rfl⟩
  replace ap1 := Lib.hid ap1
  replace ap2 := Lib.hid ap2
  replace D := Lib.hid D
  replace ub1 := Lib.hid ub1
  replace ub2 := Lib.hid ub2
  clear M1 M2 K1 K3 K4 M1b M1f M2b M2f z1 z2 z3 z4 z0 zW Ka Ma Kb P1 bb1 bf1 bn1 lo1 hi1 bb2 bf2 bn2 lo2 hi2 M2' RA RA2 RA3
  go_loopw [16] (fun i wr => Inv w A B x l.length w4.heap.size i wr) (fun i _ => (l.length - intOf i).toNat)
  case atStart => exact ⟨0, _, _, _, _, rfl, Nat.zero_le _, P1'.out, P2.out, RefsOk.zero _, RefsOk.zero _, ⟨fun _ _ => rfl, fun _ _ => rfl⟩, Nat.le_refl _, Kc.out⟩
  case round =>
    clear P1' P2 Kc
    obtain ⟨k, f, g, c1, c2, rfl, hk, P1, P2, R1, R2, R, hb, K⟩ := hrel
    replace P1 := Lib.hid P1
    replace P2 := Lib.hid P2
    replace R1 := Lib.hid R1
    replace R2 := Lib.hid R2
    replace R := Lib.hid R
    replace K := Lib.hid K
    by_cases hlt : k < l.length
    · have hne : l ≠ [] := by intro e; rw [e] at hlt; simp at hlt
      obtain ⟨gg, og, rfl, cs⟩ := hcells.out hne
      obtain ⟨o, ho⟩ : ∃ o, l.getD k (0, 0) = o := ⟨_, rfl⟩
      have ho' : l[k]? = some o := by rw [← ho, List.getD_eq_getElem?_getD, List.getElem?_eq_getElem hlt]; rfl
      have r0 := K.out.some (cs k o ho' 0 _ rfl) (fun x => x)
      have r1 := K.out.some (cs k o ho' 1 _ rfl) (fun x => x)
      have fo := hf.out o (List.mem_of_getElem? ho')
      have t6 : decide (k < l.length) = true := by simpa using hlt
      have r0 : wr.cell? ⟨gg, og + k * 2, none⟩ = some (.int .i64 o.1) := r0
      have r1 : wr.cell? ⟨gg, og + k * 2 + 1, none⟩ = some (.int .i64 o.2) := r1
      obtain ⟨d, z⟩ := o
      have wz : wfI z := fo.2
      have KA : Keep nob wr (wr.alloc (.cells #[.int .i64 d, .int .i64 z] 46)) := (Keep.refl _ _).alloc _
      obtain ⟨wa, hwa⟩ : ∃ wa, wa = wr.alloc (.cells #[.int .i64 d, .int .i64 z] 46) := ⟨_, rfl⟩
      rw [← hwa] at KA
      have c0 : wa.cell? ⟨wr.heap.size, 0, none⟩ = some (.int .i64 d) := by rw [hwa]; exact new_at _ _ _ 0 _ rfl
      have c1' : wa.cell? ⟨wr.heap.size, 1, none⟩ = some (.int .i64 z) := by rw [hwa]; exact new_at _ _ _ 1 _ rfl
      have PA1 := P1.out.next G1.out KA
      have PB1 := P2.out.next G2.out KA
      have Ka := K.out.then KA
      have hTa := tab_keep hT.out Ka
      have zA : wr.heap.size < wa.heap.size := by rw [hwa, World.size_alloc]; omega
      replace PA1 := Lib.hid PA1
      replace PB1 := Lib.hid PB1
      replace Ka := Lib.hid Ka
      replace hTa := Lib.hid hTa
      replace c0 := Lib.hid c0
      replace c1' := Lib.hid c1'
      replace wz := Lib.hid wz
      replace hwa := Lib.hid hwa
      replace ho := Lib.hid ho
      replace ho' := Lib.hid ho'
      replace fo := Lib.hid fo
      replace KA := Lib.hid KA
      clear cs P1 P2 K
      by_cases d1 : d = 1
      · subst d1
        by_cases z1 : z = 1
        · subst z1
          have C1 := Lib.hid (alloc_any hTa.out G1.out PA1.out (by omega) 1)
          obtain ⟨e, R'⟩ := all_mine D.out R.out
          replace e := Lib.hid e
          replace R' := Lib.hid R'
          go_wp2_with fail
          rw [← hwa.out]
          refine Calls.mono C1.out ?_
          rintro r w5 ⟨rfl, PA5, KA5⟩
          have PB5 := PB1.out.keep G2.out KA5 ap1.out.b ap1.out.o
          have c05 := KA5.some c0.out (ub1.out _ hb)
          have c15 := KA5.some c1'.out (ub1.out _ hb)
          have K5 := S1.out.keep Ka.out KA5
          have z5 := KA5.size
          have C2 := alloc_any (tab_keep hT.out K5) G2.out PB5 (by omega) 1
          rw [← e.out] at C2
          replace PA5 := Lib.hid PA5
          replace PB5 := Lib.hid PB5
          replace K5 := Lib.hid K5
          replace C2 := Lib.hid C2
          replace KA5 := Lib.hid KA5
          go_wp2_with fail
          refine Calls.mono C2.out ?_
          rintro r w6 ⟨rfl, PB6, KB6⟩
          have PA6 := PA5.out.keep G1.out KB6 ap2.out.b ap2.out.o
          have c06 := KB6.some c05 (ub2.out _ hb)
          have c16 := KB6.some c15 (ub2.out _ hb)
          have K6 := S2.out.keep K5.out KB6
          have z6 := KB6.size
          replace PA6 := Lib.hid PA6
          replace PB6 := Lib.hid PB6
          replace K6 := Lib.hid K6
          replace KB6 := Lib.hid KB6
          clear c05 c15 C1 C2 e
          have L1 := left_in G1.out PA6.out 1 (by rw [ll1.out]; simp)
          have L2 := left_in G2.out PB6.out 1 (by rw [ll2.out]; simp)
          have L3 := left_in G2.out PB6.out 0 (by rw [ll2.out]; simp)
          rw [left_same D.out R'.out] at L1
          rw [left_whole D.out (by omega) R'.out] at L3
          replace L1 := Lib.hid L1
          replace L2 := Lib.hid L2
          replace L3 := Lib.hid L3
          go_wp2_with fail
          refine Calls.mono (L1.out) ?_
          rintro r w8 ⟨rfl, rfl⟩
          go_wp2_with fail
          refine Calls.mono (L2.out) ?_
          rintro r w8 ⟨rfl, rfl⟩
          go_wp2_with fail
          refine Calls.mono (L3.out) ?_
          rintro r w8 ⟨rfl, rfl⟩
          go_wp2_with fail
          go_roundw
          case rel => exact ⟨k + 1, _, _, _, _, by go_num, by omega, PA6.out, PB6.out, R1.out.all 1, R2.out.all 1, R'.out, by omega, K6.out⟩
          case measure => simp [intOf]; omega
        · have q1 : (z == 1) = false := by simpa using z1
          replace z1 := Lib.hid z1
          have C1 := Lib.hid (alloc_any hTa.out G1.out PA1.out (by omega) z)
          have R' := Lib.hid (all_not D.out R.out z z1.out)
          go_wp2_with fail
          rw [← hwa.out]
          refine Calls.mono C1.out ?_
          rintro r w5 ⟨rfl, PA5, KA5⟩
          have PB5 := (PB1.out.keep G2.out KA5 ap1.out.b ap1.out.o).mono (Nat.le_succ _)
          have c05 := KA5.some c0.out (ub1.out _ hb)
          have c15 := KA5.some c1'.out (ub1.out _ hb)
          have K5 := S1.out.keep Ka.out KA5
          have z5 := KA5.size
          replace PA5 := Lib.hid PA5
          replace PB5 := Lib.hid PB5
          replace K5 := Lib.hid K5
          replace KA5 := Lib.hid KA5
          clear C1
          have L1 := left_in G1.out PA5.out 1 (by rw [ll1.out]; simp)
          have L2 := left_in G2.out PB5.out 1 (by rw [ll2.out]; simp)
          have L3 := left_in G2.out PB5.out 0 (by rw [ll2.out]; simp)
          rw [left_same D.out R'.out] at L1
          rw [left_whole D.out (by omega) R'.out] at L3
          replace L1 := Lib.hid L1
          replace L2 := Lib.hid L2
          replace L3 := Lib.hid L3
          go_wp2_with fail
          refine Calls.mono (L1.out) ?_
          rintro r w8 ⟨rfl, rfl⟩
          go_wp2_with fail
          refine Calls.mono (L2.out) ?_
          rintro r w8 ⟨rfl, rfl⟩
          go_wp2_with fail
          refine Calls.mono (L3.out) ?_
          rintro r w8 ⟨rfl, rfl⟩
          go_wp2_with fail
          go_roundw
          case rel => exact ⟨k + 1, _, _, _, _, by go_num, by omega, PA5.out, PB5.out, R1.out.all z, R2.out, R'.out, by omega, K5.out⟩
          case measure => simp [intOf]; omega
      have q1 : (d == 1) = false := by simpa using d1
      have q2 : (d != 1) = true := by simpa using d1
      replace d1 := Lib.hid d1
      by_cases zx : (x : Int) ≤ z
      · have q3 : decide ((x : Int) ≤ z) = true := by simpa using zx
        replace zx := Lib.hid zx
        by_cases d2 : d = 2
        · subst d2
          clear q1 q2
          have C1 := Lib.hid (share_any G1.out R1.out PA1.out (by omega) z wz.out)
          obtain ⟨e, R'⟩ := sha_mine D.out R.out z zx.out
          replace e := Lib.hid e
          replace R' := Lib.hid R'
          go_wp2_with fail
          rw [← hwa.out]
          refine Calls.mono C1.out ?_
          rintro r w5 ⟨rfl, PA5, KA5⟩
          have PB5 := PB1.out.keep G2.out KA5 ap1.out.b ap1.out.o
          have c05 := KA5.some c0.out (ub1.out _ hb)
          have c15 := KA5.some c1'.out (ub1.out _ hb)
          have K5 := S1.out.keep Ka.out KA5
          have z5 := KA5.size
          have C2 := share_any G2.out R2.out PB5 (by omega) z wz.out
          rw [← e.out] at C2
          replace PA5 := Lib.hid PA5
          replace PB5 := Lib.hid PB5
          replace K5 := Lib.hid K5
          replace C2 := Lib.hid C2
          replace KA5 := Lib.hid KA5
          go_wp2_with fail
          refine Calls.mono C2.out ?_
          rintro r w6 ⟨rfl, PB6, KB6⟩
          have PA6 := PA5.out.keep G1.out KB6 ap2.out.b ap2.out.o
          have c06 := KB6.some c05 (ub2.out _ hb)
          have c16 := KB6.some c15 (ub2.out _ hb)
          have K6 := S2.out.keep K5.out KB6
          have z6 := KB6.size
          replace PA6 := Lib.hid PA6
          replace PB6 := Lib.hid PB6
          replace K6 := Lib.hid K6
          replace KB6 := Lib.hid KB6
          clear c05 c15 C1 C2 e
          have L1 := left_in G1.out PA6.out 1 (by rw [ll1.out]; simp)
          have L2 := left_in G2.out PB6.out 1 (by rw [ll2.out]; simp)
          have L3 := left_in G2.out PB6.out 0 (by rw [ll2.out]; simp)
          rw [left_same D.out R'.out] at L1
          rw [left_whole D.out (by omega) R'.out] at L3
          replace L1 := Lib.hid L1
          replace L2 := Lib.hid L2
          replace L3 := Lib.hid L3
          go_wp2_with fail
          refine Calls.mono (L1.out) ?_
          rintro r w8 ⟨rfl, rfl⟩
          go_wp2_with fail
          refine Calls.mono (L2.out) ?_
          rintro r w8 ⟨rfl, rfl⟩
          go_wp2_with fail
          refine Calls.mono (L3.out) ?_
          rintro r w8 ⟨rfl, rfl⟩
          go_wp2_with fail
          go_roundw
          case rel => exact ⟨k + 1, _, _, _, _, by go_num, by omega, PA6.out, PB6.out, R1.out.sha G1.out z, R2.out.sha G2.out z, R'.out, by omega, K6.out⟩
          case measure => simp [intOf]; omega
        have q4 : (d == 2) = false := by simpa using d2
        replace d2 := Lib.hid d2
        by_cases d3 : d = 3
        · subst d3
          clear q1 q2
          have C1 := Lib.hid (free_any G1.out R1.out PA1.out (by omega) z wz.out)
          obtain ⟨e, R'⟩ := fre_mine D.out R.out z zx.out
          replace e := Lib.hid e
          replace R' := Lib.hid R'
          go_wp2_with fail
          rw [← hwa.out]
          refine Calls.mono C1.out ?_
          rintro r w5 ⟨rfl, PA5, KA5⟩
          have PB5 := PB1.out.keep G2.out KA5 ap1.out.b ap1.out.o
          have c05 := KA5.some c0.out (ub1.out _ hb)
          have c15 := KA5.some c1'.out (ub1.out _ hb)
          have K5 := S1.out.keep Ka.out KA5
          have z5 := KA5.size
          have C2 := free_any G2.out R2.out PB5 (by omega) z wz.out
          rw [← e.out] at C2
          replace PA5 := Lib.hid PA5
          replace PB5 := Lib.hid PB5
          replace K5 := Lib.hid K5
          replace C2 := Lib.hid C2
          replace KA5 := Lib.hid KA5
          go_wp2_with fail
          refine Calls.mono C2.out ?_
          rintro r w6 ⟨rfl, PB6, KB6⟩
          have PA6 := PA5.out.keep G1.out KB6 ap2.out.b ap2.out.o
          have c06 := KB6.some c05 (ub2.out _ hb)
          have c16 := KB6.some c15 (ub2.out _ hb)
          have K6 := S2.out.keep K5.out KB6
          have z6 := KB6.size
          replace PA6 := Lib.hid PA6
          replace PB6 := Lib.hid PB6
          replace K6 := Lib.hid K6
          replace KB6 := Lib.hid KB6
          clear c05 c15 C1 C2 e
          have L1 := left_in G1.out PA6.out 1 (by rw [ll1.out]; simp)
          have L2 := left_in G2.out PB6.out 1 (by rw [ll2.out]; simp)
          have L3 := left_in G2.out PB6.out 0 (by rw [ll2.out]; simp)
          rw [left_same D.out R'.out] at L1
          rw [left_whole D.out (by omega) R'.out] at L3
          replace L1 := Lib.hid L1
          replace L2 := Lib.hid L2
          replace L3 := Lib.hid L3
          go_wp2_with fail
          refine Calls.mono (L1.out) ?_
          rintro r w8 ⟨rfl, rfl⟩
          go_wp2_with fail
          refine Calls.mono (L2.out) ?_
          rintro r w8 ⟨rfl, rfl⟩
          go_wp2_with fail
          refine Calls.mono (L3.out) ?_
          rintro r w8 ⟨rfl, rfl⟩
          go_wp2_with fail
          go_roundw
          case rel => exact ⟨k + 1, _, _, _, _, by go_num, by omega, PA6.out, PB6.out, R1.out.fre G1.out z, R2.out.fre G2.out z, R'.out, by omega, K6.out⟩
          case measure => simp [intOf]; omega
        have q5 : (d == 3) = false := by simpa using d3
        replace d3 := Lib.hid d3
        have L1 := left_in G1.out PA1.out 1 (by rw [ll1.out]; simp)
        have L2 := left_in G2.out PB1.out 1 (by rw [ll2.out]; simp)
        have L3 := left_in G2.out PB1.out 0 (by rw [ll2.out]; simp)
        rw [left_same D.out R.out] at L1
        rw [left_whole D.out (by omega) R.out] at L3
        replace L1 := Lib.hid L1
        replace L2 := Lib.hid L2
        replace L3 := Lib.hid L3
        go_wp2_with fail
        rw [← hwa.out]
        refine Calls.mono (L1.out) ?_
        rintro r w8 ⟨rfl, rfl⟩
        go_wp2_with fail
        refine Calls.mono (L2.out) ?_
        rintro r w8 ⟨rfl, rfl⟩
        go_wp2_with fail
        refine Calls.mono (L3.out) ?_
        rintro r w8 ⟨rfl, rfl⟩
        go_wp2_with fail
        go_roundw
        case rel => exact ⟨k + 1, _, _, _, _, by go_num, by omega, PA1.out.mono (Nat.le_succ _), PB1.out.mono (Nat.le_succ _), R1.out, R2.out, R.out, by omega, Ka.out⟩
        case measure => simp [intOf]; omega
      · have q3 : decide ((x : Int) ≤ z) = false := by simpa using zx
        replace zx := Lib.hid zx
        by_cases d2 : d = 2
        · subst d2
          clear q1 q2
          have C1 := Lib.hid (share_any G1.out R1.out PA1.out (by omega) z wz.out)
          have R' := Lib.hid (sha_not D.out R.out z zx.out)
          go_wp2_with fail
          rw [← hwa.out]
          refine Calls.mono C1.out ?_
          rintro r w5 ⟨rfl, PA5, KA5⟩
          have PB5 := (PB1.out.keep G2.out KA5 ap1.out.b ap1.out.o).mono (Nat.le_succ _)
          have c05 := KA5.some c0.out (ub1.out _ hb)
          have c15 := KA5.some c1'.out (ub1.out _ hb)
          have K5 := S1.out.keep Ka.out KA5
          have z5 := KA5.size
          replace PA5 := Lib.hid PA5
          replace PB5 := Lib.hid PB5
          replace K5 := Lib.hid K5
          replace KA5 := Lib.hid KA5
          clear C1
          have L1 := left_in G1.out PA5.out 1 (by rw [ll1.out]; simp)
          have L2 := left_in G2.out PB5.out 1 (by rw [ll2.out]; simp)
          have L3 := left_in G2.out PB5.out 0 (by rw [ll2.out]; simp)
          rw [left_same D.out R'.out] at L1
          rw [left_whole D.out (by omega) R'.out] at L3
          replace L1 := Lib.hid L1
          replace L2 := Lib.hid L2
          replace L3 := Lib.hid L3
          go_wp2_with fail
          refine Calls.mono (L1.out) ?_
          rintro r w8 ⟨rfl, rfl⟩
          go_wp2_with fail
          refine Calls.mono (L2.out) ?_
          rintro r w8 ⟨rfl, rfl⟩
          go_wp2_with fail
          refine Calls.mono (L3.out) ?_
          rintro r w8 ⟨rfl, rfl⟩
          go_wp2_with fail
          go_roundw
          case rel => exact ⟨k + 1, _, _, _, _, by go_num, by omega, PA5.out, PB5.out, R1.out.sha G1.out z, R2.out, R'.out, by omega, K5.out⟩
          case measure => simp [intOf]; omega
        have q4 : (d == 2) = false := by simpa using d2
        replace d2 := Lib.hid d2
        by_cases d3 : d = 3
        · subst d3
          clear q1 q2
          have C1 := Lib.hid (free_any G1.out R1.out PA1.out (by omega) z wz.out)
          have R' := Lib.hid (fre_not D.out R.out z zx.out)
          go_wp2_with fail
          rw [← hwa.out]
          refine Calls.mono C1.out ?_
          rintro r w5 ⟨rfl, PA5, KA5⟩
          have PB5 := (PB1.out.keep G2.out KA5 ap1.out.b ap1.out.o).mono (Nat.le_succ _)
          have c05 := KA5.some c0.out (ub1.out _ hb)
          have c15 := KA5.some c1'.out (ub1.out _ hb)
          have K5 := S1.out.keep Ka.out KA5
          have z5 := KA5.size
          replace PA5 := Lib.hid PA5
          replace PB5 := Lib.hid PB5
          replace K5 := Lib.hid K5
          replace KA5 := Lib.hid KA5
          clear C1
          have L1 := left_in G1.out PA5.out 1 (by rw [ll1.out]; simp)
          have L2 := left_in G2.out PB5.out 1 (by rw [ll2.out]; simp)
          have L3 := left_in G2.out PB5.out 0 (by rw [ll2.out]; simp)
          rw [left_same D.out R'.out] at L1
          rw [left_whole D.out (by omega) R'.out] at L3
          replace L1 := Lib.hid L1
          replace L2 := Lib.hid L2
          replace L3 := Lib.hid L3
          go_wp2_with fail
          refine Calls.mono (L1.out) ?_
          rintro r w8 ⟨rfl, rfl⟩
          go_wp2_with fail
          refine Calls.mono (L2.out) ?_
          rintro r w8 ⟨rfl, rfl⟩
          go_wp2_with fail
          refine Calls.mono (L3.out) ?_
          rintro r w8 ⟨rfl, rfl⟩
          go_wp2_with fail
          go_roundw
          case rel => exact ⟨k + 1, _, _, _, _, by go_num, by omega, PA5.out, PB5.out, R1.out.fre G1.out z, R2.out, R'.out, by omega, K5.out⟩
          case measure => simp [intOf]; omega
        have q5 : (d == 3) = false := by simpa using d3
        replace d3 := Lib.hid d3
        have L1 := left_in G1.out PA1.out 1 (by rw [ll1.out]; simp)
        have L2 := left_in G2.out PB1.out 1 (by rw [ll2.out]; simp)
        have L3 := left_in G2.out PB1.out 0 (by rw [ll2.out]; simp)
        rw [left_same D.out R.out] at L1
        rw [left_whole D.out (by omega) R.out] at L3
        replace L1 := Lib.hid L1
        replace L2 := Lib.hid L2
        replace L3 := Lib.hid L3
        go_wp2_with fail
        rw [← hwa.out]
        refine Calls.mono (L1.out) ?_
        rintro r w8 ⟨rfl, rfl⟩
        go_wp2_with fail
        refine Calls.mono (L2.out) ?_
        rintro r w8 ⟨rfl, rfl⟩
        go_wp2_with fail
        refine Calls.mono (L3.out) ?_
        rintro r w8 ⟨rfl, rfl⟩
        go_wp2_with fail
        go_roundw
        case rel => exact ⟨k + 1, _, _, _, _, by go_num, by omega, PA1.out.mono (Nat.le_succ _), PB1.out.mono (Nat.le_succ _), R1.out, R2.out, R.out, by omega, Ka.out⟩
        case measure => simp [intOf]; omega
    · have t6 : decide (k < l.length) = false := by simpa using hlt
      clear P1 P2 hlt
      go_wp2_with fail
      refine Calls.mono (awake09 _ (tab_keep hT.out K.out)) ?_
      rintro r w6 ⟨rfl, K6⟩
      go_wp2_with fail
      go_ret
      exact ⟨rfl, K.out.then K6⟩
theorem walk_else (n m : Int) (a : Option Addr) (len cap : Nat) (h : ¬ (2 ≤ n ∧ n ≤ 20 ∧ 1 ≤ m ∧ m ≤ 20 ∧ len ≤ 200)) (w : World) (hT : TabAt 0 Lib.deBruijn64tab w) :
    Calls Tryd.prog 6 #[.int .i64 n, .int .i64 m, .slice a len cap] w fun e w' => e = .returned (.bool true) ∧ Keep nob w w' := by
  obtain ⟨T1, t1⟩ : ∃ T, decide (n < 2) = T := ⟨_, rfl⟩
  obtain ⟨T2, t2⟩ : ∃ T, decide (20 < n) = T := ⟨_, rfl⟩
  obtain ⟨T3, t3⟩ : ∃ T, decide (m < 1) = T := ⟨_, rfl⟩
  obtain ⟨T4, t4⟩ : ∃ T, decide (20 < m) = T := ⟨_, rfl⟩
  obtain ⟨T5, t5⟩ : ∃ T, decide ((200 : Int) < len) = T := ⟨_, rfl⟩
  have T : (T1 || T2 || T3 || T4 || T5) = true := by rw [← t1, ← t2, ← t3, ← t4, ← t5]; simp; omega
  clear h
  cases T1 <;> cases T2 <;> cases T3 <;> cases T4 <;> cases T5 <;> first | (exact absurd T (by decide)) | skip
  all_goals
    clear T
    go_enter Tryd.func6, Tryd.ntmps6
    go_wp2_with fail
    refine Calls.mono (awake09 _ hT) ?_
    rintro r w5 ⟨rfl, K6⟩
    go_wp2_with fail
    go_ret
    exact ⟨rfl, K6⟩
theorem walk (n m : Int) (v : Value) (l : List (Int × Int)) (w : World) (w0 : (Lit.int .i64 n).wf = true) (wm : (Lit.int .i64 m).wf = true) (w1 : PairsAt w v l ∧ ∀ o ∈ l, pairFine o) (hT : TabAt 0 Lib.deBruijn64tab w) :
    Calls Tryd.prog 6 #[.int .i64 n, .int .i64 m, v] w fun e w' => e = .returned (.bool true) ∧ Keep nob w w' := by
  by_cases h : 2 ≤ n ∧ n ≤ 20 ∧ 1 ≤ m ∧ m ≤ 20 ∧ l.length ≤ 200
  · obtain ⟨N, rfl⟩ : ∃ k : Nat, n = k := ⟨n.toNat, by omega⟩
    obtain ⟨M, rfl⟩ : ∃ k : Nat, m = k := ⟨m.toNat, by omega⟩
    exact walk_in N M (by omega) (by omega) (by omega) (by omega) v l (by omega) w w1.1 w1.2 hT
  · obtain ⟨⟨a, cap, rfl, hm, hcap, hc⟩, hf⟩ := w1
    exact walk_else n m a _ cap h w hT
set_option maxRecDepth 100000 in
theorem lifted (os : Os) (started : os.Started) (H : Type) (enc : TypeId × Value → H) :
    ReturnsInHanded {} Tryd.checked os 6 .any (fun w args => (Rows.pallocApartSpec.pre enc Tryd.prog Tryd.f6 [] false w args ∧ laidMetH Tryd.prog Laid.list w) ∧ sizedMet enc Tryd.prog Tryd.f6 (OpenSpec.ofChange Rows.pallocApartSpec) false w args) (Rows.pallocApartSpec.post enc Tryd.prog Tryd.f6 false true false false) := by
  refine returnsInHanded_of_change_and (C := Tryd.checked) (X := fun w _ => laidMetH Tryd.prog Laid.list w) (fun _ _ _ hh h => h.of_heap hh) Head.own started (by kernel_rfl) Tryd.func6
    (ChangeSpec.witness_shaped (enc := enc) (C := Tryd.checked) (os := os) (X := fun w _ => laidMetH Tryd.prog Laid.list w) false (World.doorLaid Tryd.prog Laid.steps os) #[.int .i64 0, .int .i64 0, .slice none 0 0] 8 rfl (World.shaped_of_RefB (by kernel_rfl) (by kernel_rfl)) (by kernel_rfl) (by kernel_rfl) (by kernel_rfl) (Laid.met os _)) ?_
  intro W base args ds gs before hval0 hW _ _ hL _
  have hval : ∀ (j : Nat) t v, Tryd.f6.params[j]? = some t → args[j]? = some v → Value.okWide Tryd.prog W .any base t v := hval0
  have hW' := hW
  obtain ⟨p, q, hA0, hV, rfl, hfz, hnd⟩ := hW
  have hA : DataW.TrodAll enc Tryd.prog W 0 (fun _ => true) true Tryd.f6.params.toList args.toList ds p := hA0
  rw [Tryd.params6] at hA hval
  obtain ⟨v0, vs0, d0, ds0, p0, q0, hargs, rfl, rfl, h0, r0⟩ := trodAll_cons hA
  obtain ⟨v1, vs1, d1, ds1, p1, q1, rfl, rfl, rfl, h1, r1⟩ := trodAll_cons r0
  obtain ⟨v2, vs2, d2, ds2, p2, q2, rfl, rfl, rfl, h2, r2⟩ := trodAll_cons r1
  obtain ⟨rfl, rfl, rfl⟩ := trodAll_nil r2
  obtain rfl : args = #[v0, v1, v2] := by cases args; simp_all
  obtain ⟨rfl, rfl⟩ := trodVars_none hV
  have k0 := h0
  have lt0 : ∀ x ∈ p0, x.block < W.heap.size := by obtain ⟨m, hm⟩ := k0; exact DataW.trod_lt m _ _ _ hm
  obtain ⟨a0, rfl, rfl, rfl, w0⟩ := open_int Tryd.underlying3 (hval 0 3 v0 rfl rfl) h0
  have k1 := h1
  have lt1 : ∀ x ∈ p1, x.block < W.heap.size := by obtain ⟨m, hm⟩ := k1; exact DataW.trod_lt m _ _ _ hm
  obtain ⟨a1, rfl, rfl, rfl, w1⟩ := open_int Tryd.underlying3 (hval 1 3 v1 rfl rfl) h1
  have k2 := h2
  have lt2 : ∀ x ∈ p2, x.block < W.heap.size := by obtain ⟨m, hm⟩ := k2; exact DataW.trod_lt m _ _ _ hm
  obtain ⟨a2, w2⟩ := open_ops9 (hval 2 44 v2 rfl rfl) h2
  clear hA0 hval0
  refine (walk a0 a1 v2 a2 W w0 w1 w2 (Laid.tab hL)).mono fun e W' ⟨he, kp⟩ => ?_
  subst he
  have bel := kp.below
  exact ⟨_, rfl, _, _, _, [], _, [], hW', trodAll_mk1 (shut_bool Tryd.underlying4 _), (trodAll_cons_mk (shut_int Tryd.underlying3 w0) (trodAll_cons_mk (shut_int Tryd.underlying3 w1) (trodAll_cons_mk (Below.trod Head.laidOut (by kernel_rfl) (of_decide_eq_true (by kernel_rfl)) k2 bel lt2) trodAll_mk0))), rfl, bel.frame _, fun h => by cases h⟩
theorem closed : joinedFacts Tryd.prog 6 Tryd.f6 Rows.pallocApartSpec Rows.pallocApartRow = true := by
  unfold joinedFacts
  rw [Head.mayEnter, Head.liftsFinal, Head.make]
  kernel_rfl
theorem over : Rows.pallocApartRow.holds Tryd.pinned (OpenSpec.ofChange Rows.pallocApartSpec) :=
  OpenClaim.holds_of_wide 6 Tryd.f6 rfl rfl rfl rfl rfl rfl rfl ⟨rfl, rfl, rfl, rfl, rfl⟩ rfl rfl rfl rfl rfl (by kernel_rfl) Tryd.func6 closed
    (of_decide_eq_true (by kernel_rfl)) (by unfold Func.isWrapper; first | (rw [if_pos (by decide +kernel)]; kernel_rfl) | (rw [if_neg (by decide +kernel)]; exact ⟨rfl, rfl⟩))
    (fun os started H enc _ => lifted os started H enc)
theorem row : Rows.PallocApartSaid := over
theorem proved : Rows.PallocApartCardSaid :=
  Claim7.holds_tied_plain_at .later [] [.data] true (true, "6f766e467f1f76f857c29113ad61a388d69ae06b2677fa7c12f1fa228f819649") false
    row (fun _ h => by cases h) (by kernel_rfl) (fun _ h => by cases h) pallocApart_row_tie rfl ⟨rfl, rfl⟩ (by kernel_rfl) rfl
    (fun f fn hf hfn => by
      obtain rfl : f = 6 := Option.some.inj ((show Tryd.prog.funcNamed "priory/priorylaw09.PallocApart" = some 6 by kernel_rfl).symm.trans hf) |>.symm
      obtain rfl : fn = Tryd.f6 := (Option.some.inj (Tryd.func6.symm.trans hfn)).symm
      exact ⟨by kernel_rfl, fun j t ht => by
        have hall : (Tryd.f6.params.toList.all fun u => !Tryd.prog.wantsStandIn u) = true := by kernel_rfl
        have hm : t ∈ Tryd.f6.params.toList := Array.mem_toList_iff.2 (Array.mem_of_getElem? ht)
        exact (show Tryd.prog.wantsStandIn t = false by simpa using List.all_eq_true.1 hall t hm)⟩)
    (by kernel_rfl)
end Go.Proofs.YtepmljcapobodaaDoor.pallocApart
