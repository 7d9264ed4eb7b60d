/- The document's pool (package prioryref09): Alloc, New. -/
import Derived.Test.YtepmljcapobodaaDoorRefPal3
namespace Go.Proofs.YtepmljcapobodaaDoor
open Go.RowKit
set_option linter.unusedVariables false
set_option maxRecDepth 100000
theorem leastN_is {B : PB} (G : Geo B) {f : Int → Int} {j y : Nat} (h : B.inr j y) (h0 : f y = 0) (hm : ∀ m : Nat, m < y → B.inr j m → f m ≠ 0) : leastN B f j = some y := by
  unfold leastN
  rw [List.find?_range_eq_some]
  have hl := inr_lt G h
  have hn := G.n
  refine ⟨decide_eq_true ⟨h, h0⟩, List.mem_range.2 (by omega), fun m hmy => ?_⟩
  rw [Bool.not_eq_true', decide_eq_false_iff_not]
  rintro ⟨a, b⟩
  exact hm m hmy a b
theorem leastN_no {B : PB} {f : Int → Int} {j : Nat} (h : ∀ k : Nat, B.inr j k → f k ≠ 0) : leastN B f j = none := by
  unfold leastN
  rw [List.find?_eq_none]
  intro k _ e
  have e := of_decide_eq_true e
  exact h k e.1 e.2
def atE : Option Nat → Int × Int
  | some n => (n, 0)
  | none => (0, 3)
def AlI (w : World) (B : PB) (f : Int → Int) (j : Nat) (i : Value) (wr : World) : Prop :=
  ∃ t : Nat, t ≤ B.mn j ∧ i = .int .i64 ((B.fr j + t : Nat) : Int) ∧ (∀ s, s < t → f ((B.fr j + s : Nat) : Int) ≠ 0) ∧ Keep nob w wr
def gh (g h : Nat) : Nat → Prop := fun k => k = g ∨ k = h
set_option maxHeartbeats 1600000 in
theorem ralloc_in {w : World} {B : PB} {pw n g h : Nat} {v : Value} {l : List (Int × Int)} {c : Nat → Int} {f : Int → Int} (G : Geo B) (S : Same B n l) (R : RefsOk B f) (L : PairsAt w v l) (P : RpAt w pw g h n v c f) (j : Nat) (hj : j < B.l.length) :
    Calls Tryd.prog 60 #[.pointer (some ⟨pw, 0, none⟩), .int .i64 j] w fun r w' => r = .returned (.tuple #[.int .i64 (allE B f j).1, .int .i64 (allE B f j).2]) ∧ RpAt w' pw g h n v (allC B f j c) (allF B f j) ∧ Keep (gh g h) w w' := by
  have p0 := P.p0
  have p1 := P.p1
  have p2 := P.p2
  obtain ⟨a, cap, hv, hm, hcap, hc⟩ := L
  subst hv
  unfold refV at p1
  unfold refsV at p2
  have sl := S.len
  obtain ⟨f1, f2⟩ := G.fit j hj
  have bn := S.n
  have gn := G.n
  rw [bn] at f2 gn
  have hne : l ≠ [] := by intro e; rw [e] at sl; have sl : B.l.length = 0 := sl; omega
  obtain ⟨gg, og, rfl, cs⟩ := hc hne
  have ho' := S.at_ j (by omega)
  have r0 : w.cell? ⟨gg, og + j * 2, none⟩ = some (.int .i64 (B.fr j)) := cs j _ ho' 0 _ rfl
  have r1 : w.cell? ⟨gg, og + j * 2 + 1, none⟩ = some (.int .i64 (B.mn j)) := cs j _ ho' 1 _ rfl
  have t1 : decide ((j : Int) < 0) = false := by simp
  have t2 : decide (l.length ≤ j) = false := by simp; omega
  have b1 : ((B.fr j : Int)) ≤ 1024 := by omega
  have b2 : ((B.mn j : Int)) ≤ 1024 := by omega
  have hjl : (j : Int) < l.length := by omega
  have eE : allE B f j = atE (leastN B f j) := by
    unfold allE atE; rw [if_pos (by omega), Int.toNat_natCast]; cases leastN B f j <;> rfl
  have eN : allN B f j = leastN B f j := by unfold allN; rw [if_pos (by omega), Int.toNat_natCast]
  have Gn := P.ne
  replace ho' := Lib.hid ho'
  replace hc := Lib.hid hc
  replace P := Lib.hid P
  replace bn := Lib.hid bn
  replace S := Lib.hid S
  replace R := Lib.hid R
  replace G := Lib.hid G
  replace eE := Lib.hid eE
  replace eN := Lib.hid eN
  replace Gn := Lib.hid Gn
  clear cs
  go_enter Tryd.func60, Tryd.ntmps60
  go_wp2_with fail
  have h0 := Lib.hid p0
  have h1 := Lib.hid p1
  have h2 := Lib.hid p2
  have s0 := Lib.hid r0
  have s1 := Lib.hid r1
  go_loopw [6] (fun i wr => AlI w B f j i wr) (fun i _ => ((B.fr j : Int) + B.mn j - intOf i).toNat)
  case atStart => exact ⟨0, Nat.zero_le _, rfl, fun s hs => absurd hs (Nat.not_lt_zero s), Keep.refl _ _⟩
  case round =>
    clear p0 p1 p2 r0 r1
    obtain ⟨t, ht, rfl, hz, K⟩ := hrel
    have p0 := K.some h0.out (fun x => x)
    have p2 := K.some h2.out (fun x => x)
    have r0 := K.some s0.out (fun x => x)
    have r1 := K.some s1.out (fun x => x)
    have C := Lib.hid (in_ok G.out j hj ((B.fr j + t : Nat) : Int) wr)
    by_cases hlt : t < B.mn j
    · have q : B.inr j ((B.fr j + t : Nat) : Int) := ⟨hj, by omega, by omega⟩
      rw [decide_eq_true q] at C
      obtain ⟨y, hy⟩ : ∃ y, B.fr j + t = y := ⟨_, rfl⟩
      rw [hy] at C q
      have ey : B.fr j + (t + 1) = y + 1 := by omega
      have hyn : y < n := by omega
      by_cases z : f (y : Int) = 0
      · have eL : leastN B f j = some y := leastN_is G.out q z (fun m hm hi => by
          have h1 := hi.2.1
          have h2 := hz (m - B.fr j) (by omega)
          rwa [show B.fr j + (m - B.fr j) = m by omega] at h2)
        have eE1 := eE.out
        have eN1 := eN.out
        rw [eL] at eE1 eN1
        simp only [atE] at eE1
        have eF : allF B f j = updI f y 1 := by unfold allF; rw [eN1]
        have eC : allC B f j c = updRow c y fun _ => 0 := by unfold allC; rw [eN1]
        rw [hy]
        replace K := Lib.hid K
        replace q := Lib.hid q
        replace z := Lib.hid z
        replace hz := Lib.hid hz
        replace hy := Lib.hid hy
        replace ey := Lib.hid ey
        replace eE1 := Lib.hid eE1
        replace eN1 := Lib.hid eN1
        replace eF := Lib.hid eF
        replace eC := Lib.hid eC
        replace eL := Lib.hid eL
        go_wp2_with fail
        refine Calls.mono C.out ?_
        rintro r w5 ⟨rfl, K5⟩
        have e0 := K5.some p0 (fun x => x)
        have e2 := K5.some p2 (fun x => x)
        have K6 := K.out.then K5
        have P6 := P.out.next K6
        have e5 := P6.F y hyn
        rw [z.out] at e5
        have e6 := P6.Z y
        have P7 := P6.set y hyn 1
        have K7 : Keep (gh g h) w (w5.setCell ⟨h, y, none⟩ (.int .i64 1)) := (K6.nob (S := gh g h)).setCell (p := ⟨h, y, none⟩) _ (Or.inr (Or.inr rfl))
        have C2 := refzero_at P7.M P7.p1 Gn.out.1 y (by omega) (by omega)
        replace K5 := Lib.hid K5
        replace K6 := Lib.hid K6
        replace P6 := Lib.hid P6
        replace P7 := Lib.hid P7
        replace K7 := Lib.hid K7
        replace C2 := Lib.hid C2
        clear p0 p2 r0 r1
        go_wp2_with fail
        refine Calls.mono C2.out ?_
        rintro r w8 ⟨rfl, M8, -, K8⟩
        rw [Int.toNat_natCast] at M8
        have P8 := P7.out.words K8 M8
        have K9 := K7.out.trans K8 (fun q _ e => Or.inl e)
        replace M8 := Lib.hid M8
        replace K8 := Lib.hid K8
        replace P8 := Lib.hid P8
        replace K9 := Lib.hid K9
        go_wp2_with fail
        go_ret2
        exact ⟨ret2 (by rw [eE1.out]) (by rw [eE1.out]), by rw [eF.out, eC.out]; exact P8.out, K9.out⟩
      · have z' : (f (y : Int) == 0) = false := by simpa using z
        rw [hy]
        obtain ⟨u, hu⟩ : ∃ u, f (y : Int) = u := ⟨_, rfl⟩
        rw [hu] at z'
        replace K := Lib.hid K
        replace q := Lib.hid q
        replace z := Lib.hid z
        replace hz := Lib.hid hz
        replace hy := Lib.hid hy
        replace ey := Lib.hid ey
        replace hu := Lib.hid hu
        go_wp2_with fail
        refine Calls.mono C.out ?_
        rintro r w5 ⟨rfl, K5⟩
        have e0 := K5.some p0 (fun x => x)
        have e2 := K5.some p2 (fun x => x)
        have K6 := K.out.then K5
        have P6 := P.out.next K6
        have e5 := P6.F y hyn
        rw [hu.out] at e5
        replace K5 := Lib.hid K5
        replace K6 := Lib.hid K6
        replace P6 := Lib.hid P6
        clear p0 p2 r0 r1
        go_wp2_with fail
        go_roundw
        case rel =>
          refine ⟨t + 1, by omega, by rw [ey.out]; go_num, fun s hs => ?_, K6.out⟩
          by_cases e : s = t
          · rw [e, hy.out]; exact z.out
          · exact hz.out s (by omega)
        case measure => have := hy.out; simp [intOf]; omega
    · obtain rfl : B.mn j = t := by omega
      have q : ¬ B.inr j ((B.fr j + B.mn j : Nat) : Int) := fun h => by have := h.2.2; omega
      rw [decide_eq_false q] at C
      have eL : leastN B f j = none := leastN_no (fun m hi => by
        have h1 := hi.2.1
        have h3 := hi.2.2
        have h2 := hz (m - B.fr j) (by omega)
        rwa [show B.fr j + (m - B.fr j) = m by omega] at h2)
      have eE1 := eE.out
      have eN1 := eN.out
      rw [eL] at eE1 eN1
      simp only [atE] at eE1
      have eF : allF B f j = f := by unfold allF; rw [eN1]
      have eC : allC B f j c = c := by unfold allC; rw [eN1]
      replace K := Lib.hid K
      replace q := Lib.hid q
      replace hz := Lib.hid hz
      replace eE1 := Lib.hid eE1
      replace eN1 := Lib.hid eN1
      replace eF := Lib.hid eF
      replace eC := Lib.hid eC
      replace eL := Lib.hid eL
      go_wp2_with fail
      refine Calls.mono C.out ?_
      rintro r w5 ⟨rfl, K5⟩
      have K6 := K.out.then K5
      replace K5 := Lib.hid K5
      replace K6 := Lib.hid K6
      clear p0 p2 r0 r1
      go_wp2_with fail
      go_ret2
      exact ⟨ret2 (by rw [eE1.out]) (by rw [eE1.out]), by rw [eF.out, eC.out]; exact P.out.next K6.out, K6.out.nob⟩
theorem ralloc_out {w : World} {B : PB} {pw n g h : Nat} {v : Value} {l : List (Int × Int)} {c : Nat → Int} {f : Int → Int} (S : Same B n l) (L : PairsAt w v l) (P : RpAt w pw g h n v c f) (x : Int) (hx : ¬ (0 ≤ x ∧ x < B.l.length)) :
    Calls Tryd.prog 60 #[.pointer (some ⟨pw, 0, none⟩), .int .i64 x] w fun r w' => r = .returned (.tuple #[.int .i64 0, .int .i64 2]) ∧ w = w' := by
  have p0 := P.p0
  obtain ⟨a, cap, hv, hm, hcap, hc⟩ := L
  subst hv
  have sl := S.len
  replace P := Lib.hid P
  replace S := Lib.hid S
  replace hc := Lib.hid hc
  by_cases h0 : x < 0
  · have t1 : decide (x < 0) = true := by simpa using h0
    clear h0 hx
    go_enter Tryd.func60, Tryd.ntmps60
    go_wp2_with fail
    go_ret2
    exact ⟨rfl, rfl⟩
  · have t1 : decide (x < 0) = false := by simpa using h0
    have t2 : decide ((l.length : Int) ≤ x) = true := by simp; omega
    clear h0 hx
    go_enter Tryd.func60, Tryd.ntmps60
    go_wp2_with fail
    go_ret2
    exact ⟨rfl, rfl⟩
theorem ralloc {w : World} {B : PB} {pw n g h : Nat} {v : Value} {l : List (Int × Int)} {c : Nat → Int} {f : Int → Int} (G : Geo B) (S : Same B n l) (R : RefsOk B f) (L : PairsAt w v l) (P : RpAt w pw g h n v c f) (x : Int) :
    Calls Tryd.prog 60 #[.pointer (some ⟨pw, 0, none⟩), .int .i64 x] w fun r w' => r = .returned (.tuple #[.int .i64 (allE B f x).1, .int .i64 (allE B f x).2]) ∧ RpAt w' pw g h n v (allC B f x c) (allF B f x) ∧ Keep (gh g h) w w' := by
  by_cases hx : 0 ≤ x ∧ x < B.l.length
  · obtain ⟨j, rfl⟩ : ∃ j : Nat, x = j := ⟨x.toNat, by omega⟩
    exact ralloc_in G S R L P j (by omega)
  · refine (ralloc_out S L P x hx).mono ?_
    rintro r w' ⟨rfl, rfl⟩
    have e1 : allE B f x = (0, 2) := by unfold allE; rw [if_neg hx]
    have e2 : allN B f x = none := by unfold allN; rw [if_neg hx]
    refine ⟨ret2 (by rw [e1]) (by rw [e1]), ?_, Keep.refl _ _⟩
    have e3 : allF B f x = f := by unfold allF; rw [e2]
    have e4 : allC B f x c = c := by unfold allC; rw [e2]
    rw [e3, e4]
    exact P
end Go.Proofs.YtepmljcapobodaaDoor
