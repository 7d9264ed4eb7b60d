/- The document's pool (package prioryref09): Left, Share, Free, Alloc. -/
import Derived.Test.YtepmljcapobodaaDoorRefPal
import Derived.Test.YtepmljcapobodaaDoorRefAt
namespace Go.Proofs.YtepmljcapobodaaDoor
open Go.RowKit
set_option linter.unusedVariables false
set_option maxRecDepth 100000
theorem left_range {B : PB} (G : Geo B) {f : Int → Int} {j : Nat} (hj : j < B.l.length) : leftN B f j = cnt (fun t : Nat => decide (f ((B.fr j + t : Nat) : Int) = 0)) (B.mn j) := by
  have h := G.fit j hj
  have hn := G.n
  have e : leftN B f j = cnt (fun k : Nat => decide (B.fr j ≤ k ∧ k < B.fr j + B.mn j ∧ f (k : Int) = 0)) 1024 := by
    unfold leftN
    apply cnt_congr
    intro k _
    apply decide_eq_decide.2
    unfold PB.inr
    constructor
    · rintro ⟨⟨_, a, b⟩, c⟩; exact ⟨by omega, by omega, c⟩
    · rintro ⟨a, b, c⟩; exact ⟨⟨hj, by omega, by omega⟩, c⟩
  have z : ∀ (P : Nat → Bool) d, (∀ k, k < d → P k = false) → cnt P d = 0 := by
    intro P d hP
    induction d with
    | zero => rfl
    | succ d ih => rw [cnt, ih (fun k hk => hP k (by omega)), hP d (by omega)]; rfl
  obtain ⟨r, hr⟩ : ∃ r, 1024 = B.fr j + (B.mn j + r) := ⟨1024 - B.fr j - B.mn j, by omega⟩
  rw [e, hr, cnt_add, cnt_add, z _ _ (fun k hk => decide_eq_false (by omega)), z _ r (fun k hk => decide_eq_false (by omega)), Nat.zero_add, Nat.add_zero]
  apply cnt_congr
  intro k hk
  apply decide_eq_decide.2
  constructor
  · rintro ⟨_, _, c⟩; exact c
  · intro c; exact ⟨by omega, by omega, c⟩
theorem cnt_le (P : Nat → Bool) : ∀ n, cnt P n ≤ n
  | 0 => Nat.le_refl _
  | n + 1 => by have := cnt_le P n; unfold cnt; split <;> omega
def cntF (B : PB) (f : Int → Int) (j t : Nat) : Nat := cnt (fun t : Nat => decide (f ((B.fr j + t : Nat) : Int) = 0)) t
def LfI (W : World) (B : PB) (f : Int → Int) (j : Nat) (n i : Value) (wr : World) : Prop :=
  ∃ t : Nat, t ≤ B.mn j ∧ i = .int .i64 ((B.fr j + t : Nat) : Int) ∧ n = .int .i64 (cntF B f j t) ∧ Keep nob W wr
noncomputable def lefE (B : PB) (f : Int → Int) (x : Int) : Int := if 0 ≤ x ∧ x < B.l.length then (leftN B f x.toNat : Int) else 0
set_option maxHeartbeats 1600000 in
theorem rleft {w : World} {B : PB} {pw n g h : Nat} {v : Value} {l : List (Int × Int)} {c : Nat → Int} {f : Int → Int} (G : Geo B) (S : Same B n l) (R : RefsOk B f) (L : PairsAt w v l) (P : RpAt w pw g h n v c f) (x : Int) :
    Calls Tryd.prog 66 #[.agg #[v, refV g n, refsV h n], .int .i64 x] w fun r w' => r = .returned (.int .i64 (lefE B f x)) ∧ Keep nob w w' := by
  obtain ⟨a, cap, hv, hm, hcap, hc⟩ := L
  subst hv
  obtain ⟨W, hW⟩ : ∃ W, W = w.alloc (.cells #[.slice a l.length cap, refV g n, refsV h n] 55) := ⟨_, rfl⟩
  have c0 : W.cell? ⟨w.heap.size, 0, none⟩ = some (.slice a l.length cap) := by rw [hW]; exact new_at _ _ _ 0 _ rfl
  have c2 : W.cell? ⟨w.heap.size, 2, none⟩ = some (.slice (some ⟨h, 0, none⟩) n n) := by rw [hW]; exact new_at _ _ _ 2 _ rfl
  have KW : Keep nob w W := by rw [hW]; exact (Keep.refl _ _).alloc _
  unfold refV refsV at hW
  have sl := S.len
  unfold refV refsV
  by_cases hx : 0 ≤ x ∧ x < B.l.length
  · unfold lefE
    rw [if_pos hx]
    obtain ⟨j, rfl⟩ : ∃ j : Nat, x = j := ⟨x.toNat, by omega⟩
    rw [Int.toNat_natCast]
    have hj : j < B.l.length := by omega
    rw [show leftN B f j = cntF B f j (B.mn j) from left_range G hj]
    obtain ⟨f1, f2⟩ := G.fit j hj
    have bn := S.n
    have gn := G.n
    rw [bn] at f2 gn
    have hne : l ≠ [] := by intro e; rw [e] at sl; have sl : B.l.length = 0 := sl; omega
    obtain ⟨gg, og, rfl, cs⟩ := hc hne
    have ho' := S.at_ j (by omega)
    have r0 : w.cell? ⟨gg, og + j * 2, none⟩ = some (.int .i64 (B.fr j)) := cs j _ ho' 0 _ rfl
    have r1 : w.cell? ⟨gg, og + j * 2 + 1, none⟩ = some (.int .i64 (B.mn j)) := cs j _ ho' 1 _ rfl
    have ra0 : ∀ o, (w.alloc o).cell? ⟨gg, og + j * 2, none⟩ = some (.int .i64 (B.fr j)) := fun o => (alloc_lt (World.block_lt_of_cell? _ _ r0)).trans r0
    have rw0 := KW.some r0 (fun x => x)
    have rw1 := KW.some r1 (fun x => x)
    have t1 : decide ((j : Int) < 0) = false := by simp
    have t2 : decide (l.length ≤ j) = false := by simp; omega
    have d : ∀ w', Keep nob W w' → ∀ y : Nat, y < n → w'.cell? ⟨h, y, none⟩ = some (.int .i64 (f y)) := fun w' K y hy => (KW.then K).some (P.F y hy) (fun x => x)
    have b1 : ((B.fr j : Int)) ≤ 1024 := by omega
    have b2 : ((B.mn j : Int)) ≤ 1024 := by omega
    have hjl : (j : Int) < l.length := by omega
    replace hW := Lib.hid hW
    replace KW := Lib.hid KW
    replace d := Lib.hid d
    replace ho' := Lib.hid ho'
    replace hc := Lib.hid hc
    replace P := Lib.hid P
    replace bn := Lib.hid bn
    replace S := Lib.hid S
    replace R := Lib.hid R
    replace G := Lib.hid G
    clear cs hx
    go_enter Tryd.func66, Tryd.ntmps66
    go_wp2_with fail
    rw [← hW.out]
    have h0 := Lib.hid c0
    have h2 := Lib.hid c2
    have s0 := Lib.hid rw0
    have s1 := Lib.hid rw1
    go_loopw [5, 6] (fun n i wr => LfI W B f j n i wr) (fun _ i _ => ((B.fr j : Int) + B.mn j - intOf i).toNat)
    case atStart => exact ⟨0, Nat.zero_le _, rfl, rfl, Keep.refl _ _⟩
    case round =>
      clear c0 c2 r0 r1 rw0 rw1 ra0
      obtain ⟨t, ht, rfl, rfl, K⟩ := hrel
      have c0 := K.some h0.out (fun x => x)
      have c2 := K.some h2.out (fun x => x)
      have r0 := K.some s0.out (fun x => x)
      have r1 := K.some s1.out (fun x => x)
      have C := Lib.hid (in_ok G.out j hj ((B.fr j + t : Nat) : Int) wr)
      have cb : cntF B f j t ≤ t := cnt_le _ t
      have cs : cntF B f j (t + 1) = cntF B f j t + if f ((B.fr j + t : Nat) : Int) = 0 then 1 else 0 := by unfold cntF; rw [cnt]; congr 1; simp
      by_cases hlt : t < B.mn j
      · have q : B.inr j ((B.fr j + t : Nat) : Int) := ⟨hj, by omega, by omega⟩
        rw [decide_eq_true q] at C
        obtain ⟨y, hy⟩ : ∃ y, B.fr j + t = y := ⟨_, rfl⟩
        rw [hy] at C cs
        have D := fun w' K' => d.out w' K' y (by omega)
        have hyn : y < n := by omega
        have ey : B.fr j + (t + 1) = y + 1 := by omega
        replace ey := Lib.hid ey
        by_cases z : f (y : Int) = 0
        · rw [if_pos z] at cs
          rw [z] at D
          replace K := Lib.hid K
          replace q := Lib.hid q
          replace D := Lib.hid D
          replace cs := Lib.hid cs
          replace z := Lib.hid z
          rw [hy]
          replace hy := Lib.hid hy
          go_wp2_with fail
          refine Calls.mono C.out ?_
          rintro r w5 ⟨rfl, K5⟩
          have e0 := K5.some c0 (fun x => x)
          have e2 := K5.some c2 (fun x => x)
          have e5 := D.out _ (K.out.then K5)
          have K6 := Lib.hid (K.out.then K5)
          clear c0 c2 r0 r1
          replace K5 := Lib.hid K5
          go_wp2_with fail
          go_roundw
          case rel => exact ⟨t + 1, by omega, by rw [ey.out]; go_num, by rw [cs.out]; go_num, K6.out⟩
          case measure => have := hy.out; simp [intOf]; omega
        · rw [if_neg z] at cs
          have z' : (f (y : Int) == 0) = false := by simpa using z
          obtain ⟨u, hu⟩ : ∃ u, f (y : Int) = u := ⟨_, rfl⟩
          rw [hu] at D z'
          replace K := Lib.hid K
          replace q := Lib.hid q
          replace D := Lib.hid D
          replace cs := Lib.hid cs
          replace z := Lib.hid z
          replace hu := Lib.hid hu
          rw [hy]
          replace hy := Lib.hid hy
          go_wp2_with fail
          refine Calls.mono C.out ?_
          rintro r w5 ⟨rfl, K5⟩
          have e0 := K5.some c0 (fun x => x)
          have e2 := K5.some c2 (fun x => x)
          have e5 := D.out _ (K.out.then K5)
          have K6 := Lib.hid (K.out.then K5)
          clear c0 c2 r0 r1
          replace K5 := Lib.hid K5
          go_wp2_with fail
          go_roundw
          case rel => exact ⟨t + 1, by omega, by rw [ey.out]; go_num, by rw [cs.out]; rfl, K6.out⟩
          case measure => have := hy.out; simp [intOf]; omega
      · obtain rfl : B.mn j = t := by omega
        have q : ¬ B.inr j ((B.fr j + B.mn j : Nat) : Int) := fun h => by have := h.2.2; omega
        rw [decide_eq_false q] at C
        have K6 := KW.out.then K
        replace K := Lib.hid K
        replace q := Lib.hid q
        replace K6 := Lib.hid K6
        clear cs
        go_wp2_with fail
        refine Calls.mono (C.out) ?_
        rintro r w5 ⟨rfl, K5⟩
        go_wp2_with fail
        go_ret
        exact ⟨rfl, K6.out.then K5⟩
  · unfold lefE
    rw [if_neg hx]
    replace hW := Lib.hid hW
    replace KW := Lib.hid KW
    replace P := Lib.hid P
    replace hc := Lib.hid hc
    replace S := Lib.hid S
    replace R := Lib.hid R
    replace G := Lib.hid G
    by_cases h0 : x < 0
    · have t1 : decide (x < 0) = true := by simpa using h0
      clear h0 hx
      go_enter Tryd.func66, Tryd.ntmps66
      go_wp2_with fail
      go_ret
      exact ⟨rfl, by have := KW.out; rw [hW.out] at this; exact this⟩
    · have t1 : decide (x < 0) = false := by simpa using h0
      have t2 : decide ((l.length : Int) ≤ x) = true := by simp; omega
      clear h0 hx
      go_enter Tryd.func66, Tryd.ntmps66
      go_wp2_with fail
      go_ret
      exact ⟨rfl, by have := KW.out; rw [hW.out] at this; exact this⟩
end Go.Proofs.YtepmljcapobodaaDoor
