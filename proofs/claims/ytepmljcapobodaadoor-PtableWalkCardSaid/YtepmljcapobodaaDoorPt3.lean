/- Of package ptable: Query, Set. -/
import Derived.Test.YtepmljcapobodaaDoorPt2
namespace Go.Proofs.YtepmljcapobodaaDoor
open Go.RowKit
set_option linter.unusedVariables false
set_option maxRecDepth 100000
def tabE (n : Nat) (c : Nat → Int) (root page : Int) : Ent := getE n c root (page / 32)
def pagE (n : Nat) (c : Nat → Int) (root page : Int) : Ent := getE n c (tabE n c root page).f (page % 32)
def qryE (n : Nat) (c : Nat → Int) (g : Int → Int) (root page : Int) : Ent := if askE g root page true = 0 ∧ (tabE n c root page).p = true then pagE n c root page else Ent.zero
def qryB (n : Nat) (c : Nat → Int) (g : Int → Int) (root page : Int) : Bool := (qryE n c g root page).p
theorem ask_range {g : Int → Int} {root page : Int} {b : Bool} (h : askE g root page b = 0) : 0 ≤ page ∧ page < 1024 ∧ b = true ∧ g root ≠ 0 := by
  unfold askE at h
  split at h
  · rename_i q
    refine ⟨q.1, q.2.1, q.2.2, fun e => ?_⟩
    rw [if_pos e] at h
    cases h
  · cases h
set_option maxHeartbeats 3200000 in
theorem query_ok {w : World} {A : MB} {B : PB} {c : Nat → Int} {f g : Int → Int} {q : Nat} (G : Geo B) (X : PtAt w A B c f g q) (root page : Int) (hw : wfI root) :
    Calls Tryd.prog 44 #[.pointer (some ⟨A.t, 0, none⟩), .int .i64 root, .int .i64 page] w fun r w' => r = .returned (.tuple #[(qryE B.n c g root page).val, .bool (qryB B.n c g root page)]) ∧ Keep nob w w' := by
  obtain ⟨W, hW⟩ : ∃ W, W = w.alloc (.cells #[.bool false, .bool false, .bool false, .int .i64 0] 69) := ⟨_, rfl⟩
  have KW : Keep nob w W := by rw [hW]; exact (Keep.refl _ _).alloc _
  have E0 : EntAt W w.heap.size false false false 0 := by rw [hW]; exact EntAt.new _ _ _ _ _ _
  have C := asked_ok' (X.next G KW).M root page true hw
  by_cases ha : askE g root page true = 0
  · obtain ⟨p0, p1, -, hg⟩ := ask_range ha
    have CG := tget (X.next G KW) root (page / 32)
    rw [ha] at C
    have eT : tabE B.n c root page = getE B.n c root (page / 32) := rfl
    obtain ⟨tp, tv, tc, tf, hE⟩ : ∃ p v cc fr, getE B.n c root (page / 32) = ⟨p, v, cc, fr⟩ := ⟨_, _, _, _, rfl⟩
    rw [hE] at CG eT
    unfold Ent.val at CG
    dsimp only at CG
    cases tp with
    | false =>
      have eQ : qryE B.n c g root page = Ent.zero := if_neg (fun h => by rw [eT] at h; cases h.2)
      have eB : qryB B.n c g root page = false := by unfold qryB; rw [eQ]; rfl
      rw [eQ, eB]
      unfold Ent.val Ent.zero
      dsimp only
      replace C := Lib.hid C
      replace CG := Lib.hid CG
      replace KW := Lib.hid KW
      replace E0 := Lib.hid E0
      replace X := Lib.hid X
      replace G := Lib.hid G
      replace hw := Lib.hid hw
      replace ha := Lib.hid ha
      replace hg := Lib.hid hg
      replace hE := Lib.hid hE
      replace eT := Lib.hid eT
      replace eQ := Lib.hid eQ
      replace eB := Lib.hid eB
      replace hW := Lib.hid hW
      go_enter Tryd.func44, Tryd.ntmps44
      go_wp2_with fail
      rw [← hW.out]
      refine Calls.mono (C.out) ?_
      rintro r w1 ⟨rfl, rfl⟩
      go_wp2_with fail
      refine Calls.mono CG.out ?_
      rintro r w2 ⟨rfl, K2⟩
      have EA := fun o => (E0.out.next K2).next ((Keep.refl nob w2).alloc o)
      have d0 := fun o => (EA o).c0
      have d1 := fun o => (EA o).c1
      have d2 := fun o => (EA o).c2
      have d3 := fun o => (EA o).c3
      have z0 := fun o => (EA o).z0
      have z1 := fun o => (EA o).z1
      have z2 := fun o => (EA o).z2
      have z3 := fun o => (EA o).z3
      have F := fun o p' q' c' f' => (EA o).put (p' := p') (q' := q') (c' := c') (f' := f')
      have K3 := KW.out.then K2
      replace K2 := Lib.hid K2
      replace EA := Lib.hid EA
      replace K3 := Lib.hid K3
      replace F := Lib.hid F
      go_wp2_with fail
      refine bodyPost_ret (results_ent rfl _ _ w.heap.size (F.out _ false false false 0) rfl (.bool false) rfl) rfl ⟨rfl, ?_⟩
      repeat (refine Keep.setCell ?_ _ (Or.inl (Nat.le_refl _)))
      exact K3.out.alloc _
    | true =>
      have eQ : qryE B.n c g root page = getE B.n c tf (page % 32) := by
        unfold qryE
        rw [if_pos ⟨ha, by rw [eT]⟩]
        unfold pagE
        rw [eT]
      have eB : qryB B.n c g root page = (getE B.n c tf (page % 32)).p := by unfold qryB; rw [eQ]
      rw [eQ, eB]
      have C2 := fun W' (k : Keep nob w W') => tget (X.next G k) tf (page % 32)
      obtain ⟨p, v, cc, fr, hE2⟩ : ∃ p v cc fr, getE B.n c tf (page % 32) = ⟨p, v, cc, fr⟩ := ⟨_, _, _, _, rfl⟩
      rw [hE2] at C2 ⊢
      unfold Ent.val at C2 ⊢
      dsimp only at C2 ⊢
      replace C := Lib.hid C
      replace CG := Lib.hid CG
      replace KW := Lib.hid KW
      replace E0 := Lib.hid E0
      replace X := Lib.hid X
      replace G := Lib.hid G
      replace hw := Lib.hid hw
      replace ha := Lib.hid ha
      replace hg := Lib.hid hg
      replace hE := Lib.hid hE
      replace eT := Lib.hid eT
      replace eQ := Lib.hid eQ
      replace eB := Lib.hid eB
      replace C2 := Lib.hid C2
      replace hE2 := Lib.hid hE2
      replace hW := Lib.hid hW
      go_enter Tryd.func44, Tryd.ntmps44
      go_wp2_with fail
      rw [← hW.out]
      refine Calls.mono (C.out) ?_
      rintro r w1 ⟨rfl, rfl⟩
      go_wp2_with fail
      refine Calls.mono CG.out ?_
      rintro r w2 ⟨rfl, K2⟩
      have Kb := (KW.out.then K2).alloc (.cells #[.bool true, .bool tv, .bool tc, .int .i64 tf] 69)
      have E2 := (E0.out.next K2).next ((Keep.refl nob w2).alloc (.cells #[.bool true, .bool tv, .bool tc, .int .i64 tf] 69))
      replace K2 := Lib.hid K2
      replace Kb := Lib.hid Kb
      replace E2 := Lib.hid E2
      go_wp2_with fail
      refine Calls.mono (C2.out _ Kb.out) ?_
      rintro r w3 ⟨rfl, K3⟩
      have E3 := E2.out.next K3
      have Kc := (Kb.out.then K3).alloc (.cells #[.bool p, .bool v, .bool cc, .int .i64 fr] 69)
      have E4 := E3.next ((Keep.refl nob w3).alloc (.cells #[.bool p, .bool v, .bool cc, .int .i64 fr] 69))
      have E5 := EntAt.new w3 p v cc fr 69
      obtain ⟨W4, hW4⟩ : ∃ W4, W4 = w3.alloc (.cells #[.bool p, .bool v, .bool cc, .int .i64 fr] 69) := ⟨_, rfl⟩
      rw [← hW4] at Kc E4 E5
      have bne := E3.lt
      obtain ⟨d0, d1, d2, d3, z0, z1, z2, z3⟩ := id E4
      obtain ⟨f0, f1, f2, f3, -, -, -, -⟩ := E5
      have F := fun p' q' c' f' => E4.put (p' := p') (q' := q') (c' := c') (f' := f')
      replace K3 := Lib.hid K3
      replace Kc := Lib.hid Kc
      replace F := Lib.hid F
      replace E3 := Lib.hid E3
      replace hW4 := Lib.hid hW4
      replace E4 := Lib.hid E4
      go_wp2_with fail
      rw [← hW4.out]
      first | (go_region) | fail
      all_goals
        go_wp2_with fail
        refine bodyPost_ret (results_ent rfl _ _ w.heap.size ((F.out p v cc fr).next (Keep.refl nob _).drew) rfl (.bool p) rfl) rfl ⟨rfl, ?_⟩
        refine Keep.drew ?_
        repeat (refine Keep.setCell ?_ _ (Or.inl (Nat.le_refl _)))
        exact Kc.out
  · have eQ : qryE B.n c g root page = Ent.zero := if_neg (fun h => ha h.1)
    have eB : qryB B.n c g root page = false := by unfold qryB; rw [eQ]; rfl
    rw [eQ, eB]
    obtain ⟨x, hx⟩ : ∃ x, askE g root page true = x := ⟨_, rfl⟩
    rw [hx] at C ha
    have t1 : (x != 0) = true := by simpa using ha
    unfold Ent.val Ent.zero
    dsimp only
    replace C := Lib.hid C
    replace KW := Lib.hid KW
    replace E0 := Lib.hid E0
    replace X := Lib.hid X
    replace G := Lib.hid G
    replace hw := Lib.hid hw
    replace hx := Lib.hid hx
    replace ha := Lib.hid ha
    replace eQ := Lib.hid eQ
    replace eB := Lib.hid eB
    replace hW := Lib.hid hW
    go_enter Tryd.func44, Tryd.ntmps44
    go_wp2_with fail
    rw [← hW.out]
    refine Calls.mono C.out ?_
    rintro r w1 ⟨rfl, rfl⟩
    obtain ⟨d0, d1, d2, d3, z0, z1, z2, z3⟩ := E0.out
    have F := fun p' q' c' f' => E0.out.put (p' := p') (q' := q') (c' := c') (f' := f')
    replace F := Lib.hid F
    go_wp2_with fail
    refine bodyPost_ret (results_ent rfl _ _ w.heap.size (F.out false false false 0) rfl (.bool false) rfl) rfl ⟨rfl, ?_⟩
    repeat (refine Keep.setCell ?_ _ (Or.inl (Nat.le_refl _)))
    exact KW.out
end Go.Proofs.YtepmljcapobodaaDoor
