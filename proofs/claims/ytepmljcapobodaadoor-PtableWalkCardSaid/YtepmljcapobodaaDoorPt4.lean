/- Of package ptable: Set, Unmap. -/
import Derived.Test.YtepmljcapobodaaDoorPt3
import Derived.IntWalk
namespace Go.Proofs.YtepmljcapobodaaDoor
open Go.RowKit
set_option linter.unusedVariables false
set_option maxRecDepth 100000
theorem field3 (a b c : Bool) (f : Int) (w : World) : (Instr.field 69 (.agg #[.bool a, .bool b, .bool c, .int .i64 f]) 3).run Tryd.prog w = .ok (.int .i64 f) w := by kernel_rfl
def setE (n : Nat) (c : Nat → Int) (g : Int → Int) (root page : Int) (e : Ent) : Int := if askE g root page (fitB n e) = 0 then (if qryB n c g root page then 0 else 4) else askE g root page (fitB n e)
def setC (n : Nat) (c : Nat → Int) (g : Int → Int) (root page : Int) (e : Ent) : Nat → Int := if setE n c g root page e = 0 then putC n c (tabE n c root page).f (page % 32) e else c
theorem ask_any {g : Int → Int} {root page : Int} {b : Bool} (h : askE g root page b = 0) : askE g root page true = 0 := by
  obtain ⟨h0, h1, h2, h3⟩ := ask_range h
  unfold askE; rw [if_pos ⟨h0, h1, rfl⟩, if_neg h3]
theorem mf_T {A : MB} {B : PB} : ∀ x, only B.mf x → ownT A B x := fun _ e => Or.inl (Or.inl e)
set_option maxHeartbeats 3200000 in
theorem tset {w : World} {A : MB} {B : PB} {c : Nat → Int} {f g : Int → Int} {q : Nat} (G : Geo B) (H : MGeo A B) (X : PtAt w A B c f g q) (root page : Int) (hw : wfI root) (e : Ent) :
    Calls Tryd.prog 48 #[.pointer (some ⟨A.t, 0, none⟩), .int .i64 root, .int .i64 page, e.val] w fun r w' => r = .returned (.int .i64 (setE B.n c g root page e)) ∧ PtAt w' A B (setC B.n c g root page e) f g q ∧ Keep (only B.mf) w w' := by
  have CF := fun W' (k : Keep nob w W') => tfits (X.next G k) e
  have CA := fun W' (k : Keep nob w W') => asked_ok' (X.next G k).M root page (fitB B.n e) hw
  have CQ := fun W' (k : Keep nob w W') => query_ok G (X.next G k) root page hw
  have CG := fun W' (k : Keep nob w W') => tget (X.next G k) root (page / 32)
  have CP := fun W' (k : Keep nob w W') => tput G H (X.next G k) (tabE B.n c root page).f (page % 32) e
  obtain ⟨bf, hbf⟩ : ∃ bf, fitB B.n e = bf := ⟨_, rfl⟩
  have eS : setE B.n c g root page e = if askE g root page bf = 0 then (if qryB B.n c g root page then 0 else 4) else askE g root page bf := by unfold setE; rw [hbf]
  have eC : setC B.n c g root page e = if setE B.n c g root page e = 0 then putC B.n c (tabE B.n c root page).f (page % 32) e else c := rfl
  rw [hbf] at CF CA
  obtain ⟨p, v, cc, fr⟩ := e
  obtain ⟨W, hW⟩ : ∃ W, W = w.alloc (.cells #[.bool p, .bool v, .bool cc, .int .i64 fr] 69) := ⟨_, rfl⟩
  have KW : Keep nob w W := by rw [hW]; exact (Keep.refl _ _).alloc _
  have EE : EntAt W w.heap.size p v cc fr := by rw [hW]; exact EntAt.new _ _ _ _ _ _
  by_cases ha : askE g root page bf = 0
  · obtain ⟨p0, p1, hb, hg⟩ := ask_range ha
    rw [if_pos ha] at eS
    rw [ha] at CA
    subst hb
    obtain ⟨x2, hx2⟩ : ∃ x2, qryB B.n c g root page = x2 := ⟨_, rfl⟩
    obtain ⟨qp, qv, qc, qf, hQ⟩ : ∃ p v cc fr, qryE B.n c g root page = ⟨p, v, cc, fr⟩ := ⟨_, _, _, _, rfl⟩
    rw [hx2, hQ] at CQ
    cases x2 with
    | false =>
      have e4 : setE B.n c g root page ⟨p, v, cc, fr⟩ = 4 := by rw [eS, hx2]; rfl
      rw [e4, if_neg (by decide)] at eC
      rw [e4, eC]
      unfold Ent.val at CF CQ ⊢
      dsimp only at CF CQ ⊢
      replace CF := Lib.hid CF
      replace CA := Lib.hid CA
      replace CQ := Lib.hid CQ
      replace CG := Lib.hid CG
      replace CP := Lib.hid CP
      replace hbf := Lib.hid hbf
      replace eS := Lib.hid eS
      replace eC := Lib.hid eC
      replace KW := Lib.hid KW
      replace EE := Lib.hid EE
      replace hW := Lib.hid hW
      replace G := Lib.hid G
      replace H := Lib.hid H
      replace X := Lib.hid X
      replace hw := Lib.hid hw
      replace ha := Lib.hid ha
      replace hg := Lib.hid hg
      replace hx2 := Lib.hid hx2
      replace hQ := Lib.hid hQ
      replace e4 := Lib.hid e4
      go_enter Tryd.func48, Tryd.ntmps48
      go_wp2_with fail
      rw [← hW.out]
      refine Calls.mono (CF.out _ KW.out) ?_
      rintro r w1 ⟨rfl, K1⟩
      have Ka := KW.out.then K1
      replace K1 := Lib.hid K1
      replace Ka := Lib.hid Ka
      go_wp2_with fail
      refine Calls.mono (CA.out _ Ka.out) ?_
      rintro r w2 ⟨rfl, rfl⟩
      go_wp2_with fail
      refine Calls.mono (CQ.out _ Ka.out) ?_
      rintro r w3 ⟨rfl, K3⟩
      have Kb := (Ka.out.then K3).alloc (.cells #[.bool qp, .bool qv, .bool qc, .int .i64 qf] 69)
      replace K3 := Lib.hid K3
      replace Kb := Lib.hid Kb
      go_wp2_with fail
      go_ret
      exact ⟨rfl, X.out.next G.out Kb.out, Kb.out.nob⟩
    | true =>
      have e4 : setE B.n c g root page ⟨p, v, cc, fr⟩ = 0 := by rw [eS, hx2]; rfl
      rw [e4, if_pos rfl] at eC
      rw [e4, eC]
      have eT : tabE B.n c root page = getE B.n c root (page / 32) := rfl
      rw [eT] at CP ⊢
      obtain ⟨tp, tv, tc, tf, hE⟩ : ∃ p v cc fr, getE B.n c root (page / 32) = ⟨p, v, cc, fr⟩ := ⟨_, _, _, _, rfl⟩
      rw [hE] at CG CP ⊢
      obtain ⟨c9, hc9⟩ : ∃ c9, putC B.n c tf (page % 32) ⟨p, v, cc, fr⟩ = c9 := ⟨_, rfl⟩
      dsimp only at CP ⊢
      rw [hc9] at CP ⊢
      unfold Ent.val at CF CQ CG CP ⊢
      dsimp only at CF CQ CG CP ⊢
      replace CF := Lib.hid CF
      replace CA := Lib.hid CA
      replace CQ := Lib.hid CQ
      replace CG := Lib.hid CG
      replace CP := Lib.hid CP
      replace hbf := Lib.hid hbf
      replace eS := Lib.hid eS
      replace eC := Lib.hid eC
      replace KW := Lib.hid KW
      replace EE := Lib.hid EE
      replace hW := Lib.hid hW
      replace G := Lib.hid G
      replace H := Lib.hid H
      replace X := Lib.hid X
      replace hw := Lib.hid hw
      replace ha := Lib.hid ha
      replace hg := Lib.hid hg
      replace hx2 := Lib.hid hx2
      replace hQ := Lib.hid hQ
      replace e4 := Lib.hid e4
      replace hE := Lib.hid hE
      replace eT := Lib.hid eT
      replace hc9 := Lib.hid hc9
      go_enter Tryd.func48, Tryd.ntmps48
      go_wp2_with fail
      rw [← hW.out]
      refine Calls.mono (CF.out _ KW.out) ?_
      rintro r w1 ⟨rfl, K1⟩
      have Ka := KW.out.then K1
      have EA := EE.out.next K1
      replace K1 := Lib.hid K1
      replace Ka := Lib.hid Ka
      replace EA := Lib.hid EA
      go_wp2_with fail
      refine Calls.mono (CA.out _ Ka.out) ?_
      rintro r w2 ⟨rfl, rfl⟩
      go_wp2_with fail
      refine Calls.mono (CQ.out _ Ka.out) ?_
      rintro r w3 ⟨rfl, K3⟩
      have Kb := (Ka.out.then K3).alloc (.cells #[.bool qp, .bool qv, .bool qc, .int .i64 qf] 69)
      have EB := (EA.out.next K3).next ((Keep.refl nob w3).alloc (.cells #[.bool qp, .bool qv, .bool qc, .int .i64 qf] 69))
      replace K3 := Lib.hid K3
      obtain ⟨W4, hW4⟩ : ∃ W4, W4 = w3.alloc (.cells #[.bool qp, .bool qv, .bool qc, .int .i64 qf] 69) := ⟨_, rfl⟩
      rw [← hW4] at Kb EB
      obtain ⟨d0, d1, d2, d3, -, -, -, -⟩ := EB
      have ed : ∀ p, W4.drew.cell? p = W4.cell? p := fun p => rfl
      have Kd : Keep nob w W4.drew := Kb.drew
      replace Kb := Lib.hid Kb
      replace hW4 := Lib.hid hW4
      replace ed := Lib.hid ed
      replace Kd := Lib.hid Kd
      go_wp2_with fail
      rw [← hW4.out]
      have d32 : Int.tdiv page 32 = page / 32 := Int.tdiv_eq_ediv_of_nonneg p0
      have m32 : Int.tmod page 32 = page % 32 := Int.tmod_eq_emod_of_nonneg p0
      have wq32 : IntKind.i64.wrap (page / 32) = page / 32 := IntWalk.i64_in _ (by omega)
      have wm32 : IntKind.i64.wrap (page % 32) = page % 32 := IntWalk.i64_in _ (by omega)
      have fl3 := field3
      (go_region_held3 (fun w' => w'.cell? ⟨w.heap.size, 0, none⟩ = some (.bool p) ∧ w'.cell? ⟨w.heap.size, 1, none⟩ = some (.bool v) ∧ w'.cell? ⟨w.heap.size, 2, none⟩ = some (.bool cc) ∧ w'.cell? ⟨w.heap.size, 3, none⟩ = some (.int .i64 fr)) (first | go_keep | exact ⟨y0, y1, y2, y3⟩ | exact ⟨x0, x1, x2, x3⟩) (first | (go_at_call 74; (with_reducible refine Calls.mono (CG.out _ Kd.out) ?_); rintro r w5 ⟨rfl, K5⟩; have y0 := K5.some ((ed.out _).trans d0) (fun x => x); have y1 := K5.some ((ed.out _).trans d1) (fun x => x); have y2 := K5.some ((ed.out _).trans d2) (fun x => x); have y3 := K5.some ((ed.out _).trans d3) (fun x => x); replace K5 := Lib.hid K5) | (go_at_call 75; (with_reducible refine Calls.mono (CP.out _ (Kd.out.then K5.out)) ?_); rintro r w6 ⟨rfl, X6, K6⟩; have bl := (EE.out.lt); have nm : ¬ only B.mf w.heap.size := (fun e => by have e : w.heap.size = B.mf := e; have := X.out.P.mem.flt; omega); have x0 := K6.some y0 nm; have x1 := K6.some y1 nm; have x2 := K6.some y2 nm; have x3 := K6.some y3 nm; replace X6 := Lib.hid X6; replace K6 := Lib.hid K6; clear nm bl)))
      go_wp2_with fail
      go_ret
      exact ⟨rfl, X6.out, ((Kd.out.then K5.out).nob (S := only B.mf)).trans K6.out (fun _ _ e => e)⟩
  · rw [if_neg ha] at eS
    have ne : setE B.n c g root page ⟨p, v, cc, fr⟩ ≠ 0 := by rw [eS]; exact ha
    rw [if_neg ne] at eC
    rw [eC, eS]
    obtain ⟨x, hx⟩ : ∃ x, askE g root page bf = x := ⟨_, rfl⟩
    rw [hx] at CA ha ⊢
    have t1 : (x != 0) = true := by simpa using ha
    unfold Ent.val at CF ⊢
    dsimp only at CF ⊢
    replace CF := Lib.hid CF
    replace CA := Lib.hid CA
    replace CQ := Lib.hid CQ
    replace CG := Lib.hid CG
    replace CP := Lib.hid CP
    replace hbf := Lib.hid hbf
    replace eS := Lib.hid eS
    replace eC := Lib.hid eC
    replace KW := Lib.hid KW
    replace EE := Lib.hid EE
    replace hW := Lib.hid hW
    replace G := Lib.hid G
    replace H := Lib.hid H
    replace X := Lib.hid X
    replace hw := Lib.hid hw
    replace ha := Lib.hid ha
    replace hx := Lib.hid hx
    replace ne := Lib.hid ne
    go_enter Tryd.func48, Tryd.ntmps48
    go_wp2_with fail
    rw [← hW.out]
    refine Calls.mono (CF.out _ KW.out) ?_
    rintro r w1 ⟨rfl, K1⟩
    have Ka := KW.out.then K1
    replace K1 := Lib.hid K1
    replace Ka := Lib.hid Ka
    go_wp2_with fail
    refine Calls.mono (CA.out _ Ka.out) ?_
    rintro r w2 ⟨rfl, rfl⟩
    go_wp2_with fail
    go_ret
    exact ⟨rfl, X.out.next G.out Ka.out, Ka.out.nob⟩
end Go.Proofs.YtepmljcapobodaaDoor
