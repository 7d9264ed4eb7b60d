/- Of package ptable: Unmap. -/
import Derived.Test.YtepmljcapobodaaDoorPt4
import Derived.Test.YtepmljcapobodaaDoorPtAll
namespace Go.Proofs.YtepmljcapobodaaDoor
open Go.RowKit
set_option linter.unusedVariables false
set_option maxRecDepth 100000
theorem getE_words {n : Nat} {c : Nat → Int} {table k : Nat} (h : table < n) (hk : k < 32) : getE n c table k = getR ((words c table).getD k 0) := by
  unfold getE
  rw [if_pos ⟨by omega, by omega, by omega, by omega⟩, List.getD_eq_getElem?_getD, words_get c table k hk, Int.toNat_natCast, Int.toNat_natCast]
  rfl
/-- All tables of a root are frames. -/
theorem tab_in {n : Nat} {c : Nat → Int} {g : Int → Int} {root page : Int} (hR : RootsIn n g) (hT : g root ≠ 0 → TabsIn n c root.toNat) (hg : g root ≠ 0) (h0 : 0 ≤ page) (h1 : page < 1024) (hp : (tabE n c root page).p = true) : 0 ≤ (tabE n c root page).f ∧ (tabE n c root page).f < n := by
  obtain ⟨r0, r1⟩ := hR root hg
  have t := hT hg (page / 32).toNat (by omega)
  have e : tabE n c root page = getR ((words c root.toNat).getD (page / 32).toNat 0) := by
    unfold tabE
    rw [← getE_words (n := n) (by omega) (by omega)]
    congr 1 <;> omega
  rw [← e] at t
  have := t hp
  exact ⟨this.1, this.2.1⟩
def unmOk (n : Nat) (c : Nat → Int) (g : Int → Int) (root page : Int) : Prop := askE g root page true = 0 ∧ qryB n c g root page = true
instance (n : Nat) (c : Nat → Int) (g : Int → Int) (root page : Int) : Decidable (unmOk n c g root page) := by unfold unmOk; exact inferInstance
def unmE (n : Nat) (c : Nat → Int) (g : Int → Int) (root page : Int) : Int := if askE g root page true = 0 then (if qryB n c g root page then 0 else 4) else askE g root page true
def unmV (n : Nat) (c : Nat → Int) (g : Int → Int) (root page : Int) : Ent := if unmOk n c g root page then qryE n c g root page else Ent.zero
/-- The words behind the page's entry is struck. -/
def unmC1 (n : Nat) (c : Nat → Int) (root page : Int) : Nat → Int := putC n c (tabE n c root page).f (page % 32) Ent.zero
def unmLast (n : Nat) (c : Nat → Int) (root page : Int) : Bool := (presL (words (unmC1 n c root page) (tabE n c root page).f.toNat) 32).isEmpty
def unmC (n : Nat) (c : Nat → Int) (g : Int → Int) (root page : Int) : Nat → Int := if unmOk n c g root page then (if unmLast n c root page then putC n (unmC1 n c root page) root (page / 32) Ent.zero else unmC1 n c root page) else c
noncomputable def unmF (B : PB) (c : Nat → Int) (f g : Int → Int) (root page : Int) : Int → Int := if unmOk B.n c g root page ∧ unmLast B.n c root page = true then freF B f (tabE B.n c root page).f else f
set_option maxHeartbeats 3200000 in
theorem tunmap {w : World} {A : MB} {B : PB} {c : Nat → Int} {f g : Int → Int} {q : Nat} (G : Geo B) (R : RefsOk B f) (H : MGeo A B) (X : PtAt w A B c f g q) (hq : q < 4611686018427387904) (hR : RootsIn B.n g) (root page : Int) (hT : g root ≠ 0 → TabsIn B.n c root.toNat) (hw : wfI root) :
    Calls Tryd.prog 39 #[.pointer (some ⟨A.t, 0, none⟩), .int .i64 root, .int .i64 page] w fun r w' => r = .returned (.tuple #[(unmV B.n c g root page).val, .int .i64 (unmE B.n c g root page)]) ∧ PtAt w' A B (unmC B.n c g root page) (unmF B c f g root page) g (q + 1) ∧ Keep (own B) w w' := by
  have CA := fun W' (k : Keep nob w W') => asked_ok' (X.next G k).M root page true hw
  have CQ := fun W' (k : Keep nob w W') => query_ok G (X.next G k) root page hw
  have CG := fun W' (k : Keep nob w W') => tget (X.next G k) root (page / 32)
  obtain ⟨W, hW⟩ : ∃ W, W = w.alloc (.cells #[.bool false, .bool false, .bool false, .int .i64 0] 69) := ⟨_, rfl⟩
  have KW : Keep nob w W := by rw [hW]; exact (Keep.refl _ _).alloc _
  have E0 : EntAt W w.heap.size false false false 0 := by rw [hW]; exact EntAt.new _ _ _ _ _ _
  have nbR : ¬ own B w.heap.size := fun h => Nat.lt_irrefl _ (X.O _ h)
  by_cases ha : askE g root page true = 0
  · obtain ⟨p0, p1, -, hg⟩ := ask_range ha
    rw [ha] at CA
    obtain ⟨qp, qv, qc, qf, hQ⟩ : ∃ p v cc fr, qryE B.n c g root page = ⟨p, v, cc, fr⟩ := ⟨_, _, _, _, rfl⟩
    obtain ⟨x2, hx2⟩ : ∃ x2, qryB B.n c g root page = x2 := ⟨_, rfl⟩
    rw [hx2, hQ] at CQ
    cases x2 with
    | false =>
      have no : ¬ unmOk B.n c g root page := fun h => by have := h.2; rw [hx2] at this; cases this
      have e1 : unmE B.n c g root page = 4 := by unfold unmE; rw [if_pos ha, hx2]; rfl
      have e2 : unmV B.n c g root page = Ent.zero := if_neg no
      have e3 : unmC B.n c g root page = c := if_neg no
      have e4 : unmF B c f g root page = f := if_neg (fun h => no h.1)
      rw [e1, e2, e3, e4]
      unfold Ent.val Ent.zero
      unfold Ent.val at CQ
      dsimp only at CQ ⊢
      replace CA := Lib.hid CA
      replace CQ := Lib.hid CQ
      replace CG := Lib.hid CG
      replace KW := Lib.hid KW
      replace E0 := Lib.hid E0
      replace X := Lib.hid X
      replace G := Lib.hid G
      replace H := Lib.hid H
      replace R := Lib.hid R
      replace hw := Lib.hid hw
      replace ha := Lib.hid ha
      replace hg := Lib.hid hg
      replace hQ := Lib.hid hQ
      replace hx2 := Lib.hid hx2
      replace no := Lib.hid no
      replace e1 := Lib.hid e1
      replace e2 := Lib.hid e2
      replace e3 := Lib.hid e3
      replace e4 := Lib.hid e4
      replace hW := Lib.hid hW
      replace hR := Lib.hid hR
      replace hT := Lib.hid hT
      replace nbR := Lib.hid nbR
      go_enter Tryd.func39, Tryd.ntmps39
      go_wp2_with fail
      rw [← hW.out]
      refine Calls.mono (CA.out _ KW.out) ?_
      rintro r w1 ⟨rfl, rfl⟩
      go_wp2_with fail
      refine Calls.mono (CQ.out _ KW.out) ?_
      rintro r w2 ⟨rfl, K2⟩
      have EA := fun o => (E0.out.next K2).next ((Keep.refl nob w2).alloc o)
      have d0 := fun o => (EA o).c0
      have d1 := fun o => (EA o).c1
      have d2 := fun o => (EA o).c2
      have d3 := fun o => (EA o).c3
      have z0 := fun o => (EA o).z0
      have z1 := fun o => (EA o).z1
      have z2 := fun o => (EA o).z2
      have z3 := fun o => (EA o).z3
      have F := fun o p' q' c' f' => (EA o).put (p' := p') (q' := q') (c' := c') (f' := f')
      have K3 := KW.out.then K2
      replace K2 := Lib.hid K2
      replace EA := Lib.hid EA
      replace K3 := Lib.hid K3
      replace F := Lib.hid F
      go_wp2_with fail
      refine bodyPost_ret (results_ent rfl _ _ w.heap.size (F.out _ false false false 0) rfl (.int .i64 4) rfl) rfl ⟨rfl, ?_⟩
      have KF : Keep nob w ((((w2.alloc (.cells #[.bool qp, .bool qv, .bool qc, .int .i64 qf] 69)).setCell ⟨w.heap.size, 0, none⟩ (.bool false)).setCell ⟨w.heap.size, 1, none⟩ (.bool false)).setCell ⟨w.heap.size, 2, none⟩ (.bool false) |>.setCell ⟨w.heap.size, 3, none⟩ (.int .i64 0)) := by
        repeat (refine Keep.setCell ?_ _ (Or.inl (Nat.le_refl _)))
        exact K3.out.alloc _
      exact ⟨(X.out.next G.out KF).mono (Nat.le_succ _), KF.nob⟩
    | true =>
      have ok : unmOk B.n c g root page := ⟨ha, hx2⟩
      have e1 : unmE B.n c g root page = 0 := by unfold unmE; rw [if_pos ha, hx2]; rfl
      have e2 : unmV B.n c g root page = ⟨qp, qv, qc, qf⟩ := (if_pos ok).trans hQ
      have htp : (tabE B.n c root page).p = true := by
        by_cases hh : (tabE B.n c root page).p = true
        · exact hh
        · have e : qryE B.n c g root page = Ent.zero := if_neg (fun h => hh h.2)
          have e' : qryB B.n c g root page = false := by unfold qryB; rw [e]; rfl
          rw [hx2] at e'
          cases e'
      obtain ⟨f0, f1⟩ := tab_in hR hT hg p0 p1 htp
      have eT : tabE B.n c root page = getE B.n c root (page / 32) := rfl
      obtain ⟨tp, tv, tc, tf, hE⟩ : ∃ p v cc fr, getE B.n c root (page / 32) = ⟨p, v, cc, fr⟩ := ⟨_, _, _, _, rfl⟩
      rw [eT, hE] at f0 f1
      dsimp only at f0 f1
      have e5 : unmC1 B.n c root page = putC B.n c tf (page % 32) Ent.zero := by unfold unmC1; rw [eT, hE]
      obtain ⟨c1, hc1⟩ : ∃ c1, unmC1 B.n c root page = c1 := ⟨_, rfl⟩
      have CP := fun W' (k : Keep nob w W') => tput G H (X.next G k) tf (page % 32) Ent.zero
      rw [← e5, hc1] at CP
      have CP2 := fun W' (X' : PtAt W' A B c1 f g q) => tput G H X' root (page / 32) Ent.zero
      rw [hE] at CG
      obtain ⟨lb, hl⟩ : ∃ lb, (presL (words c1 tf.toNat) 32).isEmpty = lb := ⟨_, rfl⟩
      have CE := fun W' (X' : PtAt W' A B c1 f g q) => empty_ok G X' tf f0 f1
      have e6 : unmLast B.n c root page = lb := by unfold unmLast; rw [hc1, eT, hE]; exact hl
      rw [hl] at CE
      obtain ⟨c2, hc2⟩ : ∃ c2, putC B.n c1 root (page / 32) Ent.zero = c2 := ⟨_, rfl⟩
      rw [hc2] at CP2
      obtain ⟨cF, hcF⟩ : ∃ cF, unmC B.n c g root page = cF := ⟨_, rfl⟩
      obtain ⟨fF, hfF⟩ : ∃ fF, unmF B c f g root page = fF := ⟨_, rfl⟩
      have eC : cF = if lb then c2 else c1 := by rw [← hcF]; unfold unmC; rw [if_pos ok, e6, hc1, hc2]
      have eF : fF = if lb then freF B f tf else f := by
        rw [← hfF]
        unfold unmF
        rw [e6, eT, hE]
        cases lb with
        | true => exact if_pos ⟨ok, rfl⟩
        | false => exact if_neg (fun h => by cases h.2)
      have CF := fun W' (X' : PtAt W' A B c2 f g q) => free_any G R X'.P hq tf (by have := G.n; unfold wfI; omega)
      obtain ⟨fe, hfe⟩ : ∃ fe, freE B f tf = fe := ⟨_, rfl⟩
      rw [hfe] at CF
      rw [hcF, hfF, e1, e2]
      have bt := World.block_lt_of_cell? _ _ X.M.tm
      have brt : A.rt < w.heap.size := X.M.map.blt
      have bb : B.b < w.heap.size := World.block_lt_of_cell? _ _ X.P.mem.ptr
      have bO := X.O
      have bmf : ¬ only B.mf w.heap.size := fun e => nbR (mf_own _ e)
      unfold Ent.val at CQ CG CP CP2 ⊢
      unfold Ent.zero at CP CP2
      dsimp only at CQ CG CP CP2 ⊢
      replace CA := Lib.hid CA
      replace CQ := Lib.hid CQ
      replace CG := Lib.hid CG
      replace KW := Lib.hid KW
      replace E0 := Lib.hid E0
      replace X := Lib.hid X
      replace G := Lib.hid G
      replace H := Lib.hid H
      replace R := Lib.hid R
      replace hw := Lib.hid hw
      replace ha := Lib.hid ha
      replace hg := Lib.hid hg
      replace hQ := Lib.hid hQ
      replace hx2 := Lib.hid hx2
      replace ok := Lib.hid ok
      replace e1 := Lib.hid e1
      replace e2 := Lib.hid e2
      replace htp := Lib.hid htp
      replace f0 := Lib.hid f0
      replace f1 := Lib.hid f1
      replace eT := Lib.hid eT
      replace hE := Lib.hid hE
      replace e5 := Lib.hid e5
      replace hc1 := Lib.hid hc1
      replace CP := Lib.hid CP
      replace CP2 := Lib.hid CP2
      replace hl := Lib.hid hl
      replace CE := Lib.hid CE
      replace e6 := Lib.hid e6
      replace hc2 := Lib.hid hc2
      replace hcF := Lib.hid hcF
      replace hfF := Lib.hid hfF
      replace eC := Lib.hid eC
      replace eF := Lib.hid eF
      replace CF := Lib.hid CF
      replace hfe := Lib.hid hfe
      replace hW := Lib.hid hW
      replace hR := Lib.hid hR
      replace hT := Lib.hid hT
      replace nbR := Lib.hid nbR
      replace bt := Lib.hid bt
      replace brt := Lib.hid brt
      replace bb := Lib.hid bb
      replace bO := Lib.hid bO
      replace bmf := Lib.hid bmf
      have fl3 := field3
      go_enter Tryd.func39, Tryd.ntmps39
      go_wp2_with fail
      rw [← hW.out]
      refine Calls.mono (CA.out _ KW.out) ?_
      rintro r w1 ⟨rfl, rfl⟩
      go_wp2_with fail
      refine Calls.mono (CQ.out _ KW.out) ?_
      rintro r w2 ⟨rfl, K2⟩
      have Ka := (KW.out.then K2).alloc (.cells #[.bool qp, .bool qv, .bool qc, .int .i64 qf] 69)
      have E2 := (E0.out.next K2).next ((Keep.refl nob w2).alloc (.cells #[.bool qp, .bool qv, .bool qc, .int .i64 qf] 69))
      have EE := EntAt.new w2 qp qv qc qf 69
      have l2 : w.heap.size < w2.heap.size := (E0.out.next K2).lt
      obtain ⟨W4, hW4⟩ : ∃ W4, W4 = w2.alloc (.cells #[.bool qp, .bool qv, .bool qc, .int .i64 qf] 69) := ⟨_, rfl⟩
      rw [← hW4] at Ka E2 EE
      replace K2 := Lib.hid K2
      replace Ka := Lib.hid Ka
      replace E2 := Lib.hid E2
      replace EE := Lib.hid EE
      replace hW4 := Lib.hid hW4
      replace l2 := Lib.hid l2
      go_wp2_with fail
      rw [← hW4.out]
      refine Calls.mono (CG.out _ Ka.out) ?_
      rintro r w5 ⟨rfl, K5⟩
      have Kb := Ka.out.then K5
      replace K5 := Lib.hid K5
      replace Kb := Lib.hid Kb
      go_wp2_with fail
      refine Calls.mono (CP.out _ Kb.out) ?_
      rintro r w6 ⟨rfl, X6, K6⟩
      replace X6 := Lib.hid X6
      replace K6 := Lib.hid K6
      go_wp2_with fail
      refine Calls.mono (CE.out _ X6.out) ?_
      rintro r w7 ⟨rfl, K7⟩
      have nb2 : ¬ own B w2.heap.size := fun h => by have := bO.out _ h; have := l2.out; omega
      have nm2 : ¬ only B.mf w2.heap.size := fun e => nb2 (mf_own _ e)
      have E7 := ((E2.out.next K5.out).keep K6.out bmf.out).next K7
      have EE7 := ((EE.out.next K5.out).keep K6.out nm2).next K7
      have X7 := X6.out.next G.out K7
      have K70 := ((Kb.out.nob (S := own B)).trans K6.out (fun k _ e => mf_own k e)).then K7
      cases lb with
      | false =>
        obtain rfl : cF = c1 := eC.out
        obtain rfl : fF = f := eF.out
        obtain ⟨d0, d1, d2, d3, z0, z1, z2, z3⟩ := id E7
        obtain ⟨f0, f1, f2, f3, -, -, -, -⟩ := EE7
        have F := fun p' q' c' f' => E7.put (p' := p') (q' := q') (c' := c') (f' := f')
        replace K7 := Lib.hid K7
        replace F := Lib.hid F
        replace E7 := Lib.hid E7
        replace X7 := Lib.hid X7
        replace K70 := Lib.hid K70
        replace nb2 := Lib.hid nb2
        replace nm2 := Lib.hid nm2
        go_wp2_with fail
        refine bodyPost_ret (results_ent rfl _ _ w.heap.size (F.out qp qv qc qf) rfl (.int .i64 0) rfl) rfl ⟨rfl, ?_⟩
        have K8 : Keep (only w.heap.size) w7 ((((w7.setCell ⟨w.heap.size, 0, none⟩ (.bool qp)).setCell ⟨w.heap.size, 1, none⟩ (.bool qv)).setCell ⟨w.heap.size, 2, none⟩ (.bool qc)).setCell ⟨w.heap.size, 3, none⟩ (.int .i64 qf)) := by
          repeat (refine Keep.setCell ?_ _ (Or.inr rfl))
          exact Keep.refl _ _
        refine ⟨(X7.out.keep G.out K8 (fun e => Nat.ne_of_lt bb.out e) (fun x h e => nbR.out (by have e : x = w.heap.size := e; rw [← e]; exact h)) (fun e => Nat.ne_of_lt bt.out e) (fun e => Nat.ne_of_lt brt.out e)).mono (Nat.le_succ _), ?_⟩
        repeat (refine Keep.setCell ?_ _ (Or.inl (Nat.le_refl _)))
        exact K70.out
      | true =>
        obtain rfl : cF = c2 := eC.out
        obtain rfl : fF = freF B f tf := eF.out
        replace K7 := Lib.hid K7
        replace E7 := Lib.hid E7
        replace EE7 := Lib.hid EE7
        replace X7 := Lib.hid X7
        replace K70 := Lib.hid K70
        replace nb2 := Lib.hid nb2
        replace nm2 := Lib.hid nm2
        go_wp2_with fail
        refine Calls.mono (CP2.out _ X7.out) ?_
        rintro r w8 ⟨rfl, X8, K8⟩
        have y1 := X8.M.tp
        replace X8 := Lib.hid X8
        replace K8 := Lib.hid K8
        go_wp2_with fail
        refine Calls.mono (CF.out _ X8.out) ?_
        rintro r w9 ⟨rfl, P9, K9⟩
        have E9 := (E7.out.keep K8.out bmf.out).keep K9 nbR.out
        have EE9 := (EE7.out.keep K8.out nm2.out).keep K9 nb2.out
        have X9 : PtAt w9 A B cF (freF B f tf) g (q + 1) := ⟨P9, (X8.out.M.pool H.out K9).mono (Nat.le_succ _), X8.out.grow K9⟩
        have K90 := (K70.out.trans K8.out (fun k _ e => mf_own k e)).trans K9 (fun _ _ e => e)
        obtain ⟨d0, d1, d2, d3, z0, z1, z2, z3⟩ := id E9
        obtain ⟨f0, f1, f2, f3, -, -, -, -⟩ := EE9
        have F := fun p' q' c' f' => E9.put (p' := p') (q' := q') (c' := c') (f' := f')
        replace P9 := Lib.hid P9
        replace K9 := Lib.hid K9
        replace F := Lib.hid F
        replace E9 := Lib.hid E9
        replace X9 := Lib.hid X9
        replace K90 := Lib.hid K90
        clear y1
        go_wp2_with fail
        refine bodyPost_ret (results_ent rfl _ _ w.heap.size (F.out qp qv qc qf) rfl (.int .i64 0) rfl) rfl ⟨rfl, ?_⟩
        have KL : Keep (only w.heap.size) w9 ((((w9.setCell ⟨w.heap.size, 0, none⟩ (.bool qp)).setCell ⟨w.heap.size, 1, none⟩ (.bool qv)).setCell ⟨w.heap.size, 2, none⟩ (.bool qc)).setCell ⟨w.heap.size, 3, none⟩ (.int .i64 qf)) := by
          repeat (refine Keep.setCell ?_ _ (Or.inr rfl))
          exact Keep.refl _ _
        refine ⟨X9.out.keep G.out KL (fun e => Nat.ne_of_lt bb.out e) (fun x h e => nbR.out (by have e : x = w.heap.size := e; rw [← e]; exact h)) (fun e => Nat.ne_of_lt bt.out e) (fun e => Nat.ne_of_lt brt.out e), ?_⟩
        repeat (refine Keep.setCell ?_ _ (Or.inl (Nat.le_refl _)))
        exact K90.out
  · have no : ¬ unmOk B.n c g root page := fun h => ha h.1
    have e1 : unmE B.n c g root page = askE g root page true := if_neg ha
    have e2 : unmV B.n c g root page = Ent.zero := if_neg no
    have e3 : unmC B.n c g root page = c := if_neg no
    have e4 : unmF B c f g root page = f := if_neg (fun h => no h.1)
    rw [e1, e2, e3, e4]
    obtain ⟨x, hx⟩ : ∃ x, askE g root page true = x := ⟨_, rfl⟩
    rw [hx] at CA ha ⊢
    have t1 : (x != 0) = true := by simpa using ha
    unfold Ent.val Ent.zero
    dsimp only
    replace CA := Lib.hid CA
    replace CQ := Lib.hid CQ
    replace CG := Lib.hid CG
    replace KW := Lib.hid KW
    replace E0 := Lib.hid E0
    replace X := Lib.hid X
    replace G := Lib.hid G
    replace H := Lib.hid H
    replace R := Lib.hid R
    replace hw := Lib.hid hw
    replace ha := Lib.hid ha
    replace hx := Lib.hid hx
    replace no := Lib.hid no
    replace e1 := Lib.hid e1
    replace e2 := Lib.hid e2
    replace e3 := Lib.hid e3
    replace e4 := Lib.hid e4
    replace hW := Lib.hid hW
    replace hR := Lib.hid hR
    replace hT := Lib.hid hT
    replace nbR := Lib.hid nbR
    go_enter Tryd.func39, Tryd.ntmps39
    go_wp2_with fail
    rw [← hW.out]
    refine Calls.mono (CA.out _ KW.out) ?_
    rintro r w1 ⟨rfl, rfl⟩
    obtain ⟨d0, d1, d2, d3, z0, z1, z2, z3⟩ := E0.out
    have F := fun p' q' c' f' => E0.out.put (p' := p') (q' := q') (c' := c') (f' := f')
    replace F := Lib.hid F
    go_wp2_with fail
    refine bodyPost_ret (results_ent rfl _ _ w.heap.size (F.out false false false 0) rfl (.int .i64 x) rfl) rfl ⟨rfl, ?_⟩
    have KF : Keep nob w ((((W.setCell ⟨w.heap.size, 0, none⟩ (.bool false)).setCell ⟨w.heap.size, 1, none⟩ (.bool false)).setCell ⟨w.heap.size, 2, none⟩ (.bool false)).setCell ⟨w.heap.size, 3, none⟩ (.int .i64 0)) := by
      repeat (refine Keep.setCell ?_ _ (Or.inl (Nat.le_refl _)))
      exact KW.out
    exact ⟨(X.out.next G.out KF).mono (Nat.le_succ _), KF.nob⟩
end Go.Proofs.YtepmljcapobodaaDoor
