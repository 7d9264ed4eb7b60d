/- Of package ptable: Map. -/
import Derived.Test.YtepmljcapobodaaDoorPt5
namespace Go.Proofs.YtepmljcapobodaaDoor
open Go.RowKit
set_option linter.unusedVariables false
set_option maxRecDepth 100000
theorem field0 (a b c : Bool) (f : Int) (w : World) : (Instr.field 69 (.agg #[.bool a, .bool b, .bool c, .int .i64 f]) 0).run Tryd.prog w = .ok (.bool a) w := by kernel_rfl
/-- Map's table: what stands against it, its frame, the words and the counts then. -/
noncomputable def mtE (B : PB) (c : Nat → Int) (f : Int → Int) (part root page : Int) : Int := if (tabE B.n c root page).p then 0 else (allE B f part).2
noncomputable def mtF (B : PB) (c : Nat → Int) (f : Int → Int) (part root page : Int) : Int := if (tabE B.n c root page).p then (tabE B.n c root page).f else (allE B f part).1
noncomputable def mtC (B : PB) (c : Nat → Int) (f : Int → Int) (part root page : Int) : Nat → Int := if (tabE B.n c root page).p then c else if (allE B f part).2 = 0 then putC B.n (allC B f part c) root (page / 32) ⟨true, true, false, (allE B f part).1⟩ else allC B f part c
noncomputable def mtP (B : PB) (c : Nat → Int) (f : Int → Int) (part root page : Int) : Int → Int := if (tabE B.n c root page).p then f else allF B f part
noncomputable def mapThere (B : PB) (c : Nat → Int) (f : Int → Int) (part root page : Int) : Bool := (getE B.n (mtC B c f part root page) (mtF B c f part root page) (page % 32)).p
noncomputable def mapE (B : PB) (c : Nat → Int) (f g : Int → Int) (part root page : Int) (e : Ent) : Int := if askE g root page (fitB B.n e) = 0 then (if mtE B c f part root page = 0 then (if mapThere B c f part root page then 5 else 0) else mtE B c f part root page) else askE g root page (fitB B.n e)
noncomputable def mapC (B : PB) (c : Nat → Int) (f g : Int → Int) (part root page : Int) (e : Ent) : Nat → Int := if askE g root page (fitB B.n e) = 0 then (if mtE B c f part root page = 0 then (if mapThere B c f part root page then mtC B c f part root page else putC B.n (mtC B c f part root page) (mtF B c f part root page) (page % 32) e) else mtC B c f part root page) else c
noncomputable def mapF (B : PB) (c : Nat → Int) (f g : Int → Int) (part root page : Int) (e : Ent) : Int → Int := if askE g root page (fitB B.n e) = 0 then mtP B c f part root page else f
set_option maxHeartbeats 3200000 in
theorem tmap {w : World} {A : MB} {B : PB} {c : Nat → Int} {f g : Int → Int} {q : Nat} (hTab : TabAt 0 Lib.deBruijn64tab w) (G : Geo B) (H : MGeo A B) (X : PtAt w A B c f g q) (hq : q < 4611686018427387904) (root page : Int) (hw : wfI root) (e : Ent) :
    Calls Tryd.prog 35 #[.pointer (some ⟨A.t, 0, none⟩), .int .i64 root, .int .i64 page, e.val] w fun r w' => r = .returned (.int .i64 (mapE B c f g A.part root page e)) ∧ PtAt w' A B (mapC B c f g A.part root page e) (mapF B c f g A.part root page e) g (q + 1) ∧ Keep (own B) w w' := by
  have CF := fun W' (k : Keep nob w W') => tfits (X.next G k) e
  have CA := fun W' (k : Keep nob w W') => asked_ok' (X.next G k).M root page (fitB B.n e) hw
  have CG := fun W' (k : Keep nob w W') => tget (X.next G k) root (page / 32)
  obtain ⟨bf, hbf⟩ : ∃ bf, fitB B.n e = bf := ⟨_, rfl⟩
  unfold mapE mapC mapF
  rw [hbf] at CF CA ⊢
  obtain ⟨p, v, cc, fr⟩ := e
  obtain ⟨W, hW⟩ : ∃ W, W = w.alloc (.cells #[.bool p, .bool v, .bool cc, .int .i64 fr] 69) := ⟨_, rfl⟩
  have KW : Keep nob w W := by rw [hW]; exact (Keep.refl _ _).alloc _
  have EE : EntAt W w.heap.size p v cc fr := by rw [hW]; exact EntAt.new _ _ _ _ _ _
  have fl0 := field0
  by_cases ha : askE g root page bf = 0
  · obtain ⟨p0, p1, hb, hg⟩ := ask_range ha
    subst hb
    rw [if_pos ha, if_pos ha, if_pos ha]
    rw [ha] at CA
    obtain ⟨tp, tv, tc, tf, hE⟩ : ∃ p v cc fr, tabE B.n c root page = ⟨p, v, cc, fr⟩ := ⟨_, _, _, _, rfl⟩
    have eT : getE B.n c root (page / 32) = ⟨tp, tv, tc, tf⟩ := hE
    rw [eT] at CG
    cases tp with
    | true =>
      have m1 : mtE B c f A.part root page = 0 := by unfold mtE; rw [hE]; rfl
      have m2 : mtF B c f A.part root page = tf := by unfold mtF; rw [hE]; rfl
      have m3 : mtC B c f A.part root page = c := by unfold mtC; rw [hE]; rfl
      have m4 : mtP B c f A.part root page = f := by unfold mtP; rw [hE]; rfl
      obtain ⟨b5, v5, c5, f5, h5⟩ : ∃ p v cc fr, getE B.n c tf (page % 32) = ⟨p, v, cc, fr⟩ := ⟨_, _, _, _, rfl⟩
      have m5 : mapThere B c f A.part root page = b5 := by unfold mapThere; rw [m3, m2, h5]
      rw [if_pos m1, if_pos m1, m4, m5, m3, m2]
      have CG2 := fun W' (k : Keep nob w W') => tget (X.next G k) tf (page % 32)
      rw [h5] at CG2
      have CP := fun W' (X' : PtAt W' A B c f g q) => tput G H X' tf (page % 32) ⟨p, v, cc, fr⟩
      obtain ⟨c9, hc9⟩ : ∃ c9, putC B.n c tf (page % 32) ⟨p, v, cc, fr⟩ = c9 := ⟨_, rfl⟩
      rw [hc9] at CP ⊢
      obtain ⟨x9, hx9⟩ : ∃ x9, (if b5 = true then (5 : Int) else 0) = x9 := ⟨_, rfl⟩
      obtain ⟨cF, hcF⟩ : ∃ cF, (if b5 = true then c else c9) = cF := ⟨_, rfl⟩
      rw [hx9, hcF]
      unfold Ent.val at CF CG CG2 CP ⊢
      dsimp only at CF CG CG2 CP ⊢
      have bO := X.O
      have nbR : ¬ own B w.heap.size := fun h => Nat.lt_irrefl _ (X.O _ h)
      replace CF := Lib.hid CF
      replace CA := Lib.hid CA
      replace CG := Lib.hid CG
      replace CG2 := Lib.hid CG2
      replace CP := Lib.hid CP
      replace hbf := Lib.hid hbf
      replace KW := Lib.hid KW
      replace EE := Lib.hid EE
      replace hW := Lib.hid hW
      replace G := Lib.hid G
      replace H := Lib.hid H
      replace X := Lib.hid X
      replace hw := Lib.hid hw
      replace ha := Lib.hid ha
      replace hg := Lib.hid hg
      replace hE := Lib.hid hE
      replace eT := Lib.hid eT
      replace m1 := Lib.hid m1
      replace m2 := Lib.hid m2
      replace m3 := Lib.hid m3
      replace m4 := Lib.hid m4
      replace m5 := Lib.hid m5
      replace h5 := Lib.hid h5
      replace hc9 := Lib.hid hc9
      replace hx9 := Lib.hid hx9
      replace hcF := Lib.hid hcF
      replace hTab := Lib.hid hTab
      replace bO := Lib.hid bO
      replace nbR := Lib.hid nbR
      go_enter Tryd.func35, Tryd.ntmps35
      go_wp2_with fail
      rw [← hW.out]
      obtain ⟨d0, d1, d2, d3, -, -, -, -⟩ := id EE.out
      refine Calls.mono (CF.out _ KW.out) ?_
      rintro r w1 ⟨rfl, K1⟩
      have Ka := KW.out.then K1
      replace K1 := Lib.hid K1
      replace Ka := Lib.hid Ka
      go_wp2_with fail
      refine Calls.mono (CA.out _ Ka.out) ?_
      rintro r w2 ⟨rfl, rfl⟩
      go_wp2_with fail
      refine Calls.mono (CG.out _ Ka.out) ?_
      rintro r w3 ⟨rfl, K3⟩
      obtain ⟨W3, hW3⟩ : ∃ W3, W3 = w3.alloc (.cells #[.bool true, .bool tv, .bool tc, .int .i64 tf] 69) := ⟨_, rfl⟩
      have Kn : Keep nob w3 W3 := by rw [hW3]; exact (Keep.refl nob w3).alloc _
      have ET : EntAt W3 w3.heap.size true tv tc tf := by rw [hW3]; exact EntAt.new _ _ _ _ _ _
      have EB := (((EE.out.next K1.out).next K3).next Kn)
      have Kb := (Ka.out.then K3).then Kn
      clear d0 d1 d2 d3
      obtain ⟨d0, d1, d2, d3, -, -, -, -⟩ := id ET
      obtain ⟨f0, f1, f2, f3, -, -, -, -⟩ := id EB
      replace K3 := Lib.hid K3
      replace Kn := Lib.hid Kn
      replace ET := Lib.hid ET
      replace EB := Lib.hid EB
      replace Kb := Lib.hid Kb
      replace hW3 := Lib.hid hW3
      go_wp2_with fail
      rw [← hW3.out]
      refine Calls.mono (CG2.out _ Kb.out) ?_
      rintro r w4 ⟨rfl, K4⟩
      have ET4 := ET.out.next K4
      have EB4 := EB.out.next K4
      have X4 := X.out.next G.out (Kb.out.then K4)
      have K40 := (Kb.out.then K4).nob (S := own B)
      clear d0 d1 d2 d3 f0 f1 f2 f3
      obtain ⟨d0, d1, d2, d3, -, -, -, -⟩ := id ET4
      obtain ⟨f0, f1, f2, f3, -, -, -, -⟩ := id EB4
      replace K4 := Lib.hid K4
      replace ET4 := Lib.hid ET4
      replace EB4 := Lib.hid EB4
      replace X4 := Lib.hid X4
      replace K40 := Lib.hid K40
      cases b5 with
      | true =>
        obtain rfl : (5 : Int) = x9 := hx9.out
        obtain rfl : c = cF := hcF.out
        go_wp2_with fail
        go_ret
        exact ⟨rfl, X4.out.mono (Nat.le_succ _), K40.out⟩
      | false =>
        obtain rfl : (0 : Int) = x9 := hx9.out
        obtain rfl : c9 = cF := hcF.out
        go_wp2_with fail
        refine Calls.mono (CP.out _ X4.out) ?_
        rintro r w5 ⟨rfl, X5, K5⟩
        replace X5 := Lib.hid X5
        replace K5 := Lib.hid K5
        go_wp2_with fail
        go_ret
        exact ⟨rfl, X5.out.mono (Nat.le_succ _), K40.out.trans K5.out (fun k _ e => mf_own k e)⟩
    | false =>
      have m4 : mtP B c f A.part root page = allF B f A.part := by unfold mtP; rw [hE]; rfl
      have bt := World.block_lt_of_cell? _ _ X.M.tm
      have brt : A.rt < w.heap.size := X.M.map.blt
      have bb : B.b < w.heap.size := World.block_lt_of_cell? _ _ X.P.mem.ptr
      have bO := X.O
      have nbR : ¬ own B w.heap.size := fun h => Nat.lt_irrefl _ (X.O _ h)
      have n1 : ¬ own B A.t := H.t
      have CL := fun W' (k : Keep nob w W') => alloc_any (tab_keep hTab k) G (X.P.next G k) hq A.part
      have c1 := X.M.tp
      have c2 := X.M.ti
      obtain ⟨ek, ee, hL⟩ : ∃ k e, allE B f A.part = (k, e) := ⟨_, _, rfl⟩
      have m1 : mtE B c f A.part root page = ee := by unfold mtE; rw [hE, hL]; rfl
      have m2 : mtF B c f A.part root page = ek := by unfold mtF; rw [hE, hL]; rfl
      obtain ⟨cA, hcA⟩ : ∃ cA, allC B f A.part c = cA := ⟨_, rfl⟩
      obtain ⟨fA, hfA⟩ : ∃ fA, allF B f A.part = fA := ⟨_, rfl⟩
      have m3 : mtC B c f A.part root page = if ee = 0 then putC B.n cA root (page / 32) ⟨true, true, false, ek⟩ else cA := by unfold mtC; rw [hE, hL, hcA]; rfl
      rw [hL, hcA, hfA] at CL
      rw [m4, hfA]
      dsimp only at CL
      by_cases z : ee = 0
      · subst z
        rw [if_pos rfl] at m3
        have CP2 := fun W' (X' : PtAt W' A B cA fA g (q + 1)) => tput G H X' root (page / 32) ⟨true, true, false, ek⟩
        obtain ⟨cM, hcM⟩ : ∃ cM, putC B.n cA root (page / 32) ⟨true, true, false, ek⟩ = cM := ⟨_, rfl⟩
        rw [hcM] at m3 CP2
        obtain ⟨b5, v5, c5, f5, h5⟩ : ∃ p v cc fr, getE B.n cM ek (page % 32) = ⟨p, v, cc, fr⟩ := ⟨_, _, _, _, rfl⟩
        have m5 : mapThere B c f A.part root page = b5 := by unfold mapThere; rw [m3, m2, h5]
        rw [if_pos m1, if_pos m1, m5, m3, m2]
        have CG2 := fun W' (X' : PtAt W' A B cM fA g (q + 1)) => tget X' ek (page % 32)
        rw [h5] at CG2
        have CP := fun W' (X' : PtAt W' A B cM fA g (q + 1)) => tput G H X' ek (page % 32) ⟨p, v, cc, fr⟩
        obtain ⟨c9, hc9⟩ : ∃ c9, putC B.n cM ek (page % 32) ⟨p, v, cc, fr⟩ = c9 := ⟨_, rfl⟩
        rw [hc9] at CP ⊢
        obtain ⟨x9, hx9⟩ : ∃ x9, (if b5 = true then (5 : Int) else 0) = x9 := ⟨_, rfl⟩
        obtain ⟨cF, hcF⟩ : ∃ cF, (if b5 = true then cM else c9) = cF := ⟨_, rfl⟩
        rw [hx9, hcF]
        unfold Ent.val at CF CG CG2 CP CP2 ⊢
        dsimp only at CF CG CG2 CP CP2 ⊢
        replace CF := Lib.hid CF
        replace CA := Lib.hid CA
        replace CG := Lib.hid CG
        replace CG2 := Lib.hid CG2
        replace CP := Lib.hid CP
        replace CP2 := Lib.hid CP2
        replace CL := Lib.hid CL
        replace hbf := Lib.hid hbf
        replace KW := Lib.hid KW
        replace EE := Lib.hid EE
        replace hW := Lib.hid hW
        replace G := Lib.hid G
        replace H := Lib.hid H
        replace X := Lib.hid X
        replace hw := Lib.hid hw
        replace ha := Lib.hid ha
        replace hg := Lib.hid hg
        replace hE := Lib.hid hE
        replace eT := Lib.hid eT
        replace m1 := Lib.hid m1
        replace m2 := Lib.hid m2
        replace m3 := Lib.hid m3
        replace m4 := Lib.hid m4
        replace m5 := Lib.hid m5
        replace h5 := Lib.hid h5
        replace hc9 := Lib.hid hc9
        replace hx9 := Lib.hid hx9
        replace hcF := Lib.hid hcF
        replace hcM := Lib.hid hcM
        replace hTab := Lib.hid hTab
        replace bO := Lib.hid bO
        replace nbR := Lib.hid nbR
        replace bt := Lib.hid bt
        replace brt := Lib.hid brt
        replace bb := Lib.hid bb
        replace n1 := Lib.hid n1
        replace c1 := Lib.hid c1
        replace c2 := Lib.hid c2
        replace hL := Lib.hid hL
        replace hcA := Lib.hid hcA
        replace hfA := Lib.hid hfA
        go_enter Tryd.func35, Tryd.ntmps35
        go_wp2_with fail
        rw [← hW.out]
        obtain ⟨d0, d1, d2, d3, -, -, -, -⟩ := id EE.out
        refine Calls.mono (CF.out _ KW.out) ?_
        rintro r w1 ⟨rfl, K1⟩
        have Ka := KW.out.then K1
        replace K1 := Lib.hid K1
        replace Ka := Lib.hid Ka
        go_wp2_with fail
        refine Calls.mono (CA.out _ Ka.out) ?_
        rintro r w2 ⟨rfl, rfl⟩
        go_wp2_with fail
        refine Calls.mono (CG.out _ Ka.out) ?_
        rintro r w3 ⟨rfl, K3⟩
        obtain ⟨W3, hW3⟩ : ∃ W3, W3 = w3.alloc (.cells #[.bool false, .bool tv, .bool tc, .int .i64 tf] 69) := ⟨_, rfl⟩
        have Kn : Keep nob w3 W3 := by rw [hW3]; exact (Keep.refl nob w3).alloc _
        have ET : EntAt W3 w3.heap.size false tv tc tf := by rw [hW3]; exact EntAt.new _ _ _ _ _ _
        have EB := (((EE.out.next K1.out).next K3).next Kn)
        have l3 : w.heap.size < w3.heap.size := ((EE.out.next K1.out).next K3).lt
        have Kb := (Ka.out.then K3).then Kn
        clear d0 d1 d2 d3
        obtain ⟨d0, d1, d2, d3, -, -, -, -⟩ := id ET
        have ed : ∀ p, W3.drew.cell? p = W3.cell? p := fun p => rfl
        have Kd : Keep nob w W3.drew := Kb.drew
        have Kdd : Keep nob W3 W3.drew := (Keep.refl nob W3).drew
        have e1 := Kb.some c1.out (fun x => x)
        have e2 := Kb.some c2.out (fun x => x)
        replace K3 := Lib.hid K3
        replace Kn := Lib.hid Kn
        replace ET := Lib.hid ET
        replace EB := Lib.hid EB
        replace Kb := Lib.hid Kb
        replace hW3 := Lib.hid hW3
        replace l3 := Lib.hid l3
        replace ed := Lib.hid ed
        replace Kd := Lib.hid Kd
        replace Kdd := Lib.hid Kdd
        go_wp2_with fail
        rw [← hW3.out]
        first
          | (go_region_held3 (fun w' => w'.cell? ⟨A.t, 1, none⟩ = some (.pointer (some ⟨B.p, 0, none⟩)) ∧ w'.cell? ⟨A.t, 2, none⟩ = some (.int .i64 A.part)) (first | go_keep | exact ⟨y0, y1⟩) (first | (go_at_call 19; refine Calls.mono (CL.out _ Kd.out) ?_; rintro r w4 ⟨rfl, P4, K4⟩; have y0 := K4.some ((ed.out _).trans e1) n1.out; have y1 := K4.some ((ed.out _).trans e2) n1.out; replace P4 := Lib.hid P4; replace K4 := Lib.hid K4)))
          | fail
        have nb3 : ¬ own B w3.heap.size := fun h => by have := bO.out _ h; have := l3.out; omega
        have X5 : PtAt w4 A B cA fA g (q + 1) := ⟨P4.out, ((X.out.M.next Kd.out).pool H.out K4.out).mono (Nat.le_succ _), (X.out.next G.out Kd.out).grow K4.out⟩
        have ET5 := (ET.out.next Kdd.out).keep K4.out nb3
        have EB5 := (EB.out.next Kdd.out).keep K4.out nbR.out
        have K50 : Keep (own B) w w4 := (Kd.out.nob (S := own B)).trans K4.out (fun _ _ e => e)
        clear y0 y1 d0 d1 d2 d3 e1 e2
        obtain ⟨d0, d1, d2, d3, z0, z1, z2, z3⟩ := id ET5
        have F := ET5.put (p' := true) (q' := true) (c' := false) (f' := ek)
        have KS : Keep (only w3.heap.size) w4 ((((w4.setCell ⟨w3.heap.size, 0, none⟩ (.bool true)).setCell ⟨w3.heap.size, 1, none⟩ (.bool true)).setCell ⟨w3.heap.size, 2, none⟩ (.bool false)).setCell ⟨w3.heap.size, 3, none⟩ (.int .i64 ek)) := by
          repeat (refine Keep.setCell ?_ _ (Or.inr rfl))
          exact Keep.refl _ _
        obtain ⟨W6, hW6⟩ : ∃ W6, W6 = ((((w4.setCell ⟨w3.heap.size, 0, none⟩ (.bool true)).setCell ⟨w3.heap.size, 1, none⟩ (.bool true)).setCell ⟨w3.heap.size, 2, none⟩ (.bool false)).setCell ⟨w3.heap.size, 3, none⟩ (.int .i64 ek)) := ⟨_, rfl⟩
        rw [← hW6] at F KS
        have X6 : PtAt W6 A B cA fA g (q + 1) := X5.keep G.out KS (fun e => by have e : B.b = w3.heap.size := e; have := bb.out; have := l3.out; omega) (fun x h e => nb3 (by have e : x = w3.heap.size := e; rw [← e]; exact h)) (fun e => by have e : A.t = w3.heap.size := e; have := bt.out; have := l3.out; omega) (fun e => by have e : A.rt = w3.heap.size := e; have := brt.out; have := l3.out; omega)
        have EB6 := EB5.keep KS (fun e => by have e : w.heap.size = w3.heap.size := e; have := l3.out; omega)
        have K60 : Keep (own B) w W6 := by
          rw [hW6]
          repeat (refine Keep.setCell ?_ _ (Or.inl (Nat.le_of_lt l3.out)))
          exact K50
        replace ET5 := Lib.hid ET5
        replace EB5 := Lib.hid EB5
        replace F := Lib.hid F
        replace KS := Lib.hid KS
        replace X6 := Lib.hid X6
        replace EB6 := Lib.hid EB6
        replace K60 := Lib.hid K60
        replace X5 := Lib.hid X5
        replace K50 := Lib.hid K50
        replace hW6 := Lib.hid hW6
        replace nb3 := Lib.hid nb3
        go_wp2_with fail
        rw [← hW6.out]
        refine Calls.mono (CP2.out _ X6.out) ?_
        rintro r w7 ⟨rfl, X7, K7⟩
        have nm3 : ¬ only B.mf w3.heap.size := fun e => nb3.out (mf_own _ e)
        have nm0 : ¬ only B.mf w.heap.size := fun e => nbR.out (mf_own _ e)
        have ET7 := F.out.keep K7 nm3
        have EB7 := EB6.out.keep K7 nm0
        have K70 := K60.out.trans K7 (fun k _ e => mf_own k e)
        clear d0 d1 d2 d3 z0 z1 z2 z3
        obtain ⟨d0, d1, d2, d3, -, -, -, -⟩ := id ET7
        replace X7 := Lib.hid X7
        replace K7 := Lib.hid K7
        replace ET7 := Lib.hid ET7
        replace EB7 := Lib.hid EB7
        replace K70 := Lib.hid K70
        replace nm3 := Lib.hid nm3
        replace nm0 := Lib.hid nm0
        go_wp2_with fail
        refine Calls.mono (CG2.out _ X7.out) ?_
        rintro r w8 ⟨rfl, K8⟩
        have ET8 := ET7.out.next K8
        have EB8 := EB7.out.next K8
        have X8 := X7.out.next G.out K8
        have K80 := K70.out.then K8
        clear d0 d1 d2 d3
        obtain ⟨d0, d1, d2, d3, -, -, -, -⟩ := id ET8
        obtain ⟨f0, f1, f2, f3, -, -, -, -⟩ := id EB8
        replace K8 := Lib.hid K8
        replace ET8 := Lib.hid ET8
        replace EB8 := Lib.hid EB8
        replace X8 := Lib.hid X8
        replace K80 := Lib.hid K80
        cases b5 with
        | true =>
          obtain rfl : (5 : Int) = x9 := hx9.out
          obtain rfl : cM = cF := hcF.out
          go_wp2_with fail
          go_ret
          exact ⟨rfl, X8.out, K80.out⟩
        | false =>
          obtain rfl : (0 : Int) = x9 := hx9.out
          obtain rfl : c9 = cF := hcF.out
          go_wp2_with fail
          refine Calls.mono (CP.out _ X8.out) ?_
          rintro r w9 ⟨rfl, X9, K9⟩
          replace X9 := Lib.hid X9
          replace K9 := Lib.hid K9
          go_wp2_with fail
          go_ret
          exact ⟨rfl, X9.out, K80.out.trans K9.out (fun k _ e => mf_own k e)⟩
      · rw [if_neg z] at m3
        have nz : ¬ mtE B c f A.part root page = 0 := by rw [m1]; exact z
        rw [if_neg nz, if_neg nz, m1, m3]
        have t1 : (ee != 0) = true := by simpa using z
        unfold Ent.val at CF CG ⊢
        dsimp only at CF CG ⊢
        replace CF := Lib.hid CF
        replace CA := Lib.hid CA
        replace CG := Lib.hid CG
        replace CL := Lib.hid CL
        replace hbf := Lib.hid hbf
        replace KW := Lib.hid KW
        replace EE := Lib.hid EE
        replace hW := Lib.hid hW
        replace G := Lib.hid G
        replace H := Lib.hid H
        replace X := Lib.hid X
        replace hw := Lib.hid hw
        replace ha := Lib.hid ha
        replace hg := Lib.hid hg
        replace hE := Lib.hid hE
        replace eT := Lib.hid eT
        replace m1 := Lib.hid m1
        replace m3 := Lib.hid m3
        replace m4 := Lib.hid m4
        replace hTab := Lib.hid hTab
        replace bO := Lib.hid bO
        replace nbR := Lib.hid nbR
        replace bt := Lib.hid bt
        replace brt := Lib.hid brt
        replace bb := Lib.hid bb
        replace n1 := Lib.hid n1
        replace c1 := Lib.hid c1
        replace c2 := Lib.hid c2
        replace hL := Lib.hid hL
        replace hcA := Lib.hid hcA
        replace hfA := Lib.hid hfA
        replace nz := Lib.hid nz
        replace z := Lib.hid z
        go_enter Tryd.func35, Tryd.ntmps35
        go_wp2_with fail
        rw [← hW.out]
        obtain ⟨d0, d1, d2, d3, -, -, -, -⟩ := id EE.out
        refine Calls.mono (CF.out _ KW.out) ?_
        rintro r w1 ⟨rfl, K1⟩
        have Ka := KW.out.then K1
        replace K1 := Lib.hid K1
        replace Ka := Lib.hid Ka
        go_wp2_with fail
        refine Calls.mono (CA.out _ Ka.out) ?_
        rintro r w2 ⟨rfl, rfl⟩
        go_wp2_with fail
        refine Calls.mono (CG.out _ Ka.out) ?_
        rintro r w3 ⟨rfl, K3⟩
        obtain ⟨W3, hW3⟩ : ∃ W3, W3 = w3.alloc (.cells #[.bool false, .bool tv, .bool tc, .int .i64 tf] 69) := ⟨_, rfl⟩
        have Kn : Keep nob w3 W3 := by rw [hW3]; exact (Keep.refl nob w3).alloc _
        have ET : EntAt W3 w3.heap.size false tv tc tf := by rw [hW3]; exact EntAt.new _ _ _ _ _ _
        have Kb := (Ka.out.then K3).then Kn
        clear d0 d1 d2 d3
        obtain ⟨d0, d1, d2, d3, -, -, -, -⟩ := id ET
        have ed : ∀ p, W3.drew.cell? p = W3.cell? p := fun p => rfl
        have Kd : Keep nob w W3.drew := Kb.drew
        have e1 := Kb.some c1.out (fun x => x)
        have e2 := Kb.some c2.out (fun x => x)
        replace K3 := Lib.hid K3
        replace Kn := Lib.hid Kn
        replace ET := Lib.hid ET
        replace Kb := Lib.hid Kb
        replace hW3 := Lib.hid hW3
        replace ed := Lib.hid ed
        replace Kd := Lib.hid Kd
        go_wp2_with fail
        rw [← hW3.out]
        first
          | (go_region_held3 (fun w' => w'.cell? ⟨A.t, 1, none⟩ = some (.pointer (some ⟨B.p, 0, none⟩)) ∧ w'.cell? ⟨A.t, 2, none⟩ = some (.int .i64 A.part)) (first | go_keep | exact ⟨y0, y1⟩) (first | (go_at_call 19; refine Calls.mono (CL.out _ Kd.out) ?_; rintro r w4 ⟨rfl, P4, K4⟩; have y0 := K4.some ((ed.out _).trans e1) n1.out; have y1 := K4.some ((ed.out _).trans e2) n1.out; replace P4 := Lib.hid P4; replace K4 := Lib.hid K4)))
          | fail
        clear y0 y1
        go_wp2_with fail
        go_ret
        exact ⟨rfl, ⟨P4.out, ((X.out.M.next Kd.out).pool H.out K4.out).mono (Nat.le_succ _), (X.out.next G.out Kd.out).grow K4.out⟩, (Kd.out.nob (S := own B)).trans K4.out (fun _ _ e => e)⟩
  · rw [if_neg ha, if_neg ha, if_neg ha]
    obtain ⟨x, hx⟩ : ∃ x, askE g root page bf = x := ⟨_, rfl⟩
    rw [hx] at CA ha ⊢
    have t1 : (x != 0) = true := by simpa using ha
    unfold Ent.val at CF ⊢
    dsimp only at CF ⊢
    obtain ⟨d0, d1, d2, d3, -, -, -, -⟩ := id EE
    replace CF := Lib.hid CF
    replace CA := Lib.hid CA
    replace CG := Lib.hid CG
    replace hbf := Lib.hid hbf
    replace KW := Lib.hid KW
    replace EE := Lib.hid EE
    replace hW := Lib.hid hW
    replace G := Lib.hid G
    replace H := Lib.hid H
    replace X := Lib.hid X
    replace hw := Lib.hid hw
    replace ha := Lib.hid ha
    replace hx := Lib.hid hx
    replace hTab := Lib.hid hTab
    go_enter Tryd.func35, Tryd.ntmps35
    go_wp2_with fail
    rw [← hW.out]
    refine Calls.mono (CF.out _ KW.out) ?_
    rintro r w1 ⟨rfl, K1⟩
    have Ka := KW.out.then K1
    replace K1 := Lib.hid K1
    replace Ka := Lib.hid Ka
    go_wp2_with fail
    refine Calls.mono (CA.out _ Ka.out) ?_
    rintro r w2 ⟨rfl, rfl⟩
    go_wp2_with fail
    go_ret
    exact ⟨rfl, (X.out.next G.out Ka.out).mono (Nat.le_succ _), Ka.out.nob⟩
end Go.Proofs.YtepmljcapobodaaDoor
