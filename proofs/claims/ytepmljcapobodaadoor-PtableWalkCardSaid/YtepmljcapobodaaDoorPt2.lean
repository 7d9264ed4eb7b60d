/- Of package ptable: Open, Close. -/
import Derived.Test.YtepmljcapobodaaDoorPtIt3
namespace Go.Proofs.YtepmljcapobodaaDoor
open Go.RowKit
set_option linter.unusedVariables false
set_option maxRecDepth 100000
def opnG (B : PB) (f g : Int → Int) (part : Nat) : Int → Int := match allN B f part with | some n => updI g n 1 | none => g
theorem MgrAt.put {w w' : World} {A : MB} {B : PB} {g g' : Int → Int} {q q' : Nat} (H : MGeo A B) (M : MgrAt w A B g q) (k : Keep (only A.rt) w w') (h : MapI w' A.rt q' g') : MgrAt w' A B g' q' :=
  have h1 : ¬ only A.rt A.t := fun e => H.ne e
  ⟨k.some M.tm h1, k.some M.tp h1, k.some M.ti h1, k.some M.tr h1, h⟩
theorem PoolAt.map_turn {w w' : World} {A : MB} {B : PB} {c : Nat → Int} {f : Int → Int} {q : Nat} (G : Geo B) (H : MGeo A B) (P : PoolAt w B c f q) (k : Keep (only A.rt) w w') : PoolAt w' B c f q :=
  P.keep G k (fun e => H.b e) (fun x hx e => by have e : x = A.rt := e; rw [e] at hx; exact H.rt hx)
theorem rt_T {A : MB} {B : PB} : ∀ x, only A.rt x → ownT A B x := fun _ e => Or.inr e
set_option maxHeartbeats 3200000 in
theorem open_ok {w : World} {A : MB} {B : PB} {c : Nat → Int} {f g : Int → Int} {q : Nat} (hT : TabAt 0 Lib.deBruijn64tab w) (G : Geo B) (H : MGeo A B) (X : PtAt w A B c f g q) (hq : q < 4611686018427387904) :
    Calls Tryd.prog 34 #[.pointer (some ⟨A.t, 0, none⟩)] w fun r w' => r = .returned (.tuple #[.int .i64 (allE B f A.part).1, .int .i64 (allE B f A.part).2]) ∧ PtAt w' A B (allC B f A.part c) (allF B f A.part) (opnG B f g A.part) (q + 1) ∧ Keep (ownT A B) w w' := by
  have c1 := X.M.tp
  have c2 := X.M.ti
  have c3 := X.M.tr
  have N := tnone_ok X.M
  have Kd : Keep nob w w.drew := (Keep.refl nob w).drew
  have ed : ∀ p, w.drew.cell? p = w.cell? p := fun p => rfl
  have C := alloc_any (tab_keep hT Kd) G (X.P.next G Kd) hq A.part
  have MD := X.M.next Kd
  have n1 : ¬ own B A.t := H.t
  have eN : allN B f A.part = leastN B f A.part := by unfold allN; rw [if_pos ⟨by omega, by have := H.part; omega⟩, Int.toNat_natCast]
  unfold opnG
  cases e : leastN B f A.part with
  | none =>
    have e1 : allE B f A.part = (0, 3) := by unfold allE; rw [if_pos ⟨by omega, by have := H.part; omega⟩, Int.toNat_natCast, e]
    rw [eN, e]
    rw [e1] at C ⊢
    dsimp only at C ⊢
    replace N := Lib.hid N
    replace C := Lib.hid C
    replace MD := Lib.hid MD
    replace n1 := Lib.hid n1
    replace eN := Lib.hid eN
    replace e := Lib.hid e
    replace e1 := Lib.hid e1
    replace hT := Lib.hid hT
    replace G := Lib.hid G
    replace H := Lib.hid H
    replace X := Lib.hid X
    replace ed := Lib.hid ed
    replace Kd := Lib.hid Kd
    go_enter Tryd.func34, Tryd.ntmps34
    go_wp2_with fail
    refine Calls.mono (N.out) ?_
    rintro r w1 ⟨rfl, rfl⟩
    go_wp2_with fail
    first
      | (go_region_held3 (fun w' => w'.cell? ⟨A.t, 1, none⟩ = some (.pointer (some ⟨B.p, 0, none⟩)) ∧ w'.cell? ⟨A.t, 2, none⟩ = some (.int .i64 A.part)) (first | go_keep | exact ⟨y0, y1⟩) (first | (go_at_call 19; refine Calls.mono C.out ?_; rintro r w1 ⟨rfl, P1, K1⟩; have y0 := K1.some ((ed.out _).trans c1) n1.out; have y1 := K1.some ((ed.out _).trans c2) n1.out; replace P1 := Lib.hid P1; replace K1 := Lib.hid K1)))
      | fail
    go_wp2_with fail
    go_ret2
    exact ⟨rfl, ⟨P1.out, (MD.out.pool H.out K1.out).mono (Nat.le_succ _), (X.out.next G.out Kd.out).grow K1.out⟩, (Kd.out.nob (S := ownT A B)).trans K1.out (fun k _ e => own_T k e)⟩
  | some n =>
    have e1 : allE B f A.part = ((n : Int), 0) := by unfold allE; rw [if_pos ⟨by omega, by have := H.part; omega⟩, Int.toNat_natCast, e]
    have nlt := inr_lt G (leastN_some e).1
    have bn := G.n
    have wn : wfI (n : Int) := by unfold wfI; omega
    rw [eN, e]
    rw [e1] at C ⊢
    dsimp only at C ⊢
    replace N := Lib.hid N
    replace C := Lib.hid C
    replace MD := Lib.hid MD
    replace n1 := Lib.hid n1
    replace eN := Lib.hid eN
    replace e := Lib.hid e
    replace e1 := Lib.hid e1
    replace hT := Lib.hid hT
    replace G := Lib.hid G
    replace H := Lib.hid H
    replace X := Lib.hid X
    replace ed := Lib.hid ed
    replace Kd := Lib.hid Kd
    replace nlt := Lib.hid nlt
    replace wn := Lib.hid wn
    go_enter Tryd.func34, Tryd.ntmps34
    go_wp2_with fail
    refine Calls.mono (N.out) ?_
    rintro r w1 ⟨rfl, rfl⟩
    go_wp2_with fail
    first
      | (go_region_held3 (fun w' => w'.cell? ⟨A.t, 1, none⟩ = some (.pointer (some ⟨B.p, 0, none⟩)) ∧ w'.cell? ⟨A.t, 2, none⟩ = some (.int .i64 A.part)) (first | go_keep | exact ⟨y0, y1⟩) (first | (go_at_call 19; refine Calls.mono C.out ?_; rintro r w1 ⟨rfl, P1, K1⟩; have y0 := K1.some ((ed.out _).trans c1) n1.out; have y1 := K1.some ((ed.out _).trans c2) n1.out; replace P1 := Lib.hid P1; replace K1 := Lib.hid K1)))
      | fail
    have M1 := MD.out.pool H.out K1.out
    have y3 := M1.tr
    have MP := M1.map
    replace M1 := Lib.hid M1
    replace MP := Lib.hid MP
    clear y0 y1 c1 c2 c3
    go_wp2_with (at_mapUpdate; refine wpList_put rfl _ _ _ rfl A.rt q g MP.out hq n 1 wn.out (by unfold wfI; omega) rfl rfl rfl ?_; intro w3 Mp3 K3; replace Mp3 := Lib.hid Mp3; replace K3 := Lib.hid K3)
    go_ret2
    exact ⟨rfl, ⟨P1.out.map_turn G.out H.out K3.out, M1.out.put H.out K3.out Mp3.out, fun x h => Nat.lt_of_lt_of_le ((X.out.next G.out Kd.out).grow K1.out x h) K3.out.size⟩, ((Kd.out.nob (S := ownT A B)).trans K1.out (fun k _ e => own_T k e)).trans K3.out (fun k _ e => rt_T k e)⟩
/-! ### Close -/
noncomputable def cloE (B : PB) (c : Nat → Int) (f g : Int → Int) (root : Int) : Int := if g root = 0 then 4 else if (presL (words c root.toNat) 32).isEmpty then freE B f root else 9
noncomputable def cloG (c : Nat → Int) (g : Int → Int) (root : Int) : Int → Int := if g root ≠ 0 ∧ (presL (words c root.toNat) 32).isEmpty then updI g root 0 else g
noncomputable def cloF (B : PB) (c : Nat → Int) (f g : Int → Int) (root : Int) : Int → Int := if g root ≠ 0 ∧ (presL (words c root.toNat) 32).isEmpty then freF B f root else f
set_option maxHeartbeats 3200000 in
theorem close_ok {w : World} {A : MB} {B : PB} {c : Nat → Int} {f g : Int → Int} {q : Nat} (G : Geo B) (R : RefsOk B f) (H : MGeo A B) (X : PtAt w A B c f g q) (hR : RootsIn B.n g) (hq : q < 4611686018427387904) (root : Int) (hw : wfI root) :
    Calls Tryd.prog 38 #[.pointer (some ⟨A.t, 0, none⟩), .int .i64 root] w fun r w' => r = .returned (.int .i64 (cloE B c f g root)) ∧ PtAt w' A B c (cloF B c f g root) (cloG c g root) (q + 1) ∧ Keep (ownT A B) w w' := by
  have c1 := X.M.tp
  have c3 := X.M.tr
  have N := tnone_ok X.M
  have MM := X.M.map
  by_cases h : g root = 0
  · have e1 : cloE B c f g root = 4 := if_pos h
    have e2 : cloF B c f g root = f := if_neg (fun x => x.1 h)
    have e3 : cloG c g root = g := if_neg (fun x => x.1 h)
    rw [e1, e2, e3]
    replace N := Lib.hid N
    replace MM := Lib.hid MM
    replace G := Lib.hid G
    replace H := Lib.hid H
    replace R := Lib.hid R
    replace X := Lib.hid X
    replace hw := Lib.hid hw
    replace h := Lib.hid h
    replace e1 := Lib.hid e1
    replace e2 := Lib.hid e2
    replace e3 := Lib.hid e3
    go_enter Tryd.func38, Tryd.ntmps38
    go_wp2_with fail
    refine Calls.mono N.out ?_
    rintro r w1 ⟨rfl, rfl⟩
    go_wp2_with (at_lookup; refine wpList_look rfl _ _ rfl A.rt q g MM.out root hw.out rfl rfl ?_; rw [h.out])
    go_ret
    exact ⟨rfl, X.out.mono (Nat.le_succ _), Keep.refl _ _⟩
  · obtain ⟨r0, r1⟩ := hR root h
    have CE := empty_ok G X root r0 r1
    obtain ⟨u, hu⟩ : ∃ u, g root = u := ⟨_, rfl⟩
    have hu0 : (u == 0) = false := by rw [← hu]; simpa using h
    cases hE : (presL (words c root.toNat) 32).isEmpty with
    | false =>
      have e1 : cloE B c f g root = 9 := by unfold cloE; rw [if_neg h, hE]; rfl
      have e2 : cloF B c f g root = f := if_neg (fun x => by have := x.2; rw [hE] at this; cases this)
      have e3 : cloG c g root = g := if_neg (fun x => by have := x.2; rw [hE] at this; cases this)
      rw [e1, e2, e3]
      rw [hE] at CE
      replace N := Lib.hid N
      replace MM := Lib.hid MM
      replace G := Lib.hid G
      replace H := Lib.hid H
      replace R := Lib.hid R
      replace X := Lib.hid X
      replace hw := Lib.hid hw
      replace h := Lib.hid h
      replace e1 := Lib.hid e1
      replace e2 := Lib.hid e2
      replace e3 := Lib.hid e3
      replace CE := Lib.hid CE
      replace hE := Lib.hid hE
      replace hu := Lib.hid hu
      go_enter Tryd.func38, Tryd.ntmps38
      go_wp2_with fail
      refine Calls.mono N.out ?_
      rintro r w1 ⟨rfl, rfl⟩
      go_wp2_with (at_lookup; refine wpList_look rfl _ _ rfl A.rt q g MM.out root hw.out rfl rfl ?_; rw [hu.out])
      refine Calls.mono CE.out ?_
      rintro r w2 ⟨rfl, K2⟩
      replace K2 := Lib.hid K2
      go_wp2_with fail
      go_ret
      exact ⟨rfl, (X.out.next G.out K2.out).mono (Nat.le_succ _), K2.out.nob⟩
    | true =>
      have e1 : cloE B c f g root = freE B f root := by unfold cloE; rw [if_neg h, hE]; rfl
      have e2 : cloF B c f g root = freF B f root := if_pos ⟨h, hE⟩
      have e3 : cloG c g root = updI g root 0 := if_pos ⟨h, hE⟩
      rw [e1, e2, e3]
      rw [hE] at CE
      obtain ⟨fe, hfe⟩ : ∃ fe, freE B f root = fe := ⟨_, rfl⟩
      rw [hfe]
      replace N := Lib.hid N
      replace MM := Lib.hid MM
      replace G := Lib.hid G
      replace H := Lib.hid H
      replace R := Lib.hid R
      replace X := Lib.hid X
      replace hw := Lib.hid hw
      replace h := Lib.hid h
      replace e1 := Lib.hid e1
      replace e2 := Lib.hid e2
      replace e3 := Lib.hid e3
      replace CE := Lib.hid CE
      replace hE := Lib.hid hE
      replace hu := Lib.hid hu
      replace hfe := Lib.hid hfe
      go_enter Tryd.func38, Tryd.ntmps38
      go_wp2_with fail
      refine Calls.mono N.out ?_
      rintro r w1 ⟨rfl, rfl⟩
      go_wp2_with (at_lookup; refine wpList_look rfl _ _ rfl A.rt q g MM.out root hw.out rfl rfl ?_; rw [hu.out])
      refine Calls.mono CE.out ?_
      rintro r w2 ⟨rfl, K2⟩
      have X2 := X.out.next G.out K2
      have y3 := X2.M.tr
      have MP := X2.M.map
      replace K2 := Lib.hid K2
      replace X2 := Lib.hid X2
      replace MP := Lib.hid MP
      clear c1 c3
      go_wp2_with (at_delete; refine wpList_del rfl _ _ rfl A.rt q g MP.out root hw.out rfl rfl ?_; intro w3 M3 K3; have M4 := X2.out.M.put H.out K3 M3; have P4 := X2.out.P.map_turn G.out H.out K3; have y1 := M4.tp; replace M4 := Lib.hid M4; replace P4 := Lib.hid P4; replace M3 := Lib.hid M3; replace K3 := Lib.hid K3)
      refine Calls.mono (free_any G.out R.out P4.out hq root hw.out) ?_
      rw [hfe.out]
      rintro r w5 ⟨rfl, P5, K5⟩
      replace P5 := Lib.hid P5
      replace K5 := Lib.hid K5
      go_wp2_with fail
      go_ret
      exact ⟨rfl, ⟨P5.out, (M4.out.pool H.out K5.out).mono (Nat.le_succ _), fun x h => Nat.lt_of_lt_of_le (X2.out.grow K3.out x h) K5.out.size⟩, ((K2.out.nob (S := ownT A B)).trans K3.out (fun k _ e => rt_T k e)).trans K5.out (fun k _ e => own_T k e)⟩
end Go.Proofs.YtepmljcapobodaaDoor
