/- Of the laws of layer 10: made, awake. -/
import Derived.Test.YtepmljcapobodaaDoorPtSt3
namespace Go.Proofs.YtepmljcapobodaaDoor
open Go.RowKit
set_option linter.unusedVariables false
set_option maxRecDepth 100000
/-- A manager that was made since w0. -/
structure SinceT (w0 : World) (A : MB) (B : PB) : Prop where
  s : Since w0 B
  rt : w0.heap.size ≤ A.rt
theorem SinceT.keep {w0 w w' : World} {A : MB} {B : PB} (h : SinceT w0 A B) (K : Keep nob w0 w) (k : Keep (ownT A B) w w') : Keep nob w0 w' :=
  K.trans k (fun q hq e => by
    have := h.s.mf
    have := h.s.lo
    have := h.rt
    rcases e with (e | e) | e
    · show False; omega
    · show False; omega
    · show False; omega)
theorem results_tmp4 {fn : Func} {t u v x : Tmp} (h : fn.results = #[.tmp t, .tmp u, .tmp v, .tmp x]) (tmps : Array Value) (P : Program) (w : World) :
    (results fn tmps).run P w = .ok (.tuple #[tmps.getD t undef, tmps.getD u undef, tmps.getD v undef, tmps.getD x undef]) w := by
  simp [results, h]
def M0 : Nat → Nat → Ent := fun _ _ => Ent.zero
theorem made10 (w : World) (many : Nat) (h1 : 1 ≤ many) (h2 : many ≤ 1000) :
    Calls Tryd.prog 33 #[.int .i64 many] w fun r w' =>
      ∃ A B, r = .returned (.tuple #[.pointer (some ⟨B.b, 0, none⟩), .pointer (some ⟨B.p, 0, none⟩), .pointer (some ⟨A.t, 0, none⟩), .bool true]) ∧ PtG A B ∧ B.n = many + 2 ∧ B.l = [(0, many), (many, 2)] ∧ PtSt w' A B many M0 (fun _ => 0) many 0 ∧ SinceT w A B ∧ Keep nob w w' := by
  have C := new_in w (many + 2) (by omega) (by omega)
  rw [show ((many + 2 : Nat) : Int) = (many : Int) + 2 by omega] at C
  have h1' := Lib.hid h1
  replace C := Lib.hid C
  go_enter Tryd.func33, Tryd.ntmps33
  go_wp2_with fail
  refine Calls.mono C.out ?_
  rintro r w1 ⟨rfl, M, K⟩
  replace M := Lib.hid M
  replace K := Lib.hid K
  go_wp2_with fail
  have R := ranges2 w1 0 many many 2 31 (by unfold wfI; omega) (by unfold wfI; omega) (by unfold wfI; omega) (by unfold wfI; omega)
  refine Calls.mono (two_new (K.out.alloc _) (M.out.next ((Keep.refl _ _).alloc _)) (Nat.le_refl _) ⟨w1.heap.size, 0, none⟩ 2 many 2 h1 (by decide) (Nat.le_refl _) R (by decide)) ?_
  rintro r w2 ⟨B, rfl, G, P, SI, in0, in1, hl, hb, hmf, hn, hlo, hhi, K2⟩
  have z1 := K.out.size
  have z2 := K2.size
  have eA : (w1.alloc (.cells #[.int .i64 0, .int .i64 many, .int .i64 many, .int .i64 2] 31)).heap.size = w1.heap.size + 1 := World.size_alloc _ _
  have mf := M.out.flt
  have mb := M.out.blt
  have hO : ∀ x, own B x → x < w2.heap.size := fun x h => by unfold own at h; omega
  have eL : leftN B (fun _ => 0) 0 = many := left_all (by omega) in0 (fun _ _ _ => rfl)
  have T := tnew G P hO (by rw [eL]; omega) 0 (by rw [hl]; simp)
  rw [hb, show ((0 : Nat) : Int) = 0 from rfl] at T
  have K3 := (K.out.alloc (.cells #[.int .i64 0, .int .i64 many, .int .i64 many, .int .i64 2] 31)).then K2
  have z3 := K3.size
  replace G := Lib.hid G
  replace P := Lib.hid P
  replace SI := Lib.hid SI
  replace in0 := Lib.hid in0
  replace in1 := Lib.hid in1
  replace hl := Lib.hid hl
  replace hb := Lib.hid hb
  replace hmf := Lib.hid hmf
  replace hn := Lib.hid hn
  replace hlo := Lib.hid hlo
  replace hhi := Lib.hid hhi
  replace K2 := Lib.hid K2
  replace T := Lib.hid T
  replace hO := Lib.hid hO
  replace eL := Lib.hid eL
  replace K3 := Lib.hid K3
  replace z1 := Lib.hid z1
  replace z2 := Lib.hid z2
  replace z3 := Lib.hid z3
  replace eA := Lib.hid eA
  replace mf := Lib.hid mf
  replace mb := Lib.hid mb
  go_wp2_with fail
  refine Calls.mono T.out ?_
  rintro r w3 ⟨A, rfl, H, X, ha, ht, hrt, K4⟩
  have z3' := z3.out
  replace H := Lib.hid H
  replace X := Lib.hid X
  replace ha := Lib.hid ha
  replace ht := Lib.hid ht
  replace hrt := Lib.hid hrt
  replace K4 := Lib.hid K4
  go_wp2_with fail
  refine bodyPost_ret (results_tmp4 rfl _ _ _) rfl ?_
  exact ⟨A, B, by rw [hb.out]; rfl, ⟨G.out, H.out, ha.out⟩, hn.out, hl.out, ⟨_, _, _, X.out, PInv.new B many (by have := hn.out; omega) in0.out _, (fun _ _ _ h => by cases h), eL.out, RefsOk.zero B⟩, ⟨SI.out, by have := hrt.out; have := z1.out; have := z2.out; have := z3.out; omega⟩, K3.out.then K4.out⟩
def E7 : Ent := ⟨true, true, false, 7⟩
theorem ask7 {n : Nat} : askE (updI (fun _ => (0 : Int)) n 1) n 33 true = 0 := by
  unfold askE; rw [updI_at]; decide
theorem map7 {n left : Nat} (h : left ≠ 0) : mapA 10 M0 (updI (fun _ => (0 : Int)) n 1) left n 33 E7 = 0 := by
  unfold mapA
  rw [show fitB 10 E7 = true by decide, if_pos ask7, if_neg (by unfold M0; decide), if_neg (fun q => h q.2)]
theorem map8 {n left : Nat} : mapA 10 (updM M0 n 33 E7) (updI (fun _ => (0 : Int)) n 1) left n 33 E7 = 5 := by
  unfold mapA
  rw [show fitB 10 E7 = true by decide, if_pos ask7, if_pos]
  show (updM M0 n 33 E7 n 33).p = true
  rw [updM_at]; rfl
theorem qry7 {n : Nat} : qryA (updM M0 n 33 E7) (updI (fun _ => (0 : Int)) n 1) n 33 = E7 := by
  unfold qryA
  rw [if_pos ask7]
  exact updM_at _ _ _ _
theorem live7 (n : Nat) : live (updM M0 n 33 E7) n 1 = true := live_put (p := 33) rfl
theorem cnt7 (n : Nat) : cnt (live (updM M0 n 33 E7) n) 32 = 1 := by
  rw [cnt_congr (Q := fun i => decide (i = 1)) 32 (fun i _ => ?_)]
  · decide
  · by_cases h : i = 1
    · subst h; exact live7 n
    · rw [live_upd (fun q => h q.2), live_not (fun j _ => rfl)]
      exact (decide_eq_false h).symm
set_option maxHeartbeats 1600000 in
theorem awake10 (w : World) (hT : TabAt 0 Lib.deBruijn64tab w) : Calls Tryd.prog 32 #[] w fun r w' => r = .returned (.bool true) ∧ Keep nob w w' := by
  have C := made10 w 8 (by decide) (by decide)
  rw [show ((8 : Nat) : Int) = 8 from rfl] at C
  replace hT := Lib.hid hT
  replace C := Lib.hid C
  go_enter Tryd.func32, Tryd.ntmps32
  go_wp2_with fail
  refine Calls.mono C.out ?_
  rintro r w1 ⟨A, B, rfl, D, hn, hl, S, Si, K⟩
  replace D := Lib.hid D
  replace hn := Lib.hid hn
  replace hl := Lib.hid hl
  replace S := Lib.hid S
  replace Si := Lib.hid Si
  replace K := Lib.hid K
  go_wp2_with fail
  refine Calls.mono (st_open (tab_keep hT.out K.out) D.out S.out (by omega)) ?_
  rintro r w2 ⟨⟨l0, -⟩ | ⟨n, nm, g0, -, rfl, S2⟩, K2⟩
  · cases l0
  have Ka := Si.out.keep K.out K2
  have wn : wfI (n : Int) := by unfold wfI; omega
  have S3 := S2.next D.out ((Keep.refl nob w2).alloc (.cells #[.bool true, .bool true, .bool false, .int .i64 7] 69))
  have Kb := Ka.alloc (.cells #[.bool true, .bool true, .bool false, .int .i64 7] 69)
  have E := EntAt.new w2 true true false 7 69
  obtain ⟨W, hW⟩ : ∃ W, W = w2.alloc (.cells #[.bool true, .bool true, .bool false, .int .i64 7] 69) := ⟨_, rfl⟩
  rw [← hW] at S3 Kb E
  have nO : ¬ ownT A B w2.heap.size := by
    obtain ⟨c, f, T, X, -⟩ := S2
    rintro (h | h)
    · exact Nat.lt_irrefl _ (X.O _ h)
    · have := X.M.map.blt; omega
  have CM := st_map (tab_keep hT.out Kb) D.out S3 (by omega) n 33 wn E7
  have hn' : B.n = 10 := hn.out
  unfold mapM mapL at CM
  rw [hn', map7 (by decide), if_pos rfl, Int.toNat_natCast, show (33 : Int).toNat = 33 from rfl, show live M0 n (33 / 32) = false from live_not (fun j _ => rfl), if_pos ⟨rfl, rfl⟩] at CM
  obtain ⟨M1, hM1⟩ : ∃ M1, updM M0 n 33 E7 = M1 := ⟨_, rfl⟩
  rw [hM1] at CM
  obtain ⟨g1, hg1⟩ : ∃ g1, updI (fun _ => (0 : Int)) n 1 = g1 := ⟨_, rfl⟩
  rw [hg1] at CM
  have f1 : ∀ left, mapA 10 M1 g1 left n 33 E7 = 5 := fun left => by rw [← hM1, ← hg1]; exact map8
  have f2 : qryA M1 g1 n 33 = E7 := by rw [← hM1, ← hg1]; exact qry7
  have f3 : cnt (live M1 n) 32 = 1 := by rw [← hM1]; exact cnt7 n
  have f4 : live M1 n 1 = true := by rw [← hM1]; exact live7 n
  have f5 : g1 n ≠ 0 := by rw [← hg1, updI_at]; decide
  unfold E7 Ent.val at CM
  dsimp only at CM
  replace f1 := Lib.hid f1
  replace f2 := Lib.hid f2
  replace f3 := Lib.hid f3
  replace f4 := Lib.hid f4
  replace f5 := Lib.hid f5
  replace hM1 := Lib.hid hM1
  replace hg1 := Lib.hid hg1
  replace S2 := Lib.hid S2
  replace S3 := Lib.hid S3
  replace Ka := Lib.hid Ka
  replace Kb := Lib.hid Kb
  replace E := Lib.hid E
  replace hW := Lib.hid hW
  replace CM := Lib.hid CM
  replace hn' := Lib.hid hn'
  replace g0 := Lib.hid g0
  replace K2 := Lib.hid K2
  replace wn := Lib.hid wn
  replace nO := Lib.hid nO
  go_wp2_with fail
  rw [← hW.out]
  refine Calls.mono CM.out ?_
  rintro r w3 ⟨rfl, S4, K4⟩
  have Kc := Si.out.keep Kb.out K4
  have E4 := E.out.keep K4 nO.out
  have CN := st_map (tab_keep hT.out Kc) D.out S4 (by omega) n 33 wn.out E7
  unfold mapM mapL at CN
  rw [hn'.out, f1.out, if_neg (by decide), if_neg (fun h => absurd h.1 (by decide))] at CN
  unfold E7 Ent.val at CN
  dsimp only at CN
  obtain ⟨d0, d1, d2, d3, -, -, -, -⟩ := id E4
  replace S4 := Lib.hid S4
  replace K4 := Lib.hid K4
  replace Kc := Lib.hid Kc
  replace E4 := Lib.hid E4
  replace CN := Lib.hid CN
  go_wp2_with fail
  refine Calls.mono CN.out ?_
  rintro r w4 ⟨rfl, S5, K5⟩
  have Kd := Si.out.keep Kc.out K5
  have E5 := E4.out.keep K5 nO.out
  have CQ := st_query D.out S5 n 33 wn.out
  rw [f2.out] at CQ
  unfold E7 Ent.val at CQ
  dsimp only at CQ
  clear d0 d1 d2 d3
  replace S5 := Lib.hid S5
  replace K5 := Lib.hid K5
  replace Kd := Lib.hid Kd
  replace E5 := Lib.hid E5
  replace CQ := Lib.hid CQ
  go_wp2_with fail
  refine Calls.mono CQ.out ?_
  rintro r w5 ⟨rfl, K6⟩
  have S6 := S5.out.next D.out K6
  have Ke := Kd.out.then K6
  have E6 := E5.out.next K6
  have Kn : Keep nob w5 (w5.alloc (.cells #[.bool true, .bool true, .bool false, .int .i64 7] 69)) := (Keep.refl _ _).alloc _
  have S7 := S6.next D.out Kn
  have Kf := Ke.then Kn
  have E7' := E6.next Kn
  have Y := EntAt.new w5 true true false 7 69
  have CT := fun W' (k : Keep nob (w5.alloc (.cells #[.bool true, .bool true, .bool false, .int .i64 7] 69)) W') => st_tables D.out (S7.next D.out k) n wn.out
  have CC := fun W' (k : Keep nob (w5.alloc (.cells #[.bool true, .bool true, .bool false, .int .i64 7] 69)) W') => st_close D.out (S7.next D.out k) (by omega) n wn.out
  rw [if_neg f5.out, Int.toNat_natCast, f3.out, show ((1 + 1 : Nat) : Int) = 2 from rfl] at CT
  have EA := fun o => E6.next ((Keep.refl nob w5).alloc o)
  have d0 := fun o => (EA o).c0
  have d1 := fun o => (EA o).c1
  have d2 := fun o => (EA o).c2
  have d3 := fun o => (EA o).c3
  have y0 := Y.c0
  have y1 := Y.c1
  have y2 := Y.c2
  have y3 := Y.c3
  obtain ⟨W5, hW5⟩ : ∃ W5, W5 = w5.alloc (.cells #[.bool true, .bool true, .bool false, .int .i64 7] 69) := ⟨_, rfl⟩
  rw [← hW5] at S7 Kf CT CC
  replace EA := Lib.hid EA
  replace E7' := Lib.hid E7'
  replace Y := Lib.hid Y
  replace K6 := Lib.hid K6
  replace S6 := Lib.hid S6
  replace Ke := Lib.hid Ke
  replace E6 := Lib.hid E6
  replace Kn := Lib.hid Kn
  replace S7 := Lib.hid S7
  replace Kf := Lib.hid Kf
  replace CT := Lib.hid CT
  replace CC := Lib.hid CC
  replace hW5 := Lib.hid hW5
  go_wp2_with fail
  rw [← hW5.out]
  refine Calls.mono (CT.out _ (Keep.refl _ _)) ?_
  rintro r w6 ⟨rfl, K7⟩
  replace K7 := Lib.hid K7
  go_wp2_with fail
  refine Calls.mono (CC.out _ K7.out) ?_
  rintro r w7 ⟨⟨h, -⟩ | ⟨-, -, rfl, -⟩ | ⟨-, h, -⟩, K8⟩
  · exact absurd h f5.out
  · have Kz := Si.out.keep (Kf.out.then K7.out) K8
    replace K8 := Lib.hid K8
    replace Kz := Lib.hid Kz
    go_wp2_with fail
    go_ret
    exact ⟨rfl, Kz.out⟩
  · have := h 1
    rw [Int.toNat_natCast, f4.out] at this
    cases this
end Go.Proofs.YtepmljcapobodaaDoor
