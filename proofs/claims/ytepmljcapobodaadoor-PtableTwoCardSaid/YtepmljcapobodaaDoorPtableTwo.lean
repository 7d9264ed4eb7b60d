/- What is mapped in one space changes nothing of another one, and one page's entry that is set changes no other page's. Condition: none beyond the statement's own. -/
import Derived.Test.YtepmljcapobodaaDoorPtOps
import Derived.Test.YtepmljcapobodaaDoorHead
import Derived.Test.YtepmljcapobodaaDoorLaid
import Derived.Test.YtepmljcapobodaaDoorCards
import Derived.Test.YtepmljcapobodaaDoorTie
namespace Go.Proofs.YtepmljcapobodaaDoor.ptableTwo
open Go.ChangeShapes Go.WideShapes Go.ChangeAt Go.RowKit
set_option linter.unusedVariables false
set_option maxRecDepth 100000
theorem maps_len {base : Nat} {w : World} {v : Value} {l : List (Nat × Ent)} (h : MapsAt base w v l) : ∃ a cap, v = .slice a l.length cap := by
  rcases h.1.2 with ⟨h1, h2⟩ | ⟨g, cap, cur, hv, _⟩
  · exact ⟨none, 0, by rw [h1, h2]⟩
  · exact ⟨_, cap, hv⟩
def Inv1 (W : World) (A : MB) (B : PB) (many : Nat) (g : Int → Int) (len : Nat) (i : Value) (wr : World) : Prop :=
  ∃ k M left, i = .int .i64 (k : Nat) ∧ k ≤ len ∧ PtSt wr A B many M g left (k + 2) ∧ Keep nob W wr
def Inv2 (W : World) (len : Nat) (i : Value) (wr : World) : Prop :=
  ∃ k, i = .int .i64 (k : Nat) ∧ k ≤ len ∧ Keep nob W wr
set_option maxHeartbeats 6400000 in
theorem walk_in (many : Nat) (h1 : 4 ≤ many) (h2 : many ≤ 30) (v : Value) (l : List Op10) (hl : l.length ≤ 60) (page : Int) (e : Ent) (w : World) (L : OpsAt w v l) (hf : ∀ o ∈ l, op10Fine o) (hT : TabAt 0 Lib.deBruijn64tab w) (hp : wfI page) :
    Calls Tryd.prog 14 #[.int .i64 many, v, .int .i64 page, e.val] w fun r w' => r = .returned (.bool true) ∧ Keep nob w w' := by
  obtain ⟨a, cap, rfl, hm, hcap, hcells⟩ := L
  obtain ⟨p, v, cc, fr⟩ := e
  obtain ⟨W, hW⟩ : ∃ W, W = w.alloc (.cells #[.bool p, .bool v, .bool cc, .int .i64 fr] 69) := ⟨_, rfl⟩
  have KW : Keep nob w W := by rw [hW]; exact (Keep.refl _ _).alloc _
  have E := EntAt.new w p v cc fr 69
  rw [← hW] at E
  have C := made10 W many (by omega) (by omega)
  have t1 : decide ((many : Int) < 4) = false := by simp; omega
  have t2 : decide ((30 : Int) < many) = false := by simp; omega
  have t3 : decide ((60 : Int) < l.length) = false := by simp; omega
  have hcells' : l ≠ [] → ∃ g o, a = some ⟨g, o, none⟩ ∧ g < w.heap.size ∧ ∀ (k : Nat) (c : Op10), l[k]? = some c → ∀ (j : Nat) (u : Value), (op10Cells c)[j]? = some u → W.cell? ⟨g, o + (k * 7 + j), none⟩ = some u := by
    intro h
    obtain ⟨g, o, h1, h2⟩ := hcells h
    refine ⟨g, o, h1, ?_, fun k c hc j u hu => KW.some (h2 k c hc j u hu) (fun x => x)⟩
    obtain ⟨x, r, hx⟩ := List.exists_cons_of_ne_nil h
    exact World.block_lt_of_cell? _ _ (h2 0 x (by rw [hx]; rfl) 0 _ rfl)
  clear hcells
  unfold Ent.val
  dsimp only
  replace hT := Lib.hid hT
  replace C := Lib.hid C
  replace KW := Lib.hid KW
  replace E := Lib.hid E
  replace hW := Lib.hid hW
  replace hf := Lib.hid hf
  replace hcells' := Lib.hid hcells'
  go_enter Tryd.func14, Tryd.ntmps14
  go_wp2_with fail
  rw [← hW.out]
  refine Calls.mono C.out ?_
  rintro r w1 ⟨A, B, rfl, D, hn, hll, S, Si, K⟩
  replace D := Lib.hid D
  replace hn := Lib.hid hn
  replace hll := Lib.hid hll
  replace S := Lib.hid S
  replace Si := Lib.hid Si
  replace K := Lib.hid K
  go_wp2_with fail
  refine Calls.mono (st_open (tab_keep hT.out (KW.out.then K.out)) D.out S.out (by omega)) ?_
  rintro r w2 ⟨⟨l0, -⟩ | ⟨ra, am, g0, -, rfl, S2⟩, K2⟩
  · omega
  have Ka := Si.out.keep K.out K2
  replace S2 := Lib.hid S2
  replace K2 := Lib.hid K2
  replace Ka := Lib.hid Ka
  go_wp2_with fail
  refine Calls.mono (st_open (tab_keep hT.out (KW.out.then Ka.out)) D.out S2.out (by omega)) ?_
  rintro r w3 ⟨⟨l0, -⟩ | ⟨rb, bm, g1, -, rfl, S3⟩, K3⟩
  · omega
  have ne : rb ≠ ra := by
    intro q
    rw [q, updI_at] at g1
    cases g1
  have Kb := Si.out.keep Ka.out K3
  have wa : wfI (ra : Int) := by unfold wfI; omega
  have wb : wfI (rb : Int) := by unfold wfI; omega
  have nO : ∀ q, q < W.heap.size → ¬ ownT A B q := by
    intro q hq h
    have h1 := Si.out.s.mf
    have h2 := Si.out.s.lo
    have h3 := Si.out.rt
    rcases h with (h | h) | h
    · omega
    · omega
    · omega
  have bW := E.out.lt
  have bl := S3.below
  have ga : updI (updI (fun _ => (0 : Int)) ra 1) rb 1 ra ≠ 0 := by rw [updI_ne (by omega), updI_at]; decide
  have gb : updI (updI (fun _ => (0 : Int)) ra 1) rb 1 rb ≠ 0 := by rw [updI_at]; decide
  obtain ⟨g, hg⟩ : ∃ g, updI (updI (fun _ => (0 : Int)) ra 1) rb 1 = g := ⟨_, rfl⟩
  rw [hg] at S3 ga gb
  have zW := Kb.size
  clear S2 K2 Ka
  replace S3 := Lib.hid S3
  replace K3 := Lib.hid K3
  replace Kb := Lib.hid Kb
  replace g0 := Lib.hid g0
  replace g1 := Lib.hid g1
  replace ne := Lib.hid ne
  replace wa := Lib.hid wa
  replace wb := Lib.hid wb
  replace nO := Lib.hid nO
  replace bW := Lib.hid bW
  replace bl := Lib.hid bl
  replace ga := Lib.hid ga
  replace gb := Lib.hid gb
  replace hg := Lib.hid hg
  replace zW := Lib.hid zW
  go_wp2_with fail
  go_loopw [17] (fun i wr => Inv1 W A B many g l.length i wr) (fun i _ => (l.length - intOf i).toNat)
  case atStart => exact ⟨0, M0, _, rfl, Nat.zero_le _, S3.out, Kb.out⟩
  case round =>
    clear S3 Kb
    obtain ⟨k, M, left, rfl, hk, S3, K3⟩ := hrel
    replace S3 := Lib.hid S3
    replace K3 := Lib.hid K3
    by_cases hlt : k < l.length
    · have hne : l ≠ [] := by intro e; rw [e] at hlt; simp at hlt
      obtain ⟨gg, og, rfl, gw, cs⟩ := hcells'.out hne
      obtain ⟨⟨d, s, pg, ⟨ep, eq, ec, ef⟩⟩, ho⟩ : ∃ o, l[k] = o := ⟨_, rfl⟩
      have ho' : l[k]? = some ⟨d, s, pg, ⟨ep, eq, ec, ef⟩⟩ := by rw [← ho, List.getElem?_eq_getElem hlt]
      have r0 : wr.cell? ⟨gg, og + k * 7, none⟩ = some (.int .i64 d) := K3.out.some (cs k _ ho' 0 _ rfl) (fun x => x)
      have r1 : wr.cell? ⟨gg, og + k * 7 + 1, none⟩ = some (.int .i64 s) := K3.out.some (cs k _ ho' 1 _ rfl) (fun x => x)
      have r2 : wr.cell? ⟨gg, og + k * 7 + 2, none⟩ = some (.int .i64 pg) := K3.out.some (cs k _ ho' 2 _ rfl) (fun x => x)
      have r3 : wr.cell? ⟨gg, og + k * 7 + 3, none⟩ = some (.bool ep) := K3.out.some (cs k _ ho' 3 _ rfl) (fun x => x)
      have r4 : wr.cell? ⟨gg, og + k * 7 + 4, none⟩ = some (.bool eq) := K3.out.some (cs k _ ho' 4 _ rfl) (fun x => x)
      have r5 : wr.cell? ⟨gg, og + k * 7 + 5, none⟩ = some (.bool ec) := K3.out.some (cs k _ ho' 5 _ rfl) (fun x => x)
      have r6 : wr.cell? ⟨gg, og + k * 7 + 6, none⟩ = some (.int .i64 ef) := K3.out.some (cs k _ ho' 6 _ rfl) (fun x => x)
      have fo := Lib.hid (hf.out _ (List.mem_of_getElem? ho'))
      have t4 : decide (k < l.length) = true := by simpa using hlt
      have c1 : (ra : Int) + rb - ra = rb := by omega
      have c2 : (ra : Int) + rb - rb = ra := by omega
      have gT : ¬ ownT A B gg := nO.out _ (Nat.lt_of_lt_of_le gw KW.out.size)
      obtain ⟨T, hT2⟩ : ∃ T, (s.tmod 2 != 0) = T := ⟨_, rfl⟩
      replace ho := Lib.hid ho
      replace ho' := Lib.hid ho'
      replace gw := Lib.hid gw
      replace gT := Lib.hid gT
      clear cs
      cases T with
      | false =>
        have CA := st_all D.out S3.out rb wb.out
        replace CA := Lib.hid CA
        go_wp2_with fail
        refine Calls.mono CA.out ?_
        rintro r w5 ⟨va, rfl, MA, K5⟩
        have S5 := S3.out.next D.out K5
        have nT := S3.out.below.no
        have Kc := K3.out.then K5
        have K0 : Keep nob w5 w5.drew := (Keep.refl nob w5).drew
        have Q0 := K5.some r0 (fun x => x)
        have Q1 := K5.some r1 (fun x => x)
        have Q2 := K5.some r2 (fun x => x)
        have Q3 := K5.some r3 (fun x => x)
        have Q4 := K5.some r4 (fun x => x)
        have Q5 := K5.some r5 (fun x => x)
        have Q6 := K5.some r6 (fun x => x)
        replace MA := Lib.hid MA
        replace S5 := Lib.hid S5
        replace Kc := Lib.hid Kc
        replace K5 := Lib.hid K5
        replace nT := Lib.hid nT
        replace K0 := Lib.hid K0
        clear r0 r1 r2 r3 r4 r5 r6 S3 K3 CA
        by_cases d3 : d = 3
        · have t5 : (d == 3) = true := by simpa using d3
          have CM := st_map (tab_keep hT.out (KW.out.then (Kc.out.then K0.out))) D.out (S5.out.next D.out K0.out) (by omega) ra pg wa.out ⟨ep, eq, ec, ef⟩
          unfold Ent.val at CM
          dsimp only at CM
          replace CM := Lib.hid CM
          go_wp2_with fail
          go_still_tail 12, (by kernel_rfl)
          change wpList _ _ _ _ _ w5.drew
          have Q2 : w5.drew.cell? ⟨gg, og + k * 7 + 2, none⟩ = some (.int .i64 pg) := Q2
          have Q3 : w5.drew.cell? ⟨gg, og + k * 7 + 3, none⟩ = some (.bool ep) := Q3
          have Q4 : w5.drew.cell? ⟨gg, og + k * 7 + 4, none⟩ = some (.bool eq) := Q4
          have Q5 : w5.drew.cell? ⟨gg, og + k * 7 + 5, none⟩ = some (.bool ec) := Q5
          have Q6 : w5.drew.cell? ⟨gg, og + k * 7 + 6, none⟩ = some (.int .i64 ef) := Q6
          go_wp2_with fail
          refine Calls.mono CM.out ?_
          rintro r w6 ⟨rfl, S6, K6⟩
          have MA6 := (MA.out.keep K0.out (fun _ _ x => x)).keep K6 nT.out
          have K7 := Si.out.keep (Kc.out.then K0.out) K6
          obtain ⟨M', hM'⟩ : ∃ M', mapM B.n M g left ra pg ⟨ep, eq, ec, ef⟩ = M' := ⟨_, rfl⟩
          have eo : allA M' g rb = allA M g rb := by rw [← hM']; exact allA_other (fun p => mapM_other B.n M g left ra pg ⟨ep, eq, ec, ef⟩ ne.out p)
          obtain ⟨left', hl'⟩ : ∃ left', mapL B.n M g left ra pg ⟨ep, eq, ec, ef⟩ = left' := ⟨_, rfl⟩
          rw [hl'] at S6
          rw [hM'] at S6
          have CB := st_all D.out S6 rb wb.out
          rw [eo] at CB
          replace S6 := Lib.hid S6
          replace MA6 := Lib.hid MA6
          replace K7 := Lib.hid K7
          replace CB := Lib.hid CB
          clear Q0 Q1 Q2 Q3 Q4 Q5 Q6
          go_wp2_with fail
          refine Calls.mono CB.out ?_
          rintro r w7 ⟨vb, rfl, MB, K8⟩
          have CS := same10_ok (MB.is (Nat.le_trans (allA_len _ _ _) (by decide))) ((MA6.out.keep K8 (fun _ _ x => x)).is (Nat.le_trans (allA_len _ _ _) (by decide)))
          rw [decide_eq_true rfl] at CS
          have S7 := S6.out.next D.out K8
          have K9 := K7.out.then K8
          replace MB := Lib.hid MB
          replace K8 := Lib.hid K8
          replace CS := Lib.hid CS
          replace S7 := Lib.hid S7
          replace K9 := Lib.hid K9
          go_wp2_with fail
          refine Calls.mono CS.out ?_
          rintro r w8 ⟨rfl, K10⟩
          have S8 := S7.out.next D.out K10
          have K11 := K9.out.then K10
          replace K10 := Lib.hid K10
          replace S8 := Lib.hid S8
          replace K11 := Lib.hid K11
          go_wp2_with fail
          go_roundw
          case rel => exact ⟨k + 1, M', _, by go_num, by omega, S8.out, K11.out⟩
          case measure => simp [intOf]; omega
        have t5 : (d == 3) = false := by simpa using d3
        by_cases d4 : d = 4
        · have t6 : (d == 4) = true := by simpa using d4
          have CM := st_unmap D.out S5.out (by omega) ra pg wa.out
          replace CM := Lib.hid CM
          go_wp2_with fail
          refine Calls.mono CM.out ?_
          rintro r w6 ⟨rfl, S6, K6⟩
          have MA6 := MA.out.keep K6 nT.out
          have K7 := Si.out.keep Kc.out K6
          obtain ⟨M', hM'⟩ : ∃ M', unmM M g ra pg = M' := ⟨_, rfl⟩
          have eo : allA M' g rb = allA M g rb := by rw [← hM']; exact allA_other (fun p => unmM_other M g ra pg ne.out p)
          obtain ⟨left', hl'⟩ : ∃ left', unmL M g left ra pg = left' := ⟨_, rfl⟩
          rw [hl'] at S6
          rw [hM'] at S6
          have CB := st_all D.out S6 rb wb.out
          rw [eo] at CB
          replace S6 := Lib.hid S6
          replace MA6 := Lib.hid MA6
          replace K7 := Lib.hid K7
          replace CB := Lib.hid CB
          clear Q0 Q1 Q2 Q3 Q4 Q5 Q6
          go_wp2_with fail
          refine Calls.mono CB.out ?_
          rintro r w7 ⟨vb, rfl, MB, K8⟩
          have CS := same10_ok (MB.is (Nat.le_trans (allA_len _ _ _) (by decide))) ((MA6.out.keep K8 (fun _ _ x => x)).is (Nat.le_trans (allA_len _ _ _) (by decide)))
          rw [decide_eq_true rfl] at CS
          have S7 := S6.out.next D.out K8
          have K9 := K7.out.then K8
          replace MB := Lib.hid MB
          replace K8 := Lib.hid K8
          replace CS := Lib.hid CS
          replace S7 := Lib.hid S7
          replace K9 := Lib.hid K9
          go_wp2_with fail
          refine Calls.mono CS.out ?_
          rintro r w8 ⟨rfl, K10⟩
          have S8 := S7.out.next D.out K10
          have K11 := K9.out.then K10
          replace K10 := Lib.hid K10
          replace S8 := Lib.hid S8
          replace K11 := Lib.hid K11
          go_wp2_with fail
          go_roundw
          case rel => exact ⟨k + 1, M', _, by go_num, by omega, S8.out, K11.out⟩
          case measure => simp [intOf]; omega
        have t6 : (d == 4) = false := by simpa using d4
        by_cases d5 : d = 5
        · have t7 : (d == 5) = true := by simpa using d5
          have CM := st_set D.out (S5.out.next D.out K0.out) ra pg wa.out ⟨ep, eq, ec, ef⟩
          unfold Ent.val at CM
          dsimp only at CM
          replace CM := Lib.hid CM
          go_wp2_with fail
          go_still_tail 12, (by kernel_rfl)
          change wpList _ _ _ _ _ w5.drew
          have Q2 : w5.drew.cell? ⟨gg, og + k * 7 + 2, none⟩ = some (.int .i64 pg) := Q2
          have Q3 : w5.drew.cell? ⟨gg, og + k * 7 + 3, none⟩ = some (.bool ep) := Q3
          have Q4 : w5.drew.cell? ⟨gg, og + k * 7 + 4, none⟩ = some (.bool eq) := Q4
          have Q5 : w5.drew.cell? ⟨gg, og + k * 7 + 5, none⟩ = some (.bool ec) := Q5
          have Q6 : w5.drew.cell? ⟨gg, og + k * 7 + 6, none⟩ = some (.int .i64 ef) := Q6
          go_wp2_with fail
          refine Calls.mono CM.out ?_
          rintro r w6 ⟨rfl, S6, K6⟩
          have MA6 := (MA.out.keep K0.out (fun _ _ x => x)).keep K6 nT.out
          have K7 := Si.out.keep (Kc.out.then K0.out) K6
          obtain ⟨M', hM'⟩ : ∃ M', setM B.n M g ra pg ⟨ep, eq, ec, ef⟩ = M' := ⟨_, rfl⟩
          have eo : allA M' g rb = allA M g rb := by rw [← hM']; exact allA_other (fun p => setM_other B.n M g ra pg ⟨ep, eq, ec, ef⟩ ne.out p)
          rw [hM'] at S6
          have CB := st_all D.out S6 rb wb.out
          rw [eo] at CB
          replace S6 := Lib.hid S6
          replace MA6 := Lib.hid MA6
          replace K7 := Lib.hid K7
          replace CB := Lib.hid CB
          clear Q0 Q1 Q2 Q3 Q4 Q5 Q6
          go_wp2_with fail
          refine Calls.mono CB.out ?_
          rintro r w7 ⟨vb, rfl, MB, K8⟩
          have CS := same10_ok (MB.is (Nat.le_trans (allA_len _ _ _) (by decide))) ((MA6.out.keep K8 (fun _ _ x => x)).is (Nat.le_trans (allA_len _ _ _) (by decide)))
          rw [decide_eq_true rfl] at CS
          have S7 := S6.out.next D.out K8
          have K9 := K7.out.then K8
          replace MB := Lib.hid MB
          replace K8 := Lib.hid K8
          replace CS := Lib.hid CS
          replace S7 := Lib.hid S7
          replace K9 := Lib.hid K9
          go_wp2_with fail
          refine Calls.mono CS.out ?_
          rintro r w8 ⟨rfl, K10⟩
          have S8 := S7.out.next D.out K10
          have K11 := K9.out.then K10
          replace K10 := Lib.hid K10
          replace S8 := Lib.hid S8
          replace K11 := Lib.hid K11
          go_wp2_with fail
          go_roundw
          case rel => exact ⟨k + 1, M', _, by go_num, by omega, S8.out.mono (by omega), K11.out⟩
          case measure => simp [intOf]; omega
        have t7 : (d == 5) = false := by simpa using d5
        have S6 := S5.out
        have MA6 := MA.out
        have K7 := Kc.out
        obtain ⟨M', hM'⟩ : ∃ M', M = M' := ⟨_, rfl⟩
        subst hM'
        have CB := st_all D.out S6 rb wb.out
        replace S6 := Lib.hid S6
        replace MA6 := Lib.hid MA6
        replace K7 := Lib.hid K7
        replace CB := Lib.hid CB
        go_wp2_with fail
        refine Calls.mono CB.out ?_
        rintro r w7 ⟨vb, rfl, MB, K8⟩
        have CS := same10_ok (MB.is (Nat.le_trans (allA_len _ _ _) (by decide))) ((MA6.out.keep K8 (fun _ _ x => x)).is (Nat.le_trans (allA_len _ _ _) (by decide)))
        rw [decide_eq_true rfl] at CS
        have S7 := S6.out.next D.out K8
        have K9 := K7.out.then K8
        replace MB := Lib.hid MB
        replace K8 := Lib.hid K8
        replace CS := Lib.hid CS
        replace S7 := Lib.hid S7
        replace K9 := Lib.hid K9
        go_wp2_with fail
        refine Calls.mono CS.out ?_
        rintro r w8 ⟨rfl, K10⟩
        have S8 := S7.out.next D.out K10
        have K11 := K9.out.then K10
        replace K10 := Lib.hid K10
        replace S8 := Lib.hid S8
        replace K11 := Lib.hid K11
        go_wp2_with fail
        go_roundw
        case rel => exact ⟨k + 1, M, _, by go_num, by omega, S8.out.mono (by omega), K11.out⟩
        case measure => simp [intOf]; omega
      | true =>
        have CA := st_all D.out S3.out ra wa.out
        replace CA := Lib.hid CA
        go_wp2_with fail
        refine Calls.mono CA.out ?_
        rintro r w5 ⟨va, rfl, MA, K5⟩
        have S5 := S3.out.next D.out K5
        have nT := S3.out.below.no
        have Kc := K3.out.then K5
        have K0 : Keep nob w5 w5.drew := (Keep.refl nob w5).drew
        have Q0 := K5.some r0 (fun x => x)
        have Q1 := K5.some r1 (fun x => x)
        have Q2 := K5.some r2 (fun x => x)
        have Q3 := K5.some r3 (fun x => x)
        have Q4 := K5.some r4 (fun x => x)
        have Q5 := K5.some r5 (fun x => x)
        have Q6 := K5.some r6 (fun x => x)
        replace MA := Lib.hid MA
        replace S5 := Lib.hid S5
        replace Kc := Lib.hid Kc
        replace K5 := Lib.hid K5
        replace nT := Lib.hid nT
        replace K0 := Lib.hid K0
        clear r0 r1 r2 r3 r4 r5 r6 S3 K3 CA
        by_cases d3 : d = 3
        · have t5 : (d == 3) = true := by simpa using d3
          have CM := st_map (tab_keep hT.out (KW.out.then (Kc.out.then K0.out))) D.out (S5.out.next D.out K0.out) (by omega) rb pg wb.out ⟨ep, eq, ec, ef⟩
          unfold Ent.val at CM
          dsimp only at CM
          replace CM := Lib.hid CM
          go_wp2_with fail
          go_still_tail 12, (by kernel_rfl)
          change wpList _ _ _ _ _ w5.drew
          have Q2 : w5.drew.cell? ⟨gg, og + k * 7 + 2, none⟩ = some (.int .i64 pg) := Q2
          have Q3 : w5.drew.cell? ⟨gg, og + k * 7 + 3, none⟩ = some (.bool ep) := Q3
          have Q4 : w5.drew.cell? ⟨gg, og + k * 7 + 4, none⟩ = some (.bool eq) := Q4
          have Q5 : w5.drew.cell? ⟨gg, og + k * 7 + 5, none⟩ = some (.bool ec) := Q5
          have Q6 : w5.drew.cell? ⟨gg, og + k * 7 + 6, none⟩ = some (.int .i64 ef) := Q6
          go_wp2_with fail
          refine Calls.mono CM.out ?_
          rintro r w6 ⟨rfl, S6, K6⟩
          have MA6 := (MA.out.keep K0.out (fun _ _ x => x)).keep K6 nT.out
          have K7 := Si.out.keep (Kc.out.then K0.out) K6
          obtain ⟨M', hM'⟩ : ∃ M', mapM B.n M g left rb pg ⟨ep, eq, ec, ef⟩ = M' := ⟨_, rfl⟩
          have eo : allA M' g ra = allA M g ra := by rw [← hM']; exact allA_other (fun p => mapM_other B.n M g left rb pg ⟨ep, eq, ec, ef⟩ (Ne.symm ne.out) p)
          obtain ⟨left', hl'⟩ : ∃ left', mapL B.n M g left rb pg ⟨ep, eq, ec, ef⟩ = left' := ⟨_, rfl⟩
          rw [hl'] at S6
          rw [hM'] at S6
          have CB := st_all D.out S6 ra wa.out
          rw [eo] at CB
          replace S6 := Lib.hid S6
          replace MA6 := Lib.hid MA6
          replace K7 := Lib.hid K7
          replace CB := Lib.hid CB
          clear Q0 Q1 Q2 Q3 Q4 Q5 Q6
          go_wp2_with fail
          refine Calls.mono CB.out ?_
          rintro r w7 ⟨vb, rfl, MB, K8⟩
          have CS := same10_ok (MB.is (Nat.le_trans (allA_len _ _ _) (by decide))) ((MA6.out.keep K8 (fun _ _ x => x)).is (Nat.le_trans (allA_len _ _ _) (by decide)))
          rw [decide_eq_true rfl] at CS
          have S7 := S6.out.next D.out K8
          have K9 := K7.out.then K8
          replace MB := Lib.hid MB
          replace K8 := Lib.hid K8
          replace CS := Lib.hid CS
          replace S7 := Lib.hid S7
          replace K9 := Lib.hid K9
          go_wp2_with fail
          refine Calls.mono CS.out ?_
          rintro r w8 ⟨rfl, K10⟩
          have S8 := S7.out.next D.out K10
          have K11 := K9.out.then K10
          replace K10 := Lib.hid K10
          replace S8 := Lib.hid S8
          replace K11 := Lib.hid K11
          go_wp2_with fail
          go_roundw
          case rel => exact ⟨k + 1, M', _, by go_num, by omega, S8.out, K11.out⟩
          case measure => simp [intOf]; omega
        have t5 : (d == 3) = false := by simpa using d3
        by_cases d4 : d = 4
        · have t6 : (d == 4) = true := by simpa using d4
          have CM := st_unmap D.out S5.out (by omega) rb pg wb.out
          replace CM := Lib.hid CM
          go_wp2_with fail
          refine Calls.mono CM.out ?_
          rintro r w6 ⟨rfl, S6, K6⟩
          have MA6 := MA.out.keep K6 nT.out
          have K7 := Si.out.keep Kc.out K6
          obtain ⟨M', hM'⟩ : ∃ M', unmM M g rb pg = M' := ⟨_, rfl⟩
          have eo : allA M' g ra = allA M g ra := by rw [← hM']; exact allA_other (fun p => unmM_other M g rb pg (Ne.symm ne.out) p)
          obtain ⟨left', hl'⟩ : ∃ left', unmL M g left rb pg = left' := ⟨_, rfl⟩
          rw [hl'] at S6
          rw [hM'] at S6
          have CB := st_all D.out S6 ra wa.out
          rw [eo] at CB
          replace S6 := Lib.hid S6
          replace MA6 := Lib.hid MA6
          replace K7 := Lib.hid K7
          replace CB := Lib.hid CB
          clear Q0 Q1 Q2 Q3 Q4 Q5 Q6
          go_wp2_with fail
          refine Calls.mono CB.out ?_
          rintro r w7 ⟨vb, rfl, MB, K8⟩
          have CS := same10_ok (MB.is (Nat.le_trans (allA_len _ _ _) (by decide))) ((MA6.out.keep K8 (fun _ _ x => x)).is (Nat.le_trans (allA_len _ _ _) (by decide)))
          rw [decide_eq_true rfl] at CS
          have S7 := S6.out.next D.out K8
          have K9 := K7.out.then K8
          replace MB := Lib.hid MB
          replace K8 := Lib.hid K8
          replace CS := Lib.hid CS
          replace S7 := Lib.hid S7
          replace K9 := Lib.hid K9
          go_wp2_with fail
          refine Calls.mono CS.out ?_
          rintro r w8 ⟨rfl, K10⟩
          have S8 := S7.out.next D.out K10
          have K11 := K9.out.then K10
          replace K10 := Lib.hid K10
          replace S8 := Lib.hid S8
          replace K11 := Lib.hid K11
          go_wp2_with fail
          go_roundw
          case rel => exact ⟨k + 1, M', _, by go_num, by omega, S8.out, K11.out⟩
          case measure => simp [intOf]; omega
        have t6 : (d == 4) = false := by simpa using d4
        by_cases d5 : d = 5
        · have t7 : (d == 5) = true := by simpa using d5
          have CM := st_set D.out (S5.out.next D.out K0.out) rb pg wb.out ⟨ep, eq, ec, ef⟩
          unfold Ent.val at CM
          dsimp only at CM
          replace CM := Lib.hid CM
          go_wp2_with fail
          go_still_tail 12, (by kernel_rfl)
          change wpList _ _ _ _ _ w5.drew
          have Q2 : w5.drew.cell? ⟨gg, og + k * 7 + 2, none⟩ = some (.int .i64 pg) := Q2
          have Q3 : w5.drew.cell? ⟨gg, og + k * 7 + 3, none⟩ = some (.bool ep) := Q3
          have Q4 : w5.drew.cell? ⟨gg, og + k * 7 + 4, none⟩ = some (.bool eq) := Q4
          have Q5 : w5.drew.cell? ⟨gg, og + k * 7 + 5, none⟩ = some (.bool ec) := Q5
          have Q6 : w5.drew.cell? ⟨gg, og + k * 7 + 6, none⟩ = some (.int .i64 ef) := Q6
          go_wp2_with fail
          refine Calls.mono CM.out ?_
          rintro r w6 ⟨rfl, S6, K6⟩
          have MA6 := (MA.out.keep K0.out (fun _ _ x => x)).keep K6 nT.out
          have K7 := Si.out.keep (Kc.out.then K0.out) K6
          obtain ⟨M', hM'⟩ : ∃ M', setM B.n M g rb pg ⟨ep, eq, ec, ef⟩ = M' := ⟨_, rfl⟩
          have eo : allA M' g ra = allA M g ra := by rw [← hM']; exact allA_other (fun p => setM_other B.n M g rb pg ⟨ep, eq, ec, ef⟩ (Ne.symm ne.out) p)
          rw [hM'] at S6
          have CB := st_all D.out S6 ra wa.out
          rw [eo] at CB
          replace S6 := Lib.hid S6
          replace MA6 := Lib.hid MA6
          replace K7 := Lib.hid K7
          replace CB := Lib.hid CB
          clear Q0 Q1 Q2 Q3 Q4 Q5 Q6
          go_wp2_with fail
          refine Calls.mono CB.out ?_
          rintro r w7 ⟨vb, rfl, MB, K8⟩
          have CS := same10_ok (MB.is (Nat.le_trans (allA_len _ _ _) (by decide))) ((MA6.out.keep K8 (fun _ _ x => x)).is (Nat.le_trans (allA_len _ _ _) (by decide)))
          rw [decide_eq_true rfl] at CS
          have S7 := S6.out.next D.out K8
          have K9 := K7.out.then K8
          replace MB := Lib.hid MB
          replace K8 := Lib.hid K8
          replace CS := Lib.hid CS
          replace S7 := Lib.hid S7
          replace K9 := Lib.hid K9
          go_wp2_with fail
          refine Calls.mono CS.out ?_
          rintro r w8 ⟨rfl, K10⟩
          have S8 := S7.out.next D.out K10
          have K11 := K9.out.then K10
          replace K10 := Lib.hid K10
          replace S8 := Lib.hid S8
          replace K11 := Lib.hid K11
          go_wp2_with fail
          go_roundw
          case rel => exact ⟨k + 1, M', _, by go_num, by omega, S8.out.mono (by omega), K11.out⟩
          case measure => simp [intOf]; omega
        have t7 : (d == 5) = false := by simpa using d5
        have S6 := S5.out
        have MA6 := MA.out
        have K7 := Kc.out
        obtain ⟨M', hM'⟩ : ∃ M', M = M' := ⟨_, rfl⟩
        subst hM'
        have CB := st_all D.out S6 ra wa.out
        replace S6 := Lib.hid S6
        replace MA6 := Lib.hid MA6
        replace K7 := Lib.hid K7
        replace CB := Lib.hid CB
        go_wp2_with fail
        refine Calls.mono CB.out ?_
        rintro r w7 ⟨vb, rfl, MB, K8⟩
        have CS := same10_ok (MB.is (Nat.le_trans (allA_len _ _ _) (by decide))) ((MA6.out.keep K8 (fun _ _ x => x)).is (Nat.le_trans (allA_len _ _ _) (by decide)))
        rw [decide_eq_true rfl] at CS
        have S7 := S6.out.next D.out K8
        have K9 := K7.out.then K8
        replace MB := Lib.hid MB
        replace K8 := Lib.hid K8
        replace CS := Lib.hid CS
        replace S7 := Lib.hid S7
        replace K9 := Lib.hid K9
        go_wp2_with fail
        refine Calls.mono CS.out ?_
        rintro r w8 ⟨rfl, K10⟩
        have S8 := S7.out.next D.out K10
        have K11 := K9.out.then K10
        replace K10 := Lib.hid K10
        replace S8 := Lib.hid S8
        replace K11 := Lib.hid K11
        go_wp2_with fail
        go_roundw
        case rel => exact ⟨k + 1, M, _, by go_num, by omega, S8.out.mono (by omega), K11.out⟩
        case measure => simp [intOf]; omega
    · have t4 : decide (k < l.length) = false := by simpa using hlt
      have CA := st_all D.out S3.out ra wa.out
      replace CA := Lib.hid CA
      clear hlt
      go_wp2_with fail
      refine Calls.mono CA.out ?_
      rintro r w5 ⟨va, rfl, MA, K5⟩
      have S5 := S3.out.next D.out K5
      have nT := S3.out.below.no
      have Kc := K3.out.then K5
      have CM := st_set D.out S5 ra page wa.out ⟨p, v, cc, fr⟩
      have eL := allA_set B.n M g ra page ⟨p, v, cc, fr⟩
      obtain ⟨M', hM'⟩ : ∃ M', setM B.n M g ra page ⟨p, v, cc, fr⟩ = M' := ⟨_, rfl⟩
      obtain ⟨G, hG⟩ : ∃ G, setA B.n M g ra page ⟨p, v, cc, fr⟩ = G := ⟨_, rfl⟩
      rw [hM', hG] at CM eL
      obtain ⟨l1, hl1⟩ : ∃ l1, allA M g ra = l1 := ⟨_, rfl⟩
      obtain ⟨l2, hl2⟩ : ∃ l2, allA M' g ra = l2 := ⟨_, rfl⟩
      have ll1 : l1.length ≤ 1024 := by rw [← hl1]; exact allA_len _ _ _
      rw [hl1, hl2] at eL
      rw [hl1] at MA
      obtain ⟨d0, d1, d2, d3, -, -, -, -⟩ := E.out.next Kc
      unfold Ent.val at CM
      dsimp only at CM
      replace MA := Lib.hid MA
      replace S5 := Lib.hid S5
      replace nT := Lib.hid nT
      replace Kc := Lib.hid Kc
      replace K5 := Lib.hid K5
      replace CM := Lib.hid CM
      replace hM' := Lib.hid hM'
      replace hG := Lib.hid hG
      replace hl1 := Lib.hid hl1
      replace hl2 := Lib.hid hl2
      replace eL := Lib.hid eL
      replace ll1 := Lib.hid ll1
      clear CA
      go_wp2_with fail
      refine Calls.mono CM.out ?_
      rintro r w6 ⟨rfl, S6, K6⟩
      have MA6 := MA.out.keep K6 nT.out
      have K7 := Si.out.keep Kc.out K6
      have CB := st_all D.out S6 ra wa.out
      rw [hl2.out] at CB
      replace MA6 := Lib.hid MA6
      replace K7 := Lib.hid K7
      replace S6 := Lib.hid S6
      replace K6 := Lib.hid K6
      replace CB := Lib.hid CB
      clear d0 d1 d2 d3
      go_wp2_with fail
      refine Calls.mono CB.out ?_
      rintro r w7 ⟨vb, rfl, MB, K8⟩
      have MA7 := MA6.out.keep K8 (fun _ _ x => x)
      have K9 := K7.out.then K8
      have le : l2.length = l1.length := by rw [eL.out, List.length_map]
      obtain ⟨aa, ca, rfl⟩ := maps_len MA7
      obtain ⟨ab, cb, rfl⟩ := maps_len MB
      rw [le]
      have I1 := MA7.is (by have := ll1.out; omega)
      have I2 := MB.is (by have := ll1.out; omega)
      have rel : ∀ (j : Nat) (y : Nat × Ent), l1[j]? = some y → l2[j]? = some (y.1, if G = 0 ∧ (y.1 : Int) = page then ⟨p, v, cc, fr⟩ else y.2) := by
        intro j y hy
        rw [eL.out, List.getElem?_map, hy]
        rfl
      obtain ⟨a1, c1, hv1, m1, p1, g1⟩ := I1
      obtain ⟨a2, c2, hv2, m2, p2, g2⟩ := I2
      injection hv1 with y1 _ y3
      subst y1; subst y3
      injection hv2 with y1 _ y3
      subst y1; subst y3
      replace MA7 := Lib.hid MA7
      replace MB := Lib.hid MB
      replace K8 := Lib.hid K8
      replace K9 := Lib.hid K9
      replace le := Lib.hid le
      replace rel := Lib.hid rel
      replace g1 := Lib.hid g1
      replace g2 := Lib.hid g2
      clear S3 K3 MA S5 nT Kc K5 CM hM' hG hl1 hl2 eL MA6 K7 S6 K6 CB
      go_wp2_with fail
      have E7 := E.out.next K9.out
      replace E7 := Lib.hid E7
      go_loopw [24] (fun i wr => Inv2 w7 l1.length i wr) (fun i _ => (l1.length - intOf i).toNat)
      case atStart => exact ⟨0, rfl, Nat.zero_le _, Keep.refl _ _⟩
      case round =>
        obtain ⟨j, rfl, hj, K3⟩ := hrel
        by_cases hlt : j < l1.length
        · have hlt2 : j < l2.length := by rw [le.out]; exact hlt
          have n1 : l1 ≠ [] := by intro e; rw [e] at hlt; simp at hlt
          have n2 : l2 ≠ [] := by intro e; rw [e] at hlt2; simp at hlt2
          obtain ⟨ga, oa, z1, ca1⟩ := g1.out n1
          obtain ⟨gb, ob, z2, ca2⟩ := g2.out n2
          have x1 := List.getElem?_eq_getElem hlt
          obtain ⟨⟨n, ⟨ep, eq, ec, ef⟩⟩, hx⟩ : ∃ x, l1[j] = x := ⟨_, rfl⟩
          rw [hx] at x1
          have x2 := rel.out j _ x1
          have q1 : ((j : Int) < (l1.length : Int)) := by omega
          have a0 : wr.cell? ⟨ga, oa + j * 5, none⟩ = some (.int .i64 n) := K3.some (ca1 j _ x1 0 _ rfl) (fun x => x)
          have a1 : wr.cell? ⟨ga, oa + j * 5 + 1, none⟩ = some (.bool ep) := K3.some (ca1 j _ x1 1 _ rfl) (fun x => x)
          have a2 : wr.cell? ⟨ga, oa + j * 5 + 2, none⟩ = some (.bool eq) := K3.some (ca1 j _ x1 2 _ rfl) (fun x => x)
          have a3 : wr.cell? ⟨ga, oa + j * 5 + 3, none⟩ = some (.bool ec) := K3.some (ca1 j _ x1 3 _ rfl) (fun x => x)
          have a4 : wr.cell? ⟨ga, oa + j * 5 + 4, none⟩ = some (.int .i64 ef) := K3.some (ca1 j _ x1 4 _ rfl) (fun x => x)
          have b0 : wr.cell? ⟨gb, ob + j * 5, none⟩ = some (.int .i64 n) := K3.some (ca2 j _ x2 0 _ rfl) (fun x => x)
          have E8 := E7.out.next K3
          by_cases hc : G = 0 ∧ (n : Int) = page
          · rw [if_pos hc] at x2
            obtain ⟨rfl, rfl⟩ := hc
            have b1 : wr.cell? ⟨gb, ob + j * 5 + 1, none⟩ = some (.bool p) := K3.some (ca2 j _ x2 1 _ rfl) (fun x => x)
            have b2 : wr.cell? ⟨gb, ob + j * 5 + 2, none⟩ = some (.bool v) := K3.some (ca2 j _ x2 2 _ rfl) (fun x => x)
            have b3 : wr.cell? ⟨gb, ob + j * 5 + 3, none⟩ = some (.bool cc) := K3.some (ca2 j _ x2 3 _ rfl) (fun x => x)
            have b4 : wr.cell? ⟨gb, ob + j * 5 + 4, none⟩ = some (.int .i64 fr) := K3.some (ca2 j _ x2 4 _ rfl) (fun x => x)
            subst z1
            subst z2
            have UA := fun o => E8.next ((Keep.refl nob wr).alloc o)
            have d0 := fun o => (UA o).c0
            have d1 := fun o => (UA o).c1
            have d2 := fun o => (UA o).c2
            have d3 := fun o => (UA o).c3
            have f0 := fun o => ((Keep.refl nob wr).alloc o).some a0 (fun x => x)
            replace K3 := Lib.hid K3
            replace E8 := Lib.hid E8
            replace UA := Lib.hid UA
            replace hx := Lib.hid hx
            replace x1 := Lib.hid x1
            replace x2 := Lib.hid x2
            clear ca1 ca2
            go_wp2_with fail
            have KA : Keep nob wr (wr.alloc (.cells #[.bool p, .bool v, .bool cc, .int .i64 fr] 69)) := (Keep.refl _ _).alloc _
            obtain ⟨Y0, Y1, Y2, Y3, -, -, -, -⟩ := EntAt.new wr p v cc fr 69
            have A0 := KA.some a0 (fun x => x)
            have B0 := KA.some b0 (fun x => x)
            have B1 := KA.some b1 (fun x => x)
            have B2 := KA.some b2 (fun x => x)
            have B3 := KA.some b3 (fun x => x)
            have B4 := KA.some b4 (fun x => x)
            have hneq : ∀ w, (binOp .neq 69 (.agg #[.bool p, .bool v, .bool cc, .int .i64 fr]) (.agg #[.bool p, .bool v, .bool cc, .int .i64 fr])).run Tryd.prog w = .ok (.bool false) w := by
              intro w
              rw [neEnt, decide_eq_true rfl]
              rfl
            obtain ⟨W4, hW4⟩ : ∃ W4, W4 = wr.alloc (.cells #[.bool p, .bool v, .bool cc, .int .i64 fr] 69) := ⟨_, rfl⟩
            rw [← hW4] at KA Y0 Y1 Y2 Y3 A0 B0 B1 B2 B3 B4
            rw [← hW4]
            replace KA := Lib.hid KA
            replace hW4 := Lib.hid hW4
            clear a0 a1 a2 a3 a4 b0 b1 b2 b3 b4 d0 d1 d2 d3 f0
            go_quiet (fail)
            go_wp2_with fail
            go_roundw
            case rel => exact ⟨j + 1, by go_num, by omega, (K3.out.then KA.out).then (Keep.drewN (Keep.refl _ _) _)⟩
            case measure => simp [intOf]; omega
          · rw [if_neg hc] at x2
            have b1 : wr.cell? ⟨gb, ob + j * 5 + 1, none⟩ = some (.bool ep) := K3.some (ca2 j _ x2 1 _ rfl) (fun x => x)
            have b2 : wr.cell? ⟨gb, ob + j * 5 + 2, none⟩ = some (.bool eq) := K3.some (ca2 j _ x2 2 _ rfl) (fun x => x)
            have b3 : wr.cell? ⟨gb, ob + j * 5 + 3, none⟩ = some (.bool ec) := K3.some (ca2 j _ x2 3 _ rfl) (fun x => x)
            have b4 : wr.cell? ⟨gb, ob + j * 5 + 4, none⟩ = some (.int .i64 ef) := K3.some (ca2 j _ x2 4 _ rfl) (fun x => x)
            subst z1
            subst z2
            have d0 := trivial
            have d1 := trivial
            have d2 := trivial
            have d3 := trivial
            have f0 := fun o => ((Keep.refl nob wr).alloc o).some a0 (fun x => x)
            replace K3 := Lib.hid K3
            replace E8 := Lib.hid E8
            replace hx := Lib.hid hx
            replace x1 := Lib.hid x1
            replace x2 := Lib.hid x2
            clear ca1 ca2
            by_cases hG : G = 0
            · subst hG
              have tp : ((n : Int) == page) = false := by
                have : ¬ (n : Int) = page := fun q => hc ⟨rfl, q⟩
                simpa using this
              clear hc
              go_wp2_with fail
              have KA : Keep nob wr (wr.alloc (.cells #[.bool ep, .bool eq, .bool ec, .int .i64 ef] 69)) := (Keep.refl _ _).alloc _
              obtain ⟨Y0, Y1, Y2, Y3, -, -, -, -⟩ := EntAt.new wr ep eq ec ef 69
              have A0 := KA.some a0 (fun x => x)
              have B0 := KA.some b0 (fun x => x)
              have B1 := KA.some b1 (fun x => x)
              have B2 := KA.some b2 (fun x => x)
              have B3 := KA.some b3 (fun x => x)
              have B4 := KA.some b4 (fun x => x)
              have hneq : ∀ w, (binOp .neq 69 (.agg #[.bool ep, .bool eq, .bool ec, .int .i64 ef]) (.agg #[.bool ep, .bool eq, .bool ec, .int .i64 ef])).run Tryd.prog w = .ok (.bool false) w := by
                intro w
                rw [neEnt, decide_eq_true rfl]
                rfl
              obtain ⟨W4, hW4⟩ : ∃ W4, W4 = wr.alloc (.cells #[.bool ep, .bool eq, .bool ec, .int .i64 ef] 69) := ⟨_, rfl⟩
              rw [← hW4] at KA Y0 Y1 Y2 Y3 A0 B0 B1 B2 B3 B4
              rw [← hW4]
              replace KA := Lib.hid KA
              replace hW4 := Lib.hid hW4
              clear a0 a1 a2 a3 a4 b0 b1 b2 b3 b4 d0 d1 d2 d3 f0
              go_quiet (fail)
              go_wp2_with fail
              go_roundw
              case rel => exact ⟨j + 1, by go_num, by omega, (K3.out.then KA.out).then (Keep.drewN (Keep.refl _ _) _)⟩
              case measure => simp [intOf]; omega
            · have tp : (G == 0) = false := by simpa using hG
              clear hc
              go_wp2_with fail
              have KA : Keep nob wr (wr.alloc (.cells #[.bool ep, .bool eq, .bool ec, .int .i64 ef] 69)) := (Keep.refl _ _).alloc _
              obtain ⟨Y0, Y1, Y2, Y3, -, -, -, -⟩ := EntAt.new wr ep eq ec ef 69
              have A0 := KA.some a0 (fun x => x)
              have B0 := KA.some b0 (fun x => x)
              have B1 := KA.some b1 (fun x => x)
              have B2 := KA.some b2 (fun x => x)
              have B3 := KA.some b3 (fun x => x)
              have B4 := KA.some b4 (fun x => x)
              have hneq : ∀ w, (binOp .neq 69 (.agg #[.bool ep, .bool eq, .bool ec, .int .i64 ef]) (.agg #[.bool ep, .bool eq, .bool ec, .int .i64 ef])).run Tryd.prog w = .ok (.bool false) w := by
                intro w
                rw [neEnt, decide_eq_true rfl]
                rfl
              obtain ⟨W4, hW4⟩ : ∃ W4, W4 = wr.alloc (.cells #[.bool ep, .bool eq, .bool ec, .int .i64 ef] 69) := ⟨_, rfl⟩
              rw [← hW4] at KA Y0 Y1 Y2 Y3 A0 B0 B1 B2 B3 B4
              rw [← hW4]
              replace KA := Lib.hid KA
              replace hW4 := Lib.hid hW4
              clear a0 a1 a2 a3 a4 b0 b1 b2 b3 b4 d0 d1 d2 d3 f0
              go_quiet (fail)
              go_wp2_with fail
              go_roundw
              case rel => exact ⟨j + 1, by go_num, by omega, (K3.out.then KA.out).then (Keep.drewN (Keep.refl _ _) _)⟩
              case measure => simp [intOf]; omega
        · have t5 : decide (j < l1.length) = false := by simpa using hlt
          have Kx := KW.out.then (K9.out.then K3)
          have AW := awake10 wr (tab_keep hT.out Kx)
          replace Kx := Lib.hid Kx
          replace AW := Lib.hid AW
          replace K3 := Lib.hid K3
          clear hlt
          go_wp2_with fail
          refine Calls.mono AW.out ?_
          rintro r w8 ⟨rfl, K12⟩
          replace K12 := Lib.hid K12
          go_wp2_with fail
          go_ret
          exact ⟨rfl, Kx.out.then K12.out⟩
theorem walk_else (n page : Int) (a : Option Addr) (len cap : Nat) (h : ¬ (4 ≤ n ∧ n ≤ 30 ∧ len ≤ 60)) (e : Ent) (w : World) (hT : TabAt 0 Lib.deBruijn64tab w) :
    Calls Tryd.prog 14 #[.int .i64 n, .slice a len cap, .int .i64 page, e.val] w fun e w' => e = .returned (.bool true) ∧ Keep nob w w' := by
  obtain ⟨p, v, cc, fr⟩ := e
  have KW : Keep nob w (w.alloc (.cells #[.bool p, .bool v, .bool cc, .int .i64 fr] 69)) := (Keep.refl _ _).alloc _
  have AW := awake10 _ (tab_keep hT KW)
  unfold Ent.val
  dsimp only
  replace KW := Lib.hid KW
  replace AW := Lib.hid AW
  replace hT := Lib.hid hT
  have T : (decide (n < 4) || decide (30 < n) || decide ((60 : Int) < len)) = true := by simp; omega
  rcases Bool.eq_false_or_eq_true (decide (n < 4)) with t1 | t1 <;> rcases Bool.eq_false_or_eq_true (decide (30 < n)) with t2 | t2 <;> rcases Bool.eq_false_or_eq_true (decide ((60 : Int) < len)) with t3 | t3 <;> simp only [t1, t2, t3] at T <;> first | (exact absurd T (by decide)) | skip
  all_goals
    clear T h
    go_enter Tryd.func14, Tryd.ntmps14
    go_wp2_with fail
    refine Calls.mono AW.out ?_
    rintro r w5 ⟨rfl, K6⟩
    replace K6 := Lib.hid K6
    go_wp2_with fail
    go_ret
    exact ⟨rfl, KW.out.then K6.out⟩
theorem walk (n : Int) (v : Value) (l : List Op10) (page : Int) (v3 : Value) (e : Ent) (w : World) (w0 : (Lit.int .i64 n).wf = true) (w1 : OpsAt w v l ∧ ∀ o ∈ l, op10Fine o) (w2 : (Lit.int .i64 page).wf = true) (w3 : EntIs v3 e) (hT : TabAt 0 Lib.deBruijn64tab w) :
    Calls Tryd.prog 14 #[.int .i64 n, v, .int .i64 page, v3] w fun e w' => e = .returned (.bool true) ∧ Keep nob w w' := by
  obtain ⟨rfl, -⟩ := w3
  by_cases h : 4 ≤ n ∧ n ≤ 30 ∧ l.length ≤ 60
  · obtain ⟨N, rfl⟩ : ∃ m : Nat, n = m := ⟨n.toNat, by omega⟩
    exact walk_in N (by omega) (by omega) v l h.2.2 page e w w1.1 w1.2 hT (wfI_of w2)
  · obtain ⟨⟨a, cap, rfl, hm, hcap, hc⟩, hf⟩ := w1
    exact walk_else n page a _ cap h e w hT
set_option maxRecDepth 100000 in
theorem lifted (os : Os) (started : os.Started) (H : Type) (enc : TypeId × Value → H) :
    ReturnsInHanded {} Tryd.checked os 14 .any (fun w args => (Rows.ptableTwoSpec.pre enc Tryd.prog Tryd.f14 [] false w args ∧ laidMetH Tryd.prog Laid.list w) ∧ sizedMet enc Tryd.prog Tryd.f14 (OpenSpec.ofChange Rows.ptableTwoSpec) false w args) (Rows.ptableTwoSpec.post enc Tryd.prog Tryd.f14 false true false false) := by
  refine returnsInHanded_of_change_and (C := Tryd.checked) (X := fun w _ => laidMetH Tryd.prog Laid.list w) (fun _ _ _ hh h => h.of_heap hh) Head.own started (by kernel_rfl) Tryd.func14
    (ChangeSpec.witness_shaped (enc := enc) (C := Tryd.checked) (os := os) (X := fun w _ => laidMetH Tryd.prog Laid.list w) false (World.doorLaid Tryd.prog Laid.steps os) #[.int .i64 0, .slice none 0 0, .int .i64 0, .agg #[.bool false,.bool false,.bool false,.int .i64 0]] 8 rfl (World.shaped_of_RefB (by kernel_rfl) (by kernel_rfl)) (by kernel_rfl) (by kernel_rfl) (by kernel_rfl) (Laid.met os _)) ?_
  intro W base args ds gs before hval0 hW _ _ hL _
  have hval : ∀ (j : Nat) t v, Tryd.f14.params[j]? = some t → args[j]? = some v → Value.okWide Tryd.prog W .any base t v := hval0
  have hW' := hW
  obtain ⟨p, q, hA0, hV, rfl, hfz, hnd⟩ := hW
  have hA : DataW.TrodAll enc Tryd.prog W 0 (fun _ => true) true Tryd.f14.params.toList args.toList ds p := hA0
  rw [Tryd.params14] at hA hval
  obtain ⟨v0, vs0, d0, ds0, p0, q0, hargs, rfl, rfl, h0, r0⟩ := trodAll_cons hA
  obtain ⟨v1, vs1, d1, ds1, p1, q1, rfl, rfl, rfl, h1, r1⟩ := trodAll_cons r0
  obtain ⟨v2, vs2, d2, ds2, p2, q2, rfl, rfl, rfl, h2, r2⟩ := trodAll_cons r1
  obtain ⟨v3, vs3, d3, ds3, p3, q3, rfl, rfl, rfl, h3, r3⟩ := trodAll_cons r2
  obtain ⟨rfl, rfl, rfl⟩ := trodAll_nil r3
  obtain rfl : args = #[v0, v1, v2, v3] := by cases args; simp_all
  obtain ⟨rfl, rfl⟩ := trodVars_none hV
  have k0 := h0
  have lt0 : ∀ x ∈ p0, x.block < W.heap.size := by obtain ⟨m, hm⟩ := k0; exact DataW.trod_lt m _ _ _ hm
  obtain ⟨a0, rfl, rfl, rfl, w0⟩ := open_int Tryd.underlying3 (hval 0 3 v0 rfl rfl) h0
  have k1 := h1
  have lt1 : ∀ x ∈ p1, x.block < W.heap.size := by obtain ⟨m, hm⟩ := k1; exact DataW.trod_lt m _ _ _ hm
  obtain ⟨a1, w1⟩ := open_ops10 (hval 1 82 v1 rfl rfl) h1
  have k2 := h2
  have lt2 : ∀ x ∈ p2, x.block < W.heap.size := by obtain ⟨m, hm⟩ := k2; exact DataW.trod_lt m _ _ _ hm
  obtain ⟨a2, rfl, rfl, rfl, w2⟩ := open_int Tryd.underlying3 (hval 2 3 v2 rfl rfl) h2
  have k3 := h3
  have lt3 : ∀ x ∈ p3, x.block < W.heap.size := by obtain ⟨m, hm⟩ := k3; exact DataW.trod_lt m _ _ _ hm
  obtain ⟨a3, w3⟩ := open_ent (hval 3 69 v3 rfl rfl) h3
  clear hA0 hval0
  refine (walk a0 v1 a1 a2 v3 a3 W w0 w1 w2 w3 (Laid.tab hL)).mono fun e W' ⟨he, kp⟩ => ?_
  subst he
  have bel := kp.below
  exact ⟨_, rfl, _, _, _, [], _, [], hW', trodAll_mk1 (shut_bool Tryd.underlying4 _), (trodAll_cons_mk (shut_int Tryd.underlying3 w0) (trodAll_cons_mk (Below.trod Head.laidOut (by kernel_rfl) (of_decide_eq_true (by kernel_rfl)) k1 bel lt1) (trodAll_cons_mk (shut_int Tryd.underlying3 w2) (trodAll_cons_mk (Below.trod Head.laidOut (by kernel_rfl) (of_decide_eq_true (by kernel_rfl)) k3 bel lt3) trodAll_mk0)))), rfl, bel.frame _, fun h => by cases h⟩
theorem closed : joinedFacts Tryd.prog 14 Tryd.f14 Rows.ptableTwoSpec Rows.ptableTwoRow = true := by
  unfold joinedFacts
  rw [Head.mayEnter, Head.liftsFinal, Head.make]
  kernel_rfl
theorem over : Rows.ptableTwoRow.holds Tryd.pinned (OpenSpec.ofChange Rows.ptableTwoSpec) :=
  OpenClaim.holds_of_wide 14 Tryd.f14 rfl rfl rfl rfl rfl rfl rfl ⟨rfl, rfl, rfl, rfl, rfl⟩ rfl rfl rfl rfl rfl (by kernel_rfl) Tryd.func14 closed
    (of_decide_eq_true (by kernel_rfl)) (by unfold Func.isWrapper; first | (rw [if_pos (by decide +kernel)]; kernel_rfl) | (rw [if_neg (by decide +kernel)]; exact ⟨rfl, rfl⟩))
    (fun os started H enc _ => lifted os started H enc)
theorem row : Rows.PtableTwoSaid := over
theorem proved : Rows.PtableTwoCardSaid :=
  Claim7.holds_tied_plain_at .later [] [.data] true (true, "6f766e467f1f76f857c29113ad61a388d69ae06b2677fa7c12f1fa228f819649") false
    row (fun _ h => by cases h) (by kernel_rfl) (fun _ h => by cases h) ptableTwo_row_tie rfl ⟨rfl, rfl⟩ (by kernel_rfl) rfl
    (fun f fn hf hfn => by
      obtain rfl : f = 14 := Option.some.inj ((show Tryd.prog.funcNamed "priory/priorylaw10.PtableTwo" = some 14 by kernel_rfl).symm.trans hf) |>.symm
      obtain rfl : fn = Tryd.f14 := (Option.some.inj (Tryd.func14.symm.trans hfn)).symm
      exact ⟨by kernel_rfl, fun j t ht => by
        have hall : (Tryd.f14.params.toList.all fun u => !Tryd.prog.wantsStandIn u) = true := by kernel_rfl
        have hm : t ∈ Tryd.f14.params.toList := Array.mem_toList_iff.2 (Array.mem_of_getElem? ht)
        exact (show Tryd.prog.wantsStandIn t = false by simpa using List.all_eq_true.1 hall t hm)⟩)
    (by kernel_rfl)
end Go.Proofs.YtepmljcapobodaaDoor.ptableTwo
