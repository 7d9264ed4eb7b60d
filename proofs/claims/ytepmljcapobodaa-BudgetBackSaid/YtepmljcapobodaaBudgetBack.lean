/- A container that is opened and closed again, and what is charged and refunded, leaves all as it was. Condition: none beyond the statement's own. -/
import Derived.Test.YtepmljcapobodaaBudPlay
import Derived.Test.YtepmljcapobodaaHead
namespace Go.Proofs.Ytepmljcapobodaa.budgetBack
open Go.ChangeShapes Go.WideShapes Go.ChangeAt Go.RowKit
set_option linter.unusedVariables false
set_option linter.unusedSimpArgs false
set_option maxRecDepth 100000
/-! ### Plain -/
theorem add_add (l : List Nd) (id n : Int) : (l.map (addU id n)).map (addU id (-n)) = l := by
  rw [List.map_map]
  conv => rhs; rw [← List.map_id l]
  refine List.map_congr_left fun x _ => ?_
  show addU id (-n) (addU id n x) = x
  unfold addU
  by_cases e : x.id = id
  · rw [if_pos e]
    dsimp only
    rw [if_pos e]
    obtain ⟨a, b, c, d⟩ := x
    simp only [Nd.mk.injEq, true_and]
    omega
  · rw [if_neg e, if_neg e]
theorem add_zero (l : List Nd) (id : Int) : l.map (addU id 0) = l := by
  conv => rhs; rw [← List.map_id l]
  refine List.map_congr_left fun x _ => ?_
  show addU id 0 x = x
  unfold addU
  split
  · obtain ⟨a, b, c, d⟩ := x
    simp only [Int.add_zero]
  · rfl
theorem chg_back {l : List Nd} {id m : Int} (G : Good l) (h : chgN l id m = 0) : refN (chgL l id m) id m = 0 ∧ refL (chgL l id m) id m = l := by
  obtain ⟨h1, h2, h3⟩ := chg_ok h
  have e : chgL l id m = l.map (addU id m) := by unfold chgL; rw [if_pos h]
  have n0 : refN (chgL l id m) id m = 0 := by
    rw [e]
    unfold refN
    rw [if_pos (fitsN_iff.2 h1), add_find]
    cases q : findN l id with
    | none => exact absurd q h2
    | some x =>
      have := (findN_some q).2
      have u0 := (G.rng x (findN_some q).1).2.2.1
      simp only [Option.map_some, addU, this, if_true]
      rw [if_neg (by omega)]
  refine ⟨n0, ?_⟩
  unfold refL
  rw [if_pos n0, e]
  exact add_add l id m
theorem chg_none {l : List Nd} {id m : Int} (h : chgN l id m ≠ 0) : chgL l id m = l := by unfold chgL; rw [if_neg h]
theorem del_ins {l : List Nd} {x : Nd} (h : findN l x.id = none) : delN (insN l x) x.id = l := by
  unfold delN insN
  have ne : ∀ y ∈ l, (!decide (y.id = x.id)) = true := fun y hy => by simp [findN_none h y hy]
  rw [List.filter_append, List.filter_cons, if_neg (by simp)]
  rw [List.filter_eq_self.2 (fun y hy => ne y ((List.takeWhile_subset _) hy)), List.filter_eq_self.2 (fun y hy => ne y ((List.dropWhile_subset _) hy))]
  exact take_drop l x.id
theorem re_none {l : List Nd} {id up : Int} (h : ∀ x ∈ l, x.up ≠ id) : l.map (reUp id up) = l := by
  conv => rhs; rw [← List.map_id l]
  refine List.map_congr_left fun x hx => ?_
  show reUp id up x = x
  unfold reUp
  rw [if_neg (h x hx)]
theorem opn_back {l : List Nd} {id up n : Int} (G : Good l) (h : opnN l id up n = 0) : clsN (opnL l id up n) id = 0 ∧ clsL (opnL l id up n) id = l := by
  obtain ⟨h1, h2, h3, h4⟩ := opn_ok h
  have e : opnL l id up n = insN l ⟨id, up, n, 0⟩ := by unfold opnL; rw [if_pos h]
  have ef : findN (insN l ⟨id, up, n, 0⟩) id = some ⟨id, up, n, 0⟩ := by rw [ins_find h3, if_pos rfl]
  have n1 : id ≠ 1 := fun z => by rw [z] at h3; exact G.one h3
  have n0 : clsN (insN l ⟨id, up, n, 0⟩) id = 0 := by
    unfold clsN
    rw [if_pos (fitsN_iff.2 (by omega)), ef]
    dsimp only
    rw [if_neg (by rintro (z | z); exact n1 z; exact z rfl)]
  rw [e]
  refine ⟨n0, ?_⟩
  rw [clsL_eq n0 ef, show delN (insN l ⟨id, up, n, 0⟩) id = l from del_ins (x := ⟨id, up, n, 0⟩) h3]
  refine re_none fun x hx z => ?_
  by_cases q : x.up = 0
  · omega
  · have := G.ups x hx q
    rw [z] at this
    exact this h3
theorem cls_nine {l : List Nd} {id m : Int} (G : Good l) (h : chgN l id m = 0) (hm : 0 < m) : clsN (chgL l id m) id = 9 := by
  obtain ⟨h1, h2, h3⟩ := chg_ok h
  unfold chgL
  rw [if_pos h]
  unfold clsN
  rw [if_pos (fitsN_iff.2 (by omega)), add_find]
  cases q : findN l id with
  | none => exact absurd q h2
  | some x =>
    have := (findN_some q).2
    have u0 := (G.rng x (findN_some q).1).2.2.1
    simp only [Option.map_some, addU, this, if_true]
    rw [if_pos]
    right
    omega
theorem keep_was {w w' : World} {v : Value} {L : List Nd} {O O' : Nat → Prop} (N : NL w v L) (off : offB O v) (hO : ∀ k, O' k → O k ∨ w.heap.size ≤ k) (K : Keep O w w') : NL w' v L ∧ offB O' v := by
  refine ⟨N.keep K off, fun g hg ho => ?_⟩
  rcases hO g ho with e | e
  · exact off g hg e
  · have := N.lt g hg; omega
def InvB (w : World) (b len : Nat) (lv iv : Value) (wr : World) : Prop :=
  ∃ (k : Nat) (O : Nat → Prop) (l : List Nd), iv = .int .i64 k ∧ k ≤ len ∧ Both w wr b O (k + 1) l lv
set_option maxHeartbeats 0 in
theorem walk_in (q id0 up0 n0 m0 : Int) (h0 : 0 ≤ q) (h1 : q ≤ 65536) (v : Value) (l : List Op11) (hl : l.length ≤ 100) (w : World) (L : OpsAt11 w v l) (hf : ∀ o ∈ l, op11Fine o) :
    Calls Try.prog 8 #[.int .i64 q, v, .int .i64 id0, .int .i64 up0, .int .i64 n0, .int .i64 m0] w fun r w' => r = .returned (.bool true) ∧ Keep nob w w' := by
  obtain ⟨a, cap, rfl, hm, hcap, hcells⟩ := L
  have C := bw_new w q h0 h1
  have t1 : decide ((100 : Int) < l.length) = false := by simp; omega
  replace C := Lib.hid C
  replace hf := Lib.hid hf
  replace hcells := Lib.hid hcells
  go_enter Try.func8, Try.ntmps8
  go_wp2_with fail
  refine Calls.mono C.out ?_
  rintro r w1 ⟨b, O, rfl, S⟩
  have C2 := rnew_ok w1 q h0 h1
  replace C2 := Lib.hid C2
  replace S := Lib.hid S
  go_wp2_with fail
  refine Calls.mono C2.out ?_
  rintro r w2 ⟨v', rfl, N, hv, K2⟩
  have B : Both w w2 b O 1 [⟨1, 0, q, 0⟩] v' := ⟨S.out.next K2, N, fun g hg ho => by
    rcases hv with rfl | hv
    · cases hg
    · have := hv g hg; have := S.out.olt g ho; omega⟩
  replace B := Lib.hid B
  replace N := Lib.hid N
  replace hv := Lib.hid hv
  replace K2 := Lib.hid K2
  go_wp2_with fail
  go_loopw [15, 17] (fun lv iv wr => InvB w b l.length lv iv wr) (fun _ iv _ => (l.length - intOf iv).toNat)
  case atStart => exact ⟨0, O, _, rfl, Nat.zero_le _, B.out⟩
  case round =>
    obtain ⟨k, O3, ls, rfl, hk, B3⟩ := hrel
    by_cases hlt : k < l.length
    · have hne : l ≠ [] := by intro e; rw [e] at hlt; simp at hlt
      obtain ⟨gg, og, rfl, cs⟩ := hcells.out hne
      obtain ⟨⟨d, id, up, n⟩, ho⟩ : ∃ o, l[k] = o := ⟨_, rfl⟩
      have ho' : l[k]? = some ⟨d, id, up, n⟩ := by rw [← ho, List.getElem?_eq_getElem hlt]
      have K3 := B3.S.K
      have r0 : wr.cell? ⟨gg, og + k * 4, none⟩ = some (.int .i64 d) := K3.some (cs k _ ho' 0 _ rfl) (fun x => x)
      have r1 : wr.cell? ⟨gg, og + k * 4 + 1, none⟩ = some (.int .i64 id) := K3.some (cs k _ ho' 1 _ rfl) (fun x => x)
      have r2 : wr.cell? ⟨gg, og + k * 4 + 2, none⟩ = some (.int .i64 up) := K3.some (cs k _ ho' 2 _ rfl) (fun x => x)
      have r3 : wr.cell? ⟨gg, og + k * 4 + 3, none⟩ = some (.int .i64 n) := K3.some (cs k _ ho' 3 _ rfl) (fun x => x)
      have t4 : decide (k < l.length) = true := decide_eq_true hlt
      have kz : (0 : Int) ≤ k := by omega
      have kb : (k : Int) < l.length := by omega
      have CP := play11 B3 (by omega) ⟨d, id, up, n⟩
      unfold opV11 at CP
      dsimp only at CP
      replace ho := Lib.hid ho
      replace ho' := Lib.hid ho'
      replace B3 := Lib.hid B3
      replace CP := Lib.hid CP
      replace K3 := Lib.hid K3
      clear cs
      go_wp2_with fail
      refine Calls.mono CP.out ?_
      rintro r w5 ⟨v5, O5, rfl, B5, hO5, K5⟩
      replace B5 := Lib.hid B5
      replace hO5 := Lib.hid hO5
      replace K5 := Lib.hid K5
      go_wp2_with fail
      go_roundw
      case rel => exact ⟨k + 1, O5, _, by go_num, by omega, B5.out⟩
      case measure => simp [intOf]; omega
    · have t4 : decide (k < l.length) = false := decide_eq_false hlt
      have S := B3.S
      have G := S.G
      have CA := bw_all S
      clear B3
      replace S := Lib.hid S
      replace G := Lib.hid G
      replace CA := Lib.hid CA
      clear hlt
      go_wp2_with fail
      refine Calls.mono CA.out ?_
      rintro r w3 ⟨vw, rfl, MA, KA⟩
      have S3 := S.out.next KA
      have NW : NL w3 vw ls := own_base MA (Nat.zero_le _)
      have off3 : offB O3 vw := fun g hg ho => by
        have := (own_tag MA hg).1
        have := S.out.olt g ho
        omega
      have ln := G.out.len
      have C1 := bw_open S3 (by omega) id0 up0 n0
      replace S3 := Lib.hid S3
      replace NW := Lib.hid NW
      replace off3 := Lib.hid off3
      replace MA := Lib.hid MA
      replace KA := Lib.hid KA
      by_cases z1 : opnN ls id0 up0 n0 = 0
      · have BK := opn_back G.out z1
        have G1 : Good (opnL ls id0 up0 n0) := G.out.opn
        obtain ⟨L1, hL1⟩ : ∃ L1, opnL ls id0 up0 n0 = L1 := ⟨_, rfl⟩
        rw [z1, hL1] at C1
        rw [hL1] at BK G1
        replace C1 := Lib.hid C1
        replace z1 := Lib.hid z1
        replace hL1 := Lib.hid hL1
        replace BK := Lib.hid BK
        replace G1 := Lib.hid G1
        go_wp2_with fail
        refine Calls.mono C1.out ?_
        rintro r w4 ⟨rfl, O4, S4, hO4, K4⟩
        obtain ⟨NW4, off4⟩ := keep_was NW.out off3.out hO4 K4
        have C2 := bw_charge S4 id0 m0
        by_cases z2 : chgN L1 id0 m0 = 0
        · have CB := chg_back G1.out z2
          have m1 := (chg_ok z2).1.2.1
          by_cases z3 : m0 = 0
          · subst z3
            have e2 : chgL L1 id0 0 = L1 := by unfold chgL; rw [if_pos z2]; exact add_zero _ _
            rw [z2, e2] at C2
            have t8 : decide ((0 : Int) < 0) = false := by decide
            replace C2 := Lib.hid C2
            replace z2 := Lib.hid z2
            replace e2 := Lib.hid e2
            replace NW4 := Lib.hid NW4
            replace off4 := Lib.hid off4
            replace S4 := Lib.hid S4
            replace hO4 := Lib.hid hO4
            replace K4 := Lib.hid K4
            replace CB := Lib.hid CB
            go_wp2_with fail
            refine Calls.mono C2.out ?_
            rintro r w5 ⟨rfl, O5, S5, hO5, K5⟩
            obtain ⟨NW5, off5⟩ := keep_was NW4.out off4.out hO5 K5
            have C3 := bw_close S5 id0
            rw [BK.out.1, BK.out.2] at C3
            replace C3 := Lib.hid C3
            replace NW5 := Lib.hid NW5
            replace off5 := Lib.hid off5
            replace S5 := Lib.hid S5
            replace hO5 := Lib.hid hO5
            replace K5 := Lib.hid K5
            go_wp2_with fail
            refine Calls.mono C3.out ?_
            rintro r w6 ⟨rfl, O6, S6, hO6, K6⟩
            obtain ⟨NW6, off6⟩ := keep_was NW5.out off5.out hO6 K6
            have D1 := bw_charge S6 up0 n0
            by_cases y1 : chgN ls up0 n0 = 0
            · have DB := chg_back G.out y1
              rw [y1] at D1
              replace D1 := Lib.hid D1
              replace DB := Lib.hid DB
              replace NW6 := Lib.hid NW6
              replace off6 := Lib.hid off6
              replace S6 := Lib.hid S6
              replace hO6 := Lib.hid hO6
              replace K6 := Lib.hid K6
              replace y1 := Lib.hid y1
              go_wp2_with fail
              refine Calls.mono D1.out ?_
              rintro r wa ⟨rfl, Oa, Sa, hOa, Ka⟩
              obtain ⟨NWa, offa⟩ := keep_was NW6.out off6.out hOa Ka
              have D2 := bw_refund Sa up0 n0
              rw [DB.out.1, DB.out.2] at D2
              replace D2 := Lib.hid D2
              replace NWa := Lib.hid NWa
              replace offa := Lib.hid offa
              replace Sa := Lib.hid Sa
              replace hOa := Lib.hid hOa
              replace Ka := Lib.hid Ka
              go_wp2_with fail
              refine Calls.mono D2.out ?_
              rintro r wb ⟨rfl, Ob, Sb, hOb, Kb⟩
              obtain ⟨NWb, offb⟩ := keep_was NWa.out offa.out hOb Kb
              have DA := bw_all Sb
              replace DA := Lib.hid DA
              replace NWb := Lib.hid NWb
              replace offb := Lib.hid offb
              replace Sb := Lib.hid Sb
              replace hOb := Lib.hid hOb
              replace Kb := Lib.hid Kb
              go_wp2_with fail
              refine Calls.mono DA.out ?_
              rintro r wc ⟨vc, rfl, MC, Kc⟩
              have Sc := Sb.out.next Kc
              have DS := same_ok11 (own_base MC (Nat.zero_le _)) (NWb.out.next Kc) (by omega)
              rw [decide_eq_true rfl] at DS
              replace DS := Lib.hid DS
              replace Sc := Lib.hid Sc
              replace MC := Lib.hid MC
              replace Kc := Lib.hid Kc
              go_wp2_with fail
              refine Calls.mono DS.out ?_
              rintro r wd ⟨rfl, Kd⟩
              have Sd := Sc.out.next Kd
              have AW := awake11 wd
              replace Sd := Lib.hid Sd
              replace Kd := Lib.hid Kd
              replace AW := Lib.hid AW
              go_wp2_with fail
              refine Calls.mono AW.out ?_
              rintro r we ⟨rfl, Ke⟩
              replace Ke := Lib.hid Ke
              go_wp2_with fail
              go_ret
              exact ⟨rfl, Sd.out.K.then Ke.out⟩
            · have e9 := chg_none y1
              rw [e9] at D1
              obtain ⟨c9, hc9⟩ : ∃ c, chgN ls up0 n0 = c := ⟨_, rfl⟩
              rw [hc9] at D1 y1
              have t9 : (c9 == 0) = false := by simpa using y1
              replace D1 := Lib.hid D1
              replace NW6 := Lib.hid NW6
              replace off6 := Lib.hid off6
              replace S6 := Lib.hid S6
              replace hO6 := Lib.hid hO6
              replace K6 := Lib.hid K6
              replace y1 := Lib.hid y1
              replace e9 := Lib.hid e9
              replace hc9 := Lib.hid hc9
              go_wp2_with fail
              refine Calls.mono D1.out ?_
              rintro r wb ⟨rfl, Ob, Sb, hOb, Kb⟩
              obtain ⟨NWb, offb⟩ := keep_was NW6.out off6.out hOb Kb
              have DA := bw_all Sb
              replace DA := Lib.hid DA
              replace NWb := Lib.hid NWb
              replace offb := Lib.hid offb
              replace Sb := Lib.hid Sb
              replace hOb := Lib.hid hOb
              replace Kb := Lib.hid Kb
              go_wp2_with fail
              refine Calls.mono DA.out ?_
              rintro r wc ⟨vc, rfl, MC, Kc⟩
              have Sc := Sb.out.next Kc
              have DS := same_ok11 (own_base MC (Nat.zero_le _)) (NWb.out.next Kc) (by omega)
              rw [decide_eq_true rfl] at DS
              replace DS := Lib.hid DS
              replace Sc := Lib.hid Sc
              replace MC := Lib.hid MC
              replace Kc := Lib.hid Kc
              go_wp2_with fail
              refine Calls.mono DS.out ?_
              rintro r wd ⟨rfl, Kd⟩
              have Sd := Sc.out.next Kd
              have AW := awake11 wd
              replace Sd := Lib.hid Sd
              replace Kd := Lib.hid Kd
              replace AW := Lib.hid AW
              go_wp2_with fail
              refine Calls.mono AW.out ?_
              rintro r we ⟨rfl, Ke⟩
              replace Ke := Lib.hid Ke
              go_wp2_with fail
              go_ret
              exact ⟨rfl, Sd.out.K.then Ke.out⟩
          · have m2 : 0 < m0 := by omega
            have N9 := cls_nine G1.out z2 m2
            have e3 : clsL (chgL L1 id0 m0) id0 = chgL L1 id0 m0 := clsL_no (by rw [N9]; decide)
            have t8 : decide (0 < m0) = true := decide_eq_true m2
            rw [z2] at C2
            replace C2 := Lib.hid C2
            replace z2 := Lib.hid z2
            replace NW4 := Lib.hid NW4
            replace off4 := Lib.hid off4
            replace S4 := Lib.hid S4
            replace hO4 := Lib.hid hO4
            replace K4 := Lib.hid K4
            replace CB := Lib.hid CB
            go_wp2_with fail
            refine Calls.mono C2.out ?_
            rintro r w5 ⟨rfl, O5, S5, hO5, K5⟩
            obtain ⟨NW5, off5⟩ := keep_was NW4.out off4.out hO5 K5
            have C3 := bw_close S5 id0
            rw [N9, e3] at C3
            replace C3 := Lib.hid C3
            replace NW5 := Lib.hid NW5
            replace off5 := Lib.hid off5
            replace S5 := Lib.hid S5
            replace hO5 := Lib.hid hO5
            replace K5 := Lib.hid K5
            go_wp2_with fail
            refine Calls.mono C3.out ?_
            rintro r w6 ⟨rfl, O6, S6, hO6, K6⟩
            obtain ⟨NW6, off6⟩ := keep_was NW5.out off5.out hO6 K6
            have C4 := bw_refund S6 id0 m0
            rw [CB.out.1, CB.out.2] at C4
            replace C4 := Lib.hid C4
            replace NW6 := Lib.hid NW6
            replace off6 := Lib.hid off6
            replace S6 := Lib.hid S6
            replace hO6 := Lib.hid hO6
            replace K6 := Lib.hid K6
            go_wp2_with fail
            refine Calls.mono C4.out ?_
            rintro r w7 ⟨rfl, O7, S7, hO7, K7⟩
            obtain ⟨NW7, off7⟩ := keep_was NW6.out off6.out hO7 K7
            have C5 := bw_close S7 id0
            rw [BK.out.1, BK.out.2] at C5
            replace C5 := Lib.hid C5
            replace NW7 := Lib.hid NW7
            replace off7 := Lib.hid off7
            replace S7 := Lib.hid S7
            replace hO7 := Lib.hid hO7
            replace K7 := Lib.hid K7
            go_wp2_with fail
            refine Calls.mono C5.out ?_
            rintro r w8 ⟨rfl, O8, S8, hO8, K8⟩
            obtain ⟨NW8, off8⟩ := keep_was NW7.out off7.out hO8 K8
            have D1 := bw_charge S8 up0 n0
            by_cases y1 : chgN ls up0 n0 = 0
            · have DB := chg_back G.out y1
              rw [y1] at D1
              replace D1 := Lib.hid D1
              replace DB := Lib.hid DB
              replace NW8 := Lib.hid NW8
              replace off8 := Lib.hid off8
              replace S8 := Lib.hid S8
              replace hO8 := Lib.hid hO8
              replace K8 := Lib.hid K8
              replace y1 := Lib.hid y1
              go_wp2_with fail
              refine Calls.mono D1.out ?_
              rintro r wa ⟨rfl, Oa, Sa, hOa, Ka⟩
              obtain ⟨NWa, offa⟩ := keep_was NW8.out off8.out hOa Ka
              have D2 := bw_refund Sa up0 n0
              rw [DB.out.1, DB.out.2] at D2
              replace D2 := Lib.hid D2
              replace NWa := Lib.hid NWa
              replace offa := Lib.hid offa
              replace Sa := Lib.hid Sa
              replace hOa := Lib.hid hOa
              replace Ka := Lib.hid Ka
              go_wp2_with fail
              refine Calls.mono D2.out ?_
              rintro r wb ⟨rfl, Ob, Sb, hOb, Kb⟩
              obtain ⟨NWb, offb⟩ := keep_was NWa.out offa.out hOb Kb
              have DA := bw_all Sb
              replace DA := Lib.hid DA
              replace NWb := Lib.hid NWb
              replace offb := Lib.hid offb
              replace Sb := Lib.hid Sb
              replace hOb := Lib.hid hOb
              replace Kb := Lib.hid Kb
              go_wp2_with fail
              refine Calls.mono DA.out ?_
              rintro r wc ⟨vc, rfl, MC, Kc⟩
              have Sc := Sb.out.next Kc
              have DS := same_ok11 (own_base MC (Nat.zero_le _)) (NWb.out.next Kc) (by omega)
              rw [decide_eq_true rfl] at DS
              replace DS := Lib.hid DS
              replace Sc := Lib.hid Sc
              replace MC := Lib.hid MC
              replace Kc := Lib.hid Kc
              go_wp2_with fail
              refine Calls.mono DS.out ?_
              rintro r wd ⟨rfl, Kd⟩
              have Sd := Sc.out.next Kd
              have AW := awake11 wd
              replace Sd := Lib.hid Sd
              replace Kd := Lib.hid Kd
              replace AW := Lib.hid AW
              go_wp2_with fail
              refine Calls.mono AW.out ?_
              rintro r we ⟨rfl, Ke⟩
              replace Ke := Lib.hid Ke
              go_wp2_with fail
              go_ret
              exact ⟨rfl, Sd.out.K.then Ke.out⟩
            · have e9 := chg_none y1
              rw [e9] at D1
              obtain ⟨c9, hc9⟩ : ∃ c, chgN ls up0 n0 = c := ⟨_, rfl⟩
              rw [hc9] at D1 y1
              have t9 : (c9 == 0) = false := by simpa using y1
              replace D1 := Lib.hid D1
              replace NW8 := Lib.hid NW8
              replace off8 := Lib.hid off8
              replace S8 := Lib.hid S8
              replace hO8 := Lib.hid hO8
              replace K8 := Lib.hid K8
              replace y1 := Lib.hid y1
              replace e9 := Lib.hid e9
              replace hc9 := Lib.hid hc9
              go_wp2_with fail
              refine Calls.mono D1.out ?_
              rintro r wb ⟨rfl, Ob, Sb, hOb, Kb⟩
              obtain ⟨NWb, offb⟩ := keep_was NW8.out off8.out hOb Kb
              have DA := bw_all Sb
              replace DA := Lib.hid DA
              replace NWb := Lib.hid NWb
              replace offb := Lib.hid offb
              replace Sb := Lib.hid Sb
              replace hOb := Lib.hid hOb
              replace Kb := Lib.hid Kb
              go_wp2_with fail
              refine Calls.mono DA.out ?_
              rintro r wc ⟨vc, rfl, MC, Kc⟩
              have Sc := Sb.out.next Kc
              have DS := same_ok11 (own_base MC (Nat.zero_le _)) (NWb.out.next Kc) (by omega)
              rw [decide_eq_true rfl] at DS
              replace DS := Lib.hid DS
              replace Sc := Lib.hid Sc
              replace MC := Lib.hid MC
              replace Kc := Lib.hid Kc
              go_wp2_with fail
              refine Calls.mono DS.out ?_
              rintro r wd ⟨rfl, Kd⟩
              have Sd := Sc.out.next Kd
              have AW := awake11 wd
              replace Sd := Lib.hid Sd
              replace Kd := Lib.hid Kd
              replace AW := Lib.hid AW
              go_wp2_with fail
              refine Calls.mono AW.out ?_
              rintro r we ⟨rfl, Ke⟩
              replace Ke := Lib.hid Ke
              go_wp2_with fail
              go_ret
              exact ⟨rfl, Sd.out.K.then Ke.out⟩
        · have e2 := chg_none z2
          rw [e2] at C2
          obtain ⟨c2, hc2⟩ : ∃ c, chgN L1 id0 m0 = c := ⟨_, rfl⟩
          rw [hc2] at C2 z2
          have t7 : (c2 == 0) = false := by simpa using z2
          have t7' : (c2 != 0) = true := by simpa using z2
          replace C2 := Lib.hid C2
          replace z2 := Lib.hid z2
          replace e2 := Lib.hid e2
          replace NW4 := Lib.hid NW4
          replace off4 := Lib.hid off4
          replace S4 := Lib.hid S4
          replace hO4 := Lib.hid hO4
          replace K4 := Lib.hid K4
          replace hc2 := Lib.hid hc2
          go_wp2_with fail
          refine Calls.mono C2.out ?_
          rintro r w5 ⟨rfl, O5, S5, hO5, K5⟩
          obtain ⟨NW5, off5⟩ := keep_was NW4.out off4.out hO5 K5
          have C3 := bw_close S5 id0
          rw [BK.out.1, BK.out.2] at C3
          replace C3 := Lib.hid C3
          replace NW5 := Lib.hid NW5
          replace off5 := Lib.hid off5
          replace S5 := Lib.hid S5
          replace hO5 := Lib.hid hO5
          replace K5 := Lib.hid K5
          go_wp2_with fail
          refine Calls.mono C3.out ?_
          rintro r w6 ⟨rfl, O6, S6, hO6, K6⟩
          obtain ⟨NW6, off6⟩ := keep_was NW5.out off5.out hO6 K6
          have D1 := bw_charge S6 up0 n0
          by_cases y1 : chgN ls up0 n0 = 0
          · have DB := chg_back G.out y1
            rw [y1] at D1
            replace D1 := Lib.hid D1
            replace DB := Lib.hid DB
            replace NW6 := Lib.hid NW6
            replace off6 := Lib.hid off6
            replace S6 := Lib.hid S6
            replace hO6 := Lib.hid hO6
            replace K6 := Lib.hid K6
            replace y1 := Lib.hid y1
            go_wp2_with fail
            refine Calls.mono D1.out ?_
            rintro r wa ⟨rfl, Oa, Sa, hOa, Ka⟩
            obtain ⟨NWa, offa⟩ := keep_was NW6.out off6.out hOa Ka
            have D2 := bw_refund Sa up0 n0
            rw [DB.out.1, DB.out.2] at D2
            replace D2 := Lib.hid D2
            replace NWa := Lib.hid NWa
            replace offa := Lib.hid offa
            replace Sa := Lib.hid Sa
            replace hOa := Lib.hid hOa
            replace Ka := Lib.hid Ka
            go_wp2_with fail
            refine Calls.mono D2.out ?_
            rintro r wb ⟨rfl, Ob, Sb, hOb, Kb⟩
            obtain ⟨NWb, offb⟩ := keep_was NWa.out offa.out hOb Kb
            have DA := bw_all Sb
            replace DA := Lib.hid DA
            replace NWb := Lib.hid NWb
            replace offb := Lib.hid offb
            replace Sb := Lib.hid Sb
            replace hOb := Lib.hid hOb
            replace Kb := Lib.hid Kb
            go_wp2_with fail
            refine Calls.mono DA.out ?_
            rintro r wc ⟨vc, rfl, MC, Kc⟩
            have Sc := Sb.out.next Kc
            have DS := same_ok11 (own_base MC (Nat.zero_le _)) (NWb.out.next Kc) (by omega)
            rw [decide_eq_true rfl] at DS
            replace DS := Lib.hid DS
            replace Sc := Lib.hid Sc
            replace MC := Lib.hid MC
            replace Kc := Lib.hid Kc
            go_wp2_with fail
            refine Calls.mono DS.out ?_
            rintro r wd ⟨rfl, Kd⟩
            have Sd := Sc.out.next Kd
            have AW := awake11 wd
            replace Sd := Lib.hid Sd
            replace Kd := Lib.hid Kd
            replace AW := Lib.hid AW
            go_wp2_with fail
            refine Calls.mono AW.out ?_
            rintro r we ⟨rfl, Ke⟩
            replace Ke := Lib.hid Ke
            go_wp2_with fail
            go_ret
            exact ⟨rfl, Sd.out.K.then Ke.out⟩
          · have e9 := chg_none y1
            rw [e9] at D1
            obtain ⟨c9, hc9⟩ : ∃ c, chgN ls up0 n0 = c := ⟨_, rfl⟩
            rw [hc9] at D1 y1
            have t9 : (c9 == 0) = false := by simpa using y1
            replace D1 := Lib.hid D1
            replace NW6 := Lib.hid NW6
            replace off6 := Lib.hid off6
            replace S6 := Lib.hid S6
            replace hO6 := Lib.hid hO6
            replace K6 := Lib.hid K6
            replace y1 := Lib.hid y1
            replace e9 := Lib.hid e9
            replace hc9 := Lib.hid hc9
            go_wp2_with fail
            refine Calls.mono D1.out ?_
            rintro r wb ⟨rfl, Ob, Sb, hOb, Kb⟩
            obtain ⟨NWb, offb⟩ := keep_was NW6.out off6.out hOb Kb
            have DA := bw_all Sb
            replace DA := Lib.hid DA
            replace NWb := Lib.hid NWb
            replace offb := Lib.hid offb
            replace Sb := Lib.hid Sb
            replace hOb := Lib.hid hOb
            replace Kb := Lib.hid Kb
            go_wp2_with fail
            refine Calls.mono DA.out ?_
            rintro r wc ⟨vc, rfl, MC, Kc⟩
            have Sc := Sb.out.next Kc
            have DS := same_ok11 (own_base MC (Nat.zero_le _)) (NWb.out.next Kc) (by omega)
            rw [decide_eq_true rfl] at DS
            replace DS := Lib.hid DS
            replace Sc := Lib.hid Sc
            replace MC := Lib.hid MC
            replace Kc := Lib.hid Kc
            go_wp2_with fail
            refine Calls.mono DS.out ?_
            rintro r wd ⟨rfl, Kd⟩
            have Sd := Sc.out.next Kd
            have AW := awake11 wd
            replace Sd := Lib.hid Sd
            replace Kd := Lib.hid Kd
            replace AW := Lib.hid AW
            go_wp2_with fail
            refine Calls.mono AW.out ?_
            rintro r we ⟨rfl, Ke⟩
            replace Ke := Lib.hid Ke
            go_wp2_with fail
            go_ret
            exact ⟨rfl, Sd.out.K.then Ke.out⟩
      · have e1 : opnL ls id0 up0 n0 = ls := by unfold opnL; rw [if_neg z1]
        rw [e1] at C1
        obtain ⟨c1, hc1⟩ : ∃ c, opnN ls id0 up0 n0 = c := ⟨_, rfl⟩
        rw [hc1] at C1 z1
        have t7 : (c1 == 0) = false := by simpa using z1
        replace C1 := Lib.hid C1
        replace z1 := Lib.hid z1
        replace e1 := Lib.hid e1
        replace hc1 := Lib.hid hc1
        go_wp2_with fail
        refine Calls.mono C1.out ?_
        rintro r w4 ⟨rfl, O4, S4, hO4, K4⟩
        obtain ⟨NW4, off4⟩ := keep_was NW.out off3.out hO4 K4
        have D1 := bw_charge S4 up0 n0
        by_cases y1 : chgN ls up0 n0 = 0
        · have DB := chg_back G.out y1
          rw [y1] at D1
          replace D1 := Lib.hid D1
          replace DB := Lib.hid DB
          replace NW4 := Lib.hid NW4
          replace off4 := Lib.hid off4
          replace S4 := Lib.hid S4
          replace hO4 := Lib.hid hO4
          replace K4 := Lib.hid K4
          replace y1 := Lib.hid y1
          go_wp2_with fail
          refine Calls.mono D1.out ?_
          rintro r wa ⟨rfl, Oa, Sa, hOa, Ka⟩
          obtain ⟨NWa, offa⟩ := keep_was NW4.out off4.out hOa Ka
          have D2 := bw_refund Sa up0 n0
          rw [DB.out.1, DB.out.2] at D2
          replace D2 := Lib.hid D2
          replace NWa := Lib.hid NWa
          replace offa := Lib.hid offa
          replace Sa := Lib.hid Sa
          replace hOa := Lib.hid hOa
          replace Ka := Lib.hid Ka
          go_wp2_with fail
          refine Calls.mono D2.out ?_
          rintro r wb ⟨rfl, Ob, Sb, hOb, Kb⟩
          obtain ⟨NWb, offb⟩ := keep_was NWa.out offa.out hOb Kb
          have DA := bw_all Sb
          replace DA := Lib.hid DA
          replace NWb := Lib.hid NWb
          replace offb := Lib.hid offb
          replace Sb := Lib.hid Sb
          replace hOb := Lib.hid hOb
          replace Kb := Lib.hid Kb
          go_wp2_with fail
          refine Calls.mono DA.out ?_
          rintro r wc ⟨vc, rfl, MC, Kc⟩
          have Sc := Sb.out.next Kc
          have DS := same_ok11 (own_base MC (Nat.zero_le _)) (NWb.out.next Kc) (by omega)
          rw [decide_eq_true rfl] at DS
          replace DS := Lib.hid DS
          replace Sc := Lib.hid Sc
          replace MC := Lib.hid MC
          replace Kc := Lib.hid Kc
          go_wp2_with fail
          refine Calls.mono DS.out ?_
          rintro r wd ⟨rfl, Kd⟩
          have Sd := Sc.out.next Kd
          have AW := awake11 wd
          replace Sd := Lib.hid Sd
          replace Kd := Lib.hid Kd
          replace AW := Lib.hid AW
          go_wp2_with fail
          refine Calls.mono AW.out ?_
          rintro r we ⟨rfl, Ke⟩
          replace Ke := Lib.hid Ke
          go_wp2_with fail
          go_ret
          exact ⟨rfl, Sd.out.K.then Ke.out⟩
        · have e9 := chg_none y1
          rw [e9] at D1
          obtain ⟨c9, hc9⟩ : ∃ c, chgN ls up0 n0 = c := ⟨_, rfl⟩
          rw [hc9] at D1 y1
          have t9 : (c9 == 0) = false := by simpa using y1
          replace D1 := Lib.hid D1
          replace NW4 := Lib.hid NW4
          replace off4 := Lib.hid off4
          replace S4 := Lib.hid S4
          replace hO4 := Lib.hid hO4
          replace K4 := Lib.hid K4
          replace y1 := Lib.hid y1
          replace e9 := Lib.hid e9
          replace hc9 := Lib.hid hc9
          go_wp2_with fail
          refine Calls.mono D1.out ?_
          rintro r wb ⟨rfl, Ob, Sb, hOb, Kb⟩
          obtain ⟨NWb, offb⟩ := keep_was NW4.out off4.out hOb Kb
          have DA := bw_all Sb
          replace DA := Lib.hid DA
          replace NWb := Lib.hid NWb
          replace offb := Lib.hid offb
          replace Sb := Lib.hid Sb
          replace hOb := Lib.hid hOb
          replace Kb := Lib.hid Kb
          go_wp2_with fail
          refine Calls.mono DA.out ?_
          rintro r wc ⟨vc, rfl, MC, Kc⟩
          have Sc := Sb.out.next Kc
          have DS := same_ok11 (own_base MC (Nat.zero_le _)) (NWb.out.next Kc) (by omega)
          rw [decide_eq_true rfl] at DS
          replace DS := Lib.hid DS
          replace Sc := Lib.hid Sc
          replace MC := Lib.hid MC
          replace Kc := Lib.hid Kc
          go_wp2_with fail
          refine Calls.mono DS.out ?_
          rintro r wd ⟨rfl, Kd⟩
          have Sd := Sc.out.next Kd
          have AW := awake11 wd
          replace Sd := Lib.hid Sd
          replace Kd := Lib.hid Kd
          replace AW := Lib.hid AW
          go_wp2_with fail
          refine Calls.mono AW.out ?_
          rintro r we ⟨rfl, Ke⟩
          replace Ke := Lib.hid Ke
          go_wp2_with fail
          go_ret
          exact ⟨rfl, Sd.out.K.then Ke.out⟩
theorem walk_no (q id0 up0 n0 m0 : Int) (h : ¬ (0 ≤ q ∧ q ≤ 65536)) (a : Option Addr) (len cap : Nat) (w : World) :
    Calls Try.prog 8 #[.int .i64 q, .slice a len cap, .int .i64 id0, .int .i64 up0, .int .i64 n0, .int .i64 m0] w fun r w' => r = .returned (.bool true) ∧ Keep nob w w' := by
  have C := new_no w q h
  have AW := awake11 w
  clear h
  replace C := Lib.hid C
  replace AW := Lib.hid AW
  go_enter Try.func8, Try.ntmps8
  go_wp2_with fail
  refine Calls.mono C.out ?_
  rintro r w1 ⟨rfl, rfl⟩
  go_wp2_with fail
  refine Calls.mono AW.out ?_
  rintro r w8 ⟨rfl, K8⟩
  replace K8 := Lib.hid K8
  go_wp2_with fail
  go_ret
  exact ⟨rfl, K8.out⟩
theorem walk_long (q id0 up0 n0 m0 : Int) (h0 : 0 ≤ q) (h1 : q ≤ 65536) (a : Option Addr) (len cap : Nat) (hl : 100 < len) (w : World) :
    Calls Try.prog 8 #[.int .i64 q, .slice a len cap, .int .i64 id0, .int .i64 up0, .int .i64 n0, .int .i64 m0] w fun r w' => r = .returned (.bool true) ∧ Keep nob w w' := by
  have t1 : decide ((100 : Int) < len) = true := by simp; omega
  have C := bw_new w q h0 h1
  replace C := Lib.hid C
  go_enter Try.func8, Try.ntmps8
  go_wp2_with fail
  refine Calls.mono C.out ?_
  rintro r w1 ⟨b, O, rfl, S⟩
  have AW := awake11 w1
  replace AW := Lib.hid AW
  replace S := Lib.hid S
  go_wp2_with fail
  refine Calls.mono AW.out ?_
  rintro r w8 ⟨rfl, K8⟩
  replace K8 := Lib.hid K8
  go_wp2_with fail
  go_ret
  exact ⟨rfl, S.out.K.then K8.out⟩
theorem walk (q : Int) (v : Value) (l : List Op11) (id0 up0 n0 m0 : Int) (w : World) (w0 : (Lit.int .i64 q).wf = true) (w1 : OpsAt11 w v l ∧ ∀ o ∈ l, op11Fine o) (w2 : (Lit.int .i64 id0).wf = true) (w3 : (Lit.int .i64 up0).wf = true) (w4 : (Lit.int .i64 n0).wf = true) (w5 : (Lit.int .i64 m0).wf = true) :
    Calls Try.prog 8 #[.int .i64 q, v, .int .i64 id0, .int .i64 up0, .int .i64 n0, .int .i64 m0] w fun e w' => e = .returned (.bool true) ∧ Keep nob w w' := by
  by_cases h : 0 ≤ q ∧ q ≤ 65536
  · by_cases hl : l.length ≤ 100
    · exact walk_in q id0 up0 n0 m0 h.1 h.2 v l hl w w1.1 w1.2
    · obtain ⟨⟨a, cap, rfl, -⟩, -⟩ := w1
      exact walk_long q id0 up0 n0 m0 h.1 h.2 a _ cap (by omega) w
  · obtain ⟨⟨a, cap, rfl, -⟩, -⟩ := w1
    exact walk_no q id0 up0 n0 m0 h a _ cap w
set_option maxRecDepth 100000 in
theorem lifted (os : Os) (started : os.Started) (H : Type) (enc : TypeId × Value → H) :
    ReturnsInHanded {} Try.checked os 8 .any (Rows.budgetBackSpec.pre6 enc Try.prog Try.f8 Rows.budgetBackRow.domain false) (Rows.budgetBackSpec.post enc Try.prog Try.f8 false true false false) := by
  refine returnsInHanded_of_change (C := Try.checked) Head.own started (by kernel_rfl) Try.func8
    (ChangeSpec.witness6 (enc := enc) (C := Try.checked) false ⟨#[], #[.int .i64 0, .slice none 0 0, .int .i64 0, .int .i64 0, .int .i64 0, .int .i64 0], []⟩ 8 (by kernel_rfl) (by kernel_rfl) (by kernel_rfl) (by kernel_rfl)) ?_
  intro W base args ds gs before hval0 hW hcnd _
  have hval : ∀ (j : Nat) t v, Try.f8.params[j]? = some t → args[j]? = some v → Value.okWide Try.prog W .any base t v := hval0
  have hW' := hW
  obtain ⟨p, q, hA0, hV, rfl, hfz, hnd⟩ := hW
  have hA : DataW.TrodAll enc Try.prog W 0 (fun _ => true) true Try.f8.params.toList args.toList ds p := hA0
  rw [Try.params8] at hA hval
  obtain ⟨v0, vs0, d0, ds0, p0, q0, hargs, rfl, rfl, h0, r0⟩ := trodAll_cons hA
  obtain ⟨v1, vs1, d1, ds1, p1, q1, rfl, rfl, rfl, h1, r1⟩ := trodAll_cons r0
  obtain ⟨v2, vs2, d2, ds2, p2, q2, rfl, rfl, rfl, h2, r2⟩ := trodAll_cons r1
  obtain ⟨v3, vs3, d3, ds3, p3, q3, rfl, rfl, rfl, h3, r3⟩ := trodAll_cons r2
  obtain ⟨v4, vs4, d4, ds4, p4, q4, rfl, rfl, rfl, h4, r4⟩ := trodAll_cons r3
  obtain ⟨v5, vs5, d5, ds5, p5, q5, rfl, rfl, rfl, h5, r5⟩ := trodAll_cons r4
  obtain ⟨rfl, rfl, rfl⟩ := trodAll_nil r5
  obtain rfl : args = #[v0, v1, v2, v3, v4, v5] := by cases args; simp_all
  obtain ⟨rfl, rfl⟩ := trodVars_none hV
  have k0 := h0
  have lt0 : ∀ x ∈ p0, x.block < W.heap.size := by obtain ⟨m, hm⟩ := k0; exact DataW.trod_lt m _ _ _ hm
  obtain ⟨a0, rfl, rfl, rfl, w0⟩ := open_int Try.underlying3 (hval 0 3 v0 rfl rfl) h0
  have k1 := h1
  have lt1 : ∀ x ∈ p1, x.block < W.heap.size := by obtain ⟨m, hm⟩ := k1; exact DataW.trod_lt m _ _ _ hm
  obtain ⟨a1, w1⟩ := open_ops11 (hval 1 37 v1 rfl rfl) h1
  have k2 := h2
  have lt2 : ∀ x ∈ p2, x.block < W.heap.size := by obtain ⟨m, hm⟩ := k2; exact DataW.trod_lt m _ _ _ hm
  obtain ⟨a2, rfl, rfl, rfl, w2⟩ := open_int Try.underlying3 (hval 2 3 v2 rfl rfl) h2
  have k3 := h3
  have lt3 : ∀ x ∈ p3, x.block < W.heap.size := by obtain ⟨m, hm⟩ := k3; exact DataW.trod_lt m _ _ _ hm
  obtain ⟨a3, rfl, rfl, rfl, w3⟩ := open_int Try.underlying3 (hval 3 3 v3 rfl rfl) h3
  have k4 := h4
  have lt4 : ∀ x ∈ p4, x.block < W.heap.size := by obtain ⟨m, hm⟩ := k4; exact DataW.trod_lt m _ _ _ hm
  obtain ⟨a4, rfl, rfl, rfl, w4⟩ := open_int Try.underlying3 (hval 4 3 v4 rfl rfl) h4
  have k5 := h5
  have lt5 : ∀ x ∈ p5, x.block < W.heap.size := by obtain ⟨m, hm⟩ := k5; exact DataW.trod_lt m _ _ _ hm
  obtain ⟨a5, rfl, rfl, rfl, w5⟩ := open_int Try.underlying3 (hval 5 3 v5 rfl rfl) h5
  clear hA0 hval0
  refine (walk a0 v1 a1 a2 a3 a4 a5 W w0 w1 w2 w3 w4 w5).mono fun e W' ⟨he, kp⟩ => ?_
  subst he
  have bel := kp.below
  exact ⟨_, rfl, _, _, _, [], _, [], hW', trodAll_mk1 (shut_bool Try.underlying4 _), (trodAll_cons_mk (shut_int Try.underlying3 w0) (trodAll_cons_mk (Below.trod Head.laidOut (by kernel_rfl) (of_decide_eq_true (by kernel_rfl)) k1 bel lt1) (trodAll_cons_mk (shut_int Try.underlying3 w2) (trodAll_cons_mk (shut_int Try.underlying3 w3) (trodAll_cons_mk (shut_int Try.underlying3 w4) (trodAll_cons_mk (shut_int Try.underlying3 w5) trodAll_mk0)))))), rfl, bel.frame _, fun h => by cases h⟩
theorem closed : joinedFacts Try.prog 8 Try.f8 Rows.budgetBackSpec Rows.budgetBackRow = true := by
  unfold joinedFacts
  rw [Head.mayEnter, Head.liftsFinal, Head.make]
  kernel_rfl
theorem over : Rows.budgetBackRow.holds Try.pinned (OpenSpec.ofChange Rows.budgetBackSpec) :=
  OpenClaim.holds_of_wide 8 Try.f8 rfl rfl rfl rfl rfl rfl rfl ⟨rfl, rfl, rfl, rfl, rfl⟩ rfl rfl rfl rfl rfl (by kernel_rfl) Try.func8 closed
    (of_decide_eq_true (by kernel_rfl)) (by unfold Func.isWrapper; first | (rw [if_pos (by decide +kernel)]; kernel_rfl) | (rw [if_neg (by decide +kernel)]; exact ⟨rfl, rfl⟩))
    (fun os started H enc _ => lifted os started H enc)
theorem proved : Rows.BudgetBackSaid := over
end Go.Proofs.Ytepmljcapobodaa.budgetBack
