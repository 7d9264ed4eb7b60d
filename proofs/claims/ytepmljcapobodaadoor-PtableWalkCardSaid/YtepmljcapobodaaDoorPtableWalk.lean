/- The walk from a space's root finds just what is mapped, to read and to write. Condition: none beyond the statement's own. -/
import Derived.Test.YtepmljcapobodaaDoorPlB
import Derived.Test.YtepmljcapobodaaDoorWk
import Derived.Test.YtepmljcapobodaaDoorHead
import Derived.Test.YtepmljcapobodaaDoorLaid
import Derived.Test.YtepmljcapobodaaDoorCards
import Derived.Test.YtepmljcapobodaaDoorTie
namespace Go.Proofs.YtepmljcapobodaaDoor.ptableWalk
open Go.ChangeShapes Go.WideShapes Go.ChangeAt Go.RowKit
set_option linter.unusedVariables false
set_option linter.unusedSimpArgs false
set_option maxRecDepth 100000
theorem Bl.up {A : MB} {B : PB} {a b : Nat} (h : Bl A B a) (hab : a ≤ b) : Bl A B b := ⟨Nat.lt_of_lt_of_le h.b hab, fun x hx => Nat.lt_of_lt_of_le (h.o x hx) hab, Nat.lt_of_lt_of_le h.t hab, Nat.lt_of_lt_of_le h.rt hab⟩
def Inv1 (w : World) (A : MB) (B : PB) (base bw lb many len : Nat) (i : Value) (wr : World) : Prop :=
  ∃ k v lv sl ol M g left, i = .int .i64 (k : Nat) ∧ k ≤ len ∧ PlAt wr A B base bw lb many v lv sl ol M g left k ∧ Keep nob w wr
def Inv2 (w : World) (len : Nat) (i : Value) (wr : World) : Prop := ∃ k, i = .int .i64 (k : Nat) ∧ k ≤ len ∧ Keep nob w wr
theorem start {w1 : World} {A : MB} {B : PB} {many : Nat} (D : PtG A B) (hn : B.n = many + 2) (h1 : 1 ≤ many) (h2 : many ≤ 30) (S : PtSt w1 A B many M0 (fun _ => 0) many 0) :
    PlGeo A B (w1.heap.size + 2) w1.heap.size (w1.heap.size + 1) many ∧ PlAt ((w1.alloc (.cells #[.slice none 0 0, .int .i64 ((many : Int) + 2), .int .i64 many] 85)).alloc (.cells #[.slice none 0 0] 48)) A B (w1.heap.size + 2) w1.heap.size (w1.heap.size + 1) many (.slice none 0 0) (.slice none 0 0) [] [] M0 (fun _ => 0) many 0 := by
  have bl := S.below
  have K : Keep nob w1 ((w1.alloc (.cells #[.slice none 0 0, .int .i64 ((many : Int) + 2), .int .i64 many] 85)).alloc (.cells #[.slice none 0 0] 48)) := ((Keep.refl _ _).alloc _).alloc _
  have sz : ((w1.alloc (.cells #[.slice none 0 0, .int .i64 ((many : Int) + 2), .int .i64 many] 85)).alloc (.cells #[.slice none 0 0] 48)).heap.size = w1.heap.size + 2 := by rw [World.size_alloc, World.size_alloc]
  have nb : ∀ (j : Nat) (u : Value), (#[.slice none 0 0, .int .i64 ((many : Int) + 2), .int .i64 many] : Array Value).toList[j]? = some u → ((w1.alloc (.cells #[.slice none 0 0, .int .i64 ((many : Int) + 2), .int .i64 many] 85)).alloc (.cells #[.slice none 0 0] 48)).cell? ⟨w1.heap.size, j, none⟩ = some u := by
    intro j u hu
    rw [alloc_lt (by simp)]
    exact new_at w1 #[.slice none 0 0, .int .i64 ((many : Int) + 2), .int .i64 many] 85 j _ hu
  have l0 := new_at (w1.alloc (.cells #[.slice none 0 0, .int .i64 ((many : Int) + 2), .int .i64 many] 85)) #[.slice none 0 0] 48 0 _ rfl
  have lz := new_free (w1.alloc (.cells #[.slice none 0 0, .int .i64 ((many : Int) + 2), .int .i64 many] 85)) #[.slice none 0 0] 48 0
  rw [World.size_alloc] at l0 lz
  have z0 : ((w1.alloc (.cells #[.slice none 0 0, .int .i64 ((many : Int) + 2), .int .i64 many] 85)).alloc (.cells #[.slice none 0 0] 48)).frozen? ⟨w1.heap.size, 0, none⟩ = false := by
    have := new_free w1 #[.slice none 0 0, .int .i64 ((many : Int) + 2), .int .i64 many] 85 0
    have k : Keep nob (w1.alloc (.cells #[.slice none 0 0, .int .i64 ((many : Int) + 2), .int .i64 many] 85)) ((w1.alloc (.cells #[.slice none 0 0, .int .i64 ((many : Int) + 2), .int .i64 many] 85)).alloc (.cells #[.slice none 0 0] 48)) := (Keep.refl _ _).alloc _
    exact (k.frozen (p := ⟨w1.heap.size, 0, none⟩) (by rw [World.size_alloc]; exact Nat.lt_succ_self _) (fun x => x)).trans this
  refine ⟨⟨D, Bl.up bl (by omega), bl, Bl.up bl (by omega), by omega, by omega, by omega, hn, h1, h2⟩, S.next D K, ⟨nb 0 _ rfl, ?_, nb 2 _ rfl, z0, by omega, World.ownsRow_nil _ _ _ _, fun s h => (by cases h), by simp, fun s h => (by cases h), by rw [sz]; omega⟩, l0, lz, World.ownsRow_nil _ _ _ _, PRel.start many, Nat.le_refl _, fun x h => by cases h⟩
  rw [show ((many + 2 : Nat) : Int) = (many : Int) + 2 by omega]
  exact nb 1 _ rfl
set_option maxHeartbeats 0 in
theorem walk_in (many pn an : Nat) (h1 : 1 ≤ many) (h2 : many ≤ 30) (h3 : pn < 1024) (h4 : an < 32) (v : Value) (l : List Op10) (hl : l.length ≤ 100) (w : World) (L : OpsAt w v l) (hf : ∀ o ∈ l, op10Fine o) (hT : TabAt 0 Lib.deBruijn64tab w) :
    Calls Tryd.prog 15 #[.int .i64 many, v, .int .i64 pn, .int .i64 an] w fun r w' => r = .returned (.bool true) ∧ Keep nob w w' := by
  obtain ⟨a, cap, rfl, hm, hcap, hcells⟩ := L
  have C := made10 w many (by omega) (by omega)
  have t1 : decide ((many : Int) < 1) = false := by simp; omega
  have t2 : decide ((30 : Int) < many) = false := by simp; omega
  have t3 : decide ((100 : Int) < l.length) = false := by simp; omega
  have t3a : decide ((pn : Int) < 0) = false := by simp
  have t3b : decide ((1023 : Int) < pn) = false := by simp; omega
  have t3c : decide ((an : Int) < 0) = false := by simp
  have t3d : decide ((31 : Int) < an) = false := by simp; omega
  have m1 : IntKind.i64.wrap ((pn : Int) * 32) = (pn : Int) * 32 := IntWalk.i64_in _ (by omega)
  have m2 : IntKind.i64.wrap ((pn : Int) * 32 + an) = (pn : Int) * 32 + an := IntWalk.i64_in _ (by omega)
  have m3 : IntKind.u32.wrap ((pn : Int) * 32 + an) = (pn : Int) * 32 + an := by unfold IntKind.wrap; simp [IntKind.signed, IntKind.bits]; omega
  replace hT := Lib.hid hT
  replace C := Lib.hid C
  replace hf := Lib.hid hf
  replace hcells := Lib.hid hcells
  go_enter Tryd.func15, Tryd.ntmps15
  go_wp2_with fail
  refine Calls.mono C.out ?_
  rintro r w1 ⟨A, B, rfl, D, hn, hll, S, Si, K⟩
  obtain ⟨G, P0⟩ := start D hn h1 h2 S
  have nO : ∀ q, q < w.heap.size → ¬ ownT A B q := by
    intro q hq h
    have h1 := Si.s.mf
    have h2 := Si.s.lo
    have h3 := Si.rt
    rcases h with (h | h) | h
    · omega
    · omega
    · omega
  have zw := K.size
  have nP : ∀ q, q < w.heap.size → ¬ playS A B (w1.heap.size + 2) w1.heap.size (w1.heap.size + 1) q := by
    intro q hq h
    rcases h with h | h | h | h
    · exact nO q hq h
    · omega
    · omega
    · omega
  obtain ⟨base, hbase⟩ : ∃ b, w1.heap.size + 2 = b := ⟨_, rfl⟩
  have K2 : Keep nob w ((w1.alloc (.cells #[.slice none 0 0, .int .i64 ((many : Int) + 2), .int .i64 many] 85)).alloc (.cells #[.slice none 0 0] 48)) := (K.alloc _).alloc _
  rw [hbase] at G P0 nP
  replace D := Lib.hid D
  replace hn := Lib.hid hn
  replace hll := Lib.hid hll
  replace S := Lib.hid S
  replace Si := Lib.hid Si
  replace K := Lib.hid K
  replace G := Lib.hid G
  replace P0 := Lib.hid P0
  replace nO := Lib.hid nO
  replace nP := Lib.hid nP
  replace hbase := Lib.hid hbase
  replace K2 := Lib.hid K2
  go_wp2_with fail
  go_loopw [15] (fun i wr => Inv1 w A B base w1.heap.size (w1.heap.size + 1) many l.length i wr) (fun i _ => (l.length - intOf i).toNat)
  case atStart => exact ⟨0, _, _, _, _, _, _, _, rfl, Nat.zero_le _, P0.out, K2.out⟩
  case round =>
    clear P0 K2
    obtain ⟨k, v, lv, sl, ol, M, g, left, rfl, hk, P, K3⟩ := hrel
    replace P := Lib.hid P
    replace K3 := Lib.hid K3
    by_cases hlt : k < l.length
    · have hne : l ≠ [] := by intro e; rw [e] at hlt; simp at hlt
      obtain ⟨gg, og, rfl, cs⟩ := hcells.out hne
      obtain ⟨⟨d, s, pg, ⟨ep, eq, ec, ef⟩⟩, ho⟩ : ∃ o, l[k] = o := ⟨_, rfl⟩
      have ho' : l[k]? = some ⟨d, s, pg, ⟨ep, eq, ec, ef⟩⟩ := by rw [← ho, List.getElem?_eq_getElem hlt]
      have r0 : wr.cell? ⟨gg, og + k * 7, none⟩ = some (.int .i64 d) := K3.out.some (cs k _ ho' 0 _ rfl) (fun x => x)
      have r1 : wr.cell? ⟨gg, og + k * 7 + 1, none⟩ = some (.int .i64 s) := K3.out.some (cs k _ ho' 1 _ rfl) (fun x => x)
      have r2 : wr.cell? ⟨gg, og + k * 7 + 2, none⟩ = some (.int .i64 pg) := K3.out.some (cs k _ ho' 2 _ rfl) (fun x => x)
      have r3 : wr.cell? ⟨gg, og + k * 7 + 3, none⟩ = some (.bool ep) := K3.out.some (cs k _ ho' 3 _ rfl) (fun x => x)
      have r4 : wr.cell? ⟨gg, og + k * 7 + 4, none⟩ = some (.bool eq) := K3.out.some (cs k _ ho' 4 _ rfl) (fun x => x)
      have r5 : wr.cell? ⟨gg, og + k * 7 + 5, none⟩ = some (.bool ec) := K3.out.some (cs k _ ho' 5 _ rfl) (fun x => x)
      have r6 : wr.cell? ⟨gg, og + k * 7 + 6, none⟩ = some (.int .i64 ef) := K3.out.some (cs k _ ho' 6 _ rfl) (fun x => x)
      have t4 : decide (k < l.length) = true := by simpa using hlt
      have kz : (0 : Int) ≤ k := by omega
      have kb : (k : Int) < l.length := by omega
      have CP := play_ok G.out P.out (tab_keep hT.out K3.out) (by omega) ⟨d, s, pg, ⟨ep, eq, ec, ef⟩⟩
      unfold opV at CP
      dsimp only at CP
      replace ho := Lib.hid ho
      replace ho' := Lib.hid ho'
      replace CP := Lib.hid CP
      clear cs
      go_wp2_with fail
      refine Calls.mono CP.out ?_
      rintro r w5 ⟨rfl, ⟨v5, lv5, sl5, ol5, M5, g5, left5, P5⟩, K5⟩
      replace P5 := Lib.hid P5
      replace K5 := Lib.hid K5
      all_goals
        have Ka := K3.out.trans K5.out (fun q hq e => (nP.out q hq e).elim)
        replace Ka := Lib.hid Ka
        clear r0 r1 r2 r3 r4 r5 r6
        go_wp2_with fail
        go_roundw
        case rel => exact ⟨k + 1, _, _, _, _, _, _, _, by go_num, by omega, P5.out, Ka.out⟩
        case measure => simp [intOf]; omega
    · have t4 : decide (k < l.length) = false := by simpa using hlt
      obtain ⟨wo, hwo⟩ : ∃ wo, wo = wr := ⟨_, rfl⟩
      subst hwo
      have PP := P.out
      obtain ⟨av, cv, hv⟩ := row_form PP.W.row
      subst hv
      have wz := PP.W.c0
      have wy := PP.W.c1
      have wx := PP.W.c2
      have lenb : sl.length ≤ 1000 := PP.W.len
      rw [show ((many + 2 : Nat) : Int) = (many : Int) + 2 by omega] at wy
      replace PP := Lib.hid PP
      clear hlt
      go_wp2_with fail
      go_loopw [16] (fun i wr' => Inv2 wo sl.length i wr') (fun i _ => (sl.length - intOf i).toNat)
      case atStart => exact ⟨0, rfl, Nat.zero_le _, Keep.refl _ _⟩
      case round =>
        obtain ⟨j, rfl, hj, K4⟩ := hrel
        have z0 := K4.some wz (fun x => x)
        by_cases hlt : j < sl.length
        · obtain ⟨gs, cv', hvx, _, _, _, src0⟩ := own_cells PP.out.W.row (by omega)
          injection hvx with q1 q2 q3
          subst q1; subst q3
          obtain ⟨s, hs⟩ : ∃ s, sl[j] = s := ⟨_, rfl⟩
          have hs' : sl[j]? = some s := by rw [← hs, List.getElem?_eq_getElem hlt]
          have sm := List.mem_of_getElem? hs'
          have z1 := K4.some (src0 _ _ (flat_get spcCells_len sl j s 0 _ hs' rfl)).1 (fun x => x)
          have y9 := K4.some wy (fun x => x)
          have x9 := K4.some wx (fun x => x)
          have hg : g (s.r : Int) ≠ 0 := (PP.out.R.on s.r).2 ⟨s, sm, rfl⟩
          have WK := st_walk G.out.D PP.out.S hg h3 h4
          have RQ := PP.out.R.query s.r pn
          have eq0 : qryA M g s.r pn = M s.r pn := by
            unfold qryA askE
            rw [if_pos (show (if 0 ≤ (pn : Int) ∧ (pn : Int) < 1024 ∧ true = true then (if g (s.r : Int) = 0 then (4 : Int) else 0) else 2) = 0 by rw [if_pos ⟨by omega, by omega, rfl⟩, if_neg hg]), Int.toNat_natCast, Int.toNat_natCast]
          rw [eq0] at RQ
          have mz := PP.out.R.mz s.r pn
          have CR := fun W' (k : Keep nob wo W') => rquery_ok (PP.out.W.is.next k) ((many : Int) + 2) many s.r pn
          rw [RQ] at CR
          unfold wAgg at CR
          obtain ⟨E, hE⟩ : ∃ E, M s.r pn = E := ⟨_, rfl⟩
          rw [hE] at WK CR mz
          obtain ⟨sr, hsr⟩ : ∃ sr : Int, (s.r : Int) = sr := ⟨_, rfl⟩
          replace z1 : wr.cell? ⟨gs, j * 2, none⟩ = some (.int .i64 sr) := by rw [← hsr]; exact z1
          rw [hsr] at CR WK
          have kz2 : (0 : Int) ≤ j := by omega
          have kb2 : (j : Int) < sl.length := by omega
          have t5 : decide (j < sl.length) = true := by simpa using hlt
          have Kd : Keep nob wr wr.drew := (Keep.refl nob _).drew
          have ed3 : ∀ p, wr.drew.cell? p = wr.cell? p := fun p => rfl
          have n1 : ¬ only wr.heap.size w1.heap.size := fun e => by have e : w1.heap.size = wr.heap.size := e; have : w1.heap.size < wr.heap.size := World.block_lt_of_cell? _ _ z0; omega
          obtain ⟨ap, aw, ac, af⟩ := E
          unfold Ent.val at CR
          dsimp only at CR WK mz
          replace Kd := Lib.hid Kd
          replace ed3 := Lib.hid ed3
          replace hs := Lib.hid hs
          replace hs' := Lib.hid hs'
          replace sm := Lib.hid sm
          replace hsr := Lib.hid hsr
          replace hE := Lib.hid hE
          replace src0 := Lib.hid src0
          replace hg := Lib.hid hg
          replace eq0 := Lib.hid eq0
          replace RQ := Lib.hid RQ
          replace K4 := Lib.hid K4
          rcases WK with ⟨rfl, WK⟩ | ⟨rfl, F, hF, WK⟩
          · have CF := WK false
            have CT := WK true
            rw [show wkF ⟨true, aw, ac, af⟩ false = 0 from rfl, if_pos rfl, if_pos rfl] at CF
            clear WK mz
            cases ac <;> cases aw
            · rw [show wkF ⟨true, false, false, af⟩ true = 4 from rfl, if_neg (by decide), if_neg (by decide)] at CT
              replace CF := Lib.hid CF
              replace CT := Lib.hid CT
              replace CR := Lib.hid CR
              go_wp2_with fail
              refine Calls.mono (CR.out _ K4.out) ?_
              rintro r wb ⟨rfl, KB⟩
              replace KB := Lib.hid KB
              have KF : Keep nob wr (wb.alloc (.cells #[.bool true, .bool false, .bool false, .int .i64 af] 69)) := KB.out.then ((Keep.refl _ _).alloc _)
              have EN := EntAt.new wb true false false af 69
              obtain ⟨WX, hWX⟩ : ∃ WX, WX = wb.alloc (.cells #[.bool true, .bool false, .bool false, .int .i64 af] 69) := ⟨_, rfl⟩
              rw [← hWX] at KF EN
              clear z0 z1 y9 x9
              have KG := K4.out.then KF
              replace KF := Lib.hid KF
              replace EN := Lib.hid EN
              replace KG := Lib.hid KG
              go_wp2_with fail
              rw [← hWX]
              refine Calls.mono (CF.out _ KG.out) ?_
              rintro r w10 ⟨rfl, K10⟩
              replace K10 := Lib.hid K10
              go_wp2_with fail
              refine Calls.mono (CT.out _ (KG.out.then K10.out)) ?_
              rintro r w11 ⟨rfl, K11⟩
              have K12 := K10.out.then K11
              have K13 := KG.out.then K12
              obtain ⟨u0, u1, u2, u3, -, -, -, -⟩ := EN.out.next K12
              replace K11 := Lib.hid K11
              replace K12 := Lib.hid K12
              replace K13 := Lib.hid K13
              go_wp2_with fail
              go_roundw
              case rel => exact ⟨j + 1, by go_num, by omega, K13.out⟩
              case measure => simp [intOf]; omega
            · rw [show wkF ⟨true, true, false, af⟩ true = 0 from rfl, if_pos rfl, if_pos rfl] at CT
              replace CF := Lib.hid CF
              replace CT := Lib.hid CT
              replace CR := Lib.hid CR
              go_wp2_with fail
              refine Calls.mono (CR.out _ K4.out) ?_
              rintro r wb ⟨rfl, KB⟩
              replace KB := Lib.hid KB
              have KF : Keep nob wr (wb.alloc (.cells #[.bool true, .bool true, .bool false, .int .i64 af] 69)) := KB.out.then ((Keep.refl _ _).alloc _)
              have EN := EntAt.new wb true true false af 69
              obtain ⟨WX, hWX⟩ : ∃ WX, WX = wb.alloc (.cells #[.bool true, .bool true, .bool false, .int .i64 af] 69) := ⟨_, rfl⟩
              rw [← hWX] at KF EN
              clear z0 z1 y9 x9
              have KG := K4.out.then KF
              replace KF := Lib.hid KF
              replace EN := Lib.hid EN
              replace KG := Lib.hid KG
              go_wp2_with fail
              rw [← hWX]
              refine Calls.mono (CF.out _ KG.out) ?_
              rintro r w10 ⟨rfl, K10⟩
              replace K10 := Lib.hid K10
              go_wp2_with fail
              refine Calls.mono (CT.out _ (KG.out.then K10.out)) ?_
              rintro r w11 ⟨rfl, K11⟩
              have K12 := K10.out.then K11
              have K13 := KG.out.then K12
              obtain ⟨u0, u1, u2, u3, -, -, -, -⟩ := EN.out.next K12
              replace K11 := Lib.hid K11
              replace K12 := Lib.hid K12
              replace K13 := Lib.hid K13
              go_wp2_with fail
              go_roundw
              case rel => exact ⟨j + 1, by go_num, by omega, K13.out⟩
              case measure => simp [intOf]; omega
            · rw [show wkF ⟨true, false, true, af⟩ true = 5 from rfl, if_neg (by decide), if_neg (by decide)] at CT
              replace CF := Lib.hid CF
              replace CT := Lib.hid CT
              replace CR := Lib.hid CR
              go_wp2_with fail
              refine Calls.mono (CR.out _ K4.out) ?_
              rintro r wb ⟨rfl, KB⟩
              replace KB := Lib.hid KB
              have KF : Keep nob wr (wb.alloc (.cells #[.bool true, .bool false, .bool true, .int .i64 af] 69)) := KB.out.then ((Keep.refl _ _).alloc _)
              have EN := EntAt.new wb true false true af 69
              obtain ⟨WX, hWX⟩ : ∃ WX, WX = wb.alloc (.cells #[.bool true, .bool false, .bool true, .int .i64 af] 69) := ⟨_, rfl⟩
              rw [← hWX] at KF EN
              clear z0 z1 y9 x9
              have KG := K4.out.then KF
              replace KF := Lib.hid KF
              replace EN := Lib.hid EN
              replace KG := Lib.hid KG
              go_wp2_with fail
              rw [← hWX]
              refine Calls.mono (CF.out _ KG.out) ?_
              rintro r w10 ⟨rfl, K10⟩
              replace K10 := Lib.hid K10
              go_wp2_with fail
              refine Calls.mono (CT.out _ (KG.out.then K10.out)) ?_
              rintro r w11 ⟨rfl, K11⟩
              have K12 := K10.out.then K11
              have K13 := KG.out.then K12
              obtain ⟨u0, u1, u2, u3, -, -, -, -⟩ := EN.out.next K12
              replace K11 := Lib.hid K11
              replace K12 := Lib.hid K12
              replace K13 := Lib.hid K13
              go_wp2_with fail
              go_roundw
              case rel => exact ⟨j + 1, by go_num, by omega, K13.out⟩
              case measure => simp [intOf]; omega
            · rw [show wkF ⟨true, true, true, af⟩ true = 5 from rfl, if_neg (by decide), if_neg (by decide)] at CT
              replace CF := Lib.hid CF
              replace CT := Lib.hid CT
              replace CR := Lib.hid CR
              go_wp2_with fail
              refine Calls.mono (CR.out _ K4.out) ?_
              rintro r wb ⟨rfl, KB⟩
              replace KB := Lib.hid KB
              have KF : Keep nob wr (wb.alloc (.cells #[.bool true, .bool true, .bool true, .int .i64 af] 69)) := KB.out.then ((Keep.refl _ _).alloc _)
              have EN := EntAt.new wb true true true af 69
              obtain ⟨WX, hWX⟩ : ∃ WX, WX = wb.alloc (.cells #[.bool true, .bool true, .bool true, .int .i64 af] 69) := ⟨_, rfl⟩
              rw [← hWX] at KF EN
              clear z0 z1 y9 x9
              have KG := K4.out.then KF
              replace KF := Lib.hid KF
              replace EN := Lib.hid EN
              replace KG := Lib.hid KG
              go_wp2_with fail
              rw [← hWX]
              refine Calls.mono (CF.out _ KG.out) ?_
              rintro r w10 ⟨rfl, K10⟩
              replace K10 := Lib.hid K10
              go_wp2_with fail
              refine Calls.mono (CT.out _ (KG.out.then K10.out)) ?_
              rintro r w11 ⟨rfl, K11⟩
              have K12 := K10.out.then K11
              have K13 := KG.out.then K12
              obtain ⟨u0, u1, u2, u3, -, -, -, -⟩ := EN.out.next K12
              replace K11 := Lib.hid K11
              replace K12 := Lib.hid K12
              replace K13 := Lib.hid K13
              go_wp2_with fail
              go_roundw
              case rel => exact ⟨j + 1, by go_num, by omega, K13.out⟩
              case measure => simp [intOf]; omega
          · have zz := mz rfl
            injection zz with _ zw zc zf
            subst zw; subst zc; subst zf
            have CF := WK false
            have CT := WK true
            clear WK mz
            rcases hF with rfl | rfl
            · replace CF := Lib.hid CF
              replace CT := Lib.hid CT
              replace CR := Lib.hid CR
              go_wp2_with fail
              refine Calls.mono (CR.out _ K4.out) ?_
              rintro r wb ⟨rfl, KB⟩
              replace KB := Lib.hid KB
              have KF : Keep nob wr (wb.alloc (.cells #[.bool false, .bool false, .bool false, .int .i64 0] 69)) := KB.out.then ((Keep.refl _ _).alloc _)
              have EN := EntAt.new wb false false false 0 69
              obtain ⟨WX, hWX⟩ : ∃ WX, WX = wb.alloc (.cells #[.bool false, .bool false, .bool false, .int .i64 0] 69) := ⟨_, rfl⟩
              rw [← hWX] at KF EN
              clear z0 z1 y9 x9
              have KG := K4.out.then KF
              replace KF := Lib.hid KF
              replace EN := Lib.hid EN
              replace KG := Lib.hid KG
              go_wp2_with fail
              rw [← hWX]
              refine Calls.mono (CF.out _ KG.out) ?_
              rintro r w10 ⟨rfl, K10⟩
              replace K10 := Lib.hid K10
              go_wp2_with fail
              refine Calls.mono (CT.out _ (KG.out.then K10.out)) ?_
              rintro r w11 ⟨rfl, K11⟩
              have K12 := K10.out.then K11
              have K13 := KG.out.then K12
              obtain ⟨u0, u1, u2, u3, -, -, -, -⟩ := EN.out.next K12
              replace K11 := Lib.hid K11
              replace K12 := Lib.hid K12
              replace K13 := Lib.hid K13
              go_wp2_with fail
              go_roundw
              case rel => exact ⟨j + 1, by go_num, by omega, K13.out⟩
              case measure => simp [intOf]; omega
            · replace CF := Lib.hid CF
              replace CT := Lib.hid CT
              replace CR := Lib.hid CR
              go_wp2_with fail
              refine Calls.mono (CR.out _ K4.out) ?_
              rintro r wb ⟨rfl, KB⟩
              replace KB := Lib.hid KB
              have KF : Keep nob wr (wb.alloc (.cells #[.bool false, .bool false, .bool false, .int .i64 0] 69)) := KB.out.then ((Keep.refl _ _).alloc _)
              have EN := EntAt.new wb false false false 0 69
              obtain ⟨WX, hWX⟩ : ∃ WX, WX = wb.alloc (.cells #[.bool false, .bool false, .bool false, .int .i64 0] 69) := ⟨_, rfl⟩
              rw [← hWX] at KF EN
              clear z0 z1 y9 x9
              have KG := K4.out.then KF
              replace KF := Lib.hid KF
              replace EN := Lib.hid EN
              replace KG := Lib.hid KG
              go_wp2_with fail
              rw [← hWX]
              refine Calls.mono (CF.out _ KG.out) ?_
              rintro r w10 ⟨rfl, K10⟩
              replace K10 := Lib.hid K10
              go_wp2_with fail
              refine Calls.mono (CT.out _ (KG.out.then K10.out)) ?_
              rintro r w11 ⟨rfl, K11⟩
              have K12 := K10.out.then K11
              have K13 := KG.out.then K12
              obtain ⟨u0, u1, u2, u3, -, -, -, -⟩ := EN.out.next K12
              replace K11 := Lib.hid K11
              replace K12 := Lib.hid K12
              replace K13 := Lib.hid K13
              go_wp2_with fail
              go_roundw
              case rel => exact ⟨j + 1, by go_num, by omega, K13.out⟩
              case measure => simp [intOf]; omega
        · have t5 : decide (j < sl.length) = false := by simpa using hlt
          have Kx := K3.out.then K4
          have AW := awake10 _ (tab_keep hT.out Kx)
          replace Kx := Lib.hid Kx
          replace AW := Lib.hid AW
          replace K4 := Lib.hid K4
          clear hlt
          go_wp2_with fail
          refine Calls.mono AW.out ?_
          rintro r w8 ⟨rfl, K12⟩
          replace K12 := Lib.hid K12
          go_wp2_with fail
          go_ret
          exact ⟨rfl, Kx.out.then K12.out⟩
theorem else_0 (n pg at0 : Int) (a : Option Addr) (len cap : Nat) (t0 : decide (n < 1) = true) (w : World) (hT : TabAt 0 Lib.deBruijn64tab w) :
    Calls Tryd.prog 15 #[.int .i64 n, .slice a len cap, .int .i64 pg, .int .i64 at0] w fun e w' => e = .returned (.bool true) ∧ Keep nob w w' := by
  have AW := awake10 _ hT
  replace AW := Lib.hid AW
  replace hT := Lib.hid hT
  go_enter Tryd.func15, Tryd.ntmps15
  go_wp2_with fail
  refine Calls.mono AW.out ?_
  rintro r w5 ⟨rfl, K6⟩
  replace K6 := Lib.hid K6
  go_wp2_with fail
  go_ret
  exact ⟨rfl, K6.out⟩
theorem else_1 (n pg at0 : Int) (a : Option Addr) (len cap : Nat) (t0 : decide (n < 1) = false) (t1 : decide (30 < n) = true) (w : World) (hT : TabAt 0 Lib.deBruijn64tab w) :
    Calls Tryd.prog 15 #[.int .i64 n, .slice a len cap, .int .i64 pg, .int .i64 at0] w fun e w' => e = .returned (.bool true) ∧ Keep nob w w' := by
  have AW := awake10 _ hT
  replace AW := Lib.hid AW
  replace hT := Lib.hid hT
  go_enter Tryd.func15, Tryd.ntmps15
  go_wp2_with fail
  refine Calls.mono AW.out ?_
  rintro r w5 ⟨rfl, K6⟩
  replace K6 := Lib.hid K6
  go_wp2_with fail
  go_ret
  exact ⟨rfl, K6.out⟩
theorem else_2 (n pg at0 : Int) (a : Option Addr) (len cap : Nat) (t0 : decide (n < 1) = false) (t1 : decide (30 < n) = false) (t2 : decide ((100 : Int) < len) = true) (w : World) (hT : TabAt 0 Lib.deBruijn64tab w) :
    Calls Tryd.prog 15 #[.int .i64 n, .slice a len cap, .int .i64 pg, .int .i64 at0] w fun e w' => e = .returned (.bool true) ∧ Keep nob w w' := by
  have AW := awake10 _ hT
  replace AW := Lib.hid AW
  replace hT := Lib.hid hT
  go_enter Tryd.func15, Tryd.ntmps15
  go_wp2_with fail
  refine Calls.mono AW.out ?_
  rintro r w5 ⟨rfl, K6⟩
  replace K6 := Lib.hid K6
  go_wp2_with fail
  go_ret
  exact ⟨rfl, K6.out⟩
theorem else_3 (n pg at0 : Int) (a : Option Addr) (len cap : Nat) (t0 : decide (n < 1) = false) (t1 : decide (30 < n) = false) (t2 : decide ((100 : Int) < len) = false) (t3 : decide (pg < 0) = true) (w : World) (hT : TabAt 0 Lib.deBruijn64tab w) :
    Calls Tryd.prog 15 #[.int .i64 n, .slice a len cap, .int .i64 pg, .int .i64 at0] w fun e w' => e = .returned (.bool true) ∧ Keep nob w w' := by
  have AW := awake10 _ hT
  replace AW := Lib.hid AW
  replace hT := Lib.hid hT
  go_enter Tryd.func15, Tryd.ntmps15
  go_wp2_with fail
  refine Calls.mono AW.out ?_
  rintro r w5 ⟨rfl, K6⟩
  replace K6 := Lib.hid K6
  go_wp2_with fail
  go_ret
  exact ⟨rfl, K6.out⟩
theorem else_4 (n pg at0 : Int) (a : Option Addr) (len cap : Nat) (t0 : decide (n < 1) = false) (t1 : decide (30 < n) = false) (t2 : decide ((100 : Int) < len) = false) (t3 : decide (pg < 0) = false) (t4 : decide (1023 < pg) = true) (w : World) (hT : TabAt 0 Lib.deBruijn64tab w) :
    Calls Tryd.prog 15 #[.int .i64 n, .slice a len cap, .int .i64 pg, .int .i64 at0] w fun e w' => e = .returned (.bool true) ∧ Keep nob w w' := by
  have AW := awake10 _ hT
  replace AW := Lib.hid AW
  replace hT := Lib.hid hT
  go_enter Tryd.func15, Tryd.ntmps15
  go_wp2_with fail
  refine Calls.mono AW.out ?_
  rintro r w5 ⟨rfl, K6⟩
  replace K6 := Lib.hid K6
  go_wp2_with fail
  go_ret
  exact ⟨rfl, K6.out⟩
theorem else_5 (n pg at0 : Int) (a : Option Addr) (len cap : Nat) (t0 : decide (n < 1) = false) (t1 : decide (30 < n) = false) (t2 : decide ((100 : Int) < len) = false) (t3 : decide (pg < 0) = false) (t4 : decide (1023 < pg) = false) (t5 : decide (at0 < 0) = true) (w : World) (hT : TabAt 0 Lib.deBruijn64tab w) :
    Calls Tryd.prog 15 #[.int .i64 n, .slice a len cap, .int .i64 pg, .int .i64 at0] w fun e w' => e = .returned (.bool true) ∧ Keep nob w w' := by
  have AW := awake10 _ hT
  replace AW := Lib.hid AW
  replace hT := Lib.hid hT
  go_enter Tryd.func15, Tryd.ntmps15
  go_wp2_with fail
  refine Calls.mono AW.out ?_
  rintro r w5 ⟨rfl, K6⟩
  replace K6 := Lib.hid K6
  go_wp2_with fail
  go_ret
  exact ⟨rfl, K6.out⟩
theorem else_6 (n pg at0 : Int) (a : Option Addr) (len cap : Nat) (t0 : decide (n < 1) = false) (t1 : decide (30 < n) = false) (t2 : decide ((100 : Int) < len) = false) (t3 : decide (pg < 0) = false) (t4 : decide (1023 < pg) = false) (t5 : decide (at0 < 0) = false) (t6 : decide (31 < at0) = true) (w : World) (hT : TabAt 0 Lib.deBruijn64tab w) :
    Calls Tryd.prog 15 #[.int .i64 n, .slice a len cap, .int .i64 pg, .int .i64 at0] w fun e w' => e = .returned (.bool true) ∧ Keep nob w w' := by
  have AW := awake10 _ hT
  replace AW := Lib.hid AW
  replace hT := Lib.hid hT
  go_enter Tryd.func15, Tryd.ntmps15
  go_wp2_with fail
  refine Calls.mono AW.out ?_
  rintro r w5 ⟨rfl, K6⟩
  replace K6 := Lib.hid K6
  go_wp2_with fail
  go_ret
  exact ⟨rfl, K6.out⟩
theorem walk (n : Int) (v : Value) (l : List Op10) (pg at0 : Int) (w : World) (w0 : (Lit.int .i64 n).wf = true) (w1 : OpsAt w v l ∧ ∀ o ∈ l, op10Fine o) (w2 : (Lit.int .i64 pg).wf = true) (w3 : (Lit.int .i64 at0).wf = true) (hT : TabAt 0 Lib.deBruijn64tab w) :
    Calls Tryd.prog 15 #[.int .i64 n, v, .int .i64 pg, .int .i64 at0] w fun e w' => e = .returned (.bool true) ∧ Keep nob w w' := by
  by_cases q0 : n < 1
  · obtain ⟨⟨a, cap, rfl, hm, hcap, hc⟩, hf⟩ := w1
    exact else_0 n pg at0 a _ cap (decide_eq_true q0) w hT
  by_cases q1 : 30 < n
  · obtain ⟨⟨a, cap, rfl, hm, hcap, hc⟩, hf⟩ := w1
    exact else_1 n pg at0 a _ cap (decide_eq_false q0) (decide_eq_true q1) w hT
  by_cases q2 : (100 : Int) < l.length
  · obtain ⟨⟨a, cap, rfl, hm, hcap, hc⟩, hf⟩ := w1
    exact else_2 n pg at0 a _ cap (decide_eq_false q0) (decide_eq_false q1) (decide_eq_true q2) w hT
  by_cases q3 : pg < 0
  · obtain ⟨⟨a, cap, rfl, hm, hcap, hc⟩, hf⟩ := w1
    exact else_3 n pg at0 a _ cap (decide_eq_false q0) (decide_eq_false q1) (decide_eq_false q2) (decide_eq_true q3) w hT
  by_cases q4 : 1023 < pg
  · obtain ⟨⟨a, cap, rfl, hm, hcap, hc⟩, hf⟩ := w1
    exact else_4 n pg at0 a _ cap (decide_eq_false q0) (decide_eq_false q1) (decide_eq_false q2) (decide_eq_false q3) (decide_eq_true q4) w hT
  by_cases q5 : at0 < 0
  · obtain ⟨⟨a, cap, rfl, hm, hcap, hc⟩, hf⟩ := w1
    exact else_5 n pg at0 a _ cap (decide_eq_false q0) (decide_eq_false q1) (decide_eq_false q2) (decide_eq_false q3) (decide_eq_false q4) (decide_eq_true q5) w hT
  by_cases q6 : 31 < at0
  · obtain ⟨⟨a, cap, rfl, hm, hcap, hc⟩, hf⟩ := w1
    exact else_6 n pg at0 a _ cap (decide_eq_false q0) (decide_eq_false q1) (decide_eq_false q2) (decide_eq_false q3) (decide_eq_false q4) (decide_eq_false q5) (decide_eq_true q6) w hT
  obtain ⟨N, rfl⟩ : ∃ m : Nat, n = m := ⟨n.toNat, by omega⟩
  obtain ⟨P, rfl⟩ : ∃ m : Nat, pg = m := ⟨pg.toNat, by omega⟩
  obtain ⟨T, rfl⟩ : ∃ m : Nat, at0 = m := ⟨at0.toNat, by omega⟩
  exact walk_in N P T (by omega) (by omega) (by omega) (by omega) v l (by omega) w w1.1 w1.2 hT
set_option maxRecDepth 100000 in
theorem lifted (os : Os) (started : os.Started) (H : Type) (enc : TypeId × Value → H) :
    ReturnsInHanded {} Tryd.checked os 15 .any (fun w args => (Rows.ptableWalkSpec.pre enc Tryd.prog Tryd.f15 [] false w args ∧ laidMetH Tryd.prog Laid.list w) ∧ sizedMet enc Tryd.prog Tryd.f15 (OpenSpec.ofChange Rows.ptableWalkSpec) false w args) (Rows.ptableWalkSpec.post enc Tryd.prog Tryd.f15 false true false false) := by
  refine returnsInHanded_of_change_and (C := Tryd.checked) (X := fun w _ => laidMetH Tryd.prog Laid.list w) (fun _ _ _ hh h => h.of_heap hh) Head.own started (by kernel_rfl) Tryd.func15
    (ChangeSpec.witness_shaped (enc := enc) (C := Tryd.checked) (os := os) (X := fun w _ => laidMetH Tryd.prog Laid.list w) false (World.doorLaid Tryd.prog Laid.steps os) #[.int .i64 0, .slice none 0 0, .int .i64 0, .int .i64 0] 8 rfl (World.shaped_of_RefB (by kernel_rfl) (by kernel_rfl)) (by kernel_rfl) (by kernel_rfl) (by kernel_rfl) (Laid.met os _)) ?_
  intro W base args ds gs before hval0 hW _ _ hL _
  have hval : ∀ (j : Nat) t v, Tryd.f15.params[j]? = some t → args[j]? = some v → Value.okWide Tryd.prog W .any base t v := hval0
  have hW' := hW
  obtain ⟨p, q, hA0, hV, rfl, hfz, hnd⟩ := hW
  have hA : DataW.TrodAll enc Tryd.prog W 0 (fun _ => true) true Tryd.f15.params.toList args.toList ds p := hA0
  rw [Tryd.params15] at hA hval
  obtain ⟨v0, vs0, d0, ds0, p0, q0, hargs, rfl, rfl, h0, r0⟩ := trodAll_cons hA
  obtain ⟨v1, vs1, d1, ds1, p1, q1, rfl, rfl, rfl, h1, r1⟩ := trodAll_cons r0
  obtain ⟨v2, vs2, d2, ds2, p2, q2, rfl, rfl, rfl, h2, r2⟩ := trodAll_cons r1
  obtain ⟨v3, vs3, d3, ds3, p3, q3, rfl, rfl, rfl, h3, r3⟩ := trodAll_cons r2
  obtain ⟨rfl, rfl, rfl⟩ := trodAll_nil r3
  obtain rfl : args = #[v0, v1, v2, v3] := by cases args; simp_all
  obtain ⟨rfl, rfl⟩ := trodVars_none hV
  have k0 := h0
  have lt0 : ∀ x ∈ p0, x.block < W.heap.size := by obtain ⟨m, hm⟩ := k0; exact DataW.trod_lt m _ _ _ hm
  obtain ⟨a0, rfl, rfl, rfl, w0⟩ := open_int Tryd.underlying3 (hval 0 3 v0 rfl rfl) h0
  have k1 := h1
  have lt1 : ∀ x ∈ p1, x.block < W.heap.size := by obtain ⟨m, hm⟩ := k1; exact DataW.trod_lt m _ _ _ hm
  obtain ⟨a1, w1⟩ := open_ops10 (hval 1 82 v1 rfl rfl) h1
  have k2 := h2
  have lt2 : ∀ x ∈ p2, x.block < W.heap.size := by obtain ⟨m, hm⟩ := k2; exact DataW.trod_lt m _ _ _ hm
  obtain ⟨a2, rfl, rfl, rfl, w2⟩ := open_int Tryd.underlying3 (hval 2 3 v2 rfl rfl) h2
  have k3 := h3
  have lt3 : ∀ x ∈ p3, x.block < W.heap.size := by obtain ⟨m, hm⟩ := k3; exact DataW.trod_lt m _ _ _ hm
  obtain ⟨a3, rfl, rfl, rfl, w3⟩ := open_int Tryd.underlying3 (hval 3 3 v3 rfl rfl) h3
  clear hA0 hval0
  refine (walk a0 v1 a1 a2 a3 W w0 w1 w2 w3 (Laid.tab hL)).mono fun e W' ⟨he, kp⟩ => ?_
  subst he
  have bel := kp.below
  exact ⟨_, rfl, _, _, _, [], _, [], hW', trodAll_mk1 (shut_bool Tryd.underlying4 _), (trodAll_cons_mk (shut_int Tryd.underlying3 w0) (trodAll_cons_mk (Below.trod Head.laidOut (by kernel_rfl) (of_decide_eq_true (by kernel_rfl)) k1 bel lt1) (trodAll_cons_mk (shut_int Tryd.underlying3 w2) (trodAll_cons_mk (shut_int Tryd.underlying3 w3) trodAll_mk0)))), rfl, bel.frame _, fun h => by cases h⟩
theorem closed : joinedFacts Tryd.prog 15 Tryd.f15 Rows.ptableWalkSpec Rows.ptableWalkRow = true := by
  unfold joinedFacts
  rw [Head.mayEnter, Head.liftsFinal, Head.make]
  kernel_rfl
theorem over : Rows.ptableWalkRow.holds Tryd.pinned (OpenSpec.ofChange Rows.ptableWalkSpec) :=
  OpenClaim.holds_of_wide 15 Tryd.f15 rfl rfl rfl rfl rfl rfl rfl ⟨rfl, rfl, rfl, rfl, rfl⟩ rfl rfl rfl rfl rfl (by kernel_rfl) Tryd.func15 closed
    (of_decide_eq_true (by kernel_rfl)) (by unfold Func.isWrapper; first | (rw [if_pos (by decide +kernel)]; kernel_rfl) | (rw [if_neg (by decide +kernel)]; exact ⟨rfl, rfl⟩))
    (fun os started H enc _ => lifted os started H enc)
theorem row : Rows.PtableWalkSaid := over
theorem proved : Rows.PtableWalkCardSaid :=
  Claim7.holds_tied_plain_at .later [] [.data] true (true, "6f766e467f1f76f857c29113ad61a388d69ae06b2677fa7c12f1fa228f819649") false
    row (fun _ h => by cases h) (by kernel_rfl) (fun _ h => by cases h) ptableWalk_row_tie rfl ⟨rfl, rfl⟩ (by kernel_rfl) rfl
    (fun f fn hf hfn => by
      obtain rfl : f = 15 := Option.some.inj ((show Tryd.prog.funcNamed "priory/priorylaw10.PtableWalk" = some 15 by kernel_rfl).symm.trans hf) |>.symm
      obtain rfl : fn = Tryd.f15 := (Option.some.inj (Tryd.func15.symm.trans hfn)).symm
      exact ⟨by kernel_rfl, fun j t ht => by
        have hall : (Tryd.f15.params.toList.all fun u => !Tryd.prog.wantsStandIn u) = true := by kernel_rfl
        have hm : t ∈ Tryd.f15.params.toList := Array.mem_toList_iff.2 (Array.mem_of_getElem? ht)
        exact (show Tryd.prog.wantsStandIn t = false by simpa using List.all_eq_true.1 hall t hm)⟩)
    (by kernel_rfl)
end Go.Proofs.YtepmljcapobodaaDoor.ptableWalk
