/- A manager, under any script of calls, answers as the document says, what is mapped is as it should be, and just the frames of tables are handed out. Condition: none beyond the statement's own. -/
import Derived.Test.YtepmljcapobodaaDoorPlB
import Derived.Test.YtepmljcapobodaaDoorHead
import Derived.Test.YtepmljcapobodaaDoorLaid
import Derived.Test.YtepmljcapobodaaDoorCards
import Derived.Test.YtepmljcapobodaaDoorTie
namespace Go.Proofs.YtepmljcapobodaaDoor.ptablePlays
open Go.ChangeShapes Go.WideShapes Go.ChangeAt Go.RowKit
set_option linter.unusedVariables false
set_option linter.unusedSimpArgs false
set_option maxRecDepth 100000
theorem Bl.up {A : MB} {B : PB} {a b : Nat} (h : Bl A B a) (hab : a ≤ b) : Bl A B b := ⟨Nat.lt_of_lt_of_le h.b hab, fun x hx => Nat.lt_of_lt_of_le (h.o x hx) hab, Nat.lt_of_lt_of_le h.t hab, Nat.lt_of_lt_of_le h.rt hab⟩
def Inv1 (w : World) (A : MB) (B : PB) (base bw lb many len : Nat) (i : Value) (wr : World) : Prop :=
  ∃ k v lv sl ol M g left, i = .int .i64 (k : Nat) ∧ k ≤ len ∧ PlAt wr A B base bw lb many v lv sl ol M g left k ∧ Keep nob w wr
def Inv2 (w : World) (len : Nat) (i : Value) (wr : World) : Prop := ∃ k, i = .int .i64 (k : Nat) ∧ k ≤ len ∧ Keep nob w wr
theorem start {w1 : World} {A : MB} {B : PB} {many : Nat} (D : PtG A B) (hn : B.n = many + 2) (h1 : 1 ≤ many) (h2 : many ≤ 30) (S : PtSt w1 A B many M0 (fun _ => 0) many 0) :
    PlGeo A B (w1.heap.size + 2) w1.heap.size (w1.heap.size + 1) many ∧ PlAt ((w1.alloc (.cells #[.slice none 0 0, .int .i64 ((many : Int) + 2), .int .i64 many] 85)).alloc (.cells #[.slice none 0 0] 48)) A B (w1.heap.size + 2) w1.heap.size (w1.heap.size + 1) many (.slice none 0 0) (.slice none 0 0) [] [] M0 (fun _ => 0) many 0 := by
  have bl := S.below
  have K : Keep nob w1 ((w1.alloc (.cells #[.slice none 0 0, .int .i64 ((many : Int) + 2), .int .i64 many] 85)).alloc (.cells #[.slice none 0 0] 48)) := ((Keep.refl _ _).alloc _).alloc _
  have sz : ((w1.alloc (.cells #[.slice none 0 0, .int .i64 ((many : Int) + 2), .int .i64 many] 85)).alloc (.cells #[.slice none 0 0] 48)).heap.size = w1.heap.size + 2 := by rw [World.size_alloc, World.size_alloc]
  have nb : ∀ (j : Nat) (u : Value), (#[.slice none 0 0, .int .i64 ((many : Int) + 2), .int .i64 many] : Array Value).toList[j]? = some u → ((w1.alloc (.cells #[.slice none 0 0, .int .i64 ((many : Int) + 2), .int .i64 many] 85)).alloc (.cells #[.slice none 0 0] 48)).cell? ⟨w1.heap.size, j, none⟩ = some u := by
    intro j u hu
    rw [alloc_lt (by simp)]
    exact new_at w1 #[.slice none 0 0, .int .i64 ((many : Int) + 2), .int .i64 many] 85 j _ hu
  have l0 := new_at (w1.alloc (.cells #[.slice none 0 0, .int .i64 ((many : Int) + 2), .int .i64 many] 85)) #[.slice none 0 0] 48 0 _ rfl
  have lz := new_free (w1.alloc (.cells #[.slice none 0 0, .int .i64 ((many : Int) + 2), .int .i64 many] 85)) #[.slice none 0 0] 48 0
  rw [World.size_alloc] at l0 lz
  have z0 : ((w1.alloc (.cells #[.slice none 0 0, .int .i64 ((many : Int) + 2), .int .i64 many] 85)).alloc (.cells #[.slice none 0 0] 48)).frozen? ⟨w1.heap.size, 0, none⟩ = false := by
    have := new_free w1 #[.slice none 0 0, .int .i64 ((many : Int) + 2), .int .i64 many] 85 0
    have k : Keep nob (w1.alloc (.cells #[.slice none 0 0, .int .i64 ((many : Int) + 2), .int .i64 many] 85)) ((w1.alloc (.cells #[.slice none 0 0, .int .i64 ((many : Int) + 2), .int .i64 many] 85)).alloc (.cells #[.slice none 0 0] 48)) := (Keep.refl _ _).alloc _
    exact (k.frozen (p := ⟨w1.heap.size, 0, none⟩) (by rw [World.size_alloc]; exact Nat.lt_succ_self _) (fun x => x)).trans this
  refine ⟨⟨D, Bl.up bl (by omega), bl, Bl.up bl (by omega), by omega, by omega, by omega, hn, h1, h2⟩, S.next D K, ⟨nb 0 _ rfl, ?_, nb 2 _ rfl, z0, by omega, World.ownsRow_nil _ _ _ _, fun s h => (by cases h), by simp, fun s h => (by cases h), by rw [sz]; omega⟩, l0, lz, World.ownsRow_nil _ _ _ _, PRel.start many, Nat.le_refl _, fun x h => by cases h⟩
  rw [show ((many + 2 : Nat) : Int) = (many : Int) + 2 by omega]
  exact nb 1 _ rfl
set_option maxHeartbeats 0 in
theorem walk_in (many : Nat) (h1 : 1 ≤ many) (h2 : many ≤ 30) (v : Value) (l : List Op10) (hl : l.length ≤ 100) (w : World) (L : OpsAt w v l) (hf : ∀ o ∈ l, op10Fine o) (hT : TabAt 0 Lib.deBruijn64tab w) :
    Calls Tryd.prog 12 #[.int .i64 many, v] w fun r w' => r = .returned (.bool true) ∧ Keep nob w w' := by
  obtain ⟨a, cap, rfl, hm, hcap, hcells⟩ := L
  have C := made10 w many (by omega) (by omega)
  have t1 : decide ((many : Int) < 1) = false := by simp; omega
  have t2 : decide ((30 : Int) < many) = false := by simp; omega
  have t3 : decide ((100 : Int) < l.length) = false := by simp; omega
  replace hT := Lib.hid hT
  replace C := Lib.hid C
  replace hf := Lib.hid hf
  replace hcells := Lib.hid hcells
  go_enter Tryd.func12, Tryd.ntmps12
  go_wp2_with fail
  refine Calls.mono C.out ?_
  rintro r w1 ⟨A, B, rfl, D, hn, hll, S, Si, K⟩
  obtain ⟨G, P0⟩ := start D hn h1 h2 S
  have nO : ∀ q, q < w.heap.size → ¬ ownT A B q := by
    intro q hq h
    have h1 := Si.s.mf
    have h2 := Si.s.lo
    have h3 := Si.rt
    rcases h with (h | h) | h
    · omega
    · omega
    · omega
  have zw := K.size
  have nP : ∀ q, q < w.heap.size → ¬ playS A B (w1.heap.size + 2) w1.heap.size (w1.heap.size + 1) q := by
    intro q hq h
    rcases h with h | h | h | h
    · exact nO q hq h
    · omega
    · omega
    · omega
  obtain ⟨base, hbase⟩ : ∃ b, w1.heap.size + 2 = b := ⟨_, rfl⟩
  have K2 : Keep nob w ((w1.alloc (.cells #[.slice none 0 0, .int .i64 ((many : Int) + 2), .int .i64 many] 85)).alloc (.cells #[.slice none 0 0] 48)) := (K.alloc _).alloc _
  rw [hbase] at G P0 nP
  replace D := Lib.hid D
  replace hn := Lib.hid hn
  replace hll := Lib.hid hll
  replace S := Lib.hid S
  replace Si := Lib.hid Si
  replace K := Lib.hid K
  replace G := Lib.hid G
  replace P0 := Lib.hid P0
  replace nO := Lib.hid nO
  replace nP := Lib.hid nP
  replace hbase := Lib.hid hbase
  replace K2 := Lib.hid K2
  go_wp2_with fail
  go_loopw [11] (fun i wr => Inv1 w A B base w1.heap.size (w1.heap.size + 1) many l.length i wr) (fun i _ => (l.length - intOf i).toNat)
  case atStart => exact ⟨0, _, _, _, _, _, _, _, rfl, Nat.zero_le _, P0.out, K2.out⟩
  case round =>
    clear P0 K2
    obtain ⟨k, v, lv, sl, ol, M, g, left, rfl, hk, P, K3⟩ := hrel
    replace P := Lib.hid P
    replace K3 := Lib.hid K3
    by_cases hlt : k < l.length
    · have hne : l ≠ [] := by intro e; rw [e] at hlt; simp at hlt
      obtain ⟨gg, og, rfl, cs⟩ := hcells.out hne
      obtain ⟨⟨d, s, pg, ⟨ep, eq, ec, ef⟩⟩, ho⟩ : ∃ o, l[k] = o := ⟨_, rfl⟩
      have ho' : l[k]? = some ⟨d, s, pg, ⟨ep, eq, ec, ef⟩⟩ := by rw [← ho, List.getElem?_eq_getElem hlt]
      have r0 : wr.cell? ⟨gg, og + k * 7, none⟩ = some (.int .i64 d) := K3.out.some (cs k _ ho' 0 _ rfl) (fun x => x)
      have r1 : wr.cell? ⟨gg, og + k * 7 + 1, none⟩ = some (.int .i64 s) := K3.out.some (cs k _ ho' 1 _ rfl) (fun x => x)
      have r2 : wr.cell? ⟨gg, og + k * 7 + 2, none⟩ = some (.int .i64 pg) := K3.out.some (cs k _ ho' 2 _ rfl) (fun x => x)
      have r3 : wr.cell? ⟨gg, og + k * 7 + 3, none⟩ = some (.bool ep) := K3.out.some (cs k _ ho' 3 _ rfl) (fun x => x)
      have r4 : wr.cell? ⟨gg, og + k * 7 + 4, none⟩ = some (.bool eq) := K3.out.some (cs k _ ho' 4 _ rfl) (fun x => x)
      have r5 : wr.cell? ⟨gg, og + k * 7 + 5, none⟩ = some (.bool ec) := K3.out.some (cs k _ ho' 5 _ rfl) (fun x => x)
      have r6 : wr.cell? ⟨gg, og + k * 7 + 6, none⟩ = some (.int .i64 ef) := K3.out.some (cs k _ ho' 6 _ rfl) (fun x => x)
      have gw : gg < w.heap.size := World.block_lt_of_cell? _ _ (cs k _ ho' 0 _ rfl)
      have t4 : decide (k < l.length) = true := by simpa using hlt
      have kz : (0 : Int) ≤ k := by omega
      have kb : (k : Int) < l.length := by omega
      have Kd : Keep nob wr wr.drew := (Keep.refl nob wr).drew
      have CP := play_ok G.out (P.out.next G.out Kd) (tab_keep hT.out (K3.out.then Kd)) (by omega) ⟨d, s, pg, ⟨ep, eq, ec, ef⟩⟩
      unfold opV at CP
      dsimp only at CP
      have ngg : ¬ playS A B base w1.heap.size (w1.heap.size + 1) gg := nP.out _ gw
      have ed : ∀ p, wr.drew.cell? p = wr.cell? p := fun p => rfl
      replace ho := Lib.hid ho
      replace ho' := Lib.hid ho'
      replace gw := Lib.hid gw
      replace Kd := Lib.hid Kd
      replace CP := Lib.hid CP
      replace ngg := Lib.hid ngg
      replace ed := Lib.hid ed
      clear cs
      go_wp2_with fail
      go_region_with (first | (go_at_call 41; (with_reducible refine Calls.mono CP.out ?_); rintro r w5 ⟨rfl, ⟨v5, lv5, sl5, ol5, M5, g5, left5, P5⟩, K5⟩; have c0 := P5.W.c0; have c1 := P5.W.c1; have c2 := P5.W.c2; have x1 := K5.some ((ed.out _).trans r1) ngg.out; have x2 := K5.some ((ed.out _).trans r2) ngg.out; have us5 := P5.R.us; have el : ((left5 : Nat) : Int) = (many : Int) - ((usedR sl5 : Nat) : Int) := (by omega); have CL0 := st_left G.out.D P5.S; rw [el] at CL0; have CL := Lib.hid CL0; clear CL0; have t6 : (0 : Int) ≤ ((usedR sl5 : Nat) : Int) := (by omega); have b6 : ((usedR sl5 : Nat) : Int) ≤ 30 := (by have := h2; omega); have b7 : IntKind.i64.wrap ((many : Int) - ((usedR sl5 : Nat) : Int)) = (many : Int) - ((usedR sl5 : Nat) : Int) := IntWalk.i64_in _ (by have := h2; omega); have b5 : usedR sl5 ≤ 30 := (by have := h2; omega); have CU := Lib.hid (used_ok P5.W.is ((many : Int) + 2) many); replace P5 := Lib.hid P5; replace K5 := Lib.hid K5; replace us5 := Lib.hid us5; replace el := Lib.hid el) | (go_at_call 24; (with_reducible refine Calls.mono CL.out ?_); rintro r w6 ⟨rfl, rfl⟩) | (go_at_call 42; refine Calls.mono CU.out ?_; rintro r w7 ⟨rfl, K7⟩; replace K7 := Lib.hid K7))
      all_goals
        have Ka := ((K3.out.then Kd.out).trans K5.out (fun q hq e => (nP.out q hq e).elim)).then K7.out
        have P7 := P5.out.next G.out K7.out
        have X1 := K7.out.some x1 (fun x => x)
        have X2 := K7.out.some x2 (fun x => x)
        have wfr := root_wf (n := s) P7.lo
        have RT := fun W' (k : Keep nob w7 W') => (root_ok (own_rows natCells_len (own_next P7.lr k) (by have := P7.ll; omega)) (by have := P7.ll; omega) s).mono (fun r w' (h : r = .returned (.int .i64 (rootR ol5 s)) ∧ W' = w') => (⟨h.1, by rw [h.2]; exact Keep.refl _ _⟩ : r = .returned (.int .i64 (rootR ol5 s)) ∧ Keep nob W' w'))
        obtain ⟨rt, hrt⟩ : ∃ rt, rootR ol5 s = rt := ⟨_, rfl⟩
        rw [hrt] at RT wfr
        have Z0 := KW.cell P7.l0
        have Z1 := KW.cell X1
        replace Ka := Lib.hid Ka
        replace P7 := Lib.hid P7
        replace RT := Lib.hid RT
        replace hrt := Lib.hid hrt
        replace wfr := Lib.hid wfr
        clear r0 r1 r2 r3 r4 r5 r6 c0 c1 c2 x1 x2
        go_wp2_with fail
        refine wp_region_keepq (by kernel_rfl) (by kernel_rfl) ?_
        quiet_step ((first | (go_at_call 43; with_reducible exact Calls.keepq (RT.out _ (KW.k _)))))
        repeat (go_big_quiet_step ((first | (go_at_call 43; with_reducible exact Calls.keepq (RT.out _ (KW.k _))))))
        refine wpQuiet_nil ?_
        rintro w8 ⟨⟨_, K8⟩, rfl⟩
        try dsimp only
        have Kb := Ka.out.then K8
        have P8 := P7.out.next G.out K8
        have x2 := K8.some X2 (fun x => x)
        have CQ := st_query G.out.D P8.S rt pg wfr.out
        have RQ := P8.R.query rt pg
        obtain ⟨⟨ap, aw, ac, af⟩, hE⟩ : ∃ E, qryA M5 g5 rt pg = E := ⟨_, rfl⟩
        rw [hE] at CQ RQ
        unfold Ent.val at CQ
        dsimp only at CQ
        replace K8 := Lib.hid K8
        replace Kb := Lib.hid Kb
        replace P8 := Lib.hid P8
        replace CQ := Lib.hid CQ
        replace RQ := Lib.hid RQ
        replace hE := Lib.hid hE
        clear Z0 Z1 X1 X2
        go_wp2_with fail
        refine Calls.mono CQ.out ?_
        rintro r w9 ⟨rfl, K9⟩
        have Kc := Kb.out.then K9
        have P9 := P8.out.next G.out K9
        have x2' := K9.some x2 (fun x => x)
        have KE : Keep nob w9 (w9.alloc (.cells #[.bool ap, .bool aw, .bool ac, .int .i64 af] 69)) := (Keep.refl _ _).alloc _
        have Y := EntAt.new w9 ap aw ac af 69
        obtain ⟨WA, hWA⟩ : ∃ WA, WA = w9.alloc (.cells #[.bool ap, .bool aw, .bool ac, .int .i64 af] 69) := ⟨_, rfl⟩
        rw [← hWA] at KE Y
        have PA := P9.next G.out KE
        have Kf : Keep nob WA WA.drew := (Keep.refl nob WA).drew
        have CR := fun W' (k : Keep nob WA W') => rquery_ok (PA.W.is.next k) ((many : Int) + 2) many rt pg
        rw [RQ.out] at CR
        unfold wAgg Ent.val at CR
        dsimp only at CR
        have d0 := PA.W.c0
        have d1 := PA.W.c1
        have d2 := PA.W.c2
        have x3 := KE.some x2' (fun x => x)
        have ed2 : ∀ p, WA.drew.cell? p = WA.cell? p := fun p => rfl
        have d1 : WA.cell? ⟨w1.heap.size, 1, none⟩ = some (.int .i64 ((many : Int) + 2)) := by rw [show (many : Int) + 2 = ((many + 2 : Nat) : Int) by omega]; exact d1
        obtain ⟨E0, E1, E2, E3, -, -, -, -⟩ := id Y
        have n1 : ¬ only WA.heap.size w1.heap.size := fun e => by have e : w1.heap.size = WA.heap.size := e; have : w1.heap.size < WA.heap.size := World.block_lt_of_cell? _ _ d0; omega
        have n2 : ¬ only WA.heap.size gg := fun e => by have e : gg = WA.heap.size := e; have : gg < WA.heap.size := World.block_lt_of_cell? _ _ x3; omega
        have n9 : ¬ only WA.heap.size w9.heap.size := fun e => by have e : w9.heap.size = WA.heap.size := e; have : w9.heap.size < WA.heap.size := World.block_lt_of_cell? _ _ E0; omega
        have hneq : ∀ w, (binOp .neq 69 (.agg #[.bool ap, .bool aw, .bool ac, .int .i64 af]) (.agg #[.bool ap, .bool aw, .bool ac, .int .i64 af])).run Tryd.prog w = .ok (.bool false) w := by
          intro w
          rw [neEnt, decide_eq_true rfl]
          rfl
        replace K9 := Lib.hid K9
        replace Kc := Lib.hid Kc
        replace P9 := Lib.hid P9
        replace KE := Lib.hid KE
        replace Y := Lib.hid Y
        replace hWA := Lib.hid hWA
        replace PA := Lib.hid PA
        replace Kf := Lib.hid Kf
        replace CR := Lib.hid CR
        replace ed2 := Lib.hid ed2
        replace n9 := Lib.hid n9
        clear x2 x2'
        go_wp2_with fail
        rw [← hWA.out]
        go_region_held3 (fun w' => w'.cell? ⟨w1.heap.size, 0, none⟩ = some v5 ∧ w'.cell? ⟨w1.heap.size, 1, none⟩ = some (.int .i64 ((many : Int) + 2)) ∧ w'.cell? ⟨w1.heap.size, 2, none⟩ = some (.int .i64 many) ∧ w'.cell? ⟨gg, og + k * 7 + 2, none⟩ = some (.int .i64 pg)) (first | go_keep | exact ⟨y0, y1, y2, y3⟩ | exact ⟨KS.out.some y0 n1, KS.out.some y1 n1, KS.out.some y2 n1, KS.out.some y3 n2⟩) (first | (go_at_call 45; (with_reducible refine Calls.mono (CR.out _ Kf.out) ?_); rintro r wb ⟨rfl, KB0⟩; have KB := Lib.hid (Kf.out.then KB0); have y0 := KB.out.some d0 (fun x => x); have y1 := KB.out.some d1 (fun x => x); have y2 := KB.out.some d2 (fun x => x); have y3 := KB.out.some x3 (fun x => x); have y4 := KB.out.some E0 (fun x => x); have y5 := KB.out.some E1 (fun x => x); have y6 := KB.out.some E2 (fun x => x); have y7 := KB.out.some E3 (fun x => x)) | (go_at_call 45; (with_reducible refine Calls.mono (CR.out _ (((Keep.refl nob WA).alloc _).drew)) ?_); rintro r wb ⟨rfl, KB0⟩; have KB := Lib.hid ((((Keep.refl nob WA).alloc _).drew).then KB0); have y0 := KB.out.some d0 (fun x => x); have y1 := KB.out.some d1 (fun x => x); have y2 := KB.out.some d2 (fun x => x); have y3 := KB.out.some x3 (fun x => x); have y4 := KB.out.some E0 (fun x => x); have y5 := KB.out.some E1 (fun x => x); have y6 := KB.out.some E2 (fun x => x); have y7 := KB.out.some E3 (fun x => x); have EB : EntAt wb WA.heap.size false false false 0 := (EntAt.new WA false false false 0 69).next (((Keep.refl nob _).drew).then KB0); have KS : Keep (only WA.heap.size) wb ((((wb.setCell ⟨WA.heap.size, 0, none⟩ (.bool ap)).setCell ⟨WA.heap.size, 1, none⟩ (.bool aw)).setCell ⟨WA.heap.size, 2, none⟩ (.bool ac)).setCell ⟨WA.heap.size, 3, none⟩ (.int .i64 af)) := ((((Keep.refl _ _).store _ _).store _ _).store _ _).store _ _; have EC := EB.put (p' := ap) (q' := aw) (c' := ac) (f' := af); obtain ⟨b0, b1, b2, b3, bz0, bz1, bz2, bz3⟩ := id EB; replace KS := Lib.hid KS; replace EC := Lib.hid EC; replace EB := Lib.hid EB))
        · have Ke2 : Keep nob wb (wb.alloc (.cells #[.bool ap, .bool aw, .bool ac, .int .i64 af] 69)) := (Keep.refl _ _).alloc _
          have u4 := Ke2.some y4 (fun x => x)
          have u5 := Ke2.some y5 (fun x => x)
          have u6 := Ke2.some y6 (fun x => x)
          have u7 := Ke2.some y7 (fun x => x)
          obtain ⟨v0, v1, v2, v3, -, -, -, -⟩ := EntAt.new wb ap aw ac af 69
          replace Ke2 := Lib.hid Ke2
          clear y0 y1 y2 y3 y4 y5 y6 y7 d0 d1 d2 x3 E0 E1 E2 E3
          go_wp2_with fail
          go_roundw
          case rel => exact ⟨k + 1, _, _, _, _, _, _, _, by go_num, by omega, PA.out.next G.out (KB.out.then Ke2.out), (Kc.out.then KE.out).then (KB.out.then Ke2.out)⟩
          case measure => simp [intOf]; omega
        · have u4 := KS.out.some y4 n9.out
          have u5 := KS.out.some y5 n9.out
          have u6 := KS.out.some y6 n9.out
          have u7 := KS.out.some y7 n9.out
          obtain ⟨v0, v1, v2, v3, -, -, -, -⟩ := id EC.out
          have KF : Keep nob WA ((((wb.setCell ⟨WA.heap.size, 0, none⟩ (.bool ap)).setCell ⟨WA.heap.size, 1, none⟩ (.bool aw)).setCell ⟨WA.heap.size, 2, none⟩ (.bool ac)).setCell ⟨WA.heap.size, 3, none⟩ (.int .i64 af)) := by
            refine KB.out.trans KS.out (fun q hq e => ?_)
            have e : q = WA.heap.size := e
            omega
          replace KF := Lib.hid KF
          clear y0 y1 y2 y3 y4 y5 y6 y7 d0 d1 d2 x3 E0 E1 E2 E3
          go_wp2_with fail
          go_roundw
          case rel => exact ⟨k + 1, _, _, _, _, _, _, _, by go_num, by omega, PA.out.next G.out KF.out, (Kc.out.then KE.out).then KF.out⟩
          case measure => simp [intOf]; omega
    · have t4 : decide (k < l.length) = false := by simpa using hlt
      obtain ⟨wo, hwo⟩ : ∃ wo, wo = wr := ⟨_, rfl⟩
      subst hwo
      have PP := P.out
      obtain ⟨av, cv, hv⟩ := row_form PP.W.row
      subst hv
      have wz := PP.W.c0
      have lenb : sl.length ≤ 1000 := PP.W.len
      replace PP := Lib.hid PP
      clear hlt
      go_wp2_with fail
      go_loopw [17] (fun i wr' => Inv2 wo sl.length i wr') (fun i _ => (sl.length - intOf i).toNat)
      case atStart => exact ⟨0, rfl, Nat.zero_le _, Keep.refl _ _⟩
      case round =>
        obtain ⟨j, rfl, hj, K4⟩ := hrel
        have z0 := K4.some wz (fun x => x)
        by_cases hlt : j < sl.length
        · obtain ⟨gs, cv', hvx, _, _, _, src0⟩ := own_cells PP.out.W.row (by omega)
          injection hvx with q1 q2 q3
          subst q1; subst q3
          obtain ⟨s, hs⟩ : ∃ s, sl[j] = s := ⟨_, rfl⟩
          have hs' : sl[j]? = some s := by rw [← hs, List.getElem?_eq_getElem hlt]
          have sm := List.mem_of_getElem? hs'
          have z1 := K4.some (src0 _ _ (flat_get spcCells_len sl j s 0 _ hs' rfl)).1 (fun x => x)
          have z2 := K4.some (src0 _ _ (flat_get spcCells_len sl j s 1 _ hs' rfl)).1 (fun x => x)
          have hg : g (s.r : Int) ≠ 0 := (PP.out.R.on s.r).2 ⟨s, sm, rfl⟩
          have el := PP.out.R.ls s sm
          have fi := PP.out.W.fine s sm
          have wfr2 : wfI (s.r : Int) := by
            obtain ⟨c, f, T, X, I, -⟩ := PP.out.S
            have := (I.hg _ hg).1
            have := I.hm
            have := G.out.D.G.n
            unfold wfI
            omega
          have eA : allA M g s.r = s.l := by unfold allA; rw [if_neg hg, Int.toNat_natCast, el]
          have CA := fun W' (k : Keep nob wo W') => st_all G.out.D (PP.out.S.next G.out.D k) s.r wfr2
          rw [eA] at CA
          have CT := fun W' (k : Keep nob wo W') => st_tables G.out.D (PP.out.S.next G.out.D k) s.r wfr2
          have MS := PP.out.W.is.maps s sm
          have CU := fun W' (k : Keep nob wo W') => tab_ok (MS.next k) fi.1 fi.2
          have et : tabR s.l = 1 + cnt (live M s.r) 32 := by rw [el]; exact tabR_pres M s.r
          rw [if_neg hg, Int.toNat_natCast, ← et] at CT
          obtain ⟨tt, htt⟩ : ∃ tt, tabR s.l = tt := ⟨_, rfl⟩
          rw [htt] at CT CU
          have ln1 : s.l.length ≤ 4611686018427387904 := Nat.le_trans fi.1 (by decide)
          obtain ⟨sr, hsr⟩ : ∃ sr : Int, (s.r : Int) = sr := ⟨_, rfl⟩
          obtain ⟨sv, hsv⟩ : ∃ sv, s.v = sv := ⟨_, rfl⟩
          replace z1 : wr.cell? ⟨gs, j * 2, none⟩ = some (.int .i64 sr) := by rw [← hsr]; exact z1
          replace z2 : wr.cell? ⟨gs, j * 2 + 1, none⟩ = some sv := by rw [← hsv]; exact z2
          rw [hsr] at CA CT
          rw [hsv] at CU MS
          have kz2 : (0 : Int) ≤ j := by omega
          have kb2 : (j : Int) < sl.length := by omega
          have t5 : decide (j < sl.length) = true := by simpa using hlt
          have Kd : Keep nob wr wr.drew := (Keep.refl nob _).drew
          have ed3 : ∀ p, wr.drew.cell? p = wr.cell? p := fun p => rfl
          replace CA := Lib.hid CA
          replace CT := Lib.hid CT
          replace CU := Lib.hid CU
          replace MS := Lib.hid MS
          replace ln1 := Lib.hid ln1
          replace K4 := Lib.hid K4
          replace Kd := Lib.hid Kd
          replace ed3 := Lib.hid ed3
          replace hs := Lib.hid hs
          replace hs' := Lib.hid hs'
          replace sm := Lib.hid sm
          replace el := Lib.hid el
          replace fi := Lib.hid fi
          replace hsr := Lib.hid hsr
          replace hsv := Lib.hid hsv
          replace htt := Lib.hid htt
          replace et := Lib.hid et
          replace eA := Lib.hid eA
          replace wfr2 := Lib.hid wfr2
          replace src0 := Lib.hid src0
          replace hg := Lib.hid hg
          go_wp2_with fail
          go_region_held3 (fun w' => w'.cell? ⟨w1.heap.size, 0, none⟩ = some (.slice (some ⟨gs, 0, none⟩) sl.length cv) ∧ w'.cell? ⟨gs, j * 2, none⟩ = some (.int .i64 sr) ∧ w'.cell? ⟨gs, j * 2 + 1, none⟩ = some sv) (first | go_keep | exact ⟨y0, y1, y2⟩ | exact ⟨x0, x1, x2⟩ | exact ⟨u0, u1, u2⟩ | exact ⟨v0, v1, v2⟩) (first | (go_at_call 36; (with_reducible refine Calls.mono (CA.out _ (K4.out.then Kd.out)) ?_); rintro r wa ⟨va, rfl, MA, KA⟩; have y0 := KA.some ((ed3.out _).trans z0) (fun x => x); have y1 := KA.some ((ed3.out _).trans z1) (fun x => x); have y2 := KA.some ((ed3.out _).trans z2) (fun x => x); replace MA := Lib.hid MA; replace KA := Lib.hid KA) | (go_at_call 46; have CS := same10_ok (MA.out.is ln1.out) (MS.out.next ((K4.out.then Kd.out).then KA.out)); rw [decide_eq_true rfl] at CS; refine Calls.mono CS ?_; rintro r wb ⟨rfl, KB⟩; have x0 := KB.some y0 (fun x => x); have x1 := KB.some y1 (fun x => x); have x2 := KB.some y2 (fun x => x); replace KB := Lib.hid KB; clear CS) | (go_at_call 37; (with_reducible refine Calls.mono (CT.out _ (((K4.out.then Kd.out).then KA.out).then KB.out)) ?_); rintro r wc ⟨rfl, KC⟩; have u0 := KC.some x0 (fun x => x); have u1 := KC.some x1 (fun x => x); have u2 := KC.some x2 (fun x => x); replace KC := Lib.hid KC) | (go_at_call 47; (with_reducible refine Calls.mono (CU.out _ ((((K4.out.then Kd.out).then KA.out).then KB.out).then KC.out)) ?_); rintro r we ⟨rfl, KE⟩; have v0 := KE.some u0 (fun x => x); have v1 := KE.some u1 (fun x => x); have v2 := KE.some u2 (fun x => x); replace KE := Lib.hid KE))
          go_wp2_with fail
          go_roundw
          case rel => exact ⟨j + 1, by go_num, by omega, ((((K4.out.then Kd.out).then KA.out).then KB.out).then KC.out).then KE.out⟩
          case measure => simp [intOf]; omega
        · have t5 : decide (j < sl.length) = false := by simpa using hlt
          have Kx := K3.out.then K4
          have AW := awake10 _ (tab_keep hT.out Kx)
          replace Kx := Lib.hid Kx
          replace AW := Lib.hid AW
          replace K4 := Lib.hid K4
          clear hlt
          go_wp2_with fail
          refine Calls.mono AW.out ?_
          rintro r w8 ⟨rfl, K12⟩
          replace K12 := Lib.hid K12
          go_wp2_with fail
          go_ret
          exact ⟨rfl, Kx.out.then K12.out⟩
theorem walk_else (n : Int) (a : Option Addr) (len cap : Nat) (h : ¬ (1 ≤ n ∧ n ≤ 30 ∧ len ≤ 100)) (w : World) (hT : TabAt 0 Lib.deBruijn64tab w) :
    Calls Tryd.prog 12 #[.int .i64 n, .slice a len cap] w fun e w' => e = .returned (.bool true) ∧ Keep nob w w' := by
  have AW := awake10 _ hT
  replace AW := Lib.hid AW
  replace hT := Lib.hid hT
  have T : (decide (n < 1) || decide (30 < n) || decide ((100 : Int) < len)) = true := by simp; omega
  rcases Bool.eq_false_or_eq_true (decide (n < 1)) with t1 | t1 <;> rcases Bool.eq_false_or_eq_true (decide (30 < n)) with t2 | t2 <;> rcases Bool.eq_false_or_eq_true (decide ((100 : Int) < len)) with t3 | t3 <;> simp only [t1, t2, t3] at T <;> first | (exact absurd T (by decide)) | skip
  all_goals
    clear T h
    go_enter Tryd.func12, Tryd.ntmps12
    go_wp2_with fail
    refine Calls.mono AW.out ?_
    rintro r w5 ⟨rfl, K6⟩
    replace K6 := Lib.hid K6
    go_wp2_with fail
    go_ret
    exact ⟨rfl, K6.out⟩
theorem walk (n : Int) (v : Value) (l : List Op10) (w : World) (w0 : (Lit.int .i64 n).wf = true) (w1 : OpsAt w v l ∧ ∀ o ∈ l, op10Fine o) (hT : TabAt 0 Lib.deBruijn64tab w) :
    Calls Tryd.prog 12 #[.int .i64 n, v] w fun e w' => e = .returned (.bool true) ∧ Keep nob w w' := by
  by_cases h : 1 ≤ n ∧ n ≤ 30 ∧ l.length ≤ 100
  · obtain ⟨N, rfl⟩ : ∃ m : Nat, n = m := ⟨n.toNat, by omega⟩
    exact walk_in N (by omega) (by omega) v l h.2.2 w w1.1 w1.2 hT
  · obtain ⟨⟨a, cap, rfl, hm, hcap, hc⟩, hf⟩ := w1
    exact walk_else n a _ cap h w hT
set_option maxRecDepth 100000 in
theorem lifted (os : Os) (started : os.Started) (H : Type) (enc : TypeId × Value → H) :
    ReturnsInHanded {} Tryd.checked os 12 .any (fun w args => (Rows.ptablePlaysSpec.pre enc Tryd.prog Tryd.f12 [] false w args ∧ laidMetH Tryd.prog Laid.list w) ∧ sizedMet enc Tryd.prog Tryd.f12 (OpenSpec.ofChange Rows.ptablePlaysSpec) false w args) (Rows.ptablePlaysSpec.post enc Tryd.prog Tryd.f12 false true false false) := by
  refine returnsInHanded_of_change_and (C := Tryd.checked) (X := fun w _ => laidMetH Tryd.prog Laid.list w) (fun _ _ _ hh h => h.of_heap hh) Head.own started (by kernel_rfl) Tryd.func12
    (ChangeSpec.witness_shaped (enc := enc) (C := Tryd.checked) (os := os) (X := fun w _ => laidMetH Tryd.prog Laid.list w) false (World.doorLaid Tryd.prog Laid.steps os) #[.int .i64 0, .slice none 0 0] 8 rfl (World.shaped_of_RefB (by kernel_rfl) (by kernel_rfl)) (by kernel_rfl) (by kernel_rfl) (by kernel_rfl) (Laid.met os _)) ?_
  intro W base args ds gs before hval0 hW _ _ hL _
  have hval : ∀ (j : Nat) t v, Tryd.f12.params[j]? = some t → args[j]? = some v → Value.okWide Tryd.prog W .any base t v := hval0
  have hW' := hW
  obtain ⟨p, q, hA0, hV, rfl, hfz, hnd⟩ := hW
  have hA : DataW.TrodAll enc Tryd.prog W 0 (fun _ => true) true Tryd.f12.params.toList args.toList ds p := hA0
  rw [Tryd.params12] at hA hval
  obtain ⟨v0, vs0, d0, ds0, p0, q0, hargs, rfl, rfl, h0, r0⟩ := trodAll_cons hA
  obtain ⟨v1, vs1, d1, ds1, p1, q1, rfl, rfl, rfl, h1, r1⟩ := trodAll_cons r0
  obtain ⟨rfl, rfl, rfl⟩ := trodAll_nil r1
  obtain rfl : args = #[v0, v1] := by cases args; simp_all
  obtain ⟨rfl, rfl⟩ := trodVars_none hV
  have k0 := h0
  have lt0 : ∀ x ∈ p0, x.block < W.heap.size := by obtain ⟨m, hm⟩ := k0; exact DataW.trod_lt m _ _ _ hm
  obtain ⟨a0, rfl, rfl, rfl, w0⟩ := open_int Tryd.underlying3 (hval 0 3 v0 rfl rfl) h0
  have k1 := h1
  have lt1 : ∀ x ∈ p1, x.block < W.heap.size := by obtain ⟨m, hm⟩ := k1; exact DataW.trod_lt m _ _ _ hm
  obtain ⟨a1, w1⟩ := open_ops10 (hval 1 82 v1 rfl rfl) h1
  clear hA0 hval0
  refine (walk a0 v1 a1 W w0 w1 (Laid.tab hL)).mono fun e W' ⟨he, kp⟩ => ?_
  subst he
  have bel := kp.below
  exact ⟨_, rfl, _, _, _, [], _, [], hW', trodAll_mk1 (shut_bool Tryd.underlying4 _), (trodAll_cons_mk (shut_int Tryd.underlying3 w0) (trodAll_cons_mk (Below.trod Head.laidOut (by kernel_rfl) (of_decide_eq_true (by kernel_rfl)) k1 bel lt1) trodAll_mk0)), rfl, bel.frame _, fun h => by cases h⟩
theorem closed : joinedFacts Tryd.prog 12 Tryd.f12 Rows.ptablePlaysSpec Rows.ptablePlaysRow = true := by
  unfold joinedFacts
  rw [Head.mayEnter, Head.liftsFinal, Head.make]
  kernel_rfl
theorem over : Rows.ptablePlaysRow.holds Tryd.pinned (OpenSpec.ofChange Rows.ptablePlaysSpec) :=
  OpenClaim.holds_of_wide 12 Tryd.f12 rfl rfl rfl rfl rfl rfl rfl ⟨rfl, rfl, rfl, rfl, rfl⟩ rfl rfl rfl rfl rfl (by kernel_rfl) Tryd.func12 closed
    (of_decide_eq_true (by kernel_rfl)) (by unfold Func.isWrapper; first | (rw [if_pos (by decide +kernel)]; kernel_rfl) | (rw [if_neg (by decide +kernel)]; exact ⟨rfl, rfl⟩))
    (fun os started H enc _ => lifted os started H enc)
theorem row : Rows.PtablePlaysSaid := over
theorem proved : Rows.PtablePlaysCardSaid :=
  Claim7.holds_tied_plain_at .later [] [.data] true (true, "6f766e467f1f76f857c29113ad61a388d69ae06b2677fa7c12f1fa228f819649") false
    row (fun _ h => by cases h) (by kernel_rfl) (fun _ h => by cases h) ptablePlays_row_tie rfl ⟨rfl, rfl⟩ (by kernel_rfl) rfl
    (fun f fn hf hfn => by
      obtain rfl : f = 12 := Option.some.inj ((show Tryd.prog.funcNamed "priory/priorylaw10.PtablePlays" = some 12 by kernel_rfl).symm.trans hf) |>.symm
      obtain rfl : fn = Tryd.f12 := (Option.some.inj (Tryd.func12.symm.trans hfn)).symm
      exact ⟨by kernel_rfl, fun j t ht => by
        have hall : (Tryd.f12.params.toList.all fun u => !Tryd.prog.wantsStandIn u) = true := by kernel_rfl
        have hm : t ∈ Tryd.f12.params.toList := Array.mem_toList_iff.2 (Array.mem_of_getElem? ht)
        exact (show Tryd.prog.wantsStandIn t = false by simpa using List.all_eq_true.1 hall t hm)⟩)
    (by kernel_rfl)
end Go.Proofs.YtepmljcapobodaaDoor.ptablePlays
