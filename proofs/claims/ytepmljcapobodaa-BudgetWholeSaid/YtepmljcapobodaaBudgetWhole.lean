/- Used and left of all containers are together the first one's quota, and what is done to one changes what is left of no other one. Condition: none beyond the statement's own. -/
import Derived.Test.YtepmljcapobodaaBudPlay
import Derived.Test.YtepmljcapobodaaBudWh
import Derived.Test.YtepmljcapobodaaHead
import Derived.Deep.CutRange
import Derived.Deep.CutBlock
namespace Go.Proofs.Ytepmljcapobodaa.budgetWhole
open Go.ChangeShapes Go.WideShapes Go.ChangeAt Go.RowKit
set_option linter.unusedVariables false
set_option linter.unusedSimpArgs false
set_option maxRecDepth 100000
theorem infoI : (Try.prog.info? 3).map (fun i => (i.zero, i.size, i.bytes)) = some (some (.int .i64 0), 1, 8) := by kernel_rfl
def leftV (l : List Nd) (x : Nd) : Value := .int .i64 (leftN' l x.id)
theorem left_snoc (l m : List Nd) {k : Nat} {x : Nd} (h : m[k]? = some x) : (m.take (k + 1)).map (leftV l) = (m.take k).map (leftV l) ++ [.int .i64 (leftN' l x.id)] := by
  rw [List.take_add_one, h, List.map_append]
  rfl
def InvW (w : World) (b len : Nat) (q : Int) (iv : Value) (wr : World) : Prop :=
  ∃ (k : Nat) (O : Nat → Prop) (l : List Nd), iv = .int .i64 k ∧ k ≤ len ∧ Bw w wr b O (k + 1) l ∧ Rq q l
def InvLf (w3 : World) (ls : List Nd) (out iv : Value) (wr : World) : Prop :=
  ∃ j : Nat, iv = .int .i64 j ∧ j ≤ ls.length ∧ wr.ownsRow w3.heap.size 3 1 out j ((ls.take j).map (leftV ls)) ∧ Keep nob w3 wr
def RelS (w w4 : World) (b : Nat) (O : Nat → Prop) (q0 : Nat) (ls : List Nd) (id q : Int) (u c : Value) (wx : World) : Prop :=
  ∃ (un cn : Int) (l' : List Nd) (O' : Nat → Prop), u = .int .i64 un ∧ c = .int .i64 cn ∧ Bw w wx b O' q0 l' ∧ (∀ k, O' k → O k ∨ w4.heap.size ≤ k) ∧ Keep O w4 wx ∧ (cn ≠ 0 → l' = ls) ∧ (∀ k, k ≠ id → k ≠ un → leftN' l' k = leftN' ls k) ∧ Rq q l'
def InvK (w6 : World) (len : Nat) (iv : Value) (wr : World) : Prop := ∃ k : Nat, iv = .int .i64 k ∧ k ≤ len ∧ Keep nob w6 wr
def InvT (w7 : World) (l : List Nd) (nv iv : Value) (wr : World) : Prop := ∃ k : Nat, iv = .int .i64 k ∧ k ≤ l.length ∧ nv = .int .i64 (sumT l (l.take k)) ∧ Keep nob w7 wr
set_option maxHeartbeats 0 in
theorem walk_in (q : Int) (h0 : 0 ≤ q) (h1 : q ≤ 65536) (v : Value) (l : List Op11) (hl : l.length ≤ 200) (w : World) (L : OpsAt11 w v l) (hf : ∀ o ∈ l, op11Fine o) :
    Calls Try.prog 7 #[.int .i64 q, v] w fun r w' => r = .returned (.bool true) ∧ Keep nob w w' := by
  obtain ⟨a, cap, rfl, hm, hcap, hcells⟩ := L
  have C := bw_new w q h0 h1
  have t1 : decide ((200 : Int) < l.length) = false := by simp; omega
  replace C := Lib.hid C
  replace hf := Lib.hid hf
  replace hcells := Lib.hid hcells
  go_enter Try.func7, Try.ntmps7
  go_wp2_with fail
  refine Calls.mono C.out ?_
  rintro r w1 ⟨b, O, rfl, S⟩
  replace S := Lib.hid S
  go_wp2_with fail
  go_loopw [7] (fun iv wr => InvW w b l.length q iv wr) (fun iv _ => (l.length - intOf iv).toNat)
  case atStart => exact ⟨0, O, _, rfl, Nat.zero_le _, S.out, Rq.start q⟩
  case round =>
    obtain ⟨k, O3, ls, rfl, hk, S0, R0⟩ := hrel
    by_cases hlt : k < l.length
    · have hne : l ≠ [] := by intro e; rw [e] at hlt; simp at hlt
      obtain ⟨gg, og, rfl, cs⟩ := hcells.out hne
      obtain ⟨⟨d, id, up, n⟩, ho⟩ : ∃ o, l[k] = o := ⟨_, rfl⟩
      have ho' : l[k]? = some ⟨d, id, up, n⟩ := by rw [← ho, List.getElem?_eq_getElem hlt]
      have K3 := S0.K
      have r0 : wr.cell? ⟨gg, og + k * 4, none⟩ = some (.int .i64 d) := K3.some (cs k _ ho' 0 _ rfl) (fun x => x)
      have r1 : wr.cell? ⟨gg, og + k * 4 + 1, none⟩ = some (.int .i64 id) := K3.some (cs k _ ho' 1 _ rfl) (fun x => x)
      have r2 : wr.cell? ⟨gg, og + k * 4 + 2, none⟩ = some (.int .i64 up) := K3.some (cs k _ ho' 2 _ rfl) (fun x => x)
      have r3 : wr.cell? ⟨gg, og + k * 4 + 3, none⟩ = some (.int .i64 n) := K3.some (cs k _ ho' 3 _ rfl) (fun x => x)
      have t4 : decide (k < l.length) = true := decide_eq_true hlt
      have kz : (0 : Int) ≤ k := by omega
      have kb : (k : Int) < l.length := by omega
      have Ka : Keep nob wr (wr.alloc (.cells #[.int .i64 d, .int .i64 id, .int .i64 up, .int .i64 n] 43)) := (Keep.refl _ _).alloc _
      have co : ∀ (j : Nat) (u : Value), [Value.int .i64 d, .int .i64 id, .int .i64 up, .int .i64 n][j]? = some u → (wr.alloc (.cells #[.int .i64 d, .int .i64 id, .int .i64 up, .int .i64 n] 43)).cell? ⟨wr.heap.size, j, none⟩ = some u := fun j u hu => new_at wr _ _ j u hu
      have sza : (wr.alloc (.cells #[.int .i64 d, .int .i64 id, .int .i64 up, .int .i64 n] 43)).heap.size = wr.heap.size + 1 := World.size_alloc _ _
      obtain ⟨Wa, hWa⟩ : ∃ Wa, Wa = wr.alloc (.cells #[.int .i64 d, .int .i64 id, .int .i64 up, .int .i64 n] 43) := ⟨_, rfl⟩
      obtain ⟨ob, hob⟩ : ∃ ob, ob = wr.heap.size := ⟨_, rfl⟩
      rw [← hWa] at Ka co sza
      rw [← hob] at co
      have nob1 : ¬ O3 ob := fun e => by have := S0.olt ob e; omega
      have Sa := S0.next Ka
      have G := S0.G
      have CA := bw_all Sa
      have ln := G.len
      have gp := G.pos
      replace ho := Lib.hid ho
      replace ho' := Lib.hid ho'
      replace S0 := Lib.hid S0
      replace R0 := Lib.hid R0
      replace K3 := Lib.hid K3
      replace Ka := Lib.hid Ka
      replace co := Lib.hid co
      replace sza := Lib.hid sza
      replace hWa := Lib.hid hWa
      replace hob := Lib.hid hob
      replace nob1 := Lib.hid nob1
      replace Sa := Lib.hid Sa
      replace G := Lib.hid G
      replace CA := Lib.hid CA
      clear cs
      go_wp2_with fail
      rw [← hWa.out, ← hob.out]
      refine Calls.mono CA.out ?_
      rintro r w3 ⟨vw, rfl, MA, KA⟩
      have NW : NL w3 vw ls := own_base MA (Nat.zero_le _)
      have S3 := Sa.out.next KA
      obtain ⟨gw, cw, hvw, hcw, hgw, srcw⟩ := NW.form gp
      have offw : ¬ O3 gw := fun e => by
        have h1 := (own_tag MA (g := gw) (by rw [hvw]; rfl)).1
        have h2 := Sa.out.olt gw e
        omega
      have sz3 := KA.size
      have oc := fun (j : Nat) (u : Value) hu => KA.some (co.out j u hu) (fun x => x)
      subst hvw
      obtain ⟨i1, hi1, hy0, hy1, hy2⟩ := info_parts infoI
      clear r0 r1 r2 r3
      replace NW := Lib.hid NW
      replace S3 := Lib.hid S3
      replace MA := Lib.hid MA
      replace KA := Lib.hid KA
      replace srcw := Lib.hid srcw
      replace offw := Lib.hid offw
      replace oc := Lib.hid oc
      replace hi1 := Lib.hid hi1
      replace hy0 := Lib.hid hy0
      replace hy1 := Lib.hid hy1
      replace hy2 := Lib.hid hy2
      go_wp2_with fail
      go_loopw [10, 11] (fun out iv wr => InvLf w3 ls out iv wr) (fun _ iv _ => (ls.length - intOf iv).toNat)
      case atStart => exact ⟨0, rfl, Nat.zero_le _, by simpa using World.ownsRow_nil _ _ _ _, Keep.refl _ _⟩
      case round =>
        obtain ⟨j, rfl, hj, OL, K⟩ := hrel
        by_cases hlj : j < ls.length
        · obtain ⟨x, hx⟩ : ∃ x, ls[j]? = some x := ⟨ls[j], List.getElem?_eq_getElem hlj⟩
          have e0 := K.some (srcw.out j x hx).1.1 (fun x => x)
          have CL := bw_left (S3.out.next K) x.id
          have jz : (0 : Int) ≤ j := by omega
          have jb : (j : Int) < ls.length := by omega
          have t5 : decide (j < ls.length) = true := decide_eq_true hlj
          have ex := left_snoc ls ls hx
          obtain ⟨lf, hlf⟩ : ∃ lf, leftN' ls x.id = lf := ⟨_, rfl⟩
          rw [hlf] at CL ex
          replace OL := Lib.hid OL
          replace K := Lib.hid K
          replace hx := Lib.hid hx
          replace CL := Lib.hid CL
          replace ex := Lib.hid ex
          replace hlf := Lib.hid hlf
          go_wp2_with fail
          refine Calls.mono CL.out ?_
          rintro r w9 ⟨rfl, K9⟩
          have OL9 := own_next OL.out K9
          have sz9 := (K.out.then K9).size
          replace OL9 := Lib.hid OL9
          replace K9 := Lib.hid K9
          go_wp2_with (at_builtin; refine wpList_append_own _ rfl (.tmp 50) (.tmp 58) 50 rfl w3.heap.size 3 i1 (.int .i64 0) 1 8 Try.underlying50 hi1.out hy0.out hy1.out hy2.out rfl (by decide) u10 j _ rfl (own_next OL9.out ((Keep.refl _ _).alloc _)) ⟨w9.heap.size, 0, none⟩ 1 1 [.int .i64 lf] rfl rfl ?c1 ?c2 ?c3 ?c4 ?c5 ?_)
          case c1 => intro z u hu; rw [Addr.add_mid, Nat.zero_add]; exact new_at _ _ _ z u hu
          case c2 => simp [Value.oneCell']
          case c3 => unfold maxLen; omega
          case c4 => omega
          case c5 => rw [World.size_alloc]; omega
          intro v' w10 hown hgrow _
          have A1 := Lib.hid (new_row ((K.out.then K9.out).alloc _) (own_next OL9.out ((Keep.refl _ _).alloc _)) hgrow)
          have O1 := Lib.hid hown
          clear hown hgrow OL OL9 e0
          go_wp2_with fail
          go_roundw
          case rel =>
            refine ⟨j + 1, by go_num, by omega, ?_, A1.out⟩
            rw [ex.out, List.map_take]
            exact O1.out
          case measure => simp [intOf]; omega
        · obtain rfl : j = ls.length := by omega
          have t5 : decide (ls.length < ls.length) = false := by simp
          rw [List.take_length] at OL
          obtain ⟨w4, hw4⟩ : ∃ w4, w4 = wr := ⟨_, rfl⟩
          subst hw4
          obtain ⟨gl, cl, hvl, hbl, hgl, -, srcl⟩ := own_cells OL gp
          subst hvl
          have S4 := S3.out.next K
          have NW4 := NW.out.next K
          have offl : ¬ O3 gl := fun e => by have := S3.out.olt gl e; omega
          have oc4 := fun (j : Nat) (u : Value) hu => K.some (oc.out j u hu) (fun x => x)
          have id4 := fun (j : Nat) (x : Nd) (hx : ls[j]? = some x) => K.some (srcw.out j x hx).1.1 (fun x => x)
          have up4 := fun (j : Nat) (x : Nd) (hx : ls[j]? = some x) => K.some (srcw.out j x hx).1.2.1 (fun x => x)
          have lf4 : ∀ (j : Nat) (x : Nd), ls[j]? = some x → w4.cell? ⟨gl, j, none⟩ = some (.int .i64 (leftN' ls x.id)) := fun j x hx => (srcl j _ (by rw [List.getElem?_map, hx]; rfl)).1
          have CAt := at_ok11 NW4 gp (by omega) id
          have ca : (findN ls id = none ∧ atN ls id = -1) ∨ ∃ x ix, findN ls id = some x ∧ atN ls id = (ix : Nat) ∧ ls[ix]? = some x := by
            cases e : findN ls id with
            | none => exact Or.inl ⟨rfl, atN_none e⟩
            | some x => exact Or.inr ⟨x, _, rfl, atN_some e, idx_some e⟩
          obtain ⟨a0, ha0⟩ : ∃ a, atN ls id = a := ⟨_, rfl⟩
          rw [ha0] at CAt ca
          have o0 := oc4 0 _ rfl
          have o1 := oc4 1 _ rfl
          have o2 := oc4 2 _ rfl
          have o3 := oc4 3 _ rfl
          replace OL := Lib.hid OL
          replace K := Lib.hid K
          replace S4 := Lib.hid S4
          replace NW4 := Lib.hid NW4
          replace offl := Lib.hid offl
          replace oc4 := Lib.hid oc4
          replace id4 := Lib.hid id4
          replace up4 := Lib.hid up4
          replace lf4 := Lib.hid lf4
          replace CAt := Lib.hid CAt
          replace ca := Lib.hid ca
          replace ha0 := Lib.hid ha0
          replace srcl := Lib.hid srcl
          go_upto_if 65 with (first | (go_at_call 21; refine Calls.mono CAt.out ?_; rintro r w5 ⟨rfl, rfl⟩))
          go_cut [12] from 32 to 194 (fun u wx => (∃ un : Int, u = .int .i64 un ∧ ∀ x, findN ls id = some x → un = x.up) ∧ w4 = wx)
          case first =>
            rcases ca.out with ⟨e, rfl⟩ | ⟨x, ix, e, rfl, hx⟩
            · replace e := Lib.hid e
              go_wp2_with fail
              go_meet
              case rel => exact ⟨⟨0, rfl, fun x h => by rw [e.out] at h; cases h⟩, rfl⟩
            · have c1 := up4.out ix x hx
              have hil := (List.getElem?_eq_some_iff.1 hx).1
              have iz : (0 : Int) ≤ ix := by omega
              have ib : (ix : Int) < ls.length := by omega
              have t6 : decide ((0 : Int) ≤ (ix : Int)) = true := by simp
              replace e := Lib.hid e
              replace hx := Lib.hid hx
              go_wp2_with fail
              go_meet
              case rel => exact ⟨⟨x.up, rfl, fun y h => by rw [e.out] at h; injection h with h; rw [h]⟩, rfl⟩
          case rest =>
            as_aux_lemma =>
              obtain ⟨⟨un0, rfl, hun⟩, rfl⟩ := hcut
              replace hun := Lib.hid hun
              go_upto_block 4 with fail
              go_cut [12, 14] from 32 to 194 (fun u c wx => RelS w w4 b O3 (k + 2) ls id q u c wx)
              case first =>
                as_aux_lemma =>
                  by_cases d1 : d = 1
                  · subst d1
                    have C1 := bw_open S4.out (by omega) id up n
                    obtain ⟨cc, hcc⟩ : ∃ cc, opnN ls id up n = cc := ⟨_, rfl⟩
                    rw [hcc] at C1
                    replace C1 := Lib.hid C1
                    replace hcc := Lib.hid hcc
                    go_wp2_with fail
                    refine Calls.mono C1.out ?_
                    rintro r w5 ⟨rfl, O5, S5, hO5, K5⟩
                    replace o2 := K5.some o2 nob1.out
                    replace S5 := Lib.hid S5
                    replace hO5 := Lib.hid hO5
                    replace K5 := Lib.hid K5
                    go_wp2_with fail
                    go_meet
                    case rel => exact ⟨up, cc, _, O5, rfl, rfl, S5.out, hO5.out, K5.out, fun h => by unfold opnL; rw [hcc.out, if_neg h], fun z z1 z2 => opn_other G.out z z1 z2, Rq.opn G.out R0.out⟩
                  have s1 : (d == 1) = false := by simpa using d1
                  by_cases d2 : d = 2
                  · subst d2
                    have C1 := bw_close S4.out id
                    obtain ⟨cc, hcc⟩ : ∃ cc, clsN ls id = cc := ⟨_, rfl⟩
                    rw [hcc] at C1
                    replace C1 := Lib.hid C1
                    replace hcc := Lib.hid hcc
                    go_wp2_with fail
                    refine Calls.mono C1.out ?_
                    rintro r w5 ⟨rfl, O5, S5, hO5, K5⟩
                    replace S5 := Lib.hid S5
                    replace hO5 := Lib.hid hO5
                    replace K5 := Lib.hid K5
                    go_wp2_with fail
                    go_meet
                    case rel => exact ⟨un0, cc, _, O5, rfl, rfl, S5.out, hO5.out, K5.out, fun h => clsL_no (by rw [hcc.out]; exact h), fun z z1 z2 => cls_other G.out z z1 (fun x hx z3 => z2 (z3.trans (hun.out x hx).symm)), Rq.cls R0.out⟩
                  have s2 : (d == 2) = false := by simpa using d2
                  by_cases d3 : d = 3
                  · subst d3
                    have C1 := bw_charge S4.out id n
                    obtain ⟨cc, hcc⟩ : ∃ cc, chgN ls id n = cc := ⟨_, rfl⟩
                    rw [hcc] at C1
                    replace C1 := Lib.hid C1
                    replace hcc := Lib.hid hcc
                    go_wp2_with fail
                    refine Calls.mono C1.out ?_
                    rintro r w5 ⟨rfl, O5, S5, hO5, K5⟩
                    replace S5 := Lib.hid S5
                    replace hO5 := Lib.hid hO5
                    replace K5 := Lib.hid K5
                    go_wp2_with fail
                    go_meet
                    case rel => exact ⟨0, cc, _, O5, rfl, rfl, S5.out, hO5.out, K5.out, fun h => by unfold chgL; rw [hcc.out, if_neg h], fun z z1 z2 => chg_other z z1, Rq.chg R0.out⟩
                  have s3 : (d == 3) = false := by simpa using d3
                  by_cases d4 : d = 4
                  · subst d4
                    have C1 := bw_refund S4.out id n
                    obtain ⟨cc, hcc⟩ : ∃ cc, refN ls id n = cc := ⟨_, rfl⟩
                    rw [hcc] at C1
                    replace C1 := Lib.hid C1
                    replace hcc := Lib.hid hcc
                    go_wp2_with fail
                    refine Calls.mono C1.out ?_
                    rintro r w5 ⟨rfl, O5, S5, hO5, K5⟩
                    replace S5 := Lib.hid S5
                    replace hO5 := Lib.hid hO5
                    replace K5 := Lib.hid K5
                    go_wp2_with fail
                    go_meet
                    case rel => exact ⟨0, cc, _, O5, rfl, rfl, S5.out, hO5.out, K5.out, fun h => by unfold refL; rw [hcc.out, if_neg h], fun z z1 z2 => ref_other z z1, Rq.ref R0.out⟩
                  have s4 : (d == 4) = false := by simpa using d4
                  go_wp2_with fail
                  go_meet
                  case rel => exact ⟨un0, 0, ls, O3, rfl, rfl, S4.out.mono (Nat.le_succ _), fun _ h => Or.inl h, Keep.refl _ _, fun _ => rfl, fun _ _ _ => rfl, R0.out⟩
              case rest =>
                as_aux_lemma =>
                  obtain ⟨un, cn, l', O5, rfl, rfl, S5, hO5, K5, hcn, hoth, R5⟩ := hcut
                  obtain ⟨w5, hw5⟩ : ∃ w5, w5 = wc := ⟨_, rfl⟩
                  subst hw5
                  have G5 := S5.G
                  have ln5 := G5.len
                  have gp5 := G5.pos
                  have oc5 := K5.some o1 nob1.out
                  have NW5 := NW4.out.keep K5 (fun g hg => by injection hg with hg; rw [← hg]; exact offw.out)
                  have id5 := fun (j : Nat) (x : Nd) (hx : ls[j]? = some x) => K5.some (id4.out j x hx) offw.out
                  have lf5 := fun (j : Nat) (x : Nd) (hx : ls[j]? = some x) => K5.some (lf4.out j x hx) offl.out
                  clear o0 o1 o2 o3
                  replace S5 := Lib.hid S5
                  replace hO5 := Lib.hid hO5
                  replace K5 := Lib.hid K5
                  replace hcn := Lib.hid hcn
                  replace hoth := Lib.hid hoth
                  replace R5 := Lib.hid R5
                  replace G5 := Lib.hid G5
                  replace NW5 := Lib.hid NW5
                  replace id5 := Lib.hid id5
                  replace lf5 := Lib.hid lf5
                  go_upto_region 31 with fail
                  go_cut [115] from 32 to 194 (fun c wx => c = .bool false ∧ Keep nob w5 wx)
                  case first =>
                    by_cases hc0 : cn = 0
                    · have t7 : (cn != 0) = false := by simpa using hc0
                      replace hc0 := Lib.hid hc0
                      go_wp2_with fail
                      go_meet
                      case rel => exact ⟨rfl, Keep.refl _ _⟩
                    · have t7 : (cn != 0) = true := by simpa using hc0
                      have hle := hcn.out hc0
                      have CB := bw_all S5.out
                      replace CB := Lib.hid CB
                      replace hle := Lib.hid hle
                      replace hc0 := Lib.hid hc0
                      go_wp2_with fail
                      refine Calls.mono CB.out ?_
                      rintro r wb ⟨vb, rfl, MB, KB⟩
                      have CS := same_ok11 (own_base MB (Nat.zero_le _)) (NW5.out.next KB) (by omega)
                      rw [decide_eq_true hle.out] at CS
                      replace CS := Lib.hid CS
                      replace MB := Lib.hid MB
                      replace KB := Lib.hid KB
                      go_wp2_with fail
                      refine Calls.mono CS.out ?_
                      rintro r w6 ⟨rfl, K6⟩
                      have KK := KB.out.then K6
                      replace KK := Lib.hid KK
                      replace K6 := Lib.hid K6
                      go_wp2_with fail
                      go_meet
                      case rel => exact ⟨rfl, KK.out⟩
                  case rest =>
                    as_aux_lemma =>
                      obtain ⟨rfl, KK⟩ := hcut
                      obtain ⟨w6, hw6⟩ : ∃ w6, w6 = wc := ⟨_, rfl⟩
                      subst hw6
                      have S6 := S5.out.next KK
                      have oc6 := KK.some oc5 (fun x => x)
                      have id6 := fun (j : Nat) (x : Nd) (hx : ls[j]? = some x) => KK.some (id5.out j x hx) (fun x => x)
                      have lf6 := fun (j : Nat) (x : Nd) (hx : ls[j]? = some x) => KK.some (lf5.out j x hx) (fun x => x)
                      replace KK := Lib.hid KK
                      clear oc5
                      replace S6 := Lib.hid S6
                      replace id6 := Lib.hid id6
                      replace lf6 := Lib.hid lf6
                      go_wp2_with fail
                      go_loopw [15] (fun iv wr => InvK w6 ls.length iv wr) (fun iv _ => (ls.length - intOf iv).toNat)
                      case atStart => exact ⟨0, rfl, Nat.zero_le _, Keep.refl _ _⟩
                      case round =>
                        as_aux_lemma =>
                          obtain ⟨z, rfl, hz, KZ⟩ := hrel
                          by_cases hlz : z < ls.length
                          · obtain ⟨x, hx⟩ : ∃ x, ls[z]? = some x := ⟨ls[z], List.getElem?_eq_getElem hlz⟩
                            have zz : (0 : Int) ≤ z := by omega
                            have zb : (z : Int) < ls.length := by omega
                            have t8 : decide (z < ls.length) = true := decide_eq_true hlz
                            have Z0 := KW.cell (KZ.some (id6.out z x hx) (fun x => x))
                            have Z1 := KW.cell (KZ.some oc6 (fun x => x))
                            have Z2 := KW.cell (KZ.some (lf6.out z x hx) (fun x => x))
                            have CL := fun (t : KW wr) => bw_left ((S6.out.next KZ).next t.k) x.id
                            have OT := hoth.out x.id
                            obtain ⟨xi, hxi⟩ : ∃ xi, x.id = xi := ⟨_, rfl⟩
                            rw [hxi] at Z0 Z2 CL OT
                            by_cases z1 : xi = id
                            · have t9 : (xi != id) = false := by simpa using z1
                              subst z1
                              replace KZ := Lib.hid KZ
                              replace hx := Lib.hid hx
                              replace CL := Lib.hid CL
                              replace OT := Lib.hid OT
                              replace hxi := Lib.hid hxi
                              clear Z2
                              go_wp2_with fail
                              refine wp_region_keepq (by kernel_rfl) (by kernel_rfl) ?_
                              repeat (go_big_quiet_step ((fail)))
                              refine wpQuiet_nil ?_
                              rintro WQ ⟨⟨_, KQ⟩, rfl⟩
                              try dsimp only
                              go_wp2_with fail
                              go_roundw
                              case rel => exact ⟨z + 1, by go_num, by omega, KZ.out.then KQ⟩
                              case measure => simp [intOf]; omega
                            · have t9 : (xi != id) = true := by simpa using z1
                              by_cases z2 : xi = un
                              · have t10 : (xi != un) = false := by simpa using z2
                                subst z2
                                replace KZ := Lib.hid KZ
                                replace hx := Lib.hid hx
                                replace CL := Lib.hid CL
                                replace OT := Lib.hid OT
                                replace hxi := Lib.hid hxi
                                replace z1 := Lib.hid z1
                                clear Z2
                                go_wp2_with fail
                                refine wp_region_keepq (by kernel_rfl) (by kernel_rfl) ?_
                                repeat (go_big_quiet_step ((fail)))
                                refine wpQuiet_nil ?_
                                rintro WQ ⟨⟨_, KQ⟩, rfl⟩
                                try dsimp only
                                go_wp2_with fail
                                go_roundw
                                case rel => exact ⟨z + 1, by go_num, by omega, KZ.out.then KQ⟩
                                case measure => simp [intOf]; omega
                              · have t10 : (xi != un) = true := by simpa using z2
                                rw [OT z1 z2] at CL
                                obtain ⟨lf, hlf⟩ : ∃ lf, leftN' ls xi = lf := ⟨_, rfl⟩
                                rw [hlf] at CL Z2
                                replace KZ := Lib.hid KZ
                                replace hx := Lib.hid hx
                                replace CL := Lib.hid CL
                                replace OT := Lib.hid OT
                                replace hxi := Lib.hid hxi
                                replace z1 := Lib.hid z1
                                replace z2 := Lib.hid z2
                                replace hlf := Lib.hid hlf
                                go_wp2_with fail
                                refine wp_region_keepq (by kernel_rfl) (by kernel_rfl) ?_
                                repeat (go_big_quiet_step ((first | (go_at_call 12; with_reducible exact Calls.keepq (CL.out _)))))
                                refine wpQuiet_nil ?_
                                rintro WQ ⟨⟨_, KQ⟩, rfl⟩
                                try dsimp only
                                go_wp2_with fail
                                go_roundw
                                case rel => exact ⟨z + 1, by go_num, by omega, KZ.out.then KQ⟩
                                case measure => simp [intOf]; omega
                          · have t8 : decide (z < ls.length) = false := decide_eq_false hlz
                            have SZ := S6.out.next KZ
                            have CN := bw_all SZ
                            replace KZ := Lib.hid KZ
                            replace SZ := Lib.hid SZ
                            replace CN := Lib.hid CN
                            clear hlz
                            go_wp2_with fail
                            refine Calls.mono CN.out ?_
                            rintro r w7 ⟨vn, rfl, MN, KN⟩
                            have S7 := SZ.out.next KN
                            have NN : NL w7 vn l' := own_base MN (Nat.zero_le _)
                            obtain ⟨gn, cn', hvn, hcn', hgn, srcn⟩ := NN.form gp5
                            subst hvn
                            have wt := whole G5.out R5.out
                            replace S7 := Lib.hid S7
                            replace NN := Lib.hid NN
                            replace MN := Lib.hid MN
                            replace KN := Lib.hid KN
                            replace srcn := Lib.hid srcn
                            replace wt := Lib.hid wt
                            go_wp2_with fail
                            go_loopw [16, 18] (fun nv iv wr => InvT w7 l' nv iv wr) (fun _ iv _ => (l'.length - intOf iv).toNat)
                            case atStart => exact ⟨0, rfl, Nat.zero_le _, rfl, Keep.refl _ _⟩
                            case round =>
                              as_aux_lemma =>
                                obtain ⟨y, rfl, hy, rfl, KY⟩ := hrel
                                by_cases hly : y < l'.length
                                · obtain ⟨x, hx⟩ : ∃ x, l'[y]? = some x := ⟨l'[y], List.getElem?_eq_getElem hly⟩
                                  have xm := List.mem_of_getElem? hx
                                  have yz : (0 : Int) ≤ y := by omega
                                  have yb : (y : Int) < l'.length := by omega
                                  have t8 : decide (y < l'.length) = true := decide_eq_true hly
                                  have e0 := KY.some (srcn.out y x hx).1.1 (fun x => x)
                                  have e3 := KY.some (srcn.out y x hx).1.2.2.2 (fun x => x)
                                  have CL := bw_left (S7.out.next KY) x.id
                                  have CL2 := fun W' (t : Keep nob wr W') => bw_left ((S7.out.next KY).next t) x.id
                                  have lr := G5.out.left x.id
                                  have us0 := (G5.out.rng x xm).2.2.1
                                  have us1 := G5.out.us xm
                                  have sr := G5.out.sumT y
                                  have st := sumT_take l' hx
                                  obtain ⟨lf, hlf⟩ : ∃ lf, leftN' l' x.id = lf := ⟨_, rfl⟩
                                  obtain ⟨sm, hsm⟩ : ∃ sm, sumT l' (l'.take y) = sm := ⟨_, rfl⟩
                                  rw [hlf] at CL CL2 lr st
                                  rw [hsm] at sr st ⊢
                                  have t11 : decide (x.us < 0) = false := by simp; omega
                                  have t12 : decide (lf < 0) = false := by simp; omega
                                  have b1 : IntKind.i64.wrap (sm + x.us) = sm + x.us := IntWalk.i64_in _ (by omega)
                                  have b2 : IntKind.i64.wrap (sm + x.us + lf) = sm + x.us + lf := IntWalk.i64_in _ (by omega)
                                  have sr0 : (0 : Int) ≤ sm := sr.1
                                  have sr1 : sm ≤ 1048576 := sr.2
                                  have lr0 : (0 : Int) ≤ lf := lr.1
                                  have lr1 : lf ≤ 65536 := lr.2
                                  clear sr lr
                                  replace KY := Lib.hid KY
                                  replace hx := Lib.hid hx
                                  replace CL := Lib.hid CL
                                  replace CL2 := Lib.hid CL2
                                  replace hlf := Lib.hid hlf
                                  replace hsm := Lib.hid hsm
                                  replace st := Lib.hid st
                                  replace xm := Lib.hid xm
                                  go_wp2_with fail
                                  refine Calls.mono CL.out ?_
                                  rintro r w9 ⟨rfl, K9⟩
                                  have Z0 := KW.cell (K9.some e0 (fun x => x))
                                  have Z3 := KW.cell (K9.some e3 (fun x => x))
                                  have CL3 := fun (t : KW w9) => CL2.out t.w (K9.then t.k)
                                  replace K9 := Lib.hid K9
                                  replace CL3 := Lib.hid CL3
                                  clear e0 e3
                                  go_wp2_with fail
                                  refine wp_region_keepq (by kernel_rfl) (by kernel_rfl) ?_
                                  repeat (go_big_quiet_step ((first | (go_at_call 12; with_reducible exact Calls.keepq (CL3.out _)))))
                                  refine wpQuiet_nil ?_
                                  rintro WQ ⟨⟨_, KQ⟩, rfl⟩
                                  try dsimp only
                                  go_wp2_with fail
                                  go_roundw
                                  case rel => exact ⟨y + 1, by go_num, by omega, by rw [st.out], (KY.out.then K9.out).then KQ⟩
                                  case measure => simp [intOf]; omega
                                · obtain rfl : y = l'.length := by omega
                                  have t8 : decide (l'.length < l'.length) = false := by simp
                                  rw [List.take_length, wt.out]
                                  have SF := S7.out.next KY
                                  replace KY := Lib.hid KY
                                  replace SF := Lib.hid SF
                                  go_wp2_with fail
                                  go_roundw
                                  case rel => exact ⟨k + 1, O5, l', by go_num, by omega, SF.out, R5.out⟩
                                  case measure => simp [intOf]; omega
    · have t4 : decide (k < l.length) = false := decide_eq_false hlt
      have AW := awake11 wr
      have K3 := S0.K
      replace AW := Lib.hid AW
      replace K3 := Lib.hid K3
      replace S0 := Lib.hid S0
      replace R0 := Lib.hid R0
      go_wp2_with fail
      refine Calls.mono AW.out ?_
      rintro r w8 ⟨rfl, K8⟩
      replace K8 := Lib.hid K8
      go_wp2_with fail
      go_ret
      exact ⟨rfl, K3.out.then K8.out⟩
theorem walk_no (q : Int) (h : ¬ (0 ≤ q ∧ q ≤ 65536)) (a : Option Addr) (len cap : Nat) (w : World) :
    Calls Try.prog 7 #[.int .i64 q, .slice a len cap] w fun r w' => r = .returned (.bool true) ∧ Keep nob w w' := by
  have C := new_no w q h
  have AW := awake11 w
  clear h
  replace C := Lib.hid C
  replace AW := Lib.hid AW
  go_enter Try.func7, Try.ntmps7
  go_wp2_with fail
  refine Calls.mono C.out ?_
  rintro r w1 ⟨rfl, rfl⟩
  go_wp2_with fail
  refine Calls.mono AW.out ?_
  rintro r w8 ⟨rfl, K8⟩
  replace K8 := Lib.hid K8
  go_wp2_with fail
  go_ret
  exact ⟨rfl, K8.out⟩
theorem walk_long (q : Int) (h0 : 0 ≤ q) (h1 : q ≤ 65536) (a : Option Addr) (len cap : Nat) (hl : 200 < len) (w : World) :
    Calls Try.prog 7 #[.int .i64 q, .slice a len cap] w fun r w' => r = .returned (.bool true) ∧ Keep nob w w' := by
  have t1 : decide ((200 : Int) < len) = true := by simp; omega
  have C := bw_new w q h0 h1
  replace C := Lib.hid C
  go_enter Try.func7, Try.ntmps7
  go_wp2_with fail
  refine Calls.mono C.out ?_
  rintro r w1 ⟨b, O, rfl, S⟩
  have AW := awake11 w1
  replace AW := Lib.hid AW
  replace S := Lib.hid S
  go_wp2_with fail
  refine Calls.mono AW.out ?_
  rintro r w8 ⟨rfl, K8⟩
  replace K8 := Lib.hid K8
  go_wp2_with fail
  go_ret
  exact ⟨rfl, S.out.K.then K8.out⟩
theorem walk (q : Int) (v : Value) (l : List Op11) (w : World) (w0 : (Lit.int .i64 q).wf = true) (w1 : OpsAt11 w v l ∧ ∀ o ∈ l, op11Fine o) :
    Calls Try.prog 7 #[.int .i64 q, v] w fun e w' => e = .returned (.bool true) ∧ Keep nob w w' := by
  by_cases h : 0 ≤ q ∧ q ≤ 65536
  · by_cases hl : l.length ≤ 200
    · exact walk_in q h.1 h.2 v l hl w w1.1 w1.2
    · obtain ⟨⟨a, cap, rfl, -⟩, -⟩ := w1
      exact walk_long q h.1 h.2 a _ cap (by omega) w
  · obtain ⟨⟨a, cap, rfl, -⟩, -⟩ := w1
    exact walk_no q h a _ cap w
set_option maxRecDepth 100000 in
theorem lifted (os : Os) (started : os.Started) (H : Type) (enc : TypeId × Value → H) :
    ReturnsInHanded {} Try.checked os 7 .any (Rows.budgetWholeSpec.pre6 enc Try.prog Try.f7 Rows.budgetWholeRow.domain false) (Rows.budgetWholeSpec.post enc Try.prog Try.f7 false true false false) := by
  refine returnsInHanded_of_change (C := Try.checked) Head.own started (by kernel_rfl) Try.func7
    (ChangeSpec.witness6 (enc := enc) (C := Try.checked) false ⟨#[], #[.int .i64 0, .slice none 0 0], []⟩ 8 (by kernel_rfl) (by kernel_rfl) (by kernel_rfl) (by kernel_rfl)) ?_
  intro W base args ds gs before hval0 hW hcnd _
  have hval : ∀ (j : Nat) t v, Try.f7.params[j]? = some t → args[j]? = some v → Value.okWide Try.prog W .any base t v := hval0
  have hW' := hW
  obtain ⟨p, q, hA0, hV, rfl, hfz, hnd⟩ := hW
  have hA : DataW.TrodAll enc Try.prog W 0 (fun _ => true) true Try.f7.params.toList args.toList ds p := hA0
  rw [Try.params7] at hA hval
  obtain ⟨v0, vs0, d0, ds0, p0, q0, hargs, rfl, rfl, h0, r0⟩ := trodAll_cons hA
  obtain ⟨v1, vs1, d1, ds1, p1, q1, rfl, rfl, rfl, h1, r1⟩ := trodAll_cons r0
  obtain ⟨rfl, rfl, rfl⟩ := trodAll_nil r1
  obtain rfl : args = #[v0, v1] := by cases args; simp_all
  obtain ⟨rfl, rfl⟩ := trodVars_none hV
  have k0 := h0
  have lt0 : ∀ x ∈ p0, x.block < W.heap.size := by obtain ⟨m, hm⟩ := k0; exact DataW.trod_lt m _ _ _ hm
  obtain ⟨a0, rfl, rfl, rfl, w0⟩ := open_int Try.underlying3 (hval 0 3 v0 rfl rfl) h0
  have k1 := h1
  have lt1 : ∀ x ∈ p1, x.block < W.heap.size := by obtain ⟨m, hm⟩ := k1; exact DataW.trod_lt m _ _ _ hm
  obtain ⟨a1, w1⟩ := open_ops11 (hval 1 37 v1 rfl rfl) h1
  clear hA0 hval0
  refine (walk a0 v1 a1 W w0 w1).mono fun e W' ⟨he, kp⟩ => ?_
  subst he
  have bel := kp.below
  exact ⟨_, rfl, _, _, _, [], _, [], hW', trodAll_mk1 (shut_bool Try.underlying4 _), (trodAll_cons_mk (shut_int Try.underlying3 w0) (trodAll_cons_mk (Below.trod Head.laidOut (by kernel_rfl) (of_decide_eq_true (by kernel_rfl)) k1 bel lt1) trodAll_mk0)), rfl, bel.frame _, fun h => by cases h⟩
theorem closed : joinedFacts Try.prog 7 Try.f7 Rows.budgetWholeSpec Rows.budgetWholeRow = true := by
  unfold joinedFacts
  rw [Head.mayEnter, Head.liftsFinal, Head.make]
  kernel_rfl
theorem over : Rows.budgetWholeRow.holds Try.pinned (OpenSpec.ofChange Rows.budgetWholeSpec) :=
  OpenClaim.holds_of_wide 7 Try.f7 rfl rfl rfl rfl rfl rfl rfl ⟨rfl, rfl, rfl, rfl, rfl⟩ rfl rfl rfl rfl rfl (by kernel_rfl) Try.func7 closed
    (of_decide_eq_true (by kernel_rfl)) (by unfold Func.isWrapper; first | (rw [if_pos (by decide +kernel)]; kernel_rfl) | (rw [if_neg (by decide +kernel)]; exact ⟨rfl, rfl⟩))
    (fun os started H enc _ => lifted os started H enc)
theorem proved : Rows.BudgetWholeSaid := over
end Go.Proofs.Ytepmljcapobodaa.budgetWhole
