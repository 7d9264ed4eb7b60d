/- A budget of any quota, under any script of calls, answers as the document says, and has what it should. Condition: none beyond the statement's own. -/
import Derived.Test.YtepmljcapobodaaBudPlay
import Derived.Test.YtepmljcapobodaaHead
namespace Go.Proofs.Ytepmljcapobodaa.budgetPlays
open Go.ChangeShapes Go.WideShapes Go.ChangeAt Go.RowKit
set_option linter.unusedVariables false
set_option linter.unusedSimpArgs false
set_option maxRecDepth 100000
def InvP (w : World) (b len : Nat) (lv iv : Value) (wr : World) : Prop :=
  ∃ (k : Nat) (O : Nat → Prop) (l : List Nd), iv = .int .i64 k ∧ k ≤ len ∧ Both w wr b O (k + 1) l lv
def InvQ (w : World) (iv : Value) (wr : World) : Prop := iv = .int .i64 0 ∧ w = wr
set_option maxHeartbeats 3200000 in
theorem walk_in (q : Int) (h0 : 0 ≤ q) (h1 : q ≤ 65536) (v : Value) (l : List Op11) (hl : l.length ≤ 200) (w : World) (L : OpsAt11 w v l) (hf : ∀ o ∈ l, op11Fine o) :
    Calls Try.prog 5 #[.int .i64 q, v] w fun r w' => r = .returned (.bool true) ∧ Keep nob w w' := by
  obtain ⟨a, cap, rfl, hm, hcap, hcells⟩ := L
  have C := bw_new w q h0 h1
  have t1 : decide ((200 : Int) < l.length) = false := by simp; omega
  replace C := Lib.hid C
  replace hf := Lib.hid hf
  replace hcells := Lib.hid hcells
  go_enter Try.func5, Try.ntmps5
  go_wp2_with fail
  refine Calls.mono C.out ?_
  rintro r w1 ⟨b, O, rfl, S⟩
  have C2 := rnew_ok w1 q h0 h1
  replace C2 := Lib.hid C2
  replace S := Lib.hid S
  go_wp2_with fail
  refine Calls.mono C2.out ?_
  rintro r w2 ⟨v', rfl, N, hv, K2⟩
  have B : Both w w2 b O 1 [⟨1, 0, q, 0⟩] v' := ⟨S.out.next K2, N, fun g hg ho => by
    rcases hv with rfl | hv
    · cases hg
    · have := hv g hg; have := S.out.olt g ho; omega⟩
  replace B := Lib.hid B
  replace N := Lib.hid N
  replace hv := Lib.hid hv
  replace K2 := Lib.hid K2
  go_wp2_with fail
  go_loopw [7, 9] (fun lv iv wr => InvP w b l.length lv iv wr) (fun _ iv _ => (l.length - intOf iv).toNat)
  case atStart => exact ⟨0, O, _, rfl, Nat.zero_le _, B.out⟩
  case round =>
    obtain ⟨k, O3, ls, rfl, hk, B3⟩ := hrel
    by_cases hlt : k < l.length
    · have hne : l ≠ [] := by intro e; rw [e] at hlt; simp at hlt
      obtain ⟨gg, og, rfl, cs⟩ := hcells.out hne
      obtain ⟨⟨d, id, up, n⟩, ho⟩ : ∃ o, l[k] = o := ⟨_, rfl⟩
      have ho' : l[k]? = some ⟨d, id, up, n⟩ := by rw [← ho, List.getElem?_eq_getElem hlt]
      have K3 := B3.S.K
      have r0 : wr.cell? ⟨gg, og + k * 4, none⟩ = some (.int .i64 d) := K3.some (cs k _ ho' 0 _ rfl) (fun x => x)
      have r1 : wr.cell? ⟨gg, og + k * 4 + 1, none⟩ = some (.int .i64 id) := K3.some (cs k _ ho' 1 _ rfl) (fun x => x)
      have r2 : wr.cell? ⟨gg, og + k * 4 + 2, none⟩ = some (.int .i64 up) := K3.some (cs k _ ho' 2 _ rfl) (fun x => x)
      have r3 : wr.cell? ⟨gg, og + k * 4 + 3, none⟩ = some (.int .i64 n) := K3.some (cs k _ ho' 3 _ rfl) (fun x => x)
      have gw : gg < w.heap.size := World.block_lt_of_cell? _ _ (cs k _ ho' 0 _ rfl)
      have go3 : ¬ O3 gg := fun e => by have := B3.S.o gg e; omega
      have t4 : decide (k < l.length) = true := decide_eq_true hlt
      have kz : (0 : Int) ≤ k := by omega
      have kb : (k : Int) < l.length := by omega
      have CP := play11 B3 (by omega) ⟨d, id, up, n⟩
      unfold opV11 at CP
      dsimp only at CP
      replace ho := Lib.hid ho
      replace ho' := Lib.hid ho'
      replace gw := Lib.hid gw
      replace B3 := Lib.hid B3
      replace CP := Lib.hid CP
      replace K3 := Lib.hid K3
      replace go3 := Lib.hid go3
      clear cs
      go_wp2_with fail
      refine Calls.mono CP.out ?_
      rintro r w5 ⟨v5, O5, rfl, B5, hO5, K5⟩
      have z1 := K5.some r1 go3.out
      have Kd : Keep nob w5 w5.drew := (Keep.refl nob _).drew
      have ed : ∀ p, w5.drew.cell? p = w5.cell? p := fun p => rfl
      have ln5 := B5.S.G.len
      have CL := fun W' (k : Keep nob w5 W') => bw_left (B5.S.next k) id
      have CR := fun W' (k : Keep nob w5 W') => left_ok11 (B5.N.next k) B5.S.G id
      have CA := fun W' (k : Keep nob w5 W') => bw_all (B5.S.next k)
      obtain ⟨lf, hlf⟩ : ∃ lf, leftN' (stepL ls ⟨d, id, up, n⟩) id = lf := ⟨_, rfl⟩
      rw [hlf] at CL CR
      replace B5 := Lib.hid B5
      replace hO5 := Lib.hid hO5
      replace K5 := Lib.hid K5
      replace CL := Lib.hid CL
      replace CR := Lib.hid CR
      replace CA := Lib.hid CA
      replace Kd := Lib.hid Kd
      replace ed := Lib.hid ed
      replace hlf := Lib.hid hlf
      clear r0 r1 r2 r3
      go_wp2_with fail
      go_region_held3 (fun w' => w'.cell? ⟨gg, og + k * 4 + 1, none⟩ = some (.int .i64 id)) (first | go_keep | exact y0 | exact y1 | exact y2 | exact y3) (first | (go_at_call 12; (with_reducible refine Calls.mono (CL.out _ Kd.out) ?_); rintro r wa ⟨rfl, KA⟩; have y0 := KA.some ((ed.out _).trans z1) (fun x => x); replace KA := Lib.hid (Kd.out.then KA)) | (go_at_call 18; (with_reducible refine Calls.mono (CR.out _ KA.out) ?_); rintro r wb ⟨rfl, KB⟩; have y1 := KB.some y0 (fun x => x); replace KB := Lib.hid (KA.out.then KB)) | (go_at_call 15; (with_reducible refine Calls.mono (CA.out _ KB.out) ?_); rintro r wc ⟨va, rfl, MA, KC⟩; have y2 := KC.some y1 (fun x => x); replace KC := Lib.hid (KB.out.then KC); replace MA := Lib.hid MA) | (go_at_call 19; have CS := same_ok11 (own_base MA.out (Nat.zero_le _)) (B5.out.N.next KC.out) (by omega); rw [decide_eq_true rfl] at CS; refine Calls.mono CS ?_; rintro r we ⟨rfl, KE⟩; have y3 := KE.some y2 (fun x => x); replace KE := Lib.hid (KC.out.then KE); clear CS))
      go_wp2_with fail
      go_roundw
      case rel => exact ⟨k + 1, O5, _, by go_num, by omega, B5.out.next KE.out⟩
      case measure => simp [intOf]; omega
    · have t4 : decide (k < l.length) = false := decide_eq_false hlt
      have AW := awake11 wr
      have K3 := B3.S.K
      replace AW := Lib.hid AW
      replace K3 := Lib.hid K3
      replace B3 := Lib.hid B3
      go_wp2_with fail
      refine Calls.mono AW.out ?_
      rintro r w8 ⟨rfl, K8⟩
      replace K8 := Lib.hid K8
      go_wp2_with fail
      go_ret
      exact ⟨rfl, K3.out.then K8.out⟩
theorem walk_no (q : Int) (h : ¬ (0 ≤ q ∧ q ≤ 65536)) (a : Option Addr) (len cap : Nat) (hl : len ≤ 200) (w : World) :
    Calls Try.prog 5 #[.int .i64 q, .slice a len cap] w fun r w' => r = .returned (.bool true) ∧ Keep nob w w' := by
  have C := new_no w q h
  have C2 := rnew_no w q h
  have t1 : decide ((200 : Int) < len) = false := by simp; omega
  have AW := awake11 w
  clear h
  replace C := Lib.hid C
  replace C2 := Lib.hid C2
  replace AW := Lib.hid AW
  go_enter Try.func5, Try.ntmps5
  go_wp2_with fail
  refine Calls.mono C.out ?_
  rintro r w1 ⟨rfl, rfl⟩
  go_wp2_with fail
  refine Calls.mono C2.out ?_
  rintro r w1 ⟨rfl, rfl⟩
  go_wp2_with fail
  go_loopw [9] (fun iv wr => InvQ w iv wr) (fun iv _ => (1 - intOf iv).toNat)
  case atStart => exact ⟨rfl, rfl⟩
  case round =>
    obtain ⟨rfl, rfl⟩ := hrel
    rcases Bool.eq_false_or_eq_true (decide (0 < len)) with t3 | t3
    all_goals
      go_wp2_with fail
      refine Calls.mono AW.out ?_
      rintro r w8 ⟨rfl, K8⟩
      replace K8 := Lib.hid K8
      go_wp2_with fail
      go_ret
      exact ⟨rfl, K8.out⟩
theorem walk_long (q : Int) (a : Option Addr) (len cap : Nat) (hl : 200 < len) (w : World) :
    Calls Try.prog 5 #[.int .i64 q, .slice a len cap] w fun r w' => r = .returned (.bool true) ∧ Keep nob w w' := by
  have t1 : decide ((200 : Int) < len) = true := by simp; omega
  have AW := awake11 w
  replace AW := Lib.hid AW
  go_enter Try.func5, Try.ntmps5
  go_wp2_with fail
  refine Calls.mono AW.out ?_
  rintro r w8 ⟨rfl, K8⟩
  replace K8 := Lib.hid K8
  go_wp2_with fail
  go_ret
  exact ⟨rfl, K8.out⟩
theorem walk (q : Int) (v : Value) (l : List Op11) (w : World) (w0 : (Lit.int .i64 q).wf = true) (w1 : OpsAt11 w v l ∧ ∀ o ∈ l, op11Fine o) :
    Calls Try.prog 5 #[.int .i64 q, v] w fun e w' => e = .returned (.bool true) ∧ Keep nob w w' := by
  by_cases hl : l.length ≤ 200
  · by_cases h : 0 ≤ q ∧ q ≤ 65536
    · exact walk_in q h.1 h.2 v l hl w w1.1 w1.2
    · obtain ⟨⟨a, cap, rfl, -⟩, -⟩ := w1
      exact walk_no q h a _ cap hl w
  · obtain ⟨⟨a, cap, rfl, -⟩, -⟩ := w1
    exact walk_long q a _ cap (by omega) w
set_option maxRecDepth 100000 in
theorem lifted (os : Os) (started : os.Started) (H : Type) (enc : TypeId × Value → H) :
    ReturnsInHanded {} Try.checked os 5 .any (Rows.budgetPlaysSpec.pre6 enc Try.prog Try.f5 Rows.budgetPlaysRow.domain false) (Rows.budgetPlaysSpec.post enc Try.prog Try.f5 false true false false) := by
  refine returnsInHanded_of_change (C := Try.checked) Head.own started (by kernel_rfl) Try.func5
    (ChangeSpec.witness6 (enc := enc) (C := Try.checked) false ⟨#[], #[.int .i64 0, .slice none 0 0], []⟩ 8 (by kernel_rfl) (by kernel_rfl) (by kernel_rfl) (by kernel_rfl)) ?_
  intro W base args ds gs before hval0 hW hcnd _
  have hval : ∀ (j : Nat) t v, Try.f5.params[j]? = some t → args[j]? = some v → Value.okWide Try.prog W .any base t v := hval0
  have hW' := hW
  obtain ⟨p, q, hA0, hV, rfl, hfz, hnd⟩ := hW
  have hA : DataW.TrodAll enc Try.prog W 0 (fun _ => true) true Try.f5.params.toList args.toList ds p := hA0
  rw [Try.params5] at hA hval
  obtain ⟨v0, vs0, d0, ds0, p0, q0, hargs, rfl, rfl, h0, r0⟩ := trodAll_cons hA
  obtain ⟨v1, vs1, d1, ds1, p1, q1, rfl, rfl, rfl, h1, r1⟩ := trodAll_cons r0
  obtain ⟨rfl, rfl, rfl⟩ := trodAll_nil r1
  obtain rfl : args = #[v0, v1] := by cases args; simp_all
  obtain ⟨rfl, rfl⟩ := trodVars_none hV
  have k0 := h0
  have lt0 : ∀ x ∈ p0, x.block < W.heap.size := by obtain ⟨m, hm⟩ := k0; exact DataW.trod_lt m _ _ _ hm
  obtain ⟨a0, rfl, rfl, rfl, w0⟩ := open_int Try.underlying3 (hval 0 3 v0 rfl rfl) h0
  have k1 := h1
  have lt1 : ∀ x ∈ p1, x.block < W.heap.size := by obtain ⟨m, hm⟩ := k1; exact DataW.trod_lt m _ _ _ hm
  obtain ⟨a1, w1⟩ := open_ops11 (hval 1 37 v1 rfl rfl) h1
  clear hA0 hval0
  refine (walk a0 v1 a1 W w0 w1).mono fun e W' ⟨he, kp⟩ => ?_
  subst he
  have bel := kp.below
  exact ⟨_, rfl, _, _, _, [], _, [], hW', trodAll_mk1 (shut_bool Try.underlying4 _), (trodAll_cons_mk (shut_int Try.underlying3 w0) (trodAll_cons_mk (Below.trod Head.laidOut (by kernel_rfl) (of_decide_eq_true (by kernel_rfl)) k1 bel lt1) trodAll_mk0)), rfl, bel.frame _, fun h => by cases h⟩
theorem closed : joinedFacts Try.prog 5 Try.f5 Rows.budgetPlaysSpec Rows.budgetPlaysRow = true := by
  unfold joinedFacts
  rw [Head.mayEnter, Head.liftsFinal, Head.make]
  kernel_rfl
theorem over : Rows.budgetPlaysRow.holds Try.pinned (OpenSpec.ofChange Rows.budgetPlaysSpec) :=
  OpenClaim.holds_of_wide 5 Try.f5 rfl rfl rfl rfl rfl rfl rfl ⟨rfl, rfl, rfl, rfl, rfl⟩ rfl rfl rfl rfl rfl (by kernel_rfl) Try.func5 closed
    (of_decide_eq_true (by kernel_rfl)) (by unfold Func.isWrapper; first | (rw [if_pos (by decide +kernel)]; kernel_rfl) | (rw [if_neg (by decide +kernel)]; exact ⟨rfl, rfl⟩))
    (fun os started H enc _ => lifted os started H enc)
theorem proved : Rows.BudgetPlaysSaid := over
end Go.Proofs.Ytepmljcapobodaa.budgetPlays
