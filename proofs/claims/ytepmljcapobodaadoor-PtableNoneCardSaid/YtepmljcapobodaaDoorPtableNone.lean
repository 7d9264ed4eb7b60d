/- A manager that is not there, or that nobody made, answers ErrNil, and tells nothing; without a memory, a pool, or such a partition there is none. -/
import Derived.Test.YtepmljcapobodaaDoorPtNone2
import Derived.Test.YtepmljcapobodaaDoorPtAwake
import Derived.Test.YtepmljcapobodaaDoorHead
import Derived.Test.YtepmljcapobodaaDoorLaid
import Derived.Test.YtepmljcapobodaaDoorCards
import Derived.Test.YtepmljcapobodaaDoorTie
namespace Go.Proofs.YtepmljcapobodaaDoor.ptableNone
open Go.ChangeShapes Go.WideShapes Go.ChangeAt Go.RowKit
set_option linter.unusedVariables false
set_option maxRecDepth 100000
set_option maxHeartbeats 3200000 in
theorem walk_e (n page : Int) (e : Ent) (w : World) (hT : TabAt 0 Lib.deBruijn64tab w) (wn : wfI n) :
    Calls Tryd.prog 13 #[.int .i64 n, .int .i64 page, e.val] w fun r w' => r = .returned (.bool true) ∧ Keep nob w w' := by
  obtain ⟨p, v, cc, fr⟩ := e
  unfold Ent.val
  dsimp only
  replace hT := Lib.hid hT
  go_enter Tryd.func13, Tryd.ntmps13
  go_wp2_with fail
  have E := (EntAt.new w p v cc fr 69).next ((Keep.refl nob _).alloc (.cells #[.pointer none, .pointer none, .int .i64 0, .map none] 102))
  have KW : Keep nob w ((w.alloc (.cells #[.bool p, .bool v, .bool cc, .int .i64 fr] 69)).alloc (.cells #[.pointer none, .pointer none, .int .i64 0, .map none] 102)) := ((Keep.refl nob w).alloc _).alloc _
  have c0 := new_at (w.alloc (.cells #[.bool p, .bool v, .bool cc, .int .i64 fr] 69)) #[Value.pointer none, .pointer none, .int .i64 0, .map none] 102 0 _ rfl
  rw [World.size_alloc] at c0
  obtain ⟨W, hW⟩ : ∃ W, W = (w.alloc (.cells #[.bool p, .bool v, .bool cc, .int .i64 fr] 69)).alloc (.cells #[.pointer none, .pointer none, .int .i64 0, .map none] 102) := ⟨_, rfl⟩
  rw [← hW] at E KW c0
  rw [← hW]
  have N1 : NoMgr W (.pointer none) := Or.inl rfl
  have N2 : NoMgr W (.pointer (some ⟨w.heap.size + 1, 0, none⟩)) := Or.inr ⟨_, rfl, c0⟩
  have K0 : Keep nob W W := Keep.refl _ _
  replace E := Lib.hid E
  replace KW := Lib.hid KW
  replace N1 := Lib.hid N1
  replace N2 := Lib.hid N2
  replace hW := Lib.hid hW
  replace K0 := Lib.hid K0
  clear c0
  refine wp_loop_rounds 3 ?_
  rw [rounds_succ]
  go_wp2_with fail
  refine Calls.mono (mopen (N1.out.next K0.out)) ?_
  rintro r w1 ⟨rfl, rfl⟩
  go_wp2_with fail
  refine Calls.mono (munmap (N1.out.next K0.out) n page) ?_
  rintro r w2 ⟨rfl, K2⟩
  unfold Ent.val Ent.zero
  dsimp only
  have Ka1 := (K0.out.then K2).alloc (.cells #[.bool false, .bool false, .bool false, .int .i64 0] 69)
  have U := EntAt.new w2 false false false 0 69
  obtain ⟨W2, hW2⟩ : ∃ W2, W2 = w2.alloc (.cells #[.bool false, .bool false, .bool false, .int .i64 0] 69) := ⟨_, rfl⟩
  rw [← hW2] at Ka1 U
  replace K2 := Lib.hid K2
  replace Ka1 := Lib.hid Ka1
  replace U := Lib.hid U
  replace hW2 := Lib.hid hW2
  go_wp2_with fail
  rw [← hW2.out]
  have CQ := mquery (N1.out.next Ka1.out) n page
  unfold Ent.val Ent.zero at CQ
  dsimp only at CQ
  refine Calls.mono CQ ?_
  rintro r w3 ⟨rfl, K3⟩
  have Kb1 := (Ka1.out.then K3).alloc (.cells #[.bool false, .bool false, .bool false, .int .i64 0] 69)
  have UA := fun o => (U.out.next K3).next ((Keep.refl nob w3).alloc o)
  have u0 := fun o => (UA o).c0
  have u1 := fun o => (UA o).c1
  have u2 := fun o => (UA o).c2
  have u3 := fun o => (UA o).c3
  have CC := mclose (N1.out.next Kb1) n
  have CM := mmap (N1.out.next Kb1) n page ⟨p, v, cc, fr⟩
  unfold Ent.val at CM
  dsimp only at CM
  have EB := E.out.next Kb1
  obtain ⟨d0, d1, d2, d3, -, -, -, -⟩ := id EB
  replace K3 := Lib.hid K3
  replace Kb1 := Lib.hid Kb1
  replace UA := Lib.hid UA
  replace CC := Lib.hid CC
  replace CM := Lib.hid CM
  replace CQ := Lib.hid CQ
  replace EB := Lib.hid EB
  go_wp2_with fail
  refine Calls.mono CC.out ?_
  rintro r w4 ⟨rfl, rfl⟩
  go_wp2_with fail
  refine Calls.mono CM.out ?_
  rintro r w5 ⟨rfl, K5⟩
  have Kc1 := Kb1.out.then K5
  have CS := mset (N1.out.next Kc1) n page ⟨p, v, cc, fr⟩
  unfold Ent.val at CS
  dsimp only at CS
  clear d0 d1 d2 d3 u0 u1 u2 u3
  obtain ⟨d0, d1, d2, d3, -, -, -, -⟩ := E.out.next Kc1
  replace K5 := Lib.hid K5
  replace Kc1 := Lib.hid Kc1
  replace CS := Lib.hid CS
  go_wp2_with fail
  refine Calls.mono CS.out ?_
  rintro r w6 ⟨rfl, K6⟩
  have Kd1 := Kc1.out.then K6
  replace K6 := Lib.hid K6
  replace Kd1 := Lib.hid Kd1
  clear d0 d1 d2 d3
  go_wp2_with fail
  refine Calls.mono (mall (N1.out.next Kd1.out) n) ?_
  rintro r w7 ⟨rfl, K7⟩
  have Ke1 := Kd1.out.then K7
  replace K7 := Lib.hid K7
  replace Ke1 := Lib.hid Ke1
  go_wp2_with fail
  refine Calls.mono (mtables (N1.out.next Ke1.out) n) ?_
  rintro r w8 ⟨rfl, rfl⟩
  go_wp2_with fail
  clear K2 Ka1 U hW2 K3 Kb1 UA CC CM CQ EB K5 Kc1 CS K6 Kd1 K7
  rw [rounds_succ]
  go_wp2_with fail
  refine Calls.mono (mopen (N2.out.next Ke1.out)) ?_
  rintro r w1 ⟨rfl, rfl⟩
  go_wp2_with fail
  refine Calls.mono (munmap (N2.out.next Ke1.out) n page) ?_
  rintro r w2 ⟨rfl, K2⟩
  unfold Ent.val Ent.zero
  dsimp only
  have Ka2 := (Ke1.out.then K2).alloc (.cells #[.bool false, .bool false, .bool false, .int .i64 0] 69)
  have U := EntAt.new w2 false false false 0 69
  obtain ⟨W2, hW2⟩ : ∃ W2, W2 = w2.alloc (.cells #[.bool false, .bool false, .bool false, .int .i64 0] 69) := ⟨_, rfl⟩
  rw [← hW2] at Ka2 U
  replace K2 := Lib.hid K2
  replace Ka2 := Lib.hid Ka2
  replace U := Lib.hid U
  replace hW2 := Lib.hid hW2
  go_wp2_with fail
  rw [← hW2.out]
  have CQ := mquery (N2.out.next Ka2.out) n page
  unfold Ent.val Ent.zero at CQ
  dsimp only at CQ
  refine Calls.mono CQ ?_
  rintro r w3 ⟨rfl, K3⟩
  have Kb2 := (Ka2.out.then K3).alloc (.cells #[.bool false, .bool false, .bool false, .int .i64 0] 69)
  have UA := fun o => (U.out.next K3).next ((Keep.refl nob w3).alloc o)
  have u0 := fun o => (UA o).c0
  have u1 := fun o => (UA o).c1
  have u2 := fun o => (UA o).c2
  have u3 := fun o => (UA o).c3
  have CC := mclose (N2.out.next Kb2) n
  have CM := mmap (N2.out.next Kb2) n page ⟨p, v, cc, fr⟩
  unfold Ent.val at CM
  dsimp only at CM
  have EB := E.out.next Kb2
  obtain ⟨d0, d1, d2, d3, -, -, -, -⟩ := id EB
  replace K3 := Lib.hid K3
  replace Kb2 := Lib.hid Kb2
  replace UA := Lib.hid UA
  replace CC := Lib.hid CC
  replace CM := Lib.hid CM
  replace CQ := Lib.hid CQ
  replace EB := Lib.hid EB
  go_wp2_with fail
  refine Calls.mono CC.out ?_
  rintro r w4 ⟨rfl, rfl⟩
  go_wp2_with fail
  refine Calls.mono CM.out ?_
  rintro r w5 ⟨rfl, K5⟩
  have Kc2 := Kb2.out.then K5
  have CS := mset (N2.out.next Kc2) n page ⟨p, v, cc, fr⟩
  unfold Ent.val at CS
  dsimp only at CS
  clear d0 d1 d2 d3 u0 u1 u2 u3
  obtain ⟨d0, d1, d2, d3, -, -, -, -⟩ := E.out.next Kc2
  replace K5 := Lib.hid K5
  replace Kc2 := Lib.hid Kc2
  replace CS := Lib.hid CS
  go_wp2_with fail
  refine Calls.mono CS.out ?_
  rintro r w6 ⟨rfl, K6⟩
  have Kd2 := Kc2.out.then K6
  replace K6 := Lib.hid K6
  replace Kd2 := Lib.hid Kd2
  clear d0 d1 d2 d3
  go_wp2_with fail
  refine Calls.mono (mall (N2.out.next Kd2.out) n) ?_
  rintro r w7 ⟨rfl, K7⟩
  have Ke2 := Kd2.out.then K7
  replace K7 := Lib.hid K7
  replace Ke2 := Lib.hid Ke2
  go_wp2_with fail
  refine Calls.mono (mtables (N2.out.next Ke2.out) n) ?_
  rintro r w8 ⟨rfl, rfl⟩
  go_wp2_with fail
  rw [rounds_succ]
  go_wp2_with fail
  have Kz := KW.out.then Ke2.out
  have C := made10 w7 2 (by decide) (by decide)
  rw [show ((2 : Nat) : Int) = 2 from rfl] at C
  replace Kz := Lib.hid Kz
  replace C := Lib.hid C
  clear K2 Ka2 U hW2 K3 Kb2 UA CC CM CQ EB K5 Kc2 CS K6 Kd2 K7 Ke2 Ke1 N1 N2 K0 hW KW E
  refine Calls.mono C.out ?_
  rintro r w8 ⟨A, B, rfl, D, hn, hl, S, Si, K⟩
  obtain ⟨c, f, T, X, I, F, L, R⟩ := S
  have Ky := Kz.out.then K
  have t1 := fun W' (k : Keep nob w8 W') => tnew_arg D.G (X.next D.G k).P (by rw [L]; decide) 2 (by rw [hl]; simp)
  have t2 := fun W' (k : Keep nob w8 W') => tnew_arg D.G (X.next D.G k).P (by rw [L]; decide) (-1) (by rw [hl]; simp)
  have t3 := tnew_nomem w8 (.pointer (some ⟨B.p, 0, none⟩)) 0
  have t4 := tnew_nopool X.P.mem 0
  replace Ky := Lib.hid Ky
  replace K := Lib.hid K
  replace t1 := Lib.hid t1
  replace t2 := Lib.hid t2
  replace t3 := Lib.hid t3
  replace t4 := Lib.hid t4
  replace D := Lib.hid D
  replace hn := Lib.hid hn
  replace hl := Lib.hid hl
  replace X := Lib.hid X
  replace I := Lib.hid I
  replace F := Lib.hid F
  replace L := Lib.hid L
  replace R := Lib.hid R
  replace Si := Lib.hid Si
  go_wp2_with fail
  refine Calls.mono t3.out ?_
  rintro r w9 ⟨rfl, rfl⟩
  go_wp2_with fail
  refine Calls.mono t4.out ?_
  rintro r w9 ⟨rfl, rfl⟩
  go_wp2_with fail
  refine Calls.mono (t1.out _ (Keep.refl _ _)) ?_
  rintro r w9 ⟨rfl, K9⟩
  replace K9 := Lib.hid K9
  go_wp2_with fail
  refine Calls.mono (t2.out _ K9.out) ?_
  rintro r w10 ⟨rfl, K10⟩
  have Kx := Ky.out.then (K9.out.then K10)
  have AW := awake10 w10 (tab_keep hT.out Kx)
  replace K10 := Lib.hid K10
  replace Kx := Lib.hid Kx
  replace AW := Lib.hid AW
  go_wp2_with fail
  refine Calls.mono AW.out ?_
  rintro r w11 ⟨rfl, K11⟩
  replace K11 := Lib.hid K11
  go_wp2_with fail
  go_ret
  exact ⟨rfl, Kx.out.then K11.out⟩
theorem walk (n page : Int) (v2 : Value) (e : Ent) (w : World) (w0 : (Lit.int .i64 n).wf = true) (w1 : (Lit.int .i64 page).wf = true) (w2 : EntIs v2 e) (hT : TabAt 0 Lib.deBruijn64tab w) :
    Calls Tryd.prog 13 #[.int .i64 n, .int .i64 page, v2] w fun r w' => r = .returned (.bool true) ∧ Keep nob w w' := by
  obtain ⟨rfl, -⟩ := w2
  exact walk_e n page e w hT (wfI_of w0)
set_option maxRecDepth 100000 in
theorem lifted (os : Os) (started : os.Started) (H : Type) (enc : TypeId × Value → H) :
    ReturnsInHanded {} Tryd.checked os 13 .any (fun w args => (Rows.ptableNoneSpec.pre enc Tryd.prog Tryd.f13 [] false w args ∧ laidMetH Tryd.prog Laid.list w) ∧ sizedMet enc Tryd.prog Tryd.f13 (OpenSpec.ofChange Rows.ptableNoneSpec) false w args) (Rows.ptableNoneSpec.post enc Tryd.prog Tryd.f13 false true false false) := by
  refine returnsInHanded_of_change_and (C := Tryd.checked) (X := fun w _ => laidMetH Tryd.prog Laid.list w) (fun _ _ _ hh h => h.of_heap hh) Head.own started (by kernel_rfl) Tryd.func13
    (ChangeSpec.witness_shaped (enc := enc) (C := Tryd.checked) (os := os) (X := fun w _ => laidMetH Tryd.prog Laid.list w) false (World.doorLaid Tryd.prog Laid.steps os) #[.int .i64 0, .int .i64 0, .agg #[.bool false,.bool false,.bool false,.int .i64 0]] 8 rfl (World.shaped_of_RefB (by kernel_rfl) (by kernel_rfl)) (by kernel_rfl) (by kernel_rfl) (by kernel_rfl) (Laid.met os _)) ?_
  intro W base args ds gs before hval0 hW _ _ hL _
  have hval : ∀ (j : Nat) t v, Tryd.f13.params[j]? = some t → args[j]? = some v → Value.okWide Tryd.prog W .any base t v := hval0
  have hW' := hW
  obtain ⟨p, q, hA0, hV, rfl, hfz, hnd⟩ := hW
  have hA : DataW.TrodAll enc Tryd.prog W 0 (fun _ => true) true Tryd.f13.params.toList args.toList ds p := hA0
  rw [Tryd.params13] at hA hval
  obtain ⟨v0, vs0, d0, ds0, p0, q0, hargs, rfl, rfl, h0, r0⟩ := trodAll_cons hA
  obtain ⟨v1, vs1, d1, ds1, p1, q1, rfl, rfl, rfl, h1, r1⟩ := trodAll_cons r0
  obtain ⟨v2, vs2, d2, ds2, p2, q2, rfl, rfl, rfl, h2, r2⟩ := trodAll_cons r1
  obtain ⟨rfl, rfl, rfl⟩ := trodAll_nil r2
  obtain rfl : args = #[v0, v1, v2] := by cases args; simp_all
  obtain ⟨rfl, rfl⟩ := trodVars_none hV
  have k0 := h0
  have lt0 : ∀ x ∈ p0, x.block < W.heap.size := by obtain ⟨m, hm⟩ := k0; exact DataW.trod_lt m _ _ _ hm
  obtain ⟨a0, rfl, rfl, rfl, w0⟩ := open_int Tryd.underlying3 (hval 0 3 v0 rfl rfl) h0
  have k1 := h1
  have lt1 : ∀ x ∈ p1, x.block < W.heap.size := by obtain ⟨m, hm⟩ := k1; exact DataW.trod_lt m _ _ _ hm
  obtain ⟨a1, rfl, rfl, rfl, w1⟩ := open_int Tryd.underlying3 (hval 1 3 v1 rfl rfl) h1
  have k2 := h2
  have lt2 : ∀ x ∈ p2, x.block < W.heap.size := by obtain ⟨m, hm⟩ := k2; exact DataW.trod_lt m _ _ _ hm
  obtain ⟨a2, w2⟩ := open_ent (hval 2 69 v2 rfl rfl) h2
  clear hA0 hval0
  refine (walk a0 a1 v2 a2 W w0 w1 w2 (Laid.tab hL)).mono fun e W' ⟨he, kp⟩ => ?_
  subst he
  have bel := kp.below
  exact ⟨_, rfl, _, _, _, [], _, [], hW', trodAll_mk1 (shut_bool Tryd.underlying4 _), (trodAll_cons_mk (shut_int Tryd.underlying3 w0) (trodAll_cons_mk (shut_int Tryd.underlying3 w1) (trodAll_cons_mk (Below.trod Head.laidOut (by kernel_rfl) (of_decide_eq_true (by kernel_rfl)) k2 bel lt2) trodAll_mk0))), rfl, bel.frame _, fun h => by cases h⟩
theorem closed : joinedFacts Tryd.prog 13 Tryd.f13 Rows.ptableNoneSpec Rows.ptableNoneRow = true := by
  unfold joinedFacts
  rw [Head.mayEnter, Head.liftsFinal, Head.make]
  kernel_rfl
theorem over : Rows.ptableNoneRow.holds Tryd.pinned (OpenSpec.ofChange Rows.ptableNoneSpec) :=
  OpenClaim.holds_of_wide 13 Tryd.f13 rfl rfl rfl rfl rfl rfl rfl ⟨rfl, rfl, rfl, rfl, rfl⟩ rfl rfl rfl rfl rfl (by kernel_rfl) Tryd.func13 closed
    (of_decide_eq_true (by kernel_rfl)) (by unfold Func.isWrapper; first | (rw [if_pos (by decide +kernel)]; kernel_rfl) | (rw [if_neg (by decide +kernel)]; exact ⟨rfl, rfl⟩))
    (fun os started H enc _ => lifted os started H enc)
theorem row : Rows.PtableNoneSaid := over
theorem proved : Rows.PtableNoneCardSaid :=
  Claim7.holds_tied_plain_at .later [] [.data] true (true, "6f766e467f1f76f857c29113ad61a388d69ae06b2677fa7c12f1fa228f819649") false
    row (fun _ h => by cases h) (by kernel_rfl) (fun _ h => by cases h) ptableNone_row_tie rfl ⟨rfl, rfl⟩ (by kernel_rfl) rfl
    (fun f fn hf hfn => by
      obtain rfl : f = 13 := Option.some.inj ((show Tryd.prog.funcNamed "priory/priorylaw10.PtableNone" = some 13 by kernel_rfl).symm.trans hf) |>.symm
      obtain rfl : fn = Tryd.f13 := (Option.some.inj (Tryd.func13.symm.trans hfn)).symm
      exact ⟨by kernel_rfl, fun j t ht => by
        have hall : (Tryd.f13.params.toList.all fun u => !Tryd.prog.wantsStandIn u) = true := by kernel_rfl
        have hm : t ∈ Tryd.f13.params.toList := Array.mem_toList_iff.2 (Array.mem_of_getElem? ht)
        exact (show Tryd.prog.wantsStandIn t = false by simpa using List.all_eq_true.1 hall t hm)⟩)
    (by kernel_rfl)
end Go.Proofs.YtepmljcapobodaaDoor.ptableNone
