/- Frames are handed out the least one first, and one that is freed is the next one, if it is the least. -/
import Derived.Test.YtepmljcapobodaaDoorPalOne
import Derived.Test.YtepmljcapobodaaDoorHead
import Derived.Test.YtepmljcapobodaaDoorLaid
import Derived.Test.YtepmljcapobodaaDoorCards
import Derived.Test.YtepmljcapobodaaDoorTie
namespace Go.Proofs.YtepmljcapobodaaDoor.pallocLeast
open Go.ChangeShapes Go.WideShapes Go.ChangeAt Go.RowKit
set_option linter.unusedVariables false
set_option maxRecDepth 100000
def Inv (w : World) (B : PB) (n : Nat) (i : Value) (wr : World) : Prop := ∃ (k : Nat) (c : Nat → Int) (f : Int → Int), i = .int .i64 k ∧ k ≤ n ∧ (∀ x : Int, 0 ≤ x → x < k → f x = 1) ∧ (∀ x : Int, k ≤ x → f x = 0) ∧ PoolAt wr B c f k ∧ RefsOk B f ∧ Keep nob w wr
set_option maxHeartbeats 1600000 in
theorem walk_in (n k : Nat) (h1 : 1 ≤ n) (h2 : n ≤ 30) (h3 : k < n) (w : World) (hT : TabAt 0 Lib.deBruijn64tab w) :
    Calls Tryd.prog 4 #[.int .i64 n, .int .i64 k] w fun e w' => e = .returned (.bool true) ∧ Keep nob w w' := by
  have t1 : decide ((n : Int) < 1) = false := by simp; omega
  have t2 : decide ((30 : Int) < n) = false := by simp; omega
  have t3 : decide ((k : Int) < 0) = false := by simp
  have t4 : decide ((n : Int) ≤ k) = false := by simp; omega
  replace hT := Lib.hid hT
  go_enter Tryd.func4, Tryd.ntmps4
  go_wp2_with fail
  refine Calls.mono (new_in w n (by omega) (by omega)) ?_
  rintro r w1 ⟨rfl, M, K⟩
  replace M := Lib.hid M
  replace K := Lib.hid K
  go_wp2_with fail
  refine Calls.mono (one_new K.out M.out (Nat.le_refl _)) ?_
  rintro r w2 ⟨B, rfl, G, P, SI, in0, ln, -, -, -, -, -, K3⟩
  replace G := Lib.hid G
  replace P := Lib.hid P
  replace K3 := Lib.hid K3
  replace SI := Lib.hid SI
  replace in0 := Lib.hid in0
  clear M K
  go_wp2_with fail
  go_loopw [9] (fun i wr => Inv w B n i wr) (fun i _ => (n - intOf i).toNat)
  case atStart => exact ⟨0, _, _, rfl, by omega, fun x a b => by omega, fun x _ => rfl, P.out, RefsOk.zero B, K3.out⟩
  case round =>
    clear P K3
    obtain ⟨j, c, f, rfl, hj, f1, f0, P, R, K⟩ := hrel
    replace P := Lib.hid P
    replace K := Lib.hid K
    replace R := Lib.hid R
    replace f1 := Lib.hid f1
    replace f0 := Lib.hid f0
    by_cases hlt : j < n
    · have t5 : decide ((j : Int) < n) = true := by simp; omega
      go_wp2_with fail
      refine Calls.mono (alloc_ok (tab_keep hT.out K.out) G.out P.out (by omega) 0 j ((in0.out _).2 (by omega)) (f0.out _ (by omega)) (fun m hm _ => by rw [f1.out m (by omega) (by omega)]; decide)) ?_
      rintro r w3 ⟨rfl, P3, K4⟩
      have K5 := Lib.hid (SI.out.keep K.out K4)
      replace P3 := Lib.hid P3
      clear K4
      go_wp2_with fail
      go_roundw
      case rel =>
        refine ⟨j + 1, _, _, by go_num, by omega, fun x a b => ?_, fun x a => ?_, P3.out, R.out.upd _ 1 0 ((in0.out _).2 (by omega)) (by decide) (by decide), K5.out⟩
        · unfold updI; split
          · rfl
          · exact f1.out x a (by omega)
        · unfold updI; rw [if_neg (by omega)]; exact f0.out x (by omega)
      case measure => simp [intOf]; omega
    · have t5 : decide ((j : Int) < n) = false := by simp; omega
      obtain rfl : j = n := by omega
      have fk : f k = 1 := f1.out k (by omega) (by omega)
      go_wp2_with fail
      refine Calls.mono (free_any G.out R.out P.out (by omega) k (by unfold wfI; omega)) ?_
      obtain ⟨e1, e2⟩ := freE_yes G.out (f := f) ((in0.out k).2 (by omega)) (by rw [fk]; decide)
      rw [e1, e2, fk]
      rintro r w3 ⟨rfl, P3, K4⟩
      have R3 := Lib.hid (R.out.upd k (1 - 1) 0 ((in0.out _).2 (by omega)) (by decide) (by decide))
      have K5 := Lib.hid (SI.out.keep K.out K4)
      replace P3 := Lib.hid P3
      clear K4 e1 e2
      go_wp2_with fail
      refine Calls.mono (free_any G.out R3.out P3.out (by omega) ((j : Int) - 1) (by unfold wfI; omega)) ?_
      by_cases q : (k : Int) = (j : Int) - 1
      · have t6 : ((k : Int) != (j : Int) - 1) = false := by simp [q]
        obtain ⟨e1, e2⟩ := freE_no G.out (f := updI f k (1 - 1)) ((in0.out ((j : Int) - 1)).2 (by omega)) (by unfold updI; rw [if_pos q.symm]; rfl)
        rw [e1, e2]
        replace q := Lib.hid q
        rintro r w4 ⟨rfl, P4, K4⟩
        have K6 := Lib.hid (SI.out.keep K5.out K4)
        replace P4 := Lib.hid P4
        clear K4 e1 e2
        go_wp2_with fail
        refine Calls.mono (alloc_ok (tab_keep hT.out K6.out) G.out P4.out (by omega) 0 k ((in0.out _).2 (by omega)) (by unfold updI; rw [if_pos rfl]; rfl) (fun m hm _ => by unfold updI; rw [if_neg (by omega), f1.out m (by omega) (by omega)]; decide)) ?_
        rintro r w5 ⟨rfl, P5, K4⟩
        have K7 := Lib.hid (SI.out.keep K6.out K4)
        go_wp2_with fail
        refine Calls.mono (awake09 _ (tab_keep hT.out K7.out)) ?_
        rintro r w6 ⟨rfl, K8⟩
        go_wp2_with fail
        go_ret
        exact ⟨rfl, K7.out.trans K8 (fun _ _ x => x)⟩
      · have t6 : ((k : Int) != (j : Int) - 1) = true := by simp [q]
        have fn : f ((j : Int) - 1) = 1 := f1.out ((j : Int) - 1) (by omega) (by omega)
        obtain ⟨e1, e2⟩ := freE_yes G.out (f := updI f k (1 - 1)) (x := (j : Int) - 1) ((in0.out ((j : Int) - 1)).2 (by omega)) (by unfold updI; rw [if_neg (Ne.symm q), fn]; decide)
        rw [e1, e2]
        replace q := Lib.hid q
        rintro r w4 ⟨rfl, P4, K4⟩
        have K6 := Lib.hid (SI.out.keep K5.out K4)
        replace P4 := Lib.hid P4
        clear K4 e1 e2
        go_wp2_with fail
        refine Calls.mono (alloc_ok (tab_keep hT.out K6.out) G.out P4.out (by omega) 0 k ((in0.out _).2 (by omega)) (by have := q.out; unfold updI; rw [if_neg this, if_pos rfl]; rfl) (fun m hm _ => by have := q.out; unfold updI; rw [if_neg (by omega), if_neg (by omega), f1.out m (by omega) (by omega)]; decide)) ?_
        rintro r w5 ⟨rfl, P5, K4⟩
        have K7 := Lib.hid (SI.out.keep K6.out K4)
        go_wp2_with fail
        refine Calls.mono (awake09 _ (tab_keep hT.out K7.out)) ?_
        rintro r w6 ⟨rfl, K8⟩
        go_wp2_with fail
        go_ret
        exact ⟨rfl, K7.out.trans K8 (fun _ _ x => x)⟩
theorem walk_else (n k : Int) (h : ¬ (1 ≤ n ∧ n ≤ 30 ∧ 0 ≤ k ∧ k < n)) (w : World) (hT : TabAt 0 Lib.deBruijn64tab w) :
    Calls Tryd.prog 4 #[.int .i64 n, .int .i64 k] w fun e w' => e = .returned (.bool true) ∧ Keep nob w w' := by
  have T : (decide (n < 1) || decide (30 < n) || decide (k < 0) || decide (n ≤ k)) = true := by simp; omega
  rcases Bool.eq_false_or_eq_true (decide (n < 1)) with t1 | t1 <;> rcases Bool.eq_false_or_eq_true (decide (30 < n)) with t2 | t2 <;> rcases Bool.eq_false_or_eq_true (decide (k < 0)) with t3 | t3 <;> rcases Bool.eq_false_or_eq_true (decide (n ≤ k)) with t4 | t4 <;> simp only [t1, t2, t3, t4] at T <;> first | (exact absurd T (by decide)) | skip
  all_goals
    clear T h
    go_enter Tryd.func4, Tryd.ntmps4
    go_wp2_with fail
    refine Calls.mono (awake09 _ hT) ?_
    rintro r w5 ⟨rfl, K6⟩
    go_wp2_with fail
    go_ret
    exact ⟨rfl, K6⟩
theorem walk (n k : Int) (w : World) (w0 : (Lit.int .i64 n).wf = true) (w1 : (Lit.int .i64 k).wf = true) (hT : TabAt 0 Lib.deBruijn64tab w) :
    Calls Tryd.prog 4 #[.int .i64 n, .int .i64 k] w fun e w' => e = .returned (.bool true) ∧ Keep nob w w' := by
  by_cases h : 1 ≤ n ∧ n ≤ 30 ∧ 0 ≤ k ∧ k < n
  · obtain ⟨N, rfl⟩ : ∃ m : Nat, n = m := ⟨n.toNat, by omega⟩
    obtain ⟨J, rfl⟩ : ∃ m : Nat, k = m := ⟨k.toNat, by omega⟩
    exact walk_in N J (by omega) (by omega) (by omega) w hT
  · exact walk_else n k h w hT
set_option maxRecDepth 100000 in
theorem lifted (os : Os) (started : os.Started) (H : Type) (enc : TypeId × Value → H) :
    ReturnsInHanded {} Tryd.checked os 4 .any (fun w args => (Rows.pallocLeastSpec.pre enc Tryd.prog Tryd.f4 [] false w args ∧ laidMetH Tryd.prog Laid.list w) ∧ sizedMet enc Tryd.prog Tryd.f4 (OpenSpec.ofChange Rows.pallocLeastSpec) false w args) (Rows.pallocLeastSpec.post enc Tryd.prog Tryd.f4 false true false false) := by
  refine returnsInHanded_of_change_and (C := Tryd.checked) (X := fun w _ => laidMetH Tryd.prog Laid.list w) (fun _ _ _ hh h => h.of_heap hh) Head.own started (by kernel_rfl) Tryd.func4
    (ChangeSpec.witness_shaped (enc := enc) (C := Tryd.checked) (os := os) (X := fun w _ => laidMetH Tryd.prog Laid.list w) false (World.doorLaid Tryd.prog Laid.steps os) #[.int .i64 0, .int .i64 0] 8 rfl (World.shaped_of_RefB (by kernel_rfl) (by kernel_rfl)) (by kernel_rfl) (by kernel_rfl) (by kernel_rfl) (Laid.met os _)) ?_
  intro W base args ds gs before hval0 hW _ _ hL _
  have hval : ∀ (j : Nat) t v, Tryd.f4.params[j]? = some t → args[j]? = some v → Value.okWide Tryd.prog W .any base t v := hval0
  have hW' := hW
  obtain ⟨p, q, hA0, hV, rfl, hfz, hnd⟩ := hW
  have hA : DataW.TrodAll enc Tryd.prog W 0 (fun _ => true) true Tryd.f4.params.toList args.toList ds p := hA0
  rw [Tryd.params4] at hA hval
  obtain ⟨v0, vs0, d0, ds0, p0, q0, hargs, rfl, rfl, h0, r0⟩ := trodAll_cons hA
  obtain ⟨v1, vs1, d1, ds1, p1, q1, rfl, rfl, rfl, h1, r1⟩ := trodAll_cons r0
  obtain ⟨rfl, rfl, rfl⟩ := trodAll_nil r1
  obtain rfl : args = #[v0, v1] := by cases args; simp_all
  obtain ⟨rfl, rfl⟩ := trodVars_none hV
  have k0 := h0
  have lt0 : ∀ x ∈ p0, x.block < W.heap.size := by obtain ⟨m, hm⟩ := k0; exact DataW.trod_lt m _ _ _ hm
  obtain ⟨a0, rfl, rfl, rfl, w0⟩ := open_int Tryd.underlying3 (hval 0 3 v0 rfl rfl) h0
  have k1 := h1
  have lt1 : ∀ x ∈ p1, x.block < W.heap.size := by obtain ⟨m, hm⟩ := k1; exact DataW.trod_lt m _ _ _ hm
  obtain ⟨a1, rfl, rfl, rfl, w1⟩ := open_int Tryd.underlying3 (hval 1 3 v1 rfl rfl) h1
  clear hA0 hval0
  refine (walk a0 a1 W w0 w1 (Laid.tab hL)).mono fun e W' ⟨he, kp⟩ => ?_
  subst he
  have bel := kp.below
  exact ⟨_, rfl, _, _, _, [], _, [], hW', trodAll_mk1 (shut_bool Tryd.underlying4 _), (trodAll_cons_mk (shut_int Tryd.underlying3 w0) (trodAll_cons_mk (shut_int Tryd.underlying3 w1) trodAll_mk0)), rfl, bel.frame _, fun h => by cases h⟩
theorem closed : joinedFacts Tryd.prog 4 Tryd.f4 Rows.pallocLeastSpec Rows.pallocLeastRow = true := by
  unfold joinedFacts
  rw [Head.mayEnter, Head.liftsFinal, Head.make]
  kernel_rfl
theorem over : Rows.pallocLeastRow.holds Tryd.pinned (OpenSpec.ofChange Rows.pallocLeastSpec) :=
  OpenClaim.holds_of_wide 4 Tryd.f4 rfl rfl rfl rfl rfl rfl rfl ⟨rfl, rfl, rfl, rfl, rfl⟩ rfl rfl rfl rfl rfl (by kernel_rfl) Tryd.func4 closed
    (of_decide_eq_true (by kernel_rfl)) (by unfold Func.isWrapper; first | (rw [if_pos (by decide +kernel)]; kernel_rfl) | (rw [if_neg (by decide +kernel)]; exact ⟨rfl, rfl⟩))
    (fun os started H enc _ => lifted os started H enc)
theorem row : Rows.PallocLeastSaid := over
theorem proved : Rows.PallocLeastCardSaid :=
  Claim7.holds_tied_plain_at .later [] [.data] true (true, "6f766e467f1f76f857c29113ad61a388d69ae06b2677fa7c12f1fa228f819649") false
    row (fun _ h => by cases h) (by kernel_rfl) (fun _ h => by cases h) pallocLeast_row_tie rfl ⟨rfl, rfl⟩ (by kernel_rfl) rfl
    (fun f fn hf hfn => by
      obtain rfl : f = 4 := Option.some.inj ((show Tryd.prog.funcNamed "priory/priorylaw09.PallocLeast" = some 4 by kernel_rfl).symm.trans hf) |>.symm
      obtain rfl : fn = Tryd.f4 := (Option.some.inj (Tryd.func4.symm.trans hfn)).symm
      exact ⟨by kernel_rfl, fun j t ht => by
        have hall : (Tryd.f4.params.toList.all fun u => !Tryd.prog.wantsStandIn u) = true := by kernel_rfl
        have hm : t ∈ Tryd.f4.params.toList := Array.mem_toList_iff.2 (Array.mem_of_getElem? ht)
        exact (show Tryd.prog.wantsStandIn t = false by simpa using List.all_eq_true.1 hall t hm)⟩)
    (by kernel_rfl)
end Go.Proofs.YtepmljcapobodaaDoor.pallocLeast
