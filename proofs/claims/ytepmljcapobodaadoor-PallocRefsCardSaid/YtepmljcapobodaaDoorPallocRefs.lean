/- A frame that is shared so often is free behind as many frees and one more. -/
import Derived.Test.YtepmljcapobodaaDoorPalAwake
import Derived.Test.YtepmljcapobodaaDoorHead
import Derived.Test.YtepmljcapobodaaDoorLaid
import Derived.Test.YtepmljcapobodaaDoorCards
import Derived.Test.YtepmljcapobodaaDoorTie
namespace Go.Proofs.YtepmljcapobodaaDoor.pallocRefs
open Go.ChangeShapes Go.WideShapes Go.ChangeAt Go.RowKit
set_option linter.unusedVariables false
set_option maxRecDepth 100000
theorem freE_ok {B : PB} (G : Geo B) {f : Int → Int} {x : Int} {j : Nat} (h : B.inr j x) (h0 : f x ≠ 0) : freE B f x = 0 ∧ freF B f x = updI f x (f x - 1) := by
  have e : freE B f x = 0 := by unfold freE; rw [ownE_in G h]; simp [h0]
  exact ⟨e, by unfold freF; rw [if_pos e]⟩
def Inv1 (w : World) (B : PB) (n : Int) (h i : Value) (wr : World) : Prop := ∃ (k : Nat) (v : Int) (c : Nat → Int) (f : Int → Int) (q : Nat), i = .int .i64 k ∧ (k : Int) ≤ n ∧ h = .int .i64 v ∧ 1 ≤ v ∧ v ≤ 64 ∧ f 0 = v ∧ PoolAt wr B c f q ∧ RefsOk B f ∧ q ≤ 1 + k ∧ Keep nob w wr
def Inv2 (w : World) (B : PB) (v : Int) (i : Value) (wr : World) : Prop := ∃ (k : Nat) (c : Nat → Int) (f : Int → Int) (q : Nat), i = .int .i64 k ∧ (k : Int) ≤ v ∧ f 0 = v - k ∧ PoolAt wr B c f q ∧ RefsOk B f ∧ q ≤ 100 + k ∧ Keep nob w wr
set_option maxHeartbeats 1600000 in
theorem walk_in (n : Int) (h0 : 0 ≤ n) (h1 : n ≤ 70) (w : World) (hT : TabAt 0 Lib.deBruijn64tab w) :
    Calls Tryd.prog 3 #[.int .i64 n] w fun e w' => e = .returned (.bool true) ∧ Keep nob w w' := by
  have t1 : decide (n < 0) = false := by simpa using h0
  have t2 : decide (70 < n) = false := by simpa using h1
  replace hT := Lib.hid hT
  go_enter Tryd.func3, Tryd.ntmps3
  go_wp2_with fail
  refine Calls.mono (new_in w 1 (by decide) (by decide)) ?_
  rintro r w1 ⟨rfl, M, K⟩
  replace M := Lib.hid M
  replace K := Lib.hid K
  go_wp2_with fail
  have R : RangesAt (w1.alloc (.cells #[.int .i64 0, .int .i64 1] 31)) ⟨w1.heap.size, 0, none⟩ [(0, 1)] := by
    refine ⟨fun j hj => ?_, fun j hj => ?_, fun j => ?_, rfl⟩
    · obtain rfl : j = 0 := by have hj : j < 1 := hj; omega
      exact new_at _ _ _ 0 _ rfl
    · obtain rfl : j = 0 := by have hj : j < 1 := hj; omega
      exact new_at _ _ _ 1 _ rfl
    · rcases j with _ | j
      · exact ⟨by unfold wfI; simp, by unfold wfI; simp⟩
      · exact ⟨by unfold wfI; simp, by unfold wfI; simp⟩
  refine Calls.mono (pool_new (M.out.next ((Keep.refl _ _).alloc _)) _ 1 [(0, 1)] R (by decide) (by decide) (by decide)) ?_
  rintro r w2 (⟨V, -⟩ | ⟨V, B, rfl, G, hb, hmf, hn, hl, hlo, hhi, P, K2⟩)
  · exfalso
    apply V
    refine ⟨by decide, by decide, fun k hk => ?_⟩
    obtain rfl : k = 0 := by have hk : k < 1 := hk; omega
    exact ⟨by unfold fits; decide, fun i hi => absurd hi (Nat.not_lt_zero i)⟩
  have in0 : ∀ x : Int, B.inr 0 x ↔ x = 0 := fun x => by
    unfold PB.inr PB.fr PB.mn
    rw [hl]
    show (0 < 1 ∧ ((0 : Nat) : Int) ≤ x ∧ x < ((0 : Nat) : Int) + ((1 : Nat) : Int)) ↔ _
    omega
  have ln : B.l.length = 1 := by rw [hl]; rfl
  have K3 := K.out.trans (((Keep.refl nob _).alloc _).trans K2 (fun _ _ x => x)) (fun _ _ x => x)
  have SI : Since w B := ⟨by omega, by
    have := K.out.size
    have e : (w1.alloc (.cells #[.int .i64 0, .int .i64 1] 31)).heap.size = w1.heap.size + 1 := World.size_alloc _ _
    omega⟩
  replace G := Lib.hid G
  replace P := Lib.hid P
  replace K3 := Lib.hid K3
  replace SI := Lib.hid SI
  replace in0 := Lib.hid in0
  have w0' : wfI 0 := by unfold wfI; omega
  clear K2 M K V R hb hmf hn hl hlo hhi
  go_wp2_with fail
  refine Calls.mono (alloc_ok (tab_keep hT.out K3.out) G.out P.out (by omega) 0 0 ((in0.out _).2 rfl) rfl (fun m hm => absurd hm (Nat.not_lt_zero m))) ?_
  rintro r w3 ⟨rfl, P3, K4⟩
  have K5 := Lib.hid (SI.out.keep K3.out K4)
  replace P3 := Lib.hid P3
  clear P K3 K4
  go_wp2_with fail
  go_loopw [9, 10] (fun h i wr => Inv1 w B n h i wr) (fun _ i _ => (n - intOf i).toNat)
  case atStart => exact ⟨0, 1, _, _, _, rfl, by simpa using h0, rfl, by decide, by decide, by decide, P3.out, (RefsOk.zero B).upd _ 1 0 ((in0.out _).2 rfl) (by decide) (by decide), by omega, K5.out⟩
  case round =>
    clear P3 K5
    obtain ⟨k, v, c, f, q, rfl, hk, rfl, hv1, hv2, hf, P, R, hq, K⟩ := hrel
    replace P := Lib.hid P
    replace K := Lib.hid K
    replace R := Lib.hid R
    by_cases hlt : (k : Int) < n
    · have t3 : decide ((k : Int) < n) = true := by simpa using hlt
      by_cases hm : v = 64
      · have t4 : decide (v < 64) = false := by simp; omega
        replace hm := Lib.hid hm
        go_wp2_with fail
        refine Calls.mono (share_full G.out P.out 0 w0' 0 ((in0.out _).2 rfl) (by rw [hf, hm.out])) ?_
        rintro r w4 ⟨rfl, K4⟩
        have P4 := Lib.hid (P.out.next G.out K4)
        have K5 := Lib.hid (K.out.trans K4 (fun _ _ x => x))
        go_wp2_with fail
        go_roundw
        case rel => exact ⟨k + 1, v, c, f, q, by go_num, by omega, rfl, hv1, hv2, hf, P4.out, R.out, by omega, K5.out⟩
        case measure => simp [intOf]; omega
      · have t4 : decide (v < 64) = true := by simp; omega
        go_wp2_with fail
        refine Calls.mono (share_ok G.out R.out P.out (by omega) 0 w0' 0 ((in0.out _).2 rfl) (by rw [hf]; omega) (by rw [hf]; exact hm)) ?_
        rintro r w4 ⟨rfl, P4, K4⟩
        have K5 := Lib.hid (SI.out.keep K.out K4)
        replace P4 := Lib.hid P4
        go_wp2_with fail
        go_roundw
        case rel => exact ⟨k + 1, v + 1, c, _, q + 1, by go_num, by omega, by go_num, by omega, by omega, by unfold updI; rw [if_pos rfl, hf], P4.out, R.out.upd 0 _ 0 ((in0.out _).2 rfl) (by omega) (by omega), by omega, K5.out⟩
        case measure => simp [intOf]; omega
    · have t3 : decide ((k : Int) < n) = false := by simpa using hlt
      go_wp2_with fail
      go_loopw [12] (fun i wr => Inv2 w B v i wr) (fun i _ => (v - intOf i).toNat)
      case atStart => exact ⟨0, c, f, q, rfl, by omega, by rw [hf]; simp, P.out, R.out, by omega, K.out⟩
      case round =>
        clear P K R hf hq
        obtain ⟨j, c, f, q, rfl, hj, hf, P, R, hq, K⟩ := hrel
        replace P := Lib.hid P
        replace K := Lib.hid K
        replace R := Lib.hid R
        by_cases hlt2 : (j : Int) < v
        · have t4 : decide ((j : Int) < v) = true := by simpa using hlt2
          have hne : f 0 ≠ 0 := by rw [hf]; omega
          go_wp2_with fail
          refine Calls.mono (alloc_full (tab_keep hT.out K.out) G.out P.out 0 (by omega) (fun x hx => by rw [(in0.out x).1 hx]; exact hne)) ?_
          rintro r w4 ⟨rfl, K4⟩
          have P4 := Lib.hid (P.out.next G.out K4)
          have K5 := Lib.hid (K.out.trans K4 (fun _ _ x => x))
          clear K4
          go_wp2_with fail
          refine Calls.mono (refs_ok P4.out 0 w0') ?_
          rintro r w5 ⟨rfl, rfl⟩
          rw [hf]
          go_wp2_with fail
          refine Calls.mono (free_any G.out R.out P4.out (by omega) 0 w0') ?_
          obtain ⟨e1, e2⟩ := freE_ok G.out (f := f) ((in0.out 0).2 rfl) hne
          rw [e1, e2, hf]
          rintro r w6 ⟨rfl, P6, K6⟩
          have K7 := Lib.hid (SI.out.keep K5.out K6)
          replace P6 := Lib.hid P6
          go_wp2_with fail
          go_roundw
          case rel => exact ⟨j + 1, c, _, q + 1, by go_num, by omega, by unfold updI; rw [if_pos rfl]; omega, P6.out, R.out.upd 0 _ 0 ((in0.out _).2 rfl) (by omega) (by omega), by omega, K7.out⟩
          case measure => simp [intOf]; omega
        · have t4 : decide ((j : Int) < v) = false := by simpa using hlt2
          go_wp2_with fail
          refine Calls.mono (alloc_ok (tab_keep hT.out K.out) G.out P.out (by omega) 0 0 ((in0.out _).2 rfl) (by show f 0 = 0; omega) (fun m hm => absurd hm (Nat.not_lt_zero m))) ?_
          rintro r w4 ⟨rfl, P4, K4⟩
          have K5 := Lib.hid (SI.out.keep K.out K4)
          go_wp2_with fail
          refine Calls.mono (awake09 _ (tab_keep hT.out K5.out)) ?_
          rintro r w5 ⟨rfl, K6⟩
          go_wp2_with fail
          go_ret
          exact ⟨rfl, K5.out.trans K6 (fun _ _ x => x)⟩
theorem walk_else (n : Int) (h : ¬ (0 ≤ n ∧ n ≤ 70)) (w : World) (hT : TabAt 0 Lib.deBruijn64tab w) :
    Calls Tryd.prog 3 #[.int .i64 n] w fun e w' => e = .returned (.bool true) ∧ Keep nob w w' := by
  have T : (decide (n < 0) || decide (70 < n)) = true := by simp; omega
  rcases Bool.eq_false_or_eq_true (decide (n < 0)) with t1 | t1 <;> rcases Bool.eq_false_or_eq_true (decide (70 < n)) with t2 | t2 <;> simp only [t1, t2] at T <;> first | (exact absurd T (by decide)) | skip
  all_goals
    clear T h
    go_enter Tryd.func3, Tryd.ntmps3
    go_wp2_with fail
    refine Calls.mono (awake09 _ hT) ?_
    rintro r w5 ⟨rfl, K6⟩
    go_wp2_with fail
    go_ret
    exact ⟨rfl, K6⟩
theorem walk (n : Int) (w : World) (w0 : (Lit.int .i64 n).wf = true) (hT : TabAt 0 Lib.deBruijn64tab w) :
    Calls Tryd.prog 3 #[.int .i64 n] w fun e w' => e = .returned (.bool true) ∧ Keep nob w w' := by
  by_cases h : 0 ≤ n ∧ n ≤ 70
  · exact walk_in n h.1 h.2 w hT
  · exact walk_else n h w hT
set_option maxRecDepth 100000 in
theorem lifted (os : Os) (started : os.Started) (H : Type) (enc : TypeId × Value → H) :
    ReturnsInHanded {} Tryd.checked os 3 .any (fun w args => (Rows.pallocRefsSpec.pre enc Tryd.prog Tryd.f3 [] false w args ∧ laidMetH Tryd.prog Laid.list w) ∧ sizedMet enc Tryd.prog Tryd.f3 (OpenSpec.ofChange Rows.pallocRefsSpec) false w args) (Rows.pallocRefsSpec.post enc Tryd.prog Tryd.f3 false true false false) := by
  refine returnsInHanded_of_change_and (C := Tryd.checked) (X := fun w _ => laidMetH Tryd.prog Laid.list w) (fun _ _ _ hh h => h.of_heap hh) Head.own started (by kernel_rfl) Tryd.func3
    (ChangeSpec.witness_shaped (enc := enc) (C := Tryd.checked) (os := os) (X := fun w _ => laidMetH Tryd.prog Laid.list w) false (World.doorLaid Tryd.prog Laid.steps os) #[.int .i64 0] 8 rfl (World.shaped_of_RefB (by kernel_rfl) (by kernel_rfl)) (by kernel_rfl) (by kernel_rfl) (by kernel_rfl) (Laid.met os _)) ?_
  intro W base args ds gs before hval0 hW _ _ hL _
  have hval : ∀ (j : Nat) t v, Tryd.f3.params[j]? = some t → args[j]? = some v → Value.okWide Tryd.prog W .any base t v := hval0
  have hW' := hW
  obtain ⟨p, q, hA0, hV, rfl, hfz, hnd⟩ := hW
  have hA : DataW.TrodAll enc Tryd.prog W 0 (fun _ => true) true Tryd.f3.params.toList args.toList ds p := hA0
  rw [Tryd.params3] at hA hval
  obtain ⟨v0, vs0, d0, ds0, p0, q0, hargs, rfl, rfl, h0, r0⟩ := trodAll_cons hA
  obtain ⟨rfl, rfl, rfl⟩ := trodAll_nil r0
  obtain rfl : args = #[v0] := by cases args; simp_all
  obtain ⟨rfl, rfl⟩ := trodVars_none hV
  have k0 := h0
  have lt0 : ∀ x ∈ p0, x.block < W.heap.size := by obtain ⟨m, hm⟩ := k0; exact DataW.trod_lt m _ _ _ hm
  obtain ⟨a0, rfl, rfl, rfl, w0⟩ := open_int Tryd.underlying3 (hval 0 3 v0 rfl rfl) h0
  clear hA0 hval0
  refine (walk a0 W w0 (Laid.tab hL)).mono fun e W' ⟨he, kp⟩ => ?_
  subst he
  have bel := kp.below
  exact ⟨_, rfl, _, _, _, [], _, [], hW', trodAll_mk1 (shut_bool Tryd.underlying4 _), (trodAll_cons_mk (shut_int Tryd.underlying3 w0) trodAll_mk0), rfl, bel.frame _, fun h => by cases h⟩
theorem closed : joinedFacts Tryd.prog 3 Tryd.f3 Rows.pallocRefsSpec Rows.pallocRefsRow = true := by
  unfold joinedFacts
  rw [Head.mayEnter, Head.liftsFinal, Head.make]
  kernel_rfl
theorem over : Rows.pallocRefsRow.holds Tryd.pinned (OpenSpec.ofChange Rows.pallocRefsSpec) :=
  OpenClaim.holds_of_wide 3 Tryd.f3 rfl rfl rfl rfl rfl rfl rfl ⟨rfl, rfl, rfl, rfl, rfl⟩ rfl rfl rfl rfl rfl (by kernel_rfl) Tryd.func3 closed
    (of_decide_eq_true (by kernel_rfl)) (by unfold Func.isWrapper; first | (rw [if_pos (by decide +kernel)]; kernel_rfl) | (rw [if_neg (by decide +kernel)]; exact ⟨rfl, rfl⟩))
    (fun os started H enc _ => lifted os started H enc)
theorem row : Rows.PallocRefsSaid := over
theorem proved : Rows.PallocRefsCardSaid :=
  Claim7.holds_tied_plain_at .later [] [.data] true (true, "6f766e467f1f76f857c29113ad61a388d69ae06b2677fa7c12f1fa228f819649") false
    row (fun _ h => by cases h) (by kernel_rfl) (fun _ h => by cases h) pallocRefs_row_tie rfl ⟨rfl, rfl⟩ (by kernel_rfl) rfl
    (fun f fn hf hfn => by
      obtain rfl : f = 3 := Option.some.inj ((show Tryd.prog.funcNamed "priory/priorylaw09.PallocRefs" = some 3 by kernel_rfl).symm.trans hf) |>.symm
      obtain rfl : fn = Tryd.f3 := (Option.some.inj (Tryd.func3.symm.trans hfn)).symm
      exact ⟨by kernel_rfl, fun j t ht => by
        have hall : (Tryd.f3.params.toList.all fun u => !Tryd.prog.wantsStandIn u) = true := by kernel_rfl
        have hm : t ∈ Tryd.f3.params.toList := Array.mem_toList_iff.2 (Array.mem_of_getElem? ht)
        exact (show Tryd.prog.wantsStandIn t = false by simpa using List.all_eq_true.1 hall t hm)⟩)
    (by kernel_rfl)
end Go.Proofs.YtepmljcapobodaaDoor.pallocRefs
