/- A pool that is not there, or that nobody made, answers ErrNil, and tells nothing, and without a memory there is none. Condition: none beyond the statement's own. -/
import Derived.Test.YtepmljcapobodaaDoorPalNone
import Derived.Test.YtepmljcapobodaaDoorHead
import Derived.Test.YtepmljcapobodaaDoorLaid
import Derived.Test.YtepmljcapobodaaDoorCards
import Derived.Test.YtepmljcapobodaaDoorTie
namespace Go.Proofs.YtepmljcapobodaaDoor.pallocNone
open Go.ChangeShapes Go.WideShapes Go.ChangeAt Go.RowKit
set_option linter.unusedVariables false
set_option maxRecDepth 100000
def Inv (w : World) (o : Nat) (p i : Value) (wr : World) : Prop :=
  ∃ k : Int, i = .int .i64 k ∧ 0 ≤ k ∧ k ≤ 2 ∧ (k < 2 → p = .pointer none) ∧ wr.cell? ⟨o, 0, none⟩ = some (.pointer none) ∧ Keep nob w wr
set_option maxHeartbeats 1600000 in
theorem walk_in (x : Int) (a : Option Addr) (len cap : Nat) (hl : len ≤ 100) (w : World) (hT : TabAt 0 Lib.deBruijn64tab w) :
    Calls Tryd.prog 5 #[.int .i64 x, .slice a len cap] w fun e w' => e = .returned (.bool true) ∧ Keep nob w w' := by
  have t1 : decide ((100 : Int) < len) = false := by simp; omega
  clear hl
  replace hT := Lib.hid hT
  go_enter Tryd.func5, Tryd.ntmps5
  go_wp2_with fail
  refine Calls.mono (pool_nil w _) ?_
  rintro r w1 ⟨rfl, rfl⟩
  go_wp2_with fail
  go_loopw [7, 9] (fun p i wr => Inv w w.heap.size p i wr) (fun _ i _ => (2 - intOf i).toNat)
  case atStart => exact ⟨0, rfl, by decide, by decide, fun _ => rfl, by go_simp, (Keep.refl _ _).alloc _⟩
  case round =>
    obtain ⟨k, rfl, hk0, hk2, hm, hc, A⟩ := hrel
    obtain rfl | rfl | rfl : k = 0 ∨ k = 1 ∨ k = 2 := by omega
    · have hm := hm (by decide)
      subst hm
      have N := Lib.hid (show NoPool wr (.pointer none) from Or.inl rfl)
      replace hc := Lib.hid hc
      replace A := Lib.hid A
      go_wp2_with fail
      refine Calls.mono (alloc_none N.out _) ?_
      rintro r w1 ⟨rfl, rfl⟩
      go_wp2_with fail
      refine Calls.mono (owner_none N.out _) ?_
      rintro r w1 ⟨rfl, rfl⟩
      go_wp2_with fail
      refine Calls.mono (share_none N.out _) ?_
      rintro r w1 ⟨rfl, rfl⟩
      go_wp2_with fail
      refine Calls.mono (free_none N.out _) ?_
      rintro r w1 ⟨rfl, rfl⟩
      go_wp2_with fail
      refine Calls.mono (refs_none N.out _) ?_
      rintro r w1 ⟨rfl, rfl⟩
      go_wp2_with fail
      refine Calls.mono (left_none N.out _) ?_
      rintro r w1 ⟨rfl, rfl⟩
      go_wp2_with fail
      go_roundw
      case rel => exact ⟨1, rfl, by decide, by decide, fun _ => rfl, hc.out, A.out⟩
      case measure => simp [intOf]
    · have hm := hm (by decide)
      subst hm
      have N := Lib.hid (show NoPool wr (.pointer (some ⟨w.heap.size, 0, none⟩)) from Or.inr ⟨_, rfl, hc⟩)
      replace hc := Lib.hid hc
      replace A := Lib.hid A
      go_wp2_with fail
      refine Calls.mono (alloc_none N.out _) ?_
      rintro r w1 ⟨rfl, rfl⟩
      go_wp2_with fail
      refine Calls.mono (owner_none N.out _) ?_
      rintro r w1 ⟨rfl, rfl⟩
      go_wp2_with fail
      refine Calls.mono (share_none N.out _) ?_
      rintro r w1 ⟨rfl, rfl⟩
      go_wp2_with fail
      refine Calls.mono (free_none N.out _) ?_
      rintro r w1 ⟨rfl, rfl⟩
      go_wp2_with fail
      refine Calls.mono (refs_none N.out _) ?_
      rintro r w1 ⟨rfl, rfl⟩
      go_wp2_with fail
      refine Calls.mono (left_none N.out _) ?_
      rintro r w1 ⟨rfl, rfl⟩
      go_wp2_with fail
      go_roundw
      case rel => exact ⟨2, rfl, by decide, by decide, fun h => absurd h (by decide), hc.out, A.out⟩
      case measure => simp [intOf]
    · replace A := Lib.hid A
      go_wp2_with fail
      refine Calls.mono (awake09 _ (tab_keep hT.out A.out)) ?_
      rintro r w5 ⟨rfl, K6⟩
      go_wp2_with fail
      go_ret
      exact ⟨rfl, A.out.trans K6 (fun _ _ x => x)⟩
theorem walk_else (x : Int) (a : Option Addr) (len cap : Nat) (hl : 100 < len) (w : World) (hT : TabAt 0 Lib.deBruijn64tab w) :
    Calls Tryd.prog 5 #[.int .i64 x, .slice a len cap] w fun e w' => e = .returned (.bool true) ∧ Keep nob w w' := by
  have t1 : decide ((100 : Int) < len) = true := by simp; omega
  clear hl
  replace hT := Lib.hid hT
  go_enter Tryd.func5, Tryd.ntmps5
  go_wp2_with fail
  refine Calls.mono (awake09 _ hT.out) ?_
  rintro r w5 ⟨rfl, K6⟩
  go_wp2_with fail
  go_ret
  exact ⟨rfl, K6⟩
theorem walk (x : Int) (v : Value) (l : List (Int × Int)) (w : World) (w0 : (Lit.int .i64 x).wf = true) (w1 : PairsAt w v l ∧ ∀ o ∈ l, pairFine o) (hT : TabAt 0 Lib.deBruijn64tab w) :
    Calls Tryd.prog 5 #[.int .i64 x, v] w fun e w' => e = .returned (.bool true) ∧ Keep nob w w' := by
  obtain ⟨⟨a, cap, rfl, hm, hcap, hc⟩, hf⟩ := w1
  by_cases h : 100 < l.length
  · exact walk_else x a _ cap h w hT
  · exact walk_in x a _ cap (by omega) w hT
set_option maxRecDepth 100000 in
theorem lifted (os : Os) (started : os.Started) (H : Type) (enc : TypeId × Value → H) :
    ReturnsInHanded {} Tryd.checked os 5 .any (fun w args => (Rows.pallocNoneSpec.pre enc Tryd.prog Tryd.f5 [] false w args ∧ laidMetH Tryd.prog Laid.list w) ∧ sizedMet enc Tryd.prog Tryd.f5 (OpenSpec.ofChange Rows.pallocNoneSpec) false w args) (Rows.pallocNoneSpec.post enc Tryd.prog Tryd.f5 false true false false) := by
  refine returnsInHanded_of_change_and (C := Tryd.checked) (X := fun w _ => laidMetH Tryd.prog Laid.list w) (fun _ _ _ hh h => h.of_heap hh) Head.own started (by kernel_rfl) Tryd.func5
    (ChangeSpec.witness_shaped (enc := enc) (C := Tryd.checked) (os := os) (X := fun w _ => laidMetH Tryd.prog Laid.list w) false (World.doorLaid Tryd.prog Laid.steps os) #[.int .i64 0, .slice none 0 0] 8 rfl (World.shaped_of_RefB (by kernel_rfl) (by kernel_rfl)) (by kernel_rfl) (by kernel_rfl) (by kernel_rfl) (Laid.met os _)) ?_
  intro W base args ds gs before hval0 hW _ _ hL _
  have hval : ∀ (j : Nat) t v, Tryd.f5.params[j]? = some t → args[j]? = some v → Value.okWide Tryd.prog W .any base t v := hval0
  have hW' := hW
  obtain ⟨p, q, hA0, hV, rfl, hfz, hnd⟩ := hW
  have hA : DataW.TrodAll enc Tryd.prog W 0 (fun _ => true) true Tryd.f5.params.toList args.toList ds p := hA0
  rw [Tryd.params5] at hA hval
  obtain ⟨v0, vs0, d0, ds0, p0, q0, hargs, rfl, rfl, h0, r0⟩ := trodAll_cons hA
  obtain ⟨v1, vs1, d1, ds1, p1, q1, rfl, rfl, rfl, h1, r1⟩ := trodAll_cons r0
  obtain ⟨rfl, rfl, rfl⟩ := trodAll_nil r1
  obtain rfl : args = #[v0, v1] := by cases args; simp_all
  obtain ⟨rfl, rfl⟩ := trodVars_none hV
  have k0 := h0
  have lt0 : ∀ x ∈ p0, x.block < W.heap.size := by obtain ⟨m, hm⟩ := k0; exact DataW.trod_lt m _ _ _ hm
  obtain ⟨a0, rfl, rfl, rfl, w0⟩ := open_int Tryd.underlying3 (hval 0 3 v0 rfl rfl) h0
  have k1 := h1
  have lt1 : ∀ x ∈ p1, x.block < W.heap.size := by obtain ⟨m, hm⟩ := k1; exact DataW.trod_lt m _ _ _ hm
  obtain ⟨a1, w1⟩ := open_ranges (hval 1 32 v1 rfl rfl) h1
  clear hA0 hval0
  refine (walk a0 v1 a1 W w0 w1 (Laid.tab hL)).mono fun e W' ⟨he, kp⟩ => ?_
  subst he
  have bel := kp.below
  exact ⟨_, rfl, _, _, _, [], _, [], hW', trodAll_mk1 (shut_bool Tryd.underlying4 _), (trodAll_cons_mk (shut_int Tryd.underlying3 w0) (trodAll_cons_mk (Below.trod Head.laidOut (by kernel_rfl) (of_decide_eq_true (by kernel_rfl)) k1 bel lt1) trodAll_mk0)), rfl, bel.frame _, fun h => by cases h⟩
theorem closed : joinedFacts Tryd.prog 5 Tryd.f5 Rows.pallocNoneSpec Rows.pallocNoneRow = true := by
  unfold joinedFacts
  rw [Head.mayEnter, Head.liftsFinal, Head.make]
  kernel_rfl
theorem over : Rows.pallocNoneRow.holds Tryd.pinned (OpenSpec.ofChange Rows.pallocNoneSpec) :=
  OpenClaim.holds_of_wide 5 Tryd.f5 rfl rfl rfl rfl rfl rfl rfl ⟨rfl, rfl, rfl, rfl, rfl⟩ rfl rfl rfl rfl rfl (by kernel_rfl) Tryd.func5 closed
    (of_decide_eq_true (by kernel_rfl)) (by unfold Func.isWrapper; first | (rw [if_pos (by decide +kernel)]; kernel_rfl) | (rw [if_neg (by decide +kernel)]; exact ⟨rfl, rfl⟩))
    (fun os started H enc _ => lifted os started H enc)
theorem row : Rows.PallocNoneSaid := over
theorem proved : Rows.PallocNoneCardSaid :=
  Claim7.holds_tied_plain_at .later [] [.data] true (true, "6f766e467f1f76f857c29113ad61a388d69ae06b2677fa7c12f1fa228f819649") false
    row (fun _ h => by cases h) (by kernel_rfl) (fun _ h => by cases h) pallocNone_row_tie rfl ⟨rfl, rfl⟩ (by kernel_rfl) rfl
    (fun f fn hf hfn => by
      obtain rfl : f = 5 := Option.some.inj ((show Tryd.prog.funcNamed "priory/priorylaw09.PallocNone" = some 5 by kernel_rfl).symm.trans hf) |>.symm
      obtain rfl : fn = Tryd.f5 := (Option.some.inj (Tryd.func5.symm.trans hfn)).symm
      exact ⟨by kernel_rfl, fun j t ht => by
        have hall : (Tryd.f5.params.toList.all fun u => !Tryd.prog.wantsStandIn u) = true := by kernel_rfl
        have hm : t ∈ Tryd.f5.params.toList := Array.mem_toList_iff.2 (Array.mem_of_getElem? ht)
        exact (show Tryd.prog.wantsStandIn t = false by simpa using List.all_eq_true.1 hall t hm)⟩)
    (by kernel_rfl)
end Go.Proofs.YtepmljcapobodaaDoor.pallocNone
