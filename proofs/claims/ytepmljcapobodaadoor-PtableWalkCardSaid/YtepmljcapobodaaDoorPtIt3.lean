/- Of package ptable: Tables. -/
import Derived.Test.YtepmljcapobodaaDoorPtIt2
namespace Go.Proofs.YtepmljcapobodaaDoor
open Go.RowKit Go.Shelf
set_option linter.unusedVariables false
set_option maxRecDepth 100000
attribute [local go_sem] Oper.semAt_some
theorem KeepW.box {W : World} {b : Nat} {T : TypeId} {v : Value} (h : Boxed W b T v) (hT : T ≠ 66) (u : Value) : KeepW W (W.setCell ⟨b, 0, none⟩ u) := fun k cur fr e => by
  have hne : k ≠ b := by
    rintro rfl
    rw [show W.heap[k]? = _ from h] at e
    injection e with e
    injection e with _ e _
    exact hT e
  have K : Keep (only b) W (W.setCell ⟨b, 0, none⟩ u) := (Keep.refl _ _).store _ _
  exact (K.block k (Array.getElem?_eq_some_iff.1 e).1 (fun x => hne x)).trans e
/-- The roots are frames of the memory. -/
def RootsIn (n : Nat) (g : Int → Int) : Prop := ∀ r, g r ≠ 0 → 0 ≤ r ∧ r < n
def tabN (c : Nat → Int) (g : Int → Int) (root : Int) : Int := if g root = 0 then 0 else (1 + (presL (words c root.toNat) 32).length : Nat)
set_option maxHeartbeats 3200000 in
theorem tables_in {w : World} {A : MB} {B : PB} {c : Nat → Int} {f g : Int → Int} {q : Nat} (G : Geo B) (X : PtAt w A B c f g q) (root : Nat) (hr : root < B.n) (hg : g root ≠ 0) :
    CallsIn Fence.wide 3 Tryd.prog 37 #[.pointer (some ⟨A.t, 0, none⟩), .int .i64 root] w fun r w' => r = .returned (.int .i64 (1 + (presL (words c root) 32).length : Nat)) ∧ Below w.heap.size w w' := by
  have h1 : 1 ≤ 3 := by omega
  have hn := G.n
  have C := asked_ok' X.M root 0 true (by unfold wfI; omega)
  have e : askE g root 0 true = 0 := by unfold askE; rw [if_pos ⟨by omega, by omega, rfl⟩, if_neg hg]
  rw [e] at C
  replace C := Lib.hid C
  replace e := Lib.hid e
  replace hg := Lib.hid hg
  refine callsIn_of_wp_marks Tryd.func37 rfl trivial ?_ rfl
  simp only [Tryd.ntmps37, List.size_toArray, List.length_cons, List.length_nil, Nat.reduceAdd, Nat.reduceSub, Array.replicate_succ, Array.replicate_zero, List.push_toArray, List.append_toArray, List.nil_append, List.cons_append]
  gi_wp2_with (fail)
  refine ⟨trivial, (callsIn_wide.2 C.out).mono ?_⟩
  rintro r w1 ⟨rfl, rfl⟩
  gi_wp2_with (fail)
  refine ⟨trivial, (callsIn_wide.2 (entries_ok A.t root _)).mono ?_⟩
  rintro r w1 ⟨rfl, rfl⟩
  gi_wp2_with (fail)
  have bR := ((Boxed.new w 3 (.int .i64 1)).alloc (.cells #[.pointer (some ⟨A.t, 0, none⟩)] 70)).alloc (.cells #[.int .i64 root] 3)
  have bA := (Boxed.new (w.alloc (.cells #[.int .i64 1] 3)) 70 (.pointer (some ⟨A.t, 0, none⟩))).alloc (.cells #[.int .i64 root] 3)
  have bI := Boxed.new ((w.alloc (.cells #[.int .i64 1] 3)).alloc (.cells #[.pointer (some ⟨A.t, 0, none⟩)] 70)) 3 (.int .i64 root)
  simp only [World.size_alloc] at bA bI
  have K0 : Keep nob w (((w.alloc (.cells #[.int .i64 1] 3)).alloc (.cells #[.pointer (some ⟨A.t, 0, none⟩)] 70)).alloc (.cells #[.int .i64 root] 3)) := (((Keep.refl nob w).alloc _).alloc _).alloc _
  have hB0 := K0.below
  have hsz : (((w.alloc (.cells #[.int .i64 1] 3)).alloc (.cells #[.pointer (some ⟨A.t, 0, none⟩)] 70)).alloc (.cells #[.int .i64 root] 3)).heap.size = w.heap.size + 3 := by simp
  obtain ⟨W0, hW0⟩ : ∃ W0, ((w.alloc (.cells #[.int .i64 1] 3)).alloc (.cells #[.pointer (some ⟨A.t, 0, none⟩)] 70)).alloc (.cells #[.int .i64 root] 3) = W0 := ⟨_, rfl⟩
  rw [hW0] at bR bA bI hB0 hsz K0 ⊢
  clear hW0
  have X0 := X.next G K0
  refine wpIn_rangeFunc_ownF rfl h1 (gf := 98) (lb := #[.pointer (some ⟨w.heap.size + 1, 0, none⟩), .pointer (some ⟨w.heap.size + 1 + 1, 0, none⟩)]) rfl trivial (enters_of Tryd.func98 (by kernel_rfl) rfl)
    (ents_stops 2 (by omega) (w.heap.size + 1) (w.heap.size + 1 + 1) G X0 root hr bA.cell bI.cell) KeepW.t (fun W l o o' _ h hc _ => KeepW.b W l o o' h hc) (Below.refl _ _) (fun _ => rfl)
    (fun pre W => Boxed W w.heap.size 3 (.int .i64 (1 + pre.length : Nat)) ∧ Below w.heap.size w W)
    (fun _ _ _ => False)
    (OwnFrom.and (Own.from (boxed_own _ _ (fun (pre : List (Nat × Ent)) => Value.int .i64 (1 + pre.length : Nat))) _) (ownFrom_below (Nat.le_refl _) (by omega)))
    (fun _ _ _ _ _ hs _ _ => hs)
    ⟨bR, hB0⟩ (fun x => { tmps := #[.pointer (some ⟨A.t, 0, none⟩), .int .i64 root, undef, undef, .int .i64 0, .pointer (some ⟨w.heap.size, 0, none⟩), .pointer (some ⟨A.t, 0, none⟩), .int .i64 root, .int .i64 0, .bool false, .pointer (some ⟨A.t, 0, none⟩), .int .i64 root, .func (.func 98) #[] #[.pointer (some ⟨w.heap.size + 1, 0, none⟩), .pointer (some ⟨w.heap.size + 1 + 1, 0, none⟩)], .int .i64 x.1, x.2.val, undef, undef, undef], defers := [] }) ?assign ?body ?done ?stop
  case assign =>
    intro l x W K hK
    unfold encE
    rw [zip2]
    gi_wp2_with (fail)
    exact hK
  case body =>
    rintro l pre x W ⟨bR1, hB1⟩ hlen
    have cR := bR1.cell
    have fR := bR1.frozen
    have kw : KeepW W (W.setCell ⟨w.heap.size, 0, none⟩ (.int .i64 ((1 + (pre ++ [x]).length : Nat)))) := KeepW.box bR1 (by decide) _
    have bR2 := bR1.set (.int .i64 ((1 + (pre ++ [x]).length : Nat)))
    have hB2 := hB1.setCell (p := ⟨w.heap.size, 0, none⟩) (Nat.le_refl _) (.int .i64 ((1 + (pre ++ [x]).length : Nat)))
    have el : ((1 + (pre ++ [x]).length : Nat) : Int) = ((1 + pre.length : Nat) : Int) + 1 := by simp; omega
    rw [el] at kw bR2 hB2
    obtain ⟨m, hm⟩ : ∃ m, 1 + pre.length = m := ⟨_, rfl⟩
    have hm32 : m ≤ 32 := by omega
    rw [hm] at cR kw bR2 hB2 el
    replace kw := Lib.hid kw
    replace bR2 := Lib.hid bR2
    replace hB2 := Lib.hid hB2
    replace el := Lib.hid el
    replace bR1 := Lib.hid bR1
    replace hm := Lib.hid hm
    gi_wp2_with (fail)
    exact ⟨KeepsOthers.setCell _ _ _, kw.out, by rw [el.out]; exact bR2.out, hB2.out⟩
  case done =>
    rintro D ys W hD rfl ⟨bR1, hB1⟩ hK
    have cR := bR1.cell
    gi_wp2_with (fail)
    refine ⟨by simp, .inl ⟨_, _, rfl, run_takeDeferred hK, ?_⟩⟩
    exact ⟨_, results_tmp rfl _ _ _, rfl, hB1.trans (belowK_b (w := w) (Nat.le_refl _) W D _ _ (by omega) hK rfl rfl)⟩
  case stop =>
    rintro D cc pre W _ _ h _
    exact h.elim
theorem tables_ok {w : World} {A : MB} {B : PB} {c : Nat → Int} {f g : Int → Int} {q : Nat} (G : Geo B) (X : PtAt w A B c f g q) (hR : RootsIn B.n g) (root : Int) (hw : wfI root) :
    Calls Tryd.prog 37 #[.pointer (some ⟨A.t, 0, none⟩), .int .i64 root] w fun r w' => r = .returned (.int .i64 (tabN c g root)) ∧ Keep nob w w' := by
  unfold tabN
  by_cases h : g root = 0
  · rw [if_pos h]
    have C := asked_ok' X.M root 0 true hw
    have e : askE g root 0 true = 4 := by unfold askE; rw [if_pos ⟨by omega, by omega, rfl⟩, if_pos h]
    rw [e] at C
    replace C := Lib.hid C
    replace e := Lib.hid e
    replace h := Lib.hid h
    go_enter Tryd.func37, Tryd.ntmps37
    go_wp2_with fail
    refine Calls.mono (C.out) ?_
    rintro r w1 ⟨rfl, rfl⟩
    go_wp2_with fail
    go_ret
    exact ⟨rfl, Keep.refl _ _⟩
  · rw [if_neg h]
    obtain ⟨h0, h1⟩ := hR root h
    obtain ⟨k, rfl⟩ : ∃ k : Nat, root = k := ⟨root.toNat, by omega⟩
    rw [Int.toNat_natCast]
    exact (callsIn_wide.1 (tables_in G X k (by omega) h)).mono fun r w' h => ⟨h.1, Keep.of_below h.2⟩
end Go.Proofs.YtepmljcapobodaaDoor
