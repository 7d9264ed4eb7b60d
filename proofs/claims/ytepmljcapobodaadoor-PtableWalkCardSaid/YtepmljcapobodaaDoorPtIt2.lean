/- Of package ptable: empty, Tables. -/
import Derived.Test.YtepmljcapobodaaDoorPtIt
namespace Go.Proofs.YtepmljcapobodaaDoor
open Go.RowKit Go.Shelf
set_option linter.unusedVariables false
set_option maxRecDepth 100000
attribute [local go_sem] Oper.semAt_some
theorem zip2 (p q : Tmp) (a b : Value) (t : Array Value) : Array.foldl (fun (t : Array Value) (x : Tmp × Value) => t.setIfInBounds x.1 x.2) t (#[p, q].zip #[a, b]) = (t.setIfInBounds p a).setIfInBounds q b := by simp
theorem prefix_ne {α : Type} {a b : List α} (h : a <+: b) (ha : a ≠ []) : b ≠ [] := by
  rintro rfl
  exact ha (List.eq_nil_of_prefix_nil h)
set_option maxHeartbeats 3200000 in
theorem empty_in {w : World} {A : MB} {B : PB} {c : Nat → Int} {f g : Int → Int} {q : Nat} (G : Geo B) (X : PtAt w A B c f g q) (table : Nat) (ht : table < B.n) :
    CallsIn Fence.wide 3 Tryd.prog 77 #[.pointer (some ⟨A.t, 0, none⟩), .int .i64 table] w fun r w' => r = .returned (.bool (presL (words c table) 32).isEmpty) ∧ Below w.heap.size w w' := by
  have h1 : 1 ≤ 3 := by omega
  refine callsIn_of_wp_marks Tryd.func77 rfl trivial ?_ rfl
  simp only [Tryd.ntmps77, List.size_toArray, List.length_cons, List.length_nil, Nat.reduceAdd, Nat.reduceSub, Array.replicate_succ, Array.replicate_zero, List.push_toArray, List.append_toArray, List.nil_append, List.cons_append]
  gi_wp2_with (fail)
  refine ⟨trivial, (callsIn_wide.2 (entries_ok A.t table _)).mono ?_⟩
  rintro r w1 ⟨rfl, rfl⟩
  gi_wp2_with (fail)
  have bR := ((Boxed.new w 4 (.bool false)).alloc (.cells #[.pointer (some ⟨A.t, 0, none⟩)] 70)).alloc (.cells #[.int .i64 table] 3)
  have bA := (Boxed.new (w.alloc (.cells #[.bool false] 4)) 70 (.pointer (some ⟨A.t, 0, none⟩))).alloc (.cells #[.int .i64 table] 3)
  have bI := Boxed.new ((w.alloc (.cells #[.bool false] 4)).alloc (.cells #[.pointer (some ⟨A.t, 0, none⟩)] 70)) 3 (.int .i64 table)
  simp only [World.size_alloc] at bA bI
  have K0 : Keep nob w (((w.alloc (.cells #[.bool false] 4)).alloc (.cells #[.pointer (some ⟨A.t, 0, none⟩)] 70)).alloc (.cells #[.int .i64 table] 3)) := (((Keep.refl nob w).alloc _).alloc _).alloc _
  have hB0 := K0.below
  have hsz : (((w.alloc (.cells #[.bool false] 4)).alloc (.cells #[.pointer (some ⟨A.t, 0, none⟩)] 70)).alloc (.cells #[.int .i64 table] 3)).heap.size = w.heap.size + 3 := by simp
  obtain ⟨W0, hW0⟩ : ∃ W0, ((w.alloc (.cells #[.bool false] 4)).alloc (.cells #[.pointer (some ⟨A.t, 0, none⟩)] 70)).alloc (.cells #[.int .i64 table] 3) = W0 := ⟨_, rfl⟩
  rw [hW0] at bR bA bI hB0 hsz K0 ⊢
  clear hW0
  have X0 := X.next G K0
  refine wpIn_rangeFunc_ownF rfl h1 (gf := 98) (lb := #[.pointer (some ⟨w.heap.size + 1, 0, none⟩), .pointer (some ⟨w.heap.size + 1 + 1, 0, none⟩)]) rfl trivial (enters_of Tryd.func98 (by kernel_rfl) rfl)
    (ents_stops 2 (by omega) (w.heap.size + 1) (w.heap.size + 1 + 1) G X0 table ht bA.cell bI.cell) KeepW.t (fun W l o o' _ h hc _ => KeepW.b W l o o' h hc) (Below.refl _ _) (fun _ => rfl)
    (fun pre W => pre = [] ∧ Boxed W w.heap.size 4 (.bool false) ∧ Below w.heap.size w W)
    (fun cc pre W => (cc = .ret ∧ pre ≠ []) ∧ Boxed W w.heap.size 4 (.bool false) ∧ Below w.heap.size w W)
    (OwnFrom.and (ownFrom_pure _ _) (OwnFrom.and (Own.from (boxed_own _ _ (fun _ => .bool false)) _) (ownFrom_below (Nat.le_refl _) (by omega))))
    (fun cc => OwnFrom.and (ownFrom_pure _ _) (OwnFrom.and (Own.from (boxed_own _ _ (fun _ => .bool false)) _) (ownFrom_below (Nat.le_refl _) (by omega))))
    ⟨rfl, bR, hB0⟩ (fun x => { tmps := #[.pointer (some ⟨A.t, 0, none⟩), .int .i64 table, undef, undef, .pointer (some ⟨w.heap.size, 0, none⟩), .pointer (some ⟨A.t, 0, none⟩), .int .i64 table, .func (.func 98) #[] #[.pointer (some ⟨w.heap.size + 1, 0, none⟩), .pointer (some ⟨w.heap.size + 1 + 1, 0, none⟩)], .int .i64 x.1, x.2.val], defers := [] }) ?assign ?body ?done ?stop
  case assign =>
    intro l x W K hK
    unfold encE
    rw [zip2]
    gi_wp2_with (fail)
    exact hK
  case body =>
    rintro l pre x W ⟨rfl, bR1, hB1⟩ _
    have cR := bR1.cell
    have fR := bR1.frozen
    gi_wp2_with (fail)
    exact ⟨KeepsOthers.setCell _ _ _, ⟨rfl, by simp⟩, bR1.set _, hB1.setCell (p := ⟨w.heap.size, 0, none⟩) (Nat.le_refl _) _⟩
  case done =>
    rintro D ys W hD hys ⟨hn, bR1, hB1⟩ hK
    have cR := bR1.cell
    have fR := bR1.frozen
    have hne : D ≠ w.heap.size := by omega
    gi_wp2_with (fail)
    have hK2 := (KeepsOthers.setCell W ⟨w.heap.size, 0, none⟩ (.bool true)).same D _ hK rfl
    have bR2 := bR1.set (.bool true)
    refine ⟨by simp, .inl ⟨_, _, rfl, run_takeDeferred hK2, ?_⟩⟩
    have bR3 := boxed_own w.heap.size 4 (fun (_ : Unit) => Value.bool true) () _ _ (some D) bR2 (grownBy_putObj' _ D (.deferred none)) (fun r e => by cases e; exact ⟨_, hK2, rfl⟩)
    have cR3 := bR3.cell
    have hB3 := hB1.setCell (p := ⟨w.heap.size, 0, none⟩) (Nat.le_refl _) (.bool true)
    refine ⟨.bool true, by rw [results_cell1 rfl]; go_simp, ?_, hB3.trans (belowK_b (w := w) (Nat.le_refl _) _ D _ _ (by omega) hK2 rfl rfl)⟩
    rw [← hys, hn]
    rfl
  case stop =>
    rintro D cc pre W hD hpre ⟨⟨rfl, hne⟩, bR1, hB1⟩ hK
    gi_wp2_with (fail)
    refine ⟨by simp, .inl ⟨_, _, rfl, run_takeDeferred hK, ?_⟩⟩
    have bR3 := boxed_own w.heap.size 4 (fun (_ : Unit) => Value.bool false) () _ _ (some D) bR1 (grownBy_putObj' _ D (.deferred none)) (fun r e => by cases e; exact ⟨_, hK, rfl⟩)
    have cR3 := bR3.cell
    have hpr := prefix_ne hpre hne
    refine ⟨.bool false, by rw [results_cell1 rfl]; go_simp, ?_, hB1.trans (belowK_b (w := w) (Nat.le_refl _) _ D _ _ (by omega) hK rfl rfl)⟩
    cases hq : presL (words c table) 32 with
    | nil => exact absurd hq hpr
    | cons a b => rfl
theorem empty_ok {w : World} {A : MB} {B : PB} {c : Nat → Int} {f g : Int → Int} {q : Nat} (G : Geo B) (X : PtAt w A B c f g q) (table : Int) (h0 : 0 ≤ table) (ht : table < B.n) :
    Calls Tryd.prog 77 #[.pointer (some ⟨A.t, 0, none⟩), .int .i64 table] w fun r w' => r = .returned (.bool (presL (words c table.toNat) 32).isEmpty) ∧ Keep nob w w' := by
  obtain ⟨k, rfl⟩ : ∃ k : Nat, table = k := ⟨table.toNat, by omega⟩
  rw [Int.toNat_natCast]
  exact (callsIn_wide.1 (empty_in G X k (by omega))).mono fun r w' h => ⟨h.1, Keep.of_below h.2⟩
end Go.Proofs.YtepmljcapobodaaDoor
