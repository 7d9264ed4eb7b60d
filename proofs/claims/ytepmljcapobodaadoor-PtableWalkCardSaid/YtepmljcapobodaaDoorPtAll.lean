/- Of package ptable: All. -/
import Derived.Test.YtepmljcapobodaaDoorPtIt3
import Derived.Maps.AppendAt
namespace Go.Proofs.YtepmljcapobodaaDoor
open Go.RowKit Go.Shelf
set_option linter.unusedVariables false
set_option maxRecDepth 100000
attribute [local go_sem] Oper.semAt_some
def mapCells (x : Nat × Ent) : List Value := [.int .i64 (x.1 : Int), .bool x.2.p, .bool x.2.w, .bool x.2.c, .int .i64 x.2.f]
/-- The mappings of a table's entries, the table being the i-th one. -/
def inner (c : Nat → Int) (x : Nat × Ent) : List (Nat × Ent) := (presL (words c x.2.f.toNat) 32).map fun y => (x.1 * 32 + y.1, y.2)
def allL (c : Nat → Int) (root : Nat) : List (Nat × Ent) := (presL (words c root) 32).flatMap (inner c)
theorem infoMap : (Tryd.prog.info? 106).map (fun i => (i.zero, i.size, i.bytes)) = some (some (.agg #[.int .i64 0, .bool false, .bool false, .bool false, .int .i64 0]), 5, 24) := by kernel_rfl
def mapsV (l : List (Nat × Ent)) : List Value := l.flatMap mapCells
theorem mapsV_len (l : List (Nat × Ent)) : (mapsV l).length = l.length * 5 := by
  unfold mapsV
  induction l with
  | nil => rfl
  | cons a l ih => rw [List.flatMap_cons, List.length_append, ih, List.length_cons]; show 5 + _ = _; omega
theorem mapsV_snoc (l : List (Nat × Ent)) (x : Nat × Ent) : mapsV (l ++ [x]) = mapsV l ++ mapCells x := by unfold mapsV; simp
/-- The box holds a slice of one's own that has these mappings. -/
def Outs (W : World) (n0 bo : Nat) (l : List (Nat × Ent)) : Prop := ∃ v, Boxed W bo 75 v ∧ W.ownsRow n0 106 5 v l.length (mapsV l) ∧ (v = .slice none 0 0 ↔ l = [])
theorem outs_own {β : Type} (n0 bo : Nat) (F : β → List (Nat × Ent)) : Own (fun s W => Outs W n0 bo (F s)) := holdsRow_own n0 bo 75 106 5 (fun s => (F s).length) (fun s => mapsV (F s)) (fun s v => v = .slice none 0 0 ↔ F s = [])
theorem entAt_own {β : Type} (b : Nat) (p q c : Bool) (f : Int) : Own (fun (_ : β) W => EntAt W b p q c f) := fun s X Y row hs hg hr => by
  have k := fun (j : Nat) (v : Value) (h : X.cell? ⟨b, j, none⟩ = some v) => cell_kept h hg hr
  have z := fun (j : Nat) (v : Value) (h : X.cell? ⟨b, j, none⟩ = some v) => frozen_kept h hg hr
  exact ⟨k 0 _ hs.c0, k 1 _ hs.c1, k 2 _ hs.c2, k 3 _ hs.c3, (z 0 _ hs.c0).trans hs.z0, (z 1 _ hs.c1).trans hs.z1, (z 2 _ hs.c2).trans hs.z2, (z 3 _ hs.c3).trans hs.z3⟩
theorem keepW_own {β : Type} (W0 : World) (B : Nat) : OwnFrom B (fun (_ : β) W => KeepW W0 W) := fun s X Y row hs hg hr k cur fr e => by
  have e1 := hs k cur fr e
  have hne : some k ≠ row := by
    intro h
    obtain ⟨_, o, ho, hc⟩ := hr k h.symm
    rw [e1] at ho
    injection ho with ho
    rw [← ho] at hc
    cases hc
  exact (hg.block k (Array.getElem?_eq_some_iff.1 e1).1 hne).trans e1
def PO (n : Nat) (x : Nat × Ent) : Prop := 0 ≤ x.2.f ∧ x.2.f < n ∧ x.1 < 32
def PI (x : Nat × Ent) : Prop := x.1 < 32
def outL {n : Nat} (c : Nat → Int) (pre : List {x // PO n x}) : List (Nat × Ent) := (pre.map (·.1)).flatMap (inner c)
def innP (i : Nat) (pre : List {x // PI x}) : List (Nat × Ent) := (pre.map (·.1)).map fun y => (i * 32 + y.1, y.2)
theorem innP_snoc (i : Nat) (pre : List {x // PI x}) (y : {x // PI x}) : innP i (pre ++ [y]) = innP i pre ++ [(i * 32 + y.1.1, y.1.2)] := by unfold innP; simp
theorem innP_len (i : Nat) (pre : List {x // PI x}) : (innP i pre).length = pre.length := by unfold innP; simp
theorem outL_snoc {n : Nat} (c : Nat → Int) (pre : List {x // PO n x}) (x : {x // PO n x}) : outL c (pre ++ [x]) = outL c pre ++ inner c x.1 := by unfold outL; simp
theorem inner_len (c : Nat → Int) (x : Nat × Ent) : (inner c x).length ≤ 32 := by unfold inner; rw [List.length_map]; exact presL_len _ 32
theorem outL_len {n : Nat} (c : Nat → Int) (pre : List {x // PO n x}) : (outL c pre).length ≤ pre.length * 32 := by
  induction pre with
  | nil => simp [outL]
  | cons a l ih =>
    have := inner_len c a.1
    unfold outL at ih ⊢
    rw [List.map_cons, List.flatMap_cons, List.length_append, List.length_cons]
    omega
theorem KeepW.appended {W w1 : World} {n0 B : Nat} {v v' : Value} {k : Nat} {xs : List Value} {tmp : Obj} (hv : Boxed W B 75 v) (hrow : W.ownsRow n0 106 5 v k xs) (hgrow : (W.alloc tmp).grownBy w1 v.ownBlock) : KeepW W (w1.setCell ⟨B, 0, none⟩ v') := by
  have hv1 : Boxed w1 B 75 v := (hv.alloc tmp).kept hgrow (hv.not_row (by decide) hrow)
  refine KeepW.t (fun i cur fr e => ?_) (KeepW.box hv1 (by decide) v')
  have hlt := (Array.getElem?_eq_some_iff.1 e).1
  have e1 : (W.alloc tmp).heap[i]? = some (Obj.cells cur 66 fr) := (Below.heap_alloc W tmp i hlt).trans e
  refine (hgrow.block i (Array.getElem?_eq_some_iff.1 e1).1 (fun h => ?_)).trans e1
  rcases hrow.2 with ⟨rfl, _⟩ | ⟨g, cap, cur', rfl, _, hgb, _⟩
  · simp [Value.ownBlock] at h
  · obtain rfl : i = g := by simpa [Value.ownBlock] using h
    rw [hgb] at e
    injection e with e
    injection e with _ e _
    exact absurd e (by decide)
set_option maxHeartbeats 3200000 in
theorem all_in {w : World} {A : MB} {B : PB} {c : Nat → Int} {f g : Int → Int} {q : Nat} (G : Geo B) (X : PtAt w A B c f g q) (root : Nat) (hr : root < B.n) (hg : g root ≠ 0) (hT : ∀ k, k < 32 → (getR ((words c root).getD k 0)).p = true → PO B.n (k, getR ((words c root).getD k 0))) :
    CallsIn Fence.wide 6 Tryd.prog 36 #[.pointer (some ⟨A.t, 0, none⟩), .int .i64 root] w fun r w' => ∃ v, r = .returned v ∧ w'.ownsRow w.heap.size 106 5 v (allL c root).length (mapsV (allL c root)) ∧ (v = .slice none 0 0 ↔ allL c root = []) ∧ Below w.heap.size w w' := by
  have h1 : 1 ≤ 6 := by omega
  have hn := G.n
  have K00 : Keep nob w (w.alloc (.cells #[.pointer (some ⟨A.t, 0, none⟩)] 70)) := (Keep.refl nob w).alloc _
  have C := asked_ok' (X.M.next K00) root 0 true (by unfold wfI; omega)
  have e : askE g root 0 true = 0 := by unfold askE; rw [if_pos ⟨by omega, by omega, rfl⟩, if_neg hg]
  rw [e] at C
  replace C := Lib.hid C
  replace e := Lib.hid e
  replace hg := Lib.hid hg
  replace K00 := Lib.hid K00
  refine callsIn_of_wp_marks Tryd.func36 rfl trivial ?_ rfl
  simp only [Tryd.ntmps36, List.size_toArray, List.length_cons, List.length_nil, Nat.reduceAdd, Nat.reduceSub, Array.replicate_succ, Array.replicate_zero, List.push_toArray, List.append_toArray, List.nil_append, List.cons_append]
  gi_wp2_with (fail)
  refine ⟨trivial, (callsIn_wide.2 C.out).mono ?_⟩
  rintro r w1 ⟨rfl, rfl⟩
  gi_wp2_with (fail)
  refine ⟨trivial, (callsIn_wide.2 (entries_ok A.t root _)).mono ?_⟩
  rintro r w1 ⟨rfl, rfl⟩
  gi_wp2_with (fail)
  have bT := (((Boxed.new w 70 (.pointer (some ⟨A.t, 0, none⟩))).alloc (.cells #[.slice none 0 0] 75)).alloc (.cells #[.pointer (some ⟨A.t, 0, none⟩)] 70)).alloc (.cells #[.int .i64 root] 3)
  have bO := ((Boxed.new (w.alloc (.cells #[.pointer (some ⟨A.t, 0, none⟩)] 70)) 75 (.slice none 0 0)).alloc (.cells #[.pointer (some ⟨A.t, 0, none⟩)] 70)).alloc (.cells #[.int .i64 root] 3)
  have bA := (Boxed.new ((w.alloc (.cells #[.pointer (some ⟨A.t, 0, none⟩)] 70)).alloc (.cells #[.slice none 0 0] 75)) 70 (.pointer (some ⟨A.t, 0, none⟩))).alloc (.cells #[.int .i64 root] 3)
  have bI := Boxed.new (((w.alloc (.cells #[.pointer (some ⟨A.t, 0, none⟩)] 70)).alloc (.cells #[.slice none 0 0] 75)).alloc (.cells #[.pointer (some ⟨A.t, 0, none⟩)] 70)) 3 (.int .i64 root)
  have K0 : Keep nob w ((((w.alloc (.cells #[.pointer (some ⟨A.t, 0, none⟩)] 70)).alloc (.cells #[.slice none 0 0] 75)).alloc (.cells #[.pointer (some ⟨A.t, 0, none⟩)] 70)).alloc (.cells #[.int .i64 root] 3)) := ((((Keep.refl nob w).alloc _).alloc _).alloc _).alloc _
  have hsz : ((((w.alloc (.cells #[.pointer (some ⟨A.t, 0, none⟩)] 70)).alloc (.cells #[.slice none 0 0] 75)).alloc (.cells #[.pointer (some ⟨A.t, 0, none⟩)] 70)).alloc (.cells #[.int .i64 root] 3)).heap.size = w.heap.size + 4 := by simp
  simp only [World.size_alloc] at bO bA bI
  obtain ⟨W0, hW0⟩ : ∃ W0, (((w.alloc (.cells #[.pointer (some ⟨A.t, 0, none⟩)] 70)).alloc (.cells #[.slice none 0 0] 75)).alloc (.cells #[.pointer (some ⟨A.t, 0, none⟩)] 70)).alloc (.cells #[.int .i64 root] 3) = W0 := ⟨_, rfl⟩
  rw [hW0] at bT bO bA bI hsz K0 ⊢
  clear hW0
  have hB0 := K0.below
  have X0 := X.next G K0
  refine wpIn_rangeFunc_ownH rfl h1 (gf := 98) (lb := #[.pointer (some ⟨w.heap.size + 1 + 1, 0, none⟩), .pointer (some ⟨w.heap.size + 1 + 1 + 1, 0, none⟩)]) rfl trivial (enters_of Tryd.func98 (by kernel_rfl) rfl)
    (ents_stopsP (PO B.n) 5 (by omega) (w.heap.size + 1 + 1) (w.heap.size + 1 + 1 + 1) G X0 root hr hT bA.cell bI.cell) KeepW.t (fun W l o o' _ h hc _ => KeepW.b W l o o' h hc) (Below.refl _ _) (fun _ => rfl)
    (fun pre W => (Outs W w.heap.size (w.heap.size + 1) (outL c pre) ∧ Boxed W w.heap.size 70 (.pointer (some ⟨A.t, 0, none⟩))) ∧ Below w.heap.size w W)
    (fun _ _ _ => False)
    (OwnFrom.and (OwnFrom.and (Own.from (outs_own _ _ _) _) (Own.from (boxed_own _ _ (fun _ => .pointer (some ⟨A.t, 0, none⟩))) _)) (ownFrom_below (Nat.le_refl _) (by omega)))
    (fun _ _ _ _ _ hs _ _ => hs)
    ⟨⟨⟨_, bO, World.ownsRow_nil _ _ _ _, by simp [outL]⟩, bT⟩, hB0⟩
    (fun x a' W => ∃ Bi Be, (w.heap.size + 1 < Bi ∧ w.heap.size + 1 < Be ∧ Bi ≠ Be) ∧ Boxed W Bi 3 (.int .i64 x.1.1) ∧ EntAt W Be x.1.2.p x.1.2.w x.1.2.c x.1.2.f ∧ a' = { tmps := #[.pointer (some ⟨A.t, 0, none⟩), .int .i64 root, .pointer (some ⟨w.heap.size, 0, none⟩), undef, .slice none 0 0, .pointer (some ⟨w.heap.size + 1, 0, none⟩), .pointer (some ⟨Bi, 0, none⟩), .pointer (some ⟨Be, 0, none⟩), undef, undef, .pointer (some ⟨A.t, 0, none⟩), .int .i64 root, .int .i64 0, .bool false, .pointer (some ⟨A.t, 0, none⟩), .int .i64 root, .func (.func 98) #[] #[.pointer (some ⟨w.heap.size + 1 + 1, 0, none⟩), .pointer (some ⟨w.heap.size + 1 + 1 + 1, 0, none⟩)], .int .i64 x.1.1, x.1.2.val, undef, undef, undef, undef, undef, undef, undef, undef, undef, undef, undef, undef, undef, undef, undef, undef], defers := [] })
    (fun x a' s X Y row hs hg hr => by
      obtain ⟨Bi, Be, h1, h2, h3, h4⟩ := hs
      exact ⟨Bi, Be, h1, boxed_own Bi 3 (fun (_ : Unit) => Value.int .i64 x.1.1) () X Y row h2 hg (fun r e => (hr r e).2), entAt_own (β := Unit) Be _ _ _ _ () X Y row h3 hg (fun r e => (hr r e).2), h4⟩)
    ?assign ?body ?done ?stop
  case assign =>
    rintro l pre x W K ⟨⟨O1, bT1⟩, hB1⟩ hK
    obtain ⟨⟨i, ⟨p, v, cc, fr⟩⟩, hx⟩ := x
    unfold encE Ent.val
    unfold Ent.val at hK
    dsimp only
    dsimp only at hK
    rw [zip2]
    gi_wp2_with (fail)
    have Kn : Keep nob W ((W.alloc (.cells #[.int .i64 i] 3)).alloc (.cells #[.bool p, .bool v, .bool cc, .int .i64 fr] 69)) := ((Keep.refl nob W).alloc _).alloc _
    have lt := O1
    obtain ⟨vo, bo1, rw1, nl1⟩ := O1
    refine hK _ _ (((KeepsOthers.alloc _ _).trans (KeepsOthers.alloc _ _)).from _) (KeepW.of Kn) ⟨⟨⟨vo, (bo1.alloc _).alloc _, (rw1.alloc _).alloc _, nl1⟩, (bT1.alloc _).alloc _⟩, (hB1.alloc hB1.size _).alloc (by have := hB1.size; simp; omega) _⟩ ⟨W.heap.size, W.heap.size + 1, ⟨bo1.lt, by have := bo1.lt; omega, by omega⟩, (Boxed.new W 3 _).alloc _, EntAt.newAt _ _ _ _ _ _ _, rfl⟩
  case body =>
    rintro l pre x a' W hl ⟨r, hr'⟩ ⟨⟨O1, bT1⟩, hB1⟩ ⟨Bi, Be, ⟨hBi, hBe, hBie⟩, bi, eE, rfl⟩ hlt
    obtain ⟨⟨i, ⟨p, v, cc, fr⟩⟩, ⟨hx0, hx1, hx2⟩⟩ := x
    dsimp only at hx0 hx1 hx2 bi eE
    unfold Ent.val
    dsimp only
    obtain ⟨tb, rfl⟩ : ∃ tb : Nat, fr = tb := ⟨fr.toNat, by omega⟩
    have cT := bT1.cell
    obtain ⟨e0, e1, e2, e3, z0, z1, z2, z3⟩ := eE
    gi_wp2_with (fail)
    refine ⟨trivial, (CallsIn.inRound l (callsIn_wide.2 (entries_ok A.t tb _))).mono ?_⟩
    rintro r2 w2 ⟨rfl, rfl⟩
    gi_wp2_with (fail)
    have hsW := hB1.size
    have XW := X.next G (Keep.of_below hB1)
    have Kn : Keep nob W ((W.alloc (.cells #[.pointer (some ⟨A.t, 0, none⟩)] 70)).alloc (.cells #[.int .i64 tb] 3)) := ((Keep.refl nob W).alloc _).alloc _
    have bA2 := (Boxed.new W 70 (.pointer (some ⟨A.t, 0, none⟩))).alloc (.cells #[.int .i64 tb] 3)
    have bI2 := Boxed.new (W.alloc (.cells #[.pointer (some ⟨A.t, 0, none⟩)] 70)) 3 (.int .i64 tb)
    rw [World.size_alloc] at bI2
    have hr2 : ((W.alloc (.cells #[.pointer (some ⟨A.t, 0, none⟩)] 70)).alloc (.cells #[.int .i64 tb] 3)).heap[l]? = some (.loop r) := (Kn.block l (Array.getElem?_eq_some_iff.1 hr').1 (fun x => x)).trans hr'
    have hz2 : ((W.alloc (.cells #[.pointer (some ⟨A.t, 0, none⟩)] 70)).alloc (.cells #[.int .i64 tb] 3)).heap.size = W.heap.size + 2 := by simp
    have hBn : Below w.heap.size W ((W.alloc (.cells #[.pointer (some ⟨A.t, 0, none⟩)] 70)).alloc (.cells #[.int .i64 tb] 3)) := (((Below.refl _ W).alloc hsW _).alloc (by simp; omega) _)
    have hF0 : KeepsFrom W0.heap.size W ((W.alloc (.cells #[.pointer (some ⟨A.t, 0, none⟩)] 70)).alloc (.cells #[.int .i64 tb] 3)) := ((KeepsOthers.alloc _ _).trans (KeepsOthers.alloc _ _)).from _
    have O2 : Outs ((W.alloc (.cells #[.pointer (some ⟨A.t, 0, none⟩)] 70)).alloc (.cells #[.int .i64 tb] 3)) w.heap.size (w.heap.size + 1) (outL c pre) := let ⟨vo, h1, h2, h3⟩ := O1; ⟨vo, (h1.alloc _).alloc _, (h2.alloc _).alloc _, h3⟩
    have bi2 := (bi.alloc (.cells #[.pointer (some ⟨A.t, 0, none⟩)] 70)).alloc (.cells #[.int .i64 tb] 3)
    have bT2 := (bT1.alloc (.cells #[.pointer (some ⟨A.t, 0, none⟩)] 70)).alloc (.cells #[.int .i64 tb] 3)
    have X2 := XW.next G Kn
    have lb2 := (outL c pre).length
    have hW0W : W0.heap.size ≤ l := hl
    have hlW := (Array.getElem?_eq_some_iff.1 hr').1
    obtain ⟨W2, hW2⟩ : ∃ W2, (W.alloc (.cells #[.pointer (some ⟨A.t, 0, none⟩)] 70)).alloc (.cells #[.int .i64 tb] 3) = W2 := ⟨_, rfl⟩
    rw [hW2] at Kn bA2 bI2 hr2 hz2 hBn hF0 O2 bi2 bT2 X2 ⊢
    clear hW2
    refine wpIn_rangeFunc_ownN (l₀ := l) (r₀ := r) rfl hr2 (by omega) (gf := 98) (lb := #[.pointer (some ⟨W.heap.size, 0, none⟩), .pointer (some ⟨W.heap.size + 1, 0, none⟩)]) rfl trivial (enters_of Tryd.func98 (by kernel_rfl) rfl)
      ((ents_stopsP PI 3 (by omega) W.heap.size (W.heap.size + 1) G X2 tb (by omega) (fun k hk _ => hk) bA2.cell bI2.cell).inRound l) KeepW.t (fun W l o o' _ h hc _ => KeepW.b W l o o' h hc) (Below.refl _ _) (fun _ => rfl)
      (fun pre' W' => ((Outs W' w.heap.size (w.heap.size + 1) (outL c pre ++ innP i pre') ∧ Boxed W' Bi 3 (.int .i64 i)) ∧ Boxed W' w.heap.size 70 (.pointer (some ⟨A.t, 0, none⟩))) ∧ (Below w.heap.size W W' ∧ KeepsFrom W0.heap.size W W') ∧ KeepW W W')
      (fun _ _ _ => False)
      (OwnFrom.and (OwnFrom.and (OwnFrom.and (Own.from (outs_own _ _ _) _) (Own.from (boxed_own _ _ (fun _ => Value.int .i64 i)) _)) (Own.from (boxed_own _ _ (fun _ => Value.pointer (some ⟨A.t, 0, none⟩))) _)) (OwnFrom.and (OwnFrom.and (ownFrom_below hsW (by omega)) (ownFrom_keepsFrom (by omega))) (keepW_own _ _)))
      (fun _ _ _ _ _ hs _ _ => hs)
      ⟨⟨⟨by simpa [innP] using O2, bi2⟩, bT2⟩, ⟨hBn, hF0⟩, KeepW.of Kn⟩
      (fun y a'' W' => ∃ Bj, EntAt W' Bj y.1.2.p y.1.2.w y.1.2.c y.1.2.f ∧ a'' = { tmps := #[.pointer (some ⟨A.t, 0, none⟩), .int .i64 root, .pointer (some ⟨w.heap.size, 0, none⟩), undef, .slice none 0 0, .pointer (some ⟨w.heap.size + 1, 0, none⟩), .pointer (some ⟨Bi, 0, none⟩), .pointer (some ⟨Be, 0, none⟩), .int .i64 y.1.1, .pointer (some ⟨Bj, 0, none⟩), .pointer (some ⟨A.t, 0, none⟩), .int .i64 root, .int .i64 0, .bool false, .pointer (some ⟨A.t, 0, none⟩), .int .i64 root, .func (.func 98) #[] #[.pointer (some ⟨w.heap.size + 1 + 1, 0, none⟩), .pointer (some ⟨w.heap.size + 1 + 1 + 1, 0, none⟩)], .int .i64 i, .agg #[.bool p, .bool v, .bool cc, .int .i64 tb], .pointer (some ⟨A.t, 0, none⟩), .pointer (some ⟨Be, 3, none⟩), .int .i64 tb, .func (.func 98) #[] #[.pointer (some ⟨W.heap.size, 0, none⟩), .pointer (some ⟨W.heap.size + 1, 0, none⟩)], .int .i64 y.1.1, y.1.2.val, undef, undef, undef, undef, undef, undef, undef, undef, undef, undef], defers := [] })
      (fun y a'' s X Y row hs hg hr => by
        obtain ⟨Bj, h1, h2⟩ := hs
        exact ⟨Bj, entAt_own (β := Unit) Bj _ _ _ _ () X Y row h1 hg (fun r e => (hr r e).2), h2⟩)
      ?assign2 ?body2 ?done2 ?stop2
    case assign2 =>
      rintro l2 pre' y W' K ⟨⟨⟨O3, bi3⟩, bT3⟩, ⟨hB3, hF3⟩, hk3⟩ hK
      obtain ⟨⟨k, ⟨p', v', cc', fr'⟩⟩, hy⟩ := y
      unfold encE Ent.val
      unfold Ent.val at hK
      dsimp only
      dsimp only at hK
      rw [zip2]
      gi_wp2_with (fail)
      have Km : Keep nob W' (W'.alloc (.cells #[.bool p', .bool v', .bool cc', .int .i64 fr'] 69)) := (Keep.refl nob W').alloc _
      obtain ⟨vo, bo3, rw3, nl3⟩ := O3
      have hz3 := hB3.size
      exact hK _ _ ((KeepsOthers.alloc _ _).from _) (KeepW.of Km) ⟨⟨⟨⟨vo, bo3.alloc _, rw3.alloc _, nl3⟩, bi3.alloc _⟩, bT3.alloc _⟩, ⟨hB3.alloc (Nat.le_trans hsW hz3) _, hF3.trans ((KeepsOthers.alloc _ _).from _)⟩, hk3.t (KeepW.of Km)⟩ ⟨W'.heap.size, EntAt.new _ _ _ _ _ _, rfl⟩
    case body2 =>
      rintro l2 pre' y a'' W' _ _ ⟨⟨⟨O3, bi3⟩, bT3⟩, ⟨hB3, hF3⟩, hk3⟩ ⟨Bj, ej, rfl⟩ hlen
      obtain ⟨⟨k, ⟨p', v', cc', fr'⟩⟩, hy⟩ := y
      unfold PI at hy
      dsimp only at hy ej
      unfold Ent.val
      dsimp only
      obtain ⟨vo, bo3, rw3, nl3⟩ := O3
      have cO := bo3.cell
      have fO := bo3.frozen
      have cI := bi3.cell
      obtain ⟨e0, e1, e2, e3, z0, z1, z2, z3⟩ := ej
      have lo := outL_len c pre
      have li := innP_len i pre'
      have ll : (outL c pre ++ innP i pre').length = (outL c pre).length + pre'.length := by rw [List.length_append, li]
      have hz3 := hB3.size
      obtain ⟨i0, hi, hz0, hz1, hz2⟩ := info_parts infoMap
      replace O2 := Lib.hid O2
      replace lo := Lib.hid lo
      replace li := Lib.hid li
      replace ll := Lib.hid ll
      have hxW : w.heap.size ≤ W'.heap.size := Nat.le_trans hsW hz3
      have e63 : (outL c pre ++ innP i pre').length + 1 ≤ 2048 := by have := ll.out; have := lo.out; omega
      have em : mapsV (outL c pre ++ innP i (pre' ++ [⟨(k, ⟨p', v', cc', fr'⟩), hy⟩])) = mapsV (outL c pre ++ innP i pre') ++ [.int .i64 ((i : Int) * 32 + k), .bool p', .bool v', .bool cc', .int .i64 fr'] := by
        rw [innP_snoc, ← List.append_assoc, mapsV_snoc]
        unfold mapCells
        dsimp only
        rw [show ((i * 32 + k : Nat) : Int) = (i : Int) * 32 + k by omega]
      have el : (outL c pre ++ innP i (pre' ++ [⟨(k, ⟨p', v', cc', fr'⟩), hy⟩])).length = (outL c pre ++ innP i pre').length + 1 := by
        rw [innP_snoc, ← List.append_assoc, List.length_append, List.length_singleton]
      have en : outL c pre ++ innP i (pre' ++ [⟨(k, ⟨p', v', cc', fr'⟩), hy⟩]) ≠ [] := by rw [innP_snoc, ← List.append_assoc]; simp
      obtain ⟨Ln, hLn⟩ : ∃ Ln, (outL c pre ++ innP i pre').length = Ln := ⟨_, rfl⟩
      rw [hLn] at rw3 el e63
      replace em := Lib.hid em
      replace el := Lib.hid el
      replace en := Lib.hid en
      replace hi := Lib.hid hi
      replace hz0 := Lib.hid hz0
      replace hz1 := Lib.hid hz1
      replace hz2 := Lib.hid hz2
      replace hLn := Lib.hid hLn
      gi_wp2_with (gi_at_builtin; refine wpListIn_append_own _ rfl (.tmp 25) (.tmp 32) 75 rfl w.heap.size 106 i0 (.agg #[.int .i64 0, .bool false, .bool false, .bool false, .int .i64 0]) 5 24 Tryd.underlying75 hi.out hz0.out hz1.out hz2.out rfl (by decide) vo Ln _ rfl (rw3.alloc _) ⟨W'.heap.size, 0, none⟩ 1 1 [.int .i64 ((i : Int) * 32 + k), .bool p', .bool v', .bool cc', .int .i64 fr'] rfl rfl ?c1 ?c2 ?c3 ?c4 ?c5 ?_)
      case c1 => intro j u hu; rw [Addr.add_mid, Nat.zero_add]; exact new_at _ _ _ j u hu
      case c2 => simp [Value.oneCell']
      case c3 => unfold maxLen; omega
      case c4 => omega
      case c5 => rw [World.size_alloc]; omega
      intro v9 w9 hown hgrow _
      obtain ⟨g9, cap9, rfl⟩ := ownsRow_succ hown
      obtain ⟨hv1, hv2, hr9, hk9, hb9⟩ := bo3.appended (by decide) rw3 hxW (Nat.le_succ _) hown hgrow
      have hkw := KeepW.appended (v' := .slice (some ⟨g9, 0, none⟩) (Ln + 1) cap9) bo3 rw3 hgrow
      have bi9 := (bi3.alloc (.cells #[.int .i64 ((i : Int) * 32 + k), .bool p', .bool v', .bool cc', .int .i64 fr'] 106)).kept hgrow (bi3.not_row (by decide) rw3)
      have bT9 := (bT3.alloc (.cells #[.int .i64 ((i : Int) * 32 + k), .bool p', .bool v', .bool cc', .int .i64 fr'] 106)).kept hgrow (bT3.not_row (by decide) rw3)
      have bi8 := bi9.other (by omega) (.slice (some ⟨g9, 0, none⟩) (Ln + 1) cap9) (B' := w.heap.size + 1)
      have bT8 := bT9.other (by omega) (.slice (some ⟨g9, 0, none⟩) (Ln + 1) cap9) (B' := w.heap.size + 1)
      have hc1 := hv1.cell
      have hf1 := hv1.frozen
      replace hv2 := Lib.hid hv2
      replace hr9 := Lib.hid hr9
      replace hk9 := Lib.hid hk9
      replace hb9 := Lib.hid hb9
      replace hkw := Lib.hid hkw
      replace bi8 := Lib.hid bi8
      replace bT8 := Lib.hid bT8
      replace hown := Lib.hid hown
      replace hgrow := Lib.hid hgrow
      replace rw3 := Lib.hid rw3
      replace bo3 := Lib.hid bo3
      clear bi9 bT9 cO fO
      gi_wp2_with (fail)
      exact ⟨hk9.out.from _, hkw.out, ⟨⟨⟨_, hv2.out, by rw [el.out, em.out]; exact hr9.out, by simp [en.out]⟩, bi8.out⟩, bT8.out⟩, ⟨hB3.trans hb9.out, hF3.trans (hk9.out.from _)⟩, hk3.t hkw.out⟩
    case done2 =>
      rintro ys' W' hys ⟨⟨⟨O3, bi3⟩, bT3⟩, ⟨hB3, hF3⟩, hk3⟩
      gi_wp2_with (fail)
      refine ⟨hF3, hk3, ⟨?_, bT3⟩, hB1.trans hB3⟩
      rw [outL_snoc]
      have e : innP i ys' = inner c (i, ⟨p, v, cc, tb⟩) := by unfold innP inner; rw [hys]; rfl
      rw [← e]
      exact O3
    case stop2 =>
      rintro cc' pre' W' _ h
      exact h.elim
  case done =>
    rintro D zs W hD hzs ⟨⟨⟨vo, bo1, rw1, nl1⟩, bT1⟩, hB1⟩ hK
    have cO := bo1.cell
    gi_wp2_with (fail)
    refine ⟨by simp, .inl ⟨_, _, rfl, run_takeDeferred hK, ?_⟩⟩
    have eo : outL c zs = allL c root := by unfold outL allL; rw [hzs]
    rw [eo] at rw1 nl1
    exact ⟨_, results_tmp rfl _ _ _, vo, rfl, ownsRow_putObj rw1 _ hK rfl, nl1, hB1.trans (belowK_b (w := w) (Nat.le_refl _) W D _ _ (by omega) hK rfl rfl)⟩
  case stop =>
    rintro D cc pre W _ _ h _
    exact h.elim
/-- The mappings that All hands back lie in a row of one's own. -/
def MapsAt (base : Nat) (w : World) (v : Value) (l : List (Nat × Ent)) : Prop := w.ownsRow base 106 5 v l.length (mapsV l) ∧ (v = .slice none 0 0 ↔ l = [])
/-- Each root's entries that are there name frames. -/
def TabsIn (n : Nat) (c : Nat → Int) (root : Nat) : Prop := ∀ k, k < 32 → (getR ((words c root).getD k 0)).p = true → PO n (k, getR ((words c root).getD k 0))
def allV (c : Nat → Int) (g : Int → Int) (root : Int) : List (Nat × Ent) := if g root = 0 then [] else allL c root.toNat
theorem all_ok {w : World} {A : MB} {B : PB} {c : Nat → Int} {f g : Int → Int} {q : Nat} (G : Geo B) (X : PtAt w A B c f g q) (hR : RootsIn B.n g) (root : Int) (hT : g root ≠ 0 → TabsIn B.n c root.toNat) (hw : wfI root) :
    Calls Tryd.prog 36 #[.pointer (some ⟨A.t, 0, none⟩), .int .i64 root] w fun r w' => ∃ v, r = .returned v ∧ MapsAt w.heap.size w' v (allV c g root) ∧ Keep nob w w' := by
  unfold allV
  by_cases h : g root = 0
  · rw [if_pos h]
    have K0 : Keep nob w (w.alloc (.cells #[.pointer (some ⟨A.t, 0, none⟩)] 70)) := (Keep.refl nob w).alloc _
    have C := asked_ok' (X.M.next K0) root 0 true hw
    have e : askE g root 0 true = 4 := by unfold askE; rw [if_pos ⟨by omega, by omega, rfl⟩, if_pos h]
    rw [e] at C
    replace C := Lib.hid C
    replace e := Lib.hid e
    replace h := Lib.hid h
    replace K0 := Lib.hid K0
    go_enter Tryd.func36, Tryd.ntmps36
    go_wp2_with fail
    refine Calls.mono (C.out) ?_
    rintro r w1 ⟨rfl, rfl⟩
    go_wp2_with fail
    go_ret
    exact ⟨_, rfl, ⟨⟨rfl, Or.inl ⟨rfl, rfl⟩⟩, by simp⟩, K0.out⟩
  · rw [if_neg h]
    obtain ⟨h0, h1⟩ := hR root h
    have hT := hT h
    obtain ⟨k, rfl⟩ : ∃ k : Nat, root = k := ⟨root.toNat, by omega⟩
    rw [Int.toNat_natCast] at hT ⊢
    exact (callsIn_wide.1 (all_in G X k (by omega) h hT)).mono fun r w' ⟨v, h1, h2, h3, h4⟩ => ⟨v, h1, ⟨h2, h3⟩, Keep.of_below h4⟩
end Go.Proofs.YtepmljcapobodaaDoor
