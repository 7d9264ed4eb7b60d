/- Of the laws of layer 10: the slice of calls; what a list of mappings is behind a Set. -/
import Derived.Test.YtepmljcapobodaaDoorRefMap
namespace Go.Proofs.YtepmljcapobodaaDoor
open Go.ChangeShapes Go.WideShapes Go.ChangeAt Go.RowKit Go.Deep
set_option linter.unusedVariables false
set_option maxRecDepth 100000
structure Op10 where
  d : Int
  s : Int
  p : Int
  e : Ent
def op10Cells (o : Op10) : List Value := [.int .i64 o.d, .int .i64 o.s, .int .i64 o.p, .bool o.e.p, .bool o.e.w, .bool o.e.c, .int .i64 o.e.f]
def op10Fine (o : Op10) : Prop := wfI o.d ∧ wfI o.s ∧ wfI o.p ∧ wfI o.e.f
theorem op10_has (cs : List Value) (h : HasAll [.i .i64, .i .i64, .i .i64, .b, .b, .b, .i .i64] cs) : ∃ o, op10Fine o ∧ cs = op10Cells o := by
  obtain ⟨a, r1, e1, ⟨x, x1, hx⟩, h1⟩ := HasAll.cons h
  obtain ⟨b, r2, e2, ⟨y, y1, hy⟩, h2⟩ := HasAll.cons h1
  obtain ⟨c, r3, e3, ⟨z, z1, hz⟩, h3⟩ := HasAll.cons h2
  obtain ⟨d, r4, e4, ⟨p, p1⟩, h4⟩ := HasAll.cons h3
  obtain ⟨e, r5, e5, ⟨q, q1⟩, h5⟩ := HasAll.cons h4
  obtain ⟨f, r6, e6, ⟨t, t1⟩, h6⟩ := HasAll.cons h5
  obtain ⟨g, r7, e7, ⟨u, u1, hu⟩, h7⟩ := HasAll.cons h6
  have e8 := HasAll.nil h7
  rw [e1, e2, e3, e4, e5, e6, e7, e8, x1, y1, z1, p1, q1, t1, u1]
  exact ⟨⟨x, y, z, ⟨p, q, t, u⟩⟩, ⟨wfI_of hx, wfI_of hy, wfI_of hz, wfI_of hu⟩, rfl⟩
abbrev OpsAt (w : World) (v : Value) (l : List Op10) : Prop := RowsAt 7 op10Cells w v l
section
variable {H : Type} {enc : TypeId × Value → H} {w : World} {spare : Nat → Bool} {held : Bool}
theorem flatI10 : Flat 3 [.i .i64] := flat_int Tryd.underlying3
theorem cellsI10 : Tryd.prog.cellsOf 3 = 1 := by kernel_rfl
theorem flatB10 : Flat 4 [.b] := flat_bool Tryd.underlying4
theorem cellsB10 : Tryd.prog.cellsOf 4 = 1 := by kernel_rfl
theorem flatE10 : Flat 69 [.b, .b, .b, .i .i64] := flat_struct (ks := [[.b], [.b], [.b], [.i .i64]]) Tryd.underlying69 (by kernel_rfl) (.cons flatB10 rfl cellsB10 (.cons flatB10 rfl cellsB10 (.cons flatB10 rfl cellsB10 (.cons flatI10 rfl cellsI10 (.nil _)))))
theorem flatOp10 : Flat 90 [.i .i64, .i .i64, .i .i64, .b, .b, .b, .i .i64] := flat_struct (ks := [[.i .i64], [.i .i64], [.i .i64], [.b, .b, .b, .i .i64]]) Tryd.underlying90 (by kernel_rfl) (.cons flatI10 rfl cellsI10 (.cons flatI10 rfl cellsI10 (.cons flatI10 rfl cellsI10 (.cons flatE10 rfl cellsEnt (.nil _)))))
theorem open_ops10 {v : Value} {d : DataW H} {p : List MemPlace} {r : Reach} {b0 base : Nat}
    (hv : Value.okWide Tryd.prog w r b0 82 v) (h : DataW.Trod enc Tryd.prog w base spare held 82 v d p) : ∃ l : List Op10, OpsAt w v l ∧ ∀ o ∈ l, op10Fine o :=
  open_flat op10Cells op10Fine Tryd.underlying82 (by kernel_rfl) (by decide) flatOp10 op10_has hv h
end
/-! ### Lists of mappings -/
theorem cnt_most (P : Nat → Bool) : ∀ n, cnt P n ≤ n
  | 0 => Nat.le_refl _
  | n + 1 => by have := cnt_most P n; unfold cnt; split <;> omega
theorem allA_len (M : Nat → Nat → Ent) (g : Int → Int) (r : Int) : (allA M g r).length ≤ 1024 := by
  unfold allA
  split
  · simp
  · rw [presF_len]; exact cnt_most _ _
theorem presF_put {F : Nat → Ent} {p : Nat} {e : Ent} (hp : (F p).p = e.p) : ∀ k, presF (fun j => if j = p then e else F j) k = (presF F k).map (fun y => (y.1, if y.1 = p then e else y.2))
  | 0 => rfl
  | k + 1 => by
    rw [presF_succ, presF_succ, presF_put hp k]
    by_cases h : k = p
    · subst h
      rw [if_pos rfl, ← hp]
      split
      · rw [List.map_append, List.map_singleton, if_pos rfl]
      · rfl
    · rw [if_neg h]
      split
      · rw [List.map_append, List.map_singleton, if_neg h]
      · rfl
theorem allA_set (n : Nat) (M : Nat → Nat → Ent) (g : Int → Int) (r page : Int) (e : Ent) :
    allA (setM n M g r page e) g r = (allA M g r).map (fun y => (y.1, if setA n M g r page e = 0 ∧ (y.1 : Int) = page then e else y.2)) := by
  unfold setM
  by_cases h : setA n M g r page e = 0
  · rw [if_pos h]
    have h' := h
    unfold setA at h'
    by_cases a : askE g r page (fitB n e) = 0
    · rw [if_pos a] at h'
      obtain ⟨p0, p1, hb, hg⟩ := ask_range a
      have he := (fitB_ok hb).2
      have hp : (M r.toNat page.toNat).p = true := by
        cases q : (M r.toNat page.toNat).p with
        | true => rfl
        | false => rw [q] at h'; cases h'
      unfold allA
      rw [if_neg hg, if_neg hg]
      have e1 : updM M r.toNat page.toNat e r.toNat = fun j => if j = page.toNat then e else M r.toNat j := by
        funext j
        by_cases q : j = page.toNat
        · rw [if_pos q, q]; exact updM_at _ _ _ _
        · rw [if_neg q]; exact updM_ne (fun z => q z.2)
      rw [e1, presF_put (by rw [hp, he])]
      refine List.map_congr_left fun y _ => ?_
      have : (y.1 = page.toNat) ↔ (setA n M g r page e = 0 ∧ (y.1 : Int) = page) := by
        constructor
        · intro q; exact ⟨h, by omega⟩
        · rintro ⟨_, q⟩; omega
      simp only [this]
    · rw [if_neg a] at h'; exact absurd h' a
  · rw [if_neg h]
    have : (fun y : Nat × Ent => (y.1, if setA n M g r page e = 0 ∧ (y.1 : Int) = page then e else y.2)) = id := by
      funext y
      rw [if_neg (fun q => h q.1)]
      rfl
    rw [this, List.map_id]
theorem allA_other {M M' : Nat → Nat → Ent} {g : Int → Int} {r : Nat} (h : ∀ p, M' r p = M r p) : allA M' g r = allA M g r := by
  unfold allA
  split
  · rfl
  · rw [Int.toNat_natCast]; exact presF_congr fun j _ => h j
theorem mapM_other (n : Nat) (M : Nat → Nat → Ent) (g : Int → Int) (left r : Nat) (page : Int) (e : Ent) {x : Nat} (h : x ≠ r) (p : Nat) : mapM n M g left r page e x p = M x p := by
  unfold mapM
  split
  · exact updM_ne (fun q => h (by have := q.1; rw [Int.toNat_natCast] at this; exact this))
  · rfl
theorem unmM_other (M : Nat → Nat → Ent) (g : Int → Int) (r : Nat) (page : Int) {x : Nat} (h : x ≠ r) (p : Nat) : unmM M g r page x p = M x p := by
  unfold unmM
  split
  · exact updM_ne (fun q => h (by have := q.1; rw [Int.toNat_natCast] at this; exact this))
  · rfl
theorem setM_other (n : Nat) (M : Nat → Nat → Ent) (g : Int → Int) (r : Nat) (page : Int) (e : Ent) {x : Nat} (h : x ≠ r) (p : Nat) : setM n M g r page e x p = M x p := by
  unfold setM
  split
  · exact updM_ne (fun q => h (by have := q.1; rw [Int.toNat_natCast] at this; exact this))
  · rfl
end Go.Proofs.YtepmljcapobodaaDoor
