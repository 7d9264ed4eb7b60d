/- Used and left of all containers are together the first one's quota: plain. -/
import Derived.Test.YtepmljcapobodaaBudP
namespace Go.Proofs.Ytepmljcapobodaa
set_option linter.unusedVariables false
def sumT (l : List Nd) : List Nd → Int
  | [] => 0
  | x :: t => (x.us + leftN' l x.id) + sumT l t
def sumQ : List Nd → Int
  | [] => 0
  | x :: t => x.qt + sumQ t
def sumC (m : List Nd) : List Nd → Int
  | [] => 0
  | x :: t => carvN m x.id + sumC m t
def sumF (t : List Nd) : List Nd → Int
  | [] => 0
  | y :: m => (if findN t y.up = none then 0 else y.qt) + sumF t m
theorem sumT_cons (l : List Nd) (x : Nd) (t : List Nd) : sumT l (x :: t) = (x.us + leftN' l x.id) + sumT l t := rfl
theorem sumT_app (l a b : List Nd) : sumT l (a ++ b) = sumT l a + sumT l b := by
  induction a with
  | nil => simp [sumT]
  | cons x a ih => rw [List.cons_append, sumT_cons, sumT_cons, ih]; omega
theorem sumT_take (l : List Nd) {k : Nat} {x : Nd} (h : l[k]? = some x) : sumT l (l.take (k + 1)) = sumT l (l.take k) + x.us + leftN' l x.id := by
  rw [List.take_add_one, h, sumT_app]
  show _ + sumT l [x] = _
  rw [sumT_cons]
  show _ + (_ + 0) = _
  omega
theorem sumT_eq {l : List Nd} (s : l.Pairwise (fun x y => x.id < y.id)) : ∀ t : List Nd, (∀ x ∈ t, x ∈ l) → sumT l t = sumQ t - sumC l t
  | [], _ => rfl
  | x :: t, h => by
    rw [sumT_cons, sumT_eq s t (fun y hy => h y (List.mem_cons_of_mem _ hy))]
    have e := findN_of s (h x List.mem_cons_self)
    have : leftN' l x.id = x.qt - x.us - carvN l x.id := by unfold leftN'; rw [e]
    rw [this, show sumQ (x :: t) = x.qt + sumQ t from rfl, show sumC l (x :: t) = carvN l x.id + sumC l t from rfl]
    omega
theorem sumC_nil (t : List Nd) : sumC [] t = 0 := by
  induction t with
  | nil => rfl
  | cons x t ih => rw [show sumC [] (x :: t) = carvN [] x.id + sumC [] t from rfl, ih]; rfl
theorem sumC_step {t : List Nd} (s : t.Pairwise (fun x y => x.id < y.id)) (y : Nd) (m : List Nd) : sumC (y :: m) t = (if findN t y.up = none then 0 else y.qt) + sumC m t := by
  induction t with
  | nil => rfl
  | cons x t ih =>
    rw [List.pairwise_cons] at s
    rw [show sumC (y :: m) (x :: t) = carvN (y :: m) x.id + sumC (y :: m) t from rfl, show sumC m (x :: t) = carvN m x.id + sumC m t from rfl, carvN_cons, ih s.2, findN_cons]
    by_cases e : x.id = y.up
    · rw [if_pos e.symm, if_pos e]
      have : findN t y.up = none := by
        cases q : findN t y.up with
        | none => rfl
        | some z =>
          have h := findN_some q
          have := s.1 z h.1
          omega
      rw [if_pos this, if_neg (Option.some_ne_none x)]
      omega
    · rw [if_neg (fun z => e z.symm), if_neg e]
      omega
theorem sumC_eq {t : List Nd} (s : t.Pairwise (fun x y => x.id < y.id)) (m : List Nd) : sumC m t = sumF t m := by
  induction m with
  | nil => exact sumC_nil t
  | cons y m ih => rw [sumC_step s, ih]; rfl
def sumR : List Nd → Int
  | [] => 0
  | x :: t => (if x.id = 1 then x.qt else 0) + sumR t
theorem sumR_none {l : List Nd} (h : findN l 1 = none) : sumR l = 0 := by
  induction l with
  | nil => rfl
  | cons x l ih =>
    rw [findN_cons] at h
    by_cases e : x.id = 1
    · rw [if_pos e] at h; cases h
    · rw [if_neg e] at h
      rw [show sumR (x :: l) = (if x.id = 1 then x.qt else 0) + sumR l from rfl, if_neg e, ih h]
      rfl
theorem sumR_some {l : List Nd} (s : l.Pairwise (fun x y => x.id < y.id)) {x : Nd} (h : findN l 1 = some x) : sumR l = x.qt := by
  induction l with
  | nil => cases h
  | cons y l ih =>
    rw [List.pairwise_cons] at s
    rw [findN_cons] at h
    rw [show sumR (y :: l) = (if y.id = 1 then y.qt else 0) + sumR l from rfl]
    by_cases e : y.id = 1
    · rw [if_pos e] at h ⊢
      injection h with h
      subst h
      have : findN l 1 = none := by
        cases q : findN l 1 with
        | none => rfl
        | some z =>
          have h := findN_some q
          have := s.1 z h.1
          omega
      rw [sumR_none this]
      omega
    · rw [if_neg e] at h ⊢
      rw [ih s.2 h]
      omega
theorem sumQ_F {l : List Nd} (G : Good l) : ∀ m : List Nd, (∀ x ∈ m, x ∈ l) → sumQ m - sumF l m = sumR m
  | [], _ => rfl
  | y :: m, h => by
    have ih := sumQ_F G m (fun x hx => h x (List.mem_cons_of_mem _ hx))
    have hy := h y List.mem_cons_self
    rw [show sumQ (y :: m) = y.qt + sumQ m from rfl, show sumF l (y :: m) = (if findN l y.up = none then 0 else y.qt) + sumF l m from rfl, show sumR (y :: m) = (if y.id = 1 then y.qt else 0) + sumR m from rfl]
    have r := G.root y hy
    by_cases e : y.up = 0
    · have : findN l y.up = none := by
        rw [e]
        cases q : findN l 0 with
        | none => rfl
        | some z =>
          have h := findN_some q
          have := (G.ids z h.1).1
          omega
      rw [if_pos this, if_pos (r.1 e)]
      omega
    · rw [if_neg (G.ups y hy e), if_neg (fun z => e (r.2 z))]
      omega
/-- The first container's quota is q. -/
def Rq (q : Int) (l : List Nd) : Prop := ∀ x ∈ l, x.id = 1 → x.qt = q
theorem whole {l : List Nd} {q : Int} (G : Good l) (R : Rq q l) : sumT l l = q := by
  rw [sumT_eq G.srt l (fun _ h => h), sumC_eq G.srt, sumQ_F G l (fun _ h => h)]
  cases e : findN l 1 with
  | none => exact absurd e G.one
  | some x =>
    have h := findN_some e
    rw [sumR_some G.srt e]
    exact R x h.1 h.2
theorem sumT_rng {l : List Nd} (G : Good l) : ∀ t : List Nd, (∀ x ∈ t, x ∈ l) → 0 ≤ sumT l t ∧ sumT l t ≤ 131072 * t.length
  | [], _ => ⟨Int.le_refl _, by simp [sumT]⟩
  | x :: t, h => by
    have ih := sumT_rng G t (fun y hy => h y (List.mem_cons_of_mem _ hy))
    have hx := h x List.mem_cons_self
    have a := G.left x.id
    have b := G.us hx
    have c := (G.rng x hx).2.2.1
    rw [sumT_cons, List.length_cons]
    omega
theorem Good.sumT {l : List Nd} (G : Good l) (k : Nat) : 0 ≤ sumT l (l.take k) ∧ sumT l (l.take k) ≤ 1048576 := by
  have h := sumT_rng G (l.take k) (fun x hx => List.mem_of_mem_take hx)
  have := G.len
  have : (l.take k).length ≤ l.length := by rw [List.length_take]; omega
  omega
theorem Rq.start (q : Int) : Rq q [⟨1, 0, q, 0⟩] := by intro x hx _; rw [List.mem_singleton] at hx; subst hx; rfl
theorem Rq.opn {l : List Nd} {q id up n : Int} (G : Good l) (R : Rq q l) : Rq q (opnL l id up n) := by
  unfold opnL
  split
  · rename_i h
    obtain ⟨h1, h2, h3, h4⟩ := opn_ok h
    intro x hx e
    rcases ins_mem.1 hx with rfl | hx
    · have e : id = 1 := e
      rw [e] at h3
      exact absurd h3 G.one
    · exact R x hx e
  · exact R
theorem Rq.add {l : List Nd} {q id n : Int} (R : Rq q l) : Rq q (l.map (addU id n)) := by
  intro x hx e
  obtain ⟨y, hy, rfl⟩ := List.mem_map.1 hx
  have ed : (addU id n y).id = y.id ∧ (addU id n y).qt = y.qt := by unfold addU; split <;> exact ⟨rfl, rfl⟩
  rw [ed.1] at e
  rw [ed.2]
  exact R y hy e
theorem Rq.chg {l : List Nd} {q id n : Int} (R : Rq q l) : Rq q (chgL l id n) := by
  unfold chgL
  split
  · exact R.add
  · exact R
theorem Rq.ref {l : List Nd} {q id n : Int} (R : Rq q l) : Rq q (refL l id n) := by
  unfold refL
  split
  · exact R.add
  · exact R
theorem Rq.cls {l : List Nd} {q id : Int} (R : Rq q l) : Rq q (clsL l id) := by
  by_cases h : clsN l id = 0
  · obtain ⟨-, x, e, -⟩ := cls_ok h
    intro y hy e1
    obtain ⟨z, hz, -, rfl⟩ := cls_mem h e hy
    rw [(re_ed id x.up z).1] at e1
    rw [(re_ed id x.up z).2.1]
    exact R z hz e1
  · rw [clsL_no h]; exact R
/-! ### What is done to one changes what is left of no other one -/
theorem opn_other {l : List Nd} {id up n : Int} (G : Good l) (k : Int) (h1 : k ≠ id) (h2 : k ≠ up) : leftN' (opnL l id up n) k = leftN' l k := by
  unfold opnL
  split
  · rename_i h
    rw [opn_left h G, if_neg h1, if_neg h2]
  · rfl
theorem cls_other {l : List Nd} {id : Int} (G : Good l) (k : Int) (h1 : k ≠ id) (h2 : ∀ x, findN l id = some x → k ≠ x.up) : leftN' (clsL l id) k = leftN' l k := by
  by_cases h : clsN l id = 0
  · obtain ⟨-, x, e, -⟩ := cls_ok h
    rw [cls_left G h e, if_neg h1, if_neg (fun q => h2 x e q.1)]
  · rw [clsL_no h]
theorem chg_other {l : List Nd} {id n : Int} (k : Int) (h1 : k ≠ id) : leftN' (chgL l id n) k = leftN' l k := by
  unfold chgL
  split
  · rw [add_left, if_neg (fun q => h1 q.1)]
  · rfl
theorem ref_other {l : List Nd} {id n : Int} (k : Int) (h1 : k ≠ id) : leftN' (refL l id n) k = leftN' l k := by
  unfold refL
  split
  · rw [add_left, if_neg (fun q => h1 q.1)]
  · rfl
end Go.Proofs.Ytepmljcapobodaa
