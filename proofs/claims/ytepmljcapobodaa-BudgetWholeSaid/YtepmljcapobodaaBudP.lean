/- Containers as a list: plain. -/
import Derived.Test.YtepmljcapobodaaLib
namespace Go.Proofs.Ytepmljcapobodaa
set_option linter.unusedVariables false
structure Nd where
  id : Int
  up : Int
  qt : Int
  us : Int
deriving DecidableEq
def findN : List Nd → Int → Option Nd
  | [], _ => none
  | x :: l, k => if x.id = k then some x else findN l k
def carvN : List Nd → Int → Int
  | [], _ => 0
  | x :: l, k => (if x.up = k then x.qt else 0) + carvN l k
def leftN' (l : List Nd) (k : Int) : Int :=
  match findN l k with
  | none => 0
  | some x => x.qt - x.us - carvN l k
def fitsN (id n : Int) : Bool := decide (1 ≤ id) && decide (id ≤ 8) && (decide (0 ≤ n) && decide (n ≤ 65536))
theorem fitsN_iff {id n : Int} : fitsN id n = true ↔ (1 ≤ id ∧ id ≤ 8) ∧ 0 ≤ n ∧ n ≤ 65536 := by simp [fitsN]
/-- 'asked' of a budget that is there. -/
def askN (l : List Nd) (id n : Int) : Int := if fitsN id n then (match findN l id with | none => 4 | some _ => 0) else 2
def opnN (l : List Nd) (id up q : Int) : Int :=
  if fitsN id q && fitsN up q then (if findN l up = none then 4 else if findN l id ≠ none then 5 else if leftN' l up < q then 3 else 0) else 2
def insN (l : List Nd) (x : Nd) : List Nd := l.takeWhile (fun y => decide (y.id < x.id)) ++ x :: l.dropWhile (fun y => decide (y.id < x.id))
def opnL (l : List Nd) (id up q : Int) : List Nd := if opnN l id up q = 0 then insN l ⟨id, up, q, 0⟩ else l
def clsN (l : List Nd) (id : Int) : Int :=
  if fitsN id 0 then (match findN l id with | none => 4 | some x => if id = 1 ∨ x.us ≠ 0 then 9 else 0) else 2
def reUp (id up : Int) (y : Nd) : Nd := if y.up = id then { y with up := up } else y
def delN (l : List Nd) (id : Int) : List Nd := l.filter (fun y => !decide (y.id = id))
def clsL (l : List Nd) (id : Int) : List Nd :=
  match findN l id with
  | none => l
  | some x => if clsN l id = 0 then (delN l id).map (reUp id x.up) else l
def chgN (l : List Nd) (id n : Int) : Int := if fitsN id n then (match findN l id with | none => 4 | some _ => if leftN' l id < n then 3 else 0) else 2
def addU (id n : Int) (y : Nd) : Nd := if y.id = id then { y with us := y.us + n } else y
def chgL (l : List Nd) (id n : Int) : List Nd := if chgN l id n = 0 then l.map (addU id n) else l
def refN (l : List Nd) (id n : Int) : Int := if fitsN id n then (match findN l id with | none => 4 | some x => if x.us < n then 9 else 0) else 2
def refL (l : List Nd) (id n : Int) : List Nd := if refN l id n = 0 then l.map (addU id (-n)) else l
/-- What a budget's containers are. -/
structure Good (l : List Nd) : Prop where
  srt : l.Pairwise (fun x y => x.id < y.id)
  ids : ∀ x ∈ l, 1 ≤ x.id ∧ x.id ≤ 8
  rng : ∀ x ∈ l, 0 ≤ x.qt ∧ x.qt ≤ 65536 ∧ 0 ≤ x.us ∧ 0 ≤ x.up ∧ x.up ≤ 8
  lft : ∀ x ∈ l, 0 ≤ leftN' l x.id
  one : findN l 1 ≠ none
  ups : ∀ x ∈ l, x.up ≠ 0 → findN l x.up ≠ none
  root : ∀ x ∈ l, x.up = 0 ↔ x.id = 1
  rk : ∃ r : Int → Nat, ∀ x ∈ l, x.up ≠ 0 → r x.up < r x.id
theorem findN_cons (x : Nd) (l : List Nd) (k : Int) : findN (x :: l) k = if x.id = k then some x else findN l k := rfl
theorem carvN_cons (x : Nd) (l : List Nd) (k : Int) : carvN (x :: l) k = (if x.up = k then x.qt else 0) + carvN l k := rfl
theorem findN_some {l : List Nd} {k : Int} {x : Nd} (h : findN l k = some x) : x ∈ l ∧ x.id = k := by
  induction l with
  | nil => cases h
  | cons y l ih =>
    unfold findN at h
    split at h
    · rename_i e; injection h with h; subst h; exact ⟨List.mem_cons_self, e⟩
    · exact ⟨List.mem_cons_of_mem _ (ih h).1, (ih h).2⟩
theorem findN_none {l : List Nd} {k : Int} (h : findN l k = none) : ∀ x ∈ l, x.id ≠ k := by
  induction l with
  | nil => intro x hx; cases hx
  | cons y l ih =>
    unfold findN at h
    split at h
    · cases h
    · rename_i e
      intro x hx
      rcases List.mem_cons.1 hx with rfl | hx
      · exact e
      · exact ih h x hx
theorem findN_of {l : List Nd} (s : l.Pairwise (fun x y => x.id < y.id)) {x : Nd} (h : x ∈ l) : findN l x.id = some x := by
  induction l with
  | nil => cases h
  | cons y l ih =>
    rw [List.pairwise_cons] at s
    unfold findN
    rcases List.mem_cons.1 h with rfl | h
    · rw [if_pos rfl]
    · rw [if_neg (by have := s.1 x h; omega)]
      exact ih s.2 h
theorem findN_mem {l : List Nd} {k : Int} : findN l k ≠ none ↔ ∃ x ∈ l, x.id = k := by
  constructor
  · intro h
    cases e : findN l k with
    | none => exact absurd e h
    | some x => exact ⟨x, findN_some e⟩
  · rintro ⟨x, hx, e⟩ h
    exact findN_none h x hx e
theorem carvN_app (a b : List Nd) (k : Int) : carvN (a ++ b) k = carvN a k + carvN b k := by
  induction a with
  | nil => simp [carvN]
  | cons x a ih => rw [List.cons_append, carvN_cons, carvN_cons, ih]; omega
theorem carvN_nonneg {l : List Nd} (h : ∀ x ∈ l, 0 ≤ x.qt) (k : Int) : 0 ≤ carvN l k := by
  induction l with
  | nil => simp [carvN]
  | cons x l ih =>
    unfold carvN
    have h1 := h x List.mem_cons_self
    have h2 := ih (fun y hy => h y (List.mem_cons_of_mem _ hy))
    split <;> omega
theorem carvN_le {l : List Nd} (h : ∀ x ∈ l, x.qt ≤ 65536) (k : Int) : carvN l k ≤ 65536 * l.length := by
  induction l with
  | nil => simp [carvN]
  | cons x l ih =>
    unfold carvN
    have h1 := h x List.mem_cons_self
    have h2 := ih (fun y hy => h y (List.mem_cons_of_mem _ hy))
    rw [List.length_cons]
    split <;> omega
theorem srt_len {l : List Nd} (s : l.Pairwise (fun x y => x.id < y.id)) {a : Int} (h1 : ∀ x ∈ l, a ≤ x.id ∧ x.id ≤ 8) (ha : a ≤ 9) : (l.length : Int) ≤ 9 - a := by
  induction l generalizing a with
  | nil => simp; omega
  | cons x l ih =>
    rw [List.pairwise_cons] at s
    have hx := h1 x List.mem_cons_self
    have := ih (a := x.id + 1) s.2 (fun y hy => ⟨by have := s.1 y hy; omega, (h1 y (List.mem_cons_of_mem _ hy)).2⟩) (by omega)
    rw [List.length_cons]
    omega
theorem Good.len {l : List Nd} (G : Good l) : l.length ≤ 8 := by
  have := srt_len G.srt (a := 1) G.ids (by omega)
  omega
theorem Good.carv {l : List Nd} (G : Good l) (k : Int) : 0 ≤ carvN l k ∧ carvN l k ≤ 524288 := by
  have h1 := carvN_nonneg (l := l) (fun x hx => (G.rng x hx).1) k
  have h2 := carvN_le (l := l) (fun x hx => (G.rng x hx).2.1) k
  have h3 := G.len
  constructor
  · exact h1
  · omega
theorem Good.us {l : List Nd} (G : Good l) {x : Nd} (h : x ∈ l) : x.us ≤ 65536 := by
  have h1 := G.lft x h
  have h2 := (G.carv x.id).1
  have h3 := (G.rng x h).2.1
  unfold leftN' at h1
  rw [findN_of G.srt h] at h1
  dsimp only at h1
  omega
theorem Good.left {l : List Nd} (G : Good l) (k : Int) : 0 ≤ leftN' l k ∧ leftN' l k ≤ 65536 := by
  cases e : findN l k with
  | none => unfold leftN'; rw [e]; exact ⟨Int.le_refl _, by dsimp only; decide⟩
  | some x =>
    obtain ⟨hx, rfl⟩ := findN_some e
    refine ⟨G.lft x hx, ?_⟩
    have h2 := (G.carv x.id).1
    have h3 := G.rng x hx
    unfold leftN'
    rw [e]
    dsimp only
    omega
/-! ### Turns -/
theorem Good.start {q : Int} (h0 : 0 ≤ q) (h1 : q ≤ 65536) : Good [⟨1, 0, q, 0⟩] := by
  refine ⟨by simp, by simp, by simp; omega, ?_, by simp [findN], by simp, by simp, fun _ => 0, by simp⟩
  intro x hx
  rw [List.mem_singleton] at hx
  subst hx
  simp [leftN', findN, carvN]
  omega
theorem find_app (a b : List Nd) (k : Int) : findN (a ++ b) k = match findN a k with | none => findN b k | some x => some x := by
  induction a with
  | nil => rfl
  | cons x a ih =>
    rw [List.cons_append, findN_cons, findN_cons]
    split
    · rfl
    · exact ih
theorem take_drop (l : List Nd) (k : Int) : l.takeWhile (fun y => decide (y.id < k)) ++ l.dropWhile (fun y => decide (y.id < k)) = l := List.takeWhile_append_dropWhile
theorem take_lt {l : List Nd} {k : Int} : ∀ x ∈ l.takeWhile (fun y => decide (y.id < k)), x.id < k := by
  induction l with
  | nil => intro x hx; cases hx
  | cons y l ih =>
    intro x hx
    rw [List.takeWhile_cons] at hx
    split at hx
    · rename_i e
      rcases List.mem_cons.1 hx with rfl | hx
      · simpa using e
      · exact ih x hx
    · cases hx
theorem drop_gt {l : List Nd} {k : Int} (s : l.Pairwise (fun x y => x.id < y.id)) (h : findN l k = none) : ∀ x ∈ l.dropWhile (fun y => decide (y.id < k)), k < x.id := by
  induction l with
  | nil => intro x hx; cases hx
  | cons y l ih =>
    rw [List.pairwise_cons] at s
    have hn := findN_none h
    intro x hx
    rw [List.dropWhile_cons] at hx
    split at hx
    · refine ih s.2 ?_ x hx
      unfold findN at h
      split at h
      · cases h
      · exact h
    · rename_i e
      have e : ¬ y.id < k := by simpa using e
      have e1 := hn y List.mem_cons_self
      rcases List.mem_cons.1 hx with rfl | hx
      · omega
      · have := s.1 x hx; omega
theorem ins_find {l : List Nd} {x : Nd} (h : findN l x.id = none) (k : Int) : findN (insN l x) k = if x.id = k then some x else findN l k := by
  have e : findN l k = match findN (l.takeWhile (fun y => decide (y.id < x.id))) k with | none => findN (l.dropWhile (fun y => decide (y.id < x.id))) k | some z => some z := by
    rw [← find_app, take_drop]
  unfold insN
  rw [find_app, show findN (x :: l.dropWhile fun y => decide (y.id < x.id)) k = if x.id = k then some x else findN (l.dropWhile fun y => decide (y.id < x.id)) k from rfl]
  by_cases q : x.id = k
  · subst q
    rw [if_pos rfl, if_pos rfl]
    rw [h] at e
    cases e2 : findN (l.takeWhile (fun y => decide (y.id < x.id))) x.id with
    | none => rfl
    | some z => rw [e2] at e; cases e
  · rw [if_neg q, if_neg q, e]
theorem ins_carv (l : List Nd) (x : Nd) (k : Int) : carvN (insN l x) k = (if x.up = k then x.qt else 0) + carvN l k := by
  unfold insN
  rw [carvN_app, show carvN (x :: l.dropWhile fun y => decide (y.id < x.id)) k = (if x.up = k then x.qt else 0) + carvN (l.dropWhile fun y => decide (y.id < x.id)) k from rfl]
  have := carvN_app (l.takeWhile (fun y => decide (y.id < x.id))) (l.dropWhile (fun y => decide (y.id < x.id))) k
  rw [take_drop] at this
  omega
theorem ins_mem {l : List Nd} {x y : Nd} : y ∈ insN l x ↔ y = x ∨ y ∈ l := by
  unfold insN
  rw [List.mem_append, List.mem_cons]
  have : y ∈ l ↔ y ∈ l.takeWhile (fun y => decide (y.id < x.id)) ∨ y ∈ l.dropWhile (fun y => decide (y.id < x.id)) := by
    rw [← List.mem_append, take_drop]
  rw [this]
  constructor
  · rintro (h | h | h)
    · exact Or.inr (Or.inl h)
    · exact Or.inl h
    · exact Or.inr (Or.inr h)
  · rintro (h | h | h)
    · exact Or.inr (Or.inl h)
    · exact Or.inl h
    · exact Or.inr (Or.inr h)
theorem ins_srt {l : List Nd} {x : Nd} (s : l.Pairwise (fun x y => x.id < y.id)) (h : findN l x.id = none) : (insN l x).Pairwise (fun x y => x.id < y.id) := by
  have t := take_lt (l := l) (k := x.id)
  have d := drop_gt s h
  have s2 := s
  rw [← take_drop l x.id, List.pairwise_append] at s2
  unfold insN
  rw [List.pairwise_append]
  refine ⟨s2.1, ?_, ?_⟩
  · rw [List.pairwise_cons]
    exact ⟨d, s2.2.1⟩
  · intro a ha b hb
    rcases List.mem_cons.1 hb with rfl | hb
    · exact t a ha
    · have := t a ha; have := d b hb; omega
theorem opn_ok {l : List Nd} {id up q : Int} (h : opnN l id up q = 0) : ((1 ≤ id ∧ id ≤ 8) ∧ (1 ≤ up ∧ up ≤ 8) ∧ 0 ≤ q ∧ q ≤ 65536) ∧ findN l up ≠ none ∧ findN l id = none ∧ q ≤ leftN' l up := by
  unfold opnN at h
  split at h
  · rename_i f
    rw [Bool.and_eq_true, fitsN_iff, fitsN_iff] at f
    split at h
    · cases h
    · rename_i h1
      split at h
      · cases h
      · rename_i h2
        split at h
        · cases h
        · rename_i h3
          exact ⟨⟨f.1.1, f.2.1, f.1.2⟩, h1, by simpa using h2, by omega⟩
  · cases h
theorem opn_left {l : List Nd} {id up q : Int} (h : opnN l id up q = 0) (G : Good l) (k : Int) : leftN' (insN l ⟨id, up, q, 0⟩) k = if k = id then q else if k = up then leftN' l up - q else leftN' l k := by
  obtain ⟨h1, h2, h3, h4⟩ := opn_ok h
  unfold leftN'
  rw [ins_find h3 k, ins_carv]
  by_cases e : k = id
  · subst e
    rw [if_pos rfl, if_pos rfl]
    have eu : up ≠ k := fun e => by rw [e] at h2; exact h2 h3
    have : carvN l k = 0 := by
      have ho : ∀ x ∈ l, x.up ≠ k := fun x hx e => by
        by_cases z : x.up = 0
        · omega
        · have := G.ups x hx z; rw [e] at this; exact this h3
      clear G h2 h3 h4 h
      induction l with
      | nil => rfl
      | cons x l ih =>
        unfold carvN
        rw [if_neg (ho x List.mem_cons_self), ih (fun y hy => ho y (List.mem_cons_of_mem _ hy))]
        rfl
    dsimp only
    rw [if_neg eu, this]
    omega
  · rw [if_neg (fun q => e q.symm), if_neg e]
    by_cases e2 : k = up
    · subst e2
      rw [if_pos rfl, if_pos rfl]
      cases e3 : findN l k with
      | none => exact absurd e3 h2
      | some x => dsimp only; omega
    · rw [if_neg e2, if_neg (fun q => e2 q.symm)]
      cases findN l k with
      | none => rfl
      | some x => dsimp only; omega
theorem Good.opn {l : List Nd} {id up q : Int} (G : Good l) : Good (opnL l id up q) := by
  unfold opnL
  split
  · rename_i h
    obtain ⟨h1, h2, h3, h4⟩ := opn_ok h
    refine ⟨ins_srt G.srt h3, fun x hx => ?_, fun x hx => ?_, fun x hx => ?_, ?_, fun x hx hz => ?_, fun x hx => ?_, ?_⟩
    · rcases ins_mem.1 hx with rfl | hx
      · exact ⟨h1.1.1, h1.1.2⟩
      · exact G.ids x hx
    · rcases ins_mem.1 hx with rfl | hx
      · dsimp only; omega
      · exact G.rng x hx
    · rw [opn_left h G]
      split
      · omega
      · split
        · omega
        · rcases ins_mem.1 hx with rfl | hx
          · rename_i e _; exact absurd rfl e
          · exact G.lft x hx
    · rw [ins_find h3]
      split
      · simp
      · exact G.one
    · rw [ins_find h3]
      split
      · simp
      · rcases ins_mem.1 hx with rfl | hx
        · exact h2
        · exact G.ups x hx hz
    · rcases ins_mem.1 hx with rfl | hx
      · dsimp only
        constructor
        · intro e; omega
        · intro e; rw [e] at h3; exact absurd h3 G.one
      · exact G.root x hx
    · obtain ⟨r, hr⟩ := G.rk
      refine ⟨fun k => if k = id then r up + 1 else r k, fun x hx hz => ?_⟩
      rcases ins_mem.1 hx with rfl | hx
      · dsimp only
        rw [if_pos rfl, if_neg (fun e => by rw [e] at h2; exact h2 h3)]
        omega
      · dsimp only
        rw [if_neg (fun e => by have := G.ups x hx hz; rw [e] at this; exact this h3), if_neg (findN_none h3 x hx)]
        exact hr x hx hz
  · exact G
theorem add_find (l : List Nd) (id n k : Int) : findN (l.map (addU id n)) k = (findN l k).map (addU id n) := by
  induction l with
  | nil => rfl
  | cons x l ih =>
    rw [List.map_cons]
    have e : (addU id n x).id = x.id := by unfold addU; split <;> rfl
    unfold findN
    rw [e]
    split
    · rfl
    · exact ih
theorem add_carv (l : List Nd) (id n k : Int) : carvN (l.map (addU id n)) k = carvN l k := by
  induction l with
  | nil => rfl
  | cons x l ih =>
    rw [List.map_cons]
    have e : (addU id n x).up = x.up ∧ (addU id n x).qt = x.qt := by unfold addU; split <;> exact ⟨rfl, rfl⟩
    unfold carvN
    rw [e.1, e.2, ih]
theorem add_left (l : List Nd) (id n k : Int) : leftN' (l.map (addU id n)) k = if k = id ∧ findN l k ≠ none then leftN' l k - n else leftN' l k := by
  unfold leftN'
  rw [add_find, add_carv]
  cases e : findN l k with
  | none => simp
  | some x =>
    have := (findN_some e).2
    simp only [Option.map_some, addU, ne_eq, reduceCtorEq, not_false_eq_true, and_true, this]
    by_cases q : k = id
    · rw [if_pos q, if_pos q]; dsimp only; omega
    · rw [if_neg q, if_neg q]
theorem Good.add {l : List Nd} {id n : Int} (G : Good l) (h : ∀ x, findN l id = some x → 0 ≤ x.us + n ∧ n ≤ leftN' l id) : Good (l.map (addU id n)) := by
  have ed : ∀ x, (addU id n x).id = x.id ∧ (addU id n x).up = x.up ∧ (addU id n x).qt = x.qt := fun x => by unfold addU; split <;> exact ⟨rfl, rfl, rfl⟩
  refine ⟨?_, fun x hx => ?_, fun x hx => ?_, fun x hx => ?_, ?_, fun x hx hz => ?_, fun x hx => ?_, ?_⟩
  · rw [List.pairwise_map]
    exact G.srt.imp fun {a b} hab => by rw [(ed a).1, (ed b).1]; exact hab
  · obtain ⟨y, hy, rfl⟩ := List.mem_map.1 hx
    rw [(ed y).1]; exact G.ids y hy
  · obtain ⟨y, hy, rfl⟩ := List.mem_map.1 hx
    have r := G.rng y hy
    rw [(ed y).2.1, (ed y).2.2]
    refine ⟨r.1, r.2.1, ?_, r.2.2.2⟩
    unfold addU
    split
    · rename_i e
      have := findN_of G.srt hy
      rw [e] at this
      exact (h y this).1
    · exact r.2.2.1
  · obtain ⟨y, hy, rfl⟩ := List.mem_map.1 hx
    rw [(ed y).1, add_left]
    have := G.lft y hy
    split
    · rename_i e
      have e2 := findN_of G.srt hy
      rw [e.1] at e2 ⊢
      have := (h y e2).2
      omega
    · exact this
  · rw [add_find]
    cases e : findN l 1 with
    | none => exact absurd e G.one
    | some x => simp
  · obtain ⟨y, hy, rfl⟩ := List.mem_map.1 hx
    rw [(ed y).2.1] at hz ⊢
    rw [add_find]
    have := G.ups y hy hz
    cases e : findN l y.up with
    | none => exact absurd e this
    | some x => simp
  · obtain ⟨y, hy, rfl⟩ := List.mem_map.1 hx
    rw [(ed y).1, (ed y).2.1]
    exact G.root y hy
  · obtain ⟨r, hr⟩ := G.rk
    refine ⟨r, fun x hx hz => ?_⟩
    obtain ⟨y, hy, rfl⟩ := List.mem_map.1 hx
    rw [(ed y).2.1] at hz ⊢
    rw [(ed y).1]
    exact hr y hy hz
theorem chg_ok {l : List Nd} {id n : Int} (h : chgN l id n = 0) : ((1 ≤ id ∧ id ≤ 8) ∧ 0 ≤ n ∧ n ≤ 65536) ∧ findN l id ≠ none ∧ n ≤ leftN' l id := by
  unfold chgN at h
  split at h
  · rename_i f
    rw [fitsN_iff] at f
    split at h
    · cases h
    · rename_i x e
      split at h
      · cases h
      · exact ⟨f, by rw [e]; simp, by omega⟩
  · cases h
theorem ref_ok {l : List Nd} {id n : Int} (h : refN l id n = 0) : ((1 ≤ id ∧ id ≤ 8) ∧ 0 ≤ n ∧ n ≤ 65536) ∧ ∃ x, findN l id = some x ∧ n ≤ x.us := by
  unfold refN at h
  split at h
  · rename_i f
    rw [fitsN_iff] at f
    split at h
    · cases h
    · rename_i x e
      split at h
      · cases h
      · exact ⟨f, x, e, by omega⟩
  · cases h
theorem Good.chg {l : List Nd} {id n : Int} (G : Good l) : Good (chgL l id n) := by
  unfold chgL
  split
  · rename_i h
    obtain ⟨h1, h2, h3⟩ := chg_ok h
    refine G.add fun x e => ⟨?_, h3⟩
    have := (G.rng x (findN_some e).1).2.2.1
    omega
  · exact G
theorem Good.ref {l : List Nd} {id n : Int} (G : Good l) : Good (refL l id n) := by
  unfold refL
  split
  · rename_i h
    obtain ⟨h1, x, h2, h3⟩ := ref_ok h
    refine G.add fun y e => ?_
    rw [h2] at e
    injection e with e
    subst e
    have := (G.left id).1
    exact ⟨by omega, by omega⟩
  · exact G
theorem cls_ok {l : List Nd} {id : Int} (h : clsN l id = 0) : (1 ≤ id ∧ id ≤ 8) ∧ ∃ x, findN l id = some x ∧ id ≠ 1 ∧ x.us = 0 := by
  unfold clsN at h
  split at h
  · rename_i f
    rw [fitsN_iff] at f
    split at h
    · cases h
    · rename_i x e
      split at h
      · cases h
      · rename_i hn
        exact ⟨f.1, x, e, fun q => hn (Or.inl q), by by_cases z : x.us = 0; exact z; exact absurd (Or.inr z) hn⟩
  · cases h
theorem del_find (l : List Nd) (id k : Int) : findN (delN l id) k = if k = id then none else findN l k := by
  induction l with
  | nil => exact (ite_self none).symm
  | cons x l ih =>
    unfold delN at ih ⊢
    rw [List.filter_cons]
    by_cases e : x.id = id
    · rw [if_neg (by simp [e]), ih]
      by_cases q : k = id
      · rw [if_pos q, if_pos q]
      · rw [if_neg q, if_neg q]
        conv => rhs; unfold findN
        rw [if_neg (fun z => q (by omega))]
    · rw [if_pos (by simp [e])]
      unfold findN
      by_cases q : x.id = k
      · rw [if_pos q, if_pos q, if_neg (fun z => e (by omega))]
      · rw [if_neg q, if_neg q, ih]
theorem del_carv {l : List Nd} (s : l.Pairwise (fun x y => x.id < y.id)) {x : Nd} (h : x ∈ l) (k : Int) : carvN (delN l x.id) k + (if x.up = k then x.qt else 0) = carvN l k := by
  induction l with
  | nil => cases h
  | cons y l ih =>
    rw [List.pairwise_cons] at s
    unfold delN
    rw [List.filter_cons]
    rcases List.mem_cons.1 h with rfl | h
    · rw [if_neg (by simp)]
      have : l.filter (fun y => !decide (y.id = x.id)) = l := by
        rw [List.filter_eq_self]
        intro z hz
        have := s.1 z hz
        simp; omega
      rw [this]
      conv => rhs; unfold carvN
      omega
    · rw [if_pos (by have := s.1 x h; simp; omega)]
      have := ih s.2 h
      unfold delN at this
      unfold carvN
      omega
theorem re_find (l : List Nd) (id up k : Int) : findN (l.map (reUp id up)) k = (findN l k).map (reUp id up) := by
  induction l with
  | nil => rfl
  | cons x l ih =>
    rw [List.map_cons]
    have e : (reUp id up x).id = x.id := by unfold reUp; split <;> rfl
    unfold findN
    rw [e]
    split
    · rfl
    · exact ih
theorem re_carv (l : List Nd) {id up : Int} (hne : up ≠ id) (k : Int) : carvN (l.map (reUp id up)) k = if k = id then 0 else if k = up then carvN l k + carvN l id else carvN l k := by
  induction l with
  | nil => simp [carvN]
  | cons x l ih =>
    rw [List.map_cons]
    unfold carvN
    rw [ih]
    unfold reUp
    by_cases q : x.up = id
    · rw [if_pos q]
      dsimp only
      by_cases e : k = id
      · subst e; rw [if_neg hne, if_pos rfl, if_pos rfl]; omega
      · rw [if_neg e, if_neg e]
        by_cases e2 : k = up
        · subst e2; rw [if_pos rfl, if_pos rfl, if_pos rfl, if_neg (fun z => e (by omega)), if_pos q]; omega
        · rw [if_neg (fun z => e2 z.symm), if_neg e2, if_neg e2, if_neg (fun z => e (by omega))]
    · rw [if_neg q]
      by_cases e : k = id
      · subst e; rw [if_neg q, if_pos rfl, if_pos rfl]; rfl
      · rw [if_neg e, if_neg e]
        by_cases e2 : k = up
        · rw [if_pos e2, if_pos e2, if_neg q]; omega
        · rw [if_neg e2, if_neg e2]
theorem clsL_eq {l : List Nd} {id : Int} {x : Nd} (h : clsN l id = 0) (e : findN l id = some x) : clsL l id = (delN l id).map (reUp id x.up) := by
  unfold clsL; rw [e]; dsimp only; rw [if_pos h]
theorem clsL_no {l : List Nd} {id : Int} (h : clsN l id ≠ 0) : clsL l id = l := by
  unfold clsL
  split
  · rfl
  · rw [if_neg h]
theorem Good.upNe {l : List Nd} (G : Good l) {x : Nd} (h : x ∈ l) : x.up ≠ x.id := by
  intro e
  by_cases z : x.up = 0
  · have := G.ids x h; omega
  · obtain ⟨r, hr⟩ := G.rk
    have := hr x h z
    rw [e] at this
    exact Nat.lt_irrefl _ this
theorem cls_find {l : List Nd} {id : Int} {x : Nd} (h : clsN l id = 0) (e : findN l id = some x) (k : Int) : findN (clsL l id) k = if k = id then none else (findN l k).map (reUp id x.up) := by
  rw [clsL_eq h e, re_find, del_find]
  split <;> rfl
theorem cls_carv {l : List Nd} (G : Good l) {id : Int} {x : Nd} (h : clsN l id = 0) (e : findN l id = some x) (k : Int) : carvN (clsL l id) k = if k = id then 0 else if k = x.up then carvN l k - x.qt + carvN l id else carvN l k := by
  obtain ⟨hx, rfl⟩ := findN_some e
  have ne := G.upNe hx
  rw [clsL_eq h e, re_carv _ ne]
  have d := fun k => del_carv G.srt hx k
  by_cases q : k = x.id
  · rw [if_pos q, if_pos q]
  · rw [if_neg q, if_neg q]
    have d1 := d k
    have d2 := d x.id
    rw [if_neg ne] at d2
    by_cases q2 : k = x.up
    · rw [if_pos q2.symm] at d1
      rw [if_pos q2, if_pos q2]
      omega
    · rw [if_neg (fun z => q2 z.symm)] at d1
      rw [if_neg q2, if_neg q2]
      omega
theorem re_ed (id up : Int) (x : Nd) : (reUp id up x).id = x.id ∧ (reUp id up x).qt = x.qt ∧ (reUp id up x).us = x.us := by unfold reUp; split <;> exact ⟨rfl, rfl, rfl⟩
theorem cls_left {l : List Nd} (G : Good l) {id : Int} {x : Nd} (h : clsN l id = 0) (e : findN l id = some x) (k : Int) : leftN' (clsL l id) k = if k = id then 0 else if k = x.up ∧ findN l k ≠ none then leftN' l k + leftN' l id else leftN' l k := by
  obtain ⟨-, x', e', -, hu⟩ := cls_ok h
  rw [e] at e'
  injection e' with e'
  subst e'
  have el : leftN' l id = x.qt - carvN l id := by unfold leftN'; rw [e]; dsimp only; omega
  rw [el]
  unfold leftN'
  rw [cls_find h e, cls_carv G h e]
  by_cases q : k = id
  · rw [if_pos q, if_pos q, if_pos q]
  · rw [if_neg q, if_neg q, if_neg q]
    cases e2 : findN l k with
    | none => simp
    | some y =>
      have r := re_ed id x.up y
      simp only [Option.map_some, r.2.1, r.2.2, ne_eq, reduceCtorEq, not_false_eq_true, and_true]
      by_cases q2 : k = x.up
      · rw [if_pos q2, if_pos q2]; omega
      · rw [if_neg q2, if_neg q2]
theorem cls_mem {l : List Nd} {id : Int} {x : Nd} (h : clsN l id = 0) (e : findN l id = some x) {y : Nd} (hy : y ∈ clsL l id) : ∃ z ∈ l, z.id ≠ id ∧ y = reUp id x.up z := by
  rw [clsL_eq h e] at hy
  obtain ⟨z, hz, rfl⟩ := List.mem_map.1 hy
  unfold delN at hz
  rw [List.mem_filter] at hz
  exact ⟨z, hz.1, by simpa using hz.2, rfl⟩
theorem Good.cls {l : List Nd} {id : Int} (G : Good l) : Good (clsL l id) := by
  by_cases h : clsN l id = 0
  · obtain ⟨h1, x, e, n1, hu⟩ := cls_ok h
    obtain ⟨hx, hid⟩ := findN_some e
    have hup : x.up ≠ 0 := fun z => n1 (by rw [← hid]; exact (G.root x hx).1 z)
    have hxr := G.rng x hx
    refine ⟨?_, fun y hy => ?_, fun y hy => ?_, fun y hy => ?_, ?_, fun y hy hz => ?_, fun y hy => ?_, ?_⟩
    · rw [clsL_eq h e, List.pairwise_map]
      exact (G.srt.filter _).imp fun {a b} hab => by rw [(re_ed id x.up a).1, (re_ed id x.up b).1]; exact hab
    · obtain ⟨z, hz, nz, rfl⟩ := cls_mem h e hy
      rw [(re_ed id x.up z).1]; exact G.ids z hz
    · obtain ⟨z, hz, nz, rfl⟩ := cls_mem h e hy
      have r := G.rng z hz
      rw [(re_ed id x.up z).2.1, (re_ed id x.up z).2.2]
      refine ⟨r.1, r.2.1, r.2.2.1, ?_⟩
      unfold reUp
      split
      · exact hxr.2.2.2
      · exact r.2.2.2
    · obtain ⟨z, hz, nz, rfl⟩ := cls_mem h e hy
      rw [(re_ed id x.up z).1, cls_left G h e]
      have := G.lft z hz
      have := (G.left id).1
      split
      · omega
      · split <;> omega
    · rw [cls_find h e, if_neg (fun q => n1 q.symm)]
      cases e2 : findN l 1 with
      | none => exact absurd e2 G.one
      | some y => simp
    · obtain ⟨z, hz', nz, rfl⟩ := cls_mem h e hy
      have key : (reUp id x.up z).up ≠ id ∧ findN l (reUp id x.up z).up ≠ none := by
        unfold reUp at hz ⊢
        split
        · dsimp only
          have := G.upNe hx
          exact ⟨by omega, G.ups x hx hup⟩
        · rename_i q
          rw [if_neg q] at hz
          exact ⟨q, G.ups z hz' hz⟩
      rw [cls_find h e, if_neg key.1]
      cases e2 : findN l (reUp id x.up z).up with
      | none => exact absurd e2 key.2
      | some y => simp
    · obtain ⟨z, hz', nz, rfl⟩ := cls_mem h e hy
      have := G.root z hz'
      rw [(re_ed id x.up z).1]
      unfold reUp
      split
      · rename_i q
        dsimp only
        constructor
        · intro w; exact absurd w hup
        · intro w; have := this.2 w; omega
      · exact this
    · obtain ⟨r, hr⟩ := G.rk
      refine ⟨r, fun y hy hz => ?_⟩
      obtain ⟨z, hz', nz, rfl⟩ := cls_mem h e hy
      rw [(re_ed id x.up z).1]
      unfold reUp at hz ⊢
      split
      · rename_i q
        dsimp only
        have a1 := hr x hx hup
        have a2 := hr z hz' (by rw [q]; omega)
        rw [q] at a2
        rw [hid] at a1
        omega
      · rename_i q
        rw [if_neg q] at hz
        exact hr z hz' hz
  · rw [clsL_no h]
    exact G
end Go.Proofs.Ytepmljcapobodaa
