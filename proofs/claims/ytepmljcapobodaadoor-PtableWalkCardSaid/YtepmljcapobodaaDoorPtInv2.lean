/- What a manager tells, of the mappings. -/
import Derived.Test.YtepmljcapobodaaDoorPtInv
namespace Go.Proofs.YtepmljcapobodaaDoor
open Go.RowKit
set_option linter.unusedVariables false
set_option maxRecDepth 100000
def presF (F : Nat → Ent) : Nat → List (Nat × Ent)
  | 0 => []
  | k + 1 => if (F k).p then presF F k ++ [(k, F k)] else presF F k
theorem presF_succ (F : Nat → Ent) (k : Nat) : presF F (k + 1) = if (F k).p then presF F k ++ [(k, F k)] else presF F k := rfl
theorem presF_congr {F H : Nat → Ent} : ∀ {k : Nat}, (∀ j, j < k → F j = H j) → presF F k = presF H k
  | 0, _ => rfl
  | k + 1, h => by
    unfold presF
    rw [presF_congr (k := k) (fun j hj => h j (by omega)), h k (by omega)]
theorem presF_add (F : Nat → Ent) (a : Nat) : ∀ b, presF F (a + b) = presF F a ++ (presF (fun j => F (a + j)) b).map (fun y => (a + y.1, y.2))
  | 0 => by simp [presF]
  | b + 1 => by
    rw [← Nat.add_assoc]
    show presF F (a + b + 1) = _ ++ (presF (fun j => F (a + j)) (b + 1)).map _
    rw [presF_succ, presF_succ, presF_add F a b]
    cases h : (F (a + b)).p with
    | true => simp
    | false => simp
theorem presF_none {F : Nat → Ent} : ∀ {k : Nat}, (∀ j, j < k → (F j).p = false) → presF F k = []
  | 0, _ => rfl
  | k + 1, h => by
    unfold presF
    rw [h k (by omega), presF_none (k := k) (fun j hj => h j (by omega))]
    rfl
theorem presF_some {F : Nat → Ent} {k j : Nat} (hj : j < k) (h : (F j).p = true) : presF F k ≠ [] := by
  induction k with
  | zero => omega
  | succ k ih =>
    unfold presF
    by_cases e : j = k
    · subst e; rw [h]; simp
    · split
      · simp
      · exact ih (by omega)
theorem presF_mem {F : Nat → Ent} {x : Nat × Ent} : ∀ {k : Nat}, x ∈ presF F k → x.1 < k ∧ x.2 = F x.1 ∧ (F x.1).p = true
  | 0, h => by cases h
  | k + 1, h => by
    unfold presF at h
    split at h
    · rename_i hp
      rcases List.mem_append.1 h with h | h
      · have := presF_mem h; exact ⟨by omega, this.2⟩
      · rw [List.mem_singleton] at h; subst h; exact ⟨by simp, rfl, hp⟩
    · have := presF_mem h; exact ⟨by omega, this.2⟩
theorem presF_len (F : Nat → Ent) : ∀ k, (presF F k).length = cnt (fun j => (F j).p) k
  | 0 => rfl
  | k + 1 => by
    unfold presF cnt
    rw [← presF_len F k]
    split <;> simp
theorem presL_F (ws : List Int) : ∀ k, presL ws k = presF (fun j => getR (ws.getD j 0)) k
  | 0 => rfl
  | k + 1 => by unfold presL presF; rw [presL_F ws k]
theorem words_getD (c : Nat → Int) (t : Nat) {j : Nat} (hj : j < 32) : (words c t).getD j 0 = c (t * 32 + j) := by
  rw [List.getD_eq_getElem?_getD, words_get c t j hj]; rfl
theorem presL_words (c : Nat → Int) (t : Nat) : presL (words c t) 32 = presF (fun j => getR (c (t * 32 + j))) 32 := by
  rw [presL_F]
  exact presF_congr fun j hj => by rw [words_getD c t hj]
/-- A space's i-th table has something. -/
def live (M : Nat → Nat → Ent) (r i : Nat) : Bool := !(presF (fun j => M r (i * 32 + j)) 32).isEmpty
def Full (M : Nat → Nat → Ent) (T : Nat → Nat → Option Nat) : Prop := ∀ r i k, T r i = some k → live M r i = true
theorem live_of {M : Nat → Nat → Ent} {r i j : Nat} (hj : j < 32) (h : (M r (i * 32 + j)).p = true) : live M r i = true := by
  unfold live
  cases e : presF (fun j => M r (i * 32 + j)) 32 with
  | nil => exact absurd e (presF_some hj h)
  | cons a l => rfl
theorem live_not {M : Nat → Nat → Ent} {r i : Nat} (h : ∀ j, j < 32 → (M r (i * 32 + j)).p = false) : live M r i = false := by
  unfold live
  rw [presF_none h]
  rfl
theorem live_no {M : Nat → Nat → Ent} {r i : Nat} (h : live M r i = false) : ∀ j, j < 32 → (M r (i * 32 + j)).p = false := by
  intro j hj
  cases e : (M r (i * 32 + j)).p with
  | false => rfl
  | true => rw [live_of hj e] at h; cases h
theorem live_congr {M N : Nat → Nat → Ent} {r i : Nat} (h : ∀ j, j < 32 → M r (i * 32 + j) = N r (i * 32 + j)) : live M r i = live N r i := by
  unfold live; rw [presF_congr h]
section
variable {B : PB} {many : Nat} {c : Nat → Int} {f g : Int → Int} {M : Nat → Nat → Ent} {T : Nat → Nat → Option Nat}
def tabT (o : Option Nat) : Ent := match o with | none => Ent.zero | some k => ⟨true, true, false, k⟩
theorem tabT_p (o : Option Nat) : (tabT o).p = o.isSome := by cases o <;> rfl
theorem PInv.nolive (I : PInv B many c f g M T) {r i : Nat} (h : T r i = none) : live M r i = false := live_not fun j hj => by rw [I.mz r i j h hj]; rfl
theorem PInv.live (I : PInv B many c f g M T) (F : Full M T) (r i : Nat) : (T r i).isSome = live M r i := by
  cases h : T r i with
  | none => exact (I.nolive h).symm
  | some k => exact (F _ _ _ h).symm
theorem PInv.row (I : PInv B many c f g M T) (hn : B.n ≤ 1024) {r : Nat} (hr : g (r : Int) ≠ 0) {i : Nat} (hi : i < 32) : getR (c (r * 32 + i)) = tabT (T r i) := by
  rw [I.cr r i hr hi]
  have hm := I.hm
  cases e : T r i with
  | none => exact get_zero
  | some k =>
    have := (I.hT _ _ _ e).2.2.1
    exact ent_back (ok_table (by omega) (by omega))
theorem PInv.rootL (I : PInv B many c f g M T) (hn : B.n ≤ 1024) {r : Nat} (hr : g (r : Int) ≠ 0) : presL (words c r) 32 = presF (fun i => tabT (T r i)) 32 := by
  rw [presL_words]
  exact presF_congr fun i hi => I.row hn hr hi
theorem PInv.tabL (I : PInv B many c f g M T) {r i k : Nat} (h : T r i = some k) : presL (words c k) 32 = presF (fun j => M r (i * 32 + j)) 32 := by
  rw [presL_words]
  exact presF_congr fun j hj => by rw [I.ct r i k j h hj]; exact ent_back (I.okM _ _)
theorem PInv.tabsIn (I : PInv B many c f g M T) (hn : B.n ≤ 1024) {r : Int} (hr : g r ≠ 0) : TabsIn B.n c r.toNat := by
  have h0 := (I.hg r hr).1
  have hr' : g ((r.toNat : Nat) : Int) ≠ 0 := by rwa [Int.toNat_of_nonneg h0.1]
  intro i hi hp
  rw [words_getD c _ hi, I.row hn hr' hi] at hp ⊢
  have hm := I.hm
  cases e : T r.toNat i with
  | none => rw [e] at hp; cases hp
  | some k =>
    have := (I.hT _ _ _ e).2.2.1
    exact ⟨by show (0 : Int) ≤ k; omega, by show (k : Int) < B.n; omega, hi⟩
/-- How many tables a space has, besides its root. -/
theorem PInv.tables (I : PInv B many c f g M T) (F : Full M T) (hn : B.n ≤ 1024) {r : Nat} (hr : g (r : Int) ≠ 0) : (presL (words c r) 32).length = cnt (Go.Proofs.YtepmljcapobodaaDoor.live M r) 32 := by
  rw [I.rootL hn hr, presF_len]
  exact cnt_congr _ fun i _ => by rw [tabT_p]; exact I.live F r i
theorem PInv.empty (I : PInv B many c f g M T) (F : Full M T) (hn : B.n ≤ 1024) {r : Nat} (hr : g (r : Int) ≠ 0) : (presL (words c r) 32).isEmpty = true ↔ ∀ i, T r i = none := by
  rw [I.rootL hn hr]
  constructor
  · intro h i
    cases e : T r i with
    | none => rfl
    | some k =>
      have hi := (I.hT _ _ _ e).2.1
      have := presF_some (F := fun i => tabT (T r i)) hi (by show (tabT (T r i)).p = true; rw [e]; rfl)
      cases e2 : presF (fun i => tabT (T r i)) 32 with
      | nil => exact absurd e2 this
      | cons a l => rw [e2] at h; cases h
  · intro h
    rw [presF_none (fun i _ => by rw [h i]; rfl)]
    rfl
theorem PInv.all (I : PInv B many c f g M T) (hn : B.n ≤ 1024) {r : Nat} (hr : g (r : Int) ≠ 0) : allL c r = presF (M r) 1024 := by
  have h : ∀ k, (presF (fun i => tabT (T r i)) k).flatMap (inner c) = presF (M r) (k * 32) := by
    intro k
    induction k with
    | zero => rfl
    | succ k ih =>
      rw [show (k + 1) * 32 = k * 32 + 32 by omega, presF_add (M r) (k * 32) 32, ← ih]
      show (if (tabT (T r k)).p = true then presF (fun i => tabT (T r i)) k ++ [(k, tabT (T r k))] else presF (fun i => tabT (T r i)) k).flatMap (inner c) = _
      cases e : T r k with
      | none =>
        have z : presF (fun j => M r (k * 32 + j)) 32 = [] := presF_none (fun j hj => by rw [I.mz r k j e hj]; rfl)
        rw [z]
        show (presF (fun i => tabT (T r i)) k).flatMap (inner c) = _
        simp
      | some t =>
        show (presF (fun i => tabT (T r i)) k ++ [(k, tabT (some t))]).flatMap (inner c) = _
        rw [List.flatMap_append]
        congr 1
        rw [List.flatMap_singleton]
        unfold inner
        show (presL (words c ((t : Int)).toNat) 32).map _ = _
        rw [Int.toNat_natCast, I.tabL e]
  unfold allL
  rw [I.rootL hn hr]
  exact h 32
end
end Go.Proofs.YtepmljcapobodaaDoor
