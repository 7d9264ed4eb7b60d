/- What a manager's words and counts are: of the mappings and the tables. -/
import Derived.Test.YtepmljcapobodaaDoorPt7
namespace Go.Proofs.YtepmljcapobodaaDoor
open Go.RowKit
set_option linter.unusedVariables false
set_option maxRecDepth 100000
theorem ent_back {e : Ent} (h : okE e = true) : getR (putR e) = e := by
  have h0 : 0 ≤ e.f ∧ e.f < 1024 := by
    simp only [okE, Bool.and_eq_true, decide_eq_true_eq] at h
    exact h.1.1
  have eo : entOf (putW e) = e := by
    obtain ⟨p, w, c, f⟩ := e
    simp only at h0
    unfold entOf putW bit
    cases p <;> cases w <;> cases c <;> simp only [if_true, if_false, Bool.false_eq_true, Ent.mk.injEq, decide_eq_true_eq, decide_eq_false_iff_not] <;> refine ⟨?_, ?_, ?_, ?_⟩ <;> omega
  have ow : okW (putW e) = true := by simp [okW, eo, h]
  simp [getR, putR, h, ow, eo]
theorem ok_zero : okE Ent.zero = true := by decide
theorem put_zero : putR Ent.zero = 0 := by decide
theorem get_zero : getR 0 = Ent.zero := by rw [← put_zero, ent_back ok_zero]
theorem ok_table {k : Int} (h : 0 ≤ k) (h1 : k < 1024) : okE ⟨true, true, false, k⟩ = true := by simp [okE, h, h1]
theorem fitB_ok {n : Nat} {e : Ent} (h : fitB n e = true) : okE e = true ∧ e.p = true := by
  unfold fitB at h
  simp only [Bool.and_eq_true] at h
  exact h.1
structure PInv (B : PB) (many : Nat) (c : Nat → Int) (f g : Int → Int) (M : Nat → Nat → Ent) (T : Nat → Nat → Option Nat) : Prop where
  hm : many ≤ B.n
  in0 : ∀ k : Int, B.inr 0 k ↔ 0 ≤ k ∧ k < many
  hg : ∀ r : Int, g r ≠ 0 → (0 ≤ r ∧ r < many) ∧ f r = 1
  hT : ∀ r i k, T r i = some k → g (r : Int) ≠ 0 ∧ i < 32 ∧ k < many ∧ f (k : Int) = 1 ∧ g (k : Int) = 0
  inj : ∀ r i r' i' k, T r i = some k → T r' i' = some k → r = r' ∧ i = i'
  cr : ∀ r i : Nat, g (r : Int) ≠ 0 → i < 32 → c (r * 32 + i) = match T r i with | none => 0 | some k => putR ⟨true, true, false, k⟩
  ct : ∀ r i k j, T r i = some k → j < 32 → c (k * 32 + j) = putR (M r (i * 32 + j))
  mz : ∀ r i j, T r i = none → j < 32 → M r (i * 32 + j) = Ent.zero
  mo : ∀ r p, M r p = Ent.zero ∨ fitB B.n (M r p) = true
theorem getE_nat {n : Nat} {c : Nat → Int} {t k : Nat} (h : t < n) (hk : k < 32) : getE n c t k = getR (c (t * 32 + k)) := by
  unfold getE
  rw [if_pos ⟨by omega, by omega, by omega, by omega⟩, Int.toNat_natCast, Int.toNat_natCast]
theorem putC_nat {n : Nat} {c : Nat → Int} {t k : Nat} (h : t < n) (hk : k < 32) (e : Ent) : putC n c t k e = upd c (t * 32 + k) (putR e) := by
  unfold putC
  rw [if_pos ⟨by omega, by omega, by omega, by omega⟩, Int.toNat_natCast, Int.toNat_natCast]
section
variable {B : PB} {many : Nat} {c : Nat → Int} {f g : Int → Int} {M : Nat → Nat → Ent} {T : Nat → Nat → Option Nat}
theorem PInv.okM (I : PInv B many c f g M T) (r p : Nat) : okE (M r p) = true := by
  rcases I.mo r p with h | h
  · rw [h]; exact ok_zero
  · exact (fitB_ok h).1
theorem PInv.split (I : PInv B many c f g M T) {r p : Nat} (h : T r (p / 32) = none) : M r p = Ent.zero := by
  have := I.mz r (p / 32) (p % 32) h (by omega)
  rwa [show p / 32 * 32 + p % 32 = p by omega] at this
theorem PInv.out (I : PInv B many c f g M T) {r p : Nat} (h : 1024 ≤ p) : M r p = Ent.zero := by
  cases e : T r (p / 32) with
  | none => exact I.split e
  | some k => have := (I.hT _ _ _ e).2.1; omega
theorem PInv.noroot (I : PInv B many c f g M T) {r p : Nat} (h : g (r : Int) = 0) : M r p = Ent.zero := by
  cases e : T r (p / 32) with
  | none => exact I.split e
  | some k => exact absurd h (I.hT _ _ _ e).1
theorem PInv.roots (I : PInv B many c f g M T) : RootsIn B.n g := fun r h => by
  have := (I.hg r h).1
  have := I.hm
  exact ⟨by omega, by omega⟩
/-- The entry of a table. -/
theorem PInv.tab (I : PInv B many c f g M T) (hn : B.n ≤ 1024) {r p : Nat} (h : g (r : Int) ≠ 0) (hp : p < 1024) : tabE B.n c r p = match T r (p / 32) with | none => Ent.zero | some k => ⟨true, true, false, k⟩ := by
  have := (I.hg r h).1
  have hm := I.hm
  unfold tabE
  rw [show ((p : Int) / 32) = ((p / 32 : Nat) : Int) by omega, getE_nat (by omega) (by omega), I.cr r (p / 32) h (by omega)]
  cases e : T r (p / 32) with
  | none => exact get_zero
  | some k =>
    have := (I.hT _ _ _ e).2.2.1
    exact ent_back (ok_table (by omega) (by omega))
theorem PInv.page (I : PInv B many c f g M T) {r p k : Nat} (h : T r (p / 32) = some k) : getE B.n c k ((p : Int) % 32) = M r p := by
  have hk := (I.hT _ _ _ h).2.2.1
  have hm := I.hm
  rw [show ((p : Int) % 32) = ((p % 32 : Nat) : Int) by omega, getE_nat (by omega) (by omega), I.ct r (p / 32) k (p % 32) h (by omega), show p / 32 * 32 + p % 32 = p by omega]
  exact ent_back (I.okM r p)
/-- Query reads the mapping. -/
theorem PInv.qry (I : PInv B many c f g M T) (hn : B.n ≤ 1024) {r p : Nat} (hp : p < 1024) : qryE B.n c g r p = M r p := by
  unfold qryE
  by_cases hg : g (r : Int) = 0
  · rw [I.noroot hg, if_neg]
    rintro ⟨h, -⟩
    exact (ask_range h).2.2.2 hg
  · have ha : askE g r p true = 0 := by unfold askE; rw [if_pos ⟨by omega, by omega, rfl⟩, if_neg hg]
    have ht := I.tab hn hg hp
    cases e : T r (p / 32) with
    | none =>
      rw [e] at ht
      rw [I.split e, if_neg]
      rintro ⟨-, h⟩
      rw [ht] at h
      cases h
    | some k =>
      rw [e] at ht
      rw [if_pos ⟨ha, by rw [ht]⟩]
      unfold pagE
      rw [ht]
      exact I.page e
theorem updRow_off {c d : Nat → Int} {i k : Nat} (h : ¬ (i * 32 ≤ k ∧ k < i * 32 + 32)) : updRow c i d k = c k := if_neg h
theorem updRow_on {c d : Nat → Int} {i j : Nat} (h : j < 32) : updRow c i d (i * 32 + j) = d j := by
  unfold updRow
  rw [if_pos ⟨by omega, by omega⟩, Nat.add_sub_cancel_left]
/-! ### The turns -/
theorem PInv.new (B : PB) (many : Nat) (hm : many ≤ B.n) (in0 : ∀ k : Int, B.inr 0 k ↔ 0 ≤ k ∧ k < many) (c : Nat → Int) : PInv B many c (fun _ => 0) (fun _ => 0) (fun _ _ => Ent.zero) (fun _ _ => none) :=
  ⟨hm, in0, fun _ h => absurd rfl h, (by intro _ _ _ h; cases h), (by intro _ _ _ _ _ h; cases h), (by intro _ _ h; exact absurd rfl h), (by intro _ _ _ _ h; cases h), fun _ _ _ _ _ => rfl, fun _ _ => Or.inl rfl⟩
theorem upd_ne {c : Nat → Int} {k j : Nat} {v : Int} (h : j ≠ k) : upd c k v j = c j := if_neg h
theorem upd_at (c : Nat → Int) (k : Nat) (v : Int) : upd c k v k = v := if_pos rfl
theorem PInv.alloc (I : PInv B many c f g M T) {n : Nat} (hn : n < many) (hf : f (n : Int) = 0) : PInv B many (updRow c n fun _ => 0) (updI f n 1) g M T := by
  have nr : ∀ r : Int, g r ≠ 0 → r ≠ n := fun r h e => by have := (I.hg r h).2; rw [e, hf] at this; cases this
  have nt : ∀ r i k, T r i = some k → k ≠ n := fun r i k h e => by have := (I.hT r i k h).2.2.2.1; rw [e, hf] at this; cases this
  refine ⟨I.hm, I.in0, fun r h => ⟨(I.hg r h).1, by rw [updI_ne (nr r h)]; exact (I.hg r h).2⟩, fun r i k h => ?_, I.inj, fun r i h hi => ?_, fun r i k j h hj => ?_, I.mz, I.mo⟩
  · obtain ⟨a1, a2, a3, a4, a5⟩ := I.hT r i k h
    exact ⟨a1, a2, a3, by rw [updI_ne (fun e => nt r i k h (by omega))]; exact a4, a5⟩
  · have := nr r h
    rw [updRow_off (by omega)]
    exact I.cr r i h hi
  · have := nt r i k h
    rw [updRow_off (by omega)]
    exact I.ct r i k j h hj
theorem PInv.open (I : PInv B many c f g M T) {n : Nat} (hn : n < many) (hf : f (n : Int) = 0) : PInv B many (updRow c n fun _ => 0) (updI f n 1) (updI g n 1) M T := by
  have J := I.alloc hn hf
  have nt : ∀ r i k, T r i = some k → k ≠ n := fun r i k h e => by have := (I.hT r i k h).2.2.2.1; rw [e, hf] at this; cases this
  have g0 : g (n : Int) = 0 := by
    by_cases h : g (n : Int) = 0
    · exact h
    · have := (I.hg n h).2; rw [hf] at this; cases this
  refine ⟨I.hm, I.in0, fun r h => ?_, fun r i k h => ?_, I.inj, fun r i h hi => ?_, J.ct, I.mz, I.mo⟩
  · by_cases e : r = n
    · subst e
      exact ⟨⟨by omega, by omega⟩, updI_at _ _ _⟩
    · rw [updI_ne e] at h
      exact J.hg r h
  · obtain ⟨a1, a2, a3, a4, a5⟩ := J.hT r i k h
    refine ⟨?_, a2, a3, a4, by rw [updI_ne (fun e => nt r i k h (by omega))]; exact a5⟩
    rw [updI_ne (fun e => a1 (by rw [e]; exact g0))]
    exact a1
  · by_cases e : r = n
    · subst e
      refine (updRow_on hi).trans ?_
      cases e2 : T r i with
      | none => rfl
      | some k => exact absurd g0 (I.hT _ _ _ e2).1
    · rw [updI_ne (fun e2 => e (by omega))] at h
      exact J.cr r i h hi
def updM (M : Nat → Nat → Ent) (r p : Nat) (e : Ent) : Nat → Nat → Ent := fun r' p' => if r' = r ∧ p' = p then e else M r' p'
def updT (T : Nat → Nat → Option Nat) (r i : Nat) (k : Option Nat) : Nat → Nat → Option Nat := fun r' i' => if r' = r ∧ i' = i then k else T r' i'
theorem updM_at (M : Nat → Nat → Ent) (r p : Nat) (e : Ent) : updM M r p e r p = e := if_pos ⟨rfl, rfl⟩
theorem updM_ne {M : Nat → Nat → Ent} {r p r' p' : Nat} {e : Ent} (h : ¬ (r' = r ∧ p' = p)) : updM M r p e r' p' = M r' p' := if_neg h
theorem updT_at (T : Nat → Nat → Option Nat) (r i : Nat) (k : Option Nat) : updT T r i k r i = k := if_pos ⟨rfl, rfl⟩
theorem updT_ne {T : Nat → Nat → Option Nat} {r i r' i' : Nat} {k : Option Nat} (h : ¬ (r' = r ∧ i' = i)) : updT T r i k r' i' = T r' i' := if_neg h
theorem PInv.gk (I : PInv B many c f g M T) {r i k r' : Nat} (h : T r i = some k) (hr : g (r' : Int) ≠ 0) : r' ≠ k := fun e => hr (by rw [e]; exact (I.hT _ _ _ h).2.2.2.2)
theorem PInv.write (I : PInv B many c f g M T) {r p k : Nat} {e : Ent} (h : T r (p / 32) = some k) (he : e = Ent.zero ∨ fitB B.n e = true) : PInv B many (upd c (k * 32 + p % 32) (putR e)) f g (updM M r p e) T := by
  refine ⟨I.hm, I.in0, I.hg, I.hT, I.inj, fun r' i hr hi => ?_, fun r' i k' j h' hj => ?_, fun r' i j h' hj => ?_, fun r' p' => ?_⟩
  · have := I.gk h hr
    rw [upd_ne (by omega)]
    exact I.cr r' i hr hi
  · by_cases q : r' = r ∧ i * 32 + j = p
    · obtain ⟨rfl, rfl⟩ := q
      rw [show (i * 32 + j) / 32 = i by omega, h'] at h
      injection h with h
      subst h
      rw [updM_at, show (i * 32 + j) % 32 = j by omega, upd_at]
    · rw [updM_ne q, upd_ne, I.ct r' i k' j h' hj]
      intro e2
      have ek : k' = k := by omega
      subst ek
      obtain ⟨rfl, rfl⟩ := I.inj _ _ _ _ _ h' h
      exact q ⟨rfl, by omega⟩
  · rw [updM_ne, I.mz r' i j h' hj]
    rintro ⟨rfl, rfl⟩
    rw [show (i * 32 + j) / 32 = i by omega, h'] at h
    cases h
  · by_cases q : r' = r ∧ p' = p
    · obtain ⟨rfl, rfl⟩ := q
      rw [updM_at]
      exact he
    · rw [updM_ne q]
      exact I.mo r' p'
theorem PInv.link (I : PInv B many c f g M T) {r i k : Nat} (hr : g (r : Int) ≠ 0) (hi : i < 32) (h0 : T r i = none) (hk : k < many) (fk : f (k : Int) = 1) (gk : g (k : Int) = 0) (nk : ∀ r' i', T r' i' ≠ some k) (row : ∀ j, j < 32 → c (k * 32 + j) = 0) :
    PInv B many (upd c (r * 32 + i) (putR ⟨true, true, false, k⟩)) f g M (updT T r i (some k)) := by
  have rk : r ≠ k := fun e => hr (by rw [e]; exact gk)
  refine ⟨I.hm, I.in0, I.hg, fun r' i' k' h => ?_, fun r' i' r2 i2 k' h h2 => ?_, fun r' i' hr' hi' => ?_, fun r' i' k' j h hj => ?_, fun r' i' j h hj => ?_, I.mo⟩
  · by_cases q : r' = r ∧ i' = i
    · obtain ⟨rfl, rfl⟩ := q
      rw [updT_at] at h
      injection h with h
      subst h
      exact ⟨hr, hi, hk, fk, gk⟩
    · rw [updT_ne q] at h
      exact I.hT _ _ _ h
  · by_cases q : r' = r ∧ i' = i
    · obtain ⟨rfl, rfl⟩ := q
      rw [updT_at] at h
      injection h with h
      subst h
      by_cases q2 : r2 = r' ∧ i2 = i'
      · exact ⟨q2.1.symm, q2.2.symm⟩
      · rw [updT_ne q2] at h2
        exact absurd h2 (nk _ _)
    · rw [updT_ne q] at h
      by_cases q2 : r2 = r ∧ i2 = i
      · obtain ⟨rfl, rfl⟩ := q2
        rw [updT_at] at h2
        injection h2 with h2
        subst h2
        exact absurd h (nk _ _)
      · rw [updT_ne q2] at h2
        exact I.inj _ _ _ _ _ h h2
  · by_cases q : r' = r ∧ i' = i
    · obtain ⟨rfl, rfl⟩ := q
      rw [updT_at, upd_at]
    · rw [updT_ne q, upd_ne (fun e => q ⟨by omega, by omega⟩)]
      exact I.cr r' i' hr' hi'
  · by_cases q : r' = r ∧ i' = i
    · obtain ⟨rfl, rfl⟩ := q
      rw [updT_at] at h
      injection h with h
      subst h
      rw [upd_ne (fun e => rk (by omega)), row j hj, I.mz _ _ j h0 hj]
      exact put_zero.symm
    · rw [updT_ne q] at h
      rw [upd_ne (fun e => I.gk h hr (by omega))]
      exact I.ct _ _ _ _ h hj
  · by_cases q : r' = r ∧ i' = i
    · obtain ⟨rfl, rfl⟩ := q
      rw [updT_at] at h
      cases h
    · rw [updT_ne q] at h
      exact I.mz _ _ _ h hj
theorem PInv.unlink (I : PInv B many c f g M T) {r i k : Nat} (h : T r i = some k) (hz : ∀ j, j < 32 → M r (i * 32 + j) = Ent.zero) : PInv B many (upd c (r * 32 + i) 0) (updI f k 0) g M (updT T r i none) := by
  obtain ⟨hr, hi, hk, fk, gk⟩ := I.hT _ _ _ h
  have old : ∀ r' i' k', updT T r i none r' i' = some k' → T r' i' = some k' ∧ k' ≠ k := by
    intro r' i' k' h'
    by_cases q : r' = r ∧ i' = i
    · obtain ⟨rfl, rfl⟩ := q
      rw [updT_at] at h'
      cases h'
    · rw [updT_ne q] at h'
      refine ⟨h', fun e => q ?_⟩
      subst e
      exact I.inj _ _ _ _ _ h' h
  refine ⟨I.hm, I.in0, fun r' h' => ?_, fun r' i' k' h' => ?_, fun r' i' r2 i2 k' h' h2 => I.inj _ _ _ _ _ (old _ _ _ h').1 (old _ _ _ h2).1, fun r' i' hr' hi' => ?_, fun r' i' k' j h' hj => ?_, fun r' i' j h' hj => ?_, I.mo⟩
  · refine ⟨(I.hg r' h').1, ?_⟩
    rw [updI_ne (fun e => h' (by rw [e]; exact gk))]
    exact (I.hg r' h').2
  · obtain ⟨o1, o2⟩ := old _ _ _ h'
    obtain ⟨a1, a2, a3, a4, a5⟩ := I.hT _ _ _ o1
    exact ⟨a1, a2, a3, by rw [updI_ne (fun e => o2 (by omega))]; exact a4, a5⟩
  · by_cases q : r' = r ∧ i' = i
    · obtain ⟨rfl, rfl⟩ := q
      rw [updT_at, upd_at]
    · rw [updT_ne q, upd_ne (fun e => q ⟨by omega, by omega⟩)]
      exact I.cr r' i' hr' hi'
  · obtain ⟨o1, o2⟩ := old _ _ _ h'
    rw [upd_ne (fun e => I.gk o1 hr (by omega))]
    exact I.ct _ _ _ _ o1 hj
  · by_cases q : r' = r ∧ i' = i
    · obtain ⟨rfl, rfl⟩ := q
      exact hz j hj
    · rw [updT_ne q] at h'
      exact I.mz _ _ _ h' hj
theorem PInv.close (I : PInv B many c f g M T) {r : Nat} (hr : g (r : Int) ≠ 0) (ht : ∀ i, T r i = none) : PInv B many c (updI f r 0) (updI g r 0) M T := by
  refine ⟨I.hm, I.in0, fun r' h' => ?_, fun r' i' k' h' => ?_, I.inj, fun r' i' hr' hi' => ?_, I.ct, I.mz, I.mo⟩
  · by_cases e : r' = r
    · subst e
      rw [updI_at] at h'
      exact absurd rfl h'
    · rw [updI_ne e] at h' ⊢
      exact I.hg r' h'
  · obtain ⟨a1, a2, a3, a4, a5⟩ := I.hT _ _ _ h'
    have n1 : r' ≠ r := fun e => by rw [e, ht] at h'; cases h'
    have n2 : k' ≠ r := fun e => hr (by rw [← e]; exact a5)
    rw [updI_ne (show (r' : Int) ≠ r by omega), updI_ne (show (k' : Int) ≠ r by omega), updI_ne (show (k' : Int) ≠ r by omega)]
    exact ⟨a1, a2, a3, a4, a5⟩
  · by_cases e : (r' : Int) = r
    · rw [e, updI_at] at hr'
      exact absurd rfl hr'
    · rw [updI_ne e] at hr'
      exact I.cr r' i' hr' hi'
end
end Go.Proofs.YtepmljcapobodaaDoor
