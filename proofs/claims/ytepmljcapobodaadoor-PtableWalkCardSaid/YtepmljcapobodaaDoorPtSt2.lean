/- Close, Map, Set, Unmap, of the mappings. -/
import Derived.Test.YtepmljcapobodaaDoorPtSt
namespace Go.Proofs.YtepmljcapobodaaDoor
open Go.RowKit
set_option linter.unusedVariables false
set_option maxRecDepth 100000
theorem ask_no {g : Int → Int} {root page : Int} {b : Bool} (h : askE g root page b ≠ 0) : askE g root page b = 2 ∨ askE g root page b = 4 := by
  unfold askE at h ⊢
  split
  · split
    · exact Or.inr rfl
    · rename_i a b; rw [if_pos a, if_neg b] at h; exact absurd rfl h
  · exact Or.inl rfl
theorem free_one {B : PB} (G : Geo B) {f : Int → Int} {k : Nat} (h : B.inr 0 k) (hf : f (k : Int) = 1) : freE B f k = 0 ∧ freF B f k = updI f k 0 := by
  have e : freE B f k = 0 := by unfold freE; rw [ownE_in G h]; simp [hf]
  refine ⟨e, ?_⟩
  unfold freF
  rw [if_pos e, hf]
  rfl
theorem live_upd {M : Nat → Nat → Ent} {r p r' i : Nat} {e : Ent} (h : ¬ (r' = r ∧ i = p / 32)) : live (updM M r p e) r' i = live M r' i :=
  live_congr fun j hj => updM_ne (fun q => h ⟨q.1, by omega⟩)
theorem live_put {M : Nat → Nat → Ent} {r p : Nat} {e : Ent} (h : e.p = true) : live (updM M r p e) r (p / 32) = true :=
  live_of (j := p % 32) (by omega) (by rw [show p / 32 * 32 + p % 32 = p by omega, updM_at]; exact h)
section
variable {w : World} {A : MB} {B : PB} {many : Nat} {M : Nat → Nat → Ent} {g : Int → Int} {left q : Nat}
/-- A space has nothing. -/
def bare (M : Nat → Nat → Ent) (r : Nat) : Prop := ∀ i, live M r i = false
theorem st_close (D : PtG A B) (S : PtSt w A B many M g left q) (hq : q < 4611686018427387904) (root : Int) (hw : wfI root) :
    Calls Tryd.prog 38 #[.pointer (some ⟨A.t, 0, none⟩), .int .i64 root] w fun r w' =>
      ((g root = 0 ∧ r = .returned (.int .i64 4) ∧ PtSt w' A B many M g left (q + 1)) ∨ (g root ≠ 0 ∧ ¬ bare M root.toNat ∧ r = .returned (.int .i64 9) ∧ PtSt w' A B many M g left (q + 1)) ∨ (g root ≠ 0 ∧ bare M root.toNat ∧ r = .returned (.int .i64 0) ∧ PtSt w' A B many M (updI g root 0) (left + 1) (q + 1))) ∧ Keep (ownT A B) w w' := by
  obtain ⟨c, f, T, X, I, F, L, R⟩ := S
  refine (close_ok D.G R D.H X I.roots hq root hw).mono ?_
  rintro r w' ⟨rfl, X', K⟩
  refine ⟨?_, K⟩
  by_cases h : g root = 0
  · have e1 : cloE B c f g root = 4 := if_pos h
    have e2 : cloF B c f g root = f := if_neg (fun x => x.1 h)
    have e3 : cloG c g root = g := if_neg (fun x => x.1 h)
    rw [e2, e3] at X'
    exact Or.inl ⟨h, by rw [e1], c, f, T, X', I, F, L, R⟩
  · obtain ⟨⟨r0, r1⟩, fr⟩ := I.hg root h
    obtain ⟨k, rfl⟩ : ∃ k : Nat, root = k := ⟨root.toNat, by omega⟩
    rw [Int.toNat_natCast]
    have E := I.empty F D.G.n (r := k) h
    have eb : bare M k ↔ ∀ i, T k i = none := by
      constructor
      · intro b i
        have := I.live F k i
        rw [b i] at this
        cases e : T k i with
        | none => rfl
        | some x => rw [e] at this; cases this
      · intro b i
        rw [← I.live F k i, b i]; rfl
    cases hE : (presL (words c k) 32).isEmpty with
    | false =>
      have e1 : cloE B c f g k = 9 := by unfold cloE; rw [if_neg h, Int.toNat_natCast, hE]; rfl
      have e2 : cloF B c f g k = f := if_neg (fun x => by have := x.2; rw [Int.toNat_natCast, hE] at this; cases this)
      have e3 : cloG c g k = g := if_neg (fun x => by have := x.2; rw [Int.toNat_natCast, hE] at this; cases this)
      rw [e2, e3] at X'
      refine Or.inr (Or.inl ⟨h, fun b => ?_, by rw [e1], c, f, T, X', I, F, L, R⟩)
      have := E.2 (eb.1 b)
      rw [hE] at this
      cases this
    | true =>
      have ht := E.1 hE
      have i0 := (I.in0 k).2 ⟨r0, r1⟩
      obtain ⟨b1, b2⟩ := free_one D.G i0 fr
      have e1 : cloE B c f g k = 0 := by unfold cloE; rw [if_neg h, Int.toNat_natCast, hE, b1]; rfl
      have e2 : cloF B c f g k = updI f k 0 := by unfold cloF; rw [Int.toNat_natCast, hE, b2]; exact if_pos ⟨h, rfl⟩
      have e3 : cloG c g k = updI g k 0 := by unfold cloG; rw [Int.toNat_natCast, hE]; exact if_pos ⟨h, rfl⟩
      rw [e2, e3] at X'
      have n1 := D.G.n
      have hm := I.hm
      have l1 := left_give (f := f) i0 (by omega) (by rw [fr]; decide)
      exact Or.inr (Or.inr ⟨h, eb.2 ht, by rw [e1], c, _, T, X', I.close h ht, F, by omega, R.upd _ _ 0 i0 (by decide) (by decide)⟩)
/-! ### Set -/
def setA (n : Nat) (M : Nat → Nat → Ent) (g : Int → Int) (root page : Int) (e : Ent) : Int := if askE g root page (fitB n e) = 0 then (if (M root.toNat page.toNat).p then 0 else 4) else askE g root page (fitB n e)
def setM (n : Nat) (M : Nat → Nat → Ent) (g : Int → Int) (root page : Int) (e : Ent) : Nat → Nat → Ent := if setA n M g root page e = 0 then updM M root.toNat page.toNat e else M
theorem st_set (D : PtG A B) (S : PtSt w A B many M g left q) (root page : Int) (hw : wfI root) (e : Ent) :
    Calls Tryd.prog 48 #[.pointer (some ⟨A.t, 0, none⟩), .int .i64 root, .int .i64 page, e.val] w fun r w' => r = .returned (.int .i64 (setA B.n M g root page e)) ∧ PtSt w' A B many (setM B.n M g root page e) g left q ∧ Keep (ownT A B) w w' := by
  obtain ⟨c, f, T, X, I, F, L, R⟩ := S
  refine (tset D.G D.H X root page hw e).mono ?_
  rintro r w' ⟨rfl, X', K⟩
  have K' : Keep (ownT A B) w w' := K.mono (fun k _ e => mf_T k e)
  by_cases ha : askE g root page (fitB B.n e) = 0
  · obtain ⟨p0, p1, hb, hg⟩ := ask_range ha
    obtain ⟨⟨r0, r1⟩, fr⟩ := I.hg root hg
    obtain ⟨k, rfl⟩ : ∃ k : Nat, root = k := ⟨root.toNat, by omega⟩
    obtain ⟨p, rfl⟩ : ∃ p : Nat, page = p := ⟨page.toNat, by omega⟩
    have ea : askE g k p true = 0 := ask_any ha
    have eq : qryB B.n c g k p = (M k p).p := by unfold qryB; rw [I.qry D.G.n (by omega)]
    have e1 : setE B.n c g k p e = setA B.n M g k p e := by unfold setE setA; rw [if_pos ha, if_pos ha, eq]; rfl
    refine ⟨by rw [e1], ?_, K'⟩
    unfold setC at X'
    rw [e1] at X'
    unfold setM
    by_cases z : setA B.n M g k p e = 0
    · rw [if_pos z] at X' ⊢
      have hp : (M k p).p = true := by
        unfold setA at z
        rw [if_pos ha] at z
        by_cases h : (M k p).p = true
        · exact h
        · rw [Int.toNat_natCast, Int.toNat_natCast, if_neg h] at z; cases z
      cases eT : T k (p / 32) with
      | none => rw [I.split eT] at hp; cases hp
      | some t =>
        have tl := (I.hT _ _ _ eT).2.2.1
        have hm := I.hm
        have et := I.tab D.G.n hg (p := p) (by omega)
        rw [eT] at et
        rw [et, show ((p : Int) % 32) = ((p % 32 : Nat) : Int) by omega, putC_nat (by omega) (by omega)] at X'
        rw [Int.toNat_natCast, Int.toNat_natCast]
        refine ⟨_, f, T, X', I.write eT (Or.inr hb), fun r' i k' h => ?_, L, R⟩
        by_cases s : r' = k ∧ i = p / 32
        · obtain ⟨rfl, rfl⟩ := s
          exact live_put (fitB_ok hb).2
        · rw [live_upd s]; exact F _ _ _ h
    · rw [if_neg z] at X' ⊢
      exact ⟨c, f, T, X', I, F, L, R⟩
  · have e1 : setE B.n c g root page e = askE g root page (fitB B.n e) := if_neg ha
    have e2 : setA B.n M g root page e = askE g root page (fitB B.n e) := if_neg ha
    unfold setM
    unfold setC at X'
    rw [e1, if_neg ha] at X'
    rw [e1, e2, if_neg ha]
    exact ⟨rfl, ⟨c, f, T, X', I, F, L, R⟩, K'⟩
end
end Go.Proofs.YtepmljcapobodaaDoor
