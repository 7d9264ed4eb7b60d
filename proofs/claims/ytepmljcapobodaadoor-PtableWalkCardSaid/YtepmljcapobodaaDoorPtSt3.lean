/- Map, Unmap, of the mappings. -/
import Derived.Test.YtepmljcapobodaaDoorPtSt2
namespace Go.Proofs.YtepmljcapobodaaDoor
open Go.RowKit
set_option linter.unusedVariables false
set_option maxRecDepth 100000
section
variable {w : World} {A : MB} {B : PB} {many : Nat} {M : Nat → Nat → Ent} {g : Int → Int} {left q : Nat}
def mapA (n : Nat) (M : Nat → Nat → Ent) (g : Int → Int) (left : Nat) (root page : Int) (e : Ent) : Int := if askE g root page (fitB n e) = 0 then (if (M root.toNat page.toNat).p then 5 else if live M root.toNat (page.toNat / 32) = false ∧ left = 0 then 3 else 0) else askE g root page (fitB n e)
def mapM (n : Nat) (M : Nat → Nat → Ent) (g : Int → Int) (left : Nat) (root page : Int) (e : Ent) : Nat → Nat → Ent := if mapA n M g left root page e = 0 then updM M root.toNat page.toNat e else M
def mapL (n : Nat) (M : Nat → Nat → Ent) (g : Int → Int) (left : Nat) (root page : Int) (e : Ent) : Nat := if mapA n M g left root page e = 0 ∧ live M root.toNat (page.toNat / 32) = false then left - 1 else left
theorem st_map (hT : TabAt 0 Lib.deBruijn64tab w) (D : PtG A B) (S : PtSt w A B many M g left q) (hq : q < 4611686018427387904) (root page : Int) (hw : wfI root) (e : Ent) :
    Calls Tryd.prog 35 #[.pointer (some ⟨A.t, 0, none⟩), .int .i64 root, .int .i64 page, e.val] w fun r w' => r = .returned (.int .i64 (mapA B.n M g left root page e)) ∧ PtSt w' A B many (mapM B.n M g left root page e) g (mapL B.n M g left root page e) (q + 1) ∧ Keep (ownT A B) w w' := by
  obtain ⟨c, f, T, X, I, F, L, R⟩ := S
  refine (tmap hT D.G D.H X hq root page hw e).mono ?_
  rintro r w' ⟨rfl, X', K⟩
  have K' : Keep (ownT A B) w w' := K.mono (fun k _ e => own_T k e)
  by_cases ha : askE g root page (fitB B.n e) = 0
  · obtain ⟨p0, p1, hb, hg⟩ := ask_range ha
    obtain ⟨⟨r0, r1⟩, fr⟩ := I.hg root hg
    obtain ⟨k, rfl⟩ : ∃ k : Nat, root = k := ⟨root.toNat, by omega⟩
    obtain ⟨p, rfl⟩ : ∃ p : Nat, page = p := ⟨page.toNat, by omega⟩
    have hm := I.hm
    have n1 := D.G.n
    have et := I.tab D.G.n hg (p := p) (by omega)
    have ep := (fitB_ok hb).2
    unfold mapE mapC mapF at *
    rw [if_pos ha, if_pos ha] at X'
    rw [if_pos ha]
    have a0 : mapA B.n M g left k p e = if (M k p).p then 5 else if live M k (p / 32) = false ∧ left = 0 then 3 else 0 := by
      unfold mapA
      rw [if_pos ha]
      rfl
    unfold mapM mapL
    rw [Int.toNat_natCast, Int.toNat_natCast, a0]
    cases eT : T k (p / 32) with
    | some t =>
      have tl := (I.hT _ _ _ eT).2.2.1
      have lv := F _ _ _ eT
      rw [eT] at et
      dsimp only at et
      have m1 : mtE B c f A.part k p = 0 := by unfold mtE; rw [et]; rfl
      have m2 : mtF B c f A.part k p = t := by unfold mtF; rw [et]; rfl
      have m3 : mtC B c f A.part k p = c := by unfold mtC; rw [et]; rfl
      have m4 : mtP B c f A.part k p = f := by unfold mtP; rw [et]; rfl
      have m5 : mapThere B c f A.part k p = (M k p).p := by unfold mapThere; rw [m3, m2, I.page eT]
      rw [if_pos m1, m5, m3, m2, m4] at X'
      rw [if_pos m1, m5, lv]
      cases hp : (M k p).p with
      | true =>
        rw [hp] at X'
        exact ⟨rfl, ⟨c, f, T, X', I, F, L, R⟩, K'⟩
      | false =>
        rw [hp, show ((p : Int) % 32) = ((p % 32 : Nat) : Int) by omega, if_neg (by decide), putC_nat (by omega) (by omega)] at X'
        refine ⟨rfl, ⟨_, f, T, X', I.write eT (Or.inr hb), fun r' i k' h => ?_, L, R⟩, K'⟩
        by_cases s : r' = k ∧ i = p / 32
        · obtain ⟨rfl, rfl⟩ := s
          exact live_put ep
        · exact (live_upd (M := M) (e := e) s).trans (F _ _ _ h)
    | none =>
      have lv := I.nolive eT
      have z := I.split eT
      have hp : (M k p).p = false := by rw [z]; rfl
      rw [eT] at et
      dsimp only at et
      rw [hp, lv]
      cases ln : leastN B f 0 with
      | none =>
        obtain ⟨a1, a2, a3, -⟩ := all_none D (c := c) (g := g) ln
        have m1 : mtE B c f A.part k p = 3 := by unfold mtE; rw [et, a1]; rfl
        have m3 : mtC B c f A.part k p = c := by unfold mtC; rw [et, a1, a3]; rfl
        have m4 : mtP B c f A.part k p = f := by unfold mtP; rw [et, a2]; rfl
        have l0 : left = 0 := by rw [← L]; exact left_zero D.G ln
        have nz : ¬ mtE B c f A.part k p = 0 := by rw [m1]; decide
        rw [if_neg nz, m3, m4] at X'
        rw [if_neg nz, m1]
        subst l0
        exact ⟨rfl, ⟨c, f, T, X', I, F, L, R⟩, K'⟩
      | some n =>
        obtain ⟨a1, a2, a3, -⟩ := all_some D (c := c) (g := g) ln
        obtain ⟨i0, f0, -⟩ := leastN_some ln
        have hn := (I.in0 n).1 i0
        have l1 := left_take (f := f) i0 (by omega) f0 (v := 1) (by decide)
        have ln0 : ¬ left = 0 := by omega
        have m1 : mtE B c f A.part k p = 0 := by unfold mtE; rw [et, a1]; rfl
        have m2 : mtF B c f A.part k p = n := by unfold mtF; rw [et, a1]; rfl
        have m3 : mtC B c f A.part k p = upd (updRow c n fun _ => 0) (k * 32 + p / 32) (putR ⟨true, true, false, n⟩) := by
          unfold mtC
          rw [et, a1, a3]
          show putC B.n (updRow c n fun _ => 0) k ((p : Int) / 32) _ = _
          rw [show ((p : Int) / 32) = ((p / 32 : Nat) : Int) by omega, putC_nat (by omega) (by omega)]
        have m4 : mtP B c f A.part k p = updI f n 1 := by unfold mtP; rw [et, a2]; rfl
        have nt : ∀ r i, T r i ≠ some n := fun r i h => by have := (I.hT r i n h).2.2.2.1; rw [f0] at this; cases this
        have g0 : g (n : Int) = 0 := by
          by_cases h : g (n : Int) = 0
          · exact h
          · have := (I.hg n h).2; rw [f0] at this; cases this
        have J := (I.alloc (by omega) f0).link (r := k) (i := p / 32) (k := n) hg (by omega) eT (by omega) (updI_at _ _ _) g0 nt (fun j hj => updRow_on hj)
        have m5 : mapThere B c f A.part k p = false := by unfold mapThere; rw [m3, m2, J.page (updT_at _ _ _ _)]; exact hp
        rw [if_pos m1, m5, m2, m4, m3, if_neg (by decide), show ((p : Int) % 32) = ((p % 32 : Nat) : Int) by omega, putC_nat (by omega) (by omega)] at X'
        rw [if_pos m1, m5]
        simp only [ln0, and_false, if_false, Bool.false_eq_true, if_true, and_self]
        refine ⟨trivial, ⟨_, _, _, X', J.write (updT_at _ _ _ _) (Or.inr hb), fun r' i k' h => ?_, by omega, R.upd _ _ 0 i0 (by decide) (by decide)⟩, K'⟩
        by_cases s : r' = k ∧ i = p / 32
        · obtain ⟨rfl, rfl⟩ := s
          exact live_put ep
        · rw [updT_ne s] at h
          rw [live_upd s]; exact F _ _ _ h
  · have e1 : mapE B c f g A.part root page e = askE g root page (fitB B.n e) := if_neg ha
    have e2 : mapC B c f g A.part root page e = c := if_neg ha
    have e3 : mapF B c f g A.part root page e = f := if_neg ha
    have e4 : mapA B.n M g left root page e = askE g root page (fitB B.n e) := if_neg ha
    unfold mapM mapL
    rw [e2, e3] at X'
    rw [e1, e4, if_neg ha, if_neg (fun h => ha h.1)]
    exact ⟨rfl, ⟨c, f, T, X', I, F, L, R⟩, K'⟩
/-! ### Unmap -/
def unmA (M : Nat → Nat → Ent) (g : Int → Int) (root page : Int) : Int := if askE g root page true = 0 then (if (M root.toNat page.toNat).p then 0 else 4) else askE g root page true
def unmX (M : Nat → Nat → Ent) (g : Int → Int) (root page : Int) : Ent := if unmA M g root page = 0 then M root.toNat page.toNat else Ent.zero
def unmM (M : Nat → Nat → Ent) (g : Int → Int) (root page : Int) : Nat → Nat → Ent := if unmA M g root page = 0 then updM M root.toNat page.toNat Ent.zero else M
def unmL (M : Nat → Nat → Ent) (g : Int → Int) (left : Nat) (root page : Int) : Nat := if unmA M g root page = 0 ∧ live (unmM M g root page) root.toNat (page.toNat / 32) = false then left + 1 else left
theorem st_unmap (D : PtG A B) (S : PtSt w A B many M g left q) (hq : q < 4611686018427387904) (root page : Int) (hw : wfI root) :
    Calls Tryd.prog 39 #[.pointer (some ⟨A.t, 0, none⟩), .int .i64 root, .int .i64 page] w fun r w' => r = .returned (.tuple #[(unmX M g root page).val, .int .i64 (unmA M g root page)]) ∧ PtSt w' A B many (unmM M g root page) g (unmL M g left root page) (q + 1) ∧ Keep (ownT A B) w w' := by
  obtain ⟨c, f, T, X, I, F, L, R⟩ := S
  refine (tunmap D.G R D.H X hq I.roots root page (fun h => I.tabsIn D.G.n h) hw).mono ?_
  rintro r w' ⟨rfl, X', K⟩
  have K' : Keep (ownT A B) w w' := K.mono (fun k _ e => own_T k e)
  by_cases ha : askE g root page true = 0
  · obtain ⟨p0, p1, -, hg⟩ := ask_range ha
    obtain ⟨⟨r0, r1⟩, fr⟩ := I.hg root hg
    obtain ⟨k, rfl⟩ : ∃ k : Nat, root = k := ⟨root.toNat, by omega⟩
    obtain ⟨p, rfl⟩ : ∃ p : Nat, page = p := ⟨page.toNat, by omega⟩
    have hm := I.hm
    have n1 := D.G.n
    have eq : qryE B.n c g k p = M k p := I.qry D.G.n (by omega)
    have eb : qryB B.n c g k p = (M k p).p := by unfold qryB; rw [eq]
    have e1 : unmE B.n c g k p = unmA M g k p := by unfold unmE unmA; rw [if_pos ha, if_pos ha, eb]; rfl
    by_cases hp : (M k p).p = true
    · have ok : unmOk B.n c g k p := ⟨ha, by rw [eb, hp]⟩
      have a0 : unmA M g k p = 0 := by unfold unmA; rw [if_pos ha]; exact if_pos hp
      have e2 : unmV B.n c g k p = M k p := (if_pos ok).trans eq
      have e3 : unmX M g k p = M k p := if_pos a0
      have e4 : unmM M g k p = updM M k p Ent.zero := if_pos a0
      unfold unmL
      rw [e1, e2, e3, e4, a0, Int.toNat_natCast, Int.toNat_natCast]
      cases eT : T k (p / 32) with
      | none => rw [I.split eT] at hp; cases hp
      | some t =>
        have tl := (I.hT _ _ _ eT).2.2.1
        have ft := (I.hT _ _ _ eT).2.2.2.1
        have et := I.tab D.G.n hg (p := p) (by omega)
        rw [eT] at et
        dsimp only at et
        have J := I.write (e := Ent.zero) eT (Or.inl rfl)
        have m1 : unmC1 B.n c k p = upd c (t * 32 + p % 32) (putR Ent.zero) := by
          unfold unmC1
          rw [et, show ((p : Int) % 32) = ((p % 32 : Nat) : Int) by omega, putC_nat (by omega) (by omega)]
        have m2 : unmLast B.n c k p = !live (updM M k p Ent.zero) k (p / 32) := by
          unfold unmLast live
          rw [m1, et]
          show (presL (words _ ((t : Int)).toNat) 32).isEmpty = _
          rw [Int.toNat_natCast, J.tabL eT, Bool.not_not]
        have i0 := (I.in0 t).2 ⟨by omega, by omega⟩
        obtain ⟨b1, b2⟩ := free_one D.G i0 ft
        cases hl : live (updM M k p Ent.zero) k (p / 32) with
        | true =>
          have e5 : unmC B.n c g k p = upd c (t * 32 + p % 32) (putR Ent.zero) := by unfold unmC; rw [if_pos ok, m2, hl, m1]; rfl
          have e6 : unmF B c f g k p = f := if_neg (fun h => by have := h.2; rw [m2, hl] at this; cases this)
          rw [e5, e6] at X'
          rw [if_neg (fun h => by cases h.2)]
          refine ⟨rfl, ⟨_, f, T, X', J, fun r' i k' h => ?_, L, R⟩, K'⟩
          by_cases s : r' = k ∧ i = p / 32
          · obtain ⟨rfl, rfl⟩ := s
            exact hl
          · rw [live_upd s]; exact F _ _ _ h
        | false =>
          have e5 : unmC B.n c g k p = upd (upd c (t * 32 + p % 32) (putR Ent.zero)) (k * 32 + p / 32) 0 := by
            unfold unmC
            rw [if_pos ok, m2, hl, m1]
            show putC B.n _ k ((p : Int) / 32) Ent.zero = _
            rw [show ((p : Int) / 32) = ((p / 32 : Nat) : Int) by omega, putC_nat (by omega) (by omega), put_zero]
          have e6 : unmF B c f g k p = updI f t 0 := by
            unfold unmF
            rw [if_pos ⟨ok, by rw [m2, hl]; rfl⟩, et]
            exact b2
          rw [e5, e6] at X'
          rw [if_pos ⟨rfl, rfl⟩]
          have hz : ∀ j, j < 32 → updM M k p Ent.zero k (p / 32 * 32 + j) = Ent.zero := fun j hj => by
            rcases J.mo k (p / 32 * 32 + j) with h | h
            · exact h
            · have := live_no hl j hj
              rw [(fitB_ok h).2] at this
              cases this
          have l1 := left_give (f := f) i0 (by omega) (by rw [ft]; decide)
          refine ⟨rfl, ⟨_, _, _, X', J.unlink eT hz, fun r' i k' h => ?_, by omega, R.upd _ _ 0 i0 (by decide) (by decide)⟩, K'⟩
          by_cases s : r' = k ∧ i = p / 32
          · obtain ⟨rfl, rfl⟩ := s
            rw [updT_at] at h
            cases h
          · rw [updT_ne s] at h
            rw [live_upd s]; exact F _ _ _ h
    · have nok : ¬ unmOk B.n c g k p := fun h => hp (by rw [← eb]; exact h.2)
      have a0 : unmA M g k p = 4 := by unfold unmA; rw [if_pos ha]; exact if_neg hp
      have nz : ¬ unmA M g k p = 0 := by rw [a0]; decide
      have e2 : unmV B.n c g k p = Ent.zero := if_neg nok
      have e3 : unmX M g k p = Ent.zero := if_neg nz
      have e4 : unmM M g k p = M := if_neg nz
      have e5 : unmC B.n c g k p = c := if_neg nok
      have e6 : unmF B c f g k p = f := if_neg (fun h => nok h.1)
      have e7 : unmL M g left k p = left := if_neg (fun h => nz h.1)
      rw [e5, e6] at X'
      rw [e1, e2, e3, e4, e7]
      exact ⟨rfl, ⟨c, f, T, X', I, F, L, R⟩, K'⟩
  · have nok : ¬ unmOk B.n c g root page := fun h => ha h.1
    have e1 : unmE B.n c g root page = askE g root page true := if_neg ha
    have a0 : unmA M g root page = askE g root page true := if_neg ha
    have nz : ¬ unmA M g root page = 0 := by rw [a0]; exact ha
    have e2 : unmV B.n c g root page = Ent.zero := if_neg nok
    have e3 : unmX M g root page = Ent.zero := if_neg nz
    have e4 : unmM M g root page = M := if_neg nz
    have e5 : unmC B.n c g root page = c := if_neg nok
    have e6 : unmF B c f g root page = f := if_neg (fun h => nok h.1)
    have e7 : unmL M g left root page = left := if_neg (fun h => nz h.1)
    rw [e5, e6] at X'
    rw [e1, a0, e2, e3, e4, e7]
    exact ⟨rfl, ⟨c, f, T, X', I, F, L, R⟩, K'⟩
end
end Go.Proofs.YtepmljcapobodaaDoor
