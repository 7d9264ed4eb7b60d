/- A manager's calls, of the mappings. -/
import Derived.Test.YtepmljcapobodaaDoorPtInv2
namespace Go.Proofs.YtepmljcapobodaaDoor
open Go.RowKit
set_option linter.unusedVariables false
set_option maxRecDepth 100000
theorem cnt_turn {P Q : Nat → Bool} {j : Nat} (hP : P j = true) (hQ : Q j = false) (h : ∀ k, k ≠ j → P k = Q k) : ∀ n, j < n → cnt Q n + 1 = cnt P n
  | 0, hj => absurd hj (Nat.not_lt_zero j)
  | n + 1, hj => by
    unfold cnt
    by_cases e : j = n
    · subst e
      rw [hP, hQ, cnt_congr (P := P) (Q := Q) j (fun k hk => h k (by omega))]
      simp
    · rw [h n (fun q => e q.symm), ← cnt_turn hP hQ h n (by omega)]
      omega
theorem left_take {B : PB} {f : Int → Int} {n : Nat} (h : B.inr 0 n) (hn : n < 1024) (hf : f (n : Int) = 0) {v : Int} (hv : v ≠ 0) : leftN B (updI f n v) 0 + 1 = leftN B f 0 := by
  unfold leftN
  refine cnt_turn (j := n) (decide_eq_true ⟨h, hf⟩) (decide_eq_false (fun e => hv (by have := e.2; rwa [updI_at] at this))) (fun k hk => ?_) _ hn
  rw [updI_ne (by omega)]
theorem left_give {B : PB} {f : Int → Int} {n : Nat} (h : B.inr 0 n) (hn : n < 1024) (hf : f (n : Int) ≠ 0) : leftN B f 0 + 1 = leftN B (updI f n 0) 0 := by
  unfold leftN
  refine cnt_turn (j := n) (decide_eq_true ⟨h, updI_at _ _ _⟩) (decide_eq_false (fun e => hf e.2)) (fun k hk => ?_) _ hn
  rw [updI_ne (by omega)]
theorem left_zero {B : PB} (G : Geo B) {f : Int → Int} (h : leastN B f 0 = none) : leftN B f 0 = 0 := by
  unfold leftN
  rw [cnt_congr (Q := fun _ => false) _ (fun k _ => decide_eq_false (fun e => leastN_none G h k e.1 e.2))]
  have : ∀ n, cnt (fun _ => false) n = 0 := by intro n; induction n with | zero => rfl | succ n ih => rw [cnt, ih]; rfl
  exact this _
structure PtG (A : MB) (B : PB) : Prop where
  G : Geo B
  H : MGeo A B
  part : A.part = 0
theorem all_none {A : MB} {B : PB} (D : PtG A B) {c : Nat → Int} {f g : Int → Int} (e : leastN B f 0 = none) : allE B f A.part = (0, 3) ∧ allF B f A.part = f ∧ allC B f A.part c = c ∧ opnG B f g A.part = g := by
  have eN : allN B f A.part = none := by unfold allN; rw [if_pos ⟨by omega, by have := D.H.part; omega⟩, Int.toNat_natCast, D.part, e]
  refine ⟨?_, ?_, ?_, ?_⟩
  · unfold allE; rw [if_pos ⟨by omega, by have := D.H.part; omega⟩, Int.toNat_natCast, D.part, e]
  · unfold allF; rw [eN]
  · unfold allC; rw [eN]
  · unfold opnG; rw [eN]
theorem all_some {A : MB} {B : PB} (D : PtG A B) {c : Nat → Int} {f g : Int → Int} {n : Nat} (e : leastN B f 0 = some n) : allE B f A.part = ((n : Int), 0) ∧ allF B f A.part = updI f n 1 ∧ allC B f A.part c = updRow c n (fun _ => 0) ∧ opnG B f g A.part = updI g n 1 := by
  have eN : allN B f A.part = some n := by unfold allN; rw [if_pos ⟨by omega, by have := D.H.part; omega⟩, Int.toNat_natCast, D.part, e]
  refine ⟨?_, ?_, ?_, ?_⟩
  · unfold allE; rw [if_pos ⟨by omega, by have := D.H.part; omega⟩, Int.toNat_natCast, D.part, e]
  · unfold allF; rw [eN]
  · unfold allC; rw [eN]
  · unfold opnG; rw [eN]
/-- A manager whose mappings are M. -/
def PtSt (w : World) (A : MB) (B : PB) (many : Nat) (M : Nat → Nat → Ent) (g : Int → Int) (left q : Nat) : Prop :=
  ∃ c f T, PtAt w A B c f g q ∧ PInv B many c f g M T ∧ Full M T ∧ leftN B f 0 = left ∧ RefsOk B f
section
variable {w : World} {A : MB} {B : PB} {many : Nat} {M : Nat → Nat → Ent} {g : Int → Int} {left q : Nat}
theorem PtSt.next {w' : World} (D : PtG A B) (S : PtSt w A B many M g left q) (k : Keep nob w w') : PtSt w' A B many M g left q :=
  let ⟨c, f, T, X, I, F, L, R⟩ := S; ⟨c, f, T, X.next D.G k, I, F, L, R⟩
theorem PtSt.mono {r : Nat} (S : PtSt w A B many M g left q) (h : q ≤ r) : PtSt w A B many M g left r :=
  let ⟨c, f, T, X, I, F, L, R⟩ := S; ⟨c, f, T, X.mono h, I, F, L, R⟩
theorem st_open (hT : TabAt 0 Lib.deBruijn64tab w) (D : PtG A B) (S : PtSt w A B many M g left q) (hq : q < 4611686018427387904) :
    Calls Tryd.prog 34 #[.pointer (some ⟨A.t, 0, none⟩)] w fun r w' =>
      ((left = 0 ∧ r = .returned (.tuple #[.int .i64 0, .int .i64 3]) ∧ PtSt w' A B many M g 0 (q + 1)) ∨ ∃ n : Nat, n < many ∧ g n = 0 ∧ 0 < left ∧ r = .returned (.tuple #[.int .i64 n, .int .i64 0]) ∧ PtSt w' A B many M (updI g n 1) (left - 1) (q + 1)) ∧ Keep (ownT A B) w w' := by
  obtain ⟨c, f, T, X, I, F, L, R⟩ := S
  refine (open_ok hT D.G D.H X hq).mono ?_
  cases e : leastN B f 0 with
  | none =>
    obtain ⟨a1, a2, a3, a4⟩ := all_none D (c := c) (g := g) e
    rw [a1, a2, a3, a4]
    rintro r w' ⟨rfl, X', K⟩
    have l0 := left_zero D.G e
    exact ⟨Or.inl ⟨by omega, rfl, c, f, T, X', I, F, l0, R⟩, K⟩
  | some n =>
    obtain ⟨a1, a2, a3, a4⟩ := all_some D (c := c) (g := g) e
    rw [a1, a2, a3, a4]
    rintro r w' ⟨rfl, X', K⟩
    obtain ⟨i0, f0, -⟩ := leastN_some e
    have hn := (I.in0 n).1 i0
    have n1 := D.G.n
    have hm := I.hm
    have l1 := left_take i0 (by omega) f0 (v := 1) (by decide)
    have g0 : g (n : Int) = 0 := by
      by_cases h : g (n : Int) = 0
      · exact h
      · have := (I.hg n h).2; rw [f0] at this; cases this
    exact ⟨Or.inr ⟨n, by omega, g0, by omega, rfl, _, _, T, X', I.open (by omega) f0, F, by omega, R.upd _ _ 0 i0 (by decide) (by decide)⟩, K⟩
/-- A page's mapping, of any root and page. -/
def qryA (M : Nat → Nat → Ent) (g : Int → Int) (root page : Int) : Ent := if askE g root page true = 0 then M root.toNat page.toNat else Ent.zero
theorem qry_ans (D : PtG A B) {c : Nat → Int} {f : Int → Int} {T : Nat → Nat → Option Nat} (I : PInv B many c f g M T) (root page : Int) : qryE B.n c g root page = qryA M g root page := by
  unfold qryA
  by_cases h : askE g root page true = 0
  · obtain ⟨p0, p1, -, hg⟩ := ask_range h
    obtain ⟨⟨r0, r1⟩, -⟩ := I.hg root hg
    rw [if_pos h]
    have := I.qry D.G.n (r := root.toNat) (p := page.toNat) (by omega)
    rwa [Int.toNat_of_nonneg r0, Int.toNat_of_nonneg p0] at this
  · rw [if_neg h]
    exact if_neg (fun q => h q.1)
theorem st_query (D : PtG A B) (S : PtSt w A B many M g left q) (root page : Int) (hw : wfI root) :
    Calls Tryd.prog 44 #[.pointer (some ⟨A.t, 0, none⟩), .int .i64 root, .int .i64 page] w fun r w' => r = .returned (.tuple #[(qryA M g root page).val, .bool (qryA M g root page).p]) ∧ Keep nob w w' := by
  obtain ⟨c, f, T, X, I, F, L, R⟩ := S
  have := query_ok D.G X root page hw
  unfold qryB at this
  rwa [qry_ans D I] at this
theorem st_tables (D : PtG A B) (S : PtSt w A B many M g left q) (root : Int) (hw : wfI root) :
    Calls Tryd.prog 37 #[.pointer (some ⟨A.t, 0, none⟩), .int .i64 root] w fun r w' => r = .returned (.int .i64 (if g root = 0 then 0 else ((1 + cnt (live M root.toNat) 32 : Nat) : Int))) ∧ Keep nob w w' := by
  obtain ⟨c, f, T, X, I, F, L, R⟩ := S
  have C := tables_ok D.G X I.roots root hw
  unfold tabN at C
  by_cases h : g root = 0
  · rw [if_pos h] at C ⊢
    exact C
  · rw [if_neg h] at C ⊢
    have r0 := (I.hg root h).1.1
    rwa [I.tables F D.G.n (r := root.toNat) (by rwa [Int.toNat_of_nonneg r0])] at C
def allA (M : Nat → Nat → Ent) (g : Int → Int) (root : Int) : List (Nat × Ent) := if g root = 0 then [] else presF (M root.toNat) 1024
theorem st_all (D : PtG A B) (S : PtSt w A B many M g left q) (root : Int) (hw : wfI root) :
    Calls Tryd.prog 36 #[.pointer (some ⟨A.t, 0, none⟩), .int .i64 root] w fun r w' => ∃ v, r = .returned v ∧ MapsAt w.heap.size w' v (allA M g root) ∧ Keep nob w w' := by
  obtain ⟨c, f, T, X, I, F, L, R⟩ := S
  have C := all_ok D.G X I.roots root (fun h => I.tabsIn D.G.n h) hw
  have e : allV c g root = allA M g root := by
    unfold allV allA
    by_cases h : g root = 0
    · rw [if_pos h, if_pos h]
    · rw [if_neg h, if_neg h]
      have r0 := (I.hg root h).1.1
      exact I.all D.G.n (by rwa [Int.toNat_of_nonneg r0])
  rwa [e] at C
theorem st_left (D : PtG A B) (S : PtSt w A B many M g left q) :
    Calls Tryd.prog 24 #[.pointer (some ⟨B.p, 0, none⟩), .int .i64 0] w fun r w' => r = .returned (.int .i64 left) ∧ w = w' := by
  obtain ⟨c, f, T, X, I, F, L, R⟩ := S
  have C := left_in D.G X.P 0 (by have := D.G.some; omega)
  rwa [L] at C
end
end Go.Proofs.YtepmljcapobodaaDoor
