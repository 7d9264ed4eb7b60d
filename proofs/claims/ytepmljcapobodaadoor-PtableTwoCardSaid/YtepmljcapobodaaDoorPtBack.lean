/- A space that has just some pages, each with the same entry. -/
import Derived.Test.YtepmljcapobodaaDoorPtAwake
namespace Go.Proofs.YtepmljcapobodaaDoor
open Go.RowKit
set_option linter.unusedVariables false
set_option maxRecDepth 100000
/-- All of a manager's blocks lie below. -/
structure Bl (A : MB) (B : PB) (base : Nat) : Prop where
  b : B.b < base
  o : ∀ x, own B x → x < base
  t : A.t < base
  rt : A.rt < base
theorem Bl.no {A : MB} {B : PB} {base : Nat} (h : Bl A B base) : ∀ q, base ≤ q → ¬ ownT A B q := by
  rintro q hq (x | x)
  · exact Nat.not_lt.2 hq (h.o _ x)
  · exact Nat.not_lt.2 hq (by rw [x]; exact h.rt)
theorem PtSt.below {w : World} {A : MB} {B : PB} {many left q : Nat} {M : Nat → Nat → Ent} {g : Int → Int} (S : PtSt w A B many M g left q) : Bl A B w.heap.size := by
  obtain ⟨c, f, T, X, -⟩ := S
  exact ⟨X.P.mem.blt, X.O, World.block_lt_of_cell? _ _ X.M.tm, X.M.map.blt⟩
theorem PtSt.since {w w' : World} {A : MB} {B : PB} {many left q base : Nat} {M : Nat → Nat → Ent} {g : Int → Int} (D : PtG A B) (S : PtSt w A B many M g left q) (h : Bl A B base) (k : Keep (since base) w w') : PtSt w' A B many M g left q :=
  let ⟨c, f, T, X, I, F, L, R⟩ := S
  ⟨c, f, T, X.keep D.G k (Nat.not_le.2 h.b) (fun x hx => Nat.not_le.2 (h.o x hx)) (Nat.not_le.2 h.t) (Nat.not_le.2 h.rt), I, F, L, R⟩
theorem cnt_none : ∀ n, cnt (fun _ => false) n = 0 := by intro n; induction n with | zero => rfl | succ n ih => rw [cnt, ih]; rfl
theorem cnt_list : ∀ (l : List Nat) (N : Nat), l.Nodup → (∀ p ∈ l, p < N) → cnt (fun j => decide (j ∈ l)) N = l.length
  | [], N, _, _ => by
    rw [cnt_congr (Q := fun _ => false) N (fun j _ => by simp)]
    exact cnt_none N
  | a :: l, N, hd, hl => by
    obtain ⟨h1, h2⟩ := List.nodup_cons.1 hd
    have := cnt_turn (P := fun j => decide (j ∈ a :: l)) (Q := fun j => decide (j ∈ l)) (j := a) (by simp) (by simpa using h1) (fun k hk => by simp [hk]) N (hl a (by simp))
    rw [cnt_list l N h2 (fun p hp => hl p (by simp [hp]))] at this
    rw [List.length_cons]
    exact this.symm
theorem live_cnt_put {M : Nat → Nat → Ent} {n p : Nat} {e : Ent} (he : e.p = true) (hp : p < 1024) : cnt (live (updM M n p e) n) 32 = cnt (live M n) 32 + (if live M n (p / 32) = false then 1 else 0) := by
  cases h : live M n (p / 32) with
  | true =>
    rw [if_neg (show ¬ (true = false) from fun q => by cases q), Nat.add_zero]
    refine cnt_congr 32 fun i _ => ?_
    by_cases q : i = p / 32
    · subst q; rw [live_put he, h]
    · exact live_upd (fun x => q x.2)
  | false =>
    rw [if_pos (show false = false from rfl)]
    have z : p / 32 < 32 := by omega
    have := cnt_turn (P := live (updM M n p e) n) (Q := live M n) (j := p / 32) (live_put he) h (fun k hk => live_upd (fun x => hk x.2)) 32 z
    exact this.symm
theorem live_cnt_del {M : Nat → Nat → Ent} {n p : Nat} {e : Ent} (he : (M n p).p = true) (hp : p < 1024) : cnt (live M n) 32 = cnt (live (updM M n p e) n) 32 + (if live (updM M n p e) n (p / 32) = false then 1 else 0) := by
  have hl : live M n (p / 32) = true := live_of (j := p % 32) (by omega) (by rw [show p / 32 * 32 + p % 32 = p by omega]; exact he)
  cases h : live (updM M n p e) n (p / 32) with
  | true =>
    rw [if_neg (show ¬ (true = false) from fun q => by cases q), Nat.add_zero]
    refine cnt_congr 32 fun i _ => ?_
    by_cases q : i = p / 32
    · subst q; rw [hl, h]
    · exact (live_upd (fun x => q x.2)).symm
  | false =>
    rw [if_pos (show false = false from rfl)]
    have z : p / 32 < 32 := by omega
    have := cnt_turn (P := live M n) (Q := live (updM M n p e) n) (j := p / 32) hl h (fun k hk => (live_upd (fun x => hk x.2)).symm) 32 z
    exact this.symm
structure BkI (n : Nat) (e : Ent) (M : Nat → Nat → Ent) (dn : List Nat) (left tot : Nat) : Prop where
  m : ∀ r p, M r p = if r = n ∧ p ∈ dn then e else Ent.zero
  d : dn.Nodup
  lt : ∀ p ∈ dn, p < 1024
  p : dn ≠ [] → e.p = true
  l : left + cnt (live M n) 32 = tot
section
variable {n : Nat} {e : Ent} {M : Nat → Nat → Ent} {dn : List Nat} {left tot : Nat} {g : Int → Int}
theorem BkI.on (I : BkI n e M dn left tot) {p : Nat} (h : p ∈ dn) : M n p = e := by rw [I.m, if_pos ⟨rfl, h⟩]
theorem BkI.off (I : BkI n e M dn left tot) {p : Nat} (h : p ∉ dn) : M n p = Ent.zero := by rw [I.m, if_neg (fun q => h q.2)]
theorem BkI.start (n : Nat) (e : Ent) (tot : Nat) : BkI n e M0 [] tot tot := by
  refine ⟨fun r p => ?_, List.nodup_nil, fun p h => (by cases h), fun h => absurd rfl h, ?_⟩
  · rw [if_neg (fun q => by cases q.2)]; rfl
  · rw [cnt_congr (Q := fun _ => false) 32 (fun i _ => live_not (fun j _ => rfl)), cnt_none]; rfl
theorem BkI.same (I : BkI n e M dn left tot) {l : List Nat} (hd : l.Nodup) (h : ∀ p, p ∈ l ↔ p ∈ dn) : BkI n e M l left tot := by
  refine ⟨fun r p => ?_, hd, fun p hp => I.lt p ((h p).1 hp), fun q => I.p ?_, I.l⟩
  · rw [I.m]; simp only [h]
  · intro z
    obtain ⟨a, r, ha⟩ := List.exists_cons_of_ne_nil q
    have := (h a).1 (by rw [ha]; simp)
    rw [z] at this; cases this
theorem BkI.map (I : BkI n e M dn left tot) (N : Nat) (hg : g n ≠ 0) (page : Int) :
    (mapA N M g left n page e = 0 ∧ ∃ p : Nat, page = p ∧ BkI n e (mapM N M g left n page e) (dn ++ [p]) (mapL N M g left n page e) tot) ∨ (mapA N M g left n page e ≠ 0 ∧ BkI n e (mapM N M g left n page e) dn (mapL N M g left n page e) tot) := by
  by_cases h : mapA N M g left n page e = 0
  · refine Or.inl ⟨h, ?_⟩
    have h' := h
    unfold mapA at h'
    by_cases a : askE g n page (fitB N e) = 0
    · rw [if_pos a] at h'
      obtain ⟨p0, p1, hb, -⟩ := ask_range a
      obtain ⟨p, rfl⟩ : ∃ p : Nat, page = p := ⟨page.toNat, by omega⟩
      have he := (fitB_ok hb).2
      unfold mapM mapL
      rw [h, if_pos rfl]
      rw [Int.toNat_natCast, Int.toNat_natCast] at h' ⊢
      have hp : (M n p).p = false := by
        cases q : (M n p).p with
        | false => rfl
        | true => rw [q, if_pos rfl] at h'; cases h'
      rw [hp, if_neg (by decide)] at h'
      have hl : ¬ (live M n (p / 32) = false ∧ left = 0) := fun q => by rw [if_pos q] at h'; cases h'
      have nd : p ∉ dn := fun q => by rw [I.on q, he] at hp; cases hp
      refine ⟨p, rfl, fun r q => ?_, ?_, fun q hq => ?_, fun _ => he, ?_⟩
      · by_cases s : r = n ∧ q = p
        · obtain ⟨rfl, rfl⟩ := s
          rw [updM_at, if_pos ⟨rfl, by simp⟩]
        · rw [updM_ne s, I.m]
          by_cases t : r = n ∧ q ∈ dn
          · rw [if_pos t, if_pos ⟨t.1, by simp [t.2]⟩]
          · rw [if_neg t, if_neg]
            rintro ⟨q1, q2⟩
            rcases List.mem_append.1 q2 with q2 | q2
            · exact t ⟨q1, q2⟩
            · exact s ⟨q1, List.mem_singleton.1 q2⟩
      · rw [List.nodup_append]
        exact ⟨I.d, by simp, fun x hx y hy q => by rw [List.mem_singleton] at hy; rw [q, hy] at hx; exact nd hx⟩
      · rcases List.mem_append.1 hq with hq | hq
        · exact I.lt q hq
        · rw [List.mem_singleton.1 hq]; omega
      · rw [live_cnt_put he (by omega)]
        have := I.l
        by_cases z : live M n (p / 32) = false
        · rw [if_pos ⟨rfl, z⟩, if_pos z]
          have : left ≠ 0 := fun q => hl ⟨z, q⟩
          omega
        · rw [if_neg (fun q => z q.2), if_neg z]; omega
    · rw [if_neg a] at h'; exact absurd h' a
  · refine Or.inr ⟨h, ?_⟩
    unfold mapM mapL
    rw [if_neg h, if_neg (fun q => h q.1)]
    exact I
theorem BkI.unmap {a : Nat} (I : BkI n e M (a :: dn) left tot) (hg : g n ≠ 0) : unmA M g n a = 0 ∧ unmX M g n a = e ∧ BkI n e (unmM M g n a) dn (unmL M g left n a) tot := by
  have ha := I.lt a (by simp)
  have hm : M n a = e := I.on (by simp)
  have he := I.p (by simp)
  obtain ⟨d1, d2⟩ := List.nodup_cons.1 I.d
  have ask : askE g n a true = 0 := by unfold askE; rw [if_pos ⟨by omega, by omega, rfl⟩, if_neg hg]
  have e1 : unmA M g n a = 0 := by
    unfold unmA
    rw [if_pos ask, Int.toNat_natCast, Int.toNat_natCast, hm, he]
    rfl
  have e2 : unmM M g n a = updM M n a Ent.zero := by
    unfold unmM
    rw [if_pos e1, Int.toNat_natCast, Int.toNat_natCast]
  refine ⟨e1, ?_, ?_⟩
  · unfold unmX
    rw [if_pos e1, Int.toNat_natCast, Int.toNat_natCast, hm]
  · unfold unmL
    rw [e2, e1, Int.toNat_natCast, Int.toNat_natCast]
    refine ⟨fun r q => ?_, d2, fun q hq => I.lt q (by simp [hq]), fun _ => he, ?_⟩
    · by_cases s : r = n ∧ q = a
      · obtain ⟨rfl, rfl⟩ := s
        rw [updM_at, if_neg (fun q => d1 q.2)]
      · rw [updM_ne s, I.m]
        by_cases t : r = n ∧ q ∈ dn
        · rw [if_pos t, if_pos ⟨t.1, by simp [t.2]⟩]
        · rw [if_neg t, if_neg]
          rintro ⟨q1, q2⟩
          rcases List.mem_cons.1 q2 with q2 | q2
          · exact s ⟨q1, q2⟩
          · exact t ⟨q1, q2⟩
    · have := I.l
      rw [live_cnt_del (e := Ent.zero) (by rw [hm]; exact he) ha] at this
      by_cases z : live (updM M n a Ent.zero) n (a / 32) = false
      · rw [if_pos z] at this; rw [if_pos ⟨rfl, z⟩]; omega
      · rw [if_neg z] at this; rw [if_neg (fun q => z q.2)]; omega
theorem BkI.len (I : BkI n e M dn left tot) (hg : g n ≠ 0) : (allA M g n).length = dn.length := by
  unfold allA
  rw [if_neg hg, Int.toNat_natCast, presF_len, ← cnt_list dn 1024 I.d I.lt]
  refine cnt_congr _ fun j _ => ?_
  by_cases h : j ∈ dn
  · rw [I.on h, I.p (fun q => by rw [q] at h; cases h)]; simp [h]
  · rw [I.off h]; simp [h]; rfl
theorem BkI.bare (I : BkI n e M [] left tot) (r : Nat) : bare M r := fun i => live_not fun j _ => by rw [I.m, if_neg (fun q => by cases q.2)]; rfl
theorem BkI.done (I : BkI n e M [] left tot) : cnt (live M n) 32 = 0 := by
  rw [cnt_congr (Q := fun _ => false) 32 (fun i _ => I.bare n i)]
  exact cnt_none 32
end
end Go.Proofs.YtepmljcapobodaaDoor
