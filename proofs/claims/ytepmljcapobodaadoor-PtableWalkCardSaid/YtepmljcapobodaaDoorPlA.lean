/- The reference of layer 10: its spaces, its calls, and how they go with a manager's mappings. -/
import Derived.Test.YtepmljcapobodaaDoorPtAwake
import Derived.Test.YtepmljcapobodaaDoorFlat
import Derived.StillTailTactics
import Derived.Deep.QuietTactic
import Derived.BigQuiet
import Derived.Maps.AppendAt
import Derived.Laws.AppendOwnNone
import Derived.Deep.RegionHeld3
section
namespace Go.Proofs.YtepmljcapobodaaDoor
open Go.RowKit
set_option linter.unusedVariables false
set_option maxRecDepth 100000
/-- All of a manager's blocks lie below. -/
structure Bl (A : MB) (B : PB) (base : Nat) : Prop where
  b : B.b < base
  o : ∀ x, own B x → x < base
  t : A.t < base
  rt : A.rt < base
theorem Bl.no {A : MB} {B : PB} {base : Nat} (h : Bl A B base) : ∀ q, base ≤ q → ¬ ownT A B q := by
  rintro q hq (x | x)
  · exact Nat.not_lt.2 hq (h.o _ x)
  · exact Nat.not_lt.2 hq (by rw [x]; exact h.rt)
theorem PtSt.below {w : World} {A : MB} {B : PB} {many left q : Nat} {M : Nat → Nat → Ent} {g : Int → Int} (S : PtSt w A B many M g left q) : Bl A B w.heap.size := by
  obtain ⟨c, f, T, X, -⟩ := S
  exact ⟨X.P.mem.blt, X.O, World.block_lt_of_cell? _ _ X.M.tm, X.M.map.blt⟩
theorem PtSt.since {w w' : World} {A : MB} {B : PB} {many left q base : Nat} {M : Nat → Nat → Ent} {g : Int → Int} (D : PtG A B) (S : PtSt w A B many M g left q) (h : Bl A B base) (k : Keep (since base) w w') : PtSt w' A B many M g left q :=
  let ⟨c, f, T, X, I, F, L, R⟩ := S
  ⟨c, f, T, X.keep D.G k (Nat.not_le.2 h.b) (fun x hx => Nat.not_le.2 (h.o x hx)) (Nat.not_le.2 h.t) (Nat.not_le.2 h.rt), I, F, L, R⟩
theorem cnt_none : ∀ n, cnt (fun _ => false) n = 0 := by intro n; induction n with | zero => rfl | succ n ih => rw [cnt, ih]; rfl
theorem cnt_list : ∀ (l : List Nat) (N : Nat), l.Nodup → (∀ p ∈ l, p < N) → cnt (fun j => decide (j ∈ l)) N = l.length
  | [], N, _, _ => by
    rw [cnt_congr (Q := fun _ => false) N (fun j _ => by simp)]
    exact cnt_none N
  | a :: l, N, hd, hl => by
    obtain ⟨h1, h2⟩ := List.nodup_cons.1 hd
    have := cnt_turn (P := fun j => decide (j ∈ a :: l)) (Q := fun j => decide (j ∈ l)) (j := a) (by simp) (by simpa using h1) (fun k hk => by simp [hk]) N (hl a (by simp))
    rw [cnt_list l N h2 (fun p hp => hl p (by simp [hp]))] at this
    rw [List.length_cons]
    exact this.symm
theorem live_cnt_put {M : Nat → Nat → Ent} {n p : Nat} {e : Ent} (he : e.p = true) (hp : p < 1024) : cnt (live (updM M n p e) n) 32 = cnt (live M n) 32 + (if live M n (p / 32) = false then 1 else 0) := by
  cases h : live M n (p / 32) with
  | true =>
    rw [if_neg (show ¬ (true = false) from fun q => by cases q), Nat.add_zero]
    refine cnt_congr 32 fun i _ => ?_
    by_cases q : i = p / 32
    · subst q; rw [live_put he, h]
    · exact live_upd (fun x => q x.2)
  | false =>
    rw [if_pos (show false = false from rfl)]
    have z : p / 32 < 32 := by omega
    have := cnt_turn (P := live (updM M n p e) n) (Q := live M n) (j := p / 32) (live_put he) h (fun k hk => live_upd (fun x => hk x.2)) 32 z
    exact this.symm
theorem live_cnt_del {M : Nat → Nat → Ent} {n p : Nat} {e : Ent} (he : (M n p).p = true) (hp : p < 1024) : cnt (live M n) 32 = cnt (live (updM M n p e) n) 32 + (if live (updM M n p e) n (p / 32) = false then 1 else 0) := by
  have hl : live M n (p / 32) = true := live_of (j := p % 32) (by omega) (by rw [show p / 32 * 32 + p % 32 = p by omega]; exact he)
  cases h : live (updM M n p e) n (p / 32) with
  | true =>
    rw [if_neg (show ¬ (true = false) from fun q => by cases q), Nat.add_zero]
    refine cnt_congr 32 fun i _ => ?_
    by_cases q : i = p / 32
    · subst q; rw [hl, h]
    · exact (live_upd (fun x => q x.2)).symm
  | false =>
    rw [if_pos (show false = false from rfl)]
    have z : p / 32 < 32 := by omega
    have := cnt_turn (P := live M n) (Q := live (updM M n p e) n) (j := p / 32) hl h (fun k hk => (live_upd (fun x => hk x.2)).symm) 32 z
    exact this.symm
structure BkI (n : Nat) (e : Ent) (M : Nat → Nat → Ent) (dn : List Nat) (left tot : Nat) : Prop where
  m : ∀ r p, M r p = if r = n ∧ p ∈ dn then e else Ent.zero
  d : dn.Nodup
  lt : ∀ p ∈ dn, p < 1024
  p : dn ≠ [] → e.p = true
  l : left + cnt (live M n) 32 = tot
section
variable {n : Nat} {e : Ent} {M : Nat → Nat → Ent} {dn : List Nat} {left tot : Nat} {g : Int → Int}
theorem BkI.on (I : BkI n e M dn left tot) {p : Nat} (h : p ∈ dn) : M n p = e := by rw [I.m, if_pos ⟨rfl, h⟩]
theorem BkI.off (I : BkI n e M dn left tot) {p : Nat} (h : p ∉ dn) : M n p = Ent.zero := by rw [I.m, if_neg (fun q => h q.2)]
theorem BkI.start (n : Nat) (e : Ent) (tot : Nat) : BkI n e M0 [] tot tot := by
  refine ⟨fun r p => ?_, List.nodup_nil, fun p h => (by cases h), fun h => absurd rfl h, ?_⟩
  · rw [if_neg (fun q => by cases q.2)]; rfl
  · rw [cnt_congr (Q := fun _ => false) 32 (fun i _ => live_not (fun j _ => rfl)), cnt_none]; rfl
theorem BkI.same (I : BkI n e M dn left tot) {l : List Nat} (hd : l.Nodup) (h : ∀ p, p ∈ l ↔ p ∈ dn) : BkI n e M l left tot := by
  refine ⟨fun r p => ?_, hd, fun p hp => I.lt p ((h p).1 hp), fun q => I.p ?_, I.l⟩
  · rw [I.m]; simp only [h]
  · intro z
    obtain ⟨a, r, ha⟩ := List.exists_cons_of_ne_nil q
    have := (h a).1 (by rw [ha]; simp)
    rw [z] at this; cases this
theorem BkI.map (I : BkI n e M dn left tot) (N : Nat) (hg : g n ≠ 0) (page : Int) :
    (mapA N M g left n page e = 0 ∧ ∃ p : Nat, page = p ∧ BkI n e (mapM N M g left n page e) (dn ++ [p]) (mapL N M g left n page e) tot) ∨ (mapA N M g left n page e ≠ 0 ∧ BkI n e (mapM N M g left n page e) dn (mapL N M g left n page e) tot) := by
  by_cases h : mapA N M g left n page e = 0
  · refine Or.inl ⟨h, ?_⟩
    have h' := h
    unfold mapA at h'
    by_cases a : askE g n page (fitB N e) = 0
    · rw [if_pos a] at h'
      obtain ⟨p0, p1, hb, -⟩ := ask_range a
      obtain ⟨p, rfl⟩ : ∃ p : Nat, page = p := ⟨page.toNat, by omega⟩
      have he := (fitB_ok hb).2
      unfold mapM mapL
      rw [h, if_pos rfl]
      rw [Int.toNat_natCast, Int.toNat_natCast] at h' ⊢
      have hp : (M n p).p = false := by
        cases q : (M n p).p with
        | false => rfl
        | true => rw [q, if_pos rfl] at h'; cases h'
      rw [hp, if_neg (by decide)] at h'
      have hl : ¬ (live M n (p / 32) = false ∧ left = 0) := fun q => by rw [if_pos q] at h'; cases h'
      have nd : p ∉ dn := fun q => by rw [I.on q, he] at hp; cases hp
      refine ⟨p, rfl, fun r q => ?_, ?_, fun q hq => ?_, fun _ => he, ?_⟩
      · by_cases s : r = n ∧ q = p
        · obtain ⟨rfl, rfl⟩ := s
          rw [updM_at, if_pos ⟨rfl, by simp⟩]
        · rw [updM_ne s, I.m]
          by_cases t : r = n ∧ q ∈ dn
          · rw [if_pos t, if_pos ⟨t.1, by simp [t.2]⟩]
          · rw [if_neg t, if_neg]
            rintro ⟨q1, q2⟩
            rcases List.mem_append.1 q2 with q2 | q2
            · exact t ⟨q1, q2⟩
            · exact s ⟨q1, List.mem_singleton.1 q2⟩
      · rw [List.nodup_append]
        exact ⟨I.d, by simp, fun x hx y hy q => by rw [List.mem_singleton] at hy; rw [q, hy] at hx; exact nd hx⟩
      · rcases List.mem_append.1 hq with hq | hq
        · exact I.lt q hq
        · rw [List.mem_singleton.1 hq]; omega
      · rw [live_cnt_put he (by omega)]
        have := I.l
        by_cases z : live M n (p / 32) = false
        · rw [if_pos ⟨rfl, z⟩, if_pos z]
          have : left ≠ 0 := fun q => hl ⟨z, q⟩
          omega
        · rw [if_neg (fun q => z q.2), if_neg z]; omega
    · rw [if_neg a] at h'; exact absurd h' a
  · refine Or.inr ⟨h, ?_⟩
    unfold mapM mapL
    rw [if_neg h, if_neg (fun q => h q.1)]
    exact I
theorem BkI.unmap {a : Nat} (I : BkI n e M (a :: dn) left tot) (hg : g n ≠ 0) : unmA M g n a = 0 ∧ unmX M g n a = e ∧ BkI n e (unmM M g n a) dn (unmL M g left n a) tot := by
  have ha := I.lt a (by simp)
  have hm : M n a = e := I.on (by simp)
  have he := I.p (by simp)
  obtain ⟨d1, d2⟩ := List.nodup_cons.1 I.d
  have ask : askE g n a true = 0 := by unfold askE; rw [if_pos ⟨by omega, by omega, rfl⟩, if_neg hg]
  have e1 : unmA M g n a = 0 := by
    unfold unmA
    rw [if_pos ask, Int.toNat_natCast, Int.toNat_natCast, hm, he]
    rfl
  have e2 : unmM M g n a = updM M n a Ent.zero := by
    unfold unmM
    rw [if_pos e1, Int.toNat_natCast, Int.toNat_natCast]
  refine ⟨e1, ?_, ?_⟩
  · unfold unmX
    rw [if_pos e1, Int.toNat_natCast, Int.toNat_natCast, hm]
  · unfold unmL
    rw [e2, e1, Int.toNat_natCast, Int.toNat_natCast]
    refine ⟨fun r q => ?_, d2, fun q hq => I.lt q (by simp [hq]), fun _ => he, ?_⟩
    · by_cases s : r = n ∧ q = a
      · obtain ⟨rfl, rfl⟩ := s
        rw [updM_at, if_neg (fun q => d1 q.2)]
      · rw [updM_ne s, I.m]
        by_cases t : r = n ∧ q ∈ dn
        · rw [if_pos t, if_pos ⟨t.1, by simp [t.2]⟩]
        · rw [if_neg t, if_neg]
          rintro ⟨q1, q2⟩
          rcases List.mem_cons.1 q2 with q2 | q2
          · exact s ⟨q1, q2⟩
          · exact t ⟨q1, q2⟩
    · have := I.l
      rw [live_cnt_del (e := Ent.zero) (by rw [hm]; exact he) ha] at this
      by_cases z : live (updM M n a Ent.zero) n (a / 32) = false
      · rw [if_pos z] at this; rw [if_pos ⟨rfl, z⟩]; omega
      · rw [if_neg z] at this; rw [if_neg (fun q => z q.2)]; omega
theorem BkI.len (I : BkI n e M dn left tot) (hg : g n ≠ 0) : (allA M g n).length = dn.length := by
  unfold allA
  rw [if_neg hg, Int.toNat_natCast, presF_len, ← cnt_list dn 1024 I.d I.lt]
  refine cnt_congr _ fun j _ => ?_
  by_cases h : j ∈ dn
  · rw [I.on h, I.p (fun q => by rw [q] at h; cases h)]; simp [h]
  · rw [I.off h]; simp [h]; rfl
theorem BkI.bare (I : BkI n e M [] left tot) (r : Nat) : bare M r := fun i => live_not fun j _ => by rw [I.m, if_neg (fun q => by cases q.2)]; rfl
theorem BkI.done (I : BkI n e M [] left tot) : cnt (live M n) 32 = 0 := by
  rw [cnt_congr (Q := fun _ => false) 32 (fun i _ => I.bare n i)]
  exact cnt_none 32
end
end Go.Proofs.YtepmljcapobodaaDoor
end
section
namespace Go.Proofs.YtepmljcapobodaaDoor
open Go.RowKit
set_option linter.unusedVariables false
set_option linter.unusedSimpArgs false
set_option maxRecDepth 100000
/-! ### Rows of one's own, of any size -/
theorem own_cells {w : World} {base e N n : Nat} {v : Value} {xs : List Value} (h : w.ownsRow base e N v n xs) (hn : 0 < n) :
    ∃ g cap, v = .slice (some ⟨g, 0, none⟩) n cap ∧ base ≤ g ∧ g < w.heap.size ∧ n ≤ cap ∧ ∀ j u, xs[j]? = some u → w.cell? ⟨g, j, none⟩ = some u ∧ w.frozen? ⟨g, j, none⟩ = false := by
  obtain ⟨hl, ⟨_, h⟩ | ⟨g, cap, cur, rfl, h2, h3, h4, h5, h6, h7⟩⟩ := h
  · omega
  · refine ⟨g, cap, rfl, h2, (Array.getElem?_eq_some_iff.1 h3).1, h4, fun j u hu => ?_⟩
    have hj : j < xs.length := (List.getElem?_eq_some_iff.1 hu).1
    rw [← h7] at hu
    rw [List.getElem?_take] at hu
    split at hu
    · refine ⟨?_, ?_⟩
      · simp only [World.cell?, h3]
        simpa using hu
      · simp only [World.frozen?, h3]
        simp
    · cases hu
theorem flat_get {α : Type} {N : Nat} {cells : α → List Value} (hN : ∀ x, (cells x).length = N) : ∀ (l : List α) (k : Nat) (c : α) (j : Nat) (u : Value), l[k]? = some c → (cells c)[j]? = some u → (l.flatMap cells)[k * N + j]? = some u
  | [], k, c, j, u, h, _ => by simp at h
  | a :: l, 0, c, j, u, h, hu => by
    have e : a = c := by simpa using h
    subst e
    have hj : j < (cells a).length := (List.getElem?_eq_some_iff.1 hu).1
    rw [List.flatMap_cons, Nat.zero_mul, Nat.zero_add, List.getElem?_append_left hj]
    exact hu
  | a :: l, k + 1, c, j, u, h, hu => by
    have h' : l[k]? = some c := by simpa using h
    have := flat_get hN l k c j u h' hu
    rw [List.flatMap_cons, List.getElem?_append_right (by rw [hN, Nat.succ_mul]; omega), hN, Nat.succ_mul, show k * N + N + j - N = k * N + j by omega]
    exact this
theorem own_rows {α : Type} {N : Nat} {cells : α → List Value} (hN : ∀ x, (cells x).length = N) {w : World} {base e : Nat} {v : Value} {l : List α} (h : w.ownsRow base e N v l.length (l.flatMap cells)) (hm : l.length ≤ 4611686018427387904) : RowsAt N cells w v l := by
  by_cases hl : l = []
  · subst hl
    rcases h.2 with ⟨h1, -⟩ | ⟨g, cap, cur, hv, -⟩
    · exact ⟨none, 0, h1, by simp, by simp, fun q => absurd rfl q⟩
    · exact ⟨_, cap, hv, by simp, by simp, fun q => absurd rfl q⟩
  · have h0 : 0 < l.length := by
      cases l with
      | nil => exact absurd rfl hl
      | cons a r => simp
    obtain ⟨g, cap, hv, -, -, hc, hcells⟩ := own_cells h h0
    refine ⟨some ⟨g, 0, none⟩, cap, hv, by omega, hc, fun _ => ⟨g, 0, rfl, fun k c hk j u hu => ?_⟩⟩
    rw [Nat.zero_add]
    exact (hcells _ u (flat_get hN l k c j u hk hu)).1
theorem mapCells_len (x : Nat × Ent) : (mapCells x).length = 5 := rfl
/-- A slice of mappings that is read. -/
abbrev MapsIs (w : World) (v : Value) (l : List (Nat × Ent)) : Prop := RowsAt 5 mapCells w v l
theorem MapsAt.is {base : Nat} {w : World} {v : Value} {l : List (Nat × Ent)} (h : MapsAt base w v l) (hm : l.length ≤ 4611686018427387904) : MapsIs w v l := own_rows mapCells_len h.1 hm
theorem MapsAt.keep {base : Nat} {w w' : World} {v : Value} {l : List (Nat × Ent)} {S : Nat → Prop} (h : MapsAt base w v l) (k : Keep S w w') (hS : ∀ g, base ≤ g → ¬ S g) : MapsAt base w' v l := ⟨own_keep h.1 k hS, h.2⟩
/-! ### Entries and mappings compared -/
theorem eqEnt (d : Nat) (w : World) (a b c a' b' c' : Bool) (f f' : Int) :
    (Op.equalIn (d + 1 + 1) 69 (.agg #[.bool a, .bool b, .bool c, .int .i64 f]) (.agg #[.bool a', .bool b', .bool c', .int .i64 f'])).run Tryd.prog w =
      .ok (a == a' && (b == b' && (c == c' && f == f'))) w := by
  rw [Op.equalIn]
  simp only [Sem.run_bind, run_underlying Tryd.underlying69, Result.andThen_ok]
  simp [go_sem, List.range']
  by_cases h0 : a = a' <;> simp [h0, go_sem]
  by_cases h1 : b = b' <;> simp [h1, go_sem]
  by_cases h2 : c = c' <;> simp [h2, go_sem]
  by_cases h3 : f = f' <;> simp [h3]
theorem neEnt (w : World) (a b c a' b' c' : Bool) (f f' : Int) :
    (binOp .neq 69 (.agg #[.bool a, .bool b, .bool c, .int .i64 f]) (.agg #[.bool a', .bool b', .bool c', .int .i64 f'])).run Tryd.prog w =
      .ok (.bool (!decide ((⟨a, b, c, f⟩ : Ent) = ⟨a', b', c', f'⟩))) w := by
  have ha := eqEnt 9998 w a b c a' b' c' f f'
  simp only [run_neq_struct]
  simp [go_sem, ha]
  cases a <;> cases a' <;> cases b <;> cases b' <;> cases c <;> cases c' <;> by_cases h3 : f = f' <;> simp [h3]
theorem neMap (w : World) (n n' : Int) (a b c a' b' c' : Bool) (f f' : Int) :
    (binOp .neq 106 (.agg #[.int .i64 n, .bool a, .bool b, .bool c, .int .i64 f]) (.agg #[.int .i64 n', .bool a', .bool b', .bool c', .int .i64 f'])).run Tryd.prog w =
      .ok (.bool (!decide (n = n' ∧ (⟨a, b, c, f⟩ : Ent) = ⟨a', b', c', f'⟩))) w := by
  have ha := eqEnt 9997 w a b c a' b' c' f f'
  simp only [run_neq_struct]
  simp [go_sem, ha]
  (repeat' split) <;> simp_all
def Same10I (w : World) (l1 l2 : List (Nat × Ent)) (i : Value) (wr : World) : Prop :=
  ∃ k : Nat, i = .int .i64 k ∧ k ≤ l1.length ∧ l1.take k = l2.take k ∧ Keep nob w wr
set_option maxHeartbeats 1600000 in
theorem same10_ok {w : World} {v1 v2 : Value} {l1 l2 : List (Nat × Ent)} (h1 : MapsIs w v1 l1) (h2 : MapsIs w v2 l2) :
    Calls Tryd.prog 46 #[v1, v2] w fun e w' => e = .returned (.bool (decide (l1 = l2))) ∧ Keep nob w w' := by
  obtain ⟨a1, c1, rfl, m1, p1, g1⟩ := h1
  obtain ⟨a2, c2, rfl, m2, p2, g2⟩ := h2
  have G1 := Lib.hid g1
  have G2 := Lib.hid g2
  clear g1 g2
  by_cases hl : l1.length = l2.length
  · have t1 : ((l1.length : Int) != (l2.length : Int)) = false := by simp [hl]
    have HL := Lib.hid hl
    clear hl
    go_enter Tryd.func46, Tryd.ntmps46
    go_wp2_with fail
    go_loopw [5] (fun i wr => Same10I w l1 l2 i wr) (fun i _ => (l1.length - intOf i).toNat)
    case atStart => exact ⟨0, rfl, Nat.zero_le _, by simp, Keep.refl _ _⟩
    case round =>
      obtain ⟨k, rfl, hk, ht, A⟩ := hrel
      by_cases hlt : k < l1.length
      · have hlt2 : k < l2.length := by rw [← HL.out]; exact hlt
        obtain ⟨ga, oa, rfl, ca⟩ := G1.out (by intro e; rw [e] at hlt; simp at hlt)
        obtain ⟨gb, ob, rfl, cb⟩ := G2.out (by intro e; rw [e] at hlt2; simp at hlt2)
        have x1 := List.getElem?_eq_getElem hlt
        have x2 := List.getElem?_eq_getElem hlt2
        obtain ⟨⟨n, ⟨p, q, c, f⟩⟩, hx⟩ : ∃ x, l1[k] = x := ⟨_, rfl⟩
        obtain ⟨⟨n', ⟨p', q', c', f'⟩⟩, hy⟩ : ∃ x, l2[k] = x := ⟨_, rfl⟩
        rw [hx] at x1
        rw [hy] at x2
        have a0 : wr.cell? ⟨ga, oa + k * 5, none⟩ = some (.int .i64 n) := A.some (ca k _ x1 0 _ rfl) (fun x => x)
        have a1 : wr.cell? ⟨ga, oa + k * 5 + 1, none⟩ = some (.bool p) := A.some (ca k _ x1 1 _ rfl) (fun x => x)
        have a2 : wr.cell? ⟨ga, oa + k * 5 + 2, none⟩ = some (.bool q) := A.some (ca k _ x1 2 _ rfl) (fun x => x)
        have a3 : wr.cell? ⟨ga, oa + k * 5 + 3, none⟩ = some (.bool c) := A.some (ca k _ x1 3 _ rfl) (fun x => x)
        have a4 : wr.cell? ⟨ga, oa + k * 5 + 4, none⟩ = some (.int .i64 f) := A.some (ca k _ x1 4 _ rfl) (fun x => x)
        have b0 : wr.cell? ⟨gb, ob + k * 5, none⟩ = some (.int .i64 n') := A.some (cb k _ x2 0 _ rfl) (fun x => x)
        have b1 : wr.cell? ⟨gb, ob + k * 5 + 1, none⟩ = some (.bool p') := A.some (cb k _ x2 1 _ rfl) (fun x => x)
        have b2 : wr.cell? ⟨gb, ob + k * 5 + 2, none⟩ = some (.bool q') := A.some (cb k _ x2 2 _ rfl) (fun x => x)
        have b3 : wr.cell? ⟨gb, ob + k * 5 + 3, none⟩ = some (.bool c') := A.some (cb k _ x2 3 _ rfl) (fun x => x)
        have b4 : wr.cell? ⟨gb, ob + k * 5 + 4, none⟩ = some (.int .i64 f') := A.some (cb k _ x2 4 _ rfl) (fun x => x)
        have q1 : ((k : Int) < (l1.length : Int)) := by omega
        have q2 : ((k : Int) < (l2.length : Int)) := by omega
        have hne : ∀ w, (binOp .neq 106 (.agg #[.int .i64 (n : Int), .bool p, .bool q, .bool c, .int .i64 f]) (.agg #[.int .i64 (n' : Int), .bool p', .bool q', .bool c', .int .i64 f'])).run Tryd.prog w = .ok (.bool (!decide (l1[k] = l2[k]))) w := by
          intro w
          rw [neMap, hx, hy]
          congr 2
          have : ((n : Int) = n' ∧ (⟨p, q, c, f⟩ : Ent) = ⟨p', q', c', f'⟩) ↔ (((n, ⟨p, q, c, f⟩) : Nat × Ent) = (n', ⟨p', q', c', f'⟩)) := by
            constructor
            · rintro ⟨h1, h2⟩
              rw [h2, show n = n' by omega]
            · intro h
              injection h with h1 h2
              exact ⟨by omega, h2⟩
          simp only [this]
        have ha := Lib.hid A
        have htt := Lib.hid ht
        clear A ht ca cb
        replace x1 := Lib.hid x1
        replace x2 := Lib.hid x2
        replace hx := Lib.hid hx
        replace hy := Lib.hid hy
        by_cases he : l1[k] = l2[k]
        · have he' := Lib.hid he
          have td : decide (l1[k] = l2[k]) = true := decide_eq_true he
          rw [td] at hne
          clear he td
          go_wp2_with fail
          go_quiet (fail)
          go_wp2_with fail
          go_roundw
          case rel =>
            refine ⟨k + 1, by go_num, hlt, ?_, ha.out.then (Keep.drewN (Keep.refl _ _) _)⟩
            rw [List.take_succ_eq_append_getElem hlt, List.take_succ_eq_append_getElem hlt2, htt.out, he'.out]
          case measure => simp [intOf]; omega
        · have he' := Lib.hid he
          have td : decide (l1[k] = l2[k]) = false := decide_eq_false he
          rw [td] at hne
          clear he td
          go_wp2_with fail
          go_quiet (fail)
          go_wp2_with fail
          go_ret
          refine ⟨?_, ha.out.then (Keep.drewN (Keep.refl _ _) _)⟩
          have hne : ¬ l1 = l2 := by
            intro e
            subst e
            exact he'.out rfl
          exact ret_bool (decide_eq_false hne).symm
      · have t4 : decide (k < l1.length) = false := by simpa using hlt
        have A := Lib.hid A
        have ht := Lib.hid ht
        go_wp2_with fail
        go_ret
        have ht := ht.out
        have A := A.out
        refine ⟨?_, A⟩
        rw [List.take_of_length_le (by omega), List.take_of_length_le (by rw [← HL.out]; omega)] at ht
        exact ret_bool (decide_eq_true ht).symm
  · have t1 : ((l1.length : Int) != (l2.length : Int)) = true := by simp; omega
    have t2 : (l1.length != l2.length) = true := by simpa using hl
    have t3 : (l1.length == l2.length) = false := by simpa using hl
    have HL := Lib.hid hl
    clear hl
    go_enter Tryd.func46, Tryd.ntmps46
    go_wp2_with fail
    go_ret
    refine ⟨?_, Keep.refl _ _⟩
    exact ret_bool (decide_eq_false (fun e => HL.out (by rw [e]))).symm
end Go.Proofs.YtepmljcapobodaaDoor
end
section
namespace Go.Proofs.YtepmljcapobodaaDoor
open Go.ChangeShapes Go.WideShapes Go.ChangeAt Go.RowKit Go.Deep
set_option linter.unusedVariables false
set_option maxRecDepth 100000
structure Op10 where
  d : Int
  s : Int
  p : Int
  e : Ent
def op10Cells (o : Op10) : List Value := [.int .i64 o.d, .int .i64 o.s, .int .i64 o.p, .bool o.e.p, .bool o.e.w, .bool o.e.c, .int .i64 o.e.f]
def op10Fine (o : Op10) : Prop := wfI o.d ∧ wfI o.s ∧ wfI o.p ∧ wfI o.e.f
theorem op10_has (cs : List Value) (h : HasAll [.i .i64, .i .i64, .i .i64, .b, .b, .b, .i .i64] cs) : ∃ o, op10Fine o ∧ cs = op10Cells o := by
  obtain ⟨a, r1, e1, ⟨x, x1, hx⟩, h1⟩ := HasAll.cons h
  obtain ⟨b, r2, e2, ⟨y, y1, hy⟩, h2⟩ := HasAll.cons h1
  obtain ⟨c, r3, e3, ⟨z, z1, hz⟩, h3⟩ := HasAll.cons h2
  obtain ⟨d, r4, e4, ⟨p, p1⟩, h4⟩ := HasAll.cons h3
  obtain ⟨e, r5, e5, ⟨q, q1⟩, h5⟩ := HasAll.cons h4
  obtain ⟨f, r6, e6, ⟨t, t1⟩, h6⟩ := HasAll.cons h5
  obtain ⟨g, r7, e7, ⟨u, u1, hu⟩, h7⟩ := HasAll.cons h6
  have e8 := HasAll.nil h7
  rw [e1, e2, e3, e4, e5, e6, e7, e8, x1, y1, z1, p1, q1, t1, u1]
  exact ⟨⟨x, y, z, ⟨p, q, t, u⟩⟩, ⟨wfI_of hx, wfI_of hy, wfI_of hz, wfI_of hu⟩, rfl⟩
abbrev OpsAt (w : World) (v : Value) (l : List Op10) : Prop := RowsAt 7 op10Cells w v l
section
variable {H : Type} {enc : TypeId × Value → H} {w : World} {spare : Nat → Bool} {held : Bool}
theorem flatI10 : Flat 3 [.i .i64] := flat_int Tryd.underlying3
theorem cellsI10 : Tryd.prog.cellsOf 3 = 1 := by kernel_rfl
theorem flatB10 : Flat 4 [.b] := flat_bool Tryd.underlying4
theorem cellsB10 : Tryd.prog.cellsOf 4 = 1 := by kernel_rfl
theorem flatE10 : Flat 69 [.b, .b, .b, .i .i64] := flat_struct (ks := [[.b], [.b], [.b], [.i .i64]]) Tryd.underlying69 (by kernel_rfl) (.cons flatB10 rfl cellsB10 (.cons flatB10 rfl cellsB10 (.cons flatB10 rfl cellsB10 (.cons flatI10 rfl cellsI10 (.nil _)))))
theorem flatOp10 : Flat 90 [.i .i64, .i .i64, .i .i64, .b, .b, .b, .i .i64] := flat_struct (ks := [[.i .i64], [.i .i64], [.i .i64], [.b, .b, .b, .i .i64]]) Tryd.underlying90 (by kernel_rfl) (.cons flatI10 rfl cellsI10 (.cons flatI10 rfl cellsI10 (.cons flatI10 rfl cellsI10 (.cons flatE10 rfl cellsEnt (.nil _)))))
theorem open_ops10 {v : Value} {d : DataW H} {p : List MemPlace} {r : Reach} {b0 base : Nat}
    (hv : Value.okWide Tryd.prog w r b0 82 v) (h : DataW.Trod enc Tryd.prog w base spare held 82 v d p) : ∃ l : List Op10, OpsAt w v l ∧ ∀ o ∈ l, op10Fine o :=
  open_flat op10Cells op10Fine Tryd.underlying82 (by kernel_rfl) (by decide) flatOp10 op10_has hv h
end
/-! ### Lists of mappings -/
theorem cnt_most (P : Nat → Bool) : ∀ n, cnt P n ≤ n
  | 0 => Nat.le_refl _
  | n + 1 => by have := cnt_most P n; unfold cnt; split <;> omega
theorem allA_len (M : Nat → Nat → Ent) (g : Int → Int) (r : Int) : (allA M g r).length ≤ 1024 := by
  unfold allA
  split
  · simp
  · rw [presF_len]; exact cnt_most _ _
theorem presF_put {F : Nat → Ent} {p : Nat} {e : Ent} (hp : (F p).p = e.p) : ∀ k, presF (fun j => if j = p then e else F j) k = (presF F k).map (fun y => (y.1, if y.1 = p then e else y.2))
  | 0 => rfl
  | k + 1 => by
    rw [presF_succ, presF_succ, presF_put hp k]
    by_cases h : k = p
    · subst h
      rw [if_pos rfl, ← hp]
      split
      · rw [List.map_append, List.map_singleton, if_pos rfl]
      · rfl
    · rw [if_neg h]
      split
      · rw [List.map_append, List.map_singleton, if_neg h]
      · rfl
theorem allA_set (n : Nat) (M : Nat → Nat → Ent) (g : Int → Int) (r page : Int) (e : Ent) :
    allA (setM n M g r page e) g r = (allA M g r).map (fun y => (y.1, if setA n M g r page e = 0 ∧ (y.1 : Int) = page then e else y.2)) := by
  unfold setM
  by_cases h : setA n M g r page e = 0
  · rw [if_pos h]
    have h' := h
    unfold setA at h'
    by_cases a : askE g r page (fitB n e) = 0
    · rw [if_pos a] at h'
      obtain ⟨p0, p1, hb, hg⟩ := ask_range a
      have he := (fitB_ok hb).2
      have hp : (M r.toNat page.toNat).p = true := by
        cases q : (M r.toNat page.toNat).p with
        | true => rfl
        | false => rw [q] at h'; cases h'
      unfold allA
      rw [if_neg hg, if_neg hg]
      have e1 : updM M r.toNat page.toNat e r.toNat = fun j => if j = page.toNat then e else M r.toNat j := by
        funext j
        by_cases q : j = page.toNat
        · rw [if_pos q, q]; exact updM_at _ _ _ _
        · rw [if_neg q]; exact updM_ne (fun z => q z.2)
      rw [e1, presF_put (by rw [hp, he])]
      refine List.map_congr_left fun y _ => ?_
      have : (y.1 = page.toNat) ↔ (setA n M g r page e = 0 ∧ (y.1 : Int) = page) := by
        constructor
        · intro q; exact ⟨h, by omega⟩
        · rintro ⟨_, q⟩; omega
      simp only [this]
    · rw [if_neg a] at h'; exact absurd h' a
  · rw [if_neg h]
    have : (fun y : Nat × Ent => (y.1, if setA n M g r page e = 0 ∧ (y.1 : Int) = page then e else y.2)) = id := by
      funext y
      rw [if_neg (fun q => h q.1)]
      rfl
    rw [this, List.map_id]
theorem allA_other {M M' : Nat → Nat → Ent} {g : Int → Int} {r : Nat} (h : ∀ p, M' r p = M r p) : allA M' g r = allA M g r := by
  unfold allA
  split
  · rfl
  · rw [Int.toNat_natCast]; exact presF_congr fun j _ => h j
theorem mapM_other (n : Nat) (M : Nat → Nat → Ent) (g : Int → Int) (left r : Nat) (page : Int) (e : Ent) {x : Nat} (h : x ≠ r) (p : Nat) : mapM n M g left r page e x p = M x p := by
  unfold mapM
  split
  · exact updM_ne (fun q => h (by have := q.1; rw [Int.toNat_natCast] at this; exact this))
  · rfl
theorem unmM_other (M : Nat → Nat → Ent) (g : Int → Int) (r : Nat) (page : Int) {x : Nat} (h : x ≠ r) (p : Nat) : unmM M g r page x p = M x p := by
  unfold unmM
  split
  · exact updM_ne (fun q => h (by have := q.1; rw [Int.toNat_natCast] at this; exact this))
  · rfl
theorem setM_other (n : Nat) (M : Nat → Nat → Ent) (g : Int → Int) (r : Nat) (page : Int) (e : Ent) {x : Nat} (h : x ≠ r) (p : Nat) : setM n M g r page e x p = M x p := by
  unfold setM
  split
  · exact updM_ne (fun q => h (by have := q.1; rw [Int.toNat_natCast] at this; exact this))
  · rfl
end Go.Proofs.YtepmljcapobodaaDoor
end
section
namespace Go.Proofs.YtepmljcapobodaaDoor
open Go.RowKit
set_option linter.unusedVariables false
set_option maxRecDepth 100000
/-! ### Tables -/
def newG (l : List (Nat × Ent)) (i : Nat) : Bool := decide (i = 0 ∨ (l.getD (i - 1) (0, Ent.zero)).1 / 32 ≠ (l.getD i (0, Ent.zero)).1 / 32)
def tabR (l : List (Nat × Ent)) : Nat := 1 + cnt (newG l) l.length
theorem tabR_le (l : List (Nat × Ent)) : tabR l ≤ 1 + l.length := by
  unfold tabR
  have := cnt_most (newG l) l.length
  omega
def TabI (w : World) (l : List (Nat × Ent)) (n i : Value) (wr : World) : Prop :=
  ∃ k : Nat, i = .int .i64 k ∧ k ≤ l.length ∧ n = .int .i64 ((1 + cnt (newG l) k : Nat) : Int) ∧ Keep nob w wr
theorem cnt_step (P : Nat → Bool) (k : Nat) : cnt P (k + 1) = cnt P k + (if P k then 1 else 0) := rfl
set_option maxHeartbeats 1600000 in
theorem tab_ok {w : World} {v : Value} {l : List (Nat × Ent)} (h : MapsIs w v l) (hm : l.length ≤ 1024) (hp : ∀ x ∈ l, x.1 < 1024) :
    Calls Tryd.prog 47 #[v] w fun r w' => r = .returned (.int .i64 (tabR l)) ∧ Keep nob w w' := by
  obtain ⟨a, cap, rfl, m1, p1, g1⟩ := h
  have G1 := Lib.hid g1
  clear g1
  replace hp := Lib.hid hp
  go_enter Tryd.func47, Tryd.ntmps47
  go_wp2_with fail
  go_loopw [3, 4] (fun n i wr => TabI w l n i wr) (fun _ i _ => (l.length - intOf i).toNat)
  case atStart => exact ⟨0, rfl, Nat.zero_le _, rfl, Keep.refl _ _⟩
  case round =>
    obtain ⟨k, rfl, hk, rfl, K⟩ := hrel
    have hc := cnt_most (newG l) k
    obtain ⟨C, hC⟩ : ∃ C : Nat, 1 + cnt (newG l) k = C := ⟨_, rfl⟩
    rw [hC]
    have hCb : C ≤ 1025 := by omega
    by_cases hlt : k < l.length
    · have hne : l ≠ [] := by intro e; rw [e] at hlt; simp at hlt
      obtain ⟨g, o, rfl, cs⟩ := G1.out hne
      have t4 : decide (k < l.length) = true := by simpa using hlt
      have fin : ∀ b : Bool, newG l k = b → (1 + cnt (newG l) (k + 1) : Nat) = if b then C + 1 else C := by
        intro b hb
        rw [cnt_step, hb]
        cases b
        · rw [if_neg (by decide), if_neg (by decide)]; exact hC
        · rw [if_pos rfl, if_pos rfl]; omega
      rcases k with _ | j
      · have nb : newG l 0 = true := by unfold newG; simp
        have F := fin _ nb
        rw [if_pos rfl] at F
        replace K := Lib.hid K
        replace hC := Lib.hid hC
        replace F := Lib.hid F
        replace fin := Lib.hid fin
        replace hc := Lib.hid hc
        replace nb := Lib.hid nb
        clear cs
        go_wp2_with fail
        go_quiet (fail)
        go_wp2_with fail
        go_roundw
        case rel => exact ⟨0 + 1, by go_num, hlt, by rw [F.out]; go_num, K.out.then (Keep.drewN (Keep.refl _ _) _)⟩
        case measure => simp [intOf]; omega
      · have x1 : l[j]? = some l[j] := List.getElem?_eq_getElem (by omega)
        have x2 := List.getElem?_eq_getElem hlt
        have y1 := hp.out _ (List.getElem_mem (show j < l.length by omega))
        have y2 := hp.out _ (List.getElem_mem hlt)
        have nb : newG l (j + 1) = ((l[j].1 : Int) / 32 != (l[j + 1].1 : Int) / 32) := by
          unfold newG
          rw [List.getD_eq_getElem?_getD, List.getD_eq_getElem?_getD, show j + 1 - 1 = j by omega, x1, x2]
          simp only [Option.getD_some]
          by_cases q : l[j].1 / 32 = l[j + 1].1 / 32
          · have q' : (l[j].1 : Int) / 32 = (l[j + 1].1 : Int) / 32 := by omega
            rw [q']; simp [q]
          · have q' : ¬ (l[j].1 : Int) / 32 = (l[j + 1].1 : Int) / 32 := by omega
            simp [q]; exact q'
        obtain ⟨P, hP⟩ : ∃ P, l[j].1 = P := ⟨_, rfl⟩
        obtain ⟨R, hR⟩ : ∃ R, l[j + 1].1 = R := ⟨_, rfl⟩
        have c1 : wr.cell? ⟨g, o + j * 5, none⟩ = some (.int .i64 P) := by rw [← hP]; exact K.some (cs j _ x1 0 _ rfl) (fun x => x)
        have c2 : wr.cell? ⟨g, o + (j + 1) * 5, none⟩ = some (.int .i64 R) := by rw [← hR]; exact K.some (cs (j + 1) _ x2 0 _ rfl) (fun x => x)
        rw [hP, hR] at nb
        rw [hP] at y1
        rw [hR] at y2
        have z1 : 0 ≤ (P : Int) := by omega
        have z2 : 0 ≤ (R : Int) := by omega
        obtain ⟨b, hb⟩ : ∃ b, ((P : Int) / 32 != (R : Int) / 32) = b := ⟨_, rfl⟩
        rw [hb] at nb
        have F := fin _ nb
        have t6 : (((j : Int) + 1) == 0) = false := by simp; omega
        have t7 : ((((j + 1 : Nat)) : Int) == 0) = false := by simp; omega
        replace K := Lib.hid K
        replace hC := Lib.hid hC
        replace F := Lib.hid F
        replace fin := Lib.hid fin
        replace hc := Lib.hid hc
        replace nb := Lib.hid nb
        replace x1 := Lib.hid x1
        replace x2 := Lib.hid x2
        replace hP := Lib.hid hP
        replace hR := Lib.hid hR
        clear cs
        cases b with
        | true =>
          replace F := Lib.hid (F.out.trans (if_pos rfl))
          go_wp2_with fail
          go_quiet (fail)
          go_wp2_with fail
          go_roundw
          case rel => exact ⟨j + 1 + 1, by go_num, hlt, by rw [F.out]; go_num, K.out.then (Keep.drewN (Keep.refl _ _) _)⟩
          case measure => simp [intOf]; omega
        | false =>
          replace F := Lib.hid (F.out.trans (if_neg (by decide)))
          go_wp2_with fail
          go_quiet (fail)
          go_wp2_with fail
          go_roundw
          case rel => exact ⟨j + 1 + 1, by go_num, hlt, by rw [F.out], K.out.then (Keep.drewN (Keep.refl _ _) _)⟩
          case measure => simp [intOf]; omega
    · have t4 : decide (k < l.length) = false := by simpa using hlt
      have e : tabR l = C := by unfold tabR; rw [← hC, show l.length = k by omega]
      replace K := Lib.hid K
      replace hC := Lib.hid hC
      replace hc := Lib.hid hc
      replace e := Lib.hid e
      go_wp2_with fail
      go_ret
      exact ⟨by rw [e.out]; rfl, K.out⟩
/-! ### place -/
def plF (l : List (Nat × Ent)) (page : Int) : Nat :=
  match l with
  | [] => 0
  | x :: r => if (x.1 : Int) < page then 1 + plF r page else 0
def isF (l : List (Nat × Ent)) (page : Int) : Bool :=
  match l[plF l page]? with
  | none => false
  | some x => decide ((x.1 : Int) = page)
theorem plF_le : ∀ (l : List (Nat × Ent)) (page : Int), plF l page ≤ l.length
  | [], _ => Nat.le_refl _
  | x :: r, page => by
    unfold plF
    have := plF_le r page
    split
    · rw [List.length_cons]; omega
    · omega
def PlaI (w : World) (l : List (Nat × Ent)) (page : Int) (i : Value) (wr : World) : Prop :=
  ∃ k : Nat, i = .int .i64 k ∧ k ≤ l.length ∧ k + plF (l.drop k) page = plF l page ∧ Keep nob w wr
set_option maxHeartbeats 1600000 in
theorem place_ok {w : World} {v : Value} {l : List (Nat × Ent)} (h : MapsIs w v l) (hm : l.length ≤ 1024) (hp : ∀ x ∈ l, x.1 < 1024) (page : Int) :
    Calls Tryd.prog 82 #[v, .int .i64 page] w fun r w' => r = .returned (.tuple #[.int .i64 (plF l page), .bool (isF l page)]) ∧ Keep nob w w' := by
  obtain ⟨a, cap, rfl, m1, p1, g1⟩ := h
  have G1 := Lib.hid g1
  clear g1
  replace hp := Lib.hid hp
  go_enter Tryd.func82, Tryd.ntmps82
  go_wp2_with fail
  go_loopw [6] (fun i wr => PlaI w l page i wr) (fun i _ => (l.length - intOf i).toNat)
  case atStart => exact ⟨0, rfl, Nat.zero_le _, by rw [List.drop_zero, Nat.zero_add], Keep.refl _ _⟩
  case round =>
    obtain ⟨k, rfl, hk, hd, K⟩ := hrel
    by_cases hlt : k < l.length
    · have hne : l ≠ [] := by intro e; rw [e] at hlt; simp at hlt
      obtain ⟨g, o, rfl, cs⟩ := G1.out hne
      have t4 : decide (k < l.length) = true := by simpa using hlt
      have x1 := List.getElem?_eq_getElem hlt
      have y1 := hp.out _ (List.getElem_mem hlt)
      have hdr : l.drop k = l[k] :: l.drop (k + 1) := List.drop_eq_getElem_cons hlt
      have hpl : plF (l.drop k) page = if (l[k].1 : Int) < page then 1 + plF (l.drop (k + 1)) page else 0 := by rw [hdr]; rfl
      rw [hpl] at hd
      have hi : plF l page = k → isF l page = decide ((l[k].1 : Int) = page) := by
        intro q
        unfold isF
        rw [q, x1]
      obtain ⟨P, hP⟩ : ∃ P, l[k].1 = P := ⟨_, rfl⟩
      rw [hP] at hd y1 hi hpl
      have c1 : wr.cell? ⟨g, o + k * 5, none⟩ = some (.int .i64 P) := by rw [← hP]; exact K.some (cs k _ x1 0 _ rfl) (fun x => x)
      by_cases q : (P : Int) < page
      · have t5 : decide ((P : Int) < page) = true := decide_eq_true q
        rw [if_pos q] at hd
        replace hd := Lib.hid hd
        replace K := Lib.hid K
        replace x1 := Lib.hid x1
        replace hdr := Lib.hid hdr
        replace hP := Lib.hid hP
        replace hi := Lib.hid hi
        replace q := Lib.hid q
        replace hpl := Lib.hid hpl
        clear cs
        go_wp2_with fail
        go_roundw
        case rel => exact ⟨k + 1, by go_num, hlt, by have := hd.out; omega, K.out⟩
        case measure => simp [intOf]; omega
      · have t5 : decide ((P : Int) < page) = false := decide_eq_false q
        rw [if_neg q] at hd
        have e1 : plF l page = k := by omega
        have e2 := hi e1
        by_cases z : (P : Int) = page
        · have t6 : ((P : Int) == page) = true := by simpa using z
          rw [decide_eq_true z] at e2
          replace hd := Lib.hid hd
          replace K := Lib.hid K
          replace x1 := Lib.hid x1
          replace hdr := Lib.hid hdr
          replace hP := Lib.hid hP
          replace hi := Lib.hid hi
          replace q := Lib.hid q
          replace hpl := Lib.hid hpl
          replace e1 := Lib.hid e1
          replace e2 := Lib.hid e2
          replace z := Lib.hid z
          clear cs
          go_wp2_with fail
          go_quiet (fail)
          go_wp2_with fail
          refine bodyPost_ret (results_tmp2 rfl _ _ _) rfl ?_
          exact ⟨by rw [e1.out, e2.out]; rfl, K.out.then (Keep.drewN (Keep.refl _ _) _)⟩
        · have t6 : ((P : Int) == page) = false := by simpa using z
          rw [decide_eq_false z] at e2
          replace hd := Lib.hid hd
          replace K := Lib.hid K
          replace x1 := Lib.hid x1
          replace hdr := Lib.hid hdr
          replace hP := Lib.hid hP
          replace hi := Lib.hid hi
          replace q := Lib.hid q
          replace hpl := Lib.hid hpl
          replace e1 := Lib.hid e1
          replace e2 := Lib.hid e2
          replace z := Lib.hid z
          clear cs
          go_wp2_with fail
          go_quiet (fail)
          go_wp2_with fail
          refine bodyPost_ret (results_tmp2 rfl _ _ _) rfl ?_
          exact ⟨by rw [e1.out, e2.out]; rfl, K.out.then (Keep.drewN (Keep.refl _ _) _)⟩
    · have t4 : decide (k < l.length) = false := by simpa using hlt
      have e0 : l.drop k = [] := List.drop_of_length_le (by omega)
      rw [e0] at hd
      have e1 : plF l page = k := by rw [← hd]; rfl
      have e2 : isF l page = false := by
        unfold isF
        rw [e1, List.getElem?_eq_none (by omega)]
      replace K := Lib.hid K
      replace hd := Lib.hid hd
      replace e0 := Lib.hid e0
      replace e1 := Lib.hid e1
      replace e2 := Lib.hid e2
      go_wp2_with fail
      go_quiet (fail)
      go_wp2_with fail
      refine bodyPost_ret (results_tmp2 rfl _ _ _) rfl ?_
      exact ⟨by rw [e1.out, e2.out]; rfl, K.out.then (Keep.drewN (Keep.refl _ _) _)⟩
/-! ### root -/
def natCells (x : Nat) : List Value := [.int .i64 (x : Int)]
def rootR (l : List Nat) (n : Int) : Int := if n < 0 ∨ (l.length : Int) ≤ n then -1 else ((l.getD n.toNat 0 : Nat) : Int)
theorem root_ok {w : World} {v : Value} {l : List Nat} (h : RowsAt 1 natCells w v l) (hm : l.length ≤ 1000) (n : Int) :
    Calls Tryd.prog 43 #[v, .int .i64 n] w fun r w' => r = .returned (.int .i64 (rootR l n)) ∧ w = w' := by
  obtain ⟨a, cap, rfl, m1, p1, g1⟩ := h
  have G1 := Lib.hid g1
  clear g1
  by_cases h0 : n < 0
  · have t0 : decide (n < 0) = true := by simpa using h0
    have e : rootR l n = -1 := by unfold rootR; rw [if_pos (Or.inl h0)]
    replace e := Lib.hid e
    go_enter Tryd.func43, Tryd.ntmps43
    go_wp2_with fail
    go_ret
    exact ⟨by rw [e.out]; rfl, rfl⟩
  have t0 : decide (n < 0) = false := by simpa using h0
  by_cases h1 : (l.length : Int) ≤ n
  · have t1 : decide ((l.length : Int) ≤ n) = true := by simpa using h1
    have e : rootR l n = -1 := by unfold rootR; rw [if_pos (Or.inr h1)]
    replace e := Lib.hid e
    go_enter Tryd.func43, Tryd.ntmps43
    go_wp2_with fail
    go_ret
    exact ⟨by rw [e.out]; rfl, rfl⟩
  have t1 : decide ((l.length : Int) ≤ n) = false := by simpa using h1
  obtain ⟨k, rfl⟩ : ∃ k : Nat, n = k := ⟨n.toNat, by omega⟩
  have hlt : k < l.length := by omega
  obtain ⟨g, o, rfl, cs⟩ := G1.out (by intro e; rw [e] at hlt; simp at hlt)
  have x1 := List.getElem?_eq_getElem hlt
  have c1 : w.cell? ⟨g, o + (k * 1 + 0), none⟩ = some (.int .i64 (l[k] : Int)) := cs k _ x1 0 _ rfl
  rw [show o + (k * 1 + 0) = o + k by omega] at c1
  have e : rootR l k = (l[k] : Int) := by
    unfold rootR
    rw [if_neg (by omega), Int.toNat_natCast, List.getD_eq_getElem?_getD, x1]
    rfl
  obtain ⟨P, hP⟩ : ∃ P, l[k] = P := ⟨_, rfl⟩
  rw [hP] at c1 e
  have b1 : (0 : Int) ≤ k := by omega
  have b2 : (k : Int) < l.length := by omega
  replace e := Lib.hid e
  replace x1 := Lib.hid x1
  replace hP := Lib.hid hP
  clear cs
  go_enter Tryd.func43, Tryd.ntmps43
  go_wp2_with fail
  go_ret
  exact ⟨by rw [e.out]; rfl, rfl⟩
end Go.Proofs.YtepmljcapobodaaDoor
end
section
namespace Go.Proofs.YtepmljcapobodaaDoor
open Go.RowKit
set_option linter.unusedVariables false
set_option maxRecDepth 100000
/-- A space: its root, where its mappings lie, its mappings. -/
structure Spc where
  r : Nat
  v : Value
  l : List (Nat × Ent)
def spcCells (s : Spc) : List Value := [.int .i64 (s.r : Int), s.v]
theorem spcCells_len (s : Spc) : (spcCells s).length = 2 := rfl
def spcFine (s : Spc) : Prop := s.l.length ≤ 1024 ∧ ∀ x ∈ s.l, x.1 < 1024
/-- Spaces that are read. -/
structure SpsIs (w : World) (v : Value) (sl : List Spc) : Prop where
  rows : RowsAt 2 spcCells w v sl
  maps : ∀ s ∈ sl, MapsIs w s.v s.l
  len : sl.length ≤ 1000
  fine : ∀ s ∈ sl, spcFine s
theorem SpsIs.next {w w' : World} {v : Value} {sl : List Spc} (h : SpsIs w v sl) (k : Keep nob w w') : SpsIs w' v sl := ⟨h.rows.next k, fun s hs => (h.maps s hs).next k, h.len, h.fine⟩
def wAgg (v : Value) (N many : Int) : Value := .agg #[v, .int .i64 N, .int .i64 many]
/-! ### At -/
def atF : List Spc → Int → Nat → Int
  | [], _, _ => -1
  | s :: r, root, i => if (s.r : Int) = root then (i : Int) else atF r root (i + 1)
def atR (sl : List Spc) (root : Int) : Int := atF sl root 0
theorem atF_none : ∀ {sl : List Spc} {root : Int} {i : Nat}, (∀ s ∈ sl, (s.r : Int) ≠ root) → atF sl root i = -1
  | [], _, _, _ => rfl
  | s :: r, root, i, h => by
    unfold atF
    rw [if_neg (h s (by simp))]
    exact atF_none (fun t ht => h t (by simp [ht]))
theorem atF_some : ∀ {sl : List Spc} {root : Int} {i : Nat}, (∃ s ∈ sl, (s.r : Int) = root) → ∃ k s, atF sl root i = ((i + k : Nat) : Int) ∧ sl[k]? = some s ∧ (s.r : Int) = root
  | [], _, _, ⟨_, h, _⟩ => by cases h
  | t :: r, root, i, ⟨s, hs, e⟩ => by
    unfold atF
    by_cases h : (t.r : Int) = root
    · rw [if_pos h]; exact ⟨0, t, rfl, rfl, h⟩
    · rw [if_neg h]
      have hs' : s ∈ r := by
        rcases List.mem_cons.1 hs with q | q
        · rw [q] at e; exact absurd e h
        · exact q
      obtain ⟨k, u, h1, h2, h3⟩ := atF_some (i := i + 1) ⟨s, hs', e⟩
      exact ⟨k + 1, u, by rw [h1]; congr 1; omega, by simpa using h2, h3⟩
theorem atR_cases (sl : List Spc) (root : Int) : (atR sl root = -1 ∧ ∀ s ∈ sl, (s.r : Int) ≠ root) ∨ ∃ (k : Nat) (s : Spc), atR sl root = (k : Int) ∧ sl[k]? = some s ∧ (s.r : Int) = root := by
  by_cases h : ∃ s ∈ sl, (s.r : Int) = root
  · obtain ⟨k, s, h1, h2, h3⟩ := atF_some (i := 0) h
    exact Or.inr ⟨k, s, by unfold atR; rw [h1, Nat.zero_add], h2, h3⟩
  · exact Or.inl ⟨atF_none (fun s hs e => h ⟨s, hs, e⟩), fun s hs e => h ⟨s, hs, e⟩⟩
def AtI (w : World) (sl : List Spc) (root : Int) (i : Value) (wr : World) : Prop :=
  ∃ k : Nat, i = .int .i64 k ∧ k ≤ sl.length ∧ atF (sl.drop k) root k = atR sl root ∧ Keep nob w wr
set_option maxHeartbeats 1600000 in
theorem rat_ok {w : World} {v : Value} {sl : List Spc} (h : SpsIs w v sl) (N many root : Int) :
    Calls Tryd.prog 78 #[wAgg v N many, .int .i64 root] w fun r w' => r = .returned (.int .i64 (atR sl root)) ∧ Keep nob w w' := by
  have hl := h.len
  obtain ⟨a, cap, rfl, m1, p1, g1⟩ := h.rows
  have G1 := Lib.hid g1
  clear g1
  replace h := Lib.hid h
  unfold wAgg
  have KW : Keep nob w (w.alloc (.cells #[.slice a sl.length cap, .int .i64 N, .int .i64 many] 85)) := (Keep.refl _ _).alloc _
  have b0 := new_at w #[.slice a sl.length cap, .int .i64 N, .int .i64 many] 85 0 _ rfl
  obtain ⟨W, hW⟩ : ∃ W, W = w.alloc (.cells #[.slice a sl.length cap, .int .i64 N, .int .i64 many] 85) := ⟨_, rfl⟩
  rw [← hW] at KW b0
  replace hW := Lib.hid hW
  replace KW := Lib.hid KW
  replace b0 := Lib.hid b0
  go_enter Tryd.func78, Tryd.ntmps78
  go_wp2_with fail
  rw [← hW.out]
  go_loopw [5] (fun i wr => AtI W sl root i wr) (fun i _ => (sl.length - intOf i).toNat)
  case atStart => exact ⟨0, rfl, Nat.zero_le _, by rw [List.drop_zero]; rfl, Keep.refl _ _⟩
  case round =>
    obtain ⟨k, rfl, hk, hd, K⟩ := hrel
    have w0 := K.some b0.out (fun x => x)
    by_cases hlt : k < sl.length
    · have hne : sl ≠ [] := by intro e; rw [e] at hlt; simp at hlt
      obtain ⟨g, o, rfl, cs⟩ := G1.out hne
      have t4 : decide (k < sl.length) = true := by simpa using hlt
      have x1 := List.getElem?_eq_getElem hlt
      have hdr : sl.drop k = sl[k] :: sl.drop (k + 1) := List.drop_eq_getElem_cons hlt
      have hpl : atF (sl.drop k) root k = if (sl[k].r : Int) = root then (k : Int) else atF (sl.drop (k + 1)) root (k + 1) := by rw [hdr]; rfl
      rw [hpl] at hd
      obtain ⟨P, hP⟩ : ∃ P, sl[k].r = P := ⟨_, rfl⟩
      rw [hP] at hd hpl
      have c1 : wr.cell? ⟨g, o + k * 2, none⟩ = some (.int .i64 P) := by rw [← hP]; exact (KW.out.then K).some (cs k _ x1 0 _ rfl) (fun x => x)
      by_cases q : (P : Int) = root
      · have t5 : ((P : Int) == root) = true := by simpa using q
        rw [if_pos q] at hd
        replace hd := Lib.hid hd
        replace K := Lib.hid K
        replace x1 := Lib.hid x1
        replace hdr := Lib.hid hdr
        replace hP := Lib.hid hP
        replace q := Lib.hid q
        replace hpl := Lib.hid hpl
        clear cs
        go_wp2_with fail
        go_ret
        exact ⟨by rw [← hd.out]; rfl, KW.out.then K.out⟩
      · have t5 : ((P : Int) == root) = false := by simpa using q
        rw [if_neg q] at hd
        replace hd := Lib.hid hd
        replace K := Lib.hid K
        replace x1 := Lib.hid x1
        replace hdr := Lib.hid hdr
        replace hP := Lib.hid hP
        replace q := Lib.hid q
        replace hpl := Lib.hid hpl
        clear cs
        go_wp2_with fail
        go_roundw
        case rel => exact ⟨k + 1, by go_num, hlt, hd.out, K.out⟩
        case measure => simp [intOf]; omega
    · have t4 : decide (k < sl.length) = false := by simpa using hlt
      rw [List.drop_of_length_le (by omega)] at hd
      replace hd := Lib.hid hd
      replace K := Lib.hid K
      go_wp2_with fail
      go_ret
      exact ⟨by rw [← hd.out]; rfl, KW.out.then K.out⟩
/-! ### Used -/
def usedR (sl : List Spc) : Nat := (sl.map fun s => tabR s.l).sum
theorem usedR_le : ∀ (sl : List Spc), (∀ s ∈ sl, spcFine s) → usedR sl ≤ sl.length * 1025
  | [], _ => Nat.le_refl _
  | s :: r, h => by
    have h1 := usedR_le r (fun t ht => h t (by simp [ht]))
    have h2 := tabR_le s.l
    have h3 := (h s (by simp)).1
    unfold usedR at h1 ⊢
    rw [List.map_cons, List.sum_cons, List.length_cons]
    omega
theorem usedR_snoc (sl : List Spc) (s : Spc) : usedR (sl ++ [s]) = usedR sl + tabR s.l := by unfold usedR; simp
def UseI (w : World) (sl : List Spc) (n i : Value) (wr : World) : Prop :=
  ∃ k : Nat, i = .int .i64 k ∧ k ≤ sl.length ∧ n = .int .i64 (usedR (sl.take k) : Int) ∧ Keep nob w wr
set_option maxHeartbeats 1600000 in
theorem used_ok {w : World} {v : Value} {sl : List Spc} (h : SpsIs w v sl) (N many : Int) :
    Calls Tryd.prog 42 #[wAgg v N many] w fun r w' => r = .returned (.int .i64 (usedR sl)) ∧ Keep nob w w' := by
  have hl := h.len
  obtain ⟨a, cap, rfl, m1, p1, g1⟩ := h.rows
  have G1 := Lib.hid g1
  clear g1
  replace h := Lib.hid h
  unfold wAgg
  have KW : Keep nob w (w.alloc (.cells #[.slice a sl.length cap, .int .i64 N, .int .i64 many] 85)) := (Keep.refl _ _).alloc _
  have b0 := new_at w #[.slice a sl.length cap, .int .i64 N, .int .i64 many] 85 0 _ rfl
  obtain ⟨W, hW⟩ : ∃ W, W = w.alloc (.cells #[.slice a sl.length cap, .int .i64 N, .int .i64 many] 85) := ⟨_, rfl⟩
  rw [← hW] at KW b0
  replace hW := Lib.hid hW
  replace KW := Lib.hid KW
  replace b0 := Lib.hid b0
  go_enter Tryd.func42, Tryd.ntmps42
  go_wp2_with fail
  rw [← hW.out]
  go_loopw [3, 4] (fun n i wr => UseI W sl n i wr) (fun _ i _ => (sl.length - intOf i).toNat)
  case atStart => exact ⟨0, rfl, Nat.zero_le _, by rw [List.take_zero]; rfl, Keep.refl _ _⟩
  case round =>
    obtain ⟨k, rfl, hk, rfl, K⟩ := hrel
    have w0 := K.some b0.out (fun x => x)
    have ub := usedR_le (sl.take k) (fun s hs => h.out.fine s (List.mem_of_mem_take hs))
    rw [List.length_take] at ub
    by_cases hlt : k < sl.length
    · have hne : sl ≠ [] := by intro e; rw [e] at hlt; simp at hlt
      obtain ⟨g, o, rfl, cs⟩ := G1.out hne
      have t4 : decide (k < sl.length) = true := by simpa using hlt
      have x1 := List.getElem?_eq_getElem hlt
      have sm := List.getElem_mem hlt
      have fi := h.out.fine _ sm
      have C := tab_ok ((h.out.maps _ sm).next (KW.out.then K)) fi.1 fi.2
      have tl := tabR_le sl[k].l
      have e1 : usedR (sl.take (k + 1)) = usedR (sl.take k) + tabR sl[k].l := by
        rw [List.take_succ_eq_append_getElem hlt, usedR_snoc]
      obtain ⟨P, hP⟩ : ∃ P, sl[k].v = P := ⟨_, rfl⟩
      obtain ⟨T, hT⟩ : ∃ T, tabR sl[k].l = T := ⟨_, rfl⟩
      obtain ⟨U, hU⟩ : ∃ U, usedR (sl.take k) = U := ⟨_, rfl⟩
      have fl := fi.1
      rw [hT] at e1 C tl
      rw [hU] at e1 ub
      rw [hP] at C
      rw [hU]
      have c1 : wr.cell? ⟨g, o + k * 2 + 1, none⟩ = some P := by rw [← hP]; exact (KW.out.then K).some (cs k _ x1 1 _ rfl) (fun x => x)
      have bU : U ≤ 1025000 := by omega
      have bT : T ≤ 1025 := by omega
      replace K := Lib.hid K
      replace x1 := Lib.hid x1
      replace hP := Lib.hid hP
      replace hT := Lib.hid hT
      replace hU := Lib.hid hU
      replace C := Lib.hid C
      replace e1 := Lib.hid e1
      replace fi := Lib.hid fi
      replace sm := Lib.hid sm
      clear cs tl ub
      go_wp2_with fail
      refine Calls.mono C.out ?_
      rintro r w5 ⟨rfl, K5⟩
      replace K5 := Lib.hid K5
      go_wp2_with fail
      go_roundw
      case rel => exact ⟨k + 1, by go_num, hlt, by rw [e1.out]; go_num, K.out.then K5.out⟩
      case measure => simp [intOf]; omega
    · have t4 : decide (k < sl.length) = false := by simpa using hlt
      have e : usedR sl = usedR (sl.take k) := by rw [List.take_of_length_le (by omega)]
      obtain ⟨U, hU⟩ : ∃ U, usedR (sl.take k) = U := ⟨_, rfl⟩
      rw [hU]
      rw [hU] at e
      replace K := Lib.hid K
      replace e := Lib.hid e
      replace hU := Lib.hid hU
      clear ub
      go_wp2_with fail
      go_ret
      exact ⟨by rw [e.out]; rfl, KW.out.then K.out⟩
end Go.Proofs.YtepmljcapobodaaDoor
end
section
namespace Go.Proofs.YtepmljcapobodaaDoor
open Go.RowKit
set_option linter.unusedVariables false
set_option maxRecDepth 100000
theorem rfits_ok {w : World} (v : Value) (n : Nat) (many : Int) (e : Ent) :
    Calls Tryd.prog 100 #[wAgg v n many, e.val] w fun r w' => r = .returned (.bool (fitB n e)) ∧ Keep nob w w' := by
  obtain ⟨p, x, cc, fr⟩ := e
  have K1 : Keep nob w ((w.alloc (.cells #[v, .int .i64 n, .int .i64 many] 85)).alloc (.cells #[.bool p, .bool x, .bool cc, .int .i64 fr] 69)) := ((Keep.refl _ _).alloc _).alloc _
  have b1 : ((w.alloc (.cells #[v, .int .i64 n, .int .i64 many] 85)).alloc (.cells #[.bool p, .bool x, .bool cc, .int .i64 fr] 69)).cell? ⟨w.heap.size, 1, none⟩ = some (.int .i64 n) := by
    rw [alloc_lt (by simp)]
    exact new_at w #[v, .int .i64 n, .int .i64 many] 85 1 _ rfl
  have E0 := EntAt.newAt w (.cells #[v, .int .i64 n, .int .i64 many] 85) p x cc fr 69
  obtain ⟨W, hW⟩ : ∃ W, W = (w.alloc (.cells #[v, .int .i64 n, .int .i64 many] 85)).alloc (.cells #[.bool p, .bool x, .bool cc, .int .i64 fr] 69) := ⟨_, rfl⟩
  rw [← hW] at K1 b1 E0
  have C := refcheck_ok ⟨p, x, cc, fr⟩ W
  unfold Ent.val at C ⊢
  unfold wAgg
  simp only at C ⊢
  obtain ⟨e0, e1, e2, e3, z0, z1, z2, z3⟩ := E0
  cases h : okE ⟨p, x, cc, fr⟩ with
  | false =>
    have hk : chk ⟨p, x, cc, fr⟩ = 2 := chk_no h
    have hf : fitB n ⟨p, x, cc, fr⟩ = false := by unfold fitB; rw [h]; rfl
    rw [hk] at C
    rw [hf]
    replace hW := Lib.hid hW
    replace C := Lib.hid C
    replace K1 := Lib.hid K1
    replace h := Lib.hid h
    replace hk := Lib.hid hk
    replace hf := Lib.hid hf
    go_enter Tryd.func100, Tryd.ntmps100
    go_wp2_with fail
    rw [← hW.out]
    refine Calls.mono C.out ?_
    rintro r w1 ⟨rfl, KC⟩
    replace KC := Lib.hid KC
    go_wp2_with fail
    go_ret
    exact ⟨rfl, K1.out.then KC.out⟩
  | true =>
    have hk : chk ⟨p, x, cc, fr⟩ = 0 := chk_ok h
    rw [hk] at C
    cases p with
    | false =>
      have hf : fitB n ⟨false, x, cc, fr⟩ = false := by unfold fitB; simp
      rw [hf]
      replace hW := Lib.hid hW
      replace C := Lib.hid C
      replace K1 := Lib.hid K1
      replace h := Lib.hid h
      replace hk := Lib.hid hk
      replace hf := Lib.hid hf
      go_enter Tryd.func100, Tryd.ntmps100
      go_wp2_with fail
      rw [← hW.out]
      refine Calls.mono C.out ?_
      rintro r w1 ⟨rfl, KC⟩
      have y0 := KC.some e0 (fun x => x)
      replace KC := Lib.hid KC
      go_wp2_with fail
      go_ret
      exact ⟨rfl, K1.out.then KC.out⟩
    | true =>
      have hf : fitB n ⟨true, x, cc, fr⟩ = decide (fr < n) := by unfold fitB; rw [h]; rfl
      rw [hf]
      obtain ⟨T, hT⟩ : ∃ T, decide (fr < (n : Int)) = T := ⟨_, rfl⟩
      rw [hT]
      replace hW := Lib.hid hW
      replace C := Lib.hid C
      replace K1 := Lib.hid K1
      replace h := Lib.hid h
      replace hk := Lib.hid hk
      replace hf := Lib.hid hf
      go_enter Tryd.func100, Tryd.ntmps100
      go_wp2_with fail
      rw [← hW.out]
      refine Calls.mono C.out ?_
      rintro r w1 ⟨rfl, KC⟩
      have y0 := KC.some e0 (fun x => x)
      have y3 := KC.some e3 (fun x => x)
      have yb := KC.some b1 (fun x => x)
      replace KC := Lib.hid KC
      go_wp2_with fail
      go_ret
      exact ⟨rfl, K1.out.then KC.out⟩
def askR (sl : List Spc) (root page : Int) (fine : Bool) : Int := if 0 ≤ page ∧ page < 1024 ∧ fine = true then (if atR sl root < 0 then 4 else 0) else 2
set_option maxHeartbeats 800000 in
theorem rasked_ok {w : World} {v : Value} {sl : List Spc} (h : SpsIs w v sl) (N many root page : Int) (fine : Bool) :
    Calls Tryd.prog 99 #[wAgg v N many, .int .i64 root, .int .i64 page, .bool fine] w fun r w' => r = .returned (.int .i64 (askR sl root page fine)) ∧ Keep nob w w' := by
  have K1 : Keep nob w (w.alloc (.cells #[v, .int .i64 N, .int .i64 many] 85)) := (Keep.refl _ _).alloc _
  have b0 := new_at w #[v, .int .i64 N, .int .i64 many] 85 0 _ rfl
  have b1 := new_at w #[v, .int .i64 N, .int .i64 many] 85 1 _ rfl
  have b2 := new_at w #[v, .int .i64 N, .int .i64 many] 85 2 _ rfl
  obtain ⟨W, hW⟩ : ∃ W, W = w.alloc (.cells #[v, .int .i64 N, .int .i64 many] 85) := ⟨_, rfl⟩
  rw [← hW] at K1 b0 b1 b2
  have C := rat_ok (h.next K1) N many root
  unfold wAgg at C ⊢
  by_cases g : 0 ≤ page ∧ page < 1024 ∧ fine = true
  · obtain ⟨g0, g1, rfl⟩ := g
    have t1 : decide (page < 0) = false := by simp; omega
    have t2 : decide (1023 < page) = false := by simp; omega
    have e : askR sl root page true = if atR sl root < 0 then 4 else 0 := if_pos ⟨g0, g1, rfl⟩
    rcases atR_cases sl root with ⟨q, -⟩ | ⟨k, s, q, hk, -⟩
    · rw [q] at C
      have e' : askR sl root page true = 4 := by rw [e, q]; rfl
      rw [e']
      replace hW := Lib.hid hW
      replace K1 := Lib.hid K1
      replace C := Lib.hid C
      replace h := Lib.hid h
      replace e := Lib.hid e
      replace e' := Lib.hid e'
      replace q := Lib.hid q
      go_enter Tryd.func99, Tryd.ntmps99
      go_wp2_with fail
      rw [← hW.out]
      refine Calls.mono C.out ?_
      rintro r w1 ⟨rfl, KC⟩
      replace KC := Lib.hid KC
      go_wp2_with fail
      go_ret
      exact ⟨rfl, K1.out.then KC.out⟩
    · rw [q] at C
      have e' : askR sl root page true = 0 := by rw [e, q, if_neg (by omega)]
      have t3 : decide ((k : Int) < 0) = false := by simp
      rw [e']
      replace hW := Lib.hid hW
      replace K1 := Lib.hid K1
      replace C := Lib.hid C
      replace h := Lib.hid h
      replace e := Lib.hid e
      replace e' := Lib.hid e'
      replace q := Lib.hid q
      go_enter Tryd.func99, Tryd.ntmps99
      go_wp2_with fail
      rw [← hW.out]
      refine Calls.mono C.out ?_
      rintro r w1 ⟨rfl, KC⟩
      replace KC := Lib.hid KC
      go_wp2_with fail
      go_ret
      exact ⟨rfl, K1.out.then KC.out⟩
  · have e : askR sl root page fine = 2 := if_neg g
    rw [e]
    by_cases q0 : page < 0
    · have t1 : decide (page < 0) = true := by simpa using q0
      replace hW := Lib.hid hW
      replace K1 := Lib.hid K1
      replace C := Lib.hid C
      replace h := Lib.hid h
      replace e := Lib.hid e
      replace g := Lib.hid g
      go_enter Tryd.func99, Tryd.ntmps99
      go_wp2_with fail
      rw [← hW.out]
      go_ret
      exact ⟨rfl, K1.out⟩
    have t1 : decide (page < 0) = false := by simpa using q0
    by_cases q1 : 1023 < page
    · have t2 : decide (1023 < page) = true := by simpa using q1
      replace hW := Lib.hid hW
      replace K1 := Lib.hid K1
      replace C := Lib.hid C
      replace h := Lib.hid h
      replace e := Lib.hid e
      replace g := Lib.hid g
      go_enter Tryd.func99, Tryd.ntmps99
      go_wp2_with fail
      rw [← hW.out]
      go_ret
      exact ⟨rfl, K1.out⟩
    have t2 : decide (1023 < page) = false := by simpa using q1
    have q2 : fine = false := by
      cases fine with
      | false => rfl
      | true => exact absurd ⟨by omega, by omega, rfl⟩ g
    subst q2
    replace hW := Lib.hid hW
    replace K1 := Lib.hid K1
    replace C := Lib.hid C
    replace h := Lib.hid h
    replace e := Lib.hid e
    replace g := Lib.hid g
    go_enter Tryd.func99, Tryd.ntmps99
    go_wp2_with fail
    rw [← hW.out]
    go_ret
    exact ⟨rfl, K1.out⟩
/-! ### Query -/
def spcR (sl : List Spc) (root : Int) : Option Spc := if atR sl root < 0 then none else sl[(atR sl root).toNat]?
theorem spcR_none {sl : List Spc} {root : Int} (h : atR sl root = -1) : spcR sl root = none := by unfold spcR; rw [h]; rfl
theorem spcR_some {sl : List Spc} {root : Int} {k : Nat} {s : Spc} (h : atR sl root = k) (hs : sl[k]? = some s) : spcR sl root = some s := by
  unfold spcR
  rw [h, if_neg (by omega), Int.toNat_natCast, hs]
theorem isF_true {l : List (Nat × Ent)} {page : Int} (h : isF l page = true) : ∃ x, l[plF l page]? = some x ∧ (x.1 : Int) = page := by
  unfold isF at h
  cases e : l[plF l page]? with
  | none => rw [e] at h; cases h
  | some x => rw [e] at h; exact ⟨x, rfl, of_decide_eq_true h⟩
def qryL (l : List (Nat × Ent)) (page : Int) : Ent := if isF l page then (match l[plF l page]? with | some x => x.2 | none => Ent.zero) else Ent.zero
def qryR (sl : List Spc) (root page : Int) : Ent × Bool := match spcR sl root with | none => (Ent.zero, false) | some s => (qryL s.l page, isF s.l page)
set_option maxHeartbeats 1600000 in
theorem rquery_ok {w : World} {v : Value} {sl : List Spc} (h : SpsIs w v sl) (N many root page : Int) :
    Calls Tryd.prog 45 #[wAgg v N many, .int .i64 root, .int .i64 page] w fun r w' => r = .returned (.tuple #[(qryR sl root page).1.val, .bool (qryR sl root page).2]) ∧ Keep nob w w' := by
  have hl := h.len
  have K1 : Keep nob w ((w.alloc (.cells #[v, .int .i64 N, .int .i64 many] 85)).alloc (.cells #[.bool false, .bool false, .bool false, .int .i64 0] 69)) := ((Keep.refl _ _).alloc _).alloc _
  have nb : ∀ (j : Nat) (u : Value), (#[v, .int .i64 N, .int .i64 many] : Array Value).toList[j]? = some u → ((w.alloc (.cells #[v, .int .i64 N, .int .i64 many] 85)).alloc (.cells #[.bool false, .bool false, .bool false, .int .i64 0] 69)).cell? ⟨w.heap.size, j, none⟩ = some u := by
    intro j u hu
    rw [alloc_lt (by simp)]
    exact new_at w #[v, .int .i64 N, .int .i64 many] 85 j _ hu
  have b0 := nb 0 _ rfl
  have b1 := nb 1 _ rfl
  have b2 := nb 2 _ rfl
  have E0 := EntAt.newAt w (.cells #[v, .int .i64 N, .int .i64 many] 85) false false false 0 69
  obtain ⟨W, hW⟩ : ∃ W, W = (w.alloc (.cells #[v, .int .i64 N, .int .i64 many] 85)).alloc (.cells #[.bool false, .bool false, .bool false, .int .i64 0] 69) := ⟨_, rfl⟩
  rw [← hW] at K1 b0 b1 b2 E0
  clear nb
  have C := rat_ok (h.next K1) N many root
  have hlo := Nat.le_succ w.heap.size
  unfold wAgg at C ⊢
  rcases atR_cases sl root with ⟨q, -⟩ | ⟨k, s, q, hk, -⟩
  · rw [q] at C
    have e : qryR sl root page = (Ent.zero, false) := by unfold qryR; rw [spcR_none q]
    rw [e]
    unfold Ent.zero Ent.val
    dsimp only
    replace hW := Lib.hid hW
    replace K1 := Lib.hid K1
    replace C := Lib.hid C
    replace h := Lib.hid h
    replace e := Lib.hid e
    replace q := Lib.hid q
    replace E0 := Lib.hid E0
    replace hlo := Lib.hid hlo
    go_enter Tryd.func45, Tryd.ntmps45
    go_wp2_with fail
    rw [← hW.out]
    refine Calls.mono C.out ?_
    rintro r w1 ⟨rfl, KC⟩
    have E1 := E0.out.next KC
    obtain ⟨d0, d1, d2, d3, z0, z1, z2, z3⟩ := id E1
    have F := fun p' q' c' f' => E1.put (p' := p') (q' := q') (c' := c') (f' := f')
    replace KC := Lib.hid KC
    replace F := Lib.hid F
    replace E1 := Lib.hid E1
    go_wp2_with fail
    refine bodyPost_ret (results_ent rfl _ _ (w.heap.size + 1) (F.out false false false 0) rfl (.bool false) rfl) rfl ⟨rfl, ?_⟩
    repeat (refine Keep.setCell ?_ _ (Or.inl hlo.out))
    exact K1.out.then KC.out
  · rw [q] at C
    have t3 : decide ((k : Int) < 0) = false := by simp
    have hk0 : k < sl.length := (List.getElem?_eq_some_iff.1 hk).1
    have sm := List.mem_of_getElem? hk
    have fi := h.fine _ sm
    have e : qryR sl root page = (qryL s.l page, isF s.l page) := by unfold qryR; rw [spcR_some q hk]
    obtain ⟨a, cap, rfl, m1, p1, g1⟩ := h.rows
    obtain ⟨g, o, rfl, cs⟩ := g1 (by intro e; rw [e] at hk0; simp at hk0)
    have kb : (k : Int) < sl.length := by omega
    have kz : (0 : Int) ≤ k := by omega
    have hc : w.cell? ⟨g, o + k * 2 + 1, none⟩ = some s.v := cs k _ hk 1 _ rfl
    have hmap := h.maps _ sm
    rw [e]
    clear cs g1
    cases hf : isF s.l page with
    | false =>
      have e2 : qryL s.l page = Ent.zero := by unfold qryL; rw [hf]; rfl
      rw [e2]
      unfold Ent.zero Ent.val
      dsimp only
      replace hW := Lib.hid hW
      replace K1 := Lib.hid K1
      replace C := Lib.hid C
      replace h := Lib.hid h
      replace e := Lib.hid e
      replace q := Lib.hid q
      replace hk := Lib.hid hk
      replace sm := Lib.hid sm
      replace hmap := Lib.hid hmap
      replace E0 := Lib.hid E0
      replace hlo := Lib.hid hlo
      replace hc := Lib.hid hc
      replace e2 := Lib.hid e2
      replace hf := Lib.hid hf
      go_enter Tryd.func45, Tryd.ntmps45
      go_wp2_with fail
      rw [← hW.out]
      refine Calls.mono C.out ?_
      rintro r w1 ⟨rfl, KC⟩
      have E1 := E0.out.next KC
      have c0 := KC.some b0 (fun x => x)
      have c1 := (K1.out.then KC).some hc.out (fun x => x)
      have CP := place_ok (hmap.out.next (K1.out.then KC)) fi.1 fi.2 page
      rw [hf.out] at CP
      replace KC := Lib.hid KC
      replace E1 := Lib.hid E1
      replace CP := Lib.hid CP
      go_wp2_with fail
      refine Calls.mono CP.out ?_
      rintro r w2 ⟨rfl, KP⟩
      have E2 := E1.out.next KP
      have K2 := (K1.out.then KC.out).then KP
      obtain ⟨d0, d1, d2, d3, z0, z1, z2, z3⟩ := id E2
      have F := fun p' q' c' f' => E2.put (p' := p') (q' := q') (c' := c') (f' := f')
      replace KP := Lib.hid KP
      replace F := Lib.hid F
      replace E2 := Lib.hid E2
      replace K2 := Lib.hid K2
      go_wp2_with fail
      refine bodyPost_ret (results_ent rfl _ _ (w.heap.size + 1) (F.out false false false 0) rfl (.bool false) rfl) rfl ⟨rfl, ?_⟩
      repeat (refine Keep.setCell ?_ _ (Or.inl hlo.out))
      exact K2.out
    | true =>
      obtain ⟨⟨n, ⟨ep, eq, ec, ef⟩⟩, hx, -⟩ := isF_true hf
      have e2 : qryL s.l page = ⟨ep, eq, ec, ef⟩ := by unfold qryL; rw [hf, if_pos rfl, hx]
      rw [e2]
      unfold Ent.val
      dsimp only
      replace hW := Lib.hid hW
      replace K1 := Lib.hid K1
      replace C := Lib.hid C
      replace h := Lib.hid h
      replace e := Lib.hid e
      replace q := Lib.hid q
      replace hk := Lib.hid hk
      replace sm := Lib.hid sm
      replace hmap := Lib.hid hmap
      replace E0 := Lib.hid E0
      replace hlo := Lib.hid hlo
      replace hc := Lib.hid hc
      replace e2 := Lib.hid e2
      replace hf := Lib.hid hf
      go_enter Tryd.func45, Tryd.ntmps45
      go_wp2_with fail
      rw [← hW.out]
      refine Calls.mono C.out ?_
      rintro r w1 ⟨rfl, KC⟩
      have E1 := E0.out.next KC
      have c0 := KC.some b0 (fun x => x)
      have c1 := (K1.out.then KC).some hc.out (fun x => x)
      have CP := place_ok (hmap.out.next (K1.out.then KC)) fi.1 fi.2 page
      rw [hf.out] at CP
      obtain ⟨P, hP⟩ : ∃ P, plF s.l page = P := ⟨_, rfl⟩
      rw [hP] at CP
      replace KC := Lib.hid KC
      replace E1 := Lib.hid E1
      replace CP := Lib.hid CP
      go_wp2_with fail
      refine Calls.mono CP.out ?_
      rintro r w2 ⟨rfl, KP⟩
      have E2 := E1.out.next KP
      have K2 := (K1.out.then KC.out).then KP
      obtain ⟨d0, d1, d2, d3, z0, z1, z2, z3⟩ := id E2
      have F := fun p' q' c' f' => E2.put (p' := p') (q' := q') (c' := c') (f' := f')
      have px : plF s.l page < s.l.length := (List.getElem?_eq_some_iff.1 hx).1
      rw [hP] at hx px
      obtain ⟨a2, cap2, hv, m2, p2, g2⟩ := hmap.out
      obtain ⟨g', o', rfl, cs⟩ := g2 (by intro e; rw [e] at px; simp at px)
      have x0 := KP.some c0 (fun x => x)
      have x1 : w2.cell? ⟨g, o + k * 2 + 1, none⟩ = some (.slice (some ⟨g', o', none⟩) s.l.length cap2) := by rw [← hv]; exact KP.some c1 (fun x => x)
      have y1 : w2.cell? ⟨g', o' + P * 5 + 1, none⟩ = some (.bool ep) := K2.some (cs P _ hx 1 _ rfl) (fun x => x)
      have y2 : w2.cell? ⟨g', o' + P * 5 + 2, none⟩ = some (.bool eq) := K2.some (cs P _ hx 2 _ rfl) (fun x => x)
      have y3 : w2.cell? ⟨g', o' + P * 5 + 3, none⟩ = some (.bool ec) := K2.some (cs P _ hx 3 _ rfl) (fun x => x)
      have y4 : w2.cell? ⟨g', o' + P * 5 + 4, none⟩ = some (.int .i64 ef) := K2.some (cs P _ hx 4 _ rfl) (fun x => x)
      have pb : (P : Int) < s.l.length := by omega
      have pz : (0 : Int) ≤ P := by omega
      clear cs g2
      replace KP := Lib.hid KP
      replace F := Lib.hid F
      replace E2 := Lib.hid E2
      replace K2 := Lib.hid K2
      replace hv := Lib.hid hv
      replace hP := Lib.hid hP
      replace hx := Lib.hid hx
      replace c1 := Lib.hid c1
      go_wp2_with fail
      refine bodyPost_ret (results_ent rfl _ _ (w.heap.size + 1) (F.out ep eq ec ef) rfl (.bool true) rfl) rfl ⟨rfl, ?_⟩
      repeat (refine Keep.setCell ?_ _ (Or.inl hlo.out))
      exact K2.out
end Go.Proofs.YtepmljcapobodaaDoor
end
section
namespace Go.Proofs.YtepmljcapobodaaDoor
open Go.RowKit
set_option linter.unusedVariables false
set_option maxRecDepth 100000
/-! ### A region that draws, whose operations only read and whose callees keep all that was there: one walk -/
/-- A world that keeps w. -/
structure KW (w0 : World) where
  w : World
  k : Keep nob w0 w
instance (w0 : World) : Nonempty (KW w0) := ⟨⟨w0, Keep.refl _ _⟩⟩
theorem wp_region_keepq {P : Program} {id : Nat} {Q : Exit → Act → World → Prop} {a : Act} {w : World} {l : List Oper} (hm : P.follows .mixedOrders = true) (hB : Region.lexB .any l.toArray = true)
    (h : wpQuiet P l.toArray (fun w' => ∃ t : KW w, w' = t.w) (fun a' => ∀ w', (∃ t : KW w, w' = t.w) → Q .normal a' w') l a) : (Code.region id l.toArray true).wp P Q a w :=
  wp_region_quiet (C := fun w' => ∃ t : KW w, w' = t.w) hm hB ⟨⟨_, (Keep.refl nob w).drew⟩, rfl⟩ (by simpa using h)
theorem Calls.keepq {P : Program} {f : FuncId} {args : Array Value} {w0 : World} {t : KW w0} {v : Value} (h : Calls P f args t.w fun e w' => e = .returned v ∧ Keep YtepmljcapobodaaDoor.nob t.w w') : Calls P f args t.w fun e w'' => e = .returned v ∧ ∃ t' : KW w0, w'' = t'.w :=
  h.mono fun _ w'' ⟨he, hk⟩ => ⟨he, ⟨w'', t.k.then hk⟩, rfl⟩
theorem KW.cell {w0 : World} {p : Addr} {v : Value} (h : w0.cell? p = some v) : ∀ t : KW w0, t.w.cell? p = some v := fun t => t.k.some h (fun x => x)
theorem own_keep2 {w w' : World} {base : Nat} {e : TypeId} {size n : Nat} {v : Value} {xs : List Value} {S : Nat → Prop} (h : w.ownsRow base e size v n xs) (k : Keep S w w') (hS : ∀ g, v.ownBlock = some g → ¬ S g) :
    w'.ownsRow base e size v n xs := by
  obtain ⟨hl, h | ⟨g, cap, cur, h1, h2, h3, h4⟩⟩ := h
  · exact ⟨hl, Or.inl h⟩
  · exact ⟨hl, Or.inr ⟨g, cap, cur, h1, h2, (k.block g (Array.getElem?_eq_some_iff.1 h3).1 (hS g (by rw [h1]; rfl))).trans h3, h4⟩⟩
theorem own_tag {w : World} {base : Nat} {e : TypeId} {size n : Nat} {v : Value} {xs : List Value} (h : w.ownsRow base e size v n xs) {g : Nat} (hg : v.ownBlock = some g) : base ≤ g ∧ g < w.heap.size ∧ ∃ cur, w.heap[g]? = some (.cells cur e (0, 0)) := by
  obtain ⟨hl, ⟨h, _⟩ | ⟨g', cap, cur, h1, h2, h3, h4⟩⟩ := h
  · rw [h] at hg; cases hg
  · rw [h1] at hg
    have : g' = g := by injection hg
    subst this
    exact ⟨h2, (Array.getElem?_eq_some_iff.1 h3).1, cur, h3⟩
theorem own_ne {w : World} {b1 b2 : Nat} {e1 e2 : TypeId} {s1 s2 n1 n2 : Nat} {v1 v2 : Value} {x1 x2 : List Value} (h1 : w.ownsRow b1 e1 s1 v1 n1 x1) (h2 : w.ownsRow b2 e2 s2 v2 n2 x2) (ne : e1 ≠ e2) : ∀ g, v1.ownBlock = some g → v2.ownBlock = some g → False := by
  intro g g1 g2
  obtain ⟨_, _, c1, q1⟩ := own_tag h1 g1
  obtain ⟨_, _, c2, q2⟩ := own_tag h2 g2
  rw [q1] at q2
  injection q2 with q2
  injection q2 with _ q2 _
  exact ne q2
theorem own_set {w : World} {base : Nat} {e : TypeId} {size n g cap : Nat} {xs : List Value} (h : w.ownsRow base e size (.slice (some ⟨g, 0, none⟩) n cap) n xs) {j : Nat} (hj : j < xs.length) (u : Value) :
    (w.setCell ⟨g, j, none⟩ u).ownsRow base e size (.slice (some ⟨g, 0, none⟩) n cap) n (xs.set j u) := by
  obtain ⟨hl, ⟨h, _⟩ | ⟨g', cap', cur, h1, h2, h3, h4, h5, h6, h7⟩⟩ := h
  · cases h
  · injection h1 with q1 q2 q3
    injection q1 with q1
    injection q1 with q1
    subst q1
    refine ⟨by rw [List.length_set]; exact hl, Or.inr ⟨g, cap, cur.set! j u, rfl, h2, ?_, by omega, by omega, ?_, ?_⟩⟩
    · simp only [World.setCell, Array.getElem?_modify]
      rw [if_pos trivial, h3]
      simp
    · rw [Array.size_set!, h6, q3]
    · rw [← h7]
      simp [List.take_set]
theorem flat_set {sl : List Spc} {i : Nat} {s : Spc} (h : sl[i]? = some s) (u : Value) (l' : List (Nat × Ent)) : (sl.flatMap spcCells).set (i * 2 + 1) u = (sl.set i ⟨s.r, u, l'⟩).flatMap spcCells := by
  induction sl generalizing i with
  | nil => simp at h
  | cons a r ih =>
    cases i with
    | zero =>
      have : a = s := by simpa using h
      subst this
      rfl
    | succ i =>
      have h' : r[i]? = some s := by simpa using h
      rw [List.set_cons_succ, List.flatMap_cons, List.flatMap_cons, ← ih h']
      show (_ :: _ :: _).set _ _ = _
      rw [show (i + 1) * 2 + 1 = (i * 2 + 1) + 1 + 1 by omega]
      rfl
def rowOf (v : Value) : Nat → Prop := fun k => v.ownBlock = some k
/-- The reference's World behind a pointer. -/
structure WdAt (w : World) (base bw : Nat) (v : Value) (sl : List Spc) (N many : Nat) : Prop where
  c0 : w.cell? ⟨bw, 0, none⟩ = some v
  c1 : w.cell? ⟨bw, 1, none⟩ = some (.int .i64 N)
  c2 : w.cell? ⟨bw, 2, none⟩ = some (.int .i64 many)
  z0 : w.frozen? ⟨bw, 0, none⟩ = false
  lt : bw < base
  row : w.ownsRow base 98 2 v sl.length (sl.flatMap spcCells)
  maps : ∀ s ∈ sl, w.ownsRow base 106 5 s.v s.l.length (mapsV s.l)
  len : sl.length ≤ 1000
  fine : ∀ s ∈ sl, spcFine s
  hb : base ≤ w.heap.size
section
variable {w : World} {base bw : Nat} {v : Value} {sl : List Spc} {N many : Nat}
theorem WdAt.is (h : WdAt w base bw v sl N many) : SpsIs w v sl :=
  ⟨own_rows spcCells_len h.row (by have := h.len; omega), fun s hs => own_rows mapCells_len (h.maps s hs) (by have := (h.fine s hs).1; omega), h.len, h.fine⟩
/-- Writes below, but not into the World itself. -/
theorem WdAt.keep {w' : World} {S : Nat → Prop} (h : WdAt w base bw v sl N many) (k : Keep S w w') (hb : ¬ S bw) (hS : ∀ g, base ≤ g → ¬ S g) : WdAt w' base bw v sl N many :=
  ⟨k.some h.c0 hb, k.some h.c1 hb, k.some h.c2 hb, (k.frozen (World.block_lt_of_cell? _ _ h.c0) hb).trans h.z0, h.lt, own_keep h.row k hS, fun s hs => own_keep (h.maps s hs) k hS, h.len, h.fine, Nat.le_trans h.hb k.size⟩
theorem WdAt.next {w' : World} (h : WdAt w base bw v sl N many) (k : Keep nob w w') : WdAt w' base bw v sl N many := h.keep k (fun x => x) (fun _ _ x => x)
theorem ts_ne : (106 : TypeId) ≠ 98 := by decide
/-- One space's list is written: a row of its own stands in its place. -/
theorem WdAt.put {g cap : Nat} (h : WdAt w base bw (.slice (some ⟨g, 0, none⟩) sl.length cap) sl N many) {i : Nat} {s : Spc} (hi : sl[i]? = some s) {u : Value} {l' : List (Nat × Ent)} (hu : w.ownsRow base 106 5 u l'.length (mapsV l')) (hf : spcFine ⟨s.r, u, l'⟩) :
    WdAt (w.setCell ⟨g, i * 2 + 1, none⟩ u) base bw (.slice (some ⟨g, 0, none⟩) sl.length cap) (sl.set i ⟨s.r, u, l'⟩) N many ∧ Keep (only g) w (w.setCell ⟨g, i * 2 + 1, none⟩ u) := by
  have hlt : i < sl.length := (List.getElem?_eq_some_iff.1 hi).1
  have fl : (sl.flatMap spcCells).length = sl.length * 2 := h.row.1
  have K : Keep (only g) w (w.setCell ⟨g, i * 2 + 1, none⟩ u) := (Keep.refl _ _).store _ _
  obtain ⟨hg, -, -⟩ := own_tag h.row (g := g) rfl
  have hbw : ¬ only g bw := fun e => by have e : bw = g := e; have := h.lt; omega
  have mk : ∀ {x : Value} {n : Nat} {xs : List Value}, w.ownsRow base 106 5 x n xs → (w.setCell ⟨g, i * 2 + 1, none⟩ u).ownsRow base 106 5 x n xs := fun hx => own_keep2 hx K (fun g' e1 e2 => own_ne hx h.row ts_ne g' e1 (by have e2 : g' = g := e2; rw [e2]; rfl))
  refine ⟨⟨K.some h.c0 hbw, K.some h.c1 hbw, K.some h.c2 hbw, (K.frozen (World.block_lt_of_cell? _ _ h.c0) hbw).trans h.z0, h.lt, ?_, ?_, by rw [List.length_set]; exact h.len, ?_, Nat.le_trans h.hb K.size⟩, K⟩
  · rw [← flat_set hi, List.length_set]
    exact own_set h.row (by omega) u
  · intro t ht
    rcases List.mem_or_eq_of_mem_set ht with ht | rfl
    · exact mk (h.maps t ht)
    · exact mk hu
  · intro t ht
    rcases List.mem_or_eq_of_mem_set ht with ht | rfl
    · exact h.fine t ht
    · exact hf
theorem row_form {e size n : Nat} {xs : List Value} (h : w.ownsRow base e size v n xs) : ∃ a cap, v = .slice a n cap := by
  rcases h.2 with ⟨h1, h2⟩ | ⟨g, cap, cur, hv, _⟩
  · exact ⟨none, 0, by rw [h1, h2]⟩
  · exact ⟨_, cap, hv⟩
theorem row_cases {e size n : Nat} {xs : List Value} (h : w.ownsRow base e size v n xs) : (v = .slice none 0 0 ∧ n = 0) ∨ ∃ g cap, v = .slice (some ⟨g, 0, none⟩) n cap ∧ n ≤ cap := by
  obtain ⟨hl, h | ⟨g, cap, cur, h1, h2, h3, h4, h5, h6, h7⟩⟩ := h
  · exact Or.inl h
  · exact Or.inr ⟨g, cap, h1, h4⟩
end
/-- 'append' of a slice that may be cut or nil, to a row of one's own. -/
theorem wpList_append_cut {P : Program} {w : World} {ops : Array Oper} {rest : List Oper} {o : Oper} {a : Act} {Q : Exit → Act → World → Prop} (hgd : o.guard = none) (s x : Operand) (t : TypeId)
    (ho : o.op = .call { callee := .builtin .append, args := #[s, x], argTypes := #[t, t] })
    (base : Nat) (e : TypeId) (i : TypeInfo) (z : Value) (size bytes : Nat) (ht : P.underlying t = some (.slice e)) (hi : P.info? e = some i) (hz : i.zero = some z)
    (hsize : i.size = size) (hby : i.bytes = bytes) (hzs : z.cells.size = size) (hsz : 0 < size)
    (v : Value) (n : Nat) (xs : List Value) (hs : a.eval s = v) (hown : w.ownsRow base e size v n xs)
    (ao : Option Addr) (m c : Nat) (news : List Value) (hx : a.eval x = .slice ao m c) (hnone : ao = none → m = 0 ∧ c = 0) (hl : news.length = m * size) (hnews : ∀ ad, ao = some ad → ∀ j u, news[j]? = some u → w.cell? (ad.add j) = some u) (h1 : ∀ u ∈ news, u.oneCell' = true)
    (h63 : n + m ≤ maxLen) (hbytes : (n + m) * bytes ≤ 140737488355328) (hbase : base ≤ w.heap.size)
    (h : ∀ v' w', w'.ownsRow base e size v' (n + m) (xs ++ news) → w.grownBy w' v.ownBlock → wpList P ops Q rest (a.put o.dst v') w') : wpList P ops Q (o :: rest) a w := by
  cases ao with
  | some ad => exact wpList_append_own w hgd s x t ho base e i z size bytes ht hi hz hsize hby hzs hsz v n xs hs hown ad m c news hx hl (hnews ad rfl) h1 h63 hbytes hbase (fun v' w' q1 q2 _ => h v' w' q1 q2)
  | none =>
    obtain ⟨rfl, rfl⟩ := hnone rfl
    have hn : news = [] := List.eq_nil_of_length_eq_zero (by simpa using hl)
    subst hn
    refine wpList_append_own_none hgd s x t ho base e i size ht hi v n xs hs hown hx ?_
    exact h v w (by simpa using hown) (World.grownBy.refl _ _)
end Go.Proofs.YtepmljcapobodaaDoor
end
section
namespace Go.Proofs.YtepmljcapobodaaDoor
open Go.RowKit
set_option linter.unusedVariables false
set_option maxRecDepth 100000
def insL (l : List (Nat × Ent)) (page : Int) (e : Ent) : List (Nat × Ent) := l.take (plF l page) ++ [(page.toNat, e)] ++ l.drop (plF l page)
def mapR (n many : Nat) (sl : List Spc) (root page : Int) (e : Ent) : Int :=
  if askR sl root page (fitB n e) = 0 then (match spcR sl root with | none => 0 | some s => if isF s.l page then 5 else if tabR s.l < tabR (insL s.l page e) ∧ many ≤ usedR sl then 3 else 0)
  else askR sl root page (fitB n e)
def MapPost (w : World) (base bw : Nat) (v : Value) (sl : List Spc) (n many : Nat) (root page : Int) (e : Ent) (r : Ending) (w' : World) : Prop :=
  r = .returned (.int .i64 (mapR n many sl root page e)) ∧ ∃ sl', WdAt w' base bw v sl' n many ∧ Keep (rowOf v) w w' ∧ (mapR n many sl root page e ≠ 0 → sl' = sl) ∧ (mapR n many sl root page e = 0 → ∃ (i : Nat) (s : Spc) (u : Value), atR sl root = i ∧ sl[i]? = some s ∧ sl' = sl.set i ⟨s.r, u, insL s.l page e⟩)
theorem mapsV_split (l : List (Nat × Ent)) (P : Nat) : mapsV l = mapsV (l.take P) ++ mapsV (l.drop P) := by
  unfold mapsV
  rw [← List.flatMap_append, List.take_append_drop]
theorem maps_take {l : List (Nat × Ent)} {P j : Nat} {u : Value} (h : (mapsV (l.take P))[j]? = some u) : (mapsV l)[j]? = some u := by
  rw [mapsV_split l P, List.getElem?_append_left (List.getElem?_eq_some_iff.1 h).1]
  exact h
theorem maps_drop {l : List (Nat × Ent)} {P j : Nat} {u : Value} (hP : P ≤ l.length) (h : (mapsV (l.drop P))[j]? = some u) : (mapsV l)[P * 5 + j]? = some u := by
  have e : (mapsV (l.take P)).length = P * 5 := by rw [mapsV_len, List.length_take, Nat.min_eq_left hP]
  rw [mapsV_split l P, List.getElem?_append_right (by rw [e]; omega), e, Nat.add_sub_cancel_left]
  exact h
theorem mapsV_one (l : List (Nat × Ent)) : ∀ u ∈ mapsV l, u.oneCell' = true := by
  intro u hu
  unfold mapsV at hu
  rw [List.mem_flatMap] at hu
  obtain ⟨x, -, hu⟩ := hu
  unfold mapCells at hu
  simp only [List.mem_cons, List.not_mem_nil, or_false] at hu
  rcases hu with rfl | rfl | rfl | rfl | rfl <;> rfl
theorem mapsV_app (a b : List (Nat × Ent)) : mapsV (a ++ b) = mapsV a ++ mapsV b := by unfold mapsV; rw [List.flatMap_append]
theorem mapsV_ins {l : List (Nat × Ent)} {page : Int} {e : Ent} {P : Nat} (hP : plF l page = P) (h0 : 0 ≤ page) : mapsV (insL l page e) = mapsV (l.take P) ++ [.int .i64 page, .bool e.p, .bool e.w, .bool e.c, .int .i64 e.f] ++ mapsV (l.drop P) := by
  unfold insL
  rw [hP, mapsV_app, mapsV_app]
  congr 2
  show [Value.int .i64 (page.toNat : Int), .bool e.p, .bool e.w, .bool e.c, .int .i64 e.f] = _
  rw [Int.toNat_of_nonneg h0]
theorem insL_len (l : List (Nat × Ent)) (page : Int) (e : Ent) : (insL l page e).length = l.length + 1 := by
  unfold insL
  have := plF_le l page
  rw [List.length_append, List.length_append, List.length_take, List.length_drop, List.length_singleton]
  omega
theorem insL_fine {l : List (Nat × Ent)} {page : Int} {e : Ent} (h : ∀ x ∈ l, x.1 < 1024) (h1 : page < 1024) : ∀ x ∈ insL l page e, x.1 < 1024 := by
  intro x hx
  unfold insL at hx
  rcases List.mem_append.1 hx with hx | hx
  · rcases List.mem_append.1 hx with hx | hx
    · exact h x (List.mem_of_mem_take hx)
    · rw [List.mem_singleton] at hx; subst hx; show page.toNat < 1024; omega
  · exact h x (List.mem_of_mem_drop hx)
/-- Behind an append to a row that is new since a. -/
theorem new_row {a b c : World} {e : TypeId} {size n : Nat} {v : Value} {xs : List Value} (k : Keep nob a b) (h : b.ownsRow a.heap.size e size v n xs) (g : b.grownBy c v.ownBlock) : Keep nob a c :=
  k.own_into (keep_of_own h g) (Nat.le_refl _)
section
variable {w : World} {base bw : Nat} {v : Value} {sl : List Spc} {n many : Nat}
set_option maxHeartbeats 3200000 in
theorem rmap_no (D : WdAt w base bw v sl n many) (root page : Int) (e : Ent) (ha : askR sl root page (fitB n e) ≠ 0) :
    Calls Tryd.prog 79 #[.pointer (some ⟨bw, 0, none⟩), .int .i64 root, .int .i64 page, e.val] w (MapPost w base bw v sl n many root page e) := by
  have em : mapR n many sl root page e = askR sl root page (fitB n e) := if_neg ha
  obtain ⟨a0, hq⟩ : ∃ a0, askR sl root page (fitB n e) = a0 := ⟨_, rfl⟩
  rw [hq] at ha em
  obtain ⟨p, x, cc, fr⟩ := e
  have K1 : Keep nob w (w.alloc (.cells #[.bool p, .bool x, .bool cc, .int .i64 fr] 69)) := (Keep.refl _ _).alloc _
  have E0 := EntAt.new w p x cc fr 69
  obtain ⟨W, hW⟩ : ∃ W, W = w.alloc (.cells #[.bool p, .bool x, .bool cc, .int .i64 fr] 69) := ⟨_, rfl⟩
  rw [← hW] at K1 E0
  have DW := D.next K1
  have Kd : Keep nob W W.drew := (Keep.refl nob W).drew
  have ed : ∀ p, W.drew.cell? p = W.cell? p := fun p => rfl
  have F := rfits_ok (w := W.drew) v n many ⟨p, x, cc, fr⟩
  have RA := fun W' (k : Keep nob W W') => rasked_ok (DW.is.next k) n many root page (fitB n ⟨p, x, cc, fr⟩)
  rw [hq] at RA
  obtain ⟨fb, hfb⟩ : ∃ fb, fitB n ⟨p, x, cc, fr⟩ = fb := ⟨_, rfl⟩
  rw [hfb] at F RA
  unfold wAgg at F RA
  unfold Ent.val at F
  dsimp only at F
  unfold Ent.val
  dsimp only
  have b0 := DW.c0
  have b1 := DW.c1
  have b2 := DW.c2
  obtain ⟨e0, e1, e2, e3, -, -, -, -⟩ := id E0
  have t1 : (a0 != 0) = true := by simpa using ha
  replace hW := Lib.hid hW
  replace K1 := Lib.hid K1
  replace E0 := Lib.hid E0
  replace DW := Lib.hid DW
  replace Kd := Lib.hid Kd
  replace ed := Lib.hid ed
  replace F := Lib.hid F
  replace RA := Lib.hid RA
  replace hfb := Lib.hid hfb
  replace hq := Lib.hid hq
  replace em := Lib.hid em
  replace D := Lib.hid D
  replace ha := Lib.hid ha
  go_enter Tryd.func79, Tryd.ntmps79
  go_wp2_with fail
  rw [← hW.out]
  go_region_held3 (fun w' => w'.cell? ⟨bw, 0, none⟩ = some v ∧ w'.cell? ⟨bw, 1, none⟩ = some (.int .i64 n) ∧ w'.cell? ⟨bw, 2, none⟩ = some (.int .i64 many) ∧ w'.cell? ⟨w.heap.size, 0, none⟩ = some (.bool p) ∧ w'.cell? ⟨w.heap.size, 1, none⟩ = some (.bool x) ∧ w'.cell? ⟨w.heap.size, 2, none⟩ = some (.bool cc) ∧ w'.cell? ⟨w.heap.size, 3, none⟩ = some (.int .i64 fr)) (first | go_keep | exact ⟨y0, y1, y2, y3, y4, y5, y6⟩ | exact ⟨x0, x1, x2, x3, x4, x5, x6⟩) (first | (go_at_call 100; refine Calls.mono F.out ?_; rintro r w5 ⟨rfl, K5⟩; have y0 := K5.some ((ed.out _).trans b0) (fun x => x); have y1 := K5.some ((ed.out _).trans b1) (fun x => x); have y2 := K5.some ((ed.out _).trans b2) (fun x => x); have y3 := K5.some ((ed.out _).trans e0) (fun x => x); have y4 := K5.some ((ed.out _).trans e1) (fun x => x); have y5 := K5.some ((ed.out _).trans e2) (fun x => x); have y6 := K5.some ((ed.out _).trans e3) (fun x => x); replace K5 := Lib.hid K5) | (go_at_call 99; refine Calls.mono (RA.out _ (Kd.out.then K5.out)) ?_; rintro r w6 ⟨rfl, K6⟩; have x0 := K6.some y0 (fun x => x); have x1 := K6.some y1 (fun x => x); have x2 := K6.some y2 (fun x => x); have x3 := K6.some y3 (fun x => x); have x4 := K6.some y4 (fun x => x); have x5 := K6.some y5 (fun x => x); have x6 := K6.some y6 (fun x => x); replace K6 := Lib.hid K6))
  go_wp2_with fail
  go_ret
  have KF := (K1.out.then Kd.out).then (K5.out.then K6.out)
  refine ⟨by rw [em.out]; rfl, sl, D.out.next KF, KF.nob, fun _ => rfl, fun h => ?_⟩
  rw [em.out] at h
  exact absurd h ha.out
theorem WdAt.spc (D : WdAt w base bw v sl n many) {k : Nat} {s : Spc} (h : sl[k]? = some s) : ∃ g cap, v = .slice (some ⟨g, 0, none⟩) sl.length cap ∧ base ≤ g ∧ g < w.heap.size ∧ w.cell? ⟨g, k * 2 + 1, none⟩ = some s.v ∧ w.frozen? ⟨g, k * 2 + 1, none⟩ = false := by
  have h0 : k < sl.length := (List.getElem?_eq_some_iff.1 h).1
  obtain ⟨g, cap, hv, hb, hg, -, hc⟩ := own_cells D.row (by omega)
  obtain ⟨c1, c2⟩ := hc _ s.v (flat_get spcCells_len sl k s 1 s.v h rfl)
  exact ⟨g, cap, hv, hb, hg, c1, c2⟩
set_option maxHeartbeats 0 in
theorem rmap_yes (D : WdAt w base bw v sl n many) (root page : Int) (e : Ent) (ha : askR sl root page (fitB n e) = 0) (hr : ∀ s, spcR sl root = some s → isF s.l page = false → s.l.length < 1024) :
    Calls Tryd.prog 79 #[.pointer (some ⟨bw, 0, none⟩), .int .i64 root, .int .i64 page, e.val] w (MapPost w base bw v sl n many root page e) := by
  have em : mapR n many sl root page e = (match spcR sl root with | none => 0 | some s => if isF s.l page then 5 else if tabR s.l < tabR (insL s.l page e) ∧ many ≤ usedR sl then 3 else 0) := if_pos ha
  have hpg : 0 ≤ page ∧ page < 1024 ∧ fitB n e = true ∧ ¬ atR sl root < 0 := by
    unfold askR at ha
    split at ha
    · rename_i h
      split at ha
      · cases ha
      · rename_i h2; exact ⟨h.1, h.2.1, h.2.2, h2⟩
    · cases ha
  obtain ⟨pg0, pg1, hfit, hat⟩ := hpg
  rcases atR_cases sl root with ⟨q, -⟩ | ⟨k, s, q, hk, -⟩
  · rw [q] at hat; exact absurd (by decide) hat
  rw [spcR_some q hk] at em
  dsimp only at em
  have hr' := hr s (spcR_some q hk)
  obtain ⟨g, cap, rfl, hg, hgw, hc, hz⟩ := D.spc hk
  have sm := List.mem_of_getElem? hk
  have fi := D.fine _ sm
  have kl : k < sl.length := (List.getElem?_eq_some_iff.1 hk).1
  have hl := D.len
  obtain ⟨p, x, cc, fr⟩ := e
  have K1 : Keep nob w (w.alloc (.cells #[.bool p, .bool x, .bool cc, .int .i64 fr] 69)) := (Keep.refl _ _).alloc _
  have E0 := EntAt.new w p x cc fr 69
  obtain ⟨W, hW⟩ : ∃ W, W = w.alloc (.cells #[.bool p, .bool x, .bool cc, .int .i64 fr] 69) := ⟨_, rfl⟩
  rw [← hW] at K1 E0
  have DW := D.next K1
  have Kd : Keep nob W W.drew := (Keep.refl nob W).drew
  have ed : ∀ p, W.drew.cell? p = W.cell? p := fun p => rfl
  have F := rfits_ok (w := W.drew) (.slice (some ⟨g, 0, none⟩) sl.length cap) n many ⟨p, x, cc, fr⟩
  have RA := fun W' (k : Keep nob W W') => rasked_ok (DW.is.next k) n many root page (fitB n ⟨p, x, cc, fr⟩)
  rw [ha, hfit] at RA
  rw [hfit] at F
  unfold wAgg at F RA
  unfold Ent.val at F
  dsimp only at F
  unfold Ent.val
  dsimp only
  have b0 := DW.c0
  have b1 := DW.c1
  have b2 := DW.c2
  have kz : (0 : Int) ≤ k := by omega
  have kb : (k : Int) < sl.length := by omega
  obtain ⟨e0, e1, e2, e3, -, -, -, -⟩ := id E0
  replace hW := Lib.hid hW
  replace K1 := Lib.hid K1
  replace E0 := Lib.hid E0
  replace DW := Lib.hid DW
  replace Kd := Lib.hid Kd
  replace ed := Lib.hid ed
  replace F := Lib.hid F
  replace RA := Lib.hid RA
  replace hfit := Lib.hid hfit
  replace em := Lib.hid em
  replace D := Lib.hid D
  replace ha := Lib.hid ha
  replace hr := Lib.hid hr
  replace hr' := Lib.hid hr'
  replace hk := Lib.hid hk
  replace sm := Lib.hid sm
  replace fi := Lib.hid fi
  replace hgw := Lib.hid hgw
  replace q := Lib.hid q
  replace hc := Lib.hid hc
  replace hz := Lib.hid hz
  replace hg := Lib.hid hg
  go_enter Tryd.func79, Tryd.ntmps79
  go_wp2_with fail
  rw [← hW.out]
  go_region_held3 (fun w' => w'.cell? ⟨bw, 0, none⟩ = some (.slice (some ⟨g, 0, none⟩) sl.length cap) ∧ w'.cell? ⟨bw, 1, none⟩ = some (.int .i64 n) ∧ w'.cell? ⟨bw, 2, none⟩ = some (.int .i64 many) ∧ w'.cell? ⟨w.heap.size, 0, none⟩ = some (.bool p) ∧ w'.cell? ⟨w.heap.size, 1, none⟩ = some (.bool x) ∧ w'.cell? ⟨w.heap.size, 2, none⟩ = some (.bool cc) ∧ w'.cell? ⟨w.heap.size, 3, none⟩ = some (.int .i64 fr)) (first | go_keep | exact ⟨y0, y1, y2, y3, y4, y5, y6⟩ | exact ⟨x0, x1, x2, x3, x4, x5, x6⟩) (first | (go_at_call 100; refine Calls.mono F.out ?_; rintro r w5 ⟨rfl, K5⟩; have y0 := K5.some ((ed.out _).trans b0) (fun x => x); have y1 := K5.some ((ed.out _).trans b1) (fun x => x); have y2 := K5.some ((ed.out _).trans b2) (fun x => x); have y3 := K5.some ((ed.out _).trans e0) (fun x => x); have y4 := K5.some ((ed.out _).trans e1) (fun x => x); have y5 := K5.some ((ed.out _).trans e2) (fun x => x); have y6 := K5.some ((ed.out _).trans e3) (fun x => x); replace K5 := Lib.hid K5) | (go_at_call 99; refine Calls.mono (RA.out _ (Kd.out.then K5.out)) ?_; rintro r w6 ⟨rfl, K6⟩; have x0 := K6.some y0 (fun x => x); have x1 := K6.some y1 (fun x => x); have x2 := K6.some y2 (fun x => x); have x3 := K6.some y3 (fun x => x); have x4 := K6.some y4 (fun x => x); have x5 := K6.some y5 (fun x => x); have x6 := K6.some y6 (fun x => x); replace K6 := Lib.hid K6))
  have Ka := (K1.out.then Kd.out).then (K5.out.then K6.out)
  clear y0 y1 y2 y3 y4 y5 y6 e0 e1 e2 e3 b0 b1 b2
  have ed2 : ∀ p, w6.drew.cell? p = w6.cell? p := fun p => rfl
  have Kd2 : Keep nob w6 w6.drew := (Keep.refl nob w6).drew
  have CA := rat_ok (D.out.is.next (Ka.then Kd2)) n many root
  rw [q.out] at CA
  unfold wAgg at CA
  replace Ka := Lib.hid Ka
  replace ed2 := Lib.hid ed2
  replace Kd2 := Lib.hid Kd2
  replace CA := Lib.hid CA
  clear F RA
  go_wp2_with fail
  go_region_held3 (fun w' => w'.cell? ⟨bw, 0, none⟩ = some (.slice (some ⟨g, 0, none⟩) sl.length cap) ∧ w'.cell? ⟨bw, 1, none⟩ = some (.int .i64 n) ∧ w'.cell? ⟨bw, 2, none⟩ = some (.int .i64 many)) (first | go_keep | exact ⟨y0, y1, y2⟩) (first | (go_at_call 78; refine Calls.mono CA.out ?_; rintro r w7 ⟨rfl, K7⟩; have y0 := K7.some ((ed2.out _).trans x0) (fun x => x); have y1 := K7.some ((ed2.out _).trans x1) (fun x => x); have y2 := K7.some ((ed2.out _).trans x2) (fun x => x); replace K7 := Lib.hid K7))
  have Kb := Ka.out.then (Kd2.out.then K7.out)
  have hc7 := Kb.some hc.out (fun x => x)
  have hmap := D.out.is.maps _ sm.out
  have CP := place_ok (hmap.next Kb) fi.out.1 fi.out.2 page
  clear x0 x1 x2 x3 x4 x5 x6 CA
  cases hf : isF s.l page with
  | true =>
    rw [hf] at CP
    have em' := em.out
    rw [hf, if_pos rfl] at em'
    replace Kb := Lib.hid Kb
    replace CP := Lib.hid CP
    replace hmap := Lib.hid hmap
    replace hf := Lib.hid hf
    replace em' := Lib.hid em'
    go_wp2_with fail
    refine Calls.mono CP.out ?_
    rintro r w8 ⟨rfl, K8⟩
    replace K8 := Lib.hid K8
    go_wp2_with fail
    go_ret
    have KF := Kb.out.then K8.out
    refine ⟨by rw [em'.out]; rfl, sl, D.out.next KF, KF.nob, fun _ => rfl, fun h => ?_⟩
    rw [em'.out] at h
    cases h
  | false =>
    have em' := em.out
    rw [hf, if_neg (by decide)] at em'
    rw [hf] at CP
    obtain ⟨P, hP⟩ : ∃ P, plF s.l page = P := ⟨_, rfl⟩
    rw [hP] at CP
    have PL := plF_le s.l page
    rw [hP] at PL
    replace Kb := Lib.hid Kb
    replace CP := Lib.hid CP
    replace hmap := Lib.hid hmap
    replace hf := Lib.hid hf
    replace em' := Lib.hid em'
    replace hP := Lib.hid hP
    go_wp2_with fail
    refine Calls.mono CP.out ?_
    rintro r w8 ⟨rfl, K8⟩
    have Kc := Kb.out.then K8
    have D8 := D.out.next Kc
    have E8 := E0.out.next ((Kd.out.then (K5.out.then K6.out)).then ((Kd2.out.then K7.out).then K8))
    have hc8 := K8.some hc7 (fun x => x)
    have row8 := D8.maps _ sm.out
    obtain ⟨i0, hi, hz0, hz1, hz2⟩ := info_parts infoMap
    have hcA := fun o => ((Keep.refl nob w8).alloc o).some hc8 (fun x => x)
    have K8a : Keep nob w8 (w8.alloc (.cells #[] 106)) := (Keep.refl _ _).alloc _
    have own0 : (w8.alloc (.cells #[] 106)).ownsRow w8.heap.size 106 5 (.slice (some ⟨w8.heap.size, 0, none⟩) 0 0) 0 [] := World.ownsRow_lit w8 #[] 0 (Nat.le_refl _) (by decide) rfl
    rcases row_cases row8 with ⟨hv, hl0⟩ | ⟨g2, cap2, hv, hcap⟩
    · rw [hv] at hcA hc8
      obtain rfl : P = 0 := by omega
      replace K8 := Lib.hid K8
      replace Kc := Lib.hid Kc
      replace D8 := Lib.hid D8
      replace E8 := Lib.hid E8
      replace row8 := Lib.hid row8
      replace hv := Lib.hid hv
      replace hi := Lib.hid hi
      replace hz0 := Lib.hid hz0
      replace hz1 := Lib.hid hz1
      replace hz2 := Lib.hid hz2
      replace K8a := Lib.hid K8a
      replace own0 := Lib.hid own0
      replace hc8 := Lib.hid hc8
      clear hc7 y0 y1 y2
      go_wp2_with (at_builtin; refine wpList_append_cut rfl (.tmp 48) (.tmp 54) 75 rfl w8.heap.size 106 i0 (.agg #[.int .i64 0, .bool false, .bool false, .bool false, .int .i64 0]) 5 24 Tryd.underlying75 hi.out hz0.out hz1.out hz2.out rfl (by decide) _ 0 [] rfl own0.out none 0 0 [] rfl (fun _ => ⟨rfl, rfl⟩) rfl (fun ad h => by cases h) (by simp) (by decide) (by decide) ?c5 ?_)
      case c5 => rw [World.size_alloc]; omega
      intro v9 w9 own1 gr1
      have K9 := new_row K8a.out own0.out gr1
      have own1 : w9.ownsRow w8.heap.size 106 5 v9 0 (mapsV (s.l.take 0)) := own1
      obtain ⟨d0, d1, d2, d3, -, -, -, -⟩ := E8.out.next K9
      have sz9 := K9.size
      replace own1 := Lib.hid own1
      replace gr1 := Lib.hid gr1
      replace K9 := Lib.hid K9
      clear hcA
      go_wp2_with (at_builtin; refine wpList_append_cut rfl (.tmp 56) (.tmp 60) 75 rfl w8.heap.size 106 i0 (.agg #[.int .i64 0, .bool false, .bool false, .bool false, .int .i64 0]) 5 24 Tryd.underlying75 hi.out hz0.out hz1.out hz2.out rfl (by decide) _ 0 (mapsV (s.l.take 0)) rfl (own_next own1.out ((Keep.refl _ _).alloc _)) (some ⟨w9.heap.size, 0, none⟩) 1 1 [.int .i64 page, .bool p, .bool x, .bool cc, .int .i64 fr] rfl (fun h => by cases h) rfl ?c2 ?c1 ?c3 ?c4 ?c5 ?_)
      case c2 => intro ad h; injection h with h; subst h; intro j u hu; rw [Addr.add_mid, Nat.zero_add]; exact new_at _ _ _ j u hu
      case c1 => simp [Value.oneCell']
      case c3 => unfold maxLen; omega
      case c4 => omega
      case c5 => rw [World.size_alloc]; omega
      intro v10 w10 own2 gr2
      have K10 := new_row (K9.out.alloc _) (own_next own1.out ((Keep.refl _ _).alloc _)) gr2
      have sz10 := K10.size
      have hc10 := K10.some hc8.out (fun x => x)
      replace own2 := Lib.hid own2
      replace gr2 := Lib.hid gr2
      replace K10 := Lib.hid K10
      clear d0 d1 d2 d3
      go_wp2_with (at_builtin; refine wpList_append_cut rfl (.tmp 62) (.tmp 68) 75 rfl w8.heap.size 106 i0 (.agg #[.int .i64 0, .bool false, .bool false, .bool false, .int .i64 0]) 5 24 Tryd.underlying75 hi.out hz0.out hz1.out hz2.out rfl (by decide) _ (0 + 1) _ rfl own2.out none 0 0 [] rfl (fun _ => ⟨rfl, rfl⟩) rfl (fun ad h => by cases h) (by simp) (by decide) (by decide) ?c5 ?_)
      case c5 => omega
      intro v11 w11 own3 gr3
      have K11 := new_row K10.out own2.out gr3
      have own4 : w11.ownsRow base 106 5 v11 (insL s.l page ⟨p, x, cc, fr⟩).length (mapsV (insL s.l page ⟨p, x, cc, fr⟩)) := by
        rw [insL_len, mapsV_ins hP.out pg0]
        have e0 := List.length_eq_zero_iff.1 hl0
        rw [e0]
        exact own_base own3 D8.out.hb
      obtain ⟨a11, c11, rfl⟩ := row_form own4
      have Ke := Kc.out.then K11
      have D11 := D.out.next Ke
      have ll := hr'.out hf.out
      have fi2 : spcFine ⟨s.r, .slice a11 (insL s.l page ⟨p, x, cc, fr⟩).length c11, insL s.l page ⟨p, x, cc, fr⟩⟩ := ⟨by show (insL _ _ _).length ≤ _; rw [insL_len]; omega, insL_fine fi.out.2 pg1⟩
      have M1 : MapsIs w11 (.slice a11 (insL s.l page ⟨p, x, cc, fr⟩).length c11) (insL s.l page ⟨p, x, cc, fr⟩) := own_rows mapCells_len own4 (by rw [insL_len]; omega)
      have ub := usedR_le sl D.out.fine
      have tb1 := tabR_le s.l
      have tb2 := tabR_le (insL s.l page ⟨p, x, cc, fr⟩)
      rw [insL_len] at tb2
      have T1 := fun W' (k : Keep nob w11 W') => tab_ok (M1.next k) fi2.1 fi2.2
      have T2 := fun W' (k : Keep nob w11 W') => tab_ok ((D11.is.maps _ sm.out).next k) fi.out.1 fi.out.2
      have U := fun W' (k : Keep nob w11 W') => used_ok (D11.is.next k) n many
      rw [hv.out] at T2
      unfold wAgg at U
      obtain ⟨t1, ht1⟩ : ∃ t, tabR (insL s.l page ⟨p, x, cc, fr⟩) = t := ⟨_, rfl⟩
      obtain ⟨t2, ht2⟩ : ∃ t, tabR s.l = t := ⟨_, rfl⟩
      obtain ⟨us, hus⟩ : ∃ t, usedR sl = t := ⟨_, rfl⟩
      rw [ht1] at T1 tb2
      rw [ht2] at T2 tb1
      rw [hus] at U ub
      have em2 := em'.out
      rw [ht1, ht2, hus] at em2
      have z0 := D11.c0
      have z1 := D11.c1
      have z2 := D11.c2
      have z3 := K11.some hc8.out (fun x => x)
      have Kd3 : Keep nob w11 w11.drew := (Keep.refl nob w11).drew
      have ed3 : ∀ p, w11.drew.cell? p = w11.cell? p := fun p => rfl
      have bt1 : t1 ≤ 2000 := by omega
      have bt2 : t2 ≤ 2000 := by omega
      have bus : us ≤ 1025000 := by omega
      replace own3 := Lib.hid own3
      replace gr3 := Lib.hid gr3
      replace K11 := Lib.hid K11
      replace own4 := Lib.hid own4
      replace Ke := Lib.hid Ke
      replace D11 := Lib.hid D11
      replace M1 := Lib.hid M1
      replace T1 := Lib.hid T1
      replace T2 := Lib.hid T2
      replace U := Lib.hid U
      replace ht1 := Lib.hid ht1
      replace ht2 := Lib.hid ht2
      replace hus := Lib.hid hus
      replace em2 := Lib.hid em2
      replace Kd3 := Lib.hid Kd3
      replace ed3 := Lib.hid ed3
      replace fi2 := Lib.hid fi2
      replace ub := Lib.hid ub
      replace tb1 := Lib.hid tb1
      replace tb2 := Lib.hid tb2
      replace ll := Lib.hid ll
      clear hc10
      go_wp2_with fail
      have Z0 := KW.cell z0
      have Z1 := KW.cell z1
      have Z2 := KW.cell z2
      have Z3 := KW.cell z3
      have hz11 := Lib.hid ((Ke.out.frozen (p := ⟨g, k * 2 + 1, none⟩) hgw.out (fun x => x)).trans hz.out)
      by_cases c1 : t2 < t1
      · have tt1 : decide (t2 < t1) = true := decide_eq_true c1
        have tj1 : decide ((t2 : Int) < (t1 : Int)) = true := decide_eq_true (by omega)
        by_cases c2 : many ≤ us
        · have tt2 : decide (many ≤ us) = true := decide_eq_true c2
          have tj2 : decide ((many : Int) ≤ (us : Int)) = true := decide_eq_true (by omega)
          have em3 := em2.out.trans (if_pos ⟨c1, c2⟩)
          replace em3 := Lib.hid em3
          refine wp_region_keepq (by kernel_rfl) (by kernel_rfl) ?_
          repeat (go_big_quiet_step ((first | (go_at_call 47; with_reducible exact Calls.keepq (T1.out _ (KW.k _))) | (go_at_call 47; with_reducible exact Calls.keepq (T2.out _ (KW.k _))) | (go_at_call 42; with_reducible exact Calls.keepq (U.out _ (KW.k _))))))
          refine wpQuiet_nil ?_
          rintro WQ ⟨⟨_, KF⟩, rfl⟩
          try dsimp only
          replace KF := Lib.hid KF
          go_wp2_with fail
          go_ret
          refine ⟨by rw [em3.out]; rfl, sl, D11.out.next KF.out, (Ke.out.then KF.out).nob, fun _ => rfl, fun h => ?_⟩
          rw [em3.out] at h
          cases h
        · have tt2 : decide (many ≤ us) = false := decide_eq_false c2
          have tj2 : decide ((many : Int) ≤ (us : Int)) = false := decide_eq_false (by omega)
          have em3 := em2.out.trans (if_neg (fun h => c2 h.2))
          replace em3 := Lib.hid em3
          refine wp_region_keepq (by kernel_rfl) (by kernel_rfl) ?_
          repeat (go_big_quiet_step ((first | (go_at_call 47; with_reducible exact Calls.keepq (T1.out _ (KW.k _))) | (go_at_call 47; with_reducible exact Calls.keepq (T2.out _ (KW.k _))) | (go_at_call 42; with_reducible exact Calls.keepq (U.out _ (KW.k _))))))
          refine wpQuiet_nil ?_
          rintro WQ ⟨⟨_, KF⟩, rfl⟩
          try dsimp only
          replace KF := Lib.hid KF
          have hzF := (KF.out.frozen (p := ⟨g, k * 2 + 1, none⟩) (Nat.lt_of_lt_of_le hgw.out Ke.out.size) (fun x => x)).trans hz11.out
          have hcF := KF.out.some z3 (fun x => x)
          go_wp2_with fail
          go_ret
          have DF := D11.out.next KF.out
          have pt := DF.put hk.out (own_next own4.out KF.out) fi2.out
          refine ⟨by rw [em3.out]; rfl, _, pt.1, ?_, fun h => absurd em3.out h, fun _ => ⟨k, s, _, q.out, hk.out, rfl⟩⟩
          exact ((Ke.out.then KF.out).nob).trans pt.2 (fun y _ ey => by have ey : y = g := ey; rw [ey]; rfl)
      · have tt1 : decide (t2 < t1) = false := decide_eq_false c1
        have tj1 : decide ((t2 : Int) < (t1 : Int)) = false := decide_eq_false (by omega)
        have em3 := em2.out.trans (if_neg (fun h => c1 h.1))
        replace em3 := Lib.hid em3
        refine wp_region_keepq (by kernel_rfl) (by kernel_rfl) ?_
        repeat (go_big_quiet_step ((first | (go_at_call 47; with_reducible exact Calls.keepq (T1.out _ (KW.k _))) | (go_at_call 47; with_reducible exact Calls.keepq (T2.out _ (KW.k _))) | (go_at_call 42; with_reducible exact Calls.keepq (U.out _ (KW.k _))))))
        refine wpQuiet_nil ?_
        rintro WQ ⟨⟨_, KF⟩, rfl⟩
        try dsimp only
        replace KF := Lib.hid KF
        have hzF := (KF.out.frozen (p := ⟨g, k * 2 + 1, none⟩) (Nat.lt_of_lt_of_le hgw.out Ke.out.size) (fun x => x)).trans hz11.out
        have hcF := KF.out.some z3 (fun x => x)
        go_wp2_with fail
        go_ret
        have DF := D11.out.next KF.out
        have pt := DF.put hk.out (own_next own4.out KF.out) fi2.out
        refine ⟨by rw [em3.out]; rfl, _, pt.1, ?_, fun h => absurd em3.out h, fun _ => ⟨k, s, _, q.out, hk.out, rfl⟩⟩
        exact ((Ke.out.then KF.out).nob).trans pt.2 (fun y _ ey => by have ey : y = g := ey; rw [ey]; rfl)
    · rw [hv] at hcA hc8
      have src : ∀ j u, (mapsV s.l)[j]? = some u → w8.cell? ⟨g2, j, none⟩ = some u := by
        intro j u hj
        have h0 := (List.getElem?_eq_some_iff.1 hj).1
        rw [mapsV_len] at h0
        obtain ⟨g3, cap3, hv3, -, -, -, hh⟩ := own_cells row8 (by omega)
        rw [hv] at hv3
        injection hv3 with q1
        injection q1 with q1
        injection q1 with q1
        subst q1
        exact (hh j u hj).1
      have fl := fi.out.1
      have sb0 : (0 : Int) ≤ P := by omega
      have sb1 : (P : Int) ≤ cap2 := by omega
      have sb2 : (P : Int) ≤ s.l.length := by omega
      replace K8 := Lib.hid K8
      replace Kc := Lib.hid Kc
      replace D8 := Lib.hid D8
      replace E8 := Lib.hid E8
      replace row8 := Lib.hid row8
      replace hv := Lib.hid hv
      replace hi := Lib.hid hi
      replace hz0 := Lib.hid hz0
      replace hz1 := Lib.hid hz1
      replace hz2 := Lib.hid hz2
      replace K8a := Lib.hid K8a
      replace own0 := Lib.hid own0
      replace hc8 := Lib.hid hc8
      replace src := Lib.hid src
      clear hc7 y0 y1 y2
      go_wp2_with (at_builtin; refine wpList_append_cut rfl (.tmp 48) (.tmp 54) 75 rfl w8.heap.size 106 i0 (.agg #[.int .i64 0, .bool false, .bool false, .bool false, .int .i64 0]) 5 24 Tryd.underlying75 hi.out hz0.out hz1.out hz2.out rfl (by decide) _ 0 [] rfl own0.out (some ⟨g2, 0, none⟩) P cap2 (mapsV (s.l.take P)) rfl (fun h => by cases h) ?c1 ?c2 (mapsV_one _) ?c3 ?c4 ?c5 ?_)
      case c1 => rw [mapsV_len, List.length_take, Nat.min_eq_left PL]
      case c2 => intro ad h; injection h with h; subst h; intro j u hu; rw [Addr.add_mid, Nat.zero_add]; exact ((Keep.refl nob w8).alloc _).some (src.out _ _ (maps_take hu)) (fun x => x)
      case c3 => unfold maxLen; omega
      case c4 => omega
      case c5 => rw [World.size_alloc]; omega
      intro v9 w9 own1 gr1
      have K9 := new_row K8a.out own0.out gr1
      have own1 : w9.ownsRow w8.heap.size 106 5 v9 P (mapsV (s.l.take P)) := by simpa using own1
      obtain ⟨d0, d1, d2, d3, -, -, -, -⟩ := E8.out.next K9
      have sz9 := K9.size
      replace own1 := Lib.hid own1
      replace gr1 := Lib.hid gr1
      replace K9 := Lib.hid K9
      clear hcA
      go_wp2_with (at_builtin; refine wpList_append_cut rfl (.tmp 56) (.tmp 60) 75 rfl w8.heap.size 106 i0 (.agg #[.int .i64 0, .bool false, .bool false, .bool false, .int .i64 0]) 5 24 Tryd.underlying75 hi.out hz0.out hz1.out hz2.out rfl (by decide) _ P (mapsV (s.l.take P)) rfl (own_next own1.out ((Keep.refl _ _).alloc _)) (some ⟨w9.heap.size, 0, none⟩) 1 1 [.int .i64 page, .bool p, .bool x, .bool cc, .int .i64 fr] rfl (fun h => by cases h) rfl ?c2 ?c1 ?c3 ?c4 ?c5 ?_)
      case c2 => intro ad h; injection h with h; subst h; intro j u hu; rw [Addr.add_mid, Nat.zero_add]; exact new_at _ _ _ j u hu
      case c1 => simp [Value.oneCell']
      case c3 => unfold maxLen; omega
      case c4 => omega
      case c5 => rw [World.size_alloc]; omega
      intro v10 w10 own2 gr2
      have K10 := new_row (K9.out.alloc _) (own_next own1.out ((Keep.refl _ _).alloc _)) gr2
      have sz10 := K10.size
      have hc10 := K10.some hc8.out (fun x => x)
      replace own2 := Lib.hid own2
      replace gr2 := Lib.hid gr2
      replace K10 := Lib.hid K10
      clear d0 d1 d2 d3
      by_cases ce : cap2 = P
      · subst ce
        have e0 : s.l.length - cap2 = 0 := by omega
        go_wp2_with (at_builtin; refine wpList_append_cut rfl (.tmp 62) (.tmp 68) 75 rfl w8.heap.size 106 i0 (.agg #[.int .i64 0, .bool false, .bool false, .bool false, .int .i64 0]) 5 24 Tryd.underlying75 hi.out hz0.out hz1.out hz2.out rfl (by decide) _ (cap2 + 1) _ rfl own2.out _ 0 _ [] rfl ?cn rfl ?c2 (by simp) ?c3 ?c4 ?c5 ?_)
        case c2 => intro ad h j u hu; simp at hu
        case c3 => unfold maxLen; omega
        case c4 => omega
        case c5 => omega
        intro v11 w11 own3 gr3
        have K11 := new_row K10.out own2.out gr3
        have own4 : w11.ownsRow base 106 5 v11 (insL s.l page ⟨p, x, cc, fr⟩).length (mapsV (insL s.l page ⟨p, x, cc, fr⟩)) := by
          rw [insL_len, mapsV_ins hP.out pg0]
          have e0 : s.l.drop cap2 = [] := List.drop_of_length_le (by omega)
          have e1 : s.l.length + 1 = cap2 + 1 := by omega
          rw [e0, e1]
          have := own_base own3 D8.out.hb
          simpa [mapsV] using this
        obtain ⟨a11, c11, rfl⟩ := row_form own4
        have Ke := Kc.out.then K11
        have D11 := D.out.next Ke
        have ll := hr'.out hf.out
        have fi2 : spcFine ⟨s.r, .slice a11 (insL s.l page ⟨p, x, cc, fr⟩).length c11, insL s.l page ⟨p, x, cc, fr⟩⟩ := ⟨by show (insL _ _ _).length ≤ _; rw [insL_len]; omega, insL_fine fi.out.2 pg1⟩
        have M1 : MapsIs w11 (.slice a11 (insL s.l page ⟨p, x, cc, fr⟩).length c11) (insL s.l page ⟨p, x, cc, fr⟩) := own_rows mapCells_len own4 (by rw [insL_len]; omega)
        have ub := usedR_le sl D.out.fine
        have tb1 := tabR_le s.l
        have tb2 := tabR_le (insL s.l page ⟨p, x, cc, fr⟩)
        rw [insL_len] at tb2
        have T1 := fun W' (k : Keep nob w11 W') => tab_ok (M1.next k) fi2.1 fi2.2
        have T2 := fun W' (k : Keep nob w11 W') => tab_ok ((D11.is.maps _ sm.out).next k) fi.out.1 fi.out.2
        have U := fun W' (k : Keep nob w11 W') => used_ok (D11.is.next k) n many
        rw [hv.out] at T2
        unfold wAgg at U
        obtain ⟨t1, ht1⟩ : ∃ t, tabR (insL s.l page ⟨p, x, cc, fr⟩) = t := ⟨_, rfl⟩
        obtain ⟨t2, ht2⟩ : ∃ t, tabR s.l = t := ⟨_, rfl⟩
        obtain ⟨us, hus⟩ : ∃ t, usedR sl = t := ⟨_, rfl⟩
        rw [ht1] at T1 tb2
        rw [ht2] at T2 tb1
        rw [hus] at U ub
        have em2 := em'.out
        rw [ht1, ht2, hus] at em2
        have z0 := D11.c0
        have z1 := D11.c1
        have z2 := D11.c2
        have z3 := K11.some hc8.out (fun x => x)
        have Kd3 : Keep nob w11 w11.drew := (Keep.refl nob w11).drew
        have ed3 : ∀ p, w11.drew.cell? p = w11.cell? p := fun p => rfl
        have bt1 : t1 ≤ 2000 := by omega
        have bt2 : t2 ≤ 2000 := by omega
        have bus : us ≤ 1025000 := by omega
        replace own3 := Lib.hid own3
        replace gr3 := Lib.hid gr3
        replace K11 := Lib.hid K11
        replace own4 := Lib.hid own4
        replace Ke := Lib.hid Ke
        replace D11 := Lib.hid D11
        replace M1 := Lib.hid M1
        replace T1 := Lib.hid T1
        replace T2 := Lib.hid T2
        replace U := Lib.hid U
        replace ht1 := Lib.hid ht1
        replace ht2 := Lib.hid ht2
        replace hus := Lib.hid hus
        replace em2 := Lib.hid em2
        replace Kd3 := Lib.hid Kd3
        replace ed3 := Lib.hid ed3
        replace fi2 := Lib.hid fi2
        replace ub := Lib.hid ub
        replace tb1 := Lib.hid tb1
        replace tb2 := Lib.hid tb2
        replace ll := Lib.hid ll
        clear hc10
        go_wp2_with fail
        have Z0 := KW.cell z0
        have Z1 := KW.cell z1
        have Z2 := KW.cell z2
        have Z3 := KW.cell z3
        have hz11 := Lib.hid ((Ke.out.frozen (p := ⟨g, k * 2 + 1, none⟩) hgw.out (fun x => x)).trans hz.out)
        by_cases c1 : t2 < t1
        · have tt1 : decide (t2 < t1) = true := decide_eq_true c1
          have tj1 : decide ((t2 : Int) < (t1 : Int)) = true := decide_eq_true (by omega)
          by_cases c2 : many ≤ us
          · have tt2 : decide (many ≤ us) = true := decide_eq_true c2
            have tj2 : decide ((many : Int) ≤ (us : Int)) = true := decide_eq_true (by omega)
            have em3 := em2.out.trans (if_pos ⟨c1, c2⟩)
            replace em3 := Lib.hid em3
            refine wp_region_keepq (by kernel_rfl) (by kernel_rfl) ?_
            repeat (go_big_quiet_step ((first | (go_at_call 47; with_reducible exact Calls.keepq (T1.out _ (KW.k _))) | (go_at_call 47; with_reducible exact Calls.keepq (T2.out _ (KW.k _))) | (go_at_call 42; with_reducible exact Calls.keepq (U.out _ (KW.k _))))))
            refine wpQuiet_nil ?_
            rintro WQ ⟨⟨_, KF⟩, rfl⟩
            try dsimp only
            replace KF := Lib.hid KF
            go_wp2_with fail
            go_ret
            refine ⟨by rw [em3.out]; rfl, sl, D11.out.next KF.out, (Ke.out.then KF.out).nob, fun _ => rfl, fun h => ?_⟩
            rw [em3.out] at h
            cases h
          · have tt2 : decide (many ≤ us) = false := decide_eq_false c2
            have tj2 : decide ((many : Int) ≤ (us : Int)) = false := decide_eq_false (by omega)
            have em3 := em2.out.trans (if_neg (fun h => c2 h.2))
            replace em3 := Lib.hid em3
            refine wp_region_keepq (by kernel_rfl) (by kernel_rfl) ?_
            repeat (go_big_quiet_step ((first | (go_at_call 47; with_reducible exact Calls.keepq (T1.out _ (KW.k _))) | (go_at_call 47; with_reducible exact Calls.keepq (T2.out _ (KW.k _))) | (go_at_call 42; with_reducible exact Calls.keepq (U.out _ (KW.k _))))))
            refine wpQuiet_nil ?_
            rintro WQ ⟨⟨_, KF⟩, rfl⟩
            try dsimp only
            replace KF := Lib.hid KF
            have hzF := (KF.out.frozen (p := ⟨g, k * 2 + 1, none⟩) (Nat.lt_of_lt_of_le hgw.out Ke.out.size) (fun x => x)).trans hz11.out
            have hcF := KF.out.some z3 (fun x => x)
            go_wp2_with fail
            go_ret
            have DF := D11.out.next KF.out
            have pt := DF.put hk.out (own_next own4.out KF.out) fi2.out
            refine ⟨by rw [em3.out]; rfl, _, pt.1, ?_, fun h => absurd em3.out h, fun _ => ⟨k, s, _, q.out, hk.out, rfl⟩⟩
            exact ((Ke.out.then KF.out).nob).trans pt.2 (fun y _ ey => by have ey : y = g := ey; rw [ey]; rfl)
        · have tt1 : decide (t2 < t1) = false := decide_eq_false c1
          have tj1 : decide ((t2 : Int) < (t1 : Int)) = false := decide_eq_false (by omega)
          have em3 := em2.out.trans (if_neg (fun h => c1 h.1))
          replace em3 := Lib.hid em3
          refine wp_region_keepq (by kernel_rfl) (by kernel_rfl) ?_
          repeat (go_big_quiet_step ((first | (go_at_call 47; with_reducible exact Calls.keepq (T1.out _ (KW.k _))) | (go_at_call 47; with_reducible exact Calls.keepq (T2.out _ (KW.k _))) | (go_at_call 42; with_reducible exact Calls.keepq (U.out _ (KW.k _))))))
          refine wpQuiet_nil ?_
          rintro WQ ⟨⟨_, KF⟩, rfl⟩
          try dsimp only
          replace KF := Lib.hid KF
          have hzF := (KF.out.frozen (p := ⟨g, k * 2 + 1, none⟩) (Nat.lt_of_lt_of_le hgw.out Ke.out.size) (fun x => x)).trans hz11.out
          have hcF := KF.out.some z3 (fun x => x)
          go_wp2_with fail
          go_ret
          have DF := D11.out.next KF.out
          have pt := DF.put hk.out (own_next own4.out KF.out) fi2.out
          refine ⟨by rw [em3.out]; rfl, _, pt.1, ?_, fun h => absurd em3.out h, fun _ => ⟨k, s, _, q.out, hk.out, rfl⟩⟩
          exact ((Ke.out.then KF.out).nob).trans pt.2 (fun y _ ey => by have ey : y = g := ey; rw [ey]; rfl)
      have ce' : ¬ P = cap2 := fun q => ce q.symm
      go_wp2_with (at_builtin; refine wpList_append_cut rfl (.tmp 62) (.tmp 68) 75 rfl w8.heap.size 106 i0 (.agg #[.int .i64 0, .bool false, .bool false, .bool false, .int .i64 0]) 5 24 Tryd.underlying75 hi.out hz0.out hz1.out hz2.out rfl (by decide) _ (P + 1) _ rfl own2.out (some ⟨g2, P * 5, none⟩) (s.l.length - P) _ (mapsV (s.l.drop P)) rfl (fun h => by cases h) ?c1 ?c2 (mapsV_one _) ?c3 ?c4 ?c5 ?_)
      case c1 => rw [mapsV_len, List.length_drop]
      case c2 =>
        intro ad h j u hu
        have hlt := (List.getElem?_eq_some_iff.1 hu).1
        rw [mapsV_len, List.length_drop] at hlt
        skip
        injection h with h
        subst h
        rw [Addr.add_mid]
        exact K10.out.some (src.out _ _ (maps_drop PL hu)) (fun x => x)
      case c3 => unfold maxLen; omega
      case c4 => omega
      case c5 => omega
      intro v11 w11 own3 gr3
      have K11 := new_row K10.out own2.out gr3
      have own4 : w11.ownsRow base 106 5 v11 (insL s.l page ⟨p, x, cc, fr⟩).length (mapsV (insL s.l page ⟨p, x, cc, fr⟩)) := by
        rw [insL_len, mapsV_ins hP.out pg0]
        have e1 : s.l.length + 1 = P + 1 + (s.l.length - P) := by omega
        rw [e1]
        have := own_base own3 D8.out.hb
        simpa using this
      obtain ⟨a11, c11, rfl⟩ := row_form own4
      have Ke := Kc.out.then K11
      have D11 := D.out.next Ke
      have ll := hr'.out hf.out
      have fi2 : spcFine ⟨s.r, .slice a11 (insL s.l page ⟨p, x, cc, fr⟩).length c11, insL s.l page ⟨p, x, cc, fr⟩⟩ := ⟨by show (insL _ _ _).length ≤ _; rw [insL_len]; omega, insL_fine fi.out.2 pg1⟩
      have M1 : MapsIs w11 (.slice a11 (insL s.l page ⟨p, x, cc, fr⟩).length c11) (insL s.l page ⟨p, x, cc, fr⟩) := own_rows mapCells_len own4 (by rw [insL_len]; omega)
      have ub := usedR_le sl D.out.fine
      have tb1 := tabR_le s.l
      have tb2 := tabR_le (insL s.l page ⟨p, x, cc, fr⟩)
      rw [insL_len] at tb2
      have T1 := fun W' (k : Keep nob w11 W') => tab_ok (M1.next k) fi2.1 fi2.2
      have T2 := fun W' (k : Keep nob w11 W') => tab_ok ((D11.is.maps _ sm.out).next k) fi.out.1 fi.out.2
      have U := fun W' (k : Keep nob w11 W') => used_ok (D11.is.next k) n many
      rw [hv.out] at T2
      unfold wAgg at U
      obtain ⟨t1, ht1⟩ : ∃ t, tabR (insL s.l page ⟨p, x, cc, fr⟩) = t := ⟨_, rfl⟩
      obtain ⟨t2, ht2⟩ : ∃ t, tabR s.l = t := ⟨_, rfl⟩
      obtain ⟨us, hus⟩ : ∃ t, usedR sl = t := ⟨_, rfl⟩
      rw [ht1] at T1 tb2
      rw [ht2] at T2 tb1
      rw [hus] at U ub
      have em2 := em'.out
      rw [ht1, ht2, hus] at em2
      have z0 := D11.c0
      have z1 := D11.c1
      have z2 := D11.c2
      have z3 := K11.some hc8.out (fun x => x)
      have Kd3 : Keep nob w11 w11.drew := (Keep.refl nob w11).drew
      have ed3 : ∀ p, w11.drew.cell? p = w11.cell? p := fun p => rfl
      have bt1 : t1 ≤ 2000 := by omega
      have bt2 : t2 ≤ 2000 := by omega
      have bus : us ≤ 1025000 := by omega
      replace own3 := Lib.hid own3
      replace gr3 := Lib.hid gr3
      replace K11 := Lib.hid K11
      replace own4 := Lib.hid own4
      replace Ke := Lib.hid Ke
      replace D11 := Lib.hid D11
      replace M1 := Lib.hid M1
      replace T1 := Lib.hid T1
      replace T2 := Lib.hid T2
      replace U := Lib.hid U
      replace ht1 := Lib.hid ht1
      replace ht2 := Lib.hid ht2
      replace hus := Lib.hid hus
      replace em2 := Lib.hid em2
      replace Kd3 := Lib.hid Kd3
      replace ed3 := Lib.hid ed3
      replace fi2 := Lib.hid fi2
      replace ub := Lib.hid ub
      replace tb1 := Lib.hid tb1
      replace tb2 := Lib.hid tb2
      replace ll := Lib.hid ll
      clear hc10
      go_wp2_with fail
      have Z0 := KW.cell z0
      have Z1 := KW.cell z1
      have Z2 := KW.cell z2
      have Z3 := KW.cell z3
      have hz11 := Lib.hid ((Ke.out.frozen (p := ⟨g, k * 2 + 1, none⟩) hgw.out (fun x => x)).trans hz.out)
      by_cases c1 : t2 < t1
      · have tt1 : decide (t2 < t1) = true := decide_eq_true c1
        have tj1 : decide ((t2 : Int) < (t1 : Int)) = true := decide_eq_true (by omega)
        by_cases c2 : many ≤ us
        · have tt2 : decide (many ≤ us) = true := decide_eq_true c2
          have tj2 : decide ((many : Int) ≤ (us : Int)) = true := decide_eq_true (by omega)
          have em3 := em2.out.trans (if_pos ⟨c1, c2⟩)
          replace em3 := Lib.hid em3
          refine wp_region_keepq (by kernel_rfl) (by kernel_rfl) ?_
          repeat (go_big_quiet_step ((first | (go_at_call 47; with_reducible exact Calls.keepq (T1.out _ (KW.k _))) | (go_at_call 47; with_reducible exact Calls.keepq (T2.out _ (KW.k _))) | (go_at_call 42; with_reducible exact Calls.keepq (U.out _ (KW.k _))))))
          refine wpQuiet_nil ?_
          rintro WQ ⟨⟨_, KF⟩, rfl⟩
          try dsimp only
          replace KF := Lib.hid KF
          go_wp2_with fail
          go_ret
          refine ⟨by rw [em3.out]; rfl, sl, D11.out.next KF.out, (Ke.out.then KF.out).nob, fun _ => rfl, fun h => ?_⟩
          rw [em3.out] at h
          cases h
        · have tt2 : decide (many ≤ us) = false := decide_eq_false c2
          have tj2 : decide ((many : Int) ≤ (us : Int)) = false := decide_eq_false (by omega)
          have em3 := em2.out.trans (if_neg (fun h => c2 h.2))
          replace em3 := Lib.hid em3
          refine wp_region_keepq (by kernel_rfl) (by kernel_rfl) ?_
          repeat (go_big_quiet_step ((first | (go_at_call 47; with_reducible exact Calls.keepq (T1.out _ (KW.k _))) | (go_at_call 47; with_reducible exact Calls.keepq (T2.out _ (KW.k _))) | (go_at_call 42; with_reducible exact Calls.keepq (U.out _ (KW.k _))))))
          refine wpQuiet_nil ?_
          rintro WQ ⟨⟨_, KF⟩, rfl⟩
          try dsimp only
          replace KF := Lib.hid KF
          have hzF := (KF.out.frozen (p := ⟨g, k * 2 + 1, none⟩) (Nat.lt_of_lt_of_le hgw.out Ke.out.size) (fun x => x)).trans hz11.out
          have hcF := KF.out.some z3 (fun x => x)
          go_wp2_with fail
          go_ret
          have DF := D11.out.next KF.out
          have pt := DF.put hk.out (own_next own4.out KF.out) fi2.out
          refine ⟨by rw [em3.out]; rfl, _, pt.1, ?_, fun h => absurd em3.out h, fun _ => ⟨k, s, _, q.out, hk.out, rfl⟩⟩
          exact ((Ke.out.then KF.out).nob).trans pt.2 (fun y _ ey => by have ey : y = g := ey; rw [ey]; rfl)
      · have tt1 : decide (t2 < t1) = false := decide_eq_false c1
        have tj1 : decide ((t2 : Int) < (t1 : Int)) = false := decide_eq_false (by omega)
        have em3 := em2.out.trans (if_neg (fun h => c1 h.1))
        replace em3 := Lib.hid em3
        refine wp_region_keepq (by kernel_rfl) (by kernel_rfl) ?_
        repeat (go_big_quiet_step ((first | (go_at_call 47; with_reducible exact Calls.keepq (T1.out _ (KW.k _))) | (go_at_call 47; with_reducible exact Calls.keepq (T2.out _ (KW.k _))) | (go_at_call 42; with_reducible exact Calls.keepq (U.out _ (KW.k _))))))
        refine wpQuiet_nil ?_
        rintro WQ ⟨⟨_, KF⟩, rfl⟩
        try dsimp only
        replace KF := Lib.hid KF
        have hzF := (KF.out.frozen (p := ⟨g, k * 2 + 1, none⟩) (Nat.lt_of_lt_of_le hgw.out Ke.out.size) (fun x => x)).trans hz11.out
        have hcF := KF.out.some z3 (fun x => x)
        go_wp2_with fail
        go_ret
        have DF := D11.out.next KF.out
        have pt := DF.put hk.out (own_next own4.out KF.out) fi2.out
        refine ⟨by rw [em3.out]; rfl, _, pt.1, ?_, fun h => absurd em3.out h, fun _ => ⟨k, s, _, q.out, hk.out, rfl⟩⟩
        exact ((Ke.out.then KF.out).nob).trans pt.2 (fun y _ ey => by have ey : y = g := ey; rw [ey]; rfl)
end
end Go.Proofs.YtepmljcapobodaaDoor
end
section
namespace Go.Proofs.YtepmljcapobodaaDoor
open Go.RowKit
set_option linter.unusedVariables false
set_option maxRecDepth 100000
def delL (l : List (Nat × Ent)) (page : Int) : List (Nat × Ent) := l.take (plF l page) ++ l.drop (plF l page + 1)
def unmR (sl : List Spc) (root page : Int) : Int := if askR sl root page true = 0 then (match spcR sl root with | none => 0 | some s => if isF s.l page then 0 else 4) else askR sl root page true
def unmRX (sl : List Spc) (root page : Int) : Ent := if unmR sl root page = 0 then (match spcR sl root with | none => Ent.zero | some s => qryL s.l page) else Ent.zero
def UmPost (w : World) (base bw : Nat) (v : Value) (sl : List Spc) (n many : Nat) (root page : Int) (r : Ending) (w' : World) : Prop :=
  r = .returned (.tuple #[(unmRX sl root page).val, .int .i64 (unmR sl root page)]) ∧ ∃ sl', WdAt w' base bw v sl' n many ∧ Keep (rowOf v) w w' ∧ (unmR sl root page ≠ 0 → sl' = sl) ∧ (unmR sl root page = 0 → ∃ (i : Nat) (s : Spc) (u : Value), atR sl root = i ∧ sl[i]? = some s ∧ isF s.l page = true ∧ sl' = sl.set i ⟨s.r, u, delL s.l page⟩)
theorem delL_len {l : List (Nat × Ent)} {page : Int} (h : plF l page < l.length) : (delL l page).length = l.length - 1 := by
  unfold delL
  rw [List.length_append, List.length_take, List.length_drop]
  omega
theorem delL_fine {l : List (Nat × Ent)} {page : Int} (h : ∀ x ∈ l, x.1 < 1024) : ∀ x ∈ delL l page, x.1 < 1024 := by
  intro x hx
  unfold delL at hx
  rcases List.mem_append.1 hx with hx | hx
  · exact h x (List.mem_of_mem_take hx)
  · exact h x (List.mem_of_mem_drop hx)
section
variable {w : World} {base bw : Nat} {v : Value} {sl : List Spc} {n many : Nat}
set_option maxHeartbeats 3200000 in
theorem runmap_no (D : WdAt w base bw v sl n many) (root page : Int) (ha : askR sl root page true ≠ 0) :
    Calls Tryd.prog 80 #[.pointer (some ⟨bw, 0, none⟩), .int .i64 root, .int .i64 page] w (UmPost w base bw v sl n many root page) := by
  have em : unmR sl root page = askR sl root page true := if_neg ha
  have ex : unmRX sl root page = Ent.zero := if_neg (by rw [em]; exact ha)
  obtain ⟨a0, hq⟩ : ∃ a0, askR sl root page true = a0 := ⟨_, rfl⟩
  rw [hq] at ha em
  have K1 : Keep nob w (w.alloc (.cells #[.bool false, .bool false, .bool false, .int .i64 0] 69)) := (Keep.refl _ _).alloc _
  have E0 := EntAt.new w false false false 0 69
  obtain ⟨W, hW⟩ : ∃ W, W = w.alloc (.cells #[.bool false, .bool false, .bool false, .int .i64 0] 69) := ⟨_, rfl⟩
  rw [← hW] at K1 E0
  have DW := D.next K1
  have RA := rasked_ok DW.is n many root page true
  rw [hq] at RA
  unfold wAgg at RA
  have b0 := fun o => ((Keep.refl nob w).alloc o).some D.c0 (fun x => x)
  have b1 := fun o => ((Keep.refl nob w).alloc o).some D.c1 (fun x => x)
  have b2 := fun o => ((Keep.refl nob w).alloc o).some D.c2 (fun x => x)
  have t1 : (a0 != 0) = true := by simpa using ha
  replace hW := Lib.hid hW
  replace K1 := Lib.hid K1
  replace E0 := Lib.hid E0
  replace DW := Lib.hid DW
  replace RA := Lib.hid RA
  replace hq := Lib.hid hq
  replace em := Lib.hid em
  replace ex := Lib.hid ex
  replace D := Lib.hid D
  replace ha := Lib.hid ha
  go_enter Tryd.func80, Tryd.ntmps80
  go_wp2_with fail
  rw [← hW.out]
  refine Calls.mono RA.out ?_
  rintro r w1 ⟨rfl, K2⟩
  have E1 := E0.out.next K2
  obtain ⟨d0, d1, d2, d3, z0, z1, z2, z3⟩ := id E1
  have F := fun p' q' c' f' => E1.put (p' := p') (q' := q') (c' := c') (f' := f')
  replace K2 := Lib.hid K2
  replace F := Lib.hid F
  replace E1 := Lib.hid E1
  go_wp2_with fail
  refine bodyPost_ret (results_ent rfl _ _ w.heap.size (F.out false false false 0) rfl (.int .i64 a0) rfl) rfl ?_
  have KF : Keep nob w ((((w1.setCell ⟨w.heap.size, 0, none⟩ (.bool false)).setCell ⟨w.heap.size, 1, none⟩ (.bool false)).setCell ⟨w.heap.size, 2, none⟩ (.bool false)).setCell ⟨w.heap.size, 3, none⟩ (.int .i64 0)) := by
    repeat (refine Keep.setCell ?_ _ (Or.inl (Nat.le_refl _)))
    exact K1.out.then K2.out
  refine ⟨by rw [em.out, ex.out]; rfl, sl, D.out.next KF, KF.nob, fun _ => rfl, fun h => ?_⟩
  rw [em.out] at h
  exact absurd h ha.out
theorem new_row2 {a b c : World} {base : Nat} {e : TypeId} {size n : Nat} {v : Value} {xs : List Value} (k : Keep nob a b) (h : b.ownsRow base e size v n xs) (hb : a.heap.size ≤ base) (g : b.grownBy c v.ownBlock) : Keep nob a c :=
  k.own_into (keep_of_own h g) hb
theorem WdAt.keep3 {w' : World} {b : Nat} (h : WdAt w base bw v sl n many) (k : Keep (only b) w w') (hbw : bw ≠ b) (hrow : ∀ g, v.ownBlock = some g → g ≠ b) (hmaps : ∀ s ∈ sl, ∀ g, s.v.ownBlock = some g → g ≠ b) : WdAt w' base bw v sl n many :=
  ⟨k.some h.c0 hbw, k.some h.c1 hbw, k.some h.c2 hbw, (k.frozen (World.block_lt_of_cell? _ _ h.c0) hbw).trans h.z0, h.lt, own_keep2 h.row k hrow, fun s hs => own_keep2 (h.maps s hs) k (hmaps s hs), h.len, h.fine, Nat.le_trans h.hb k.size⟩
set_option maxHeartbeats 0 in
theorem runmap_yes (D : WdAt w base bw v sl n many) (root page : Int) (ha : askR sl root page true = 0) :
    Calls Tryd.prog 80 #[.pointer (some ⟨bw, 0, none⟩), .int .i64 root, .int .i64 page] w (UmPost w base bw v sl n many root page) := by
  have em : unmR sl root page = (match spcR sl root with | none => 0 | some s => if isF s.l page then 0 else 4) := if_pos ha
  have hat : ¬ atR sl root < 0 := by
    have ha := ha
    unfold askR at ha
    split at ha
    · rename_i h
      split at ha
      · cases ha
      · rename_i h2; exact h2
    · cases ha
  rcases atR_cases sl root with ⟨q, -⟩ | ⟨k, s, q, hk, -⟩
  · rw [q] at hat; exact absurd (by decide) hat
  rw [spcR_some q hk] at em
  dsimp only at em
  obtain ⟨g, cap, rfl, hg, hgw, hc, hz⟩ := D.spc hk
  have sm := List.mem_of_getElem? hk
  have fi := D.fine _ sm
  have kl : k < sl.length := (List.getElem?_eq_some_iff.1 hk).1
  have hl := D.len
  have K1 : Keep nob w (w.alloc (.cells #[.bool false, .bool false, .bool false, .int .i64 0] 69)) := (Keep.refl _ _).alloc _
  have E0 := EntAt.new w false false false 0 69
  obtain ⟨W, hW⟩ : ∃ W, W = w.alloc (.cells #[.bool false, .bool false, .bool false, .int .i64 0] 69) := ⟨_, rfl⟩
  rw [← hW] at K1 E0
  have DW := D.next K1
  have RA := rasked_ok DW.is n many root page true
  rw [ha] at RA
  unfold wAgg at RA
  have b0 := fun o => ((Keep.refl nob w).alloc o).some D.c0 (fun x => x)
  have b1 := fun o => ((Keep.refl nob w).alloc o).some D.c1 (fun x => x)
  have b2 := fun o => ((Keep.refl nob w).alloc o).some D.c2 (fun x => x)
  have kz : (0 : Int) ≤ k := by omega
  have kb : (k : Int) < sl.length := by omega
  have ex0 : unmRX sl root page = if unmR sl root page = 0 then qryL s.l page else Ent.zero := by unfold unmRX; rw [spcR_some q hk]
  replace hW := Lib.hid hW
  replace K1 := Lib.hid K1
  replace E0 := Lib.hid E0
  replace DW := Lib.hid DW
  replace RA := Lib.hid RA
  replace em := Lib.hid em
  replace D := Lib.hid D
  replace ha := Lib.hid ha
  replace hk := Lib.hid hk
  replace sm := Lib.hid sm
  replace fi := Lib.hid fi
  replace hgw := Lib.hid hgw
  replace q := Lib.hid q
  replace hc := Lib.hid hc
  replace hz := Lib.hid hz
  replace hg := Lib.hid hg
  replace ex0 := Lib.hid ex0
  go_enter Tryd.func80, Tryd.ntmps80
  go_wp2_with fail
  rw [← hW.out]
  refine Calls.mono RA.out ?_
  rintro r w1 ⟨rfl, K2⟩
  clear b0 b1 b2
  have D1 := DW.out.next K2
  have Ka := K1.out.then K2
  have Z0 := KW.cell D1.c0
  have Z1 := KW.cell D1.c1
  have Z2 := KW.cell D1.c2
  have CA := fun W' (k : Keep nob w1 W') => rat_ok (D1.is.next k) n many root
  rw [q.out] at CA
  unfold wAgg at CA
  replace K2 := Lib.hid K2
  replace D1 := Lib.hid D1
  replace Ka := Lib.hid Ka
  replace CA := Lib.hid CA
  clear RA
  go_wp2_with fail
  refine wp_region_keepq (by kernel_rfl) (by kernel_rfl) ?_
  repeat (go_big_quiet_step ((first | (go_at_call 78; with_reducible exact Calls.keepq (CA.out _ (KW.k _))))))
  refine wpQuiet_nil ?_
  rintro w2 ⟨⟨_, K3⟩, rfl⟩
  try dsimp only
  have Kb := Ka.out.then K3
  have hc2 := Kb.some hc.out (fun x => x)
  have CP := place_ok ((D.out.is.maps _ sm.out).next Kb) fi.out.1 fi.out.2 page
  clear Z0 Z1 Z2
  replace K3 := Lib.hid K3
  replace Kb := Lib.hid Kb
  clear CA
  cases hf : isF s.l page with
  | false =>
    have em' := em.out
    rw [hf, if_neg (by decide)] at em'
    have ex : unmRX sl root page = Ent.zero := by rw [ex0.out, if_neg (by rw [em']; decide)]
    rw [hf] at CP
    replace CP := Lib.hid CP
    replace hf := Lib.hid hf
    replace em' := Lib.hid em'
    replace ex := Lib.hid ex
    go_wp2_with fail
    refine Calls.mono CP.out ?_
    rintro r w3 ⟨rfl, K4⟩
    have E3 := E0.out.next ((K2.out.then K3.out).then K4)
    obtain ⟨d0, d1, d2, d3, z0, z1, z2, z3⟩ := id E3
    have F := fun p' q' c' f' => E3.put (p' := p') (q' := q') (c' := c') (f' := f')
    have Kc := Kb.out.then K4
    replace K4 := Lib.hid K4
    replace F := Lib.hid F
    replace E3 := Lib.hid E3
    replace Kc := Lib.hid Kc
    go_wp2_with fail
    refine bodyPost_ret (results_ent rfl _ _ w.heap.size (F.out false false false 0) rfl (.int .i64 4) rfl) rfl ?_
    have KF : Keep nob w ((((w3.setCell ⟨w.heap.size, 0, none⟩ (.bool false)).setCell ⟨w.heap.size, 1, none⟩ (.bool false)).setCell ⟨w.heap.size, 2, none⟩ (.bool false)).setCell ⟨w.heap.size, 3, none⟩ (.int .i64 0)) := by
      repeat (refine Keep.setCell ?_ _ (Or.inl (Nat.le_refl _)))
      exact Kc.out
    refine ⟨by rw [em'.out, ex.out]; rfl, sl, D.out.next KF, KF.nob, fun _ => rfl, fun h => ?_⟩
    rw [em'.out] at h
    cases h
  | true =>
    have em' := em.out
    rw [hf, if_pos rfl] at em'
    obtain ⟨⟨n0, ⟨ep, eq, ec, ef⟩⟩, hx, -⟩ := isF_true hf
    have ex : unmRX sl root page = ⟨ep, eq, ec, ef⟩ := by
      rw [ex0.out, if_pos em']
      unfold qryL
      rw [hf, if_pos rfl, hx]
    rw [hf] at CP
    have px : plF s.l page < s.l.length := (List.getElem?_eq_some_iff.1 hx).1
    have dl := delL_len px
    obtain ⟨P, hP⟩ : ∃ P, plF s.l page = P := ⟨_, rfl⟩
    rw [hP] at CP hx px
    have hmap := D.out.is.maps _ sm.out
    obtain ⟨g2, cap2, hv, hg2, -, hcap, src0⟩ := own_cells (D.out.maps _ sm.out) (by omega)
    replace CP := Lib.hid CP
    replace hf := Lib.hid hf
    replace em' := Lib.hid em'
    replace ex := Lib.hid ex
    replace hP := Lib.hid hP
    replace hmap := Lib.hid hmap
    replace hv := Lib.hid hv
    replace src0 := Lib.hid src0
    replace hx := Lib.hid hx
    replace hg2 := Lib.hid hg2
    go_wp2_with fail
    refine Calls.mono CP.out ?_
    rintro r w3 ⟨rfl, K4⟩
    have Kc := Kb.out.then K4
    have src : ∀ j u, (mapsV s.l)[j]? = some u → w3.cell? ⟨g2, j, none⟩ = some u := fun j u hj => Kc.some (src0.out j u hj).1 (fun x => x)
    have x0 : w3.cell? ⟨g2, P * 5 + 1, none⟩ = some (.bool ep) := src _ _ (flat_get mapCells_len s.l P _ 1 _ hx.out rfl)
    have x1 : w3.cell? ⟨g2, P * 5 + 2, none⟩ = some (.bool eq) := src _ _ (flat_get mapCells_len s.l P _ 2 _ hx.out rfl)
    have x2 : w3.cell? ⟨g2, P * 5 + 3, none⟩ = some (.bool ec) := src _ _ (flat_get mapCells_len s.l P _ 3 _ hx.out rfl)
    have x3 : w3.cell? ⟨g2, P * 5 + 4, none⟩ = some (.int .i64 ef) := src _ _ (flat_get mapCells_len s.l P _ 4 _ hx.out rfl)
    have hc3 := K4.some hc2 (fun x => x)
    rw [hv.out] at hc3
    have hcAA := fun o o' => (((Keep.refl nob w3).alloc o).alloc o').some hc3 (fun x => x)
    have E3 := E0.out.next ((K2.out.then K3.out).then K4)
    obtain ⟨i0, hi, hz0, hz1, hz2⟩ := info_parts infoMap
    have Kx : Keep nob w3 (w3.alloc (.cells #[.bool ep, .bool eq, .bool ec, .int .i64 ef] 69)) := (Keep.refl _ _).alloc _
    have Y0 := EntAt.new w3 ep eq ec ef 69
    have own0 : ((w3.alloc (.cells #[.bool ep, .bool eq, .bool ec, .int .i64 ef] 69)).alloc (.cells #[] 106)).ownsRow (w3.heap.size + 1) 106 5 (.slice (some ⟨w3.heap.size + 1, 0, none⟩) 0 0) 0 [] := by
      have := World.ownsRow_lit (base := w3.heap.size + 1) (e := 106) (size := 5) (w3.alloc (.cells #[.bool ep, .bool eq, .bool ec, .int .i64 ef] 69)) #[] 0 (by rw [World.size_alloc]; omega) (by decide) rfl
      rwa [World.size_alloc] at this
    have sb0 : (0 : Int) ≤ P := by omega
    have sb1 : (P : Int) ≤ cap2 := by omega
    have sb2 : (P : Int) < s.l.length := by omega
    have sb3 : (P : Int) + 1 ≤ s.l.length := by omega
    have sb4 : (P : Int) + 1 ≤ cap2 := by omega
    have fl := fi.out.1
    have sz3 := Kc.size
    replace K4 := Lib.hid K4
    replace Kc := Lib.hid Kc
    replace src := Lib.hid src
    replace E3 := Lib.hid E3
    replace hi := Lib.hid hi
    replace hz0 := Lib.hid hz0
    replace hz1 := Lib.hid hz1
    replace hz2 := Lib.hid hz2
    replace Kx := Lib.hid Kx
    replace own0 := Lib.hid own0
    replace Y0 := Lib.hid Y0
    replace sz3 := Lib.hid sz3
    clear hc2
    go_wp2_with (at_builtin; refine wpList_append_cut rfl (.tmp 54) (.tmp 60) 75 rfl (w3.heap.size + 1) 106 i0 (.agg #[.int .i64 0, .bool false, .bool false, .bool false, .int .i64 0]) 5 24 Tryd.underlying75 hi.out hz0.out hz1.out hz2.out rfl (by decide) _ 0 [] rfl own0.out (some ⟨g2, 0, none⟩) P cap2 (mapsV (s.l.take P)) rfl (fun h => by cases h) ?c1 ?c2 (mapsV_one _) ?c3 ?c4 ?c5 ?_)
    case c1 => rw [mapsV_len, List.length_take, Nat.min_eq_left (by omega)]
    case c2 => intro ad h; injection h with h; subst h; intro j u hu; rw [Addr.add_mid, Nat.zero_add]; exact (Kx.out.alloc _).some (src.out _ _ (maps_take hu)) (fun x => x)
    case c3 => unfold maxLen; omega
    case c4 => omega
    case c5 => rw [World.size_alloc, World.size_alloc]; omega
    intro v5 w5 own1 gr1
    have own1 : w5.ownsRow (w3.heap.size + 1) 106 5 v5 P (mapsV (s.l.take P)) := by simpa using own1
    have K5 := new_row2 (a := w3.alloc (.cells #[.bool ep, .bool eq, .bool ec, .int .i64 ef] 69)) ((Keep.refl _ _).alloc _) own0.out (by rw [World.size_alloc]; omega) gr1
    have hc5 := K5.some (Kx.out.some hc3 (fun x => x)) (fun x => x)
    have sz5 := K5.size
    rw [World.size_alloc] at sz5
    replace own1 := Lib.hid own1
    replace gr1 := Lib.hid gr1
    replace K5 := Lib.hid K5
    clear hcAA hc3 x0 x1 x2 x3
    by_cases ce : cap2 = P + 1
    · have ce' : ¬ (P + 1 < s.l.length) := by omega
      have e0 : s.l.length - (P + 1) = 0 := by omega
      subst ce
      go_wp2_with (at_builtin; refine wpList_append_cut rfl (.tmp 63) (.tmp 70) 75 rfl (w3.heap.size + 1) 106 i0 (.agg #[.int .i64 0, .bool false, .bool false, .bool false, .int .i64 0]) 5 24 Tryd.underlying75 hi.out hz0.out hz1.out hz2.out rfl (by decide) _ P _ rfl own1.out _ 0 _ [] rfl ?cn rfl ?c2 (by simp) ?c3 ?c4 ?c5 ?_)
      case c2 => intro ad h j u hu; simp at hu
      case c3 => unfold maxLen; omega
      case c4 => omega
      case c5 => omega
      intro v6 w6 own2 gr2
      have own2 : w6.ownsRow (w3.heap.size + 1) 106 5 v6 P (mapsV (s.l.take P)) := by simpa using own2
      obtain ⟨a6, c6, rfl⟩ := row_form own2
      have K6 := new_row2 K5.out own1.out (by rw [World.size_alloc]; omega) gr2
      have K6w := Kc.out.then (Kx.out.then K6)
      have D6 := D.out.next K6w
      have own3 : w6.ownsRow base 106 5 (.slice a6 (delL s.l page).length c6) (delL s.l page).length (mapsV (delL s.l page)) := by
        have e1 : (delL s.l page).length = P := by rw [dl]; omega
        have e2 : mapsV (delL s.l page) = mapsV (s.l.take P) := by unfold delL; rw [hP.out, mapsV_app]; rw [List.drop_of_length_le (by omega)]; simp [mapsV]
        rw [e1, e2]
        exact own_base own2 (by have := D.out.hb; have := sz3.out; omega)
      have E6 := Y0.out.next K6
      have E7 := E3.out.next (Kx.out.then K6)
      have hc6 := K6w.some hc.out (fun x => x)
      have hz6 := (K6w.frozen (p := ⟨g, k * 2 + 1, none⟩) hgw.out (fun x => x)).trans hz.out
      have lt6 := K6w.size
      have Ks : Keep (only g) w6 (w6.setCell ⟨g, k * 2 + 1, none⟩ (.slice a6 (P) c6)) := (Keep.refl _ _).store _ _
      have g1 : ¬ only g w3.heap.size := fun e => by have e : w3.heap.size = g := e; have := hgw.out; have := sz3.out; omega
      have g2' : ¬ only g w.heap.size := fun e => by have e : w.heap.size = g := e; have := hgw.out; omega
      have E8 := E6.keep Ks g1
      have E9 := E7.keep Ks g2'
      obtain ⟨y0, y1, y2, y3, -, -, -, -⟩ := id E8
      obtain ⟨d0, d1, d2, d3, z0, z1, z2, z3⟩ := id E9
      have F := fun p' q' c' f' => E9.put (p' := p') (q' := q') (c' := c') (f' := f')
      replace own2 := Lib.hid own2
      replace gr2 := Lib.hid gr2
      replace K6 := Lib.hid K6
      replace K6w := Lib.hid K6w
      replace D6 := Lib.hid D6
      replace own3 := Lib.hid own3
      replace E6 := Lib.hid E6
      replace E7 := Lib.hid E7
      replace Ks := Lib.hid Ks
      replace E8 := Lib.hid E8
      replace E9 := Lib.hid E9
      replace F := Lib.hid F
      replace lt6 := Lib.hid lt6
      go_wp2_with fail
      refine bodyPost_ret (results_ent rfl _ _ w.heap.size (F.out ep eq ec ef) rfl (.int .i64 0) rfl) rfl ?_
      have fi2 : spcFine ⟨s.r, .slice a6 (delL s.l page).length c6, delL s.l page⟩ := ⟨by show (delL _ _).length ≤ _; rw [dl]; omega, delL_fine fi.out.2⟩
      have pt := D6.out.put hk.out own3.out fi2
      have e1 : (delL s.l page).length = P := by rw [dl]; omega
      rw [e1] at pt
      have KE : Keep (only w.heap.size) (w6.setCell ⟨g, k * 2 + 1, none⟩ (.slice a6 (P) c6)) (((((w6.setCell ⟨g, k * 2 + 1, none⟩ (.slice a6 (P) c6)).setCell ⟨w.heap.size, 0, none⟩ (.bool ep)).setCell ⟨w.heap.size, 1, none⟩ (.bool eq)).setCell ⟨w.heap.size, 2, none⟩ (.bool ec)).setCell ⟨w.heap.size, 3, none⟩ (.int .i64 ef)) := ((((Keep.refl _ _).store _ _).store _ _).store _ _).store _ _
      have DE := pt.1.keep3 KE (by have := D.out.lt; have := D.out.hb; omega) (fun g' e e2 => by have e : some g = some g' := e; injection e with e; have := hgw.out; omega) (fun t ht g' e e2 => by
        rcases List.mem_or_eq_of_mem_set ht with ht | rfl
        · obtain ⟨-, q1, -⟩ := own_tag (D.out.maps t ht) e
          omega
        · obtain ⟨q1, -, -⟩ := own_tag own2.out e
          have := sz3.out
          omega)
      refine ⟨by rw [em'.out, ex.out]; rfl, _, DE, ?_, fun h => absurd em'.out h, fun _ => ⟨k, s, _, q.out, hk.out, hf.out, rfl⟩⟩
      exact ((K6w.out.nob).trans pt.2 (fun y _ ey => by have ey : y = g := ey; rw [ey]; rfl)).trans KE (fun y hy ey => by have ey : y = w.heap.size := ey; omega)
    · have ce' : ¬ P + 1 = cap2 := fun q => ce q.symm
      go_wp2_with (at_builtin; refine wpList_append_cut rfl (.tmp 63) (.tmp 70) 75 rfl (w3.heap.size + 1) 106 i0 (.agg #[.int .i64 0, .bool false, .bool false, .bool false, .int .i64 0]) 5 24 Tryd.underlying75 hi.out hz0.out hz1.out hz2.out rfl (by decide) _ P _ rfl own1.out (some ⟨g2, (P + 1) * 5, none⟩) (s.l.length - (P + 1)) _ (mapsV (s.l.drop (P + 1))) rfl (fun h => by cases h) ?c1 ?c2 (mapsV_one _) ?c3 ?c4 ?c5 ?_)
      case c1 => rw [mapsV_len, List.length_drop]
      case c2 =>
        intro ad h j u hu
        injection h with h
        subst h
        rw [Addr.add_mid]
        exact K5.out.some (Kx.out.some (src.out _ _ (maps_drop (by omega) hu)) (fun x => x)) (fun x => x)
      case c3 => unfold maxLen; omega
      case c4 => omega
      case c5 => omega
      intro v6 w6 own2 gr2
      obtain ⟨a6, c6, rfl⟩ := row_form own2
      have K6 := new_row2 K5.out own1.out (by rw [World.size_alloc]; omega) gr2
      have K6w := Kc.out.then (Kx.out.then K6)
      have D6 := D.out.next K6w
      have own3 : w6.ownsRow base 106 5 (.slice a6 (delL s.l page).length c6) (delL s.l page).length (mapsV (delL s.l page)) := by
        have e1 : (delL s.l page).length = P + (s.l.length - (P + 1)) := by rw [dl]; omega
        have e2 : mapsV (delL s.l page) = mapsV (s.l.take P) ++ mapsV (s.l.drop (P + 1)) := by unfold delL; rw [hP.out, mapsV_app]
        rw [e1, e2]
        exact own_base own2 (by have := D.out.hb; have := sz3.out; omega)
      have E6 := Y0.out.next K6
      have E7 := E3.out.next (Kx.out.then K6)
      have hc6 := K6w.some hc.out (fun x => x)
      have hz6 := (K6w.frozen (p := ⟨g, k * 2 + 1, none⟩) hgw.out (fun x => x)).trans hz.out
      have lt6 := K6w.size
      have Ks : Keep (only g) w6 (w6.setCell ⟨g, k * 2 + 1, none⟩ (.slice a6 (P + (s.l.length - (P + 1))) c6)) := (Keep.refl _ _).store _ _
      have g1 : ¬ only g w3.heap.size := fun e => by have e : w3.heap.size = g := e; have := hgw.out; have := sz3.out; omega
      have g2' : ¬ only g w.heap.size := fun e => by have e : w.heap.size = g := e; have := hgw.out; omega
      have E8 := E6.keep Ks g1
      have E9 := E7.keep Ks g2'
      obtain ⟨y0, y1, y2, y3, -, -, -, -⟩ := id E8
      obtain ⟨d0, d1, d2, d3, z0, z1, z2, z3⟩ := id E9
      have F := fun p' q' c' f' => E9.put (p' := p') (q' := q') (c' := c') (f' := f')
      replace own2 := Lib.hid own2
      replace gr2 := Lib.hid gr2
      replace K6 := Lib.hid K6
      replace K6w := Lib.hid K6w
      replace D6 := Lib.hid D6
      replace own3 := Lib.hid own3
      replace E6 := Lib.hid E6
      replace E7 := Lib.hid E7
      replace Ks := Lib.hid Ks
      replace E8 := Lib.hid E8
      replace E9 := Lib.hid E9
      replace F := Lib.hid F
      replace lt6 := Lib.hid lt6
      go_wp2_with fail
      refine bodyPost_ret (results_ent rfl _ _ w.heap.size (F.out ep eq ec ef) rfl (.int .i64 0) rfl) rfl ?_
      have fi2 : spcFine ⟨s.r, .slice a6 (delL s.l page).length c6, delL s.l page⟩ := ⟨by show (delL _ _).length ≤ _; rw [dl]; omega, delL_fine fi.out.2⟩
      have pt := D6.out.put hk.out own3.out fi2
      have e1 : (delL s.l page).length = P + (s.l.length - (P + 1)) := by rw [dl]; omega
      rw [e1] at pt
      have KE : Keep (only w.heap.size) (w6.setCell ⟨g, k * 2 + 1, none⟩ (.slice a6 (P + (s.l.length - (P + 1))) c6)) (((((w6.setCell ⟨g, k * 2 + 1, none⟩ (.slice a6 (P + (s.l.length - (P + 1))) c6)).setCell ⟨w.heap.size, 0, none⟩ (.bool ep)).setCell ⟨w.heap.size, 1, none⟩ (.bool eq)).setCell ⟨w.heap.size, 2, none⟩ (.bool ec)).setCell ⟨w.heap.size, 3, none⟩ (.int .i64 ef)) := ((((Keep.refl _ _).store _ _).store _ _).store _ _).store _ _
      have DE := pt.1.keep3 KE (by have := D.out.lt; have := D.out.hb; omega) (fun g' e e2 => by have e : some g = some g' := e; injection e with e; have := hgw.out; omega) (fun t ht g' e e2 => by
        rcases List.mem_or_eq_of_mem_set ht with ht | rfl
        · obtain ⟨-, q1, -⟩ := own_tag (D.out.maps t ht) e
          omega
        · obtain ⟨q1, -, -⟩ := own_tag own2.out e
          have := sz3.out
          omega)
      refine ⟨by rw [em'.out, ex.out]; rfl, _, DE, ?_, fun h => absurd em'.out h, fun _ => ⟨k, s, _, q.out, hk.out, hf.out, rfl⟩⟩
      exact ((K6w.out.nob).trans pt.2 (fun y _ ey => by have ey : y = g := ey; rw [ey]; rfl)).trans KE (fun y hy ey => by have ey : y = w.heap.size := ey; omega)
end
end Go.Proofs.YtepmljcapobodaaDoor
end
section
namespace Go.Proofs.YtepmljcapobodaaDoor
open Go.RowKit
set_option linter.unusedVariables false
set_option maxRecDepth 100000
def setL (l : List (Nat × Ent)) (page : Int) (e : Ent) : List (Nat × Ent) := l.set (plF l page) (page.toNat, e)
def setR (n : Nat) (sl : List Spc) (root page : Int) (e : Ent) : Int := if askR sl root page (fitB n e) = 0 then (match spcR sl root with | none => 0 | some s => if isF s.l page then 0 else 4) else askR sl root page (fitB n e)
def SePost (w : World) (base bw : Nat) (v : Value) (sl : List Spc) (n many : Nat) (root page : Int) (e : Ent) (r : Ending) (w' : World) : Prop :=
  r = .returned (.int .i64 (setR n sl root page e)) ∧ ∃ sl', WdAt w' base bw v sl' n many ∧ Keep (rowOf v) w w' ∧ (setR n sl root page e ≠ 0 → sl' = sl) ∧ (setR n sl root page e = 0 → ∃ (i : Nat) (s : Spc) (u : Value), atR sl root = i ∧ sl[i]? = some s ∧ isF s.l page = true ∧ sl' = sl.set i ⟨s.r, u, setL s.l page e⟩)
theorem maps_set {l : List (Nat × Ent)} {P n0 : Nat} {e0 e : Ent} (h : l[P]? = some (n0, e0)) : mapsV (l.set P (n0, e)) = ((((mapsV l).set (P * 5 + 1) (.bool e.p)).set (P * 5 + 2) (.bool e.w)).set (P * 5 + 3) (.bool e.c)).set (P * 5 + 4) (.int .i64 e.f) := by
  induction l generalizing P with
  | nil => simp at h
  | cons a r ih =>
    cases P with
    | zero =>
      have : a = (n0, e0) := by simpa using h
      subst this
      rfl
    | succ P =>
      have h' : r[P]? = some (n0, e0) := by simpa using h
      show mapsV (a :: r.set P (n0, e)) = _
      have e1 : mapsV (a :: r.set P (n0, e)) = mapCells a ++ mapsV (r.set P (n0, e)) := by unfold mapsV; rw [List.flatMap_cons]
      have e2 : mapsV (a :: r) = mapCells a ++ mapsV r := by unfold mapsV; rw [List.flatMap_cons]
      rw [e1, e2, ih h']
      have sh : ∀ (xs : List Value) (j : Nat) (u : Value), (mapCells a ++ xs).set ((P + 1) * 5 + j) u = mapCells a ++ xs.set (P * 5 + j) u := by
        intro xs j u
        rw [List.set_append_right _ _ (by show 5 ≤ _; omega)]
        congr 2
        show (P + 1) * 5 + j - 5 = _
        omega
      rw [sh, sh, sh, sh]
theorem flat_same {sl : List Spc} {i : Nat} {s : Spc} (h : sl[i]? = some s) (l' : List (Nat × Ent)) : (sl.set i ⟨s.r, s.v, l'⟩).flatMap spcCells = sl.flatMap spcCells := by
  induction sl generalizing i with
  | nil => simp at h
  | cons a r ih =>
    cases i with
    | zero =>
      have : a = s := by simpa using h
      subst this
      rfl
    | succ i =>
      have h' : r[i]? = some s := by simpa using h
      rw [List.set_cons_succ, List.flatMap_cons, List.flatMap_cons, ih h']
section
variable {w : World} {base bw : Nat} {v : Value} {sl : List Spc} {n many : Nat}
theorem WdAt.rewrite {w' : World} {b i : Nat} {s : Spc} {l' : List (Nat × Ent)} (h : WdAt w base bw v sl n many) (k : Keep (only b) w w') (hbw : bw ≠ b) (hrow : ∀ g, v.ownBlock = some g → g ≠ b) (hi : sl[i]? = some s) (hu : w'.ownsRow base 106 5 s.v l'.length (mapsV l')) (hf : spcFine ⟨s.r, s.v, l'⟩)
    (ho : ∀ j t, j ≠ i → sl[j]? = some t → ∀ g, t.v.ownBlock = some g → g ≠ b) : WdAt w' base bw v (sl.set i ⟨s.r, s.v, l'⟩) n many := by
  have mem : ∀ t ∈ sl.set i ⟨s.r, s.v, l'⟩, t = ⟨s.r, s.v, l'⟩ ∨ ∃ j, j ≠ i ∧ sl[j]? = some t := by
    intro t ht
    obtain ⟨j, hj⟩ := List.mem_iff_getElem?.1 ht
    by_cases e : j = i
    · subst e
      rw [List.getElem?_set_self (List.getElem?_eq_some_iff.1 hi).1] at hj
      injection hj with hj
      exact Or.inl hj.symm
    · rw [List.getElem?_set_ne (fun q => e q.symm)] at hj
      exact Or.inr ⟨j, e, hj⟩
  refine ⟨k.some h.c0 hbw, k.some h.c1 hbw, k.some h.c2 hbw, (k.frozen (World.block_lt_of_cell? _ _ h.c0) hbw).trans h.z0, h.lt, ?_, ?_, by rw [List.length_set]; exact h.len, ?_, Nat.le_trans h.hb k.size⟩
  · rw [flat_same hi, List.length_set]
    exact own_keep2 h.row k hrow
  · intro t ht
    rcases mem t ht with rfl | ⟨j, e, hj⟩
    · exact hu
    · exact own_keep2 (h.maps t (List.mem_of_getElem? hj)) k (ho j t e hj)
  · intro t ht
    rcases mem t ht with rfl | ⟨j, e, hj⟩
    · exact hf
    · exact h.fine t (List.mem_of_getElem? hj)
set_option maxHeartbeats 3200000 in
theorem rset_no (D : WdAt w base bw v sl n many) (root page : Int) (e : Ent) (ha : askR sl root page (fitB n e) ≠ 0) :
    Calls Tryd.prog 81 #[.pointer (some ⟨bw, 0, none⟩), .int .i64 root, .int .i64 page, e.val] w (SePost w base bw v sl n many root page e) := by
  have em : setR n sl root page e = askR sl root page (fitB n e) := if_neg ha
  obtain ⟨a0, hq⟩ : ∃ a0, askR sl root page (fitB n e) = a0 := ⟨_, rfl⟩
  rw [hq] at ha em
  obtain ⟨p, x, cc, fr⟩ := e
  have K1 : Keep nob w (w.alloc (.cells #[.bool p, .bool x, .bool cc, .int .i64 fr] 69)) := (Keep.refl _ _).alloc _
  have E0 := EntAt.new w p x cc fr 69
  obtain ⟨W, hW⟩ : ∃ W, W = w.alloc (.cells #[.bool p, .bool x, .bool cc, .int .i64 fr] 69) := ⟨_, rfl⟩
  rw [← hW] at K1 E0
  have DW := D.next K1
  have Kd : Keep nob W W.drew := (Keep.refl nob W).drew
  have ed : ∀ p, W.drew.cell? p = W.cell? p := fun p => rfl
  have F := rfits_ok (w := W.drew) v n many ⟨p, x, cc, fr⟩
  have RA := fun W' (k : Keep nob W W') => rasked_ok (DW.is.next k) n many root page (fitB n ⟨p, x, cc, fr⟩)
  rw [hq] at RA
  obtain ⟨fb, hfb⟩ : ∃ fb, fitB n ⟨p, x, cc, fr⟩ = fb := ⟨_, rfl⟩
  rw [hfb] at F RA
  unfold wAgg at F RA
  unfold Ent.val at F
  dsimp only at F
  unfold Ent.val
  dsimp only
  have b0 := DW.c0
  have b1 := DW.c1
  have b2 := DW.c2
  obtain ⟨e0, e1, e2, e3, -, -, -, -⟩ := id E0
  have t1 : (a0 != 0) = true := by simpa using ha
  replace hW := Lib.hid hW
  replace K1 := Lib.hid K1
  replace E0 := Lib.hid E0
  replace DW := Lib.hid DW
  replace Kd := Lib.hid Kd
  replace ed := Lib.hid ed
  replace F := Lib.hid F
  replace RA := Lib.hid RA
  replace hfb := Lib.hid hfb
  replace hq := Lib.hid hq
  replace em := Lib.hid em
  replace D := Lib.hid D
  replace ha := Lib.hid ha
  go_enter Tryd.func81, Tryd.ntmps81
  go_wp2_with fail
  rw [← hW.out]
  go_region_held3 (fun w' => w'.cell? ⟨bw, 0, none⟩ = some v ∧ w'.cell? ⟨bw, 1, none⟩ = some (.int .i64 n) ∧ w'.cell? ⟨bw, 2, none⟩ = some (.int .i64 many) ∧ w'.cell? ⟨w.heap.size, 0, none⟩ = some (.bool p) ∧ w'.cell? ⟨w.heap.size, 1, none⟩ = some (.bool x) ∧ w'.cell? ⟨w.heap.size, 2, none⟩ = some (.bool cc) ∧ w'.cell? ⟨w.heap.size, 3, none⟩ = some (.int .i64 fr)) (first | go_keep | exact ⟨y0, y1, y2, y3, y4, y5, y6⟩ | exact ⟨x0, x1, x2, x3, x4, x5, x6⟩) (first | (go_at_call 100; refine Calls.mono F.out ?_; rintro r w5 ⟨rfl, K5⟩; have y0 := K5.some ((ed.out _).trans b0) (fun x => x); have y1 := K5.some ((ed.out _).trans b1) (fun x => x); have y2 := K5.some ((ed.out _).trans b2) (fun x => x); have y3 := K5.some ((ed.out _).trans e0) (fun x => x); have y4 := K5.some ((ed.out _).trans e1) (fun x => x); have y5 := K5.some ((ed.out _).trans e2) (fun x => x); have y6 := K5.some ((ed.out _).trans e3) (fun x => x); replace K5 := Lib.hid K5) | (go_at_call 99; refine Calls.mono (RA.out _ (Kd.out.then K5.out)) ?_; rintro r w6 ⟨rfl, K6⟩; have x0 := K6.some y0 (fun x => x); have x1 := K6.some y1 (fun x => x); have x2 := K6.some y2 (fun x => x); have x3 := K6.some y3 (fun x => x); have x4 := K6.some y4 (fun x => x); have x5 := K6.some y5 (fun x => x); have x6 := K6.some y6 (fun x => x); replace K6 := Lib.hid K6))
  go_wp2_with fail
  go_ret
  have KF := (K1.out.then Kd.out).then (K5.out.then K6.out)
  refine ⟨by rw [em.out]; rfl, sl, D.out.next KF, KF.nob, fun _ => rfl, fun h => ?_⟩
  rw [em.out] at h
  exact absurd h ha.out
set_option maxHeartbeats 0 in
theorem rset_yes (D : WdAt w base bw v sl n many) (root page : Int) (e : Ent) (ha : askR sl root page (fitB n e) = 0) :
    Calls Tryd.prog 81 #[.pointer (some ⟨bw, 0, none⟩), .int .i64 root, .int .i64 page, e.val] w (SePost w base bw v sl n many root page e) := by
  have em : setR n sl root page e = (match spcR sl root with | none => 0 | some s => if isF s.l page then 0 else 4) := if_pos ha
  have hpg : 0 ≤ page ∧ page < 1024 ∧ fitB n e = true ∧ ¬ atR sl root < 0 := by
    have ha := ha
    unfold askR at ha
    split at ha
    · rename_i h
      split at ha
      · cases ha
      · rename_i h2; exact ⟨h.1, h.2.1, h.2.2, h2⟩
    · cases ha
  obtain ⟨pg0, pg1, hfit, hat⟩ := hpg
  rcases atR_cases sl root with ⟨q, -⟩ | ⟨k, s, q, hk, -⟩
  · rw [q] at hat; exact absurd (by decide) hat
  rw [spcR_some q hk] at em
  dsimp only at em
  obtain ⟨g, cap, rfl, hg, hgw, hc, hz⟩ := D.spc hk
  have sm := List.mem_of_getElem? hk
  have fi := D.fine _ sm
  have kl : k < sl.length := (List.getElem?_eq_some_iff.1 hk).1
  have hl := D.len
  obtain ⟨p, x, cc, fr⟩ := e
  have K1 : Keep nob w (w.alloc (.cells #[.bool p, .bool x, .bool cc, .int .i64 fr] 69)) := (Keep.refl _ _).alloc _
  have E0 := EntAt.new w p x cc fr 69
  obtain ⟨W, hW⟩ : ∃ W, W = w.alloc (.cells #[.bool p, .bool x, .bool cc, .int .i64 fr] 69) := ⟨_, rfl⟩
  rw [← hW] at K1 E0
  have DW := D.next K1
  have F := fun W' (k : Keep nob W W') => rfits_ok (w := W') (.slice (some ⟨g, 0, none⟩) sl.length cap) n many ⟨p, x, cc, fr⟩
  have RA := fun W' (k : Keep nob W W') => rasked_ok (DW.is.next k) n many root page (fitB n ⟨p, x, cc, fr⟩)
  rw [ha, hfit] at RA
  rw [hfit] at F
  unfold wAgg at F RA
  unfold Ent.val at F
  dsimp only at F
  unfold Ent.val
  dsimp only
  have Z0 := KW.cell DW.c0
  have Z1 := KW.cell DW.c1
  have Z2 := KW.cell DW.c2
  have kz : (0 : Int) ≤ k := by omega
  have kb : (k : Int) < sl.length := by omega
  have Z3 := KW.cell E0.c0
  have Z4 := KW.cell E0.c1
  have Z5 := KW.cell E0.c2
  have Z6 := KW.cell E0.c3
  replace hW := Lib.hid hW
  replace K1 := Lib.hid K1
  replace E0 := Lib.hid E0
  replace DW := Lib.hid DW
  replace F := Lib.hid F
  replace RA := Lib.hid RA
  replace hfit := Lib.hid hfit
  replace em := Lib.hid em
  replace D := Lib.hid D
  replace ha := Lib.hid ha
  replace hk := Lib.hid hk
  replace sm := Lib.hid sm
  replace fi := Lib.hid fi
  replace hgw := Lib.hid hgw
  replace q := Lib.hid q
  replace hc := Lib.hid hc
  replace hz := Lib.hid hz
  replace hg := Lib.hid hg
  go_enter Tryd.func81, Tryd.ntmps81
  go_wp2_with fail
  rw [← hW.out]
  refine wp_region_keepq (by kernel_rfl) (by kernel_rfl) ?_
  repeat (go_big_quiet_step ((first | (go_at_call 100; with_reducible exact Calls.keepq (F.out _ (KW.k _))) | (go_at_call 99; with_reducible exact Calls.keepq (RA.out _ (KW.k _))))))
  refine wpQuiet_nil ?_
  rintro w1 ⟨⟨_, K2⟩, rfl⟩
  try dsimp only
  clear F RA Z0 Z1 Z2 Z3 Z4 Z5 Z6
  have D1 := DW.out.next K2
  have Ka := K1.out.then K2
  have Z0 := KW.cell D1.c0
  have Z1 := KW.cell D1.c1
  have Z2 := KW.cell D1.c2
  have CA := fun W' (k : Keep nob w1 W') => rat_ok (D1.is.next k) n many root
  rw [q.out] at CA
  unfold wAgg at CA
  replace K2 := Lib.hid K2
  replace D1 := Lib.hid D1
  replace Ka := Lib.hid Ka
  replace CA := Lib.hid CA
  go_wp2_with fail
  refine wp_region_keepq (by kernel_rfl) (by kernel_rfl) ?_
  repeat (go_big_quiet_step ((first | (go_at_call 78; with_reducible exact Calls.keepq (CA.out _ (KW.k _))))))
  refine wpQuiet_nil ?_
  rintro w2 ⟨⟨_, K3⟩, rfl⟩
  try dsimp only
  have Kb := Ka.out.then K3
  have hc2 := Kb.some hc.out (fun x => x)
  have CP := place_ok ((D.out.is.maps _ sm.out).next Kb) fi.out.1 fi.out.2 page
  clear Z0 Z1 Z2
  replace K3 := Lib.hid K3
  replace Kb := Lib.hid Kb
  clear CA
  cases hf : isF s.l page with
  | false =>
    have em' := em.out
    rw [hf, if_neg (by decide)] at em'
    rw [hf] at CP
    replace CP := Lib.hid CP
    replace hf := Lib.hid hf
    replace em' := Lib.hid em'
    go_wp2_with fail
    refine Calls.mono CP.out ?_
    rintro r w3 ⟨rfl, K4⟩
    have Kc := Kb.out.then K4
    replace K4 := Lib.hid K4
    replace Kc := Lib.hid Kc
    go_wp2_with fail
    go_ret
    refine ⟨by rw [em'.out]; rfl, sl, D.out.next Kc.out, Kc.out.nob, fun _ => rfl, fun h => ?_⟩
    rw [em'.out] at h
    cases h
  | true =>
    have em' := em.out
    rw [hf, if_pos rfl] at em'
    obtain ⟨⟨n0, e0⟩, hx, hn0⟩ := isF_true hf
    rw [hf] at CP
    have px : plF s.l page < s.l.length := (List.getElem?_eq_some_iff.1 hx).1
    have hset : setL s.l page ⟨p, x, cc, fr⟩ = s.l.set (plF s.l page) (n0, ⟨p, x, cc, fr⟩) := by
      unfold setL
      rw [show page.toNat = n0 by have : (n0 : Int) = page := hn0; omega]
    obtain ⟨P, hP⟩ : ∃ P, plF s.l page = P := ⟨_, rfl⟩
    rw [hP] at CP hx px hset
    have hmap := D.out.is.maps _ sm.out
    obtain ⟨g2, cap2, hv, hg2, -, hcap, src0⟩ := own_cells (D.out.maps _ sm.out) (by omega)
    replace CP := Lib.hid CP
    replace hf := Lib.hid hf
    replace em' := Lib.hid em'
    replace hP := Lib.hid hP
    replace hmap := Lib.hid hmap
    replace hv := Lib.hid hv
    replace src0 := Lib.hid src0
    replace hx := Lib.hid hx
    replace hg2 := Lib.hid hg2
    replace hset := Lib.hid hset
    replace hn0 := Lib.hid hn0
    go_wp2_with fail
    refine Calls.mono CP.out ?_
    rintro r w3 ⟨rfl, K4⟩
    have Kc := Kb.out.then K4
    have src : ∀ j u, (mapsV s.l)[j]? = some u → w3.cell? ⟨g2, j, none⟩ = some u := fun j u hj => Kc.some (src0.out j u hj).1 (fun x => x)
    have hc3 := K4.some hc2 (fun x => x)
    rw [hv.out] at hc3
    have hcA := fun o => ((Keep.refl nob w3).alloc o).some hc3 (fun x => x)
    have E3 := E0.out.next ((K2.out.then K3.out).then K4)
    obtain ⟨i0, hi, hz0, hz1, hz2⟩ := info_parts infoMap
    have K8a : Keep nob w3 (w3.alloc (.cells #[] 106)) := (Keep.refl _ _).alloc _
    have own0 : (w3.alloc (.cells #[] 106)).ownsRow w3.heap.size 106 5 (.slice (some ⟨w3.heap.size, 0, none⟩) 0 0) 0 [] := World.ownsRow_lit w3 #[] 0 (Nat.le_refl _) (by decide) rfl
    have sb0 : (0 : Int) ≤ P := by omega
    have sb2 : (P : Int) < s.l.length := by omega
    have fl := fi.out.1
    have sz3 := Kc.size
    replace K4 := Lib.hid K4
    replace Kc := Lib.hid Kc
    replace src := Lib.hid src
    replace E3 := Lib.hid E3
    replace hi := Lib.hid hi
    replace hz0 := Lib.hid hz0
    replace hz1 := Lib.hid hz1
    replace hz2 := Lib.hid hz2
    replace K8a := Lib.hid K8a
    replace own0 := Lib.hid own0
    replace sz3 := Lib.hid sz3
    clear hc2
    go_wp2_with (at_builtin; refine wpList_append_cut rfl (.tmp 49) (.tmp 53) 75 rfl w3.heap.size 106 i0 (.agg #[.int .i64 0, .bool false, .bool false, .bool false, .int .i64 0]) 5 24 Tryd.underlying75 hi.out hz0.out hz1.out hz2.out rfl (by decide) _ 0 [] rfl own0.out (some ⟨g2, 0, none⟩) s.l.length cap2 (mapsV s.l) rfl (fun h => by cases h) ?c1 ?c2 (mapsV_one _) ?c3 ?c4 ?c5 ?_)
    case c1 => rw [mapsV_len]
    case c2 => intro ad h; injection h with h; subst h; intro j u hu; rw [Addr.add_mid, Nat.zero_add]; exact K8a.out.some (src.out _ _ hu) (fun x => x)
    case c3 => unfold maxLen; omega
    case c4 => omega
    case c5 => rw [World.size_alloc]; omega
    intro v5 w5 own1 gr1
    have own1 : w5.ownsRow w3.heap.size 106 5 v5 s.l.length (mapsV s.l) := by simpa using own1
    have K5 := new_row K8a.out own0.out gr1
    obtain ⟨g5, c5, rfl, hg5, hg5w, -, src5⟩ := own_cells own1 (by omega)
    have K5w := Kc.out.then K5
    have D5 := D.out.next K5w
    have hc5 := K5w.some hc.out (fun x => x)
    have hz5 := (K5w.frozen (p := ⟨g, k * 2 + 1, none⟩) hgw.out (fun x => x)).trans hz.out
    have E5 := E3.out.next K5
    have gg : g ≠ g5 := fun q => by have := hgw.out; have := sz3.out; omega
    have wg : w.heap.size ≠ g := fun q => by have := hgw.out; omega
    have Ks : Keep (only g) w5 (w5.setCell ⟨g, k * 2 + 1, none⟩ (.slice (some ⟨g5, 0, none⟩) s.l.length c5)) := (Keep.refl _ _).store _ _
    have E6 := E5.keep Ks wg
    have sv6 : (w5.setCell ⟨g, k * 2 + 1, none⟩ (.slice (some ⟨g5, 0, none⟩) s.l.length c5)).cell? ⟨g, k * 2 + 1, none⟩ = some (.slice (some ⟨g5, 0, none⟩) s.l.length c5) := setCell_eq hc5
    have ng : ¬ only g g5 := fun q => gg q.symm
    obtain ⟨q0, q1, q2, q3⟩ := e0
    have o1 := src5 _ _ (flat_get mapCells_len s.l P _ 1 _ hx.out rfl)
    have o2 := src5 _ _ (flat_get mapCells_len s.l P _ 2 _ hx.out rfl)
    have o3 := src5 _ _ (flat_get mapCells_len s.l P _ 3 _ hx.out rfl)
    have o4 := src5 _ _ (flat_get mapCells_len s.l P _ 4 _ hx.out rfl)
    have l1 : P * 5 + 1 < (mapsV s.l).length := by rw [mapsV_len]; omega
    have l2 : P * 5 + 2 < (mapsV s.l).length := by rw [mapsV_len]; omega
    have l3 : P * 5 + 3 < (mapsV s.l).length := by rw [mapsV_len]; omega
    have l4 : P * 5 + 4 < (mapsV s.l).length := by rw [mapsV_len]; omega
    obtain ⟨W6, hW6⟩ : ∃ W6, W6 = w5.setCell ⟨g, k * 2 + 1, none⟩ (.slice (some ⟨g5, 0, none⟩) s.l.length c5) := ⟨_, rfl⟩
    have own6 : W6.ownsRow w3.heap.size 106 5 (.slice (some ⟨g5, 0, none⟩) s.l.length c5) s.l.length (mapsV s.l) := by
      rw [hW6]
      exact own_keep2 own1 Ks (fun g' e1 e2 => by have e1 : some g5 = some g' := e1; injection e1 with e1; exact ng (by rw [e1]; exact e2))
    have pt := D5.put hk.out (own_base own1 (by have := D.out.hb; have := sz3.out; omega)) fi.out
    rw [← hW6] at sv6 E6 Ks pt
    have m1 : W6.cell? ⟨g5, P * 5 + 1, none⟩ = some (.bool q0) := Ks.some o1.1 ng
    have m2 : W6.cell? ⟨g5, P * 5 + 2, none⟩ = some (.bool q1) := Ks.some o2.1 ng
    have m3 : W6.cell? ⟨g5, P * 5 + 3, none⟩ = some (.bool q2) := Ks.some o3.1 ng
    have m4 : W6.cell? ⟨g5, P * 5 + 4, none⟩ = some (.int .i64 q3) := Ks.some o4.1 ng
    have f1 : W6.frozen? ⟨g5, P * 5 + 1, none⟩ = false := (Ks.frozen (p := ⟨g5, P * 5 + 1, none⟩) hg5w ng).trans o1.2
    have f2 : W6.frozen? ⟨g5, P * 5 + 2, none⟩ = false := (Ks.frozen (p := ⟨g5, P * 5 + 2, none⟩) hg5w ng).trans o2.2
    have f3 : W6.frozen? ⟨g5, P * 5 + 3, none⟩ = false := (Ks.frozen (p := ⟨g5, P * 5 + 3, none⟩) hg5w ng).trans o3.2
    have f4 : W6.frozen? ⟨g5, P * 5 + 4, none⟩ = false := (Ks.frozen (p := ⟨g5, P * 5 + 4, none⟩) hg5w ng).trans o4.2
    obtain ⟨d0, d1, d2, d3, -, -, -, -⟩ := id E6
    replace own1 := Lib.hid own1
    replace gr1 := Lib.hid gr1
    replace K5 := Lib.hid K5
    replace K5w := Lib.hid K5w
    replace D5 := Lib.hid D5
    replace E5 := Lib.hid E5
    replace Ks := Lib.hid Ks
    replace src5 := Lib.hid src5
    replace hg5 := Lib.hid hg5
    replace hg5w := Lib.hid hg5w
    replace o1 := Lib.hid o1
    replace o2 := Lib.hid o2
    replace o3 := Lib.hid o3
    replace o4 := Lib.hid o4
    replace hW6 := Lib.hid hW6
    replace own6 := Lib.hid own6
    replace pt := Lib.hid pt
    replace E6 := Lib.hid E6
    replace l1 := Lib.hid l1
    replace l2 := Lib.hid l2
    replace l3 := Lib.hid l3
    replace l4 := Lib.hid l4
    clear hcA hc3
    go_wp2_with fail
    rw [← hW6.out]
    go_still_tail 8, (by kernel_rfl)
    change wpList _ _ _ _ _ W6.drew
    have sv6 : W6.drew.cell? ⟨g, k * 2 + 1, none⟩ = some (.slice (some ⟨g5, 0, none⟩) s.l.length c5) := sv6
    have d0 : W6.drew.cell? ⟨w.heap.size, 0, none⟩ = some (.bool p) := d0
    have d1 : W6.drew.cell? ⟨w.heap.size, 1, none⟩ = some (.bool x) := d1
    have d2 : W6.drew.cell? ⟨w.heap.size, 2, none⟩ = some (.bool cc) := d2
    have d3 : W6.drew.cell? ⟨w.heap.size, 3, none⟩ = some (.int .i64 fr) := d3
    have m1 : W6.drew.cell? ⟨g5, P * 5 + 1, none⟩ = some (.bool q0) := m1
    have m2 : W6.drew.cell? ⟨g5, P * 5 + 2, none⟩ = some (.bool q1) := m2
    have m3 : W6.drew.cell? ⟨g5, P * 5 + 3, none⟩ = some (.bool q2) := m3
    have m4 : W6.drew.cell? ⟨g5, P * 5 + 4, none⟩ = some (.int .i64 q3) := m4
    have f1 : W6.drew.frozen? ⟨g5, P * 5 + 1, none⟩ = false := f1
    have f2 : W6.drew.frozen? ⟨g5, P * 5 + 2, none⟩ = false := f2
    have f3 : W6.drew.frozen? ⟨g5, P * 5 + 3, none⟩ = false := f3
    have f4 : W6.drew.frozen? ⟨g5, P * 5 + 4, none⟩ = false := f4
    go_wp2_with fail
    go_ret
    have D7 := pt.out.1.next (Keep.refl nob W6).drew
    have own7 := own_next own6.out (Keep.refl nob W6).drew
    have own8 := own_set (own_set (own_set (own_set own7 l1.out (.bool p)) (by rw [List.length_set]; exact l2.out) (.bool x)) (by rw [List.length_set, List.length_set]; exact l3.out) (.bool cc)) (by rw [List.length_set, List.length_set, List.length_set]; exact l4.out) (.int .i64 fr)
    rw [show (((((mapsV s.l).set (P * 5 + 1) (.bool p)).set (P * 5 + 2) (.bool x)).set (P * 5 + 3) (.bool cc)).set (P * 5 + 4) (.int .i64 fr)) = mapsV (setL s.l page ⟨p, x, cc, fr⟩) from by rw [hset.out]; exact (maps_set (e := ⟨p, x, cc, fr⟩) hx.out).symm] at own8
    have sl1 : (setL s.l page ⟨p, x, cc, fr⟩).length = s.l.length := by unfold setL; rw [List.length_set]
    have KE : Keep (only g5) W6.drew ((((W6.drew.setCell ⟨g5, P * 5 + 1, none⟩ (.bool p)).setCell ⟨g5, P * 5 + 2, none⟩ (.bool x)).setCell ⟨g5, P * 5 + 3, none⟩ (.bool cc)).setCell ⟨g5, P * 5 + 4, none⟩ (.int .i64 fr)) := ((((Keep.refl _ _).store _ _).store _ _).store _ _).store _ _
    have bg : w.heap.size ≤ g5 := by have := sz3.out; have := hg5.out; omega
    have sf : spcFine ⟨s.r, .slice (some ⟨g5, 0, none⟩) s.l.length c5, setL s.l page ⟨p, x, cc, fr⟩⟩ := by
      refine ⟨by show (setL _ _ _).length ≤ _; rw [sl1]; exact fl, fun y hy => ?_⟩
      rcases List.mem_or_eq_of_mem_set (show y ∈ s.l.set _ _ from hy) with h | rfl
      · exact fi.out.2 y h
      · show page.toNat < 1024; omega
    have hks : (sl.set k ⟨s.r, .slice (some ⟨g5, 0, none⟩) s.l.length c5, s.l⟩)[k]? = some ⟨s.r, .slice (some ⟨g5, 0, none⟩) s.l.length c5, s.l⟩ := List.getElem?_set_self kl
    have DF := D7.rewrite KE (by have := D.out.lt; have := D.out.hb; omega) (fun g' e => by have e : some g = some g' := e; injection e with e; have := hgw.out; omega) hks (by rw [sl1]; exact own_base own8 (by have := D.out.hb; have := sz3.out; omega)) sf (fun j t ne ht g' e => by
      rw [List.getElem?_set_ne (fun q => ne q.symm)] at ht
      obtain ⟨-, u1, -⟩ := own_tag (D.out.maps t (List.mem_of_getElem? ht)) e
      omega)
    rw [List.set_set] at DF
    refine ⟨by rw [em'.out]; rfl, _, DF, ?_, fun h => absurd em'.out h, fun _ => ⟨k, s, _, q.out, hk.out, hf.out, rfl⟩⟩
    exact (((K5w.out.nob).trans pt.out.2 (fun y _ ey => by have ey : y = g := ey; rw [ey]; rfl)).drew).trans KE (fun y hy ey => by have ey : y = g5 := ey; omega)
end
end Go.Proofs.YtepmljcapobodaaDoor
end
section
namespace Go.Proofs.YtepmljcapobodaaDoor
open Go.RowKit
set_option linter.unusedVariables false
set_option maxRecDepth 100000
/-! ### A list of mappings, parted at a page -/
theorem plF_app {page : Int} : ∀ {A B : List (Nat × Ent)}, (∀ x ∈ A, (x.1 : Int) < page) → (∀ x ∈ B, ¬ (x.1 : Int) < page) → plF (A ++ B) page = A.length
  | [], [], _, _ => rfl
  | [], b :: B, _, h => by
    show (if (b.1 : Int) < page then _ else 0) = 0
    rw [if_neg (h b (by simp))]
  | a :: A, B, h, h2 => by
    show (if (a.1 : Int) < page then 1 + plF (A ++ B) page else 0) = _
    rw [if_pos (h a (by simp)), plF_app (fun x hx => h x (by simp [hx])) h2, List.length_cons]
    omega
def updF (F : Nat → Ent) (p : Nat) (e : Ent) : Nat → Ent := fun j => if j = p then e else F j
theorem updM_row (M : Nat → Nat → Ent) (r p : Nat) (e : Ent) : updM M r p e r = updF (M r) p e := by
  funext j
  unfold updF
  by_cases q : j = p
  · rw [if_pos q, q]; exact updM_at _ _ _ _
  · rw [if_neg q]; exact updM_ne (fun z => q z.2)
theorem updM_off (M : Nat → Nat → Ent) {r r' p : Nat} (e : Ent) (h : r' ≠ r) : updM M r p e r' = M r' := by
  funext j
  exact updM_ne (fun z => h z.1)
def tailF (F : Nat → Ent) (p : Nat) : List (Nat × Ent) := (presF (fun j => F (p + 1 + j)) (1023 - p)).map (fun y => (p + 1 + y.1, y.2))
theorem presF_split (F : Nat → Ent) {p : Nat} (h : p < 1024) : presF F 1024 = presF F p ++ ((if (F p).p then [(p, F p)] else []) ++ tailF F p) := by
  have e : 1024 = (p + 1) + (1023 - p) := by omega
  have := presF_add F (p + 1) (1023 - p)
  rw [← e] at this
  rw [this, presF_succ]
  unfold tailF
  cases (F p).p with
  | true => rw [if_pos rfl, if_pos rfl]; simp
  | false => rw [if_neg (by decide), if_neg (by decide)]; simp
theorem presF_upd {F : Nat → Ent} {p : Nat} (e : Ent) : presF (updF F p e) p = presF F p := presF_congr fun j hj => by unfold updF; rw [if_neg (by omega)]
theorem tailF_upd {F : Nat → Ent} {p : Nat} (e : Ent) : tailF (updF F p e) p = tailF F p := by
  unfold tailF
  rw [presF_congr fun j hj => by unfold updF; rw [if_neg (by omega)]]
theorem presF_lt {F : Nat → Ent} {p : Nat} : ∀ x ∈ presF F p, (x.1 : Int) < p := fun x hx => by have := (presF_mem hx).1; omega
theorem tailF_gt {F : Nat → Ent} {p : Nat} : ∀ x ∈ tailF F p, p < x.1 := fun x hx => by
  unfold tailF at hx
  obtain ⟨y, -, rfl⟩ := List.mem_map.1 hx
  show p < p + 1 + y.1
  omega
section
variable {F : Nat → Ent} {p : Nat}
theorem pl_pres (h : p < 1024) : plF (presF F 1024) p = (presF F p).length := by
  rw [presF_split F h]
  refine plF_app presF_lt fun x hx => ?_
  rcases List.mem_append.1 hx with hx | hx
  · split at hx
    · rw [List.mem_singleton] at hx; subst hx; show ¬ ((p : Int) < p); omega
    · cases hx
  · have := tailF_gt x hx; omega
theorem is_pres (h : p < 1024) : isF (presF F 1024) p = (F p).p := by
  unfold isF
  rw [pl_pres h, presF_split F h, List.getElem?_append_right (Nat.le_refl _), Nat.sub_self]
  cases e : (F p).p with
  | true => simp
  | false =>
    rw [if_neg (by decide), List.nil_append]
    cases e2 : (tailF F p)[0]? with
    | none => rfl
    | some x =>
      have := tailF_gt x (List.mem_of_getElem? e2)
      simp
      omega
theorem qry_pres (h : p < 1024) (h2 : (F p).p = true) : qryL (presF F 1024) p = F p := by
  unfold qryL
  rw [is_pres h, if_pos h2, pl_pres h, presF_split F h, List.getElem?_append_right (Nat.le_refl _), Nat.sub_self, if_pos h2]
  rfl
theorem qry_pres0 (h : p < 1024) (h2 : (F p).p = false) : qryL (presF F 1024) p = Ent.zero := by
  unfold qryL
  rw [is_pres h, h2]
  rfl
theorem ins_pres (h : p < 1024) (h2 : (F p).p = false) {e : Ent} (he : e.p = true) : insL (presF F 1024) p e = presF (updF F p e) 1024 := by
  unfold insL
  rw [pl_pres h, presF_split (updF F p e) h, presF_upd, tailF_upd, presF_split F h, h2, if_neg (by decide), List.nil_append, List.take_left, List.drop_left, Int.toNat_natCast, show updF F p e p = e from if_pos rfl, he, if_pos rfl, List.append_assoc]
theorem del_pres (h : p < 1024) (h2 : (F p).p = true) : delL (presF F 1024) p = presF (updF F p Ent.zero) 1024 := by
  unfold delL
  rw [pl_pres h, presF_split (updF F p Ent.zero) h, presF_upd, tailF_upd, presF_split F h, h2, if_pos rfl, List.take_left, show updF F p Ent.zero p = Ent.zero from if_pos rfl, show Ent.zero.p = false from rfl, if_neg (by decide), List.nil_append]
  congr 1
  rw [← List.drop_drop, List.drop_left]
  rfl
theorem set_pres (h : p < 1024) (h2 : (F p).p = true) {e : Ent} (he : e.p = true) : setL (presF F 1024) p e = presF (updF F p e) 1024 := by
  unfold setL
  rw [pl_pres h, presF_split (updF F p e) h, presF_upd, tailF_upd, presF_split F h, h2, if_pos rfl, show updF F p e p = e from if_pos rfl, he, if_pos rfl, Int.toNat_natCast, List.set_append_right _ _ (Nat.le_refl _), Nat.sub_self]
  rfl
theorem len_pres : (presF F 1024).length ≤ 1024 := by rw [presF_len]; exact cnt_most _ _
theorem len_pres1 (h : p < 1024) (h2 : (F p).p = false) : (presF F 1024).length < 1024 := by
  have := len_pres (F := updF F p ⟨true, false, false, 0⟩)
  rw [← ins_pres h h2 rfl, insL_len] at this
  omega
end
/-! ### Tables -/
def liveK (F : Nat → Ent) : Nat → Nat → Bool
  | 0, _ => false
  | k + 1, i => liveK F k i || ((F k).p && decide (k / 32 = i))
theorem liveK_true {F : Nat → Ent} {i : Nat} : ∀ {k : Nat}, liveK F k i = true → ∃ j, j < k ∧ j / 32 = i ∧ (F j).p = true
  | 0, h => by cases h
  | k + 1, h => by
    unfold liveK at h
    rcases Bool.or_eq_true _ _ ▸ h with h | h
    · obtain ⟨j, h1, h2⟩ := liveK_true h
      exact ⟨j, by omega, h2⟩
    · have h := Bool.and_eq_true _ _ ▸ h
      exact ⟨k, by omega, of_decide_eq_true h.2, h.1⟩
theorem liveK_of {F : Nat → Ent} {i j : Nat} (hp : (F j).p = true) (hj : j / 32 = i) : ∀ {k : Nat}, j < k → liveK F k i = true
  | 0, h => by omega
  | k + 1, h => by
    unfold liveK
    by_cases e : j = k
    · subst e; rw [hp, hj]; simp
    · rw [liveK_of hp hj (by omega)]; rfl
def lastP (F : Nat → Ent) : Nat → Option Nat
  | 0 => none
  | k + 1 => if (F k).p then some k else lastP F k
theorem lastP_lt {F : Nat → Ent} : ∀ {k j : Nat}, lastP F k = some j → j < k ∧ (F j).p = true
  | 0, _, h => by cases h
  | k + 1, j, h => by
    unfold lastP at h
    split at h
    · rename_i hp; injection h with h; subst h; exact ⟨by omega, hp⟩
    · have := lastP_lt h; exact ⟨by omega, this.2⟩
theorem lastP_none {F : Nat → Ent} : ∀ {k : Nat}, lastP F k = none → ∀ j, j < k → (F j).p = false
  | 0, _, j, hj => by omega
  | k + 1, h, j, hj => by
    unfold lastP at h
    split at h
    · cases h
    · rename_i hp
      by_cases e : j = k
      · subst e; simpa using hp
      · exact lastP_none h j (by omega)
theorem lastP_max {F : Nat → Ent} : ∀ {k j i : Nat}, lastP F k = some j → i < k → (F i).p = true → i ≤ j
  | 0, _, _, h, _, _ => by cases h
  | k + 1, j, i, h, hi, hp => by
    unfold lastP at h
    split at h
    · injection h with h; omega
    · rename_i hn
      by_cases e : i = k
      · subst e; exact absurd hp hn
      · exact lastP_max h (by omega) hp
theorem last_pres {F : Nat → Ent} : ∀ {k j : Nat}, lastP F k = some j → (presF F k).getLast? = some (j, F j)
  | 0, _, h => by cases h
  | k + 1, j, h => by
    unfold lastP at h
    rw [presF_succ]
    split at h
    · rename_i hp; injection h with h; subst h; rw [if_pos hp]; simp
    · rename_i hp; rw [if_neg hp]; exact last_pres h
theorem newG_app (l : List (Nat × Ent)) (x : Nat × Ent) : cnt (newG (l ++ [x])) (l.length + 1) = cnt (newG l) l.length + (if l = [] ∨ (∃ y, l.getLast? = some y ∧ y.1 / 32 ≠ x.1 / 32) then 1 else 0) := by
  rw [cnt_step]
  congr 1
  · refine cnt_congr _ fun i hi => ?_
    unfold newG
    rw [List.getD_eq_getElem?_getD, List.getD_eq_getElem?_getD, List.getD_eq_getElem?_getD, List.getD_eq_getElem?_getD, List.getElem?_append_left (by omega), List.getElem?_append_left hi]
  · have key : newG (l ++ [x]) l.length = decide (l = [] ∨ (∃ y, l.getLast? = some y ∧ y.1 / 32 ≠ x.1 / 32)) := by
      unfold newG
      rcases List.eq_nil_or_concat l with rfl | ⟨l', y, rfl⟩
      · simp
      · have e1 : ((l'.concat y ++ [x]).getD ((l'.concat y).length - 1) (0, Ent.zero)) = y := by
          rw [List.getD_eq_getElem?_getD, List.concat_eq_append]; simp
        have e2 : ((l'.concat y ++ [x]).getD (l'.concat y).length (0, Ent.zero)) = x := by
          rw [List.getD_eq_getElem?_getD, List.concat_eq_append]; simp
        rw [e1, e2]
        congr 1
        rw [List.concat_eq_append]
        simp
    rw [key]
    by_cases h : l = [] ∨ (∃ y, l.getLast? = some y ∧ y.1 / 32 ≠ x.1 / 32)
    · rw [if_pos h, decide_eq_true h]; rfl
    · rw [if_neg h, decide_eq_false h]; rfl
theorem tabs_pres (F : Nat → Ent) : ∀ k, k ≤ 1024 → cnt (newG (presF F k)) (presF F k).length = cnt (liveK F k) 32
  | 0, _ => by
    have e : cnt (liveK F 0) 32 = 0 := (cnt_congr (Q := fun _ => false) 32 (fun i _ => rfl)).trans (cnt_none 32)
    show 0 = _
    exact e.symm
  | k + 1, hk => by
    have ih := tabs_pres F k (by omega)
    rw [presF_succ]
    cases hp : (F k).p with
    | false =>
      rw [if_neg (by decide), ih]
      exact cnt_congr _ fun i _ => by show _ = (liveK F k i || ((F k).p && _)); rw [hp]; simp
    | true =>
      rw [if_pos rfl, List.length_append, List.length_singleton, newG_app, ih]
      have z : k / 32 < 32 := by omega
      have oth : ∀ i, i ≠ k / 32 → liveK F (k + 1) i = liveK F k i := fun i hi => by
        show (liveK F k i || ((F k).p && decide (k / 32 = i))) = _
        rw [decide_eq_false (fun q => hi q.symm)]; simp
      have at' : liveK F (k + 1) (k / 32) = true := liveK_of hp rfl (by omega)
      cases hl : liveK F k (k / 32) with
      | false =>
        have : presF F k = [] ∨ (∃ y, (presF F k).getLast? = some y ∧ y.1 / 32 ≠ (k, F k).1 / 32) := by
          cases e : lastP F k with
          | none => exact Or.inl (presF_none (lastP_none e))
          | some j =>
            refine Or.inr ⟨_, last_pres e, fun q => ?_⟩
            obtain ⟨h1, h2⟩ := lastP_lt e
            rw [liveK_of h2 q h1] at hl
            cases hl
        rw [if_pos this]
        exact cnt_turn (P := liveK F (k + 1)) (Q := liveK F k) at' hl oth 32 z
      | true =>
        have : ¬ (presF F k = [] ∨ (∃ y, (presF F k).getLast? = some y ∧ y.1 / 32 ≠ (k, F k).1 / 32)) := by
          obtain ⟨j, h1, h2, h3⟩ := liveK_true hl
          rintro (h | ⟨y, h, hn⟩)
          · exact presF_some h1 h3 h
          · cases e : lastP F k with
            | none => rw [lastP_none e j h1] at h3; cases h3
            | some m =>
              rw [last_pres e] at h
              injection h with h
              subst h
              have := lastP_max e h1 h3
              obtain ⟨q1, q2⟩ := lastP_lt e
              apply hn
              show m / 32 = k / 32
              omega
        rw [if_neg this, Nat.add_zero]
        refine cnt_congr _ fun i _ => ?_
        by_cases q : i = k / 32
        · subst q; rw [at', hl]
        · exact (oth i q).symm
theorem live_liveK (M : Nat → Nat → Ent) (r : Nat) {i : Nat} (hi : i < 32) : live M r i = liveK (M r) 1024 i := by
  cases h : live M r i with
  | true =>
    symm
    cases e : liveK (M r) 1024 i with
    | true => rfl
    | false =>
      have : live M r i = false := live_not fun j hj => by
        cases q : (M r (i * 32 + j)).p with
        | false => rfl
        | true => rw [liveK_of q (by omega) (by omega)] at e; cases e
      rw [this] at h; cases h
  | false =>
    symm
    cases e : liveK (M r) 1024 i with
    | false => rfl
    | true =>
      obtain ⟨j, h1, h2, h3⟩ := liveK_true e
      have := live_no h (j % 32) (by omega)
      rw [show i * 32 + j % 32 = j by omega, h3] at this
      cases this
theorem tabR_pres (M : Nat → Nat → Ent) (r : Nat) : tabR (presF (M r) 1024) = 1 + cnt (live M r) 32 := by
  unfold tabR
  rw [tabs_pres _ 1024 (Nat.le_refl _)]
  congr 1
  exact cnt_congr _ fun i hi => (live_liveK M r hi).symm
end Go.Proofs.YtepmljcapobodaaDoor
end
section
namespace Go.Proofs.YtepmljcapobodaaDoor
open Go.RowKit
set_option linter.unusedVariables false
set_option maxRecDepth 100000
structure PRel (many : Nat) (sl : List Spc) (M : Nat → Nat → Ent) (g : Int → Int) (left : Nat) : Prop where
  nd : (sl.map Spc.r).Nodup
  on : ∀ r : Int, g r ≠ 0 ↔ ∃ s ∈ sl, (s.r : Int) = r
  ls : ∀ s ∈ sl, s.l = presF (M s.r) 1024
  us : left + usedR sl = many
  off : ∀ r : Nat, g r = 0 → ∀ p, (M r p).p = false
  mz : ∀ r p, (M r p).p = false → M r p = Ent.zero
  hi : ∀ r p, 1024 ≤ p → (M r p).p = false
section
variable {many : Nat} {sl : List Spc} {M : Nat → Nat → Ent} {g : Int → Int} {left : Nat}
theorem PRel.start (many : Nat) : PRel many [] M0 (fun _ => 0) many := ⟨List.nodup_nil, fun r => ⟨fun h => absurd rfl h, fun ⟨_, h, _⟩ => (by cases h)⟩, fun s h => (by cases h), rfl, fun _ _ _ => rfl, fun _ _ _ => rfl, fun _ _ _ => rfl⟩
theorem PRel.at0 (R : PRel many sl M g left) {r : Int} : atR sl r < 0 ↔ g r = 0 := by
  rcases atR_cases sl r with ⟨q, h⟩ | ⟨k, s, q, hk, hr⟩
  · rw [q]
    refine ⟨fun _ => ?_, fun _ => by decide⟩
    by_cases z : g r = 0
    · exact z
    · obtain ⟨s, hs, e⟩ := (R.on r).1 z
      exact absurd e (h s hs)
  · rw [q]
    refine ⟨fun z => by omega, fun z => absurd z ((R.on r).2 ⟨s, List.mem_of_getElem? hk, hr⟩)⟩
theorem PRel.ask (R : PRel many sl M g left) (r page : Int) (fine : Bool) : askR sl r page fine = askE g r page fine := by
  unfold askR askE
  by_cases h : 0 ≤ page ∧ page < 1024 ∧ fine = true
  · rw [if_pos h, if_pos h]
    by_cases z : g r = 0
    · rw [if_pos (R.at0.2 z), if_pos z]
    · rw [if_neg (fun q => z (R.at0.1 q)), if_neg z]
  · rw [if_neg h, if_neg h]
/-- The space of a root that is open. -/
theorem PRel.get (R : PRel many sl M g left) {r : Int} (h : g r ≠ 0) : ∃ (k : Nat) (s : Spc), atR sl r = k ∧ sl[k]? = some s ∧ (s.r : Int) = r ∧ r.toNat = s.r ∧ s.l = presF (M s.r) 1024 ∧ spcR sl r = some s := by
  rcases atR_cases sl r with ⟨q, h2⟩ | ⟨k, s, q, hk, hr⟩
  · exact absurd (R.at0.1 (by rw [q]; decide)) h
  · exact ⟨k, s, q, hk, hr, by omega, R.ls s (List.mem_of_getElem? hk), spcR_some q hk⟩
theorem used_set {i : Nat} {s x : Spc} (h : sl[i]? = some s) : usedR (sl.set i x) + tabR s.l = usedR sl + tabR x.l := by
  induction sl generalizing i with
  | nil => simp at h
  | cons a r ih =>
    cases i with
    | zero =>
      have : a = s := by simpa using h
      subst this
      unfold usedR
      rw [List.set_cons_zero, List.map_cons, List.map_cons, List.sum_cons, List.sum_cons]
      omega
    | succ i =>
      have h' : r[i]? = some s := by simpa using h
      have := ih h'
      unfold usedR at this ⊢
      rw [List.set_cons_succ, List.map_cons, List.map_cons, List.sum_cons, List.sum_cons]
      omega
theorem map_r {i : Nat} {s : Spc} {u : Value} {l : List (Nat × Ent)} (h : sl[i]? = some s) : (sl.set i ⟨s.r, u, l⟩).map Spc.r = sl.map Spc.r := by
  rw [List.map_set]
  have h2 : (sl.map Spc.r)[i]? = some s.r := by rw [List.getElem?_map, h]; rfl
  have hlt := (List.getElem?_eq_some_iff.1 h2).1
  have e := (List.getElem?_eq_some_iff.1 h2).2
  show (sl.map Spc.r).set i s.r = _
  rw [← e]
  exact List.set_getElem_self hlt
/-- One space's list is another one: the mappings of its root, too. -/
theorem PRel.set (R : PRel many sl M g left) {i : Nat} {s : Spc} {u : Value} (hi : sl[i]? = some s) {M' : Nat → Nat → Ent} {left' : Nat} (hm : ∀ r, r ≠ s.r → M' r = M r) (hg : g s.r ≠ 0) (hu : left' + tabR (presF (M' s.r) 1024) = left + tabR s.l) (hz : ∀ p, (M' s.r p).p = false → M' s.r p = Ent.zero) (hh : ∀ p, 1024 ≤ p → (M' s.r p).p = false) :
    PRel many (sl.set i ⟨s.r, u, presF (M' s.r) 1024⟩) M' g left' := by
  have hmr := map_r (u := u) (l := presF (M' s.r) 1024) hi
  have mem : ∀ t ∈ sl.set i ⟨s.r, u, presF (M' s.r) 1024⟩, t = ⟨s.r, u, presF (M' s.r) 1024⟩ ∨ (t ∈ sl ∧ t.r ≠ s.r) := by
    intro t ht
    obtain ⟨j, hj⟩ := List.mem_iff_getElem?.1 ht
    by_cases e : j = i
    · subst e
      rw [List.getElem?_set_self (List.getElem?_eq_some_iff.1 hi).1] at hj
      injection hj with hj
      exact Or.inl hj.symm
    · rw [List.getElem?_set_ne (fun q => e q.symm)] at hj
      refine Or.inr ⟨List.mem_of_getElem? hj, fun q => e ?_⟩
      have h1 : (sl.map Spc.r)[j]? = some t.r := by rw [List.getElem?_map, hj]; rfl
      have h2 : (sl.map Spc.r)[i]? = some s.r := by rw [List.getElem?_map, hi]; rfl
      rw [q] at h1
      exact (List.getElem?_inj (List.getElem?_eq_some_iff.1 h1).1 R.nd).1 (h1.trans h2.symm)
  refine ⟨by rw [hmr]; exact R.nd, fun r => ?_, fun t ht => ?_, ?_, fun r h p => ?_, fun r p h => ?_, fun r p h => ?_⟩
  · rw [R.on r]
    constructor
    · rintro ⟨t, ht, e⟩
      have : t.r ∈ (sl.set i ⟨s.r, u, presF (M' s.r) 1024⟩).map Spc.r := by rw [hmr]; exact List.mem_map_of_mem ht
      obtain ⟨t2, h1, h2⟩ := List.mem_map.1 this
      exact ⟨t2, h1, by rw [h2]; exact e⟩
    · rintro ⟨t, ht, e⟩
      have : t.r ∈ sl.map Spc.r := by rw [← hmr]; exact List.mem_map_of_mem ht
      obtain ⟨t2, h1, h2⟩ := List.mem_map.1 this
      exact ⟨t2, h1, by rw [h2]; exact e⟩
  · rcases mem t ht with rfl | ⟨h1, h2⟩
    · rfl
    · rw [R.ls t h1, hm t.r h2]
  · have := used_set (x := ⟨s.r, u, presF (M' s.r) 1024⟩) hi
    have := R.us
    dsimp only at *
    omega
  · by_cases e : r = s.r
    · subst e; exact absurd h hg
    · rw [hm r e]; exact R.off r h p
  · by_cases e : r = s.r
    · subst e; exact hz p h
    · rw [hm r e] at h ⊢; exact R.mz r p h
  · by_cases e : r = s.r
    · subst e; exact hh p h
    · rw [hm r e]; exact R.hi r p h
theorem upd_hi (R : PRel many sl M g left) {r p : Nat} {e : Ent} (hp : p < 1024) : ∀ q, 1024 ≤ q → (updM M r p e r q).p = false := by
  intro q h
  rw [updM_ne (fun x => by have := x.2; omega)]
  exact R.hi r q h
theorem upd_mz (R : PRel many sl M g left) {r p : Nat} {e : Ent} (he : e.p = false → e = Ent.zero) : ∀ q, (updM M r p e r q).p = false → updM M r p e r q = Ent.zero := by
  intro q h
  by_cases z : q = p
  · subst z; rw [updM_at] at h ⊢; exact he h
  · rw [updM_ne (fun x => z x.2)] at h ⊢; exact R.mz r q h
theorem PRel.map (R : PRel many sl M g left) (n : Nat) (root page : Int) (e : Ent) :
    mapR n many sl root page e = mapA n M g left root page e ∧
    (∀ s, spcR sl root = some s → isF s.l page = false → 0 ≤ page → page < 1024 → s.l.length < 1024) ∧
    ∀ sl', (mapR n many sl root page e ≠ 0 → sl' = sl) → (mapR n many sl root page e = 0 → ∃ (i : Nat) (s : Spc) (u : Value), atR sl root = i ∧ sl[i]? = some s ∧ sl' = sl.set i ⟨s.r, u, insL s.l page e⟩) → PRel many sl' (mapM n M g left root page e) g (mapL n M g left root page e) := by
  by_cases ha : askE g root page (fitB n e) = 0
  · obtain ⟨p0, p1, hb, hg⟩ := ask_range ha
    obtain ⟨p, rfl⟩ : ∃ p : Nat, page = p := ⟨page.toNat, by omega⟩
    have he := (fitB_ok hb).2
    obtain ⟨k, s, q, hk, hr, hrn, hl, hs⟩ := R.get hg
    have hp : p < 1024 := by omega
    have a1 : askR sl root p (fitB n e) = 0 := by rw [R.ask]; exact ha
    have is0 : isF s.l p = (M s.r p).p := by rw [hl, is_pres hp]
    have eA : mapA n M g left root p e = if (M s.r p).p then 5 else if live M s.r (p / 32) = false ∧ left = 0 then 3 else 0 := by
      unfold mapA; rw [if_pos ha, hrn, Int.toNat_natCast]
    have t0 : tabR s.l = 1 + cnt (live M s.r) 32 := by rw [hl]; exact tabR_pres M s.r
    have eR : mapR n many sl root p e = mapA n M g left root p e := by
      unfold mapR
      rw [if_pos a1, hs, eA]
      dsimp only
      rw [is0]
      cases hm : (M s.r p).p with
      | true => rfl
      | false =>
        have f0 : ¬ (false = true) := by decide
        rw [if_neg f0, if_neg f0]
        have t1 : tabR (insL s.l p e) = 1 + cnt (live (updM M s.r p e) s.r) 32 := by
          rw [hl, ins_pres hp hm he, ← updM_row]; exact tabR_pres _ _
        rw [t0, t1, live_cnt_put he hp]
        have us := R.us
        by_cases z : live M s.r (p / 32) = false
        · rw [if_pos z]
          by_cases z2 : left = 0
          · rw [if_pos ⟨by omega, by omega⟩, if_pos ⟨z, z2⟩]
          · rw [if_neg (by omega), if_neg (fun h => z2 h.2)]
        · rw [if_neg z, if_neg (by omega), if_neg (fun h => z h.1)]
    refine ⟨eR, ?_, ?_⟩
    · intro t ht hi _ _
      rw [hs] at ht; injection ht with ht; subst ht
      rw [is0] at hi
      rw [hl]
      exact len_pres1 hp hi
    · intro sl' h1 h2
      rw [eR] at h1 h2
      unfold mapM mapL
      by_cases z : mapA n M g left root p e = 0
      · rw [if_pos z]
        obtain ⟨i, s2, u, q2, hi, rfl⟩ := h2 z
        have ik : i = k := by rw [q] at q2; omega
        subst ik
        rw [hk] at hi; injection hi with hi; subst hi
        rw [eA] at z
        have hm : (M s.r p).p = false := by
          cases h : (M s.r p).p with
          | false => rfl
          | true => rw [h, if_pos rfl] at z; cases z
        rw [hm, if_neg (by decide)] at z
        have nl : ¬ (live M s.r (p / 32) = false ∧ left = 0) := fun h => by rw [if_pos h] at z; cases z
        have zA : mapA n M g left root p e = 0 := by rw [eA, hm, if_neg (by decide), if_neg nl]
        rw [zA, hrn, Int.toNat_natCast]
        have ei : insL s.l p e = presF (updM M s.r p e s.r) 1024 := by rw [hl, ins_pres hp hm he, updM_row]
        rw [ei]
        refine R.set hk (fun r h => updM_off M e h) (by rw [hr]; exact hg) ?_ (upd_mz R (fun h => by rw [he] at h; cases h)) (upd_hi R hp)
        rw [tabR_pres, t0, live_cnt_put he hp]
        by_cases z3 : live M s.r (p / 32) = false
        · rw [if_pos ⟨rfl, z3⟩, if_pos z3]
          have : left ≠ 0 := fun h => nl ⟨z3, h⟩
          omega
        · rw [if_neg (fun h => z3 h.2), if_neg z3]; omega
      · rw [if_neg z, if_neg (fun h => z h.1), h1 z]
        exact R
  · have a1 : askR sl root page (fitB n e) ≠ 0 := by rw [R.ask]; exact ha
    have e1 : mapR n many sl root page e = askE g root page (fitB n e) := by unfold mapR; rw [if_neg a1, R.ask]
    have e2 : mapA n M g left root page e = askE g root page (fitB n e) := if_neg ha
    refine ⟨by rw [e1, e2], ?_, ?_⟩
    · intro s hs hi h0 h1
      by_cases hg : g root = 0
      · rw [spcR] at hs
        rw [if_pos (R.at0.2 hg)] at hs
        cases hs
      · obtain ⟨k, s2, q, hk, hr, hrn, hl, hs2⟩ := R.get hg
        rw [hs2] at hs; injection hs with hs; subst hs
        obtain ⟨p, rfl⟩ : ∃ p : Nat, page = p := ⟨page.toNat, by omega⟩
        rw [hl] at hi ⊢
        rw [is_pres (by omega)] at hi
        exact len_pres1 (by omega) hi
    · intro sl' h1 _
      unfold mapM mapL
      rw [e2, if_neg ha, if_neg (fun h => ha h.1), h1 (by rw [e1]; exact ha)]
      exact R
theorem PRel.unmap (R : PRel many sl M g left) (root page : Int) :
    unmR sl root page = unmA M g root page ∧ unmRX sl root page = unmX M g root page ∧
    ∀ sl', (unmR sl root page ≠ 0 → sl' = sl) → (unmR sl root page = 0 → ∃ (i : Nat) (s : Spc) (u : Value), atR sl root = i ∧ sl[i]? = some s ∧ isF s.l page = true ∧ sl' = sl.set i ⟨s.r, u, delL s.l page⟩) → PRel many sl' (unmM M g root page) g (unmL M g left root page) := by
  by_cases ha : askE g root page true = 0
  · obtain ⟨p0, p1, -, hg⟩ := ask_range ha
    obtain ⟨p, rfl⟩ : ∃ p : Nat, page = p := ⟨page.toNat, by omega⟩
    obtain ⟨k, s, q, hk, hr, hrn, hl, hs⟩ := R.get hg
    have hp : p < 1024 := by omega
    have a1 : askR sl root p true = 0 := by rw [R.ask]; exact ha
    have is0 : isF s.l p = (M s.r p).p := by rw [hl, is_pres hp]
    have eA : unmA M g root p = if (M s.r p).p then 0 else 4 := by unfold unmA; rw [if_pos ha, hrn, Int.toNat_natCast]
    have eR : unmR sl root p = unmA M g root p := by
      unfold unmR
      rw [if_pos a1, hs, eA]
      dsimp only
      rw [is0]
    refine ⟨eR, ?_, ?_⟩
    · unfold unmRX unmX
      rw [eR, hs, hrn, Int.toNat_natCast]
      by_cases z : unmA M g root p = 0
      · rw [if_pos z, if_pos z]
        rw [eA] at z
        dsimp only
        rw [hl]
        refine qry_pres hp ?_
        cases h : (M s.r p).p with
        | true => rfl
        | false => rw [h] at z; cases z
      · rw [if_neg z, if_neg z]
    · intro sl' h1 h2
      rw [eR] at h1 h2
      unfold unmL
      by_cases z : unmA M g root p = 0
      · obtain ⟨i, s2, u, q2, hi, -, rfl⟩ := h2 z
        have ik : i = k := by rw [q] at q2; omega
        subst ik
        rw [hk] at hi; injection hi with hi; subst hi
        have hm : (M s.r p).p = true := by
          cases h : (M s.r p).p with
          | true => rfl
          | false => rw [eA, h] at z; cases z
        have eM : unmM M g root p = updM M s.r p Ent.zero := by unfold unmM; rw [if_pos z, hrn, Int.toNat_natCast]
        rw [eM, z, hrn, Int.toNat_natCast]
        have ei : delL s.l p = presF (updM M s.r p Ent.zero s.r) 1024 := by rw [hl, del_pres hp hm, updM_row]
        rw [ei]
        refine R.set hk (fun r h => updM_off M Ent.zero h) (by rw [hr]; exact hg) ?_ (upd_mz R (fun _ => rfl)) (upd_hi R hp)
        have t0 : tabR s.l = 1 + cnt (live M s.r) 32 := by rw [hl]; exact tabR_pres M s.r
        rw [tabR_pres, t0, live_cnt_del (e := Ent.zero) hm hp]
        by_cases z3 : live (updM M s.r p Ent.zero) s.r (p / 32) = false
        · rw [if_pos ⟨rfl, z3⟩, if_pos z3]; omega
        · rw [if_neg (fun h => z3 h.2), if_neg z3]; omega
      · have eM : unmM M g root p = M := by unfold unmM; rw [if_neg z]
        rw [eM, if_neg (fun h => z h.1), h1 z]
        exact R
  · have a1 : askR sl root page true ≠ 0 := by rw [R.ask]; exact ha
    have e1 : unmR sl root page = askE g root page true := by unfold unmR; rw [if_neg a1, R.ask]
    have e2 : unmA M g root page = askE g root page true := if_neg ha
    refine ⟨by rw [e1, e2], ?_, ?_⟩
    · unfold unmRX unmX
      rw [e1, e2, if_neg ha, if_neg ha]
    · intro sl' h1 _
      unfold unmL
      have eM : unmM M g root page = M := by unfold unmM; rw [e2, if_neg ha]
      rw [eM, e2, if_neg (fun h => ha h.1), h1 (by rw [e1]; exact ha)]
      exact R
theorem PRel.seti (R : PRel many sl M g left) (n : Nat) (root page : Int) (e : Ent) :
    setR n sl root page e = setA n M g root page e ∧
    ∀ sl', (setR n sl root page e ≠ 0 → sl' = sl) → (setR n sl root page e = 0 → ∃ (i : Nat) (s : Spc) (u : Value), atR sl root = i ∧ sl[i]? = some s ∧ isF s.l page = true ∧ sl' = sl.set i ⟨s.r, u, setL s.l page e⟩) → PRel many sl' (setM n M g root page e) g left := by
  by_cases ha : askE g root page (fitB n e) = 0
  · obtain ⟨p0, p1, hb, hg⟩ := ask_range ha
    obtain ⟨p, rfl⟩ : ∃ p : Nat, page = p := ⟨page.toNat, by omega⟩
    have he := (fitB_ok hb).2
    obtain ⟨k, s, q, hk, hr, hrn, hl, hs⟩ := R.get hg
    have hp : p < 1024 := by omega
    have a1 : askR sl root p (fitB n e) = 0 := by rw [R.ask]; exact ha
    have is0 : isF s.l p = (M s.r p).p := by rw [hl, is_pres hp]
    have eA : setA n M g root p e = if (M s.r p).p then 0 else 4 := by unfold setA; rw [if_pos ha, hrn, Int.toNat_natCast]
    have eR : setR n sl root p e = setA n M g root p e := by
      unfold setR
      rw [if_pos a1, hs, eA]
      dsimp only
      rw [is0]
    refine ⟨eR, ?_⟩
    intro sl' h1 h2
    rw [eR] at h1 h2
    by_cases z : setA n M g root p e = 0
    · obtain ⟨i, s2, u, q2, hi, -, rfl⟩ := h2 z
      have ik : i = k := by rw [q] at q2; omega
      subst ik
      rw [hk] at hi; injection hi with hi; subst hi
      have hm : (M s.r p).p = true := by
        cases h : (M s.r p).p with
        | true => rfl
        | false => rw [eA, h] at z; cases z
      have eM : setM n M g root p e = updM M s.r p e := by unfold setM; rw [if_pos z, hrn, Int.toNat_natCast]
      rw [eM]
      have ei : setL s.l p e = presF (updM M s.r p e s.r) 1024 := by rw [hl, set_pres hp hm he, updM_row]
      rw [ei]
      refine R.set hk (fun r h => updM_off M e h) (by rw [hr]; exact hg) ?_ (upd_mz R (fun h => by rw [he] at h; cases h)) (upd_hi R hp)
      have t0 : tabR s.l = 1 + cnt (live M s.r) 32 := by rw [hl]; exact tabR_pres M s.r
      have ll : live M s.r (p / 32) = true := live_of (j := p % 32) (by omega) (by rw [show p / 32 * 32 + p % 32 = p by omega]; exact hm)
      rw [tabR_pres, t0, live_cnt_put he hp, if_neg (by rw [ll]; decide)]
      omega
    · have eM : setM n M g root p e = M := by unfold setM; rw [if_neg z]
      rw [eM, h1 z]
      exact R
  · have a1 : askR sl root page (fitB n e) ≠ 0 := by rw [R.ask]; exact ha
    have e1 : setR n sl root page e = askE g root page (fitB n e) := by unfold setR; rw [if_neg a1, R.ask]
    have e2 : setA n M g root page e = askE g root page (fitB n e) := if_neg ha
    refine ⟨by rw [e1, e2], ?_⟩
    intro sl' h1 _
    have eM : setM n M g root page e = M := by unfold setM; rw [e2, if_neg ha]
    rw [eM, h1 (by rw [e1]; exact ha)]
    exact R
theorem PRel.query (R : PRel many sl M g left) (root page : Int) : qryR sl root page = (qryA M g root page, (qryA M g root page).p) := by
  unfold qryR qryA
  by_cases hg : g root = 0
  · have e1 : spcR sl root = none := by unfold spcR; rw [if_pos (R.at0.2 hg)]
    have e2 : askE g root page true ≠ 0 := by
      unfold askE
      split
      · first | decide | (rw [if_pos hg]; decide)
      · decide
    rw [e1, if_neg e2]
    rfl
  · obtain ⟨k, s, q, hk, hr, hrn, hl, hs⟩ := R.get hg
    rw [hs]
    dsimp only
    by_cases h : 0 ≤ page ∧ page < 1024
    · obtain ⟨p, rfl⟩ : ∃ p : Nat, page = p := ⟨page.toNat, by omega⟩
      have e2 : askE g root p true = 0 := by unfold askE; rw [if_pos ⟨h.1, h.2, rfl⟩, if_neg hg]
      rw [if_pos e2, hl, is_pres (by omega), hrn, Int.toNat_natCast]
      cases hm : (M s.r p).p with
      | true => rw [qry_pres (by omega) hm]
      | false =>
        rw [qry_pres0 (by omega) hm, R.mz _ _ hm]
    · have e2 : askE g root page true ≠ 0 := by unfold askE; rw [if_neg (fun q => h ⟨q.1, q.2.1⟩)]; decide
      rw [if_neg e2]
      have e3 : isF s.l page = false := by
        cases e : isF s.l page with
        | false => rfl
        | true =>
          obtain ⟨x, hx, h2⟩ := isF_true e
          rw [hl] at hx
          have := presF_mem (List.mem_of_getElem? hx)
          exact absurd ⟨by omega, by omega⟩ h
      have e4 : qryL s.l page = Ent.zero := by unfold qryL; rw [e3]; rfl
      rw [e3, e4]
      rfl
end
end Go.Proofs.YtepmljcapobodaaDoor
end
