/- Rows of one's own, told as lists of structs; a region that draws and only reads. -/
import Derived.Test.YtepmljcapobodaaFlat
import Derived.Maps.AppendAt
import Derived.Laws.AppendOwnNone
import Derived.Laws.AppendOwn
import Derived.BigQuiet
import Derived.Deep.QuietTactic
import Derived.Deep.RegionHeld3
namespace Go.Proofs.Ytepmljcapobodaa
open Go.RowKit
set_option linter.unusedVariables false
set_option maxRecDepth 100000
theorem own_cells {w : World} {base e N n : Nat} {v : Value} {xs : List Value} (h : w.ownsRow base e N v n xs) (hn : 0 < n) :
    ∃ g cap, v = .slice (some ⟨g, 0, none⟩) n cap ∧ base ≤ g ∧ g < w.heap.size ∧ n ≤ cap ∧ ∀ j u, xs[j]? = some u → w.cell? ⟨g, j, none⟩ = some u ∧ w.frozen? ⟨g, j, none⟩ = false := by
  obtain ⟨hl, ⟨_, h⟩ | ⟨g, cap, cur, rfl, h2, h3, h4, h5, h6, h7⟩⟩ := h
  · omega
  · refine ⟨g, cap, rfl, h2, (Array.getElem?_eq_some_iff.1 h3).1, h4, fun j u hu => ?_⟩
    have hj : j < xs.length := (List.getElem?_eq_some_iff.1 hu).1
    rw [← h7] at hu
    rw [List.getElem?_take] at hu
    split at hu
    · refine ⟨?_, ?_⟩
      · simp only [World.cell?, h3]
        simpa using hu
      · simp only [World.frozen?, h3]
        simp
    · cases hu
theorem flat_get {α : Type} {N : Nat} {cells : α → List Value} (hN : ∀ x, (cells x).length = N) : ∀ (l : List α) (k : Nat) (c : α) (j : Nat) (u : Value), l[k]? = some c → (cells c)[j]? = some u → (l.flatMap cells)[k * N + j]? = some u
  | [], k, c, j, u, h, _ => by simp at h
  | a :: l, 0, c, j, u, h, hu => by
    have e : a = c := by simpa using h
    subst e
    have hj : j < (cells a).length := (List.getElem?_eq_some_iff.1 hu).1
    rw [List.flatMap_cons, Nat.zero_mul, Nat.zero_add, List.getElem?_append_left hj]
    exact hu
  | a :: l, k + 1, c, j, u, h, hu => by
    have h' : l[k]? = some c := by simpa using h
    have := flat_get hN l k c j u h' hu
    rw [List.flatMap_cons, List.getElem?_append_right (by rw [hN, Nat.succ_mul]; omega), hN, Nat.succ_mul, show k * N + N + j - N = k * N + j by omega]
    exact this
theorem own_rows {α : Type} {N : Nat} {cells : α → List Value} (hN : ∀ x, (cells x).length = N) {w : World} {base e : Nat} {v : Value} {l : List α} (h : w.ownsRow base e N v l.length (l.flatMap cells)) (hm : l.length ≤ 4611686018427387904) : RowsAt N cells w v l := by
  by_cases hl : l = []
  · subst hl
    rcases h.2 with ⟨h1, -⟩ | ⟨g, cap, cur, hv, -⟩
    · exact ⟨none, 0, h1, by simp, by simp, fun q => absurd rfl q⟩
    · exact ⟨_, cap, hv, by simp, by simp, fun q => absurd rfl q⟩
  · have h0 : 0 < l.length := by
      cases l with
      | nil => exact absurd rfl hl
      | cons a r => simp
    obtain ⟨g, cap, hv, -, -, hc, hcells⟩ := own_cells h h0
    refine ⟨some ⟨g, 0, none⟩, cap, hv, by omega, hc, fun _ => ⟨g, 0, rfl, fun k c hk j u hu => ?_⟩⟩
    rw [Nat.zero_add]
    exact (hcells _ u (flat_get hN l k c j u hk hu)).1
/-- A world that keeps w. -/
structure KW (w0 : World) where
  w : World
  k : Keep nob w0 w
instance (w0 : World) : Nonempty (KW w0) := ⟨⟨w0, Keep.refl _ _⟩⟩
theorem wp_region_keepq {P : Program} {id : Nat} {Q : Exit → Act → World → Prop} {a : Act} {w : World} {l : List Oper} (hm : P.follows .mixedOrders = true) (hB : Region.lexB .any l.toArray = true)
    (h : wpQuiet P l.toArray (fun w' => ∃ t : KW w, w' = t.w) (fun a' => ∀ w', (∃ t : KW w, w' = t.w) → Q .normal a' w') l a) : (Code.region id l.toArray true).wp P Q a w :=
  wp_region_quiet (C := fun w' => ∃ t : KW w, w' = t.w) hm hB ⟨⟨_, (Keep.refl nob w).drew⟩, rfl⟩ (by simpa using h)
theorem Calls.keepq {P : Program} {f : FuncId} {args : Array Value} {w0 : World} {t : KW w0} {v : Value} (h : Calls P f args t.w fun e w' => e = .returned v ∧ Keep Ytepmljcapobodaa.nob t.w w') : Calls P f args t.w fun e w'' => e = .returned v ∧ ∃ t' : KW w0, w'' = t'.w :=
  h.mono fun _ w'' ⟨he, hk⟩ => ⟨he, ⟨w'', t.k.then hk⟩, rfl⟩
theorem KW.cell {w0 : World} {p : Addr} {v : Value} (h : w0.cell? p = some v) : ∀ t : KW w0, t.w.cell? p = some v := fun t => t.k.some h (fun x => x)
theorem own_keep2 {w w' : World} {base : Nat} {e : TypeId} {size n : Nat} {v : Value} {xs : List Value} {S : Nat → Prop} (h : w.ownsRow base e size v n xs) (k : Keep S w w') (hS : ∀ g, v.ownBlock = some g → ¬ S g) :
    w'.ownsRow base e size v n xs := by
  obtain ⟨hl, h | ⟨g, cap, cur, h1, h2, h3, h4⟩⟩ := h
  · exact ⟨hl, Or.inl h⟩
  · exact ⟨hl, Or.inr ⟨g, cap, cur, h1, h2, (k.block g (Array.getElem?_eq_some_iff.1 h3).1 (hS g (by rw [h1]; rfl))).trans h3, h4⟩⟩
theorem own_tag {w : World} {base : Nat} {e : TypeId} {size n : Nat} {v : Value} {xs : List Value} (h : w.ownsRow base e size v n xs) {g : Nat} (hg : v.ownBlock = some g) : base ≤ g ∧ g < w.heap.size ∧ ∃ cur, w.heap[g]? = some (.cells cur e (0, 0)) := by
  obtain ⟨hl, ⟨h, _⟩ | ⟨g', cap, cur, h1, h2, h3, h4⟩⟩ := h
  · rw [h] at hg; cases hg
  · rw [h1] at hg
    have : g' = g := by injection hg
    subst this
    exact ⟨h2, (Array.getElem?_eq_some_iff.1 h3).1, cur, h3⟩
theorem own_ne {w : World} {b1 b2 : Nat} {e1 e2 : TypeId} {s1 s2 n1 n2 : Nat} {v1 v2 : Value} {x1 x2 : List Value} (h1 : w.ownsRow b1 e1 s1 v1 n1 x1) (h2 : w.ownsRow b2 e2 s2 v2 n2 x2) (ne : e1 ≠ e2) : ∀ g, v1.ownBlock = some g → v2.ownBlock = some g → False := by
  intro g g1 g2
  obtain ⟨_, _, c1, q1⟩ := own_tag h1 g1
  obtain ⟨_, _, c2, q2⟩ := own_tag h2 g2
  rw [q1] at q2
  injection q2 with q2
  injection q2 with _ q2 _
  exact ne q2
theorem own_set {w : World} {base : Nat} {e : TypeId} {size n g cap : Nat} {xs : List Value} (h : w.ownsRow base e size (.slice (some ⟨g, 0, none⟩) n cap) n xs) {j : Nat} (hj : j < xs.length) (u : Value) :
    (w.setCell ⟨g, j, none⟩ u).ownsRow base e size (.slice (some ⟨g, 0, none⟩) n cap) n (xs.set j u) := by
  obtain ⟨hl, ⟨h, _⟩ | ⟨g', cap', cur, h1, h2, h3, h4, h5, h6, h7⟩⟩ := h
  · cases h
  · injection h1 with q1 q2 q3
    injection q1 with q1
    injection q1 with q1
    subst q1
    refine ⟨by rw [List.length_set]; exact hl, Or.inr ⟨g, cap, cur.set! j u, rfl, h2, ?_, by omega, by omega, ?_, ?_⟩⟩
    · simp only [World.setCell, Array.getElem?_modify]
      rw [if_pos trivial, h3]
      simp
    · rw [Array.size_set!, h6, q3]
    · rw [← h7]
      simp [List.take_set]
section
variable {w : World} {base : Nat} {v : Value}
theorem row_form {e size n : Nat} {xs : List Value} (h : w.ownsRow base e size v n xs) : ∃ a cap, v = .slice a n cap := by
  rcases h.2 with ⟨h1, h2⟩ | ⟨g, cap, cur, hv, _⟩
  · exact ⟨none, 0, by rw [h1, h2]⟩
  · exact ⟨_, cap, hv⟩
theorem row_cases {e size n : Nat} {xs : List Value} (h : w.ownsRow base e size v n xs) : (v = .slice none 0 0 ∧ n = 0) ∨ ∃ g cap, v = .slice (some ⟨g, 0, none⟩) n cap ∧ n ≤ cap := by
  obtain ⟨hl, h | ⟨g, cap, cur, h1, h2, h3, h4, h5, h6, h7⟩⟩ := h
  · exact Or.inl h
  · exact Or.inr ⟨g, cap, h1, h4⟩
end
/-- 'append' of a slice that may be cut or nil, to a row of one's own. -/
theorem wpList_append_cut {P : Program} {w : World} {ops : Array Oper} {rest : List Oper} {o : Oper} {a : Act} {Q : Exit → Act → World → Prop} (hgd : o.guard = none) (s x : Operand) (t : TypeId)
    (ho : o.op = .call { callee := .builtin .append, args := #[s, x], argTypes := #[t, t] })
    (base : Nat) (e : TypeId) (i : TypeInfo) (z : Value) (size bytes : Nat) (ht : P.underlying t = some (.slice e)) (hi : P.info? e = some i) (hz : i.zero = some z)
    (hsize : i.size = size) (hby : i.bytes = bytes) (hzs : z.cells.size = size) (hsz : 0 < size)
    (v : Value) (n : Nat) (xs : List Value) (hs : a.eval s = v) (hown : w.ownsRow base e size v n xs)
    (ao : Option Addr) (m c : Nat) (news : List Value) (hx : a.eval x = .slice ao m c) (hnone : ao = none → m = 0 ∧ c = 0) (hl : news.length = m * size) (hnews : ∀ ad, ao = some ad → ∀ j u, news[j]? = some u → w.cell? (ad.add j) = some u) (h1 : ∀ u ∈ news, u.oneCell' = true)
    (h63 : n + m ≤ maxLen) (hbytes : (n + m) * bytes ≤ 140737488355328) (hbase : base ≤ w.heap.size)
    (h : ∀ v' w', w'.ownsRow base e size v' (n + m) (xs ++ news) → w.grownBy w' v.ownBlock → wpList P ops Q rest (a.put o.dst v') w') : wpList P ops Q (o :: rest) a w := by
  cases ao with
  | some ad => exact wpList_append_own w hgd s x t ho base e i z size bytes ht hi hz hsize hby hzs hsz v n xs hs hown ad m c news hx hl (hnews ad rfl) h1 h63 hbytes hbase (fun v' w' q1 q2 _ => h v' w' q1 q2)
  | none =>
    obtain ⟨rfl, rfl⟩ := hnone rfl
    have hn : news = [] := List.eq_nil_of_length_eq_zero (by simpa using hl)
    subst hn
    refine wpList_append_own_none hgd s x t ho base e i size ht hi v n xs hs hown hx ?_
    exact h v w (by simpa using hown) (World.grownBy.refl _ _)
/-- Behind an append to a row that is new since a. -/
theorem new_row {a b c : World} {e : TypeId} {size n : Nat} {v : Value} {xs : List Value} (k : Keep nob a b) (h : b.ownsRow a.heap.size e size v n xs) (g : b.grownBy c v.ownBlock) : Keep nob a c :=
  k.own_into (keep_of_own h g) (Nat.le_refl _)
end Go.Proofs.Ytepmljcapobodaa
