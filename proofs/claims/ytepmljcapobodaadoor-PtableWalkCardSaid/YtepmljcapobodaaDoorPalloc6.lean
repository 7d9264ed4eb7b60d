/- A pool of package palloc: the laws of the counts; the state inside New. -/
import Derived.Test.YtepmljcapobodaaDoorPalloc5
import Derived.Deep.RegionLawGrows
import Derived.Lib.SmallJoins
namespace Go.Proofs.YtepmljcapobodaaDoor
open Go.RowKit
set_option linter.unusedVariables false
set_option maxRecDepth 100000
theorem RefsOk.upd {B : PB} {f : Int → Int} (R : RefsOk B f) (x v : Int) (j : Nat) (hj : B.inr j x) (h0 : 0 ≤ v) (h1 : v ≤ 64) : RefsOk B (updI f x v) := by
  refine ⟨fun y => ?_, fun y hy => ?_⟩
  · unfold updI; split
    · exact ⟨h0, h1⟩
    · exact R.rng y
  · unfold updI; split
    · rename_i e; rw [e] at hy; exact absurd hj (hy j)
    · exact R.out y hy
theorem RefsOk.zero (B : PB) : RefsOk B (fun _ => 0) := ⟨fun _ => by omega, fun _ _ => rfl⟩
theorem RefsOk.sha {B : PB} (G : Geo B) {f : Int → Int} (R : RefsOk B f) (x : Int) : RefsOk B (shaF B f x) := by
  unfold shaF
  split
  · rename_i h
    rcases in_or B x with ⟨j, hj⟩ | hj
    · unfold shaE at h
      rw [ownE_in G hj] at h
      have r := R.rng x
      have h64 : f x ≠ 64 := by
        intro e
        rw [e] at h
        simp at h
      exact R.upd x _ j hj (by omega) (by omega)
    · unfold shaE at h
      rw [ownE_out hj] at h
      simp at h
  · exact R
theorem RefsOk.fre {B : PB} (G : Geo B) {f : Int → Int} (R : RefsOk B f) (x : Int) : RefsOk B (freF B f x) := by
  unfold freF
  split
  · rename_i h
    rcases in_or B x with ⟨j, hj⟩ | hj
    · unfold freE at h
      rw [ownE_in G hj] at h
      have r := R.rng x
      have h64 : f x ≠ 0 := by
        intro e
        rw [e] at h
        simp at h
      exact R.upd x _ j hj (by omega) (by omega)
    · unfold freE at h
      rw [ownE_out hj] at h
      simp at h
  · exact R
theorem RefsOk.all {B : PB} {f : Int → Int} (R : RefsOk B f) (x : Int) : RefsOk B (allF B f x) := by
  unfold allF
  cases e : allN B f x with
  | none => exact R
  | some n =>
    unfold allN at e
    split at e
    · exact R.upd _ 1 _ (leastN_some e).1 (by decide) (by decide)
    · cases e
/-! ### New -/
/-- A row's cells from a list of ranges. -/
structure RangesAt (w : World) (a : Addr) (L : List (Int × Int)) : Prop where
  fr : ∀ j, j < L.length → w.cell? ⟨a.block, a.off + j * 2, none⟩ = some (.int .i64 (L.getD j (0, 0)).1)
  mn : ∀ j, j < L.length → w.cell? ⟨a.block, a.off + j * 2 + 1, none⟩ = some (.int .i64 (L.getD j (0, 0)).2)
  wf : ∀ j, wfI (L.getD j (0, 0)).1 ∧ wfI (L.getD j (0, 0)).2
  nost : a = ⟨a.block, a.off, none⟩
/-- Two ranges meet. -/
def meet (L : List (Int × Int)) (i j : Nat) : Prop := (L.getD j (0, 0)).1 < (L.getD i (0, 0)).1 + (L.getD i (0, 0)).2 ∧ (L.getD i (0, 0)).1 < (L.getD j (0, 0)).1 + (L.getD j (0, 0)).2
def fits (n : Nat) (L : List (Int × Int)) (k : Nat) : Prop := 0 ≤ (L.getD k (0, 0)).1 ∧ (L.getD k (0, 0)).1 < n ∧ 1 ≤ (L.getD k (0, 0)).2 ∧ (L.getD k (0, 0)).2 ≤ n - (L.getD k (0, 0)).1
def Valid (n : Nat) (L : List (Int × Int)) : Prop := 1 ≤ L.length ∧ L.length ≤ 8 ∧ ∀ k, k < L.length → fits n L k ∧ ∀ i, i < k → ¬ meet L i k
/-- The state inside New, k ranges done. -/
structure NewAt (w0 wr : World) (b : Nat) (L : List (Int × Int)) (k : Nat) (v : Value) (xs : List Value) (s : Nat → Nat) : Prop where
  pm : wr.cell? ⟨w0.heap.size + 1, 0, none⟩ = some (.pointer (some ⟨b, 0, none⟩))
  pl : wr.cell? ⟨w0.heap.size + 1, 1, none⟩ = some v
  pr : wr.cell? ⟨w0.heap.size + 1, 2, none⟩ = some (.map (some w0.heap.size))
  pf : ∀ i, wr.frozen? ⟨w0.heap.size + 1, i, none⟩ = false
  row : wr.ownsRow (w0.heap.size + 2) 120 3 v k xs
  x0 : ∀ j, j < k → xs[j * 3]? = some (.pointer (some ⟨s j, 0, none⟩))
  x1 : ∀ j, j < k → xs[j * 3 + 1]? = some (.int .i64 (L.getD j (0, 0)).1)
  x2 : ∀ j, j < k → xs[j * 3 + 2]? = some (.int .i64 (L.getD j (0, 0)).2)
  set : ∀ j, j < k → w0.heap.size + 2 ≤ s j ∧ some (s j) ≠ v.ownBlock ∧ ∃ W, SetAt wr (s j) W ∧ RangeIs W (L.getD j (0, 0)).1.toNat (L.getD j (0, 0)).2.toNat
  inj : ∀ i j, i < k → j < k → s i = s j → i = j
  map : MapI wr w0.heap.size 0 (fun _ => 0)
  ok : Keep nob w0 wr
theorem NewAt.next {w0 wr w' : World} {b : Nat} {L : List (Int × Int)} {k : Nat} {v : Value} {xs : List Value} {s : Nat → Nat} (h : NewAt w0 wr b L k v xs s) (K : Keep nob wr w') : NewAt w0 w' b L k v xs s :=
  ⟨K.some h.pm (fun x => x), K.some h.pl (fun x => x), K.some h.pr (fun x => x), fun i => (K.frozen (p := ⟨w0.heap.size + 1, i, none⟩) (World.block_lt_of_cell? wr ⟨w0.heap.size + 1, 0, none⟩ h.pm) (fun x => x)).trans (h.pf i), own_next h.row K, h.x0, h.x1, h.x2,
    fun j hj => let ⟨a, e, W, S, R⟩ := h.set j hj; ⟨a, e, W, S.next K, R⟩, h.inj, h.map.next K, h.ok.trans K (fun _ _ x => x)⟩
theorem step_append_own {P : Program} {ops : Array Oper} {o : Oper} {a : Act} {w : World} {K : Act → World → Prop} {Q : Exit → Act → World → Prop} {E : Prop}
    (hg : o.guard = none) (s x : Operand) (t : TypeId) (hop : o.op = Op.call { callee := Callee.builtin Builtin.append, args := #[s, x], argTypes := #[t, t] })
    (e : TypeId) (i : TypeInfo) (z : Value) (size bytes : Nat) (h1 : P.underlying t = some (.slice e)) (h2 : P.info? e = some i) (h3 : i.zero = some z) (h4 : i.size = size) (h5 : i.bytes = bytes) (h6 : z.cells.size = size) (h7 : 0 < size)
    (base : Nat) (v : Value) (n : Nat) (xs : List Value) (hs : a.eval s = v) (hown : w.ownsRow base e size v n xs) (hbase : base ≤ w.heap.size)
    (ad : Addr) (m c : Nat) (news : List Value) (hx : a.eval x = .slice (some ad) m c) (hn : news.length = m * size) (hc : ∀ j u, news[j]? = some u → w.cell? (ad.add j) = some u) (h1c : ∀ u ∈ news, u.oneCell' = true)
    (b1 : n + m ≤ maxLen) (b2 : (n + m) * bytes ≤ 140737488355328)
    (hK : ∀ v' w', w'.ownsRow base e size v' (n + m) (xs ++ news) → w.grownBy w' v.ownBlock → (v' = .slice none 0 0 ↔ v = .slice none 0 0 ∧ m = 0) → K (a.put o.dst v') w') :
    if Region.wanted o (yielded ops a.tmps) = true then Oper.wp P o a w K Q else E := by
  have hw : Region.wanted o (yielded ops a.tmps) = true := by simp [Region.wanted, hg]
  rw [if_pos hw]
  obtain ⟨v', w', hrun, r1, r2, r3⟩ := run_append_own (P := P) w base t o.type e i z size bytes h1 h2 h3 h4 h5 h6 h7 v n xs hown ad m c news hn hc h1c b1 b2 hbase
  unfold Oper.wp
  simp [execOp, hop, resolve, invoke, builtin, hs, hx, hrun, Result.andThen]
  exact hK v' w' r1 r2 r3
theorem NewAt.push {w0 w5 w6 w7 w8 : World} {b : Nat} {L : List (Int × Int)} {k : Nat} {v v' : Value} {xs : List Value} {s : Nat → Nat} {W : Nat → Nat} (N : NewAt w0 w5 b L k v xs s) (K5 : Keep nob w5 w6) (S : SetAt w6 w5.heap.size W)
    (R : RangeIs W (L.getD k (0, 0)).1.toNat (L.getD k (0, 0)).2.toNat) (K6 : Keep nob w6 w7)
    (hown : w8.ownsRow (w0.heap.size + 2) 120 3 v' (k + 1) (xs ++ [.pointer (some ⟨w5.heap.size, 0, none⟩), .int .i64 (L.getD k (0, 0)).1, .int .i64 (L.getD k (0, 0)).2])) (hg : w7.grownBy w8 v.ownBlock) :
    NewAt w0 (w8.setCell ⟨w0.heap.size + 1, 1, none⟩ v') b L (k + 1) v' (xs ++ [.pointer (some ⟨w5.heap.size, 0, none⟩), .int .i64 (L.getD k (0, 0)).1, .int .i64 (L.getD k (0, 0)).2]) (fun j => if j = k then w5.heap.size else s j) := by
  have hl : xs.length = k * 3 := N.row.1
  have N7 := N.next (K5.trans K6 (fun _ _ x => x))
  have Kg : Keep (since (w0.heap.size + 2)) w7 w8 := keep_of_own N7.row hg
  have hp : ¬ since (w0.heap.size + 2) (w0.heap.size + 1) := fun e => by have e : w0.heap.size + 2 ≤ w0.heap.size + 1 := e; omega
  have hr : ¬ since (w0.heap.size + 2) w0.heap.size := fun e => by have e : w0.heap.size + 2 ≤ w0.heap.size := e; omega
  have hb5 : w0.heap.size + 1 < w5.heap.size := World.block_lt_of_cell? _ _ N.pm
  have hgk : ∀ g, some g ≠ v.ownBlock → Keep nob w6 w7 → ∀ W', SetAt w7 g W' → SetAt w8 g W' := fun g hne _ W' h =>
    ⟨hg.cell h.made hne, fun i hi => hg.cell (h.cell i hi) hne, fun i => (World.frozen?_of_block (a := ⟨g, i, none⟩) (hg.block g h.blt hne)).trans (h.free i), h.lt⟩
  have hset : ∀ j, j < k + 1 → w0.heap.size + 2 ≤ (if j = k then w5.heap.size else s j) ∧ ∃ W', SetAt w8 (if j = k then w5.heap.size else s j) W' ∧ RangeIs W' (L.getD j (0, 0)).1.toNat (L.getD j (0, 0)).2.toNat := fun j hj => by
    by_cases e : j = k
    · rw [if_pos e, e]
      refine ⟨by omega, W, hgk _ ?_ K6 W (S.next K6), R⟩
      intro h
      exact absurd (N.row.lt _ h.symm).2 (Nat.lt_irrefl _)
    · rw [if_neg e]
      obtain ⟨h1, h2, W', h3, h4⟩ := N7.set j (by omega)
      exact ⟨h1, W', hgk _ h2 K6 W' h3, h4⟩
  have hx0 : ∀ j, j < k + 1 → (xs ++ [Value.pointer (some ⟨w5.heap.size, 0, none⟩), .int .i64 (L.getD k (0, 0)).1, .int .i64 (L.getD k (0, 0)).2])[j * 3]? = some (.pointer (some ⟨if j = k then w5.heap.size else s j, 0, none⟩)) := fun j hj => by
    by_cases e : j = k
    · rw [if_pos e, e, List.getElem?_append_right (by omega), show k * 3 - xs.length = 0 by omega]; rfl
    · rw [if_neg e, List.getElem?_append_left (by omega)]; exact N.x0 j (by omega)
  have hpn : ∀ q, (w8.setCell ⟨w0.heap.size + 1, 1, none⟩ v').cell? q = if q = ⟨w0.heap.size + 1, 1, none⟩ then some v' else w8.cell? q := fun q => by
    by_cases e : q = ⟨w0.heap.size + 1, 1, none⟩
    · rw [if_pos e, e]; exact setCell_eq (Kg.some N7.pl hp)
    · rw [if_neg e]; exact World.cell?_setCell_other _ _ _ _ (fun h => e h.symm)
  have Kp : Keep (only (w0.heap.size + 1)) w8 (w8.setCell ⟨w0.heap.size + 1, 1, none⟩ v') := (Keep.refl _ _).store _ _
  refine ⟨?_, ?_, ?_, fun i => ?_, own_keep hown Kp (fun g hg e => by have e : g = w0.heap.size + 1 := e; omega), hx0, fun j hj => ?_, fun j hj => ?_, fun j hj => ?_, fun i j hi hj h => ?_, ?_, ?_⟩
  · rw [setCell_off (by show (1 : Nat) ≠ 0; decide)]; exact Kg.some N7.pm hp
  · exact setCell_eq (Kg.some N7.pl hp)
  · rw [setCell_off (by show (1 : Nat) ≠ 2; decide)]; exact Kg.some N7.pr hp
  · rw [frozen_setCell]; exact (Kg.frozen (p := ⟨w0.heap.size + 1, i, none⟩) (World.block_lt_of_cell? w7 ⟨w0.heap.size + 1, 0, none⟩ N7.pm) hp).trans (N7.pf i)
  · by_cases e : j = k
    · rw [e, List.getElem?_append_right (by omega), show k * 3 + 1 - xs.length = 1 by omega]; rfl
    · rw [List.getElem?_append_left (by omega)]; exact N.x1 j (by omega)
  · by_cases e : j = k
    · rw [e, List.getElem?_append_right (by omega), show k * 3 + 2 - xs.length = 2 by omega]; rfl
    · rw [List.getElem?_append_left (by omega)]; exact N.x2 j (by omega)
  · obtain ⟨h1, W', h2, h3⟩ := hset j hj
    refine ⟨h1, ?_, W', h2.keep Kp (fun e => by have e : (if j = k then w5.heap.size else s j) = w0.heap.size + 1 := e; omega), h3⟩
    intro h
    have c0 := hown.cells h.symm 0 _ (hx0 0 (by omega))
    have c1 := h2.made
    have e : (⟨if j = k then w5.heap.size else s j, 0, none⟩ : Addr).add 0 = ⟨if j = k then w5.heap.size else s j, 0, none⟩ := rfl
    rw [e, c1] at c0
    cases c0
  · by_cases e : i = k
    · by_cases e2 : j = k
      · omega
      · simp only [if_pos e, if_neg e2] at h
        obtain ⟨_, _, W', h3, _⟩ := N.set j (by omega)
        have := h3.blt
        omega
    · by_cases e2 : j = k
      · simp only [if_pos e2, if_neg e] at h
        obtain ⟨_, _, W', h3, _⟩ := N.set i (by omega)
        have := h3.blt
        omega
      · simp only [if_neg e, if_neg e2] at h
        exact N.inj i j (by omega) (by omega) h
  · exact (N7.map.keep Kg hr).keep Kp (fun e => by have e : w0.heap.size = w0.heap.size + 1 := e; omega)
  · refine (N7.ok.own_into Kg (by omega)).trans Kp (fun q hq e => ?_)
    have e : q = w0.heap.size + 1 := e
    omega
end Go.Proofs.YtepmljcapobodaaDoor
