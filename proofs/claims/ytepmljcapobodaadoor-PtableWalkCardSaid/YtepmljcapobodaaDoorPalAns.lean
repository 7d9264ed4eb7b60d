/- What a call of a pool answers as one number (priorylaw09.answer); answers hang on the ranges alone. -/
import Derived.Test.YtepmljcapobodaaDoorPalNone
import Derived.Test.YtepmljcapobodaaDoorPalOne
namespace Go.Proofs.YtepmljcapobodaaDoor
open Go.RowKit
set_option linter.unusedVariables false
set_option maxRecDepth 100000
theorem ret_i64 {a b : Int} (h : a = b) : Ending.returned (.int .i64 a) = .returned (.int .i64 b) := by rw [h]
theorem one_new2 {w w1 : World} (K : Keep nob w w1) {b mf n : Nat} {c : Nat → Int} (M : MemAt w1 b mf n c) (hm : w.heap.size ≤ mf) :
    Calls Tryd.prog 18 #[.pointer (some ⟨b, 0, none⟩), .slice (some ⟨w1.heap.size, 0, none⟩) 1 1] (w1.alloc (.cells #[.int .i64 0, .int .i64 n] 31)) fun r w' =>
      ∃ B : PB, r = .returned (.tuple #[.pointer (some ⟨B.p, 0, none⟩), .int .i64 0]) ∧ Geo B ∧ PoolAt w' B c (fun _ => 0) 0 ∧ Since w B ∧ (∀ x : Int, B.inr 0 x ↔ 0 ≤ x ∧ x < n) ∧ B.l = [(0, n)] ∧ B.b = b ∧ B.mf = mf ∧ B.n = n ∧ w1.heap.size < B.lo ∧ B.hi = w'.heap.size ∧ Keep nob w1 w' := by
  have hn := M.lo
  have hn2 := M.hi
  refine (pool_new (M.next ((Keep.refl _ _).alloc _)) _ 1 [(0, (n : Int))] (ranges1 w1 0 n 31 (by unfold wfI; omega) (by unfold wfI; omega)) (by simp) (by simp) (by simp)).mono ?_
  rintro r w2 (⟨V, -⟩ | ⟨V, B, rfl, G, hb, hmf, hbn, hl, hlo, hhi, P, K2⟩)
  · exfalso
    apply V
    refine ⟨by simp, by simp, fun k hk => ?_⟩
    obtain rfl : k = 0 := by have hk : k < 1 := hk; omega
    exact ⟨by unfold fits; simp; omega, fun i hi => absurd hi (Nat.not_lt_zero i)⟩
  have e : (w1.alloc (.cells #[.int .i64 0, .int .i64 n] 31)).heap.size = w1.heap.size + 1 := World.size_alloc _ _
  have ks := K.size
  refine ⟨B, rfl, G, P, ⟨by omega, by omega⟩, fun x => ?_, by rw [hl]; unfold natL; simp, hb, hmf, hbn, by omega, hhi, ((Keep.refl nob _).alloc _).trans K2 (fun _ _ x => x)⟩
  unfold PB.inr PB.fr PB.mn
  rw [hl]
  show (0 < 1 ∧ ((0 : Nat) : Int) ≤ x ∧ x < ((0 : Nat) : Int) + (((n : Int).toNat : Nat) : Int)) ↔ _
  omega
theorem cnt_lt (n : Nat) : ∀ m, n ≤ m → cnt (fun k => decide (k < n)) m = n := by
  have h : ∀ m, cnt (fun k => decide (k < n)) m = min n m := by
    intro m
    induction m with
    | zero => simp [cnt]
    | succ m ih =>
      unfold cnt
      rw [ih]
      by_cases q : m < n
      · simp only [q, decide_true]; simp; omega
      · simp only [q, decide_false]; simp; omega
  intro m hm
  rw [h m]
  omega
/-- What two pools must be to be apart. -/
structure Apart (A B : PB) : Prop where
  b : ¬ own A B.b
  o : ∀ x, own B x → ¬ own A x
def PB.norm (B : PB) : PB := ⟨0, 0, 0, fun _ => 0, 0, 0, 0, 0, 0, 0, B.l⟩
theorem norm_eq {A B : PB} (h : A.l = B.l) : A.norm = B.norm := by unfold PB.norm; rw [h]
noncomputable def ansE (B : PB) (f : Int → Int) (o : Int × Int) : Int := if o.1 = 1 then (allE B f 0).1 * 100 + (allE B f 0).2 else if o.1 = 2 then shaE B f o.2 else if o.1 = 3 then freE B f o.2 else f o.2
noncomputable def ansF (B : PB) (f : Int → Int) (o : Int × Int) : Int → Int := if o.1 = 1 then allF B f 0 else if o.1 = 2 then shaF B f o.2 else if o.1 = 3 then freF B f o.2 else f
theorem ansE_norm (B : PB) (f : Int → Int) (o : Int × Int) : ansE B f o = ansE B.norm f o := rfl
theorem ansF_norm (B : PB) (f : Int → Int) (o : Int × Int) : ansF B f o = ansF B.norm f o := rfl
theorem leftN_norm (B : PB) (f : Int → Int) (j : Nat) : leftN B f j = leftN B.norm f j := rfl
theorem allE_bd {B : PB} (G : Geo B) (f : Int → Int) (x : Int) : 0 ≤ (allE B f x).1 ∧ (allE B f x).1 < 1024 ∧ 0 ≤ (allE B f x).2 ∧ (allE B f x).2 ≤ 3 := by
  unfold allE
  split
  · cases e : leastN B f x.toNat with
    | none => simp
    | some n =>
      have h := inr_lt G (leastN_some e).1
      have hn := G.n
      simp only
      omega
  · simp
theorem RefsOk.ans {B : PB} (G : Geo B) {f : Int → Int} (R : RefsOk B f) (o : Int × Int) : RefsOk B (ansF B f o) := by
  unfold ansF
  split
  · exact R.all 0
  split
  · exact R.sha G _
  split
  · exact R.fre G _
  · exact R
set_option maxHeartbeats 1000000 in
theorem answer_ok {w : World} {B : PB} {c : Nat → Int} {f : Int → Int} {q : Nat} (hT : TabAt 0 Lib.deBruijn64tab w) (G : Geo B) (R : RefsOk B f) (P : PoolAt w B c f q) (hq : q < 4611686018427387904) (o : Int × Int) (ho : pairFine o) :
    Calls Tryd.prog 25 #[.pointer (some ⟨B.p, 0, none⟩), .agg #[.int .i64 o.1, .int .i64 o.2]] w fun r w' =>
      r = .returned (.int .i64 (ansE B f o)) ∧ (∃ c', PoolAt w' B c' (ansF B f o) (q + 1)) ∧ Keep (own B) w w' := by
  obtain ⟨d, n⟩ := o
  have wn : wfI n := ho.2
  have K0 : Keep nob w (w.alloc (.cells #[.int .i64 d, .int .i64 n] 46)) := (Keep.refl _ _).alloc _
  have bd := allE_bd G f 0
  have P0 := Lib.hid (P.next G K0)
  have HT := Lib.hid (tab_keep hT K0)
  replace G := Lib.hid G
  replace R := Lib.hid R
  replace wn := Lib.hid wn
  clear P ho hT
  by_cases h1 : d = 1
  · have e : ansE B f (d, n) = (allE B f 0).1 * 100 + (allE B f 0).2 := by unfold ansE; rw [if_pos h1]
    have e2 : ansF B f (d, n) = allF B f 0 := by unfold ansF; rw [if_pos h1]
    rw [e, e2]
    subst h1
    have C := Lib.hid (alloc_any HT.out G.out P0.out hq 0)
    obtain ⟨a, ha⟩ : ∃ a, (allE B f 0).1 = a := ⟨_, rfl⟩
    obtain ⟨b, hb⟩ : ∃ b, (allE B f 0).2 = b := ⟨_, rfl⟩
    rw [ha, hb] at bd C ⊢
    obtain ⟨b1, b2, b3, b4⟩ := bd
    replace K0 := Lib.hid K0
    replace ha := Lib.hid ha
    replace hb := Lib.hid hb
    clear e e2
    go_enter Tryd.func25, Tryd.ntmps25
    go_wp2_with fail
    refine Calls.mono (C.out) ?_
    rintro r w1 ⟨rfl, P1, K1⟩
    go_wp2_with fail
    go_ret
    exact ⟨rfl, ⟨_, P1⟩, (K0.out.nob (S := own B)).trans K1 (fun _ _ x => x)⟩
  by_cases h2 : d = 2
  · have e : ansE B f (d, n) = shaE B f n := by unfold ansE; rw [if_neg h1, if_pos h2]
    have e2 : ansF B f (d, n) = shaF B f n := by unfold ansF; rw [if_neg h1, if_pos h2]
    rw [e, e2]
    subst h2
    have C := Lib.hid (share_any G.out R.out P0.out hq n wn.out)
    replace K0 := Lib.hid K0
    clear e e2 h1 bd
    go_enter Tryd.func25, Tryd.ntmps25
    go_wp2_with fail
    refine Calls.mono (C.out) ?_
    rintro r w1 ⟨rfl, P1, K1⟩
    go_wp2_with fail
    go_ret
    exact ⟨rfl, ⟨_, P1⟩, (K0.out.nob (S := own B)).trans K1 (fun _ _ x => x)⟩
  by_cases h3 : d = 3
  · have e : ansE B f (d, n) = freE B f n := by unfold ansE; rw [if_neg h1, if_neg h2, if_pos h3]
    have e2 : ansF B f (d, n) = freF B f n := by unfold ansF; rw [if_neg h1, if_neg h2, if_pos h3]
    rw [e, e2]
    subst h3
    have C := Lib.hid (free_any G.out R.out P0.out hq n wn.out)
    replace K0 := Lib.hid K0
    clear e e2 h1 h2 bd
    go_enter Tryd.func25, Tryd.ntmps25
    go_wp2_with fail
    refine Calls.mono (C.out) ?_
    rintro r w1 ⟨rfl, P1, K1⟩
    go_wp2_with fail
    go_ret
    exact ⟨rfl, ⟨_, P1⟩, (K0.out.nob (S := own B)).trans K1 (fun _ _ x => x)⟩
  · have e : ansE B f (d, n) = f n := by unfold ansE; rw [if_neg h1, if_neg h2, if_neg h3]
    have e2 : ansF B f (d, n) = f := by unfold ansF; rw [if_neg h1, if_neg h2, if_neg h3]
    rw [e, e2]
    have t1 : (d == 1) = false := by simpa using h1
    have t2 : (d == 2) = false := by simpa using h2
    have t3 : (d == 3) = false := by simpa using h3
    have C := Lib.hid (refs_ok P0.out n wn.out)
    replace K0 := Lib.hid K0
    clear e e2 h1 h2 h3 bd
    go_enter Tryd.func25, Tryd.ntmps25
    go_wp2_with fail
    refine Calls.mono (C.out) ?_
    rintro r w1 ⟨rfl, rfl⟩
    go_wp2_with fail
    go_ret
    exact ⟨rfl, ⟨_, P0.out.mono (Nat.le_succ _)⟩, K0.out.nob (S := own B)⟩
end Go.Proofs.YtepmljcapobodaaDoor
