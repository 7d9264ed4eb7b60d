/- A map[int]*T of one's own, as a function to blocks. -/
import Derived.Test.YtepmljcapobodaaFlat
import Derived.Maps.RangeWalk
import Derived.Maps.OwnSet
import Derived.Lib.SlKeysI
namespace Go.Proofs.Ytepmljcapobodaa
open Go.RowKit Go.ChangeMaps Go.MapKept
open Go.Maps
set_option linter.unusedVariables false
set_option maxRecDepth 100000
def codeP : Option Nat → Int
  | none => -1
  | some b => b
def ptrV : Option Nat → Value
  | none => .pointer none
  | some b => .pointer (some ⟨b, 0, none⟩)
theorem codeP_inj {a b : Option Nat} (h : codeP a = codeP b) : a = b := by
  cases a <;> cases b <;> simp only [codeP] at h
  · rfl
  · omega
  · omega
  · congr; omega
/-- How an element that is a pointer to a block's start reads. -/
def ptrElem (v : Value) : Option (DataW Unit × List MemPlace) :=
  match v with
  | .pointer none => some (.lit (.int .i64 (-1)), [])
  | .pointer (some ⟨b, 0, none⟩) => some (.lit (.int .i64 b), [])
  | _ => none
theorem ptrElem_of (x : Option Nat) : ptrElem (ptrV x) = some (.lit (.int .i64 (codeP x)), []) := by cases x <;> rfl
theorem ptrElem_inv {v : Value} {y : DataW Unit × List MemPlace} (h : ptrElem v = some y) : ∃ x, v = ptrV x ∧ y = (.lit (.int .i64 (codeP x)), []) := by
  unfold ptrElem at h
  split at h
  · injection h with h; exact ⟨none, rfl, h.symm⟩
  · rename_i b
    injection h with h; exact ⟨some b, rfl, h.symm⟩
  · cases h
/-- Block b of w is a map of at most n entries, whose keys are those that f has, and that leads to their blocks. -/
def DataIs (D : DataW Unit) (f : Int → Option Nat) : Prop := (∀ k, D.atKey (.int .i64 k) (.lit (.int .i64 (-1))) = .lit (.int .i64 (codeP (f k)))) ∧ ∀ k, Maps.has D (.int .i64 k) = (f k).isSome
def MapP (w : World) (b n : Nat) (f : Int → Option Nat) : Prop := ∃ D : DataW Unit, w.ownsMap Try.prog 3 ptrElem b n D ∧ IsMap D ∧ DataIs D f
theorem MapP.blt {w : World} {b n : Nat} {f : Int → Option Nat} (h : MapP w b n f) : b < w.heap.size := by
  obtain ⟨D, hD, -⟩ := h
  exact hD.lt
theorem ownsMap_keep {w w' : World} {b n : Nat} {D : DataW Unit} {R : Value → Option (DataW Unit × List MemPlace)} {S : Nat → Prop} (h : w.ownsMap Try.prog 3 R b n D) (k : Keep S w w') (hs : ¬ S b) : w'.ownsMap Try.prog 3 R b n D := by
  have hlt := h.lt
  obtain ⟨es, clock, hb, F, hz, hD⟩ := h
  exact ⟨es, clock, (k.block b hlt hs).trans hb, F, hz, hD⟩
theorem MapP.keep {w w' : World} {b n : Nat} {f : Int → Option Nat} {S : Nat → Prop} (h : MapP w b n f) (k : Keep S w w') (hs : ¬ S b) : MapP w' b n f := by
  obtain ⟨D, hD, r⟩ := h
  exact ⟨D, ownsMap_keep hD k hs, r⟩
theorem MapP.next {w w' : World} {b n : Nat} {f : Int → Option Nat} (h : MapP w b n f) (k : Keep nob w w') : MapP w' b n f := h.keep k (fun x => x)
theorem MapP.mono {w : World} {b n m : Nat} {f : Int → Option Nat} (h : MapP w b n f) (hm : n ≤ m) : MapP w b m f := by
  obtain ⟨D, hD, r⟩ := h
  exact ⟨D, hD.mono hm, r⟩
theorem MapP.made (w : World) : MapP (w.alloc (.map #[] 0)) w.heap.size 0 (fun _ => none) := ⟨.map [], World.ownsMap_made _ _ _ _, isMap_empty, fun k => rfl, fun k => rfl⟩
theorem ranges_keep {w w' : World} {b r n cnt : Nat} {D : DataW Unit} {R : Value → Option (DataW Unit × List MemPlace)} {left : Lit → Bool} {S : Nat → Prop} (h : w.ranges Try.prog 3 R b r n D left cnt) (k : Keep S w w') (hb : ¬ S b) (hr : ¬ S r) : w'.ranges Try.prog 3 R b r n D left cnt := by
  have h1 := h.owns.lt
  have h2 := h.lt
  obtain ⟨es, clock, since, seen, c0, e1, F, hz, hD, e2, rest⟩ := h
  exact ⟨es, clock, since, seen, c0, (k.block b h1 hb).trans e1, F, hz, hD, (k.block r h2 hr).trans e2, rest⟩
def updP (f : Int → Option Nat) (k : Int) (v : Option Nat) : Int → Option Nat := fun x => if x = k then v else f x
theorem updP_at (f : Int → Option Nat) (k : Int) (v : Option Nat) : updP f k v k = v := if_pos rfl
theorem updP_ne {f : Int → Option Nat} {k x : Int} {v : Option Nat} (h : x ≠ k) : updP f k v x = f x := if_neg h
theorem zeroP (w : World) : (zeroValue 52).run Try.prog w = .ok (.pointer none) w := by kernel_rfl
section
variable {ops : Array Oper} {rest : List Oper} {o : Oper} {a : Act} {w : World} {Q : Exit → Act → World → Prop}
theorem look_run {w : World} {b n : Nat} {f : Int → Option Nat} (h : MapP w b n f) {k : Int} (hk : wfI k) : (Instr.lookup 47 (.map (some b)) (.int .i64 k) false).run Try.prog w = .ok (ptrV (f k)) w := by
  obtain ⟨D, hD, hM, hf, -⟩ := h
  obtain ⟨v, ps, hrun, hv⟩ := hD.lookup keyedI Try.underlying47 (zeroP w) (ptrElem_of none) (keyOf_int_mk Try.underlying3 hk.wf)
  obtain ⟨y, rfl, e⟩ := ptrElem_inv hv
  have e1 := (Prod.mk.inj e).1
  rw [show (DataW.lit (.int .i64 (codeP none)) : DataW Unit) = .lit (.int .i64 (-1)) from rfl, hf k] at e1
  injection e1 with e1
  injection e1 with _ e1
  have := codeP_inj e1
  subst this
  exact hrun
theorem look_at {w : World} {b n : Nat} {f : Int → Option Nat} (h : MapP w b n f) {k : Int} (hk : wfI k) {o : Option Nat} (e : f k = o) {v : Value} (hv : ptrV o = v) : (Instr.lookup 47 (.map (some b)) (.int .i64 k) false).run Try.prog w = .ok v w := by
  have := look_run h hk
  rwa [e, hv] at this
theorem look_no {w : World} {b n : Nat} {f : Int → Option Nat} (h : MapP w b n f) {k : Int} (hk : wfI k) (e : f k = none) : (Instr.lookup 47 (.map (some b)) (.int .i64 k) false).run Try.prog w = .ok (.pointer none) w := look_at h hk e rfl
theorem look_yes {w : World} {b n : Nat} {f : Int → Option Nat} (h : MapP w b n f) {k : Int} (hk : wfI k) {p : Nat} (e : f k = some p) : (Instr.lookup 47 (.map (some b)) (.int .i64 k) false).run Try.prog w = .ok (.pointer (some ⟨p, 0, none⟩)) w := look_at h hk e rfl
theorem wpList_lookP (hg : o.guard = none) (m x : Operand) (hop : o.op = Op.lookup 47 m x false) (b n : Nat) (f : Int → Option Nat) (h : MapP w b n f) (k : Int) (hk : wfI k)
    (hm : a.eval m = .map (some b)) (hx : a.eval x = .int .i64 k) (v : Value) (hv : ptrV (f k) = v) (hK : wpList Try.prog ops Q rest (a.put o.dst v) w) : wpList Try.prog ops Q (o :: rest) a w := by
  have hrun := look_run h hk
  rw [hv] at hrun
  refine wpList_plain hg fun K' hK' => ?_
  unfold Oper.wp
  simp [execOp, hop, hm, hx, hrun, Result.andThen]
  exact hK' _ _ hK
theorem put_run {b n : Nat} {f : Int → Option Nat} (h : MapP w b n f) (hn : n < 4611686018427387904) {k : Int} (c : Nat) (hk : wfI k) :
    ∃ w', (Instr.mapUpdate 47 (.map (some b)) (.int .i64 k) (.pointer (some ⟨c, 0, none⟩))).run Try.prog w = .ok () w' ∧ MapP w' b (n + 1) (updP f k (some c)) ∧ Keep (only b) w w' := by
  obtain ⟨D, hD, hM, hf, hh⟩ := h
  obtain ⟨w', hrun, hD', hG⟩ := hD.update keyedI Try.underlying47 (by unfold maxLen; omega) (keyOf_int_mk Try.underlying3 hk.wf) (ptrElem_of (some c))
  refine ⟨w', hrun, ⟨_, hD', hM.put _ _, fun x => ?_, fun x => ?_⟩, keep_of_grown_at hG⟩
  · by_cases q : x = k
    · rw [q, updP_at]
      exact atKey_put_same hM (by simp [WideAt.IsKeyLit]) _ _
    · rw [updP_ne q, ← hf x]
      exact atKey_put_other (lit_int_ne q) _ _
  · by_cases q : x = k
    · rw [q, updP_at]
      exact has_put_same hM (by simp [WideAt.IsKeyLit]) _
    · rw [updP_ne q, ← hh x]
      exact has_put_other (lit_int_ne q) _
theorem wpList_putP (hg : o.guard = none) (m x v : Operand) (hop : o.op = Op.mapUpdate 47 m x v) (b n : Nat) (f : Int → Option Nat) (h : MapP w b n f) (hn : n < 4611686018427387904) (k : Int) (c : Nat) (hk : wfI k)
    (hm : a.eval m = .map (some b)) (hx : a.eval x = .int .i64 k) (hv : a.eval v = .pointer (some ⟨c, 0, none⟩))
    (hK : ∀ w', MapP w' b (n + 1) (updP f k (some c)) → Keep (only b) w w' → wpList Try.prog ops Q rest (a.put o.dst undef) w') : wpList Try.prog ops Q (o :: rest) a w := by
  obtain ⟨D, hD, hM, hf, hh⟩ := h
  refine wpList_mapUpdate_own w hg m x v _ hop 3 52 keyedI Try.underlying47 _ b n D hm hD (by unfold maxLen; omega) _ _ _ hx hv (keyOf_int_mk Try.underlying3 hk.wf) _ [] (ptrElem_of (some c)) ?_
  intro w' hD' hG
  refine hK w' ⟨_, hD', hM.put _ _, fun x => ?_, fun x => ?_⟩ (keep_of_grown_at hG)
  · by_cases q : x = k
    · rw [q, updP_at]
      exact atKey_put_same hM (by simp [WideAt.IsKeyLit]) _ _
    · rw [updP_ne q, ← hf x]
      exact atKey_put_other (lit_int_ne q) _ _
  · by_cases q : x = k
    · rw [q, updP_at]
      exact has_put_same hM (by simp [WideAt.IsKeyLit]) _
    · rw [updP_ne q, ← hh x]
      exact has_put_other (lit_int_ne q) _
theorem wpList_delP (hg : o.guard = none) (m x : Operand) (hop : o.op = Op.call { callee := Callee.builtin Builtin.delete, args := #[m, x], argTypes := #[47, 3] }) (b n : Nat) (f : Int → Option Nat) (h : MapP w b n f) (k : Int) (hk : wfI k)
    (hm : a.eval m = .map (some b)) (hx : a.eval x = .int .i64 k)
    (hK : ∀ w', MapP w' b n (updP f k none) → Keep (only b) w w' → wpList Try.prog ops Q rest (a.put o.dst (.tuple #[])) w') : wpList Try.prog ops Q (o :: rest) a w := by
  obtain ⟨D, hD, hM, hf, hh⟩ := h
  refine wpList_delete_own w hg m x _ _ hop 52 keyedI Try.underlying47 _ b n D hm hD _ _ hx (keyOf_int_mk Try.underlying3 hk.wf) ?_
  intro w' hD' hG
  refine hK w' ⟨_, hD', hM.del _, fun x => ?_, fun x => ?_⟩ (keep_of_turned hG)
  · by_cases q : x = k
    · rw [q, updP_at]
      exact atKey_del_same _
    · rw [updP_ne q, ← hf x]
      exact atKey_del_other (lit_int_ne q) _
  · by_cases q : x = k
    · rw [q, updP_at]
      exact has_del_same
    · rw [updP_ne q, ← hh x]
      exact has_del_other (lit_int_ne q)
/-- A range over the map under way: 'left': the keys that are still to come. -/
def RangeP (w : World) (b r n : Nat) (f : Int → Option Nat) (left : Int → Bool) (cnt : Nat) : Prop :=
  ∃ (D : DataW Unit) (lf : Lit → Bool), w.ranges Try.prog 3 ptrElem b r n D lf cnt ∧ IsMap D ∧ DataIs D f ∧ ∀ k, lf (.int .i64 k) = left k
theorem RangeP.keep {w' : World} {b r n cnt : Nat} {f : Int → Option Nat} {left : Int → Bool} {S : Nat → Prop} (h : RangeP w b r n f left cnt) (k : Keep S w w') (hb : ¬ S b) (hr : ¬ S r) : RangeP w' b r n f left cnt := by
  obtain ⟨D, lf, h1, h2⟩ := h
  exact ⟨D, lf, ranges_keep h1 k hb hr, h2⟩
theorem RangeP.left_eq {b r n cnt : Nat} {f : Int → Option Nat} {left : Int → Bool} (h : RangeP w b r n f left cnt) : w.rangeLeft b r = cnt := by
  obtain ⟨D, lf, h1, h2⟩ := h
  exact h1.left_eq
theorem RangeP.map {b r n cnt : Nat} {f : Int → Option Nat} {left : Int → Bool} (h : RangeP w b r n f left cnt) : MapP w b n f := by
  obtain ⟨D, lf, h1, h2, h3, -⟩ := h
  exact ⟨D, h1.owns, h2, h3⟩
theorem RangeP.rlt {b r n cnt : Nat} {f : Int → Option Nat} {left : Int → Bool} (h : RangeP w b r n f left cnt) : r < w.heap.size := by
  obtain ⟨D, lf, h1, h2⟩ := h
  exact h1.lt
theorem wpList_rangeP (hg : o.guard = none) (m : Operand) (hop : o.op = Op.range 47 m) (b n : Nat) (f : Int → Option Nat) (h : MapP w b n f) (hm : a.eval m = .map (some b))
    (hK : ∀ w' cnt, RangeP w' b w.heap.size n f (fun k => (f k).isSome) cnt → Keep nob w w' → w'.heap.size = w.heap.size + 1 → wpList Try.prog ops Q rest (a.put o.dst (.pointer (some ⟨w.heap.size, 0, none⟩))) w') :
    wpList Try.prog ops Q (o :: rest) a w := by
  obtain ⟨D, hD, hM, hf, hh⟩ := h
  refine wpList_range_own w hg m _ hop 3 52 keyedI Try.underlying47 ptrElem b n D hm hD ?_
  intro w' hr hG hz
  exact hK w' _ ⟨D, _, hr, hM, ⟨hf, hh⟩, hh⟩ ⟨hG.os, hG.tape, hG.output, hG.size, fun k hk _ => hG.block k hk (by simp)⟩ hz
theorem sameKey_int (x y : Int) : (Lit.int .i64 x).sameKey (.int .i64 y) = decide (x = y) := by
  by_cases h : x = y
  · subst h; simp [Lit.sameKey]
  · simp [Lit.sameKey, h]
theorem wpList_nextP (hg : o.guard = none) (it : Operand) (hop : o.op = Op.next it false) (b r n cnt : Nat) (f : Int → Option Nat) (left : Int → Bool) (hit : a.eval it = .pointer (some ⟨r, 0, none⟩)) (h : RangeP w b r n f left cnt)
    (hDone : (∀ k, left k = false) → wpList Try.prog ops Q rest (a.put o.dst (.tuple #[.bool false])) w)
    (hMore : ∀ (k : Int) (p : Nat) (w' : World) (cnt' : Nat), wfI k → left k = true → f k = some p → RangeP w' b r n f (fun z => left z && !decide (z = k)) cnt' → cnt' < cnt → Keep (only r) w w' → w'.heap.size = w.heap.size →
      (Instr.entry (.pointer (some ⟨r, 0, none⟩))).run Try.prog w' = .ok (.tuple #[.int .i64 k, .pointer (some ⟨p, 0, none⟩)]) w' → wpList Try.prog ops Q rest (a.put o.dst (.tuple #[.bool true, .int .i64 k, .pointer (some ⟨p, 0, none⟩)])) w') :
    wpList Try.prog ops Q (o :: rest) a w := by
  obtain ⟨D, lf, hr, hM, ⟨hf, hh⟩, hl⟩ := h
  refine wpList_next_ranges w hg it hop 3 keyedI ptrElem (Value.int .i64) ptrV (fun key kl hkey => by obtain ⟨x, rfl, _⟩ := Maps.keyOf_int_inv Try.underlying3 hkey; exact ⟨x, rfl⟩) (fun v y hv => by obtain ⟨c, rfl, _⟩ := ptrElem_inv hv; exact ⟨c, rfl⟩) b r n D lf cnt hit hr ?_ ?_
  · intro _ h0
    exact hDone fun k => by rw [← hl k]; exact h0 _
  · intro x c kl y w' cnt' hkey hlk hv hat hrg hlt hgr hsz hen
    obtain ⟨x', ex, rfl, hwx⟩ := Maps.keyOf_int_inv Try.underlying3 hkey
    cases ex
    have e1 : codeP (f x) = codeP c := by
      have h1 := hat (.lit (.int .i64 (-1)))
      rw [hf x] at h1
      rw [ptrElem_of c] at hv
      injection hv with hv
      rw [← hv] at h1
      injection h1 with h1
      injection h1 with _ h1
    have e2 : f x = c := codeP_inj e1
    have e3 : (f x).isSome = true := by
      rw [← hh x]
      exact has_true_of_atKey hat
    obtain ⟨p, hp⟩ := Option.isSome_iff_exists.1 e3
    have e4 : c = some p := e2.symm.trans hp
    subst e4
    refine hMore x p w' cnt' (wfI_of hwx) (by rw [← hl x]; exact hlk) hp ⟨D, _, hrg, hM, ⟨hf, hh⟩, fun z => ?_⟩ hlt (keep_of_grown_at hgr) hsz hen
    rw [hl z, sameKey_int]
end
end Go.Proofs.Ytepmljcapobodaa
