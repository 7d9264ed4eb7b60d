/- The iterator of package ptable: a table's entries that are there. -/
import Derived.Test.YtepmljcapobodaaDoorPt
import Derived.Test.YtepmljcapobodaaDoorWords
import Derived.RangeFuncNested
import Derived.RangeFuncBound
import Derived.RangeFuncCalls
import Derived.RangeFuncLeaves
import Derived.RangeFuncBox
import Derived.Shelf.Abstract
import Derived.Shelf.RegionOpen
import Derived.OwnWalkIn
import Derived.TacticsInMore
import Derived.LoopNIn
import Derived.LoopIn
namespace Go.Proofs.YtepmljcapobodaaDoor
open Go.RowKit Go.Shelf
set_option linter.unusedVariables false
set_option maxRecDepth 100000
attribute [local go_sem] Oper.semAt_some
/-- The entries that are there among the first k words. -/
def presL (ws : List Int) : Nat → List (Nat × Ent)
  | 0 => []
  | k + 1 => if (getR (ws.getD k 0)).p then presL ws k ++ [(k, getR (ws.getD k 0))] else presL ws k
theorem presL_len (ws : List Int) : ∀ k, (presL ws k).length ≤ k
  | 0 => Nat.le_refl _
  | k + 1 => by have := presL_len ws k; unfold presL; split <;> simp <;> omega
theorem presL_mono (ws : List Int) : ∀ {k m : Nat}, k ≤ m → presL ws k <+: presL ws m := by
  intro k m h
  obtain ⟨d, rfl⟩ : ∃ d, m = k + d := ⟨m - k, by omega⟩
  induction d with
  | zero => exact List.prefix_refl _
  | succ d ih =>
    refine (ih (by omega)).trans ?_
    show presL ws (k + d) <+: presL ws (k + d + 1)
    rw [presL]
    split
    · exact List.prefix_append _ _
    · exact List.prefix_refl _
/-- All slices' rows of words lie as they lay. -/
def KeepW (A B : World) : Prop := ∀ (k : Nat) (cur : Array Value) (fr : Nat × Nat), A.heap[k]? = some (Obj.cells cur 66 fr) → B.heap[k]? = some (Obj.cells cur 66 fr)
theorem KeepW.refl (A : World) : KeepW A A := fun _ _ _ h => h
theorem KeepW.t {A B C : World} (h : KeepW A B) (k : KeepW B C) : KeepW A C := fun i cur fr e => k i cur fr (h i cur fr e)
theorem KeepW.b (W : World) (l : Nat) (o o' : Obj) (h : W.heap[l]? = some o) (hc : o.isCells = false) : KeepW W (W.putObj l o') := fun k cur fr e => by
  have hne : k ≠ l := by
    rintro rfl
    rw [h] at e
    injection e with e
    rw [e] at hc
    cases hc
  exact ((grownBy_putObj' W l o').block k (Array.getElem?_eq_some_iff.1 e).1 (by simpa using hne)).trans e
theorem KeepW.of {A B : World} (h : Keep nob A B) : KeepW A B := fun k cur fr e => (h.block k (Array.getElem?_eq_some_iff.1 e).1 (fun x => x)).trans e
theorem grown_of {A B : World} (h : Keep nob A B) : A.grownBy B none := ⟨h.os, h.tape, h.output, h.size, fun k hk _ => h.block k hk (fun x => x)⟩
theorem rowIs_w {base n : Nat} {w w' : World} {v : Value} {l : List Int} (h : RowIs base w v n l) (k : KeepW w w') : RowIs base w' v n l := by
  obtain ⟨g, cap, cur, h1, h2, h3, h4⟩ := h
  exact ⟨g, cap, cur, h1, h2, k _ _ _ h3, h4⟩
def encE (x : Nat × Ent) : Array Value := #[.int .i64 (x.1 : Int), x.2.val]
theorem getR_present {x : Int} (h : (getR x).p = true) : gchk x = 0 := by
  unfold getR at h
  unfold gchk
  by_cases q : okW x = true
  · rw [if_pos q]
  · rw [if_neg q] at h
    cases h
set_option maxHeartbeats 3200000 in
theorem ents1 (n : Nat) (hn : 1 ≤ n) (l b1 b2 : Nat) {W : World} {A : MB} {B : PB} {c : Nat → Int} {f g : Int → Int} {q : Nat} (X : PtAt W A B c f g q) (table : Nat) (ht : table < B.n)
    (h1 : W.cell? ⟨b1, 0, none⟩ = some (.pointer (some ⟨A.t, 0, none⟩))) (h2 : W.cell? ⟨b2, 0, none⟩ = some (.int .i64 table)) (P : Nat × Ent → Prop) (hP : ∀ k, k < 32 → (getR ((words c table).getD k 0)).p = true → P (k, getR ((words c table).getD k 0))) (J Jx : List (Nat × Ent) → World → Prop) (hJ : AbidesFrom W.heap.size J)
    (hY : ∀ pre x W1, P x → J pre W1 → pre.length < 32 → YieldAt Fence.wide (n - 1) Tryd.prog l (encE x) W1 fun e W' => (e = .returned (.bool true) ∧ J (pre ++ [x]) W' ∧ KeepW W1 W') ∨ (e = .returned (.bool false) ∧ Jx (pre ++ [x]) W'))
    (h0 : J [] W) :
    CallsIn Fence.wide n Tryd.prog 98 #[.func (.yield l) #[] #[], .pointer (some ⟨b1, 0, none⟩), .pointer (some ⟨b2, 0, none⟩)] W fun e W' => (∃ v, e = .returned v) ∧
      ((∃ ys, ys = presL (words c table) 32 ∧ J ys W') ∨ (∃ pre, pre <+: presL (words c table) 32 ∧ Jx pre W')) := by
  refine callsIn_wide.2 ?_
  have c0 := X.M.tm
  have Kd : Keep nob W W.drew := (Keep.refl nob W).drew
  have ed : ∀ p, W.drew.cell? p = W.cell? p := fun p => rfl
  have C := page_in (X.P.mem.next Kd) (table : Int) (by omega) (by omega)
  rw [Int.toNat_natCast] at C
  replace X := Lib.hid X
  replace Kd := Lib.hid Kd
  replace ed := Lib.hid ed
  replace C := Lib.hid C
  replace hY := Lib.hid hY
  replace hJ := Lib.hid hJ
  replace h0 := Lib.hid h0
  replace hP := Lib.hid hP
  go_enter Tryd.func98, Tryd.ntmps98
  go_wp2_with fail
  first
    | (go_region_held3 (fun w' => w'.cell? ⟨b1, 0, none⟩ = some (.pointer (some ⟨A.t, 0, none⟩)) ∧ w'.cell? ⟨b2, 0, none⟩ = some (.int .i64 table) ∧ w'.cell? ⟨A.t, 0, none⟩ = some (.pointer (some ⟨B.b, 0, none⟩))) (first | go_keep | exact ⟨y0, y1, y2⟩) (first | (go_at_call 28; refine Calls.mono C.out ?_; rintro r w1 ⟨v1, rfl, R1, K1⟩; have y0 := K1.some ((ed.out _).trans h1) (fun x => x); have y1 := K1.some ((ed.out _).trans h2) (fun x => x); have y2 := K1.some ((ed.out _).trans c0) (fun x => x); replace R1 := Lib.hid R1; replace K1 := Lib.hid K1)))
    | fail
  obtain ⟨g1, cap1, rfl⟩ := R1.out.form
  have KA := Kd.out.then K1.out
  have J1 := hJ.out [] W w1 none h0.out (grown_of KA) (fun r e => by cases e)
  replace J1 := Lib.hid J1
  replace KA := Lib.hid KA
  clear y0 y1 y2
  go_wp2_with fail
  refine (wpIn_wide (n := n)).1 ?_
  gi_loopw [21] (fun i wr => ∃ k : Nat, k ≤ 32 ∧ i = .int .i64 k ∧ J (presL (words c table) k) wr ∧ KeepW w1 wr) (fun i _ => 32 - (intOf i).toNat)
  case atStart => exact ⟨0, Nat.zero_le _, rfl, J1.out, KeepW.refl _⟩
  case round =>
    obtain ⟨k, hk, rfl, hJs, hkp⟩ := hrel
    by_cases hlt : k < 32
    · have t1 : ((k : Int) < 32) := by omega
      obtain ⟨x, hx⟩ : ∃ x, (words c table).getD k 0 = x := ⟨_, rfl⟩
      have hx' : (words c table)[k]? = some x := by rw [words_get c table k hlt, ← hx, List.getD_eq_getElem?_getD, words_get c table k hlt]; rfl
      have bx : 0 ≤ x ∧ x < 4294967296 := by
        rw [words_get c table k hlt] at hx'
        injection hx' with hx'
        rw [← hx']
        exact X.out.P.mem.rng _
      have r0 := (rowIs_w R1.out hkp).cell k x hx'
      have bg := (rowIs_w R1.out hkp).ge
      have C2 := get_ok x wr bx.1 bx.2
      have eS : presL (words c table) (k + 1) = if (getR x).p then presL (words c table) k ++ [(k, getR x)] else presL (words c table) k := by rw [presL, hx]
      have len := presL_len (words c table) k
      replace hJs := Lib.hid hJs
      replace hkp := Lib.hid hkp
      replace hx := Lib.hid hx
      replace hx' := Lib.hid hx'
      replace bg := Lib.hid bg
      obtain ⟨p, v, cc, fr, hE⟩ : ∃ p v cc fr, getR x = ⟨p, v, cc, fr⟩ := ⟨_, _, _, _, rfl⟩
      cases p with
      | true =>
        have hg := getR_present (show (getR x).p = true by rw [hE])
        have hPk := hP.out k hlt (by rw [hx.out, hE])
        rw [hx.out, hE] at hPk
        rw [if_pos (show (getR x).p = true by rw [hE]), hE] at eS
        rw [hE, hg] at C2
        unfold Ent.val at C2
        simp only at C2
        replace C2 := Lib.hid C2
        replace eS := Lib.hid eS
        replace hE := Lib.hid hE
        replace hg := Lib.hid hg
        replace bx := Lib.hid bx
        replace hPk := Lib.hid hPk
        gi_wp2_with (fail)
        refine ⟨trivial, (callsIn_wide.2 C2.out).mono ?_⟩
        rintro r w2 ⟨rfl, K2⟩
        have K3 := K2.alloc (.cells #[.bool true, .bool v, .bool cc, .int .i64 fr] 69)
        have J3 := hJ.out _ _ _ none hJs.out (grown_of K3) (fun r e => by cases e)
        have hp3 := hkp.out.t (KeepW.of K3)
        obtain ⟨fn, tmps, assign, body, hy, hR⟩ := hY.out (presL (words c table) k) (k, ⟨true, v, cc, fr⟩) _ hPk.out J3 (by omega)
        unfold encE Ent.val at hy
        dsimp only at hy
        replace hR := Lib.hid hR
        replace J3 := Lib.hid J3
        replace hp3 := Lib.hid hp3
        replace K3 := Lib.hid K3
        replace K2 := Lib.hid K2
        clear r0
        gi_wp2_with (fail)
        refine hR.out.mono ?_
        rintro e w4 (⟨rfl, hJ4, hk4⟩ | ⟨rfl, hJx4⟩)
        · have hp4 := hp3.out.t hk4
          rw [← eS.out] at hJ4
          replace hJ4 := Lib.hid hJ4
          replace hp4 := Lib.hid hp4
          replace hk4 := Lib.hid hk4
          clear hy
          gi_wp2_with (fail)
          go_roundw
          case rel => exact ⟨k + 1, by omega, by simp, hJ4.out, hp4.out⟩
          case measure => simp [intOf]; omega
        · rw [← eS.out] at hJx4
          replace hJx4 := Lib.hid hJx4
          clear hy
          gi_wp2_with (fail)
          refine bodyPost_ret (results_none rfl _ _ _) rfl ?_
          exact ⟨⟨_, rfl⟩, .inr ⟨_, presL_mono _ (by omega), hJx4.out⟩⟩
      | false =>
        rw [if_neg (show ¬ (getR x).p = true by rw [hE]; simp)] at eS
        rw [hE] at C2
        unfold Ent.val at C2
        simp only at C2
        by_cases hg : gchk x = 0
        · rw [hg] at C2
          replace C2 := Lib.hid C2
          replace eS := Lib.hid eS
          replace hE := Lib.hid hE
          replace hg := Lib.hid hg
          replace bx := Lib.hid bx
          gi_wp2_with (fail)
          refine ⟨trivial, (callsIn_wide.2 C2.out).mono ?_⟩
          rintro r w2 ⟨rfl, K2⟩
          have K3 := K2.alloc (.cells #[.bool false, .bool v, .bool cc, .int .i64 fr] 69)
          have J3 := hJ.out _ _ _ none hJs.out (grown_of K3) (fun r e => by cases e)
          have hp3 := hkp.out.t (KeepW.of K3)
          rw [← eS.out] at J3
          replace J3 := Lib.hid J3
          replace hp3 := Lib.hid hp3
          replace K3 := Lib.hid K3
          replace K2 := Lib.hid K2
          clear r0
          gi_wp2_with (fail)
          refine ⟨fun _ h => (by cases h), ?_⟩
          gi_wp2_with (fail)
          go_roundw
          case rel => exact ⟨k + 1, by omega, by simp, J3.out, hp3.out⟩
          case measure => simp [intOf]; omega
        · have hg6 : gchk x = 6 := by unfold gchk at hg ⊢; split at hg <;> simp_all
          rw [hg6] at C2
          replace C2 := Lib.hid C2
          replace eS := Lib.hid eS
          replace hE := Lib.hid hE
          replace hg := Lib.hid hg
          replace hg6 := Lib.hid hg6
          replace bx := Lib.hid bx
          gi_wp2_with (fail)
          refine ⟨trivial, (callsIn_wide.2 C2.out).mono ?_⟩
          rintro r w2 ⟨rfl, K2⟩
          have K3 := K2.alloc (.cells #[.bool false, .bool v, .bool cc, .int .i64 fr] 69)
          have J3 := hJ.out _ _ _ none hJs.out (grown_of K3) (fun r e => by cases e)
          have hp3 := hkp.out.t (KeepW.of K3)
          rw [← eS.out] at J3
          replace J3 := Lib.hid J3
          replace hp3 := Lib.hid hp3
          replace K3 := Lib.hid K3
          replace K2 := Lib.hid K2
          clear r0
          gi_wp2_with (fail)
          refine ⟨fun _ h => (by cases h), ?_⟩
          gi_wp2_with (fail)
          go_roundw
          case rel => exact ⟨k + 1, by omega, by simp, J3.out, hp3.out⟩
          case measure => simp [intOf]; omega
    · obtain rfl : k = 32 := by omega
      gi_wp2
      go_end0
      exact ⟨⟨_, rfl⟩, .inl ⟨_, rfl, hJs⟩⟩
/-- The iterator's contract, of entries that have P. -/
theorem ents_stopsP (P : Nat × Ent → Prop) (n : Nat) (hn : 1 ≤ n) (b1 b2 : Nat) {w : World} {A : MB} {B : PB} {c : Nat → Int} {f g : Int → Int} {q : Nat} (G : Geo B) (X : PtAt w A B c f g q) (table : Nat) (ht : table < B.n)
    (hP : ∀ k, k < 32 → (getR ((words c table).getD k 0)).p = true → P (k, getR ((words c table).getD k 0)))
    (h1 : w.cell? ⟨b1, 0, none⟩ = some (.pointer (some ⟨A.t, 0, none⟩))) (h2 : w.cell? ⟨b2, 0, none⟩ = some (.int .i64 table)) :
    SeqStopsK Fence.wide n Tryd.prog 98 #[.pointer (some ⟨b1, 0, none⟩), .pointer (some ⟨b2, 0, none⟩)] (fun (x : {x // P x}) => encE x.1) KeepW (fun ys => ys.map (·.1) = presL (words c table) 32) (fun pre => pre.map (·.1) <+: presL (words c table) 32) 32 w :=
  fun l J Jx W hW hJ hJx hY h0 => by
    have K : Keep nob w W := Keep.of_below hW
    refine (ents1 n hn l b1 b2 (X.next G K) table ht (K.some h1 (fun x => x)) (K.some h2 (fun x => x)) P hP (fun l W => ∃ l' : List {x // P x}, l'.map (·.1) = l ∧ J l' W) (fun l W => ∃ l' : List {x // P x}, l'.map (·.1) = l ∧ Jx l' W)
      (fun s W1 W2 row hs hg hr => let ⟨l', e, h⟩ := hs; ⟨l', e, hJ l' W1 W2 row h hg hr⟩) (fun pre x W1 hx hj hlen => ?_) ⟨[], rfl, h0⟩).mono ?_
    · obtain ⟨l', rfl, hj⟩ := hj
      obtain ⟨fn, tmps, assign, body, hy, hR⟩ := hY l' ⟨x, hx⟩ W1 hj (by simpa using hlen)
      refine ⟨fn, tmps, assign, body, hy, hR.mono ?_⟩
      rintro e W' (⟨rfl, h, k⟩ | ⟨rfl, h⟩)
      · exact .inl ⟨rfl, ⟨_, by simp, h⟩, k⟩
      · exact .inr ⟨rfl, ⟨_, by simp, h⟩⟩
    · rintro e W' ⟨he, ⟨ys, rfl, l', e', h⟩ | ⟨pre, hp, l', e', h⟩⟩
      · exact ⟨he, .inl ⟨l', e', h⟩⟩
      · exact ⟨he, .inr ⟨l', by show l'.map (·.1) <+: _; rw [e']; exact hp, h⟩⟩
/-- The iterator's contract. -/
theorem ents_stops (n : Nat) (hn : 1 ≤ n) (b1 b2 : Nat) {w : World} {A : MB} {B : PB} {c : Nat → Int} {f g : Int → Int} {q : Nat} (G : Geo B) (X : PtAt w A B c f g q) (table : Nat) (ht : table < B.n)
    (h1 : w.cell? ⟨b1, 0, none⟩ = some (.pointer (some ⟨A.t, 0, none⟩))) (h2 : w.cell? ⟨b2, 0, none⟩ = some (.int .i64 table)) :
    SeqStopsK Fence.wide n Tryd.prog 98 #[.pointer (some ⟨b1, 0, none⟩), .pointer (some ⟨b2, 0, none⟩)] encE KeepW (fun ys => ys = presL (words c table) 32) (fun pre => pre <+: presL (words c table) 32) 32 w :=
  fun l J Jx W hW hJ hJx hY h0 => by
    have K : Keep nob w W := Keep.of_below hW
    exact ents1 n hn l b1 b2 (X.next G K) table ht (K.some h1 (fun x => x)) (K.some h2 (fun x => x)) (fun _ => True) (fun _ _ _ => trivial) J Jx hJ (fun pre x W1 _ => hY pre x W1) h0
/-- t.entries(table). -/
theorem entries_ok (t : Nat) (table : Int) (w : World) :
    Calls Tryd.prog 76 #[.pointer (some ⟨t, 0, none⟩), .int .i64 table] w fun r w' =>
      r = .returned (.func (.func 98) #[] #[.pointer (some ⟨w.heap.size, 0, none⟩), .pointer (some ⟨w.heap.size + 1, 0, none⟩)]) ∧ w' = (w.alloc (.cells #[.pointer (some ⟨t, 0, none⟩)] 70)).alloc (.cells #[.int .i64 table] 3) := by
  go_enter Tryd.func76, Tryd.ntmps76
  go_wp2_with fail
  go_ret
  exact ⟨rfl, rfl⟩
end Go.Proofs.YtepmljcapobodaaDoor
