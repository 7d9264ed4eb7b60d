/- A pool of package palloc: Free; what each call answers, as functions. -/
import Derived.Test.YtepmljcapobodaaDoorPalloc4
namespace Go.Proofs.YtepmljcapobodaaDoor
open Go.RowKit
set_option linter.unusedVariables false
set_option maxRecDepth 100000
theorem free_out {w : World} {B : PB} {c : Nat → Int} {f : Int → Int} {q : Nat} (G : Geo B) (P : PoolAt w B c f q) (x : Int) (hx : wfI x) (hj : ∀ j, ¬ B.inr j x) :
    Calls Tryd.prog 22 #[.pointer (some ⟨B.p, 0, none⟩), .int .i64 x] w fun r w' => r = .returned (.int .i64 2) ∧ Keep nob w w' := by
  have h := Lib.hid (owner_out G P x hx hj)
  clear hj hx G
  go_enter Tryd.func22, Tryd.ntmps22
  go_wp2_with fail
  refine Calls.mono h.out ?_
  rintro r w1 ⟨rfl, K⟩
  have K := Lib.hid K
  go_wp2_with fail
  go_ret
  exact ⟨rfl, K.out⟩
theorem free_no {w : World} {B : PB} {c : Nat → Int} {f : Int → Int} {q : Nat} (G : Geo B) (P : PoolAt w B c f q) (x : Int) (hx : wfI x) (j : Nat) (hj : B.inr j x) (h0 : f x = 0) :
    Calls Tryd.prog 22 #[.pointer (some ⟨B.p, 0, none⟩), .int .i64 x] w fun r w' => r = .returned (.int .i64 4) ∧ Keep nob w w' := by
  have h := Lib.hid (owner_in G P x hx j hj)
  have c2 := P.pr
  have M := Lib.hid P.map
  have hx := Lib.hid hx
  clear hj G P
  go_enter Tryd.func22, Tryd.ntmps22
  go_wp2_with fail
  refine Calls.mono h.out ?_
  rintro r w1 ⟨rfl, K⟩
  have p2 := K.some c2 (fun x => x)
  have M1 := Lib.hid (M.out.next K)
  have K := Lib.hid K
  clear c2 M
  go_wp2_with (at_lookup; refine wpList_look rfl _ _ rfl B.r q f M1.out x hx.out rfl rfl ?_; rw [h0])
  go_ret
  exact ⟨rfl, K.out⟩
set_option maxHeartbeats 800000 in
theorem free_more {w : World} {B : PB} {c : Nat → Int} {f : Int → Int} {q : Nat} (G : Geo B) (R : RefsOk B f) (P : PoolAt w B c f q) (hq : q < 4611686018427387904) (x : Int) (hx : wfI x) (j : Nat) (hj : B.inr j x) (h0 : f x ≠ 0) (h1 : f x ≠ 1) :
    Calls Tryd.prog 22 #[.pointer (some ⟨B.p, 0, none⟩), .int .i64 x] w fun r w' => r = .returned (.int .i64 0) ∧ PoolAt w' B c (updI f x (f x - 1)) (q + 1) ∧ Keep (own B) w w' := by
  have h := Lib.hid (owner_in G P x hx j hj)
  have c2 := P.pr
  have G := Lib.hid G
  have P := Lib.hid P
  have M := Lib.hid P.out.map
  have hx := Lib.hid hx
  obtain ⟨v, hv⟩ : ∃ v, v = f x := ⟨_, rfl⟩
  have r1 := R.rng x
  rw [← hv] at r1 h0 h1
  have t1 : (v == 0) = false := by simpa using h0
  have t2 : (v == 1) = false := by simpa using h1
  have h0 := Lib.hid h0
  have h1 := Lib.hid h1
  obtain ⟨r0, r2⟩ := r1
  have Hv := Lib.hid hv
  clear hj R hv
  go_enter Tryd.func22, Tryd.ntmps22
  go_wp2_with fail
  refine Calls.mono h.out ?_
  rintro r w1 ⟨rfl, K⟩
  have p2 := K.some c2 (fun x => x)
  have M1 := Lib.hid (M.out.next K)
  have K := Lib.hid K
  clear c2 M h
  go_wp2_with (first | (at_lookup; refine wpList_look rfl _ _ rfl B.r q f M1.out x hx.out rfl rfl ?_; rw [← Hv.out]) | (at_mapUpdate; refine wpList_put rfl _ _ _ rfl B.r q f M1.out hq x (v - 1) hx.out (by unfold wfI; omega) rfl rfl rfl ?_; intro w3 Mp3 K3))
  go_ret
  have hne := h0.out
  have hne1 := h1.out
  refine ⟨rfl, ?_, (K.out.nob (S := own B)).trans K3 (fun k _ e => by have e : k = B.r := e; rw [e]; exact Or.inr G.out.r)⟩
  rw [← Hv.out]
  refine (P.out.next G.out K.out).counted G.out K3 Mp3 (fun k => ?_)
  unfold updI
  by_cases e : k = x
  · rw [if_pos e, e, ← Hv.out]; omega
  · rw [if_neg e]
set_option maxHeartbeats 800000 in
theorem free_last {w : World} {B : PB} {c : Nat → Int} {f : Int → Int} {q : Nat} (G : Geo B) (P : PoolAt w B c f q) (x : Nat) (j : Nat) (hj : B.inr j x) (h1 : f x = 1) :
    Calls Tryd.prog 22 #[.pointer (some ⟨B.p, 0, none⟩), .int .i64 x] w fun r w' => r = .returned (.int .i64 0) ∧ PoolAt w' B c (updI f x 0) q ∧ Keep (own B) w w' := by
  have hlt := inr_lt G hj
  have hn := G.n
  have hx : wfI x := by unfold wfI; omega
  have h := Lib.hid (owner_in G P x hx j hj)
  have c1 := P.pl
  have c2 := P.pr
  have g0 := P.gs j hj.1
  have hjl := hj.1
  have hl := G.some.2
  obtain ⟨W, hS, hW⟩ := P.set j hj.1
  have hrg : ¬ only B.r B.g := fun e => G.pg.2.2 e
  have hrp : ¬ only B.r B.p := fun e => G.pg.2.1 e
  have hrs : ¬ only B.r (B.s j) := fun e => (G.s j hjl).2.2.2.2 e
  have G := Lib.hid G
  have P := Lib.hid P
  have M := Lib.hid P.out.map
  have hx := Lib.hid hx
  have hW := Lib.hid hW
  have hS := Lib.hid hS
  have hrg := Lib.hid hrg
  have hrp := Lib.hid hrp
  have hrs := Lib.hid hrs
  have hj := Lib.hid hj
  have hlt := Lib.hid hlt
  go_enter Tryd.func22, Tryd.ntmps22
  go_wp2_with fail
  refine Calls.mono h.out ?_
  rintro r w1 ⟨rfl, K⟩
  have p1 := K.some c1 (fun x => x)
  have p2 := K.some c2 (fun x => x)
  have p0 := K.some g0 (fun x => x)
  have S1 := Lib.hid (hS.out.next K)
  have M1 := Lib.hid (M.out.next K)
  have K := Lib.hid K
  clear c1 c2 g0 M h hS
  go_wp2_with (first | (at_lookup; refine wpList_look rfl _ _ rfl B.r q f M1.out x hx.out rfl rfl ?_; rw [h1]) | (at_delete; refine wpList_del rfl _ _ rfl B.r q f M1.out x hx.out rfl rfl ?_; intro w2 M2 K2; have q1 := K2.some p1 hrp.out; have q0 := K2.some p0 hrg.out; have S2 := Lib.hid (S1.out.keep K2 hrs.out); have M2 := Lib.hid M2; have K2 := Lib.hid K2; clear p1 p2 p0))
  have hlt1 := hlt.out
  refine Calls.mono (pput_ok S2.out x (by omega) (Bool.eq_false_iff.2 (fun e => by have := ((hW.out x).1 e).2; omega))) ?_
  rintro r w3 ⟨rfl, S3, K3⟩
  have S3 := Lib.hid S3
  have K3 := Lib.hid K3
  go_wp2_with fail
  go_ret
  have Ka : Keep (three B j) w w3 := ((K.out.nob (S := three B j)).trans K2.out (fun k _ e => Or.inr (Or.inl e))).trans K3.out (fun k _ e => Or.inr (Or.inr e))
  have hb := G.out.s j hjl
  have hm := G.out.m
  have hr := G.out.r
  refine ⟨rfl, ?_, Ka.mono (fun k _ h => three_own G.out hjl k h)⟩
  have m1 := (P.out.mem.next K.out).keep K2.out (fun e => by have e : B.b = B.r := e; omega) (fun e => by have e : B.mf = B.r := e; omega)
  have m2 := m1.keep K3.out (fun e => by have e : B.b = B.s j := e; omega) (fun e => by have e : B.mf = B.s j := e; omega)
  refine P.out.turned G.out j hjl Ka m2 S3.out (fun k => ?_) (M2.out.keep K3.out (fun e => hb.2.2.2.2 e.symm)) (fun i hi k hk => ?_)
  · rw [memW_turn]
    unfold updI
    by_cases e : k = x
    · have em : memW W x = false := Bool.eq_false_iff.2 (fun e => by have := ((hW.out x).1 e).2; omega)
      rw [e, if_pos rfl, if_pos rfl, em]
      simp [hj.out]
    · rw [if_neg e, if_neg (by omega), hW.out k]
  · unfold updI
    have e : k ≠ x := by
      intro e
      rw [e] at hk
      exact hi (G.out.one i j x hk hj.out)
    rw [if_neg e]
/-! ### What each call answers, as functions -/
open Classical in
noncomputable def ownE (B : PB) (x : Int) : Int × Int := if h : ∃ j, B.inr j x then ((Classical.choose h : Nat), 0) else (0, 2)
theorem ownE_in {B : PB} (G : Geo B) {x : Int} {j : Nat} (h : B.inr j x) : ownE B x = ((j : Int), 0) := by
  have e : ∃ j, B.inr j x := ⟨j, h⟩
  unfold ownE
  rw [dif_pos e, G.one _ _ _ (Classical.choose_spec e) h]
theorem ownE_out {B : PB} {x : Int} (h : ∀ j, ¬ B.inr j x) : ownE B x = (0, 2) := dif_neg (fun ⟨j, e⟩ => h j e)
theorem in_or (B : PB) (x : Int) : (∃ j, B.inr j x) ∨ ∀ j, ¬ B.inr j x := by
  by_cases h : ∃ j, B.inr j x
  · exact Or.inl h
  · exact Or.inr (fun j e => h ⟨j, e⟩)
/-- Share's answer. -/
noncomputable def shaE (B : PB) (f : Int → Int) (x : Int) : Int := if (ownE B x).2 = 2 then 2 else if f x = 0 then 4 else if f x = 64 then 3 else 0
noncomputable def shaF (B : PB) (f : Int → Int) (x : Int) : Int → Int := if shaE B f x = 0 then updI f x (f x + 1) else f
/-- Free's answer. -/
noncomputable def freE (B : PB) (f : Int → Int) (x : Int) : Int := if (ownE B x).2 = 2 then 2 else if f x = 0 then 4 else 0
noncomputable def freF (B : PB) (f : Int → Int) (x : Int) : Int → Int := if freE B f x = 0 then updI f x (f x - 1) else f
/-- The least free number of a range. -/
def leastN (B : PB) (f : Int → Int) (j : Nat) : Option Nat := (List.range 1024).find? fun n => decide (B.inr j (n : Int) ∧ f (n : Int) = 0)
/-- Alloc's answer. -/
def allN (B : PB) (f : Int → Int) (x : Int) : Option Nat := if 0 ≤ x ∧ x < B.l.length then leastN B f x.toNat else none
def allE (B : PB) (f : Int → Int) (x : Int) : Int × Int := if 0 ≤ x ∧ x < B.l.length then (match leastN B f x.toNat with | some n => ((n : Int), 0) | none => (0, 3)) else (0, 2)
def allF (B : PB) (f : Int → Int) (x : Int) : Int → Int := match allN B f x with | some n => updI f n 1 | none => f
def allC (B : PB) (f : Int → Int) (x : Int) (c : Nat → Int) : Nat → Int := match allN B f x with | some n => updRow c n fun _ => 0 | none => c
theorem leastN_some {B : PB} {f : Int → Int} {j n : Nat} (h : leastN B f j = some n) : B.inr j n ∧ f n = 0 ∧ ∀ m : Nat, m < n → B.inr j m → f m ≠ 0 := by
  unfold leastN at h
  rw [List.find?_range_eq_some] at h
  obtain ⟨h1, -, h2⟩ := h
  have h1 := of_decide_eq_true h1
  refine ⟨h1.1, h1.2, fun m hm hi e => ?_⟩
  have := h2 m hm
  simp [hi, e] at this
theorem leastN_none {B : PB} (G : Geo B) {f : Int → Int} {j : Nat} (h : leastN B f j = none) (k : Int) (hk : B.inr j k) : f k ≠ 0 := by
  intro e
  have hl := inr_lt G hk
  have hn := G.n
  obtain ⟨m, rfl⟩ : ∃ m : Nat, k = m := ⟨k.toNat, by omega⟩
  unfold leastN at h
  rw [List.find?_eq_none] at h
  exact h m (List.mem_range.2 (by omega)) (decide_eq_true ⟨hk, e⟩)
theorem alloc_any {w : World} {B : PB} {c : Nat → Int} {f : Int → Int} {q : Nat} (hT : TabAt 0 Lib.deBruijn64tab w) (G : Geo B) (P : PoolAt w B c f q) (hq : q < 4611686018427387904) (x : Int) :
    Calls Tryd.prog 19 #[.pointer (some ⟨B.p, 0, none⟩), .int .i64 x] w fun r w' => r = .returned (.tuple #[.int .i64 (allE B f x).1, .int .i64 (allE B f x).2]) ∧ PoolAt w' B (allC B f x c) (allF B f x) (q + 1) ∧ Keep (own B) w w' := by
  unfold allC allF allE allN
  by_cases h : 0 ≤ x ∧ x < B.l.length
  · simp only [if_pos h]
    obtain ⟨j, rfl⟩ : ∃ j : Nat, x = j := ⟨x.toNat, by omega⟩
    rw [show (j : Int).toNat = j by omega]
    cases e : leastN B f j with
    | none =>
      refine (alloc_full hT G P j (by omega) (leastN_none G e)).mono ?_
      rintro r w' ⟨rfl, K⟩
      exact ⟨rfl, (P.next G K).mono (Nat.le_succ _), K.nob⟩
    | some n =>
      obtain ⟨h1, h2, h3⟩ := leastN_some e
      exact alloc_ok hT G P hq j n h1 h2 h3
  · simp only [if_neg h]
    refine (alloc_out G P x h).mono ?_
    rintro r w' ⟨rfl, rfl⟩
    exact ⟨rfl, P.mono (Nat.le_succ _), Keep.refl _ _⟩
theorem share_any {w : World} {B : PB} {c : Nat → Int} {f : Int → Int} {q : Nat} (G : Geo B) (R : RefsOk B f) (P : PoolAt w B c f q) (hq : q < 4611686018427387904) (x : Int) (hx : wfI x) :
    Calls Tryd.prog 20 #[.pointer (some ⟨B.p, 0, none⟩), .int .i64 x] w fun r w' => r = .returned (.int .i64 (shaE B f x)) ∧ PoolAt w' B c (shaF B f x) (q + 1) ∧ Keep (own B) w w' := by
  unfold shaF shaE
  rcases in_or B x with ⟨j, hj⟩ | hj
  · rw [ownE_in G hj]
    by_cases h0 : f x = 0
    · simp only [if_pos h0]
      refine (share_no G P x hx j hj h0).mono ?_
      rintro r w' ⟨rfl, K⟩
      exact ⟨rfl, (P.next G K).mono (Nat.le_succ _), K.nob⟩
    · simp only [if_neg h0]
      by_cases h1 : f x = 64
      · simp only [if_pos h1]
        refine (share_full G P x hx j hj h1).mono ?_
        rintro r w' ⟨rfl, K⟩
        exact ⟨rfl, (P.next G K).mono (Nat.le_succ _), K.nob⟩
      · simp only [if_neg h1]
        exact share_ok G R P hq x hx j hj h0 h1
  · rw [ownE_out hj]
    refine (share_out G P x hx hj).mono ?_
    rintro r w' ⟨rfl, K⟩
    exact ⟨rfl, (P.next G K).mono (Nat.le_succ _), K.nob⟩
theorem free_any {w : World} {B : PB} {c : Nat → Int} {f : Int → Int} {q : Nat} (G : Geo B) (R : RefsOk B f) (P : PoolAt w B c f q) (hq : q < 4611686018427387904) (x : Int) (hx : wfI x) :
    Calls Tryd.prog 22 #[.pointer (some ⟨B.p, 0, none⟩), .int .i64 x] w fun r w' => r = .returned (.int .i64 (freE B f x)) ∧ PoolAt w' B c (freF B f x) (q + 1) ∧ Keep (own B) w w' := by
  unfold freF freE
  rcases in_or B x with ⟨j, hj⟩ | hj
  · rw [ownE_in G hj]
    by_cases h0 : f x = 0
    · simp only [if_pos h0]
      refine (free_no G P x hx j hj h0).mono ?_
      rintro r w' ⟨rfl, K⟩
      exact ⟨rfl, (P.next G K).mono (Nat.le_succ _), K.nob⟩
    · simp only [if_neg h0]
      by_cases h1 : f x = 1
      · have hl := inr_lt G hj
        obtain ⟨m, rfl⟩ : ∃ m : Nat, x = m := ⟨x.toNat, by omega⟩
        refine (free_last G P m j hj h1).mono ?_
        rintro r w' ⟨rfl, P', K⟩
        rw [h1]
        exact ⟨rfl, P'.mono (Nat.le_succ _), K⟩
      · exact free_more G R P hq x hx j hj h0 h1
  · rw [ownE_out hj]
    refine (free_out G P x hx hj).mono ?_
    rintro r w' ⟨rfl, K⟩
    exact ⟨rfl, (P.next G K).mono (Nat.le_succ _), K.nob⟩
end Go.Proofs.YtepmljcapobodaaDoor
