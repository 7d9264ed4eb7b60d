/- A pool of package palloc: Left, Alloc, Share, Free. -/
import Derived.Test.YtepmljcapobodaaDoorPalloc2
namespace Go.Proofs.YtepmljcapobodaaDoor
open Go.RowKit
set_option linter.unusedVariables false
set_option maxRecDepth 100000
instance (B : PB) (j : Nat) (x : Int) : Decidable (B.inr j x) := by unfold PB.inr; exact inferInstance
/-- How many numbers of a range are free. -/
def leftN (B : PB) (f : Int → Int) (j : Nat) : Nat := cnt (fun k : Nat => decide (B.inr j (k : Int) ∧ f (k : Int) = 0)) 1024
theorem left_cnt {B : PB} {f : Int → Int} {j : Nat} {W : Nat → Nat} (h : ∀ k : Nat, memW W k = true ↔ B.inr j k ∧ f k = 0) : cnt (memW W) 1024 = leftN B f j :=
  cnt_congr _ (fun k _ => by
    have := h k
    by_cases q : B.inr j k ∧ f k = 0
    · rw [this.2 q]; simp [q]
    · rw [Bool.eq_false_iff.2 (fun e => q (this.1 e))]; simp only [q, decide_false])
theorem left_in {w : World} {B : PB} {c : Nat → Int} {f : Int → Int} {q : Nat} (G : Geo B) (P : PoolAt w B c f q) (j : Nat) (hj : j < B.l.length) :
    Calls Tryd.prog 24 #[.pointer (some ⟨B.p, 0, none⟩), .int .i64 j] w fun r w' => r = .returned (.int .i64 (leftN B f j)) ∧ w = w' := by
  have c1 := P.pl
  have g0 := P.gs j hj
  obtain ⟨W, hS, hW⟩ := P.set j hj
  have hS := Lib.hid hS
  have hW := Lib.hid hW
  have P := Lib.hid P
  have hl := G.some.2
  have G := Lib.hid G
  have t1 : decide ((j : Int) < 0) = false := by simp
  have t2 : decide ((B.l.length : Int) ≤ j) = false := by simp; omega
  go_enter Tryd.func24, Tryd.ntmps24
  go_wp2_with fail
  refine Calls.mono (none_ok P.out) ?_
  rintro r w1 ⟨rfl, rfl⟩
  go_wp2_with fail
  refine Calls.mono (len_ok hS.out) ?_
  rintro r w1 ⟨rfl, rfl⟩
  rw [left_cnt hW.out]
  go_wp2_with fail
  go_ret
  exact ⟨rfl, rfl⟩
theorem left_out {w : World} {B : PB} {c : Nat → Int} {f : Int → Int} {q : Nat} (G : Geo B) (P : PoolAt w B c f q) (x : Int) (hx : ¬ (0 ≤ x ∧ x < B.l.length)) :
    Calls Tryd.prog 24 #[.pointer (some ⟨B.p, 0, none⟩), .int .i64 x] w fun r w' => r = .returned (.int .i64 0) ∧ w = w' := by
  have c1 := P.pl
  have P := Lib.hid P
  have hl := G.some.2
  by_cases h0 : x < 0
  · have t1 : decide (x < 0) = true := by simpa using h0
    clear h0 hx
    go_enter Tryd.func24, Tryd.ntmps24
    go_wp2_with fail
    refine Calls.mono (none_ok P.out) ?_
    rintro r w1 ⟨rfl, rfl⟩
    go_wp2_with fail
    go_ret
    exact ⟨rfl, rfl⟩
  · have t1 : decide (x < 0) = false := by simpa using h0
    have t2 : decide ((B.l.length : Int) ≤ x) = true := by simp; omega
    clear h0 hx
    go_enter Tryd.func24, Tryd.ntmps24
    go_wp2_with fail
    refine Calls.mono (none_ok P.out) ?_
    rintro r w1 ⟨rfl, rfl⟩
    go_wp2_with fail
    go_ret
    exact ⟨rfl, rfl⟩
/-! ### Alloc -/
def three (B : PB) (j : Nat) : Nat → Prop := fun k => k = B.mf ∨ k = B.r ∨ k = B.s j
theorem PoolAt.turned {w w' : World} {B : PB} {c c' : Nat → Int} {f f' : Int → Int} {q q' : Nat} {W' : Nat → Nat} (G : Geo B) (P : PoolAt w B c f q) (j : Nat) (hj : j < B.l.length) (K : Keep (three B j) w w')
    (hm : MemAt w' B.b B.mf B.n c') (hs : SetAt w' (B.s j) W') (hW : ∀ k : Nat, memW W' k = true ↔ B.inr j k ∧ f' k = 0) (hM : MapI w' B.r q' f') (hf : ∀ i, i ≠ j → ∀ k, B.inr i k → (f k = 0 ↔ f' k = 0)) : PoolAt w' B c' f' q' := by
  have hp : ¬ three B j B.p := by
    rintro (h | h | h)
    · have := G.p; have := G.m; omega
    · exact G.pg.2.1 h
    · exact (G.s j hj).2.2.1 h.symm
  have hg : ¬ three B j B.g := by
    rintro (h | h | h)
    · have := G.g; have := G.m; omega
    · exact G.pg.2.2 h
    · exact (G.s j hj).2.2.2.1 h.symm
  refine ⟨hm, K.some P.pm hp, K.some P.pl hp, K.some P.pr hp, fun i hi => K.some (P.gs i hi) hg, fun i hi => K.some (P.gf i hi) hg, fun i hi => K.some (P.gm i hi) hg, fun i hi => ?_, hM⟩
  by_cases e : i = j
  · subst e; exact ⟨W', hs, hW⟩
  · obtain ⟨W, h1, h2⟩ := P.set i hi
    refine ⟨W, h1.keep K ?_, fun k => ?_⟩
    · rintro (h | h | h)
      · have := G.s i hi; have := G.m; omega
      · exact (G.s i hi).2.2.2.2 h
      · exact e (G.ss i j hi hj h)
    · rw [h2 k]
      constructor
      · intro h; exact ⟨h.1, (hf i e k h.1).1 h.2⟩
      · intro h; exact ⟨h.1, (hf i e k h.1).2 h.2⟩
theorem three_own {B : PB} (G : Geo B) {j : Nat} (hj : j < B.l.length) : ∀ k, three B j k → own B k := by
  rintro k (h | h | h)
  · exact Or.inl h
  · rw [h]; exact Or.inr G.r
  · rw [h]; exact Or.inr ⟨(G.s j hj).1, (G.s j hj).2.1⟩
theorem alloc_out {w : World} {B : PB} {c : Nat → Int} {f : Int → Int} {q : Nat} (G : Geo B) (P : PoolAt w B c f q) (x : Int) (hx : ¬ (0 ≤ x ∧ x < B.l.length)) :
    Calls Tryd.prog 19 #[.pointer (some ⟨B.p, 0, none⟩), .int .i64 x] w fun r w' => r = .returned (.tuple #[.int .i64 0, .int .i64 2]) ∧ w = w' := by
  have c1 := P.pl
  have P := Lib.hid P
  have hl := G.some.2
  by_cases h0 : x < 0
  · have t1 : decide (x < 0) = true := by simpa using h0
    clear h0 hx
    go_enter Tryd.func19, Tryd.ntmps19
    go_wp2_with fail
    refine Calls.mono (none_ok P.out) ?_
    rintro r w1 ⟨rfl, rfl⟩
    go_wp2_with fail
    go_ret2
    exact ⟨rfl, rfl⟩
  · have t1 : decide (x < 0) = false := by simpa using h0
    have t2 : decide ((B.l.length : Int) ≤ x) = true := by simp; omega
    clear h0 hx
    go_enter Tryd.func19, Tryd.ntmps19
    go_wp2_with fail
    refine Calls.mono (none_ok P.out) ?_
    rintro r w1 ⟨rfl, rfl⟩
    go_wp2_with fail
    go_ret2
    exact ⟨rfl, rfl⟩
theorem alloc_full {w : World} {B : PB} {c : Nat → Int} {f : Int → Int} {q : Nat} (hT : TabAt 0 Lib.deBruijn64tab w) (G : Geo B) (P : PoolAt w B c f q) (j : Nat) (hj : j < B.l.length) (hf : ∀ k, B.inr j k → f k ≠ 0) :
    Calls Tryd.prog 19 #[.pointer (some ⟨B.p, 0, none⟩), .int .i64 j] w fun r w' => r = .returned (.tuple #[.int .i64 0, .int .i64 3]) ∧ Keep nob w w' := by
  have c1 := P.pl
  have g0 := P.gs j hj
  obtain ⟨W, hS, hW⟩ := P.set j hj
  have hS := Lib.hid hS
  have hW := Lib.hid hW
  have hf := Lib.hid hf
  have hT := Lib.hid hT
  have P := Lib.hid P
  have hl := G.some.2
  have G := Lib.hid G
  have t1 : decide ((j : Int) < 0) = false := by simp
  have t2 : decide ((B.l.length : Int) ≤ j) = false := by simp; omega
  go_enter Tryd.func19, Tryd.ntmps19
  go_wp2_with fail
  refine Calls.mono (none_ok P.out) ?_
  rintro r w1 ⟨rfl, rfl⟩
  go_wp2_with fail
  refine Calls.mono (take_none hS.out hT.out (fun n _ => Bool.eq_false_iff.2 (fun e => hf.out n ((hW.out n).1 e).1 ((hW.out n).1 e).2))) ?_
  rintro r w1 ⟨rfl, K⟩
  have K := Lib.hid K
  go_wp2_with fail
  go_ret2
  exact ⟨rfl, K.out⟩
theorem inr_lt {B : PB} (G : Geo B) {j : Nat} {k : Int} (h : B.inr j k) : 0 ≤ k ∧ k < B.n := by
  have := (G.fit j h.1).2
  have := h.2.1
  have := h.2.2
  omega
set_option maxHeartbeats 800000 in
theorem alloc_ok {w : World} {B : PB} {c : Nat → Int} {f : Int → Int} {q : Nat} (hT : TabAt 0 Lib.deBruijn64tab w) (G : Geo B) (P : PoolAt w B c f q) (hq : q < 4611686018427387904) (j n : Nat) (hn : B.inr j n) (h0 : f n = 0) (hf : ∀ m : Nat, m < n → B.inr j m → f m ≠ 0) :
    Calls Tryd.prog 19 #[.pointer (some ⟨B.p, 0, none⟩), .int .i64 j] w fun r w' => r = .returned (.tuple #[.int .i64 n, .int .i64 0]) ∧ PoolAt w' B (updRow c n fun _ => 0) (updI f n 1) (q + 1) ∧ Keep (own B) w w' := by
  have hj := hn.1
  have c0 := P.pm
  have c1 := P.pl
  have c2 := P.pr
  have g0 := P.gs j hj
  obtain ⟨W, hS, hW⟩ := P.set j hj
  have hl := G.some.2
  have hn1 := inr_lt G hn
  have hn2 := G.n
  have hp1 : ¬ three B j B.p := by
    rintro (h | h | h)
    · have := G.p; have := G.m; omega
    · exact G.pg.2.1 h
    · exact (G.s j hj).2.2.1 h.symm
  have hbs : B.b ≠ B.s j := by have := G.s j hj; have := G.m; omega
  have hms : B.mf ≠ B.s j := by have := G.s j hj; have := G.m; omega
  have hrs : B.r ≠ B.s j := (G.s j hj).2.2.2.2.symm
  have hrm : B.r ≠ B.mf := by have := G.r; have := G.m; omega
  have hp1 := Lib.hid hp1
  have hbs := Lib.hid hbs
  have hms := Lib.hid hms
  have hrs := Lib.hid hrs
  have hrm := Lib.hid hrm
  have hS := Lib.hid hS
  have hW := Lib.hid hW
  have hf := Lib.hid hf
  have hT := Lib.hid hT
  have P := Lib.hid P
  have G := Lib.hid G
  have hn := Lib.hid hn
  have h0 := Lib.hid h0
  have t1 : decide ((j : Int) < 0) = false := by simp
  have t2 : decide ((B.l.length : Int) ≤ j) = false := by simp; omega
  go_enter Tryd.func19, Tryd.ntmps19
  go_wp2_with fail
  refine Calls.mono (none_ok P.out) ?_
  rintro r w1 ⟨rfl, rfl⟩
  go_wp2_with fail
  refine Calls.mono (take_some hS.out hT.out n (by omega) ((hW.out n).2 ⟨hn.out, h0.out⟩) (fun m hm => Bool.eq_false_iff.2 (fun e => hf.out m hm ((hW.out m).1 e).1 ((hW.out m).1 e).2))) ?_
  rintro r w1 ⟨rfl, S1, K1⟩
  have p0 := K1.some c0 (fun e => hp1.out (Or.inr (Or.inr e)))
  have p2 := K1.some c2 (fun e => hp1.out (Or.inr (Or.inr e)))
  have M1 := Lib.hid (P.out.mem.keep K1 hbs.out hms.out)
  have S1 := Lib.hid S1
  have K1 := Lib.hid K1
  clear c0 c1 c2 g0
  go_wp2_with fail
  refine Calls.mono (zero_in M1.out n hn1.1 hn1.2) ?_
  rintro r w2 ⟨rfl, M2, K2⟩
  have r2 := K2.some p2 (fun e => hp1.out (Or.inl e))
  have S2 := Lib.hid (S1.out.keep K2 (fun e => hms.out e.symm))
  have M2 := Lib.hid M2
  have K2 := Lib.hid K2
  have Mp := Lib.hid ((P.out.map.keep K1.out hrs.out).keep K2.out hrm.out)
  clear p0 p2
  go_wp2_with (at_mapUpdate; refine wpList_put rfl _ _ _ rfl B.r q f Mp.out hq n 1 (by unfold wfI; omega) (by unfold wfI; omega) rfl rfl rfl ?_; intro w3 Mp3 K3)
  go_ret2
  have Ka : Keep (three B j) w w3 := ((K1.out.mono (T := three B j) (fun k _ e => Or.inr (Or.inr e))).trans K2.out (fun k _ e => Or.inl e)).trans K3 (fun k _ e => Or.inr (Or.inl e))
  refine ⟨rfl, ?_, Ka.mono (fun k _ h => three_own G.out hn.out.1 k h)⟩
  refine P.out.turned G.out j hn.out.1 Ka (M2.out.keep K3 ?_ (fun e => hrm.out e.symm)) (S2.out.keep K3 (fun e => hrs.out e.symm)) (fun k => ?_) Mp3 (fun i hi k hk => ?_)
  · intro e
    have e : B.b = B.r := e
    have := G.out.r; have := G.out.m; omega
  · rw [memW_turn]
    unfold updI
    by_cases e : k = n
    · subst e
      rw [if_pos rfl, if_pos rfl, (hW.out k).2 ⟨hn.out, h0.out⟩]
      simp
    · rw [if_neg e, if_neg (by omega), hW.out k]
  · unfold updI
    rw [if_neg]
    intro e
    rw [e] at hk
    exact hi (G.out.one i j n hk hn.out)
end Go.Proofs.YtepmljcapobodaaDoor
