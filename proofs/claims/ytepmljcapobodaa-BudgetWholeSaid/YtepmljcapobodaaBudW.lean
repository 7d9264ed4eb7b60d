/- A budget since a world: its calls, of its list. -/
import Derived.Test.YtepmljcapobodaaBudAll
namespace Go.Proofs.Ytepmljcapobodaa
open Go.RowKit
set_option linter.unusedVariables false
set_option linter.unusedSimpArgs false
set_option maxRecDepth 100000
/-- Block b is a budget with the containers l; its own blocks are those of O, all new since w0. -/
structure Bw (w0 w : World) (b : Nat) (O : Nat → Prop) (q : Nat) (l : List Nd) : Prop where
  ex : ∃ mb P f, BuAt w b mb P q f l ∧ ∀ k, O k ↔ ownU mb P k
  G : Good l
  o : ∀ k, O k → w0.heap.size ≤ k
  b0 : w0.heap.size ≤ b
  K : Keep nob w0 w
section
variable {w0 w : World} {b q : Nat} {O : Nat → Prop} {l : List Nd}
theorem Bw.next {w' : World} (S : Bw w0 w b O q l) (k : Keep nob w w') : Bw w0 w' b O q l :=
  let ⟨mb, P, f, U, h⟩ := S.ex; ⟨⟨mb, P, f, U.next k, h⟩, S.G, S.o, S.b0, S.K.then k⟩
theorem Bw.keep {w' : World} {T : Nat → Prop} (S : Bw w0 w b O q l) (k : Keep T w w') (hb : ¬ T b) (hO : ∀ k, O k → ¬ T k) (h0 : ∀ k, k < w0.heap.size → ¬ T k) : Bw w0 w' b O q l :=
  let ⟨mb, P, f, U, h⟩ := S.ex; ⟨⟨mb, P, f, U.keep k hb (hO _ ((h _).2 (Or.inl rfl))) (fun p hp => hO p ((h p).2 (Or.inr hp))), h⟩, S.G, S.o, S.b0, S.K.trans k (fun j hj e => (h0 j hj e).elim)⟩
theorem Bw.blt (S : Bw w0 w b O q l) : b < w.heap.size := by obtain ⟨mb, P, f, U, h⟩ := S.ex; exact U.blt
theorem Bw.olt (S : Bw w0 w b O q l) (k : Nat) (h : O k) : k < w.heap.size := by
  obtain ⟨mb, P, f, U, hO⟩ := S.ex
  rcases (hO k).1 h with e | e
  · rw [e]; exact U.M.blt
  · exact U.lt k e
theorem Bw.mono {q' : Nat} (S : Bw w0 w b O q l) (h : q ≤ q') : Bw w0 w b O q' l :=
  let ⟨mb, P, f, U, h2⟩ := S.ex; ⟨⟨mb, P, f, U.mono h, h2⟩, S.G, S.o, S.b0, S.K⟩
def BwPost (w0 w : World) (b : Nat) (O : Nat → Prop) (q : Nat) (l' : List Nd) (code : Int) (r : Ending) (w' : World) : Prop :=
  r = .returned (.int .i64 code) ∧ ∃ O', Bw w0 w' b O' (q + 1) l' ∧ (∀ k, O' k → O k ∨ w.heap.size ≤ k) ∧ Keep O w w'
theorem bw_post {f : FuncId} {args : Array Value} {l' : List Nd} {code : Int} {mb : Nat} {P : Nat → Prop} (S : Bw w0 w b O q l) (h : ∀ k, O k ↔ ownU mb P k) (nm : mb < w.heap.size) (G' : Good l') (C : Calls Try.prog f args w (BuPost w b mb P q l' code)) : Calls Try.prog f args w (BwPost w0 w b O q l' code) := by
  refine C.mono ?_
  rintro r w' ⟨rfl, P', f', U', hP, K⟩
  have k0 := S.K.size
  have K' : Keep O w w' := K.mono (fun k _ e => (h k).2 e)
  refine ⟨rfl, ownU mb P', ⟨⟨mb, P', f', U', fun k => Iff.rfl⟩, G', fun k hk => ?_, S.b0, S.K.trans K' (fun k hk e => by have := S.o k e; omega)⟩, fun k hk => ?_, K'⟩
  · rcases hk with hk | hk
    · exact S.o k ((h k).2 (Or.inl hk))
    · rcases hP k hk with e | e
      · exact S.o k ((h k).2 (Or.inr e))
      · omega
  · rcases hk with hk | hk
    · exact Or.inl ((h k).2 (Or.inl hk))
    · rcases hP k hk with e | e
      · exact Or.inl ((h k).2 (Or.inr e))
      · exact Or.inr e
theorem bw_open (S : Bw w0 w b O q l) (hq : q < 4611686018427387904) (id up n : Int) :
    Calls Try.prog 11 #[.pointer (some ⟨b, 0, none⟩), .int .i64 id, .int .i64 up, .int .i64 n] w (BwPost w0 w b O q (opnL l id up n) (opnN l id up n)) := by
  obtain ⟨mb, P, f, U, h⟩ := S.ex
  exact bw_post S h U.M.blt S.G.opn (open_ok U S.G hq id up n)
theorem bw_close (S : Bw w0 w b O q l) (id : Int) :
    Calls Try.prog 14 #[.pointer (some ⟨b, 0, none⟩), .int .i64 id] w (BwPost w0 w b O q (clsL l id) (clsN l id)) := by
  obtain ⟨mb, P, f, U, h⟩ := S.ex
  exact bw_post S h U.M.blt S.G.cls (close_ok U S.G id)
theorem bw_charge (S : Bw w0 w b O q l) (id n : Int) :
    Calls Try.prog 13 #[.pointer (some ⟨b, 0, none⟩), .int .i64 id, .int .i64 n] w (BwPost w0 w b O q (chgL l id n) (chgN l id n)) := by
  obtain ⟨mb, P, f, U, h⟩ := S.ex
  exact bw_post S h U.M.blt S.G.chg (charge_ok U S.G id n)
theorem bw_refund (S : Bw w0 w b O q l) (id n : Int) :
    Calls Try.prog 20 #[.pointer (some ⟨b, 0, none⟩), .int .i64 id, .int .i64 n] w (BwPost w0 w b O q (refL l id n) (refN l id n)) := by
  obtain ⟨mb, P, f, U, h⟩ := S.ex
  exact bw_post S h U.M.blt S.G.ref (refund_ok U S.G id n)
theorem bw_left (S : Bw w0 w b O q l) (id : Int) :
    Calls Try.prog 12 #[.pointer (some ⟨b, 0, none⟩), .int .i64 id] w fun r w' => r = .returned (.int .i64 (leftN' l id)) ∧ Keep nob w w' := by
  obtain ⟨mb, P, f, U, h⟩ := S.ex
  exact left_ok U S.G id
theorem bw_all (S : Bw w0 w b O q l) :
    Calls Try.prog 15 #[.pointer (some ⟨b, 0, none⟩)] w fun r w' => ∃ v, r = .returned v ∧ w'.ownsRow w.heap.size 35 4 v l.length (l.flatMap ndCells) ∧ Keep nob w w' := by
  obtain ⟨mb, P, f, U, h⟩ := S.ex
  exact all_ok U S.G
theorem bw_new (w : World) (n : Int) (h0 : 0 ≤ n) (h1 : n ≤ 65536) :
    Calls Try.prog 9 #[.int .i64 n] w fun r w' => ∃ b O, r = .returned (.tuple #[.pointer (some ⟨b, 0, none⟩), .int .i64 0]) ∧ Bw w w' b O 1 [⟨1, 0, n, 0⟩] := by
  refine (new_ok w n h0 h1).mono ?_
  rintro r w' ⟨b, mb, P, f, rfl, U, b0, m0, p0, K⟩
  refine ⟨b, ownU mb P, rfl, ⟨mb, P, f, U, fun _ => Iff.rfl⟩, Good.start h0 h1, fun k hk => ?_, b0, K⟩
  rcases hk with hk | hk
  · rw [hk]; exact m0
  · exact p0 k hk
end
set_option maxHeartbeats 1600000 in
theorem awake11 (w : World) : Calls Try.prog 10 #[] w fun r w' => r = .returned (.bool true) ∧ Keep nob w w' := by
  have C := bw_new w 10 (by decide) (by decide)
  replace C := Lib.hid C
  go_enter Try.func10, Try.ntmps10
  go_wp2_with fail
  refine Calls.mono C.out ?_
  rintro r w1 ⟨b, O, rfl, S⟩
  have C1 := bw_open S (by decide) 2 1 4
  rw [show opnN [⟨1, 0, 10, 0⟩] 2 1 4 = 0 by decide] at C1
  replace C1 := Lib.hid C1
  replace S := Lib.hid S
  go_wp2_with fail
  refine Calls.mono C1.out ?_
  rintro r w2 ⟨rfl, O2, S2, -, -⟩
  have C2 := bw_charge S2 2 3
  rw [show chgN (opnL [⟨1, 0, 10, 0⟩] 2 1 4) 2 3 = 0 by decide] at C2
  replace C2 := Lib.hid C2
  replace S2 := Lib.hid S2
  go_wp2_with fail
  refine Calls.mono C2.out ?_
  rintro r w3 ⟨rfl, O3, S3, -, -⟩
  have C3 := bw_left S3 1
  rw [show leftN' (chgL (opnL [⟨1, 0, 10, 0⟩] 2 1 4) 2 3) 1 = 6 by decide] at C3
  replace C3 := Lib.hid C3
  replace S3 := Lib.hid S3
  go_wp2_with fail
  refine Calls.mono C3.out ?_
  rintro r w4 ⟨rfl, K4⟩
  have S4 := S3.out.next K4
  have C4 := bw_left S4 2
  rw [show leftN' (chgL (opnL [⟨1, 0, 10, 0⟩] 2 1 4) 2 3) 2 = 1 by decide] at C4
  replace C4 := Lib.hid C4
  replace S4 := Lib.hid S4
  replace K4 := Lib.hid K4
  go_wp2_with fail
  refine Calls.mono C4.out ?_
  rintro r w5 ⟨rfl, K5⟩
  have S5 := S4.out.next K5
  have C5 := bw_open S5 (by decide) 3 2 2
  rw [show opnN (chgL (opnL [⟨1, 0, 10, 0⟩] 2 1 4) 2 3) 3 2 2 = 3 by decide] at C5
  replace C5 := Lib.hid C5
  replace S5 := Lib.hid S5
  replace K5 := Lib.hid K5
  go_wp2_with fail
  refine Calls.mono C5.out ?_
  rintro r w6 ⟨rfl, O6, S6, -, -⟩
  replace S6 := Lib.hid S6
  go_wp2_with fail
  go_ret
  exact ⟨rfl, S6.out.K⟩
end Go.Proofs.Ytepmljcapobodaa
