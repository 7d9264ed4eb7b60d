/- Contracts of package budget: New, Charge, Refund. -/
import Derived.Test.YtepmljcapobodaaBud2
namespace Go.Proofs.Ytepmljcapobodaa
open Go.RowKit
set_option linter.unusedVariables false
set_option linter.unusedSimpArgs false
set_option maxRecDepth 100000
theorem rangeQ {q : Int} (h : ¬ (0 ≤ q ∧ q ≤ 65536)) : q < 0 ∨ 65536 < q := by omega
/-- A new budget. -/
def NewU (w : World) (q : Int) (r : Ending) (w' : World) : Prop :=
  ∃ b mb P f, r = .returned (.tuple #[.pointer (some ⟨b, 0, none⟩), .int .i64 0]) ∧ BuAt w' b mb P 1 f [⟨1, 0, q, 0⟩] ∧ w.heap.size ≤ b ∧ w.heap.size ≤ mb ∧ (∀ k, P k → w.heap.size ≤ k) ∧ Keep nob w w'
set_option maxHeartbeats 1600000 in
theorem new_ok (w : World) (q : Int) (h0 : 0 ≤ q) (h1 : q ≤ 65536) :
    Calls Try.prog 9 #[.int .i64 q] w (NewU w q) := by
  have t1 : decide (q < 0) = false := by simp; omega
  have t2 : decide (65536 < q) = false := by simp; omega
  have Ka : Keep nob w (w.alloc (.map #[] 0)) := (Keep.refl _ _).alloc _
  have Kb : Keep nob (w.alloc (.map #[] 0)) ((w.alloc (.map #[] 0)).alloc (.cells #[.int .i64 1, .int .i64 0, .int .i64 q, .int .i64 0] 35)) := (Keep.refl _ _).alloc _
  have M2 := (MapP.made w).next Kb
  have N2 := NdAt.new (w.alloc (.map #[] 0)) 1 0 q 0
  have sz : ((w.alloc (.map #[] 0)).alloc (.cells #[.int .i64 1, .int .i64 0, .int .i64 q, .int .i64 0] 35)).heap.size = w.heap.size + 2 := by rw [World.size_alloc, World.size_alloc]
  rw [World.size_alloc] at N2
  have K2 := Ka.then Kb
  clear Ka Kb
  replace N2 := Lib.hid N2
  replace K2 := Lib.hid K2
  replace sz := Lib.hid sz
  obtain ⟨w3, hrun, M3, K3⟩ := put_run M2 (by decide) (k := 1) (w.heap.size + 1) (by unfold wfI; decide)
  have hmm := @run_makeMap Try.prog
  replace M2 := Lib.hid M2
  replace M3 := Lib.hid M3
  replace K3 := Lib.hid K3
  go_enter Try.func9, Try.ntmps9
  go_wp2_with fail
  go_ret2
  have s3 := K3.out.size
  have Kz : Keep nob w3 (w3.alloc (.cells #[.map (some w.heap.size)] 49)) := (Keep.refl _ _).alloc _
  have sz' := sz.out
  have N3 := (N2.out.keep K3.out (fun e => by have e : w.heap.size + 1 = w.heap.size := e; omega)).next Kz
  have K4 : Keep nob w (w3.alloc (.cells #[.map (some w.heap.size)] 49)) := (K2.out.trans K3.out (fun k hk e => by have e : k = w.heap.size := e; omega)).then Kz
  have lt0 := N3.c0
  refine ⟨w3.heap.size, w.heap.size, (fun k => k = w.heap.size + 1), _, rfl, ⟨new_at w3 _ _ 0 _ rfl, M3.out.next Kz, ?_, ?_, ?_, ?_, ?_, ?_, ?_, ?_⟩, ?_, ?_, ?_, K4⟩
  · intro k hk
    rw [findN_cons] at hk
    split at hk
    · cases hk
    · rename_i e
      exact updP_ne (fun z => e (by rw [z]))
  · intro k x hx
    rw [findN_cons] at hx
    split at hx
    · rename_i e
      have e : (1 : Int) = k := e
      injection hx with hx
      subst hx
      subst e
      exact ⟨_, updP_at _ _ _, N3⟩
    · cases hx
  · intro k k' p hk hk'
    unfold updP at hk hk'
    split at hk
    · split at hk'
      · omega
      · cases hk'
    · cases hk
  · intro k p hk
    unfold updP at hk
    split at hk
    · injection hk with hk; exact hk.symm
    · cases hk
  · show ¬ w3.heap.size = w.heap.size + 1
    omega
  · show ¬ w.heap.size = w.heap.size + 1
    omega
  · omega
  · intro p hp
    have hp : p = w.heap.size + 1 := hp
    subst hp
    exact World.block_lt_of_cell? _ _ lt0
  · omega
  · omega
  · intro k hk
    have hk : k = w.heap.size + 1 := hk
    omega
theorem new_no (w : World) (q : Int) (h : ¬ (0 ≤ q ∧ q ≤ 65536)) :
    Calls Try.prog 9 #[.int .i64 q] w fun r w' => r = .returned (.tuple #[.pointer none, .int .i64 2]) ∧ w = w' := by
  by_cases h0 : q < 0
  · have t1 : decide (q < 0) = true := by simpa using h0
    clear h
    go_enter Try.func9, Try.ntmps9
    go_wp2_with fail
    go_ret2
    exact ⟨rfl, rfl⟩
  · have t1 : decide (q < 0) = false := by simpa using h0
    have t2 : decide (65536 < q) = true := by simp; omega
    clear h
    go_enter Try.func9, Try.ntmps9
    go_wp2_with fail
    go_ret2
    exact ⟨rfl, rfl⟩
section
variable {w : World} {b mb q : Nat} {P : Nat → Prop} {f : Int → Option Nat} {l : List Nd}
def BuPost (w : World) (b mb : Nat) (P : Nat → Prop) (q : Nat) (l' : List Nd) (code : Int) (r : Ending) (w' : World) : Prop :=
  r = .returned (.int .i64 code) ∧ ∃ P' f', BuAt w' b mb P' (q + 1) f' l' ∧ (∀ k, P' k → P k ∨ w.heap.size ≤ k) ∧ Keep (ownU mb P) w w'
theorem BuPost.same {w' : World} {code : Int} (U : BuAt w b mb P q f l) (k : Keep nob w w') : BuPost w b mb P q l code (.returned (.int .i64 code)) w' :=
  ⟨rfl, P, f, (U.next k).mono (Nat.le_succ _), fun _ h => Or.inl h, k.nob⟩
theorem BuAt.add (U : BuAt w b mb P q f l) {id n : Int} {x : Nd} {p : Nat} (hx : findN l id = some x) (hp : f id = some p) : BuAt (w.setCell ⟨p, 3, none⟩ (.int .i64 (x.us + n))) b mb P q f (l.map (addU id n)) := by
  have K : Keep (only p) w (w.setCell ⟨p, 3, none⟩ (.int .i64 (x.us + n))) := (Keep.refl _ _).store _ _
  have hP := U.inP _ _ hp
  have nb : ¬ only p b := fun e => U.nb (by have e : b = p := e; rw [e]; exact hP)
  have nm : ¬ only p mb := fun e => by have e : mb = p := e; exact U.nm (by rw [e]; exact hP)
  refine ⟨K.some U.c (fun e => U.nb (by have e : b = p := e; rw [e]; exact hP)), U.M.keep K nm, fun k hk => ?_, fun k y hy => ?_, U.inj, U.inP, U.nb, U.nm, U.ne, fun k hk => Nat.lt_of_lt_of_le (U.lt k hk) K.size⟩
  · rw [add_find] at hk
    cases e : findN l k with
    | none => exact U.off k e
    | some z => rw [e] at hk; cases hk
  · rw [add_find] at hy
    cases e : findN l k with
    | none => rw [e] at hy; cases hy
    | some z =>
      rw [e] at hy
      injection hy with hy
      subst hy
      have hid := (findN_some e).2
      obtain ⟨p', hp', N⟩ := U.on _ _ e
      by_cases q : k = id
      · subst q
        rw [hx] at e
        injection e with e
        subst e
        rw [hp] at hp'
        injection hp' with hp'
        subst hp'
        refine ⟨p, hp, ?_⟩
        have := N.setUs (x.us + n)
        unfold addU
        rw [if_pos hid]
        exact this
      · refine ⟨p', hp', ?_⟩
        unfold addU
        rw [if_neg (fun z => q (hid.symm.trans z))]
        refine N.keep K (fun e => ?_)
        have e : p' = p := e
        subst e
        exact q (U.inj _ _ _ hp' hp)
set_option maxHeartbeats 1600000 in
theorem charge_ok (U : BuAt w b mb P q f l) (G : Good l) (id n : Int) :
    Calls Try.prog 13 #[.pointer (some ⟨b, 0, none⟩), .int .i64 id, .int .i64 n] w (BuPost w b mb P q (chgL l id n) (chgN l id n)) := by
  have A := asked_ok U id n
  by_cases h : fitsN id n = true
  · have hf := fitsN_iff.1 h
    cases e : findN l id with
    | none =>
      have ea : askN l id n = 4 := by unfold askN; rw [if_pos h, e]
      have ec : chgN l id n = 4 := by unfold chgN; rw [if_pos h, e]
      have el : chgL l id n = l := by unfold chgL; rw [ec]; rfl
      rw [ea] at A
      rw [ec, el]
      replace A := Lib.hid A
      replace U := Lib.hid U
      replace G := Lib.hid G
      replace ea := Lib.hid ea
      replace ec := Lib.hid ec
      replace el := Lib.hid el
      go_enter Try.func13, Try.ntmps13
      go_wp2_with fail
      refine Calls.mono A.out ?_
      rintro r w1 ⟨rfl, rfl⟩
      go_wp2_with fail
      go_ret
      exact BuPost.same U.out (Keep.refl _ _)
    | some x =>
      have ea : askN l id n = 0 := by unfold askN; rw [if_pos h, e]
      have ec : chgN l id n = if leftN' l id < n then 3 else 0 := by unfold chgN; rw [if_pos h, e]
      rw [ea] at A
      have L := left_ok U G id
      by_cases hl : leftN' l id < n
      · rw [if_pos hl] at ec
        have el : chgL l id n = l := by unfold chgL; rw [ec]; rfl
        rw [ec, el]
        have t1 : decide (leftN' l id < n) = true := by simpa using hl
        obtain ⟨lf, hlf⟩ : ∃ lf, leftN' l id = lf := ⟨_, rfl⟩
        rw [hlf] at L t1
        clear hl
        replace A := Lib.hid A
        replace U := Lib.hid U
        replace G := Lib.hid G
        replace ea := Lib.hid ea
        replace ec := Lib.hid ec
        replace el := Lib.hid el
        replace L := Lib.hid L
        replace hlf := Lib.hid hlf
        go_enter Try.func13, Try.ntmps13
        go_wp2_with fail
        refine Calls.mono A.out ?_
        rintro r w1 ⟨rfl, rfl⟩
        go_wp2_with fail
        refine Calls.mono L.out ?_
        rintro r w2 ⟨rfl, K2⟩
        go_wp2_with fail
        go_ret
        exact BuPost.same U.out K2
      · rw [if_neg hl] at ec
        have el : chgL l id n = l.map (addU id n) := by unfold chgL; rw [if_pos ec]
        rw [ec, el]
        have t1 : decide (leftN' l id < n) = false := by simpa using hl
        obtain ⟨p, hp, N⟩ := U.on _ _ e
        have hm := (findN_some e).1
        have us := G.us hm
        have us0 := (G.rng x hm).2.2.1
        have b1 : IntKind.i64.wrap (x.us + n) = x.us + n := IntWalk.i64_in _ (by omega)
        have hk : wfI id := by unfold wfI; omega
        obtain ⟨lf, hlf⟩ : ∃ lf, leftN' l id = lf := ⟨_, rfl⟩
        rw [hlf] at L t1
        have hn0 : (0 : Int) ≤ n := hf.2.1
        have hn1 : n ≤ 65536 := hf.2.2
        clear hl hf
        replace A := Lib.hid A
        replace U := Lib.hid U
        replace G := Lib.hid G
        replace ea := Lib.hid ea
        replace ec := Lib.hid ec
        replace el := Lib.hid el
        replace L := Lib.hid L
        replace hlf := Lib.hid hlf
        replace N := Lib.hid N
        replace hm := Lib.hid hm
        replace hk := Lib.hid hk
        replace e := Lib.hid e
        replace hp := Lib.hid hp
        go_enter Try.func13, Try.ntmps13
        go_wp2_with fail
        refine Calls.mono A.out ?_
        rintro r w1 ⟨rfl, rfl⟩
        go_wp2_with fail
        refine Calls.mono L.out ?_
        rintro r w2 ⟨rfl, K2⟩
        have U2 := U.out.next K2
        have c0 := U2.c
        have LR := look_yes U2.M hk.out hp.out
        have N2 := N.out.next K2
        have d3 := N2.c3
        have z3 := N2.z3
        replace U2 := Lib.hid U2
        replace N2 := Lib.hid N2
        replace K2 := Lib.hid K2
        go_wp2_with fail
        go_ret
        refine ⟨rfl, P, f, (U2.out.add e.out hp.out).mono (Nat.le_succ _), fun _ h => Or.inl h, ?_⟩
        exact K2.out.nob.trans (((Keep.refl (only p) w2).store _ _)) (fun k _ e => Or.inr (by have e : k = p := e; rw [e]; exact U2.out.inP _ _ hp.out))
  · have ea : askN l id n = 2 := by unfold askN; rw [if_neg h]
    have ec : chgN l id n = 2 := by unfold chgN; rw [if_neg h]
    have el : chgL l id n = l := by unfold chgL; rw [ec]; rfl
    rw [ea] at A
    rw [ec, el]
    replace A := Lib.hid A
    replace U := Lib.hid U
    replace G := Lib.hid G
    replace ea := Lib.hid ea
    replace ec := Lib.hid ec
    replace el := Lib.hid el
    go_enter Try.func13, Try.ntmps13
    go_wp2_with fail
    refine Calls.mono A.out ?_
    rintro r w1 ⟨rfl, rfl⟩
    go_wp2_with fail
    go_ret
    exact BuPost.same U.out (Keep.refl _ _)
set_option maxHeartbeats 1600000 in
theorem refund_ok (U : BuAt w b mb P q f l) (G : Good l) (id n : Int) :
    Calls Try.prog 20 #[.pointer (some ⟨b, 0, none⟩), .int .i64 id, .int .i64 n] w (BuPost w b mb P q (refL l id n) (refN l id n)) := by
  have A := asked_ok U id n
  by_cases h : fitsN id n = true
  · have hf := fitsN_iff.1 h
    cases e : findN l id with
    | none =>
      have ea : askN l id n = 4 := by unfold askN; rw [if_pos h, e]
      have ec : refN l id n = 4 := by unfold refN; rw [if_pos h, e]
      have el : refL l id n = l := by unfold refL; rw [ec]; rfl
      rw [ea] at A
      rw [ec, el]
      replace A := Lib.hid A
      replace U := Lib.hid U
      replace G := Lib.hid G
      replace ea := Lib.hid ea
      replace ec := Lib.hid ec
      replace el := Lib.hid el
      go_enter Try.func20, Try.ntmps20
      go_wp2_with fail
      refine Calls.mono A.out ?_
      rintro r w1 ⟨rfl, rfl⟩
      go_wp2_with fail
      go_ret
      exact BuPost.same U.out (Keep.refl _ _)
    | some x =>
      have ea : askN l id n = 0 := by unfold askN; rw [if_pos h, e]
      have ec : refN l id n = if x.us < n then 9 else 0 := by unfold refN; rw [if_pos h, e]
      rw [ea] at A
      obtain ⟨p, hp, N⟩ := U.on _ _ e
      have hm := (findN_some e).1
      have us := G.us hm
      have us0 := (G.rng x hm).2.2.1
      have hk : wfI id := by unfold wfI; omega
      have c0 := U.c
      have LR := look_yes U.M hk hp
      have d3 := N.c3
      have z3 := N.z3
      have hn0 : (0 : Int) ≤ n := hf.2.1
      have hn1 : n ≤ 65536 := hf.2.2
      by_cases hl : x.us < n
      · rw [if_pos hl] at ec
        have el : refL l id n = l := by unfold refL; rw [ec]; rfl
        rw [ec, el]
        have t1 : decide (x.us < n) = true := by simpa using hl
        clear hl hf
        replace A := Lib.hid A
        replace U := Lib.hid U
        replace G := Lib.hid G
        replace ea := Lib.hid ea
        replace ec := Lib.hid ec
        replace el := Lib.hid el
        replace N := Lib.hid N
        replace hm := Lib.hid hm
        replace hk := Lib.hid hk
        replace e := Lib.hid e
        replace hp := Lib.hid hp
        go_enter Try.func20, Try.ntmps20
        go_wp2_with fail
        refine Calls.mono A.out ?_
        rintro r w1 ⟨rfl, rfl⟩
        go_wp2_with fail
        go_ret
        exact BuPost.same U.out (Keep.refl _ _)
      · rw [if_neg hl] at ec
        have el : refL l id n = l.map (addU id (-n)) := by unfold refL; rw [if_pos ec]
        rw [ec, el]
        have t1 : decide (x.us < n) = false := by simpa using hl
        have b1 : IntKind.i64.wrap (x.us - n) = x.us - n := IntWalk.i64_in _ (by omega)
        clear hl hf
        replace A := Lib.hid A
        replace U := Lib.hid U
        replace G := Lib.hid G
        replace ea := Lib.hid ea
        replace ec := Lib.hid ec
        replace el := Lib.hid el
        replace N := Lib.hid N
        replace hm := Lib.hid hm
        replace hk := Lib.hid hk
        replace e := Lib.hid e
        replace hp := Lib.hid hp
        go_enter Try.func20, Try.ntmps20
        go_wp2_with fail
        refine Calls.mono A.out ?_
        rintro r w1 ⟨rfl, rfl⟩
        go_wp2_with fail
        go_ret
        refine ⟨rfl, P, f, (U.out.add e.out hp.out).mono (Nat.le_succ _), fun _ h => Or.inl h, ?_⟩
        exact ((Keep.refl (only p) w).store _ _).mono (fun k _ e => Or.inr (by have e : k = p := e; rw [e]; exact U.out.inP _ _ hp.out))
  · have ea : askN l id n = 2 := by unfold askN; rw [if_neg h]
    have ec : refN l id n = 2 := by unfold refN; rw [if_neg h]
    have el : refL l id n = l := by unfold refL; rw [ec]; rfl
    rw [ea] at A
    rw [ec, el]
    replace A := Lib.hid A
    replace U := Lib.hid U
    replace G := Lib.hid G
    replace ea := Lib.hid ea
    replace ec := Lib.hid ec
    replace el := Lib.hid el
    go_enter Try.func20, Try.ntmps20
    go_wp2_with fail
    refine Calls.mono A.out ?_
    rintro r w1 ⟨rfl, rfl⟩
    go_wp2_with fail
    go_ret
    exact BuPost.same U.out (Keep.refl _ _)
end
end Go.Proofs.Ytepmljcapobodaa
