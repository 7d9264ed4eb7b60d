/- Contracts of package budget: Open, Close. -/
import Derived.Test.YtepmljcapobodaaBud3
namespace Go.Proofs.Ytepmljcapobodaa
open Go.RowKit
set_option linter.unusedVariables false
set_option linter.unusedSimpArgs false
set_option maxRecDepth 100000
section
variable {w : World} {b mb q : Nat} {P : Nat → Prop} {f : Int → Option Nat} {l : List Nd}
theorem BuAt.opn {id up n : Int} (U : BuAt w b mb P q f l) (hn : findN l id = none) {w4 : World} {q' : Nat}
    (M4 : MapP w4 mb q' (updP f id (some w.heap.size))) (K4 : Keep (only mb) (w.alloc (.cells #[.int .i64 id, .int .i64 up, .int .i64 n, .int .i64 0] 35)) w4) :
    BuAt w4 b mb (fun k => P k ∨ k = w.heap.size) q' (updP f id (some w.heap.size)) (insN l ⟨id, up, n, 0⟩) := by
  have K1 : Keep nob w (w.alloc (.cells #[.int .i64 id, .int .i64 up, .int .i64 n, .int .i64 0] 35)) := (Keep.refl _ _).alloc _
  have U1 := U.next K1
  have N1 := NdAt.new w id up n 0
  have hm := U.M.blt
  have hb := U.blt
  have N4 := N1.keep K4 (fun e => by have e : w.heap.size = mb := e; omega)
  have nb : ¬ only mb b := fun e => U.ne e
  have fo := U.off _ hn
  have old : ∀ k p, updP f id (some w.heap.size) k = some p → (k = id ∧ p = w.heap.size) ∨ (k ≠ id ∧ f k = some p ∧ p < w.heap.size) := by
    intro k p h
    by_cases e : k = id
    · rw [e, updP_at] at h; injection h with h; exact Or.inl ⟨e, h.symm⟩
    · rw [updP_ne e] at h; exact Or.inr ⟨e, h, U.lt p (U.inP _ _ h)⟩
  refine ⟨K4.some U1.c nb, M4, fun k hk => ?_, fun k x hx => ?_, fun k k' p h h' => ?_, fun k p h => ?_, ?_, ?_, U.ne, fun p h => ?_⟩
  · rw [ins_find hn] at hk
    split at hk
    · cases hk
    · rename_i e
      rw [updP_ne (fun z => e z.symm)]
      exact U.off k hk
  · rw [ins_find hn] at hx
    split at hx
    · rename_i e
      have e : id = k := e
      subst e
      injection hx with hx
      subst hx
      exact ⟨_, updP_at _ _ _, N4⟩
    · rename_i e
      obtain ⟨p, hp, N⟩ := U1.on k x hx
      refine ⟨p, by rw [updP_ne (fun z => e z.symm)]; exact hp, N.keep K4 (fun z => U.nm ?_)⟩
      have z : p = mb := z
      rw [← z]
      exact U.inP _ _ hp
  · rcases old _ _ h with ⟨e, e2⟩ | ⟨e, h1, l1⟩ <;> rcases old _ _ h' with ⟨e', e2'⟩ | ⟨e', h1', l1'⟩
    · omega
    · omega
    · omega
    · exact U.inj _ _ _ h1 h1'
  · rcases old _ _ h with ⟨e, e2⟩ | ⟨e, h1, l1⟩
    · exact Or.inr e2
    · exact Or.inl (U.inP _ _ h1)
  · rintro (h | h)
    · exact U.nb h
    · omega
  · rintro (h | h)
    · exact U.nm h
    · omega
  · have s1 := K4.size
    rw [World.size_alloc] at s1
    rcases h with h | h
    · have := U.lt p h; omega
    · omega
set_option maxHeartbeats 1600000 in
theorem open_ok (U : BuAt w b mb P q f l) (G : Good l) (hq : q < 4611686018427387904) (id up n : Int) :
    Calls Try.prog 11 #[.pointer (some ⟨b, 0, none⟩), .int .i64 id, .int .i64 up, .int .i64 n] w (BuPost w b mb P q (opnL l id up n) (opnN l id up n)) := by
  have A := asked_ok U up n
  by_cases h : fitsN up n = true
  · have hf := fitsN_iff.1 h
    have a3 : askN l up n = if findN l up = none then 4 else 0 := by
      unfold askN
      rw [if_pos h]
      cases findN l up <;> rfl
    by_cases h2 : fitsN id n = true
    · have hf2 := fitsN_iff.1 h2
      have e0 : opnN l id up n = if findN l up = none then 4 else if findN l id ≠ none then 5 else if leftN' l up < n then 3 else 0 := by unfold opnN; rw [h, h2]; rfl
      have t1 : decide (id < 1) = false := by simp; omega
      have t2 : decide (8 < id) = false := by simp; omega
      cases e : findN l up with
      | none =>
        rw [if_pos e] at a3 e0
        have el : opnL l id up n = l := by unfold opnL; rw [e0]; rfl
        rw [a3] at A
        rw [e0, el]
        clear hf hf2
        replace A := Lib.hid A
        replace U := Lib.hid U
        replace G := Lib.hid G
        replace a3 := Lib.hid a3
        replace e0 := Lib.hid e0
        replace el := Lib.hid el
        replace e := Lib.hid e
        replace h := Lib.hid h
        replace h2 := Lib.hid h2
        go_enter Try.func11, Try.ntmps11
        go_wp2_with fail
        refine Calls.mono A.out ?_
        rintro r w1 ⟨rfl, rfl⟩
        go_wp2_with fail
        refine Calls.mono A.out ?_
        rintro r w1 ⟨rfl, rfl⟩
        go_wp2_with fail
        go_ret
        exact BuPost.same U.out (Keep.refl _ _)
      | some y =>
        rw [if_neg (by rw [e]; simp)] at a3 e0
        rw [a3] at A
        have hk : wfI id := by unfold wfI; omega
        have c0 := U.c
        cases e2 : findN l id with
        | some x =>
          rw [if_pos (by rw [e2]; simp)] at e0
          have el : opnL l id up n = l := by unfold opnL; rw [e0]; rfl
          rw [e0, el]
          obtain ⟨p, hp, N⟩ := U.on _ _ e2
          have LR := look_yes U.M hk hp
          clear hf hf2
          replace A := Lib.hid A
          replace U := Lib.hid U
          replace G := Lib.hid G
          replace a3 := Lib.hid a3
          replace e0 := Lib.hid e0
          replace el := Lib.hid el
          replace e := Lib.hid e
          replace h := Lib.hid h
          replace h2 := Lib.hid h2
          replace e2 := Lib.hid e2
          replace N := Lib.hid N
          replace hp := Lib.hid hp
          replace hk := Lib.hid hk
          go_enter Try.func11, Try.ntmps11
          go_wp2_with fail
          refine Calls.mono A.out ?_
          rintro r w1 ⟨rfl, rfl⟩
          go_wp2_with fail
          refine Calls.mono A.out ?_
          rintro r w1 ⟨rfl, rfl⟩
          go_wp2_with fail
          go_ret
          exact BuPost.same U.out (Keep.refl _ _)
        | none =>
          rw [if_neg (by rw [e2]; simp)] at e0
          have LR := look_no U.M hk (U.off _ e2)
          have L := left_ok U G up
          by_cases hl : leftN' l up < n
          · rw [if_pos hl] at e0
            have el : opnL l id up n = l := by unfold opnL; rw [e0]; rfl
            rw [e0, el]
            have t3 : decide (leftN' l up < n) = true := by simpa using hl
            obtain ⟨lf, hlf⟩ : ∃ lf, leftN' l up = lf := ⟨_, rfl⟩
            rw [hlf] at L t3
            clear hf hf2 hl
            replace A := Lib.hid A
            replace U := Lib.hid U
            replace G := Lib.hid G
            replace a3 := Lib.hid a3
            replace e0 := Lib.hid e0
            replace el := Lib.hid el
            replace e := Lib.hid e
            replace h := Lib.hid h
            replace h2 := Lib.hid h2
            replace e2 := Lib.hid e2
            replace hk := Lib.hid hk
            replace L := Lib.hid L
            replace hlf := Lib.hid hlf
            go_enter Try.func11, Try.ntmps11
            go_wp2_with fail
            refine Calls.mono A.out ?_
            rintro r w1 ⟨rfl, rfl⟩
            go_wp2_with fail
            refine Calls.mono A.out ?_
            rintro r w1 ⟨rfl, rfl⟩
            go_wp2_with fail
            refine Calls.mono L.out ?_
            rintro r w2 ⟨rfl, K2⟩
            go_wp2_with fail
            go_ret
            exact BuPost.same U.out K2
          · rw [if_neg hl] at e0
            have el : opnL l id up n = insN l ⟨id, up, n, 0⟩ := by unfold opnL; rw [if_pos e0]
            rw [e0, el]
            have t3 : decide (leftN' l up < n) = false := by simpa using hl
            obtain ⟨lf, hlf⟩ : ∃ lf, leftN' l up = lf := ⟨_, rfl⟩
            rw [hlf] at L t3
            clear hf hf2 hl
            replace A := Lib.hid A
            replace U := Lib.hid U
            replace G := Lib.hid G
            replace a3 := Lib.hid a3
            replace e0 := Lib.hid e0
            replace el := Lib.hid el
            replace e := Lib.hid e
            replace h := Lib.hid h
            replace h2 := Lib.hid h2
            replace e2 := Lib.hid e2
            replace hk := Lib.hid hk
            replace L := Lib.hid L
            replace hlf := Lib.hid hlf
            go_enter Try.func11, Try.ntmps11
            go_wp2_with fail
            refine Calls.mono A.out ?_
            rintro r w1 ⟨rfl, rfl⟩
            go_wp2_with fail
            refine Calls.mono A.out ?_
            rintro r w1 ⟨rfl, rfl⟩
            go_wp2_with fail
            refine Calls.mono L.out ?_
            rintro r w2 ⟨rfl, K2⟩
            have U2 := U.out.next K2
            have K3 : Keep nob w2 (w2.alloc (.cells #[.int .i64 id, .int .i64 up, .int .i64 n, .int .i64 0] 35)) := (Keep.refl _ _).alloc _
            have M3 := U2.M.next K3
            replace c0 := K2.some c0 (fun x => x)
            replace U2 := Lib.hid U2
            replace K2 := Lib.hid K2
            replace K3 := Lib.hid K3
            replace M3 := Lib.hid M3
            clear LR
            go_wp2_with (first | (at_mapUpdate; refine wpList_putP rfl _ _ _ rfl mb q f M3.out hq id w2.heap.size hk.out rfl rfl rfl ?_; intro w4 M4 K4; replace M4 := Lib.hid M4; replace K4 := Lib.hid K4) | fail)
            go_ret
            refine ⟨rfl, _, _, U2.out.opn e2.out M4.out K4.out, fun k hk => ?_, ?_⟩
            · have s2 := K2.out.size
              rcases hk with hk | hk
              · exact Or.inl hk
              · exact Or.inr (by rw [hk]; exact s2)
            · exact (K2.out.then K3.out).nob.trans K4.out (fun k _ e => Or.inl e)
    · have e0 : opnN l id up n = 2 := by unfold opnN; rw [if_neg (by simp [h2])]
      have el : opnL l id up n = l := by unfold opnL; rw [e0]; rfl
      rw [e0, el]
      have hid' : id < 1 ∨ 8 < id := by rw [fitsN_iff] at h2; omega
      obtain ⟨a0, ha0⟩ : ∃ a0, askN l up n = a0 := ⟨_, rfl⟩
      rw [ha0] at A a3
      have t5 : (a0 == 1) = false := by rw [a3]; split <;> rfl
      have t6 : (a0 == 2) = false := by rw [a3]; split <;> rfl
      rcases (show id < 1 ∨ (¬ id < 1 ∧ 8 < id) by omega) with q1 | ⟨q1, q2⟩
      · have t1 : decide (id < 1) = true := by simpa using q1
        clear hf hid' a3 q1
        replace A := Lib.hid A
        replace U := Lib.hid U
        replace G := Lib.hid G
        replace e0 := Lib.hid e0
        replace el := Lib.hid el
        replace h := Lib.hid h
        replace h2 := Lib.hid h2
        go_enter Try.func11, Try.ntmps11
        go_wp2_with fail
        refine Calls.mono A.out ?_
        rintro r w1 ⟨rfl, rfl⟩
        go_wp2_with fail
        go_ret
        exact BuPost.same U.out (Keep.refl _ _)
      · have t1 : decide (id < 1) = false := by simpa using q1
        have t2 : decide (8 < id) = true := by simpa using q2
        clear hf hid' a3 q1 q2
        replace A := Lib.hid A
        replace U := Lib.hid U
        replace G := Lib.hid G
        replace e0 := Lib.hid e0
        replace el := Lib.hid el
        replace h := Lib.hid h
        replace h2 := Lib.hid h2
        go_enter Try.func11, Try.ntmps11
        go_wp2_with fail
        refine Calls.mono A.out ?_
        rintro r w1 ⟨rfl, rfl⟩
        go_wp2_with fail
        go_ret
        exact BuPost.same U.out (Keep.refl _ _)
  · have ea : askN l up n = 2 := by unfold askN; rw [if_neg h]
    have e0 : opnN l id up n = 2 := by unfold opnN; rw [if_neg (by simp [h])]
    have el : opnL l id up n = l := by unfold opnL; rw [e0]; rfl
    rw [ea] at A
    rw [e0, el]
    replace A := Lib.hid A
    replace U := Lib.hid U
    replace G := Lib.hid G
    replace ea := Lib.hid ea
    replace e0 := Lib.hid e0
    replace el := Lib.hid el
    go_enter Try.func11, Try.ntmps11
    go_wp2_with fail
    refine Calls.mono A.out ?_
    rintro r w1 ⟨rfl, rfl⟩
    go_wp2_with fail
    go_ret
    exact BuPost.same U.out (Keep.refl _ _)
def InvC (w1 : World) (mb q : Nat) (P : Nat → Prop) (f : Int → Option Nat) (l : List Nd) (id up : Int) (px r : Nat) (wr : World) : Prop :=
  ∃ left cnt, RangeP wr mb r q f left cnt ∧ (∀ k y, findN (delN l id) k = some y → ∃ p, f k = some p ∧ NdAt wr p (if left k = true then y else reUp id up y)) ∧ Keep (fun k => P k ∧ k ≠ px) w1 wr
set_option maxHeartbeats 1600000 in
theorem close_ok (U : BuAt w b mb P q f l) (G : Good l) (id : Int) :
    Calls Try.prog 14 #[.pointer (some ⟨b, 0, none⟩), .int .i64 id] w (BuPost w b mb P q (clsL l id) (clsN l id)) := by
  have A := asked_ok U id 0
  by_cases h : fitsN id 0 = true
  · have hf := fitsN_iff.1 h
    cases e : findN l id with
    | none =>
      have ea : askN l id 0 = 4 := by unfold askN; rw [if_pos h, e]
      have ec : clsN l id = 4 := by unfold clsN; rw [if_pos h, e]
      have el : clsL l id = l := clsL_no (by rw [ec]; decide)
      rw [ea] at A
      rw [ec, el]
      replace A := Lib.hid A
      replace U := Lib.hid U
      replace G := Lib.hid G
      replace ea := Lib.hid ea
      replace ec := Lib.hid ec
      replace el := Lib.hid el
      go_enter Try.func14, Try.ntmps14
      go_wp2_with fail
      refine Calls.mono A.out ?_
      rintro r w1 ⟨rfl, rfl⟩
      go_wp2_with fail
      go_ret
      exact BuPost.same U.out (Keep.refl _ _)
    | some x =>
      have ea : askN l id 0 = 0 := by unfold askN; rw [if_pos h, e]
      have ec : clsN l id = if id = 1 ∨ x.us ≠ 0 then 9 else 0 := by unfold clsN; rw [if_pos h, e]
      rw [ea] at A
      obtain ⟨p, hp, N⟩ := U.on _ _ e
      have hm := (findN_some e).1
      have hxid := (findN_some e).2
      have hk : wfI id := by unfold wfI; omega
      have c0 := U.c
      have LR := look_yes U.M hk hp
      have d3 := N.c3
      by_cases h1 : id = 1
      · rw [if_pos (Or.inl h1)] at ec
        have el : clsL l id = l := clsL_no (by rw [ec]; decide)
        rw [ec, el]
        subst h1
        clear hf
        replace A := Lib.hid A
        replace U := Lib.hid U
        replace G := Lib.hid G
        replace ea := Lib.hid ea
        replace ec := Lib.hid ec
        replace el := Lib.hid el
        replace N := Lib.hid N
        replace hm := Lib.hid hm
        replace hk := Lib.hid hk
        replace e := Lib.hid e
        replace hp := Lib.hid hp
        go_enter Try.func14, Try.ntmps14
        go_wp2_with fail
        refine Calls.mono A.out ?_
        rintro r w1 ⟨rfl, rfl⟩
        go_wp2_with fail
        go_ret
        exact BuPost.same U.out (Keep.refl _ _)
      · have t1 : (id == 1) = false := by simpa using h1
        by_cases h2 : x.us = 0
        · rw [if_neg (by rintro (z | z); exact h1 z; exact z h2)] at ec
          rw [ec, clsL_eq ec e]
          rw [h2] at d3
          have une := G.upNe hm
          have d1 := N.c1
          have hP := U.inP _ _ hp
          obtain ⟨up, hup⟩ : ∃ up, x.up = up := ⟨_, rfl⟩
          rw [hup] at d1 une ⊢
          have npb : p ≠ b := fun z => U.nb (by rw [← z]; exact hP)
          have npm : p ≠ mb := fun z => U.nm (by rw [← z]; exact hP)
          have dfind : ∀ k y, findN (delN l id) k = some y → k ≠ id ∧ findN l k = some y := by
            intro k y hy
            rw [del_find] at hy
            split at hy
            · cases hy
            · rename_i z; exact ⟨z, hy⟩
          clear hf
          replace A := Lib.hid A
          replace U := Lib.hid U
          replace G := Lib.hid G
          replace ea := Lib.hid ea
          replace ec := Lib.hid ec
          replace N := Lib.hid N
          replace hm := Lib.hid hm
          replace hk := Lib.hid hk
          replace e := Lib.hid e
          replace hp := Lib.hid hp
          replace une := Lib.hid une
          replace hP := Lib.hid hP
          replace npb := Lib.hid npb
          replace npm := Lib.hid npm
          replace hxid := Lib.hid hxid
          replace dfind := Lib.hid dfind
          go_enter Try.func14, Try.ntmps14
          go_wp2_with fail
          refine Calls.mono A.out ?_
          rintro r w1 ⟨rfl, rfl⟩
          go_wp2_with (first | (at_delete; refine wpList_delP rfl _ _ rfl mb q f U.out.M id hk.out rfl rfl ?_; intro w1 M1 K1; replace c0 := K1.some c0 (fun z => U.out.ne z); replace M1 := Lib.hid M1; replace K1 := Lib.hid K1; clear LR) | (at_range; refine wpList_rangeP rfl _ rfl mb q _ M1.out rfl ?_; intro w2 cnt2 R2 K2 hz2; replace R2 := Lib.hid R2; replace K2 := Lib.hid K2; go_frame))
          have on1 : ∀ k y, findN (delN l id) k = some y → ∃ p', updP f id none k = some p' ∧ NdAt w2 p' y := by
            intro k y hy
            obtain ⟨z1, z2⟩ := dfind.out k y hy
            obtain ⟨p', hp', N'⟩ := U.out.on _ _ z2
            refine ⟨p', by rw [updP_ne z1]; exact hp', (N'.keep K1.out (fun z => U.out.nm ?_)).next K2.out⟩
            have z : p' = mb := z
            rw [← z]
            exact U.out.inP _ _ hp'
          have d1' := K2.out.some (K1.out.some d1 (fun z => npm.out z)) (fun z => z)
          have hr := K2.out.size
          have hmb := M1.out.blt
          have plt := U.out.lt _ hP.out
          have ws := K1.out.size
          replace on1 := Lib.hid on1
          go_loopw [8] (fun _ wr => InvC w1 mb q P (updP f id none) l id up p w1.heap.size wr) (fun _ wr => wr.rangeLeft mb w1.heap.size)
          case atStart =>
            refine ⟨_, _, R2.out, fun k y hy => ?_, K2.out.nob⟩
            obtain ⟨p', hp', N'⟩ := on1.out k y hy
            refine ⟨p', hp', ?_⟩
            rw [if_pos (by rw [hp']; rfl)]
            exact N'
          case round =>
            obtain ⟨left, cnt, R, ON, K⟩ := hrel
            replace R := Lib.hid R
            replace ON := Lib.hid ON
            replace K := Lib.hid K
            go_wp2_with (at_next; refine wpList_nextP rfl _ rfl mb w1.heap.size q cnt (updP f id none) left rfl R.out ?_ ?_)
            · intro h0
              replace h0 := Lib.hid h0
              go_wp2_with fail
              go_ret
              have KK := (K1.out.mono (T := ownU mb P) (fun k _ e => Or.inl e)).trans K.out (fun k _ e => Or.inr e.1)
              have cb := K.out.some c0 (fun e => U.out.nb e.1)
              refine ⟨rfl, P, updP f id none, ⟨cb, R.out.map.mono (Nat.le_succ _), fun k hk => ?_, fun k y hy => ?_, fun k k' pk h h' => ?_, fun k pk h => ?_, U.out.nb, U.out.nm, U.out.ne, fun pk h => Nat.lt_of_lt_of_le (U.out.lt pk h) KK.size⟩, fun _ h => Or.inl h, KK⟩
              · rw [re_find, del_find] at hk
                by_cases z : k = id
                · rw [z, updP_at]
                · rw [if_neg z] at hk
                  rw [updP_ne z]
                  cases z2 : findN l k with
                  | none => exact U.out.off k z2
                  | some y => rw [z2] at hk; cases hk
              · rw [re_find] at hy
                cases z2 : findN (delN l id) k with
                | none => rw [z2] at hy; cases hy
                | some y0 =>
                  rw [z2] at hy
                  injection hy with hy
                  subst hy
                  obtain ⟨p', hp', N'⟩ := ON.out k y0 z2
                  rw [if_neg (by rw [h0.out k]; decide)] at N'
                  exact ⟨p', hp', N'⟩
              · unfold updP at h h'
                split at h
                · cases h
                · split at h'
                  · cases h'
                  · exact U.out.inj _ _ _ h h'
              · unfold updP at h
                split at h
                · cases h
                · exact U.out.inP _ _ h
            · intro k pk w3 cnt3 hk3 hl3 hf3 R3 hlt3 K3 hz3 hen3
              have kne : k ≠ id := fun z => by rw [z, updP_at] at hf3; cases hf3
              have hfk : f k = some pk := by rw [updP_ne kne] at hf3; exact hf3
              obtain ⟨y, hy⟩ : ∃ y, findN l k = some y := by
                have := U.out.has k
                rw [hfk] at this
                cases z : findN l k with
                | none => rw [z] at this; cases this
                | some x => exact ⟨x, rfl⟩
              have hy' : findN (delN l id) k = some y := by rw [del_find, if_neg kne]; exact hy
              obtain ⟨p', hp', N'⟩ := ON.out k y hy'
              rw [if_pos hl3] at N'
              rw [hf3] at hp'
              injection hp' with hp'
              subst hp'
              have pP := U.out.inP _ _ hfk
              have pkl := U.out.lt _ pP
              have npk : pk ≠ p := fun z => kne (U.out.inj _ _ _ hfk (by rw [z]; exact hp.out))
              have npm2 : pk ≠ mb := fun z => U.out.nm (by rw [← z]; exact pP)
              have N3 := N'.keep K3 (fun z => by have z : pk = w1.heap.size := z; omega)
              have dx := K3.some (K.out.some (K1.out.some d1 (fun z => npm.out z)) (fun z => z.2 rfl)) (fun z => by have z : p = w1.heap.size := z; omega)
              have d1y := N3.c1
              have z1y := N3.z1
              have Kc := K.out.trans K3 (fun j hj z => by have z : j = w1.heap.size := z; omega)
              have onK : ∀ k' y', findN (delN l id) k' = some y' → k' ≠ k → ∃ p', updP f id none k' = some p' ∧ p' ≠ pk ∧ NdAt w3 p' (if (left k' && !decide (k' = k)) = true then y' else reUp id up y') := by
                intro k' y' h1 h2
                obtain ⟨p', hp', N'⟩ := ON.out k' y' h1
                obtain ⟨g1, g2⟩ := dfind.out _ _ h1
                have hp2 : f k' = some p' := by rw [updP_ne g1] at hp'; exact hp'
                have l2 := U.out.lt _ (U.out.inP _ _ hp2)
                refine ⟨p', hp', fun z => h2 (U.out.inj _ _ _ hp2 (by rw [z]; exact hfk)), ?_⟩
                rw [decide_eq_false h2, Bool.not_false, Bool.and_true]
                exact N'.keep K3 (fun z => by have z : p' = w1.heap.size := z; omega)
              have lk : (left k && !decide (k = k)) = false := by simp
              replace hen3 : Sem.run Try.prog (Instr.entry (Value.pointer (some ⟨w1.heap.size, 0, none⟩))) w3 = .ok (.tuple #[.int .i64 k, .pointer (some ⟨pk, 0, none⟩)]) w3 := hen3
              by_cases z : y.up = id
              · rw [z] at d1y
                have nst : reUp id up y = { y with up := up } := by unfold reUp; rw [if_pos z]
                have NS := N3.setUp up
                rw [← nst] at NS
                have Ks : Keep (only pk) w3 (w3.setCell ⟨pk, 1, none⟩ (.int .i64 up)) := (Keep.refl _ _).store _ _
                replace N' := Lib.hid N'
                replace N3 := Lib.hid N3
                replace R3 := Lib.hid R3
                replace K3 := Lib.hid K3
                replace Kc := Lib.hid Kc
                replace onK := Lib.hid onK
                replace hy := Lib.hid hy
                replace hy' := Lib.hid hy'
                replace hfk := Lib.hid hfk
                replace hf3 := Lib.hid hf3
                replace hk3 := Lib.hid hk3
                replace hl3 := Lib.hid hl3
                replace nst := Lib.hid nst
                replace NS := Lib.hid NS
                replace Ks := Lib.hid Ks
                replace pP := Lib.hid pP
                replace npk := Lib.hid npk
                replace npm2 := Lib.hid npm2
                replace hz3 := Lib.hid hz3
                replace z := Lib.hid z
                replace lk := Lib.hid lk
                go_wp2_with fail
                go_roundw
                case rel =>
                  refine ⟨_, _, R3.out.keep Ks.out (fun e => npm2.out e.symm) (fun e => by have e : w1.heap.size = pk := e; omega), fun k' y' h1 => ?_, Kc.out.trans Ks.out (fun j _ e => by have e : j = pk := e; subst e; exact ⟨pP.out, npk.out⟩)⟩
                  by_cases e : k' = k
                  · subst e
                    rw [hy'.out] at h1
                    injection h1 with h1
                    subst h1
                    refine ⟨pk, hf3.out, ?_⟩
                    rw [if_neg (by rw [lk.out]; decide)]
                    exact NS.out
                  · obtain ⟨p', h2, h3, h4⟩ := onK.out k' y' h1 e
                    exact ⟨p', h2, h4.keep Ks.out (fun z => h3 z)⟩
                case measure =>
                  rw [(R3.out.keep Ks.out (fun e => npm2.out e.symm) (fun e => by have e : w1.heap.size = pk := e; omega)).left_eq, R.out.left_eq]
                  exact hlt3
              · have t2 : (y.up == id) = false := by simpa using z
                have nst : reUp id up y = y := by unfold reUp; rw [if_neg z]
                replace N' := Lib.hid N'
                replace N3 := Lib.hid N3
                replace R3 := Lib.hid R3
                replace K3 := Lib.hid K3
                replace Kc := Lib.hid Kc
                replace onK := Lib.hid onK
                replace hy := Lib.hid hy
                replace hy' := Lib.hid hy'
                replace hfk := Lib.hid hfk
                replace hf3 := Lib.hid hf3
                replace hk3 := Lib.hid hk3
                replace hl3 := Lib.hid hl3
                replace nst := Lib.hid nst
                replace pP := Lib.hid pP
                replace npk := Lib.hid npk
                replace npm2 := Lib.hid npm2
                replace hz3 := Lib.hid hz3
                replace lk := Lib.hid lk
                go_wp2_with fail
                go_roundw
                case rel =>
                  refine ⟨_, _, R3.out, fun k' y' h1 => ?_, Kc.out⟩
                  by_cases e : k' = k
                  · subst e
                    rw [hy'.out] at h1
                    injection h1 with h1
                    subst h1
                    refine ⟨pk, hf3.out, ?_⟩
                    rw [if_neg (by rw [lk.out]; decide), nst.out]
                    exact N3.out
                  · obtain ⟨p', h2, h3, h4⟩ := onK.out k' y' h1 e
                    exact ⟨p', h2, h4⟩
                case measure =>
                  rw [R3.out.left_eq, R.out.left_eq]
                  exact hlt3
        · have t2 : (x.us != 0) = true := by simpa using h2
          rw [if_pos (Or.inr h2)] at ec
          have el : clsL l id = l := clsL_no (by rw [ec]; decide)
          rw [ec, el]
          clear hf
          replace A := Lib.hid A
          replace U := Lib.hid U
          replace G := Lib.hid G
          replace ea := Lib.hid ea
          replace ec := Lib.hid ec
          replace el := Lib.hid el
          replace N := Lib.hid N
          replace hm := Lib.hid hm
          replace hk := Lib.hid hk
          replace e := Lib.hid e
          replace hp := Lib.hid hp
          go_enter Try.func14, Try.ntmps14
          go_wp2_with fail
          refine Calls.mono A.out ?_
          rintro r w1 ⟨rfl, rfl⟩
          go_wp2_with fail
          go_ret
          exact BuPost.same U.out (Keep.refl _ _)
  · have ea : askN l id 0 = 2 := by unfold askN; rw [if_neg h]
    have ec : clsN l id = 2 := by unfold clsN; rw [if_neg h]
    have el : clsL l id = l := clsL_no (by rw [ec]; decide)
    rw [ea] at A
    rw [ec, el]
    replace A := Lib.hid A
    replace U := Lib.hid U
    replace G := Lib.hid G
    replace ea := Lib.hid ea
    replace ec := Lib.hid ec
    replace el := Lib.hid el
    go_enter Try.func14, Try.ntmps14
    go_wp2_with fail
    refine Calls.mono A.out ?_
    rintro r w1 ⟨rfl, rfl⟩
    go_wp2_with fail
    go_ret
    exact BuPost.same U.out (Keep.refl _ _)
end
end Go.Proofs.Ytepmljcapobodaa
