/- Contracts of package budget: Left. -/
import Derived.Test.YtepmljcapobodaaBud
namespace Go.Proofs.Ytepmljcapobodaa
open Go.RowKit
set_option linter.unusedVariables false
set_option linter.unusedSimpArgs false
set_option maxRecDepth 100000
def sumN : List Nd → (Int → Bool) → Int → Int
  | [], _, _ => 0
  | x :: l, S, id => (if S x.id = true ∧ x.up = id then x.qt else 0) + sumN l S id
theorem sumN_cons (x : Nd) (l : List Nd) (S : Int → Bool) (id : Int) : sumN (x :: l) S id = (if S x.id = true ∧ x.up = id then x.qt else 0) + sumN l S id := rfl
theorem sumN_all (l : List Nd) (id : Int) (S : Int → Bool) (h : ∀ k, S k = true) : sumN l S id = carvN l id := by
  induction l with
  | nil => rfl
  | cons x l ih =>
    rw [sumN_cons, carvN_cons, ih]
    by_cases e : x.up = id
    · rw [if_pos ⟨h _, e⟩, if_pos e]
    · rw [if_neg (fun q => e q.2), if_neg e]
theorem sumN_none (l : List Nd) (id : Int) (S : Int → Bool) (h : ∀ x ∈ l, S x.id = false) : sumN l S id = 0 := by
  induction l with
  | nil => rfl
  | cons x l ih =>
    rw [sumN_cons, ih (fun y hy => h y (List.mem_cons_of_mem _ hy)), if_neg (fun q => by rw [h x List.mem_cons_self] at q; cases q.1)]
    rfl
theorem sumN_congr (l : List Nd) (id : Int) {S T : Int → Bool} (h : ∀ x ∈ l, S x.id = T x.id) : sumN l S id = sumN l T id := by
  induction l with
  | nil => rfl
  | cons x l ih => rw [sumN_cons, sumN_cons, ih (fun y hy => h y (List.mem_cons_of_mem _ hy)), h x List.mem_cons_self]
theorem sumN_turn {l : List Nd} (s : l.Pairwise (fun x y => x.id < y.id)) (id : Int) {left : Int → Bool} {x : Nd} (hx : x ∈ l) (hl : left x.id = true) :
    sumN l (fun z => !(left z && !decide (z = x.id))) id = sumN l (fun z => !left z) id + if x.up = id then x.qt else 0 := by
  induction l with
  | nil => cases hx
  | cons y l ih =>
    rw [List.pairwise_cons] at s
    rw [sumN_cons, sumN_cons]
    rcases List.mem_cons.1 hx with rfl | hx
    · rw [sumN_congr l id (T := fun z => !left z) (fun y hy => by
        have := s.1 y hy
        rw [decide_eq_false (by omega)]
        simp)]
      simp only [decide_true, Bool.not_true, Bool.and_false, Bool.not_false, hl, Bool.false_eq_true, false_and, if_false, true_and]
      omega
    · rw [ih s.2 hx]
      have := s.1 x hx
      rw [decide_eq_false (show ¬ y.id = x.id by omega)]
      simp only [Bool.not_false, Bool.and_true]
      omega
theorem sumN_rng {l : List Nd} (h : ∀ x ∈ l, 0 ≤ x.qt ∧ x.qt ≤ 65536) (S : Int → Bool) (id : Int) : 0 ≤ sumN l S id ∧ sumN l S id ≤ 65536 * l.length := by
  induction l with
  | nil => simp [sumN]
  | cons x l ih =>
    have a := h x List.mem_cons_self
    have b := ih (fun y hy => h y (List.mem_cons_of_mem _ hy))
    rw [sumN_cons, List.length_cons]
    split <;> omega
theorem Good.sum {l : List Nd} (G : Good l) (S : Int → Bool) (id : Int) : 0 ≤ sumN l S id ∧ sumN l S id ≤ 524288 := by
  have := sumN_rng (l := l) (fun x hx => ⟨(G.rng x hx).1, (G.rng x hx).2.1⟩) S id
  have := G.len
  omega
section
variable {w : World} {b mb q : Nat} {P : Nat → Prop} {f : Int → Option Nat} {l : List Nd}
def InvL (w : World) (mb q : Nat) (f : Int → Option Nat) (l : List Nd) (id : Int) (n : Value) (wr : World) : Prop :=
  ∃ left cnt, RangeP wr mb w.heap.size q f left cnt ∧ n = .int .i64 (sumN l (fun z => !left z) id) ∧ Keep nob w wr
set_option maxHeartbeats 1600000 in
theorem carved_ok (U : BuAt w b mb P q f l) (G : Good l) (c1 c2 : Nat) (id : Int) (h1 : w.cell? ⟨c1, 0, none⟩ = some (.pointer (some ⟨b, 0, none⟩))) (h2 : w.cell? ⟨c2, 0, none⟩ = some (.int .i64 id)) :
    Calls Try.prog 23 #[.pointer (some ⟨c1, 0, none⟩), .pointer (some ⟨c2, 0, none⟩)] w fun r w' => r = .returned (.int .i64 (carvN l id)) ∧ Keep nob w w' := by
  have c := U.c
  replace U := Lib.hid U
  replace G := Lib.hid G
  go_enter Try.func23, Try.ntmps23
  go_wp2_with (at_range; refine wpList_rangeP rfl _ rfl mb q f U.out.M rfl ?_; intro w1 cnt1 R1 K1 hz1; replace R1 := Lib.hid R1; replace K1 := Lib.hid K1; go_frame)
  go_loopw [3] (fun n wr => InvL w mb q f l id n wr) (fun _ wr => wr.rangeLeft mb w.heap.size)
  case atStart =>
    refine ⟨_, _, R1.out, ?_, K1.out⟩
    rw [sumN_none]
    intro x hx
    have := findN_of G.out.srt hx
    obtain ⟨p, e, -⟩ := U.out.on _ _ this
    simp [e]
  case round =>
    obtain ⟨left, cnt, R, rfl, K⟩ := hrel
    have S0 := G.out.sum (fun z => !left z) id
    replace R := Lib.hid R
    replace K := Lib.hid K
    go_wp2_with (at_next; refine wpList_nextP rfl _ rfl mb w.heap.size q cnt f left rfl R.out ?_ ?_)
    · intro h0
      have e : sumN l (fun z => !left z) id = carvN l id := sumN_all _ _ _ (fun k => by rw [h0 k]; rfl)
      rw [e]
      clear h0
      go_wp2_with fail
      go_ret
      exact ⟨rfl, K.out⟩
    · intro k p w2 cnt2 hk hl hf R2 hlt K2 hz hen
      obtain ⟨x, hx⟩ : ∃ x, findN l k = some x := by
        have := U.out.has k
        rw [hf] at this
        cases e : findN l k with
        | none => rw [e] at this; cases this
        | some x => exact ⟨x, rfl⟩
      obtain ⟨hm, rfl⟩ := findN_some hx
      obtain ⟨p', hp', N⟩ := U.out.on _ _ hx
      rw [hf] at hp'
      injection hp' with hp'
      subst hp'
      have Ka := K.out.trans K2 (fun q hq e => by have e : q = w.heap.size := e; omega)
      have N2 := N.next Ka
      have d1 := N2.c1
      have d2 := N2.c2
      have d9 := Ka.some h2 (fun x => x)
      have T := sumN_turn G.out.srt id hm hl
      have S1 := G.out.sum (fun z => !(left z && !decide (z = x.id))) id
      have rq := G.out.rng x hm
      obtain ⟨s0, hs0⟩ : ∃ s0, sumN l (fun z => !left z) id = s0 := ⟨_, rfl⟩
      obtain ⟨s1, hs1⟩ : ∃ s1, sumN l (fun z => !(left z && !decide (z = x.id))) id = s1 := ⟨_, rfl⟩
      rw [hs0] at T S0 ⊢
      rw [hs1] at T S1
      have R2' : RangeP w2 mb w.heap.size q f (fun z => left z && !decide (z = x.id)) cnt2 := R2
      clear R2
      replace R2' := Lib.hid R2'
      replace Ka := Lib.hid Ka
      replace N := Lib.hid N
      replace N2 := Lib.hid N2
      replace hs0 := Lib.hid hs0
      replace hs1 := Lib.hid hs1
      replace hm := Lib.hid hm
      replace hx := Lib.hid hx
      replace hl := Lib.hid hl
      replace hf := Lib.hid hf
      replace K2 := Lib.hid K2
      replace hk := Lib.hid hk
      by_cases e : x.up = id
      · rw [if_pos e] at T
        rw [e] at d1
        have a1 : (0 : Int) ≤ s0 := S0.1
        have a2 : s0 ≤ 524288 := S0.2
        have a3 : (0 : Int) ≤ x.qt := rq.1
        have a4 : x.qt ≤ 65536 := rq.2.1
        have a5 : IntKind.i64.wrap (s0 + x.qt) = s0 + x.qt := IntWalk.i64_in _ (by omega)
        clear rq S0 S1
        replace T := Lib.hid T
        replace e := Lib.hid e
        go_wp2_with fail
        go_quiet (fail)
        go_wp2_with fail
        go_roundw
        case rel =>
          refine ⟨_, _, R2'.out.keep ((Keep.refl nob w2).drewN _) (fun x => x) (fun x => x), ?_, Ka.out.drewN _⟩
          rw [hs1.out, T.out]
        case measure =>
          rw [(R2'.out.keep ((Keep.refl nob w2).drewN _) (fun x => x) (fun x => x)).left_eq, R.out.left_eq]
          exact hlt
      · rw [if_neg e] at T
        have t1 : (x.up == id) = false := by simpa using e
        clear rq S0 S1
        replace T := Lib.hid T
        go_wp2_with fail
        go_quiet (fail)
        go_wp2_with fail
        go_roundw
        case rel =>
          refine ⟨_, _, R2'.out.keep ((Keep.refl nob w2).drewN _) (fun x => x) (fun x => x), ?_, Ka.out.drewN _⟩
          rw [hs1.out, T.out, Int.add_zero]
        case measure =>
          rw [(R2'.out.keep ((Keep.refl nob w2).drewN _) (fun x => x) (fun x => x)).left_eq, R.out.left_eq]
          exact hlt
theorem findN_out (G : Good l) {id : Int} (h : ¬ (1 ≤ id ∧ id ≤ 8)) : findN l id = none := by
  cases e : findN l id with
  | none => rfl
  | some x =>
    obtain ⟨hx, rfl⟩ := findN_some e
    exact absurd (G.ids x hx) h
theorem askN_left (G : Good l) (id : Int) : (askN l id 0 = 0 ∧ ∃ x, findN l id = some x ∧ 1 ≤ id ∧ id ≤ 8) ∨ (askN l id 0 ≠ 0 ∧ findN l id = none) := by
  unfold askN
  by_cases h : fitsN id 0 = true
  · rw [if_pos h]
    cases e : findN l id with
    | none => exact Or.inr ⟨by decide, rfl⟩
    | some x => exact Or.inl ⟨rfl, x, rfl, (fitsN_iff.1 h).1.1, (fitsN_iff.1 h).1.2⟩
  · rw [if_neg h]
    refine Or.inr ⟨by decide, findN_out G (fun q => h (fitsN_iff.2 ⟨q, by omega, by omega⟩))⟩
set_option maxHeartbeats 1600000 in
theorem left_ok (U : BuAt w b mb P q f l) (G : Good l) (id : Int) :
    Calls Try.prog 12 #[.pointer (some ⟨b, 0, none⟩), .int .i64 id] w fun r w' => r = .returned (.int .i64 (leftN' l id)) ∧ Keep nob w w' := by
  have K1 : Keep nob w ((w.alloc (.cells #[.pointer (some ⟨b, 0, none⟩)] 22)).alloc (.cells #[.int .i64 id] 3)) := ((Keep.refl _ _).alloc _).alloc _
  have z1 : ((w.alloc (.cells #[.pointer (some ⟨b, 0, none⟩)] 22)).alloc (.cells #[.int .i64 id] 3)).cell? ⟨w.heap.size, 0, none⟩ = some (.pointer (some ⟨b, 0, none⟩)) := by
    rw [alloc_lt (by simp)]
    exact new_at w _ _ 0 _ rfl
  have z2 : ((w.alloc (.cells #[.pointer (some ⟨b, 0, none⟩)] 22)).alloc (.cells #[.int .i64 id] 3)).cell? ⟨w.heap.size + 1, 0, none⟩ = some (.int .i64 id) := by
    have := new_at (w.alloc (.cells #[.pointer (some ⟨b, 0, none⟩)] 22)) #[.int .i64 id] 3 0 _ rfl
    rwa [World.size_alloc] at this
  have A := asked_ok (U.next K1) id 0
  have hid := askN_left G id
  obtain ⟨a0, ha⟩ : ∃ a0, askN l id 0 = a0 := ⟨_, rfl⟩
  rw [ha] at A hid
  obtain ⟨W, hW⟩ : ∃ W, W = (w.alloc (.cells #[.pointer (some ⟨b, 0, none⟩)] 22)).alloc (.cells #[.int .i64 id] 3) := ⟨_, rfl⟩
  rw [← hW] at K1 z1 z2 A
  rcases hid with ⟨rfl, x, hx, i1, i2⟩ | ⟨h0, hx⟩
  · have hm := (findN_some hx).1
    have U1 := U.next K1
    obtain ⟨p, hp, N⟩ := U1.on _ _ hx
    have hk : wfI id := by unfold wfI; omega
    have el : leftN' l id = x.qt - x.us - carvN l id := by unfold leftN'; rw [hx]
    have rq := G.rng x hm
    have us := G.us hm
    have cv := G.carv id
    have LQ := fun (t : KW W) => look_yes (U1.M.next t.k) hk hp
    have CV := fun (t : KW W) => carved_ok (U1.next t.k) G w.heap.size (w.heap.size + 1) id (t.k.some z1 (fun x => x)) (t.k.some z2 (fun x => x))
    have Z1 := KW.cell z1
    have Z2 := KW.cell z2
    have Z3 := KW.cell U1.c
    have Z4 := KW.cell N.c2
    have Z5 := KW.cell N.c3
    have b1 : IntKind.i64.wrap (x.qt - x.us) = x.qt - x.us := IntWalk.i64_in _ (by omega)
    have b2 : IntKind.i64.wrap (x.qt - x.us - carvN l id) = x.qt - x.us - carvN l id := IntWalk.i64_in _ (by omega)
    rw [el]
    obtain ⟨cc, hcc⟩ : ∃ cc, carvN l id = cc := ⟨_, rfl⟩
    rw [hcc] at CV b2 cv ⊢
    have a3 : (0 : Int) ≤ x.qt := rq.1
    have a4 : x.qt ≤ 65536 := rq.2.1
    have a5 : (0 : Int) ≤ x.us := rq.2.2.1
    have a6 : (0 : Int) ≤ cc := cv.1
    have a7 : cc ≤ 524288 := cv.2
    clear rq cv el
    replace hW := Lib.hid hW
    replace K1 := Lib.hid K1
    replace A := Lib.hid A
    replace U1 := Lib.hid U1
    replace N := Lib.hid N
    replace hk := Lib.hid hk
    replace hp := Lib.hid hp
    replace hx := Lib.hid hx
    replace hm := Lib.hid hm
    replace U := Lib.hid U
    replace G := Lib.hid G
    replace CV := Lib.hid CV
    replace hcc := Lib.hid hcc
    go_enter Try.func12, Try.ntmps12
    go_wp2_with fail
    rw [← hW.out]
    refine Calls.mono A.out ?_
    rintro r w1 ⟨rfl, rfl⟩
    go_wp2_with fail
    refine wp_region_keepq (by kernel_rfl) (by kernel_rfl) ?_
    repeat (go_big_quiet_step (fail))
    refine wpQuiet_nil ?_
    rintro w2 ⟨⟨_, K2⟩, rfl⟩
    try dsimp only
    have ZZ4 := fun (t : KW w2) => t.k.some (K2.some N.out.c2 (fun x => x)) (fun x => x)
    have ZZ5 := fun (t : KW w2) => t.k.some (K2.some N.out.c3 (fun x => x)) (fun x => x)
    have CV2 := fun (t : KW w2) => CV.out ⟨t.w, K2.then t.k⟩
    clear LQ Z1 Z2 Z3 Z4 Z5
    replace K2 := Lib.hid K2
    replace CV2 := Lib.hid CV2
    go_wp2_with fail
    refine wp_region_keepq (by kernel_rfl) (by kernel_rfl) ?_
    repeat (go_big_quiet_step ((first | (go_at_call 23; with_reducible exact Calls.keepq (CV2.out _)))))
    refine wpQuiet_nil ?_
    rintro w3 ⟨⟨_, K3⟩, rfl⟩
    try dsimp only
    go_wp2_with fail
    go_ret
    exact ⟨rfl, (K1.out.then K2.out).then K3⟩
  · have el : leftN' l id = 0 := by unfold leftN'; rw [hx]
    have t1 : (a0 != 0) = true := by simpa using h0
    rw [el]
    replace hW := Lib.hid hW
    replace K1 := Lib.hid K1
    replace A := Lib.hid A
    replace U := Lib.hid U
    replace G := Lib.hid G
    replace hx := Lib.hid hx
    clear h0
    go_enter Try.func12, Try.ntmps12
    go_wp2_with fail
    rw [← hW.out]
    refine Calls.mono A.out ?_
    rintro r w1 ⟨rfl, rfl⟩
    go_wp2_with fail
    go_ret
    exact ⟨rfl, K1.out⟩
end
end Go.Proofs.Ytepmljcapobodaa
