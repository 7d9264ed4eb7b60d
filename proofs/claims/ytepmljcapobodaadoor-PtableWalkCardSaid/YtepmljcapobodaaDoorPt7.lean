/- Of package ptable: made, has, New. -/
import Derived.Test.YtepmljcapobodaaDoorPt6
import Derived.Test.YtepmljcapobodaaDoorPalNone
namespace Go.Proofs.YtepmljcapobodaaDoor
open Go.RowKit
set_option linter.unusedVariables false
set_option maxRecDepth 100000
theorem own_fn {w : World} {B : PB} {c : Nat → Int} {f : Int → Int} {q : Nat} (G : Geo B) (P : PoolAt w B c f q) (x : Int) (hx : wfI x) :
    Calls Tryd.prog 23 #[.pointer (some ⟨B.p, 0, none⟩), .int .i64 x] w fun r w' => r = .returned (.tuple #[.int .i64 (ownE B x).1, .int .i64 (ownE B x).2]) ∧ Keep nob w w' := by
  refine (owner_any G P x hx).mono ?_
  rintro r w' ⟨⟨j, hj, rfl⟩ | ⟨hj, rfl⟩, K⟩
  · exact ⟨by rw [ownE_in G hj], K⟩
  · exact ⟨by rw [ownE_out hj], K⟩
theorem made_none {w : World} : Calls Tryd.prog 83 #[.pointer none] w fun r w' => r = .returned (.bool false) ∧ w = w' := by
  have C := Lib.hid (owner_none (w := w) (v := .pointer none) (Or.inl rfl) (-1))
  go_enter Tryd.func83, Tryd.ntmps83
  go_wp2_with fail
  refine Calls.mono (C.out) ?_
  rintro r w1 ⟨rfl, rfl⟩
  go_wp2_with fail
  go_ret
  exact ⟨rfl, rfl⟩
set_option maxHeartbeats 1600000 in
theorem thas {w : World} {B : PB} {c : Nat → Int} {f : Int → Int} {q : Nat} (G : Geo B) (P : PoolAt w B c f q) (part : Int) :
    Calls Tryd.prog 84 #[.pointer (some ⟨B.p, 0, none⟩), .pointer (some ⟨B.b, 0, none⟩), .int .i64 part] w fun r w' => r = .returned (.bool (decide (0 ≤ part ∧ part < B.l.length))) ∧ Keep nob w w' := by
  have F := fun W' (k : Keep nob w W') => frames_at (P.mem.next k)
  have O := fun W' (k : Keep nob w W') x hx => own_fn G (P.next G k) x hx
  have bn := G.n
  have yes : ∀ k : Nat, ownE B k = (part, 0) → decide (0 ≤ part ∧ part < B.l.length) = true := by
    intro k h
    rcases in_or B k with ⟨j, hj⟩ | hj
    · rw [ownE_in G hj] at h
      have : (j : Int) = part := congrArg Prod.fst h
      have := hj.1
      exact decide_eq_true (by omega)
    · rw [ownE_out hj] at h
      cases congrArg Prod.snd h
  have no : (∀ k : Nat, k < B.n → ownE B k ≠ (part, 0)) → decide (0 ≤ part ∧ part < B.l.length) = false := by
    intro h
    apply decide_eq_false
    rintro ⟨h0, h1⟩
    have hf := G.fit part.toNat (by omega)
    refine h (B.fr part.toNat) (by omega) ?_
    rw [ownE_in G (j := part.toNat) ⟨by omega, by omega, by omega⟩, Int.toNat_of_nonneg h0]
  obtain ⟨D, hD⟩ : ∃ D, decide (0 ≤ part ∧ part < B.l.length) = D := ⟨_, rfl⟩
  rw [hD] at yes no ⊢
  replace F := Lib.hid F
  replace O := Lib.hid O
  replace G := Lib.hid G
  replace P := Lib.hid P
  replace yes := Lib.hid yes
  replace no := Lib.hid no
  replace hD := Lib.hid hD
  go_enter Tryd.func84, Tryd.ntmps84
  go_wp2_with fail
  refine Calls.mono (F.out _ (Keep.refl _ _)) ?_
  rintro r w1 ⟨rfl, rfl⟩
  go_wp2_with fail
  go_loopw [12] (fun i wr => ∃ k : Nat, i = .int .i64 k ∧ k ≤ B.n ∧ (∀ j : Nat, j < k → ownE B j ≠ (part, 0)) ∧ Keep nob w wr) (fun i _ => (B.n - intOf i).toNat)
  case atStart => exact ⟨0, rfl, Nat.zero_le _, fun j hj => absurd hj (Nat.not_lt_zero j), Keep.refl _ _⟩
  case round =>
    obtain ⟨k, rfl, hk, hn, K⟩ := hrel
    replace hn := Lib.hid hn
    replace K := Lib.hid K
    by_cases hlt : k < B.n
    · have t1 : decide ((k : Int) < B.n) = true := by simp; omega
      have C := O.out _ K.out (k : Int) (by unfold wfI; omega)
      obtain ⟨o1, o2, ho⟩ : ∃ a b, ownE B k = (a, b) := ⟨_, _, rfl⟩
      rw [ho] at C
      have Hlt := Lib.hid hlt
      by_cases z : o2 = 0
      · subst z
        by_cases z1 : o1 = part
        · subst z1
          have := yes.out k ho
          subst this
          replace C := Lib.hid C
          replace ho := Lib.hid ho
          go_wp2_with fail
          refine Calls.mono C.out ?_
          rintro r w2 ⟨rfl, K2⟩
          replace K2 := Lib.hid K2
          go_wp2_with fail
          go_ret
          exact ⟨rfl, K.out.then K2.out⟩
        · have t2 : (o1 == part) = false := by simpa using z1
          replace C := Lib.hid C
          replace ho := Lib.hid ho
          replace z1 := Lib.hid z1
          go_wp2_with fail
          refine Calls.mono C.out ?_
          rintro r w2 ⟨rfl, K2⟩
          replace K2 := Lib.hid K2
          go_wp2_with fail
          go_roundw
          case rel =>
            refine ⟨k + 1, by go_num, by have := Hlt.out; omega, fun j hj => ?_, K.out.then K2.out⟩
            by_cases e : j = k
            · rw [e, ho.out]; exact fun h => z1.out (congrArg Prod.fst h)
            · exact hn.out j (by omega)
          case measure => have := Hlt.out; simp [intOf]; omega
      · have t2 : (o2 == 0) = false := by simpa using z
        replace C := Lib.hid C
        replace ho := Lib.hid ho
        replace z := Lib.hid z
        go_wp2_with fail
        refine Calls.mono C.out ?_
        rintro r w2 ⟨rfl, K2⟩
        replace K2 := Lib.hid K2
        go_wp2_with fail
        go_roundw
        case rel =>
          refine ⟨k + 1, by go_num, by have := Hlt.out; omega, fun j hj => ?_, K.out.then K2.out⟩
          by_cases e : j = k
          · rw [e, ho.out]; exact fun h => z.out (congrArg Prod.snd h)
          · exact hn.out j (by omega)
        case measure => have := Hlt.out; simp [intOf]; omega
    · have t1 : decide ((k : Int) < B.n) = false := by simp; omega
      obtain rfl : k = B.n := by omega
      have := no.out hn.out
      subst this
      go_wp2_with fail
      go_ret
      exact ⟨rfl, K.out⟩
/-! ### New -/
theorem tnew_nomem (w : World) (v : Value) (part : Int) :
    Calls Tryd.prog 49 #[.pointer none, v, .int .i64 part] w fun r w' => r = .returned (.tuple #[.pointer none, .int .i64 1]) ∧ w = w' := by
  have F := Lib.hid (frames_nil w)
  go_enter Tryd.func49, Tryd.ntmps49
  go_wp2_with fail
  refine Calls.mono (F.out) ?_
  rintro r w1 ⟨rfl, rfl⟩
  go_wp2_with fail
  go_ret2
  exact ⟨rfl, rfl⟩
theorem tnew_nopool {w : World} {b mf n : Nat} {c : Nat → Int} (M : MemAt w b mf n c) (part : Int) :
    Calls Tryd.prog 49 #[.pointer (some ⟨b, 0, none⟩), .pointer none, .int .i64 part] w fun r w' => r = .returned (.tuple #[.pointer none, .int .i64 1]) ∧ w = w' := by
  have F := Lib.hid (frames_at M)
  have L := Lib.hid (left_none (w := w) (v := .pointer none) (Or.inl rfl) 0)
  have O := Lib.hid (made_none (w := w))
  have t1 : ((n : Int) == 0) = false := by have := M.lo; simp; omega
  clear M
  go_enter Tryd.func49, Tryd.ntmps49
  go_wp2_with fail
  refine Calls.mono (F.out) ?_
  rintro r w1 ⟨rfl, rfl⟩
  go_wp2_with fail
  refine Calls.mono (L.out) ?_
  rintro r w1 ⟨rfl, rfl⟩
  go_wp2_with fail
  refine Calls.mono (O.out) ?_
  rintro r w1 ⟨rfl, rfl⟩
  go_wp2_with fail
  go_ret2
  exact ⟨rfl, rfl⟩
theorem tnew_arg {w : World} {B : PB} {c : Nat → Int} {f : Int → Int} {q : Nat} (G : Geo B) (P : PoolAt w B c f q) (hL : leftN B f 0 ≠ 0) (part : Int) (hp : ¬ (0 ≤ part ∧ part < B.l.length)) :
    Calls Tryd.prog 49 #[.pointer (some ⟨B.b, 0, none⟩), .pointer (some ⟨B.p, 0, none⟩), .int .i64 part] w fun r w' => r = .returned (.tuple #[.pointer none, .int .i64 2]) ∧ Keep nob w w' := by
  have F := Lib.hid (frames_at P.mem)
  have L := left_in G P 0 (by have := G.some; omega)
  rw [show ((0 : Nat) : Int) = 0 from rfl] at L
  have H := thas G P part
  have t1 : ((B.n : Int) == 0) = false := by have := P.mem.lo; simp; omega
  obtain ⟨l, hl⟩ : ∃ l, leftN B f 0 = l := ⟨_, rfl⟩
  rw [hl] at hL L
  have t2 : ((l : Int) == 0) = false := by simp; omega
  rw [decide_eq_false hp] at H
  replace L := Lib.hid L
  replace H := Lib.hid H
  replace G := Lib.hid G
  replace P := Lib.hid P
  replace hL := Lib.hid hL
  replace hp := Lib.hid hp
  replace hl := Lib.hid hl
  by_cases h0 : part < 0
  · have t3 : decide (part < 0) = true := by simpa using h0
    go_enter Tryd.func49, Tryd.ntmps49
    go_wp2_with fail
    refine Calls.mono (F.out) ?_
    rintro r w1 ⟨rfl, rfl⟩
    go_wp2_with fail
    refine Calls.mono (L.out) ?_
    rintro r w1 ⟨rfl, rfl⟩
    go_wp2_with fail
    go_ret2
    exact ⟨rfl, Keep.refl _ _⟩
  by_cases h1 : 8 ≤ part
  · have t3 : decide (part < 0) = false := by simpa using h0
    have t4 : decide (8 ≤ part) = true := by simpa using h1
    go_enter Tryd.func49, Tryd.ntmps49
    go_wp2_with fail
    refine Calls.mono (F.out) ?_
    rintro r w1 ⟨rfl, rfl⟩
    go_wp2_with fail
    refine Calls.mono (L.out) ?_
    rintro r w1 ⟨rfl, rfl⟩
    go_wp2_with fail
    go_ret2
    exact ⟨rfl, Keep.refl _ _⟩
  have t3 : decide (part < 0) = false := by simpa using h0
  have t4 : decide (8 ≤ part) = false := by simpa using h1
  go_enter Tryd.func49, Tryd.ntmps49
  go_wp2_with fail
  refine Calls.mono (F.out) ?_
  rintro r w1 ⟨rfl, rfl⟩
  go_wp2_with fail
  refine Calls.mono (L.out) ?_
  rintro r w1 ⟨rfl, rfl⟩
  go_wp2_with fail
  refine Calls.mono (H.out) ?_
  rintro r w1 ⟨rfl, K⟩
  go_wp2_with fail
  go_ret2
  exact ⟨rfl, K⟩
theorem tnew {w : World} {B : PB} {c : Nat → Int} {f : Int → Int} {q : Nat} (G : Geo B) (P : PoolAt w B c f q) (hO : ∀ x, own B x → x < w.heap.size) (hL : leftN B f 0 ≠ 0) (part : Nat) (hp : part < B.l.length) :
    Calls Tryd.prog 49 #[.pointer (some ⟨B.b, 0, none⟩), .pointer (some ⟨B.p, 0, none⟩), .int .i64 part] w fun r w' =>
      ∃ A : MB, r = .returned (.tuple #[.pointer (some ⟨A.t, 0, none⟩), .int .i64 0]) ∧ MGeo A B ∧ PtAt w' A B c f (fun _ => 0) q ∧ A.part = part ∧ w.heap.size ≤ A.t ∧ w.heap.size ≤ A.rt ∧ Keep nob w w' := by
  have F := Lib.hid (frames_at P.mem)
  have L := left_in G P 0 (by have := G.some; omega)
  rw [show ((0 : Nat) : Int) = 0 from rfl] at L
  have H := thas G P part
  have t1 : ((B.n : Int) == 0) = false := by have := P.mem.lo; simp; omega
  obtain ⟨l, hl⟩ : ∃ l, leftN B f 0 = l := ⟨_, rfl⟩
  rw [hl] at hL L
  have t2 : ((l : Int) == 0) = false := by simp; omega
  rw [decide_eq_true ⟨by omega, by omega⟩] at H
  have h8 := G.some.2
  have hmm := @run_makeMap Tryd.prog
  have t3 : decide ((part : Int) < 0) = false := by simp
  have t4 : decide (8 ≤ (part : Int)) = false := by simp; omega
  replace L := Lib.hid L
  replace H := Lib.hid H
  replace G := Lib.hid G
  replace P := Lib.hid P
  replace hL := Lib.hid hL
  replace hp := Lib.hid hp
  replace hl := Lib.hid hl
  replace hO := Lib.hid hO
  go_enter Tryd.func49, Tryd.ntmps49
  go_wp2_with fail
  refine Calls.mono (F.out) ?_
  rintro r w1 ⟨rfl, rfl⟩
  go_wp2_with fail
  refine Calls.mono (L.out) ?_
  rintro r w1 ⟨rfl, rfl⟩
  go_wp2_with fail
  refine Calls.mono H.out ?_
  rintro r w1 ⟨rfl, K⟩
  replace K := Lib.hid K
  go_wp2_with fail
  go_ret2
  have kz := K.out.size
  have nO : ∀ x, w.heap.size ≤ x → ¬ own B x := fun x h e => by have := hO.out _ e; omega
  have bO := hO.out B.b
  have bb : B.b < w.heap.size := World.block_lt_of_cell? _ _ P.out.mem.ptr
  have c := fun (k : Nat) (v : Value) (h : [Value.pointer (some ⟨B.b, 0, none⟩), .pointer (some ⟨B.p, 0, none⟩), .int .i64 part, .map (some w1.heap.size)][k]? = some v) => new_at (w1.alloc (.map #[] 0)) #[Value.pointer (some ⟨B.b, 0, none⟩), .pointer (some ⟨B.p, 0, none⟩), .int .i64 part, .map (some w1.heap.size)] 102 k v h
  rw [World.size_alloc] at c
  have KA := (K.out.alloc (.map #[] 0)).alloc (.cells #[.pointer (some ⟨B.b, 0, none⟩), .pointer (some ⟨B.p, 0, none⟩), .int .i64 part, .map (some w1.heap.size)] 102)
  exact ⟨⟨w1.heap.size + 1, w1.heap.size, part⟩, rfl, ⟨nO _ (by show w.heap.size ≤ w1.heap.size + 1; omega), nO _ kz, Nat.succ_ne_self _, fun e => by have e : B.b = w1.heap.size := e; omega, hp.out⟩,
    ⟨P.out.next G.out KA, ⟨c 0 _ rfl, c 1 _ rfl, c 2 _ rfl, c 3 _ rfl, ((MapI.made w1).next ((Keep.refl _ _).alloc _)).mono (Nat.zero_le _)⟩, fun x h => Nat.lt_of_lt_of_le (hO.out x h) KA.size⟩, rfl, Nat.le_trans kz (Nat.le_succ _), kz, KA⟩
end Go.Proofs.YtepmljcapobodaaDoor
