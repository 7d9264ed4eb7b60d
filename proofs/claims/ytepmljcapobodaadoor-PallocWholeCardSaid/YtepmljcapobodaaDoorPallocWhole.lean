/- Held and free frames are together the range, always, and a frame that is handed out was nobody's, and has all words 0. Condition: none beyond the statement's own. -/
import Derived.Test.YtepmljcapobodaaDoorPalTwo
import Derived.Test.YtepmljcapobodaaDoorWords
import Derived.Test.YtepmljcapobodaaDoorHead
import Derived.Test.YtepmljcapobodaaDoorLaid
import Derived.Test.YtepmljcapobodaaDoorCards
import Derived.Test.YtepmljcapobodaaDoorTie
namespace Go.Proofs.YtepmljcapobodaaDoor.pallocWhole
open Go.ChangeShapes Go.WideShapes Go.ChangeAt Go.RowKit
set_option linter.unusedVariables false
set_option maxRecDepth 100000
theorem infoInt : (Tryd.prog.info? 3).map (fun i => (i.zero, i.size, i.bytes)) = some (some (.int .i64 0), 1, 8) := by kernel_rfl
theorem cnt_le (P : Nat → Bool) : ∀ n, cnt P n ≤ n
  | 0 => Nat.le_refl _
  | n + 1 => by have := cnt_le P n; unfold cnt; split <;> omega
theorem cnt_step (f : Int → Int) (j : Nat) : cnt (fun x : Nat => decide (0 < f (x : Int))) (j + 1) = if 0 < f (j : Int) then cnt (fun x : Nat => decide (0 < f (x : Int))) j + 1 else cnt (fun x : Nat => decide (0 < f (x : Int))) j := by
  rw [cnt]
  by_cases h : 0 < f (j : Int)
  · simp [h]
  · simp [h]
theorem held_left {B : PB} {N : Nat} {f : Int → Int} (h : ∀ x : Int, B.inr 0 x ↔ 0 ≤ x ∧ x < N) (hN : N ≤ 30) (R : RefsOk B f) : cnt (fun x : Nat => decide (0 < f (x : Int))) N + leftN B f 0 = N := by
  have e : leftN B f 0 = cnt (fun x : Nat => decide (x < N ∧ f (x : Int) = 0)) 1024 := by
    unfold leftN
    apply cnt_congr
    intro k _
    apply decide_eq_decide.2
    have := h k
    constructor
    · rintro ⟨a, b⟩; exact ⟨by have := this.1 a; omega, b⟩
    · rintro ⟨a, b⟩; exact ⟨this.2 (by omega), b⟩
  have g : ∀ m, N ≤ m → cnt (fun x : Nat => decide (x < N ∧ f (x : Int) = 0)) m = cnt (fun x : Nat => decide (f (x : Int) = 0)) N := by
    intro m hm
    obtain ⟨d, rfl⟩ : ∃ d, m = N + d := ⟨m - N, by omega⟩
    rw [cnt_add, cnt_congr (Q := fun x : Nat => decide (f (x : Int) = 0)) N (fun k hk => by simp [hk])]
    have z : ∀ d, cnt (fun k => decide (N + k < N ∧ f ((N + k : Nat) : Int) = 0)) d = 0 := by
      intro d
      induction d with
      | zero => rfl
      | succ d ih => rw [cnt, ih, decide_eq_false (fun e => by have := e.1; omega)]; rfl
    rw [z d]; rfl
  rw [e, g 1024 (by omega)]
  have s : ∀ n, cnt (fun x : Nat => decide (0 < f (x : Int))) n + cnt (fun x : Nat => decide (f (x : Int) = 0)) n = n := by
    intro n
    induction n with
    | zero => rfl
    | succ n ih =>
      have r := (R.rng (n : Int)).1
      rw [cnt, cnt]
      by_cases q : f (n : Int) = 0
      · simp [q]; omega
      · simp [q, show 0 < f (n : Int) by omega]; omega
  exact s N
theorem u32_bd (x : Int) : 0 ≤ IntKind.u32.wrap x ∧ IntKind.u32.wrap x < 4294967296 := by simp only [IntKind.wrap, IntKind.signed, IntKind.bits]; simp; omega
theorem PoolAt.mem_turn {w w' : World} {B : PB} {c c' : Nat → Int} {f : Int → Int} {q : Nat} (G : Geo B) (P : PoolAt w B c f q) (k : Keep (only B.mf) w w') (M : MemAt w' B.b B.mf B.n c') : PoolAt w' B c' f q := by
  have h : ∀ x, B.lo ≤ x → ¬ only B.mf x := fun x hx e => by have e : x = B.mf := e; have := G.m.2; omega
  exact ⟨M, k.some P.pm (h _ G.p.1), k.some P.pl (h _ G.p.1), k.some P.pr (h _ G.p.1), fun j hj => k.some (P.gs j hj) (h _ G.g.1), fun j hj => k.some (P.gf j hj) (h _ G.g.1), fun j hj => k.some (P.gm j hj) (h _ G.g.1),
    fun j hj => let ⟨W, h1, h2⟩ := P.set j hj; ⟨W, h1.keep k (h _ (G.s j hj).1), h2⟩, P.map.keep k (h _ G.r.1)⟩
theorem write_some {w : World} {b f n : Nat} {c : Nat → Int} (M : MemAt w b f n c) (i j v : Int) (hv : 0 ≤ v ∧ v < 4294967296) :
    Calls Tryd.prog 31 #[.pointer (some ⟨b, 0, none⟩), .int .i64 i, .int .i64 j, .int .u32 v] w
      fun e w' => ∃ (x : Int) (c' : Nat → Int), e = .returned (.int .i64 x) ∧ MemAt w' b f n c' ∧ Keep (only f) w w' :=
  (write_any M i j v hv).mono fun e w' h => ⟨_, _, h.1, h.2.1, h.2.2⟩
theorem PallocMem {w w' : World} {B : PB} {c c' : Nat → Int} {f : Int → Int} {q bx : Nat} (P : PoolAt w B c f q) (k : Keep (only B.mf) w w') (hb : B.b = bx) (G : Geo B) (M : MemAt w' bx B.mf B.n c') : PoolAt w' B c' f q := by
  subst hb
  exact PoolAt.mem_turn G P k M
def wasL (f : Int → Int) (j : Nat) : List Value := (List.range j).map fun (x : Nat) => Value.int .i64 (f (x : Int))
theorem wasL_succ (f : Int → Int) (k : Nat) : wasL f (k + 1) = wasL f k ++ [.int .i64 (f (k : Int))] := by
  unfold wasL; rw [List.range_succ, List.map_append]; rfl
def Inv (w : World) (B : PB) (n base : Nat) (i : Value) (wr : World) : Prop :=
  ∃ (k q : Nat) (f : Int → Int) (c : Nat → Int), i = .int .i64 k ∧ k ≤ n ∧ PoolAt wr B c f q ∧ RefsOk B f ∧ q ≤ k ∧ base ≤ wr.heap.size ∧ Keep nob w wr
def Was (wa : World) (f : Int → Int) (N base : Nat) (s i : Value) (wr : World) : Prop :=
  ∃ j : Nat, i = .int .i64 j ∧ j ≤ N ∧ wr.ownsRow base 3 1 s j (wasL f j) ∧ Keep nob wa wr
def Zer (wa : World) (i : Value) (wr : World) : Prop := ∃ j : Nat, i = .int .i64 j ∧ j ≤ 32 ∧ wa = wr
set_option maxHeartbeats 6400000 in
theorem walk_in (N : Nat) (h1 : 1 ≤ N) (h2 : N ≤ 30) (v : Value) (l : List (Int × Int)) (hl : l.length ≤ 200) (w : World) (L : PairsAt w v l) (hf : ∀ o ∈ l, pairFine o) (hT : TabAt 0 Lib.deBruijn64tab w) :
    Calls Tryd.prog 9 #[.int .i64 N, v] w fun e w' => e = .returned (.bool true) ∧ Keep nob w w' := by
  obtain ⟨a, cap, rfl, hm, hcap, hcells⟩ := L
  have t1 : decide ((N : Int) < 1) = false := by simp; omega
  have t2 : decide ((30 : Int) < N) = false := by simp; omega
  have t5 : decide ((200 : Int) < l.length) = false := by simp; omega
  obtain ⟨i0, hi, hz0, hz1, hz2⟩ := info_parts infoInt
  replace hf := Lib.hid hf
  replace hcells := Lib.hid hcells
  replace hT := Lib.hid hT
  replace hi := Lib.hid hi
  replace hz0 := Lib.hid hz0
  replace hz1 := Lib.hid hz1
  replace hz2 := Lib.hid hz2
  go_enter Tryd.func9, Tryd.ntmps9
  go_wp2_with fail
  refine Calls.mono (new_in w N (by omega) (by omega)) ?_
  rintro r w1 ⟨rfl, M1, K1⟩
  go_wp2_with fail
  have M1f := M1.flt
  have M1b := M1.blt
  replace M1 := Lib.hid M1
  replace K1 := Lib.hid K1
  replace M1f := Lib.hid M1f
  replace M1b := Lib.hid M1b
  refine Calls.mono (one_new2 K1.out M1.out (Nat.le_refl _)) ?_
  rintro r w3 ⟨B, rfl, G, P1, S, in0, ll, bb, bf, bn, lo1, hi1, K3⟩
  go_wp2_with fail
  have z3 := K3.size
  have Kb := K1.out.then K3
  replace G := Lib.hid G
  replace P1 := Lib.hid P1
  replace S := Lib.hid S
  replace in0 := Lib.hid in0
  replace K3 := Lib.hid K3
  replace Kb := Lib.hid Kb
  replace ll := Lib.hid ll
  replace bb := Lib.hid bb
  replace bf := Lib.hid bf
  replace bn := Lib.hid bn
  replace lo1 := Lib.hid lo1
  replace hi1 := Lib.hid hi1
  replace z3 := Lib.hid z3
  have ub : ∀ x, w3.heap.size ≤ x → ¬ own B x := by
    have := bf.out; have := hi1.out; have := M1f.out; have := z3.out
    intro x hx h; unfold own at h; omega
  have fb : B.b < w3.heap.size ∧ (∀ x, own B x → x < w3.heap.size) ∧ B.mf < w3.heap.size ∧ w.heap.size ≤ B.mf := by
    have := bb.out; have := bf.out; have := hi1.out; have := M1f.out; have := M1b.out; have := z3.out
    refine ⟨by omega, fun x h => ?_, by omega, by omega⟩; unfold own at h; omega
  have uw := Kb.out.size
  replace ub := Lib.hid ub
  replace fb := Lib.hid fb
  replace uw := Lib.hid uw
  clear M1 K1 K3 M1f M1b z3 lo1 hi1
  go_loopw [9] (fun i wr => Inv w B l.length w3.heap.size i wr) (fun i _ => (l.length - intOf i).toNat)
  case atStart => exact ⟨0, 0, _, _, rfl, Nat.zero_le _, P1.out, RefsOk.zero _, Nat.le_refl _, Nat.le_refl _, Kb.out⟩
  case round =>
    clear P1 Kb
    obtain ⟨k, q, f, c, rfl, hk, P, R, hq, hb, K⟩ := hrel
    replace P := Lib.hid P
    replace R := Lib.hid R
    replace K := Lib.hid K
    by_cases hlt : k < l.length
    · have hne : l ≠ [] := by intro e; rw [e] at hlt; simp at hlt
      obtain ⟨gg, og, rfl, cs⟩ := hcells.out hne
      obtain ⟨o, ho⟩ : ∃ o, l.getD k (0, 0) = o := ⟨_, rfl⟩
      have ho' : l[k]? = some o := by rw [← ho, List.getD_eq_getElem?_getD, List.getElem?_eq_getElem hlt]; rfl
      have r0 := K.out.some (cs k o ho' 0 _ rfl) (fun x => x)
      have r1 := K.out.some (cs k o ho' 1 _ rfl) (fun x => x)
      have fo := hf.out o (List.mem_of_getElem? ho')
      have t6 : decide (k < l.length) = true := by simpa using hlt
      have r0 : wr.cell? ⟨gg, og + k * 2, none⟩ = some (.int .i64 o.1) := r0
      have r1 : wr.cell? ⟨gg, og + k * 2 + 1, none⟩ = some (.int .i64 o.2) := r1
      obtain ⟨d, z⟩ := o
      have wz : wfI z := fo.2
      obtain ⟨w0, hw0⟩ : ∃ w0 : World, w0 = wr := ⟨_, rfl⟩
      subst hw0
      have KA : Keep nob w0 (w0.alloc (.cells #[.int .i64 d, .int .i64 z] 46)) := (Keep.refl _ _).alloc _
      obtain ⟨wa, hwa⟩ : ∃ wa, wa = w0.alloc (.cells #[.int .i64 d, .int .i64 z] 46) := ⟨_, rfl⟩
      rw [← hwa] at KA
      have c1' : wa.cell? ⟨w0.heap.size, 1, none⟩ = some (.int .i64 z) := by rw [hwa]; exact new_at _ _ _ 1 _ rfl
      have PA := P.out.next G.out KA
      have Ka := K.out.then KA
      have hTa := tab_keep hT.out Ka
      have zA : w0.heap.size < wa.heap.size := by rw [hwa, World.size_alloc]; omega
      replace PA := Lib.hid PA
      replace Ka := Lib.hid Ka
      replace hTa := Lib.hid hTa
      replace wz := Lib.hid wz
      replace hwa := Lib.hid hwa
      replace ho := Lib.hid ho
      replace ho' := Lib.hid ho'
      replace fo := Lib.hid fo
      replace KA := Lib.hid KA
      clear cs P K
      by_cases d1 : d = 1
      · subst d1
        go_wp2_with fail
        rw [← hwa.out]
        clear r0 r1
        go_loopw [11, 12] (fun s i wr => Was wa f N wa.heap.size s i wr) (fun _ i _ => (N - intOf i).toNat)
        case atStart => exact ⟨0, rfl, Nat.zero_le _, ⟨rfl, Or.inl ⟨rfl, rfl⟩⟩, Keep.refl _ _⟩
        case round =>
          obtain ⟨j, rfl, hj, O, Kj⟩ := hrel
          by_cases hjn : j < N
          · have s1 : decide (j < N) = true := by simpa using hjn
            have Pj := PA.out.next G.out Kj
            have zj := Kj.size
            have C := Lib.hid (refs_ok Pj (j : Int) (by unfold wfI; omega))
            replace O := Lib.hid O
            replace Kj := Lib.hid Kj
            replace Pj := Lib.hid Pj
            go_wp2_with fail
            refine Calls.mono C.out ?_
            rintro r w5 ⟨rfl, rfl⟩
            go_wp2_with (at_builtin; refine wpList_append_own _ rfl (.tmp 70) (.tmp 74) 48 rfl wa.heap.size 3 i0 (.int .i64 0) 1 8 Tryd.underlying48 hi.out hz0.out hz1.out hz2.out rfl (by decide) u11 j _ rfl (own_next O.out ((Keep.refl _ _).alloc _)) ⟨wr.heap.size, 0, none⟩ 1 1 [.int .i64 (f (j : Int))] rfl rfl ?c1 ?c2 ?c3 ?c4 ?c5 ?_)
            case c1 => intro j u hu; rw [Addr.add_mid, Nat.zero_add]; exact new_at _ _ _ j u hu
            case c2 => simp [Value.oneCell']
            case c3 => unfold maxLen; omega
            case c4 => omega
            case c5 => rw [World.size_alloc]; omega
            intro v' w6 hown hgrow _
            have K6 := keep_of_own (own_next O.out ((Keep.refl _ _).alloc _)) hgrow
            have Km : Keep nob wa w6 := (Kj.out.alloc _).trans K6 (fun q hq e => Nat.not_le.2 hq e)
            replace hown := Lib.hid hown
            replace Km := Lib.hid Km
            clear O Kj Pj C hgrow K6
            go_wp2_with fail
            go_roundw
            case rel => exact ⟨j + 1, by go_num, by omega, by rw [wasL_succ]; exact hown.out, Km.out⟩
            case measure => simp [intOf]; omega
          · have s1 : decide (j < N) = false := by simpa using hjn
            obtain rfl : N = j := by omega
            obtain ⟨gs, cps, rfl, hgs, hcs, hrow⟩ := own_cell O (by omega)
            have Pj := PA.out.next G.out Kj
            have Kw := Ka.out.then Kj
            have zj := Kj.size
            have ogs : ¬ own B gs := fun h => by have := fb.out.2.1 gs h; omega
            replace O := Lib.hid O
            replace Kj := Lib.hid Kj
            replace Pj := Lib.hid Pj
            replace Kw := Lib.hid Kw
            replace ogs := Lib.hid ogs
            clear hjn
            cases e : leastN B f 0 with
            | none =>
              have C := Lib.hid (alloc_full (tab_keep hT.out Kw.out) G.out Pj.out 0 (by rw [ll.out]; simp) (leastN_none G.out e))
              replace hrow := Lib.hid hrow
              replace e := Lib.hid e
              go_wp2_with fail
              refine Calls.mono C.out ?_
              rintro r w5 ⟨rfl, K5⟩
              have z5 := K5.size
              have P5 := Lib.hid (Pj.out.next G.out K5)
              have Kx := Lib.hid (Kw.out.then K5)
              replace K5 := Lib.hid K5
              have hs := held_left (in0.out) h2 R.out
              replace hs := Lib.hid hs
              go_wp2_with fail
              go_loop [18, 19] (fun h i => ∃ j : Nat, i = .int .i64 j ∧ j ≤ N ∧ h = .int .i64 (cnt (fun x : Nat => decide (0 < (f) (x : Int))) j)) (fun _ i => (N - intOf i).toNat)
              case atStart => exact ⟨0, rfl, Nat.zero_le _, rfl⟩
              case round =>
                obtain ⟨j, rfl, hj, rfl⟩ := hrel
                by_cases hjn : j < N
                · have s1 : decide (j < N) = true := by simpa using hjn
                  have C := refs_ok P5.out (j : Int) (by unfold wfI; omega)
                  have cs := cnt_step (f) j
                  have cb := cnt_le (fun x : Nat => decide (0 < (f) (x : Int))) j
                  obtain ⟨b1, b2⟩ := R.out.rng (j : Int)
                  obtain ⟨u, hu⟩ : ∃ u, (f) (j : Int) = u := ⟨_, rfl⟩
                  rw [hu] at C b1 b2 cs
                  have s2 : decide (u < 0) = false := by simp; omega
                  have s3 : decide (64 < u) = false := by simp; omega
                  by_cases hp : 0 < u
                  · have s4 : decide (0 < u) = true := by simpa using hp
                    rw [if_pos hp] at cs
                    replace C := Lib.hid C
                    replace hu := Lib.hid hu
                    replace cs := Lib.hid cs
                    clear b1 b2 hp
                    go_wp2_with fail
                    refine Calls.mono (C.out) ?_
                    rintro r w9 ⟨rfl, rfl⟩
                    go_wp2_with fail
                    refine Calls.mono (C.out) ?_
                    rintro r w9 ⟨rfl, rfl⟩
                    go_wp2_with fail
                    refine Calls.mono (C.out) ?_
                    rintro r w9 ⟨rfl, rfl⟩
                    go_wp2_with fail
                    go_round
                    case rel => exact ⟨j + 1, by go_num, by omega, by first | (rw [cs.out]; done) | (rw [cs.out]; go_num)⟩
                    case measure => simp [intOf]; omega
                  · have s4 : decide (0 < u) = false := by simpa using hp
                    rw [if_neg hp] at cs
                    replace C := Lib.hid C
                    replace hu := Lib.hid hu
                    replace cs := Lib.hid cs
                    clear b1 b2 hp
                    go_wp2_with fail
                    refine Calls.mono (C.out) ?_
                    rintro r w9 ⟨rfl, rfl⟩
                    go_wp2_with fail
                    refine Calls.mono (C.out) ?_
                    rintro r w9 ⟨rfl, rfl⟩
                    go_wp2_with fail
                    refine Calls.mono (C.out) ?_
                    rintro r w9 ⟨rfl, rfl⟩
                    go_wp2_with fail
                    go_round
                    case rel => exact ⟨j + 1, by go_num, by omega, by first | (rw [cs.out]; done) | (rw [cs.out]; rfl)⟩
                    case measure => simp [intOf]; omega
                · have s1 : decide (j < N) = false := by simpa using hjn
                  obtain rfl : N = j := by omega
                  have C := left_in G.out P5.out 0 (by rw [ll.out]; simp)
                  have hs := hs.out
                  obtain ⟨a1, ha1⟩ : ∃ a1, cnt (fun x : Nat => decide (0 < (f) (x : Int))) N = a1 := ⟨_, rfl⟩
                  obtain ⟨a2, ha2⟩ : ∃ a2, leftN B (f) 0 = a2 := ⟨_, rfl⟩
                  rw [ha1, ha2] at hs
                  rw [ha1]
                  rw [ha2] at C
                  have s5 : (((a1 : Int) + (a2 : Int)) != (N : Int)) = false := by simp; omega
                  have l1 : a1 ≤ 30 := by omega
                  have l2 : a2 ≤ 30 := by omega
                  replace C := Lib.hid C
                  replace ha1 := Lib.hid ha1
                  replace ha2 := Lib.hid ha2
                  replace hs := Lib.hid hs
                  clear hjn
                  go_wp2_with fail
                  refine Calls.mono (C.out) ?_
                  rintro r w9 ⟨rfl, rfl⟩
                  go_wp2_with fail
                  go_roundw
                  case rel => exact ⟨k + 1, _, _, _, by go_num, by omega, P5.out, R.out, by omega, by omega, Kx.out⟩
                  case measure => simp [intOf]; omega
            | some n =>
              obtain ⟨n1, n2, n3⟩ := leastN_some e
              have nN := ((in0.out _).1 n1).2
              have rs := (hrow n (.int .i64 0) (by unfold wasL; rw [List.getElem?_map, List.getElem?_range (by omega)]; simp [n2])).1
              have C := Lib.hid (alloc_ok (tab_keep hT.out Kw.out) G.out Pj.out (by omega) 0 n n1 n2 n3)
              have Rn := Lib.hid (R.out.upd n 1 0 n1 (by decide) (by decide))
              obtain ⟨f5, hf5⟩ : ∃ f5, updI f (n : Int) 1 = f5 := ⟨_, rfl⟩
              rw [hf5] at C Rn
              replace hrow := Lib.hid hrow
              replace e := Lib.hid e
              replace n1 := Lib.hid n1
              replace n2 := Lib.hid n2
              replace n3 := Lib.hid n3
              replace hf5 := Lib.hid hf5
              go_wp2_with fail
              refine Calls.mono C.out ?_
              rintro r w5 ⟨rfl, P5, K5⟩
              have z5 := K5.size
              have rs5 := K5.some rs ogs.out
              have M5 := P5.mem
              rw [bb.out, bf.out, bn.out] at M5
              have Kx := S.out.keep Kw.out K5
              have C6 := Lib.hid (page_in M5 n (by omega) (by omega))
              replace K5 := Lib.hid K5
              replace P5 := Lib.hid P5
              replace M5 := Lib.hid M5
              replace Kx := Lib.hid Kx
              clear rs
              go_wp2_with fail
              refine Calls.mono C6.out ?_
              rintro r w6 ⟨vp, rfl, Rp, K6⟩
              rw [show ((n : Int).toNat) = n by omega, words_zero] at Rp
              obtain ⟨g6, cap6, rfl⟩ := Rp.form
              have rs6 := K6.some rs5 (fun x => x)
              have P6 := Lib.hid (P5.out.next G.out K6)
              have Ky := Lib.hid (Kx.out.then K6)
              have z6 := K6.size
              replace Rp := Lib.hid Rp
              replace K6 := Lib.hid K6
              clear rs5 C C6
              go_wp2_with fail
              go_loopw [17] (fun i wr => Zer w6 i wr) (fun i _ => (32 - intOf i).toNat)
              case atStart => exact ⟨0, rfl, by decide, rfl⟩
              case round =>
                obtain ⟨p, rfl, hp, rfl⟩ := hrel
                by_cases hpn : p < 32
                · have s2 : ((p : Int) < 32) := by omega
                  have rp := Rp.out.cell p 0 (by rw [List.getElem?_replicate, if_pos hpn])
                  go_wp2_with fail
                  go_roundw
                  case rel => exact ⟨p + 1, by go_num, by omega, rfl⟩
                  case measure => simp [intOf]; omega
                · have s2 : decide ((p : Int) < 32) = false := by simp; omega
                  replace hpn := Lib.hid hpn
                  replace hp := Lib.hid hp
                  have hs := held_left (in0.out) h2 Rn.out
                  replace hs := Lib.hid hs
                  go_wp2_with fail
                  go_loop [18, 19] (fun h i => ∃ j : Nat, i = .int .i64 j ∧ j ≤ N ∧ h = .int .i64 (cnt (fun x : Nat => decide (0 < (f5) (x : Int))) j)) (fun _ i => (N - intOf i).toNat)
                  case atStart => exact ⟨0, rfl, Nat.zero_le _, rfl⟩
                  case round =>
                    obtain ⟨j, rfl, hj, rfl⟩ := hrel
                    by_cases hjn : j < N
                    · have s1 : decide (j < N) = true := by simpa using hjn
                      have C := refs_ok P6.out (j : Int) (by unfold wfI; omega)
                      have cs := cnt_step (f5) j
                      have cb := cnt_le (fun x : Nat => decide (0 < (f5) (x : Int))) j
                      obtain ⟨b1, b2⟩ := Rn.out.rng (j : Int)
                      obtain ⟨u, hu⟩ : ∃ u, (f5) (j : Int) = u := ⟨_, rfl⟩
                      rw [hu] at C b1 b2 cs
                      have s2 : decide (u < 0) = false := by simp; omega
                      have s3 : decide (64 < u) = false := by simp; omega
                      by_cases hp : 0 < u
                      · have s4 : decide (0 < u) = true := by simpa using hp
                        rw [if_pos hp] at cs
                        replace C := Lib.hid C
                        replace hu := Lib.hid hu
                        replace cs := Lib.hid cs
                        clear b1 b2 hp
                        go_wp2_with fail
                        refine Calls.mono (C.out) ?_
                        rintro r w9 ⟨rfl, rfl⟩
                        go_wp2_with fail
                        refine Calls.mono (C.out) ?_
                        rintro r w9 ⟨rfl, rfl⟩
                        go_wp2_with fail
                        refine Calls.mono (C.out) ?_
                        rintro r w9 ⟨rfl, rfl⟩
                        go_wp2_with fail
                        go_round
                        case rel => exact ⟨j + 1, by go_num, by omega, by first | (rw [cs.out]; done) | (rw [cs.out]; go_num)⟩
                        case measure => simp [intOf]; omega
                      · have s4 : decide (0 < u) = false := by simpa using hp
                        rw [if_neg hp] at cs
                        replace C := Lib.hid C
                        replace hu := Lib.hid hu
                        replace cs := Lib.hid cs
                        clear b1 b2 hp
                        go_wp2_with fail
                        refine Calls.mono (C.out) ?_
                        rintro r w9 ⟨rfl, rfl⟩
                        go_wp2_with fail
                        refine Calls.mono (C.out) ?_
                        rintro r w9 ⟨rfl, rfl⟩
                        go_wp2_with fail
                        refine Calls.mono (C.out) ?_
                        rintro r w9 ⟨rfl, rfl⟩
                        go_wp2_with fail
                        go_round
                        case rel => exact ⟨j + 1, by go_num, by omega, by first | (rw [cs.out]; done) | (rw [cs.out]; rfl)⟩
                        case measure => simp [intOf]; omega
                    · have s1 : decide (j < N) = false := by simpa using hjn
                      obtain rfl : N = j := by omega
                      have C := left_in G.out P6.out 0 (by rw [ll.out]; simp)
                      have hs := hs.out
                      obtain ⟨a1, ha1⟩ : ∃ a1, cnt (fun x : Nat => decide (0 < (f5) (x : Int))) N = a1 := ⟨_, rfl⟩
                      obtain ⟨a2, ha2⟩ : ∃ a2, leftN B (f5) 0 = a2 := ⟨_, rfl⟩
                      rw [ha1, ha2] at hs
                      rw [ha1]
                      rw [ha2] at C
                      have s5 : (((a1 : Int) + (a2 : Int)) != (N : Int)) = false := by simp; omega
                      have l1 : a1 ≤ 30 := by omega
                      have l2 : a2 ≤ 30 := by omega
                      replace C := Lib.hid C
                      replace ha1 := Lib.hid ha1
                      replace ha2 := Lib.hid ha2
                      replace hs := Lib.hid hs
                      clear hjn
                      go_wp2_with fail
                      refine Calls.mono (C.out) ?_
                      rintro r w9 ⟨rfl, rfl⟩
                      go_wp2_with fail
                      go_roundw
                      case rel => exact ⟨k + 1, _, _, _, by go_num, by omega, P6.out, Rn.out, by omega, by omega, Ky.out⟩
                      case measure => simp [intOf]; omega
      have q1 : (d == 1) = false := by simpa using d1
      replace d1 := Lib.hid d1
      by_cases d2 : d = 2
      · subst d2
        have C := Lib.hid (share_any G.out R.out PA.out (by omega) z wz.out)
        have Rn := Lib.hid (R.out.sha G.out z)
        go_wp2_with fail
        rw [← hwa.out]
        refine Calls.mono C.out ?_
        rintro r w5 ⟨rfl, P5, K5⟩
        have z5 := K5.size
        have Kx := S.out.keep Ka.out K5
        obtain ⟨f5, hf5⟩ : ∃ f5, shaF B f z = f5 := ⟨_, rfl⟩
        rw [hf5] at P5 Rn
        replace P5 := Lib.hid P5
        replace K5 := Lib.hid K5
        replace Kx := Lib.hid Kx
        replace hf5 := Lib.hid hf5
        clear r0 r1 c1' C
        have hs := held_left (in0.out) h2 Rn.out
        replace hs := Lib.hid hs
        go_wp2_with fail
        go_loop [18, 19] (fun h i => ∃ j : Nat, i = .int .i64 j ∧ j ≤ N ∧ h = .int .i64 (cnt (fun x : Nat => decide (0 < (f5) (x : Int))) j)) (fun _ i => (N - intOf i).toNat)
        case atStart => exact ⟨0, rfl, Nat.zero_le _, rfl⟩
        case round =>
          obtain ⟨j, rfl, hj, rfl⟩ := hrel
          by_cases hjn : j < N
          · have s1 : decide (j < N) = true := by simpa using hjn
            have C := refs_ok P5.out (j : Int) (by unfold wfI; omega)
            have cs := cnt_step (f5) j
            have cb := cnt_le (fun x : Nat => decide (0 < (f5) (x : Int))) j
            obtain ⟨b1, b2⟩ := Rn.out.rng (j : Int)
            obtain ⟨u, hu⟩ : ∃ u, (f5) (j : Int) = u := ⟨_, rfl⟩
            rw [hu] at C b1 b2 cs
            have s2 : decide (u < 0) = false := by simp; omega
            have s3 : decide (64 < u) = false := by simp; omega
            by_cases hp : 0 < u
            · have s4 : decide (0 < u) = true := by simpa using hp
              rw [if_pos hp] at cs
              replace C := Lib.hid C
              replace hu := Lib.hid hu
              replace cs := Lib.hid cs
              clear b1 b2 hp
              go_wp2_with fail
              refine Calls.mono (C.out) ?_
              rintro r w9 ⟨rfl, rfl⟩
              go_wp2_with fail
              refine Calls.mono (C.out) ?_
              rintro r w9 ⟨rfl, rfl⟩
              go_wp2_with fail
              refine Calls.mono (C.out) ?_
              rintro r w9 ⟨rfl, rfl⟩
              go_wp2_with fail
              go_round
              case rel => exact ⟨j + 1, by go_num, by omega, by first | (rw [cs.out]; done) | (rw [cs.out]; go_num)⟩
              case measure => simp [intOf]; omega
            · have s4 : decide (0 < u) = false := by simpa using hp
              rw [if_neg hp] at cs
              replace C := Lib.hid C
              replace hu := Lib.hid hu
              replace cs := Lib.hid cs
              clear b1 b2 hp
              go_wp2_with fail
              refine Calls.mono (C.out) ?_
              rintro r w9 ⟨rfl, rfl⟩
              go_wp2_with fail
              refine Calls.mono (C.out) ?_
              rintro r w9 ⟨rfl, rfl⟩
              go_wp2_with fail
              refine Calls.mono (C.out) ?_
              rintro r w9 ⟨rfl, rfl⟩
              go_wp2_with fail
              go_round
              case rel => exact ⟨j + 1, by go_num, by omega, by first | (rw [cs.out]; done) | (rw [cs.out]; rfl)⟩
              case measure => simp [intOf]; omega
          · have s1 : decide (j < N) = false := by simpa using hjn
            obtain rfl : N = j := by omega
            have C := left_in G.out P5.out 0 (by rw [ll.out]; simp)
            have hs := hs.out
            obtain ⟨a1, ha1⟩ : ∃ a1, cnt (fun x : Nat => decide (0 < (f5) (x : Int))) N = a1 := ⟨_, rfl⟩
            obtain ⟨a2, ha2⟩ : ∃ a2, leftN B (f5) 0 = a2 := ⟨_, rfl⟩
            rw [ha1, ha2] at hs
            rw [ha1]
            rw [ha2] at C
            have s5 : (((a1 : Int) + (a2 : Int)) != (N : Int)) = false := by simp; omega
            have l1 : a1 ≤ 30 := by omega
            have l2 : a2 ≤ 30 := by omega
            replace C := Lib.hid C
            replace ha1 := Lib.hid ha1
            replace ha2 := Lib.hid ha2
            replace hs := Lib.hid hs
            clear hjn
            go_wp2_with fail
            refine Calls.mono (C.out) ?_
            rintro r w9 ⟨rfl, rfl⟩
            go_wp2_with fail
            go_roundw
            case rel => exact ⟨k + 1, _, _, _, by go_num, by omega, P5.out, Rn.out, by omega, by omega, Kx.out⟩
            case measure => simp [intOf]; omega
      have q2 : (d == 2) = false := by simpa using d2
      replace d2 := Lib.hid d2
      by_cases d3 : d = 3
      · subst d3
        have C := Lib.hid (free_any G.out R.out PA.out (by omega) z wz.out)
        have Rn := Lib.hid (R.out.fre G.out z)
        go_wp2_with fail
        rw [← hwa.out]
        refine Calls.mono C.out ?_
        rintro r w5 ⟨rfl, P5, K5⟩
        have z5 := K5.size
        have Kx := S.out.keep Ka.out K5
        obtain ⟨f5, hf5⟩ : ∃ f5, freF B f z = f5 := ⟨_, rfl⟩
        rw [hf5] at P5 Rn
        replace P5 := Lib.hid P5
        replace K5 := Lib.hid K5
        replace Kx := Lib.hid Kx
        replace hf5 := Lib.hid hf5
        clear r0 r1 c1' C
        have hs := held_left (in0.out) h2 Rn.out
        replace hs := Lib.hid hs
        go_wp2_with fail
        go_loop [18, 19] (fun h i => ∃ j : Nat, i = .int .i64 j ∧ j ≤ N ∧ h = .int .i64 (cnt (fun x : Nat => decide (0 < (f5) (x : Int))) j)) (fun _ i => (N - intOf i).toNat)
        case atStart => exact ⟨0, rfl, Nat.zero_le _, rfl⟩
        case round =>
          obtain ⟨j, rfl, hj, rfl⟩ := hrel
          by_cases hjn : j < N
          · have s1 : decide (j < N) = true := by simpa using hjn
            have C := refs_ok P5.out (j : Int) (by unfold wfI; omega)
            have cs := cnt_step (f5) j
            have cb := cnt_le (fun x : Nat => decide (0 < (f5) (x : Int))) j
            obtain ⟨b1, b2⟩ := Rn.out.rng (j : Int)
            obtain ⟨u, hu⟩ : ∃ u, (f5) (j : Int) = u := ⟨_, rfl⟩
            rw [hu] at C b1 b2 cs
            have s2 : decide (u < 0) = false := by simp; omega
            have s3 : decide (64 < u) = false := by simp; omega
            by_cases hp : 0 < u
            · have s4 : decide (0 < u) = true := by simpa using hp
              rw [if_pos hp] at cs
              replace C := Lib.hid C
              replace hu := Lib.hid hu
              replace cs := Lib.hid cs
              clear b1 b2 hp
              go_wp2_with fail
              refine Calls.mono (C.out) ?_
              rintro r w9 ⟨rfl, rfl⟩
              go_wp2_with fail
              refine Calls.mono (C.out) ?_
              rintro r w9 ⟨rfl, rfl⟩
              go_wp2_with fail
              refine Calls.mono (C.out) ?_
              rintro r w9 ⟨rfl, rfl⟩
              go_wp2_with fail
              go_round
              case rel => exact ⟨j + 1, by go_num, by omega, by first | (rw [cs.out]; done) | (rw [cs.out]; go_num)⟩
              case measure => simp [intOf]; omega
            · have s4 : decide (0 < u) = false := by simpa using hp
              rw [if_neg hp] at cs
              replace C := Lib.hid C
              replace hu := Lib.hid hu
              replace cs := Lib.hid cs
              clear b1 b2 hp
              go_wp2_with fail
              refine Calls.mono (C.out) ?_
              rintro r w9 ⟨rfl, rfl⟩
              go_wp2_with fail
              refine Calls.mono (C.out) ?_
              rintro r w9 ⟨rfl, rfl⟩
              go_wp2_with fail
              refine Calls.mono (C.out) ?_
              rintro r w9 ⟨rfl, rfl⟩
              go_wp2_with fail
              go_round
              case rel => exact ⟨j + 1, by go_num, by omega, by first | (rw [cs.out]; done) | (rw [cs.out]; rfl)⟩
              case measure => simp [intOf]; omega
          · have s1 : decide (j < N) = false := by simpa using hjn
            obtain rfl : N = j := by omega
            have C := left_in G.out P5.out 0 (by rw [ll.out]; simp)
            have hs := hs.out
            obtain ⟨a1, ha1⟩ : ∃ a1, cnt (fun x : Nat => decide (0 < (f5) (x : Int))) N = a1 := ⟨_, rfl⟩
            obtain ⟨a2, ha2⟩ : ∃ a2, leftN B (f5) 0 = a2 := ⟨_, rfl⟩
            rw [ha1, ha2] at hs
            rw [ha1]
            rw [ha2] at C
            have s5 : (((a1 : Int) + (a2 : Int)) != (N : Int)) = false := by simp; omega
            have l1 : a1 ≤ 30 := by omega
            have l2 : a2 ≤ 30 := by omega
            replace C := Lib.hid C
            replace ha1 := Lib.hid ha1
            replace ha2 := Lib.hid ha2
            replace hs := Lib.hid hs
            clear hjn
            go_wp2_with fail
            refine Calls.mono (C.out) ?_
            rintro r w9 ⟨rfl, rfl⟩
            go_wp2_with fail
            go_roundw
            case rel => exact ⟨k + 1, _, _, _, by go_num, by omega, P5.out, Rn.out, by omega, by omega, Kx.out⟩
            case measure => simp [intOf]; omega
      have q3 : (d == 3) = false := by simpa using d3
      replace d3 := Lib.hid d3
      by_cases d4 : d = 4
      · subst d4
        have M := PA.out.mem
        have bb' := bb.out
        rw [bb'] at M
        have C := fun v hv => Lib.hid (write_some M z 5 v hv)
        replace M := Lib.hid M
        replace bb' := Lib.hid bb'
        go_wp2_with fail
        rw [← hwa.out]
        refine Calls.mono (C _ (u32_bd _)).out ?_
        rintro r w5 ⟨ee, c5, rfl, M5, K5⟩
        have z5 := K5.size
        have P5 := PallocMem PA.out K5 bb.out G.out M5
        have Kx : Keep nob w w5 := Ka.out.trans K5 (fun q hq e => by have e : q = B.mf := e; have := fb.out.2.2.2; show False; omega)
        replace P5 := Lib.hid P5
        replace K5 := Lib.hid K5
        replace Kx := Lib.hid Kx
        replace M5 := Lib.hid M5
        clear r0 r1 c1' C
        have hs := held_left (in0.out) h2 R.out
        replace hs := Lib.hid hs
        go_wp2_with fail
        go_loop [18, 19] (fun h i => ∃ j : Nat, i = .int .i64 j ∧ j ≤ N ∧ h = .int .i64 (cnt (fun x : Nat => decide (0 < (f) (x : Int))) j)) (fun _ i => (N - intOf i).toNat)
        case atStart => exact ⟨0, rfl, Nat.zero_le _, rfl⟩
        case round =>
          obtain ⟨j, rfl, hj, rfl⟩ := hrel
          by_cases hjn : j < N
          · have s1 : decide (j < N) = true := by simpa using hjn
            have C := refs_ok P5.out (j : Int) (by unfold wfI; omega)
            have cs := cnt_step (f) j
            have cb := cnt_le (fun x : Nat => decide (0 < (f) (x : Int))) j
            obtain ⟨b1, b2⟩ := R.out.rng (j : Int)
            obtain ⟨u, hu⟩ : ∃ u, (f) (j : Int) = u := ⟨_, rfl⟩
            rw [hu] at C b1 b2 cs
            have s2 : decide (u < 0) = false := by simp; omega
            have s3 : decide (64 < u) = false := by simp; omega
            by_cases hp : 0 < u
            · have s4 : decide (0 < u) = true := by simpa using hp
              rw [if_pos hp] at cs
              replace C := Lib.hid C
              replace hu := Lib.hid hu
              replace cs := Lib.hid cs
              clear b1 b2 hp
              go_wp2_with fail
              refine Calls.mono (C.out) ?_
              rintro r w9 ⟨rfl, rfl⟩
              go_wp2_with fail
              refine Calls.mono (C.out) ?_
              rintro r w9 ⟨rfl, rfl⟩
              go_wp2_with fail
              refine Calls.mono (C.out) ?_
              rintro r w9 ⟨rfl, rfl⟩
              go_wp2_with fail
              go_round
              case rel => exact ⟨j + 1, by go_num, by omega, by first | (rw [cs.out]; done) | (rw [cs.out]; go_num)⟩
              case measure => simp [intOf]; omega
            · have s4 : decide (0 < u) = false := by simpa using hp
              rw [if_neg hp] at cs
              replace C := Lib.hid C
              replace hu := Lib.hid hu
              replace cs := Lib.hid cs
              clear b1 b2 hp
              go_wp2_with fail
              refine Calls.mono (C.out) ?_
              rintro r w9 ⟨rfl, rfl⟩
              go_wp2_with fail
              refine Calls.mono (C.out) ?_
              rintro r w9 ⟨rfl, rfl⟩
              go_wp2_with fail
              refine Calls.mono (C.out) ?_
              rintro r w9 ⟨rfl, rfl⟩
              go_wp2_with fail
              go_round
              case rel => exact ⟨j + 1, by go_num, by omega, by first | (rw [cs.out]; done) | (rw [cs.out]; rfl)⟩
              case measure => simp [intOf]; omega
          · have s1 : decide (j < N) = false := by simpa using hjn
            obtain rfl : N = j := by omega
            have C := left_in G.out P5.out 0 (by rw [ll.out]; simp)
            have hs := hs.out
            obtain ⟨a1, ha1⟩ : ∃ a1, cnt (fun x : Nat => decide (0 < (f) (x : Int))) N = a1 := ⟨_, rfl⟩
            obtain ⟨a2, ha2⟩ : ∃ a2, leftN B (f) 0 = a2 := ⟨_, rfl⟩
            rw [ha1, ha2] at hs
            rw [ha1]
            rw [ha2] at C
            have s5 : (((a1 : Int) + (a2 : Int)) != (N : Int)) = false := by simp; omega
            have l1 : a1 ≤ 30 := by omega
            have l2 : a2 ≤ 30 := by omega
            replace C := Lib.hid C
            replace ha1 := Lib.hid ha1
            replace ha2 := Lib.hid ha2
            replace hs := Lib.hid hs
            clear hjn
            go_wp2_with fail
            refine Calls.mono (C.out) ?_
            rintro r w9 ⟨rfl, rfl⟩
            go_wp2_with fail
            go_roundw
            case rel => exact ⟨k + 1, _, _, _, by go_num, by omega, P5.out, R.out, by omega, by omega, Kx.out⟩
            case measure => simp [intOf]; omega
      have q4 : (d == 4) = false := by simpa using d4
      replace d4 := Lib.hid d4
      have hs := held_left (in0.out) h2 R.out
      replace hs := Lib.hid hs
      go_wp2_with fail
      rw [← hwa.out]
      go_loop [18, 19] (fun h i => ∃ j : Nat, i = .int .i64 j ∧ j ≤ N ∧ h = .int .i64 (cnt (fun x : Nat => decide (0 < (f) (x : Int))) j)) (fun _ i => (N - intOf i).toNat)
      case atStart => exact ⟨0, rfl, Nat.zero_le _, rfl⟩
      case round =>
        obtain ⟨j, rfl, hj, rfl⟩ := hrel
        by_cases hjn : j < N
        · have s1 : decide (j < N) = true := by simpa using hjn
          have C := refs_ok PA.out (j : Int) (by unfold wfI; omega)
          have cs := cnt_step (f) j
          have cb := cnt_le (fun x : Nat => decide (0 < (f) (x : Int))) j
          obtain ⟨b1, b2⟩ := R.out.rng (j : Int)
          obtain ⟨u, hu⟩ : ∃ u, (f) (j : Int) = u := ⟨_, rfl⟩
          rw [hu] at C b1 b2 cs
          have s2 : decide (u < 0) = false := by simp; omega
          have s3 : decide (64 < u) = false := by simp; omega
          by_cases hp : 0 < u
          · have s4 : decide (0 < u) = true := by simpa using hp
            rw [if_pos hp] at cs
            replace C := Lib.hid C
            replace hu := Lib.hid hu
            replace cs := Lib.hid cs
            clear b1 b2 hp
            go_wp2_with fail
            refine Calls.mono (C.out) ?_
            rintro r w9 ⟨rfl, rfl⟩
            go_wp2_with fail
            refine Calls.mono (C.out) ?_
            rintro r w9 ⟨rfl, rfl⟩
            go_wp2_with fail
            refine Calls.mono (C.out) ?_
            rintro r w9 ⟨rfl, rfl⟩
            go_wp2_with fail
            go_round
            case rel => exact ⟨j + 1, by go_num, by omega, by first | (rw [cs.out]; done) | (rw [cs.out]; go_num)⟩
            case measure => simp [intOf]; omega
          · have s4 : decide (0 < u) = false := by simpa using hp
            rw [if_neg hp] at cs
            replace C := Lib.hid C
            replace hu := Lib.hid hu
            replace cs := Lib.hid cs
            clear b1 b2 hp
            go_wp2_with fail
            refine Calls.mono (C.out) ?_
            rintro r w9 ⟨rfl, rfl⟩
            go_wp2_with fail
            refine Calls.mono (C.out) ?_
            rintro r w9 ⟨rfl, rfl⟩
            go_wp2_with fail
            refine Calls.mono (C.out) ?_
            rintro r w9 ⟨rfl, rfl⟩
            go_wp2_with fail
            go_round
            case rel => exact ⟨j + 1, by go_num, by omega, by first | (rw [cs.out]; done) | (rw [cs.out]; rfl)⟩
            case measure => simp [intOf]; omega
        · have s1 : decide (j < N) = false := by simpa using hjn
          obtain rfl : N = j := by omega
          have C := left_in G.out PA.out 0 (by rw [ll.out]; simp)
          have hs := hs.out
          obtain ⟨a1, ha1⟩ : ∃ a1, cnt (fun x : Nat => decide (0 < (f) (x : Int))) N = a1 := ⟨_, rfl⟩
          obtain ⟨a2, ha2⟩ : ∃ a2, leftN B (f) 0 = a2 := ⟨_, rfl⟩
          rw [ha1, ha2] at hs
          rw [ha1]
          rw [ha2] at C
          have s5 : (((a1 : Int) + (a2 : Int)) != (N : Int)) = false := by simp; omega
          have l1 : a1 ≤ 30 := by omega
          have l2 : a2 ≤ 30 := by omega
          replace C := Lib.hid C
          replace ha1 := Lib.hid ha1
          replace ha2 := Lib.hid ha2
          replace hs := Lib.hid hs
          clear hjn
          go_wp2_with fail
          refine Calls.mono (C.out) ?_
          rintro r w9 ⟨rfl, rfl⟩
          go_wp2_with fail
          go_roundw
          case rel => exact ⟨k + 1, _, _, _, by go_num, by omega, PA.out, R.out, by omega, by omega, Ka.out⟩
          case measure => simp [intOf]; omega
    · have t6 : decide (k < l.length) = false := by simpa using hlt
      clear P hlt
      go_wp2_with fail
      refine Calls.mono (awake09 _ (tab_keep hT.out K.out)) ?_
      rintro r w6 ⟨rfl, K6⟩
      go_wp2_with fail
      go_ret
      exact ⟨rfl, K.out.then K6⟩
theorem walk_else (n : Int) (a : Option Addr) (len cap : Nat) (h : ¬ (1 ≤ n ∧ n ≤ 30 ∧ len ≤ 200)) (w : World) (hT : TabAt 0 Lib.deBruijn64tab w) :
    Calls Tryd.prog 9 #[.int .i64 n, .slice a len cap] w fun e w' => e = .returned (.bool true) ∧ Keep nob w w' := by
  obtain ⟨T1, t1⟩ : ∃ T, decide (n < 1) = T := ⟨_, rfl⟩
  obtain ⟨T2, t2⟩ : ∃ T, decide (30 < n) = T := ⟨_, rfl⟩
  obtain ⟨T5, t5⟩ : ∃ T, decide ((200 : Int) < len) = T := ⟨_, rfl⟩
  have T : (T1 || T2 || T5) = true := by rw [← t1, ← t2, ← t5]; simp; omega
  clear h
  cases T1 <;> cases T2 <;> cases T5 <;> first | (exact absurd T (by decide)) | skip
  all_goals
    clear T
    go_enter Tryd.func9, Tryd.ntmps9
    go_wp2_with fail
    refine Calls.mono (awake09 _ hT) ?_
    rintro r w5 ⟨rfl, K6⟩
    go_wp2_with fail
    go_ret
    exact ⟨rfl, K6⟩
theorem walk (n : Int) (v : Value) (l : List (Int × Int)) (w : World) (w0 : (Lit.int .i64 n).wf = true) (w1 : PairsAt w v l ∧ ∀ o ∈ l, pairFine o) (hT : TabAt 0 Lib.deBruijn64tab w) :
    Calls Tryd.prog 9 #[.int .i64 n, v] w fun e w' => e = .returned (.bool true) ∧ Keep nob w w' := by
  by_cases h : 1 ≤ n ∧ n ≤ 30 ∧ l.length ≤ 200
  · obtain ⟨N, rfl⟩ : ∃ k : Nat, n = k := ⟨n.toNat, by omega⟩
    exact walk_in N (by omega) (by omega) v l (by omega) w w1.1 w1.2 hT
  · obtain ⟨⟨a, cap, rfl, hm, hcap, hc⟩, hf⟩ := w1
    exact walk_else n a _ cap h w hT
set_option maxRecDepth 100000 in
theorem lifted (os : Os) (started : os.Started) (H : Type) (enc : TypeId × Value → H) :
    ReturnsInHanded {} Tryd.checked os 9 .any (fun w args => (Rows.pallocWholeSpec.pre enc Tryd.prog Tryd.f9 [] false w args ∧ laidMetH Tryd.prog Laid.list w) ∧ sizedMet enc Tryd.prog Tryd.f9 (OpenSpec.ofChange Rows.pallocWholeSpec) false w args) (Rows.pallocWholeSpec.post enc Tryd.prog Tryd.f9 false true false false) := by
  refine returnsInHanded_of_change_and (C := Tryd.checked) (X := fun w _ => laidMetH Tryd.prog Laid.list w) (fun _ _ _ hh h => h.of_heap hh) Head.own started (by kernel_rfl) Tryd.func9
    (ChangeSpec.witness_shaped (enc := enc) (C := Tryd.checked) (os := os) (X := fun w _ => laidMetH Tryd.prog Laid.list w) false (World.doorLaid Tryd.prog Laid.steps os) #[.int .i64 0, .slice none 0 0] 8 rfl (World.shaped_of_RefB (by kernel_rfl) (by kernel_rfl)) (by kernel_rfl) (by kernel_rfl) (by kernel_rfl) (Laid.met os _)) ?_
  intro W base args ds gs before hval0 hW _ _ hL _
  have hval : ∀ (j : Nat) t v, Tryd.f9.params[j]? = some t → args[j]? = some v → Value.okWide Tryd.prog W .any base t v := hval0
  have hW' := hW
  obtain ⟨p, q, hA0, hV, rfl, hfz, hnd⟩ := hW
  have hA : DataW.TrodAll enc Tryd.prog W 0 (fun _ => true) true Tryd.f9.params.toList args.toList ds p := hA0
  rw [Tryd.params9] at hA hval
  obtain ⟨v0, vs0, d0, ds0, p0, q0, hargs, rfl, rfl, h0, r0⟩ := trodAll_cons hA
  obtain ⟨v1, vs1, d1, ds1, p1, q1, rfl, rfl, rfl, h1, r1⟩ := trodAll_cons r0
  obtain ⟨rfl, rfl, rfl⟩ := trodAll_nil r1
  obtain rfl : args = #[v0, v1] := by cases args; simp_all
  obtain ⟨rfl, rfl⟩ := trodVars_none hV
  have k0 := h0
  have lt0 : ∀ x ∈ p0, x.block < W.heap.size := by obtain ⟨m, hm⟩ := k0; exact DataW.trod_lt m _ _ _ hm
  obtain ⟨a0, rfl, rfl, rfl, w0⟩ := open_int Tryd.underlying3 (hval 0 3 v0 rfl rfl) h0
  have k1 := h1
  have lt1 : ∀ x ∈ p1, x.block < W.heap.size := by obtain ⟨m, hm⟩ := k1; exact DataW.trod_lt m _ _ _ hm
  obtain ⟨a1, w1⟩ := open_ops9 (hval 1 44 v1 rfl rfl) h1
  clear hA0 hval0
  refine (walk a0 v1 a1 W w0 w1 (Laid.tab hL)).mono fun e W' ⟨he, kp⟩ => ?_
  subst he
  have bel := kp.below
  exact ⟨_, rfl, _, _, _, [], _, [], hW', trodAll_mk1 (shut_bool Tryd.underlying4 _), (trodAll_cons_mk (shut_int Tryd.underlying3 w0) (trodAll_cons_mk (Below.trod Head.laidOut (by kernel_rfl) (of_decide_eq_true (by kernel_rfl)) k1 bel lt1) trodAll_mk0)), rfl, bel.frame _, fun h => by cases h⟩
theorem closed : joinedFacts Tryd.prog 9 Tryd.f9 Rows.pallocWholeSpec Rows.pallocWholeRow = true := by
  unfold joinedFacts
  rw [Head.mayEnter, Head.liftsFinal, Head.make]
  kernel_rfl
theorem over : Rows.pallocWholeRow.holds Tryd.pinned (OpenSpec.ofChange Rows.pallocWholeSpec) :=
  OpenClaim.holds_of_wide 9 Tryd.f9 rfl rfl rfl rfl rfl rfl rfl ⟨rfl, rfl, rfl, rfl, rfl⟩ rfl rfl rfl rfl rfl (by kernel_rfl) Tryd.func9 closed
    (of_decide_eq_true (by kernel_rfl)) (by unfold Func.isWrapper; first | (rw [if_pos (by decide +kernel)]; kernel_rfl) | (rw [if_neg (by decide +kernel)]; exact ⟨rfl, rfl⟩))
    (fun os started H enc _ => lifted os started H enc)
theorem row : Rows.PallocWholeSaid := over
theorem proved : Rows.PallocWholeCardSaid :=
  Claim7.holds_tied_plain_at .later [] [.data] true (true, "6f766e467f1f76f857c29113ad61a388d69ae06b2677fa7c12f1fa228f819649") false
    row (fun _ h => by cases h) (by kernel_rfl) (fun _ h => by cases h) pallocWhole_row_tie rfl ⟨rfl, rfl⟩ (by kernel_rfl) rfl
    (fun f fn hf hfn => by
      obtain rfl : f = 9 := Option.some.inj ((show Tryd.prog.funcNamed "priory/priorylaw09.PallocWhole" = some 9 by kernel_rfl).symm.trans hf) |>.symm
      obtain rfl : fn = Tryd.f9 := (Option.some.inj (Tryd.func9.symm.trans hfn)).symm
      exact ⟨by kernel_rfl, fun j t ht => by
        have hall : (Tryd.f9.params.toList.all fun u => !Tryd.prog.wantsStandIn u) = true := by kernel_rfl
        have hm : t ∈ Tryd.f9.params.toList := Array.mem_toList_iff.2 (Array.mem_of_getElem? ht)
        exact (show Tryd.prog.wantsStandIn t = false by simpa using List.all_eq_true.1 hall t hm)⟩)
    (by kernel_rfl)
end Go.Proofs.YtepmljcapobodaaDoor.pallocWhole
