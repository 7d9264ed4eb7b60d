/- A pool of any ranges, under any script of calls, answers as the document says, and leaves the memory so. Condition: none beyond the statement's own. -/
import Derived.Test.YtepmljcapobodaaDoorRefPlay
import Derived.Test.YtepmljcapobodaaDoorWords
import Derived.Test.YtepmljcapobodaaDoorHead
import Derived.Test.YtepmljcapobodaaDoorLaid
import Derived.Test.YtepmljcapobodaaDoorCards
import Derived.Test.YtepmljcapobodaaDoorTie
namespace Go.Proofs.YtepmljcapobodaaDoor.pallocPlays
open Go.ChangeShapes Go.WideShapes Go.ChangeAt Go.RowKit
set_option linter.unusedVariables false
set_option maxRecDepth 100000
def Inv1 (w : World) (B : PB) (pw g h n : Nat) (v : Value) (m base : Nat) (i : Value) (wr : World) : Prop :=
  ∃ (k : Nat) (f : Int → Int), i = .int .i64 k ∧ k ≤ m ∧ Both9 wr B pw g h n v f k ∧ base ≤ wr.heap.size ∧ Keep nob w wr
def Inv2 (w : World) (B : PB) (pw g h n : Nat) (v : Value) (base : Nat) (i : Value) (wr : World) : Prop :=
  ∃ (k q : Nat) (f : Int → Int), i = .int .i64 k ∧ k ≤ n ∧ q ≤ 300 + k ∧ Both9 wr B pw g h n v f q ∧ base ≤ wr.heap.size ∧ Keep nob w wr
theorem ranges_of {w : World} {a : Addr} {cap : Nat} {l : List (Int × Int)} (L : PairsAt w (.slice (some a) l.length cap) l) (hf : ∀ o ∈ l, pairFine o) (hne : l ≠ []) : RangesAt w a l := by
  obtain ⟨a', cap', hv, hm, hcap, hc⟩ := L
  injection hv with hv _ _
  subst hv
  obtain ⟨g, o, hg, cs⟩ := hc hne
  injection hg with hg
  subst hg
  have e : ∀ j, j < l.length → l[j]? = some (l.getD j (0, 0)) := fun j hj => by rw [List.getD_eq_getElem?_getD, List.getElem?_eq_getElem hj]; rfl
  refine ⟨fun j hj => cs j _ (e j hj) 0 _ rfl, fun j hj => cs j _ (e j hj) 1 _ rfl, fun j => ?_, rfl⟩
  by_cases hj : j < l.length
  · exact hf _ (List.mem_of_getElem? (e j hj))
  · rw [List.getD_eq_getElem?_getD, List.getElem?_eq_none (by omega)]
    exact ⟨by unfold wfI; simp, by unfold wfI; simp⟩
theorem same_of {B : PB} {n : Nat} {l : List (Int × Int)} (V : Valid n l) (hl : B.l = natL l) (hn : B.n = n) : Same B n l := by
  refine ⟨by rw [hl, natL_len], fun j hj => ?_, hn⟩
  have f := (V.2.2 j hj).1
  unfold fits at f
  have e : l[j]? = some (l.getD j (0, 0)) := by rw [List.getD_eq_getElem?_getD, List.getElem?_eq_getElem hj]; rfl
  rw [e]
  unfold PB.fr PB.mn
  rw [hl, natL_get]
  simp only [Option.some.injEq, Prod.ext_iff]
  omega
set_option maxHeartbeats 6400000 in
theorem walk_in (n : Nat) (h1 : 1 ≤ n) (h2 : n ≤ 40) (v : Value) (l : List (Int × Int)) (V : Valid n l) (s : Value) (sl : List (Int × Int)) (hl : sl.length ≤ 300) (w : World) (L : PairsAt w v l) (hf : ∀ o ∈ l, pairFine o) (SL : PairsAt w s sl) (hs : ∀ o ∈ sl, pairFine o) (hT : TabAt 0 Lib.deBruijn64tab w) :
    Calls Tryd.prog 8 #[.int .i64 n, v, s] w fun e w' => e = .returned (.bool true) ∧ Keep nob w w' := by
  have L0 := Lib.hid L
  obtain ⟨a, cap, rfl, hm, hcap, hc⟩ := L
  obtain ⟨sa, scap, rfl, hsm, hscap, hsc⟩ := SL
  have hv1 := V.1
  have hv8 := V.2.1
  have hne : l ≠ [] := by intro e; rw [e] at hv1; have hv1 : 1 ≤ 0 := hv1; omega
  obtain ⟨gg, og, rfl, -⟩ := hc hne
  have RA := ranges_of L0.out hf hne
  have t1 : decide ((n : Int) < 1) = false := by simp; omega
  have t2 : decide ((40 : Int) < n) = false := by simp; omega
  have t3 : decide ((300 : Int) < sl.length) = false := by simp; omega
  have t4 : decide ((100 : Int) < l.length) = false := by simp; omega
  replace hf := Lib.hid hf
  replace hsc := Lib.hid hsc
  replace hs := Lib.hid hs
  replace hT := Lib.hid hT
  replace V := Lib.hid V
  replace RA := Lib.hid RA
  clear hc hne
  go_enter Tryd.func8, Tryd.ntmps8
  go_wp2_with fail
  refine Calls.mono (new_in w n (by omega) (by omega)) ?_
  rintro r w1 ⟨rfl, M1, K1⟩
  go_wp2_with fail
  have M1f := M1.flt
  have M1b := M1.blt
  have RA1 := RA.out.next K1
  replace M1 := Lib.hid M1
  replace K1 := Lib.hid K1
  replace M1f := Lib.hid M1f
  replace M1b := Lib.hid M1b
  replace RA1 := Lib.hid RA1
  refine Calls.mono (pool_new M1.out _ cap l RA1.out hv1 hv8 hcap) ?_
  rintro r w2 (⟨NV, -⟩ | ⟨-, B, rfl, G, bb, bmf, bn, bl, blo, bhi, P, K2⟩)
  · exact absurd V.out NV
  have S := same_of V.out bl bn
  have K12 := K1.out.then K2
  have z2 := K2.size
  have z1 := K1.out.size
  have CN := rnew w2 n h1 h2 _ l (L0.out.next K12) hf.out
  replace G := Lib.hid G
  replace P := Lib.hid P
  replace S := Lib.hid S
  replace K2 := Lib.hid K2
  replace K12 := Lib.hid K12
  replace bb := Lib.hid bb
  replace bmf := Lib.hid bmf
  replace bn := Lib.hid bn
  replace bl := Lib.hid bl
  replace blo := Lib.hid blo
  replace bhi := Lib.hid bhi
  replace z2 := Lib.hid z2
  replace z1 := Lib.hid z1
  replace CN := Lib.hid CN
  go_wp2_with fail
  refine Calls.mono CN.out ?_
  rintro r w3 (⟨NV, -⟩ | ⟨-, g, h, rfl, MR, HF, HZ, hg, hh, hgh, K3⟩)
  · exact absurd V.out NV
  obtain ⟨W, hW⟩ : ∃ W, W = w3.alloc (.cells #[.slice (some ⟨gg, og, none⟩) l.length cap, .slice (some ⟨g, 0, none⟩) (n * 32) (n * 32), .slice (some ⟨h, 0, none⟩) n n] 55) := ⟨_, rfl⟩
  have KW : Keep nob w3 W := by rw [hW]; exact (Keep.refl _ _).alloc _
  have glt := MR.glt
  have hlt := World.block_lt_of_cell? _ _ (HF 0 (by omega))
  simp only at hlt
  have X : Both9 W B w3.heap.size g h n (.slice (some ⟨gg, og, none⟩) l.length cap) (fun _ => 0) 0 := by
    refine ⟨⟨fun _ => 0, (P.out.next G.out K3).next G.out KW, ?_⟩, RefsOk.zero B⟩
    refine ⟨?_, ?_, ?_, MR.next KW, fun k hk => KW.some (HF k hk) (fun x => x), fun k => (KW.frozen (p := ⟨h, k, none⟩) hlt (fun x => x)).trans (HZ k), by omega, by omega, hgh⟩
    · rw [hW]; exact new_at _ _ _ 0 _ rfl
    · rw [hW]; exact new_at _ _ _ 1 _ rfl
    · rw [hW]; exact new_at _ _ _ 2 _ rfl
  have z3 := K3.size
  have FF : Far w B w3.heap.size g h := by
    have := bb.out; have := bmf.out; have := blo.out; have := bhi.out; have := z2.out; have := z1.out; have := M1f.out; have := M1b.out
    refine ⟨?_, ?_, ?_, ?_, ⟨by omega, by omega⟩, by omega, by omega⟩
    · unfold own; omega
    · unfold own; omega
    · unfold own; omega
    · unfold gh; omega
  have hb : ∀ x, own B x ∨ gh g h x → x < W.heap.size := by
    have := bb.out; have := bmf.out; have := blo.out; have := bhi.out; have := z2.out; have := z1.out; have := M1f.out; have := M1b.out; have := KW.size
    intro x hx
    unfold own gh at hx
    omega
  have Kw := (K12.out.then K3).then KW
  have eb := bb.out
  unfold refV refsV
  replace MR := Lib.hid MR
  replace HF := Lib.hid HF
  replace HZ := Lib.hid HZ
  replace hg := Lib.hid hg
  replace hh := Lib.hid hh
  replace hgh := Lib.hid hgh
  replace K3 := Lib.hid K3
  replace KW := Lib.hid KW
  replace glt := Lib.hid glt
  replace hlt := Lib.hid hlt
  replace X := Lib.hid X
  replace z3 := Lib.hid z3
  replace FF := Lib.hid FF
  replace hb := Lib.hid hb
  replace Kw := Lib.hid Kw
  clear M1 K1 RA1 CN P K2 K12 RA
  go_wp2_with fail
  rw [← hW]
  have pwlt : w3.heap.size < W.heap.size := by rw [hW, World.size_alloc]; omega
  replace hW := Lib.hid hW
  replace pwlt := Lib.hid pwlt
  obtain ⟨pw, hpw⟩ : ∃ pw, pw = w3.heap.size := ⟨_, rfl⟩
  rw [← hpw] at X FF pwlt ⊢
  replace hpw := Lib.hid hpw
  go_loopw [13] (fun i wr => Inv1 w B pw g h n (.slice (some ⟨gg, og, none⟩) l.length cap) sl.length W.heap.size i wr) (fun i _ => (sl.length - intOf i).toNat)
  case atStart => exact ⟨0, _, rfl, Nat.zero_le _, X.out, Nat.le_refl _, Kw.out⟩
  case round =>
    clear X
    obtain ⟨k, f, rfl, hk, X, hz, K⟩ := hrel
    have hbr : ∀ x, own B x ∨ YtepmljcapobodaaDoor.gh g h x → x < wr.heap.size := fun x hx => by have := hb.out x hx; omega
    by_cases hlt' : k < sl.length
    · have hne : sl ≠ [] := by intro e; rw [e] at hlt'; simp at hlt'
      obtain ⟨g2, o2, rfl, cs⟩ := hsc.out hne
      obtain ⟨o, ho⟩ : ∃ o, sl.getD k (0, 0) = o := ⟨_, rfl⟩
      have ho' : sl[k]? = some o := by rw [← ho, List.getD_eq_getElem?_getD, List.getElem?_eq_getElem hlt']; rfl
      have r0 := K.some (cs k o ho' 0 _ rfl) (fun x => x)
      have r1 := K.some (cs k o ho' 1 _ rfl) (fun x => x)
      have fo := hs.out o (List.mem_of_getElem? ho')
      have t6 : decide (k < sl.length) = true := by simpa using hlt'
      have r0 : wr.cell? ⟨g2, o2 + k * 2, none⟩ = some (.int .i64 o.1) := r0
      have r1 : wr.cell? ⟨g2, o2 + k * 2 + 1, none⟩ = some (.int .i64 o.2) := r1
      have C := play9 hT.out G.out S.out L0.out FF.out K X (by omega) hbr o fo
      rw [eb] at C
      replace X := Lib.hid X
      replace K := Lib.hid K
      replace hbr := Lib.hid hbr
      replace ho := Lib.hid ho
      replace ho' := Lib.hid ho'
      replace fo := Lib.hid fo
      replace C := Lib.hid C
      clear cs
      go_wp2_with fail
      refine Calls.mono C.out ?_
      rintro r w5 ⟨rfl, ⟨f5, X5⟩, K5, z5⟩
      replace X5 := Lib.hid X5
      replace K5 := Lib.hid K5
      clear r0 r1 C
      go_wp2_with fail
      go_roundw
      case rel => exact ⟨k + 1, f5, by go_num, by omega, X5.out, by omega, K5.out⟩
      case measure => simp [intOf]; omega
    · have t6 : decide (k < sl.length) = false := by simpa using hlt'
      replace X := Lib.hid X
      replace K := Lib.hid K
      replace hbr := Lib.hid hbr
      clear hlt'
      go_wp2_with fail
      go_loopw [14, 15, 16, 17, 18] (fun i _ _ _ _ wr => Inv2 w B pw g h n (.slice (some ⟨gg, og, none⟩) l.length cap) W.heap.size i wr) (fun i _ _ _ _ _ => (n - intOf i).toNat)
      case atStart => exact ⟨0, k, _, rfl, Nat.zero_le _, by omega, X.out, by omega, K.out⟩
      case round =>
        clear X K hbr hz hk
        obtain ⟨k, q, f, rfl, hk, hq, X, hz, K⟩ := hrel
        by_cases hkn : k < n
        · have t7 : decide (k < n) = true := by simpa using hkn
          have wk : wfI (k : Int) := by unfold wfI; omega
          obtain ⟨c, P, R⟩ := X.PR
          have M := P.mem
          rw [eb, bn.out] at M
          have C1 := page_in M k (by omega) (by omega)
          rw [Int.toNat_natCast] at C1
          replace M := Lib.hid M
          replace P := Lib.hid P
          replace K := Lib.hid K
          replace X := Lib.hid X
          replace wk := Lib.hid wk
          go_wp2_with fail
          refine Calls.mono C1 ?_
          rintro r w5 ⟨v5, rfl, R5, K5⟩
          obtain ⟨g5, cap5, rfl⟩ := R5.form
          have RR := R.next K5
          have p1 := RR.p1
          unfold refV at p1
          have C2 := refpage_in RR.M k (by omega) (by omega)
          rw [Int.toNat_natCast] at C2
          unfold refV at C2
          replace K5 := Lib.hid K5
          replace R5 := Lib.hid R5
          replace RR := Lib.hid RR
          replace C2 := Lib.hid C2
          clear C1 R
          go_wp2_with fail
          refine Calls.mono C2.out ?_
          rintro r w6 ⟨v6, rfl, R6, K6⟩
          obtain ⟨g6, cap6, rfl⟩ := R6.form
          have C3 := same_ok (R5.out.next K6).words R6.words (by rw [words_len]; decide)
          rw [decide_eq_true rfl] at C3
          replace K6 := Lib.hid K6
          replace R6 := Lib.hid R6
          replace C3 := Lib.hid C3
          clear C2 p1
          go_wp2_with fail
          refine Calls.mono C3.out ?_
          rintro r w7 ⟨rfl, K7⟩
          have Ka := (K5.out.then K6.out).then K7
          have X7 := X.out.next G.out Ka
          have z7 := Ka.size
          have Kw7 := K.out.then Ka
          have C4 := play9 hT.out G.out S.out L0.out FF.out Kw7 X7 (by omega) (fun x hx => by have := hb.out x hx; omega) ((0 : Int), (k : Int)) ⟨by unfold wfI; simp, wk.out⟩
          dsimp only at C4
          rw [eb] at C4
          replace Ka := Lib.hid Ka
          replace X7 := Lib.hid X7
          replace Kw7 := Lib.hid Kw7
          replace C4 := Lib.hid C4
          replace K7 := Lib.hid K7
          clear C3
          go_wp2_with fail
          refine Calls.mono C4.out ?_
          rintro r w8 ⟨rfl, ⟨f8, X8⟩, K8, z8⟩
          replace X8 := Lib.hid X8
          replace K8 := Lib.hid K8
          clear C4
          go_wp2_with fail
          go_roundw
          case rel => exact ⟨k + 1, q + 1, f8, by go_num, by omega, by omega, X8.out, by omega, K8.out⟩
          case measure => simp [intOf]; omega
        · have t7 : decide (k < n) = false := by simpa using hkn
          replace X := Lib.hid X
          replace K := Lib.hid K
          clear hkn
          go_wp2_with fail
          refine Calls.mono (awake09 _ (tab_keep hT.out K.out)) ?_
          rintro r w9 ⟨rfl, K9⟩
          go_wp2_with fail
          go_ret
          exact ⟨rfl, K.out.then K9⟩
theorem walk_not (n : Nat) (h1 : 1 ≤ n) (h2 : n ≤ 40) (v : Value) (l : List (Int × Int)) (hll : l.length ≤ 100) (V : ¬ Valid n l) (s : Value) (sl : List (Int × Int)) (hl : sl.length ≤ 300) (w : World) (L : PairsAt w v l) (hf : ∀ o ∈ l, pairFine o) (SL : PairsAt w s sl) (hT : TabAt 0 Lib.deBruijn64tab w) :
    Calls Tryd.prog 8 #[.int .i64 n, v, s] w fun e w' => e = .returned (.bool true) ∧ Keep nob w w' := by
  have L0 := Lib.hid L
  obtain ⟨a, cap, rfl, hm, hcap, hc⟩ := L
  obtain ⟨sa, scap, rfl, hsm, hscap, hsc⟩ := SL
  have t1 : decide ((n : Int) < 1) = false := by simp; omega
  have t2 : decide ((40 : Int) < n) = false := by simp; omega
  have t3 : decide ((300 : Int) < sl.length) = false := by simp; omega
  have t4 : decide ((100 : Int) < l.length) = false := by simp; omega
  have hf' := Lib.hid hf
  replace hsc := Lib.hid hsc
  replace hT := Lib.hid hT
  replace V := Lib.hid V
  clear hf
  have PN : ∀ w1 (M : MemAt w1 (w.heap.size + 1) w.heap.size n (fun _ => 0)) (K : Keep nob w w1), Calls Tryd.prog 18 #[.pointer (some ⟨w.heap.size + 1, 0, none⟩), .slice a l.length cap] w1 fun r w' => r = .returned (.tuple #[.pointer none, .int .i64 2]) ∧ Keep nob w1 w' := by
    intro w1 M K
    by_cases h : 1 ≤ l.length ∧ l.length ≤ 8
    · have hne : l ≠ [] := by intro e; rw [e] at h; have h : 1 ≤ 0 := h.1; omega
      obtain ⟨g, o, rfl, -⟩ := hc hne
      refine (pool_new M _ cap l ((ranges_of L0.out hf'.out hne).next K) h.1 h.2 hcap).mono ?_
      rintro r w2 (⟨-, rfl, K2⟩ | ⟨V', -⟩)
      · exact ⟨rfl, K2⟩
      · exact absurd V' V.out
    · refine (pool_many M a l.length cap h).mono ?_
      rintro r w2 ⟨rfl, rfl⟩
      exact ⟨rfl, Keep.refl _ _⟩
  have RN : ∀ w2 (K : Keep nob w w2), Calls Tryd.prog 26 #[.int .i64 n, .slice a l.length cap] w2 fun r w' => r = .returned (.tuple #[zeroPool, .int .i64 2]) ∧ Keep nob w2 w' := by
    intro w2 K
    refine (rnew w2 n h1 h2 _ l (L0.out.next K) hf'.out).mono ?_
    rintro r w3 (⟨-, rfl, K2⟩ | ⟨V', -⟩)
    · exact ⟨rfl, K2⟩
    · exact absurd V' V.out
  unfold zeroPool at RN
  replace PN := Lib.hid PN
  replace RN := Lib.hid RN
  replace hc := Lib.hid hc
  go_enter Tryd.func8, Tryd.ntmps8
  go_wp2_with fail
  refine Calls.mono (new_in w n (by omega) (by omega)) ?_
  rintro r w1 ⟨rfl, M1, K1⟩
  go_wp2_with fail
  have C := PN.out w1 M1 K1
  replace M1 := Lib.hid M1
  replace K1 := Lib.hid K1
  replace C := Lib.hid C
  refine Calls.mono C.out ?_
  rintro r w2 ⟨rfl, K2⟩
  have K12 := K1.out.then K2
  have C2 := RN.out w2 K12
  replace K2 := Lib.hid K2
  replace K12 := Lib.hid K12
  replace C2 := Lib.hid C2
  go_wp2_with fail
  refine Calls.mono (C2.out) ?_
  rintro r w3 ⟨rfl, K3⟩
  go_wp2_with fail
  have K4 := (K12.out.then K3).alloc (.cells #[.slice none 0 0, .slice none 0 0, .slice none 0 0] 55)
  replace K3 := Lib.hid K3
  replace K4 := Lib.hid K4
  refine Calls.mono (awake09 _ (tab_keep hT.out K4.out)) ?_
  rintro r w9 ⟨rfl, K9⟩
  go_wp2_with fail
  go_ret
  exact ⟨rfl, K4.out.then K9⟩
theorem walk_else (n : Int) (a : Option Addr) (len cap : Nat) (b : Option Addr) (len2 cap2 : Nat) (h : ¬ (1 ≤ n ∧ n ≤ 40 ∧ len ≤ 100 ∧ len2 ≤ 300)) (w : World) (hT : TabAt 0 Lib.deBruijn64tab w) :
    Calls Tryd.prog 8 #[.int .i64 n, .slice a len cap, .slice b len2 cap2] w fun e w' => e = .returned (.bool true) ∧ Keep nob w w' := by
  obtain ⟨T1, t1⟩ : ∃ T, decide (n < 1) = T := ⟨_, rfl⟩
  obtain ⟨T2, t2⟩ : ∃ T, decide (40 < n) = T := ⟨_, rfl⟩
  obtain ⟨T5, t5⟩ : ∃ T, decide ((300 : Int) < len2) = T := ⟨_, rfl⟩
  obtain ⟨T6, t6⟩ : ∃ T, decide ((100 : Int) < len) = T := ⟨_, rfl⟩
  have T : (T1 || T2 || T5 || T6) = true := by rw [← t1, ← t2, ← t5, ← t6]; simp; omega
  clear h
  have W : ∀ (c : Bool), c = true → True := fun _ _ => trivial
  by_cases q1 : T1 = true
  · subst q1
    go_enter Tryd.func8, Tryd.ntmps8
    go_wp2_with fail
    all_goals
      refine Calls.mono (awake09 _ hT) ?_
      rintro r w5 ⟨rfl, K6⟩
      go_wp2_with fail
      go_ret
      exact ⟨rfl, K6⟩
  have q1 : T1 = false := by simpa using q1
  subst q1
  by_cases q2 : T2 = true
  · subst q2
    go_enter Tryd.func8, Tryd.ntmps8
    go_wp2_with fail
    all_goals
      refine Calls.mono (awake09 _ hT) ?_
      rintro r w5 ⟨rfl, K6⟩
      go_wp2_with fail
      go_ret
      exact ⟨rfl, K6⟩
  have q2 : T2 = false := by simpa using q2
  subst q2
  by_cases q3 : T5 = true
  · subst q3
    go_enter Tryd.func8, Tryd.ntmps8
    go_wp2_with fail
    all_goals
      refine Calls.mono (awake09 _ hT) ?_
      rintro r w5 ⟨rfl, K6⟩
      go_wp2_with fail
      go_ret
      exact ⟨rfl, K6⟩
  have q3 : T5 = false := by simpa using q3
  subst q3
  have q4 : T6 = true := by simpa using T
  subst q4
  clear T W
  go_enter Tryd.func8, Tryd.ntmps8
  go_wp2_with fail
  refine Calls.mono (awake09 _ hT) ?_
  rintro r w5 ⟨rfl, K6⟩
  go_wp2_with fail
  go_ret
  exact ⟨rfl, K6⟩
theorem walk (n : Int) (v : Value) (l : List (Int × Int)) (s : Value) (sl : List (Int × Int)) (w : World) (w0 : (Lit.int .i64 n).wf = true) (w1 : PairsAt w v l ∧ ∀ o ∈ l, pairFine o) (w2 : PairsAt w s sl ∧ ∀ o ∈ sl, pairFine o) (hT : TabAt 0 Lib.deBruijn64tab w) :
    Calls Tryd.prog 8 #[.int .i64 n, v, s] w fun e w' => e = .returned (.bool true) ∧ Keep nob w w' := by
  by_cases h : 1 ≤ n ∧ n ≤ 40 ∧ l.length ≤ 100 ∧ sl.length ≤ 300
  · obtain ⟨N, rfl⟩ : ∃ k : Nat, n = k := ⟨n.toNat, by omega⟩
    by_cases V : Valid N l
    · exact walk_in N (by omega) (by omega) v l V s sl h.2.2.2 w w1.1 w1.2 w2.1 w2.2 hT
    · exact walk_not N (by omega) (by omega) v l h.2.2.1 V s sl h.2.2.2 w w1.1 w1.2 w2.1 hT
  · obtain ⟨⟨a, cap, rfl, hm, hcap, hc⟩, hf⟩ := w1
    obtain ⟨⟨b, cap2, rfl, hm2, hcap2, hc2⟩, hf2⟩ := w2
    exact walk_else n a _ cap b _ cap2 h w hT
set_option maxRecDepth 100000 in
theorem lifted (os : Os) (started : os.Started) (H : Type) (enc : TypeId × Value → H) :
    ReturnsInHanded {} Tryd.checked os 8 .any (fun w args => (Rows.pallocPlaysSpec.pre enc Tryd.prog Tryd.f8 [] false w args ∧ laidMetH Tryd.prog Laid.list w) ∧ sizedMet enc Tryd.prog Tryd.f8 (OpenSpec.ofChange Rows.pallocPlaysSpec) false w args) (Rows.pallocPlaysSpec.post enc Tryd.prog Tryd.f8 false true false false) := by
  refine returnsInHanded_of_change_and (C := Tryd.checked) (X := fun w _ => laidMetH Tryd.prog Laid.list w) (fun _ _ _ hh h => h.of_heap hh) Head.own started (by kernel_rfl) Tryd.func8
    (ChangeSpec.witness_shaped (enc := enc) (C := Tryd.checked) (os := os) (X := fun w _ => laidMetH Tryd.prog Laid.list w) false (World.doorLaid Tryd.prog Laid.steps os) #[.int .i64 0, .slice none 0 0, .slice none 0 0] 8 rfl (World.shaped_of_RefB (by kernel_rfl) (by kernel_rfl)) (by kernel_rfl) (by kernel_rfl) (by kernel_rfl) (Laid.met os _)) ?_
  intro W base args ds gs before hval0 hW _ _ hL _
  have hval : ∀ (j : Nat) t v, Tryd.f8.params[j]? = some t → args[j]? = some v → Value.okWide Tryd.prog W .any base t v := hval0
  have hW' := hW
  obtain ⟨p, q, hA0, hV, rfl, hfz, hnd⟩ := hW
  have hA : DataW.TrodAll enc Tryd.prog W 0 (fun _ => true) true Tryd.f8.params.toList args.toList ds p := hA0
  rw [Tryd.params8] at hA hval
  obtain ⟨v0, vs0, d0, ds0, p0, q0, hargs, rfl, rfl, h0, r0⟩ := trodAll_cons hA
  obtain ⟨v1, vs1, d1, ds1, p1, q1, rfl, rfl, rfl, h1, r1⟩ := trodAll_cons r0
  obtain ⟨v2, vs2, d2, ds2, p2, q2, rfl, rfl, rfl, h2, r2⟩ := trodAll_cons r1
  obtain ⟨rfl, rfl, rfl⟩ := trodAll_nil r2
  obtain rfl : args = #[v0, v1, v2] := by cases args; simp_all
  obtain ⟨rfl, rfl⟩ := trodVars_none hV
  have k0 := h0
  have lt0 : ∀ x ∈ p0, x.block < W.heap.size := by obtain ⟨m, hm⟩ := k0; exact DataW.trod_lt m _ _ _ hm
  obtain ⟨a0, rfl, rfl, rfl, w0⟩ := open_int Tryd.underlying3 (hval 0 3 v0 rfl rfl) h0
  have k1 := h1
  have lt1 : ∀ x ∈ p1, x.block < W.heap.size := by obtain ⟨m, hm⟩ := k1; exact DataW.trod_lt m _ _ _ hm
  obtain ⟨a1, w1⟩ := open_ranges (hval 1 32 v1 rfl rfl) h1
  have k2 := h2
  have lt2 : ∀ x ∈ p2, x.block < W.heap.size := by obtain ⟨m, hm⟩ := k2; exact DataW.trod_lt m _ _ _ hm
  obtain ⟨a2, w2⟩ := open_ops9 (hval 2 44 v2 rfl rfl) h2
  clear hA0 hval0
  refine (walk a0 v1 a1 v2 a2 W w0 w1 w2 (Laid.tab hL)).mono fun e W' ⟨he, kp⟩ => ?_
  subst he
  have bel := kp.below
  exact ⟨_, rfl, _, _, _, [], _, [], hW', trodAll_mk1 (shut_bool Tryd.underlying4 _), (trodAll_cons_mk (shut_int Tryd.underlying3 w0) (trodAll_cons_mk (Below.trod Head.laidOut (by kernel_rfl) (of_decide_eq_true (by kernel_rfl)) k1 bel lt1) (trodAll_cons_mk (Below.trod Head.laidOut (by kernel_rfl) (of_decide_eq_true (by kernel_rfl)) k2 bel lt2) trodAll_mk0))), rfl, bel.frame _, fun h => by cases h⟩
theorem closed : joinedFacts Tryd.prog 8 Tryd.f8 Rows.pallocPlaysSpec Rows.pallocPlaysRow = true := by
  unfold joinedFacts
  rw [Head.mayEnter, Head.liftsFinal, Head.make]
  kernel_rfl
theorem over : Rows.pallocPlaysRow.holds Tryd.pinned (OpenSpec.ofChange Rows.pallocPlaysSpec) :=
  OpenClaim.holds_of_wide 8 Tryd.f8 rfl rfl rfl rfl rfl rfl rfl ⟨rfl, rfl, rfl, rfl, rfl⟩ rfl rfl rfl rfl rfl (by kernel_rfl) Tryd.func8 closed
    (of_decide_eq_true (by kernel_rfl)) (by unfold Func.isWrapper; first | (rw [if_pos (by decide +kernel)]; kernel_rfl) | (rw [if_neg (by decide +kernel)]; exact ⟨rfl, rfl⟩))
    (fun os started H enc _ => lifted os started H enc)
theorem row : Rows.PallocPlaysSaid := over
theorem proved : Rows.PallocPlaysCardSaid :=
  Claim7.holds_tied_plain_at .later [] [.data] true (true, "6f766e467f1f76f857c29113ad61a388d69ae06b2677fa7c12f1fa228f819649") false
    row (fun _ h => by cases h) (by kernel_rfl) (fun _ h => by cases h) pallocPlays_row_tie rfl ⟨rfl, rfl⟩ (by kernel_rfl) rfl
    (fun f fn hf hfn => by
      obtain rfl : f = 8 := Option.some.inj ((show Tryd.prog.funcNamed "priory/priorylaw09.PallocPlays" = some 8 by kernel_rfl).symm.trans hf) |>.symm
      obtain rfl : fn = Tryd.f8 := (Option.some.inj (Tryd.func8.symm.trans hfn)).symm
      exact ⟨by kernel_rfl, fun j t ht => by
        have hall : (Tryd.f8.params.toList.all fun u => !Tryd.prog.wantsStandIn u) = true := by kernel_rfl
        have hm : t ∈ Tryd.f8.params.toList := Array.mem_toList_iff.2 (Array.mem_of_getElem? ht)
        exact (show Tryd.prog.wantsStandIn t = false by simpa using List.all_eq_true.1 hall t hm)⟩)
    (by kernel_rfl)
end Go.Proofs.YtepmljcapobodaaDoor.pallocPlays
