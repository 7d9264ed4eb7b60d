/- Two pools over memories of their own are apart, and one pool's calls answer the same when they are done again on a new one. Condition: none beyond the statement's own. -/
import Derived.Test.YtepmljcapobodaaDoorPalAns
import Derived.Test.YtepmljcapobodaaDoorHead
import Derived.Test.YtepmljcapobodaaDoorLaid
import Derived.Test.YtepmljcapobodaaDoorCards
import Derived.Test.YtepmljcapobodaaDoorTie
import Derived.Deep.RegionHeld3
namespace Go.Proofs.YtepmljcapobodaaDoor.pallocTwo
open Go.ChangeShapes Go.WideShapes Go.ChangeAt Go.RowKit
set_option linter.unusedVariables false
set_option maxRecDepth 100000
/-- The counts behind k calls, and what the k-th one answers. -/
noncomputable def stF (N : PB) (l : List (Int × Int)) : Nat → Int → Int
  | 0 => fun _ => 0
  | k + 1 => ansF N (stF N l k) (l.getD k (0, 0))
noncomputable def stE (N : PB) (l : List (Int × Int)) (k : Nat) : Int := ansE N (stF N l k) (l.getD k (0, 0))
noncomputable def seenL (N : PB) (l : List (Int × Int)) (k : Nat) : List Value := (List.range k).map fun j => .int .i64 (stE N l j)
theorem seenL_succ (N : PB) (l : List (Int × Int)) (k : Nat) : seenL N l (k + 1) = seenL N l k ++ [.int .i64 (stE N l k)] := by
  unfold seenL; rw [List.range_succ, List.map_append]; rfl
theorem stF_ok {B : PB} (G : Geo B) (l : List (Int × Int)) : ∀ k, RefsOk B (stF B l k)
  | 0 => RefsOk.zero B
  | k + 1 => (stF_ok G l k).ans G _
theorem stF_norm (B : PB) (l : List (Int × Int)) : ∀ k, stF B l k = stF B.norm l k
  | 0 => rfl
  | k + 1 => by unfold stF; rw [stF_norm B l k]; rfl
theorem stE_norm (B : PB) (l : List (Int × Int)) (k : Nat) : stE B l k = stE B.norm l k := by unfold stE; rw [stF_norm]; rfl
def Pool (wr : World) (B : PB) (f : Int → Int) (k : Nat) : Prop := ∃ c, PoolAt wr B c f k
def Inv1 (w : World) (A B : PB) (l : List (Int × Int)) (base : Nat) (s i : Value) (wr : World) : Prop :=
  ∃ k : Nat, i = .int .i64 k ∧ k ≤ l.length ∧ Pool wr A (stF A l k) k ∧ Pool wr B (fun _ => 0) 0 ∧ wr.ownsRow base 3 1 s k (seenL A l k) ∧ base ≤ wr.heap.size ∧ Keep nob w wr
def Inv2 (w : World) (A B : PB) (l : List (Int × Int)) (base : Nat) (s : Value) (i : Value) (wr : World) : Prop :=
  ∃ k : Nat, i = .int .i64 k ∧ k ≤ l.length ∧ Pool wr A (stF A l l.length) l.length ∧ Pool wr B (stF B l k) k ∧ wr.ownsRow base 3 1 s l.length (seenL A l l.length) ∧ Keep nob w wr
theorem infoInt : (Tryd.prog.info? 3).map (fun i => (i.zero, i.size, i.bytes)) = some (some (.int .i64 0), 1, 8) := by kernel_rfl
theorem left_all {B : PB} {n : Nat} (hn : n ≤ 1024) (h : ∀ x : Int, B.inr 0 x ↔ 0 ≤ x ∧ x < n) : leftN B (fun _ => 0) 0 = n := by
  unfold leftN
  rw [cnt_congr (Q := fun k => decide (k < n)) _ (fun k hk => by
    have := h k
    by_cases q : k < n
    · simp only [q, decide_true]; exact decide_eq_true ⟨this.2 (by omega), trivial⟩
    · simp only [q, decide_false]; exact decide_eq_false (fun e => q (by have := (this.1 e.1).2; omega)))]
  exact cnt_lt n 1024 hn
set_option maxHeartbeats 3200000 in
theorem walk_in (n : Nat) (h1 : 1 ≤ n) (h2 : n ≤ 30) (v : Value) (l : List (Int × Int)) (hl : l.length ≤ 100) (w : World) (L : PairsAt w v l) (hf : ∀ o ∈ l, pairFine o) (hT : TabAt 0 Lib.deBruijn64tab w) :
    Calls Tryd.prog 7 #[.int .i64 n, v] w fun e w' => e = .returned (.bool true) ∧ Keep nob w w' := by
  obtain ⟨a, cap, rfl, hm, hcap, hcells⟩ := L
  have t1 : decide ((n : Int) < 1) = false := by simp; omega
  have t2 : decide ((30 : Int) < n) = false := by simp; omega
  have t3 : decide ((100 : Int) < l.length) = false := by simp; omega
  obtain ⟨i0, hi, hz0, hz1, hz2⟩ := info_parts infoInt
  replace hf := Lib.hid hf
  replace hcells := Lib.hid hcells
  replace hT := Lib.hid hT
  replace hi := Lib.hid hi
  replace hz0 := Lib.hid hz0
  replace hz1 := Lib.hid hz1
  replace hz2 := Lib.hid hz2
  go_enter Tryd.func7, Tryd.ntmps7
  go_wp2_with fail
  refine Calls.mono (new_in w n (by omega) (by omega)) ?_
  rintro r w1 ⟨rfl, M1, K1⟩
  go_wp2_with fail
  replace M1 := Lib.hid M1
  replace K1 := Lib.hid K1
  refine Calls.mono (new_in w1 n (by omega) (by omega)) ?_
  rintro r w2 ⟨rfl, M2, K2⟩
  go_wp2_with fail
  have z1 := K1.out.size
  have z2 := K2.size
  have M1b := M1.out.blt
  have M1f := M1.out.flt
  have M2b := M2.blt
  have M2f := M2.flt
  have Ka := Lib.hid (K1.out.then K2)
  have Ma := Lib.hid (M1.out.next K2)
  replace M2 := Lib.hid M2
  replace K2 := Lib.hid K2
  replace M1b := Lib.hid M1b
  replace M1f := Lib.hid M1f
  replace M2b := Lib.hid M2b
  replace M2f := Lib.hid M2f
  replace z1 := Lib.hid z1
  replace z2 := Lib.hid z2
  refine Calls.mono (one_new2 Ka.out Ma.out (Nat.le_refl _)) ?_
  rintro r w3 ⟨A, rfl, G1, P1, S1, in1, ll1, bb1, bf1, bn1, lo1, hi1, K3⟩
  go_wp2_with fail
  have z3 := K3.size
  have M2' := M2.out.next K3
  have Kb := Ka.out.then K3
  have hTk := tab_keep hT.out Kb
  replace G1 := Lib.hid G1
  replace P1 := Lib.hid P1
  replace S1 := Lib.hid S1
  replace in1 := Lib.hid in1
  replace K3 := Lib.hid K3
  replace M2' := Lib.hid M2'
  replace Kb := Lib.hid Kb
  replace hTk := Lib.hid hTk
  replace ll1 := Lib.hid ll1
  replace bb1 := Lib.hid bb1
  replace bf1 := Lib.hid bf1
  replace bn1 := Lib.hid bn1
  replace lo1 := Lib.hid lo1
  replace hi1 := Lib.hid hi1
  replace z3 := Lib.hid z3
  refine Calls.mono (one_new2 Kb.out M2'.out (by have := z1.out; omega)) ?_
  rintro r w4 ⟨B, rfl, G2, P2, S2, in2, ll2, bb2, bf2, bn2, lo2, hi2, K4⟩
  go_wp2_with fail
  have z4 := K4.size
  have P1' := P1.out.next G1.out K4
  have Kc := Kb.out.then K4
  replace G2 := Lib.hid G2
  replace P2 := Lib.hid P2
  replace S2 := Lib.hid S2
  replace in2 := Lib.hid in2
  replace K4 := Lib.hid K4
  replace P1' := Lib.hid P1'
  replace Kc := Lib.hid Kc
  replace ll2 := Lib.hid ll2
  replace bb2 := Lib.hid bb2
  replace bf2 := Lib.hid bf2
  replace bn2 := Lib.hid bn2
  replace lo2 := Lib.hid lo2
  replace hi2 := Lib.hid hi2
  replace z4 := Lib.hid z4
  have ap1 : Apart A B := by
    have := bb1.out; have := bf1.out; have := bb2.out; have := bf2.out; have := lo1.out; have := hi1.out; have := lo2.out; have := M1b.out; have := M1f.out; have := M2b.out; have := M2f.out; have := z1.out; have := z2.out; have := z3.out
    constructor
    · unfold own; omega
    · intro x hx h; unfold own at hx h; omega
  have ap2 : Apart B A := by
    have := bb1.out; have := bf1.out; have := bb2.out; have := bf2.out; have := lo1.out; have := hi1.out; have := lo2.out; have := M1b.out; have := M1f.out; have := M2b.out; have := M2f.out; have := z1.out; have := z2.out; have := z3.out
    constructor
    · unfold own; omega
    · intro x hx h; unfold own at hx h; omega
  have ob1 : ∀ g, w4.heap.size ≤ g → ¬ own A g := by
    have := bf1.out; have := hi1.out; have := M1f.out; have := z1.out; have := z2.out; have := z3.out; have := z4.out
    intro g hg h; unfold own at h; omega
  have ob2 : ∀ g, w4.heap.size ≤ g → ¬ own B g := by
    have := bf2.out; have := hi2.out; have := M2f.out; have := z2.out; have := z3.out; have := z4.out
    intro g hg h; unfold own at h; omega
  have ub1 : A.b < w4.heap.size ∧ ∀ x, own A x → x < w4.heap.size := by
    have := bb1.out; have := bf1.out; have := hi1.out; have := M1b.out; have := M1f.out; have := z1.out; have := z2.out; have := z3.out; have := z4.out
    refine ⟨by omega, fun x h => ?_⟩; unfold own at h; omega
  have ub2 : B.b < w4.heap.size ∧ ∀ x, own B x → x < w4.heap.size := by
    have := bb2.out; have := bf2.out; have := hi2.out; have := M2b.out; have := M2f.out; have := z2.out; have := z3.out; have := z4.out
    refine ⟨by omega, fun x h => ?_⟩; unfold own at h; omega
  have uw := Kc.out.size
  have eN : A.norm = B.norm := by
    have e1 := ll1.out
    have e2 := ll2.out
    exact norm_eq (e1.trans e2.symm)
  replace ap1 := Lib.hid ap1
  replace ap2 := Lib.hid ap2
  replace ob1 := Lib.hid ob1
  replace ob2 := Lib.hid ob2
  replace eN := Lib.hid eN
  replace ub1 := Lib.hid ub1
  replace ub2 := Lib.hid ub2
  replace uw := Lib.hid uw
  clear M1 M2 K1 K3 K4 M1b M1f M2b M2f z1 z2 z3 z4 Ka Ma Kb hTk P1 bb1 bf1 bn1 lo1 hi1 bb2 bf2 bn2 lo2 hi2 M2'
  go_loopw [13, 14] (fun s i wr => Inv1 w A B l w4.heap.size s i wr) (fun _ i _ => (l.length - intOf i).toNat)
  case atStart => exact ⟨0, rfl, Nat.zero_le _, ⟨_, P1'.out⟩, ⟨_, P2.out⟩, ⟨rfl, Or.inl ⟨rfl, rfl⟩⟩, Nat.le_refl _, Kc.out⟩
  case round =>
    clear P1' P2 Kc
    obtain ⟨k, rfl, hk, ⟨c1, P1⟩, P2, O, hb, K⟩ := hrel
    replace P1 := Lib.hid P1
    replace P2 := Lib.hid P2
    replace O := Lib.hid O
    replace K := Lib.hid K
    by_cases hlt : k < l.length
    · have hne : l ≠ [] := by intro e; rw [e] at hlt; simp at hlt
      obtain ⟨gg, og, rfl, cs⟩ := hcells.out hne
      obtain ⟨o, ho⟩ : ∃ o, l.getD k (0, 0) = o := ⟨_, rfl⟩
      have ho' : l[k]? = some o := by rw [← ho, List.getD_eq_getElem?_getD, List.getElem?_eq_getElem hlt]; rfl
      have r0 := K.out.some (cs k o ho' 0 _ rfl) (fun x => x)
      have r1 := K.out.some (cs k o ho' 1 _ rfl) (fun x => x)
      have fo := Lib.hid (hf.out o (List.mem_of_getElem? ho'))
      have t4 : decide (k < l.length) = true := by simpa using hlt
      have r0 : wr.cell? ⟨gg, og + k * 2, none⟩ = some (.int .i64 o.1) := r0
      have r1 : wr.cell? ⟨gg, og + k * 2 + 1, none⟩ = some (.int .i64 o.2) := r1
      replace ho := Lib.hid ho
      replace ho' := Lib.hid ho'
      clear cs
      go_wp2_with fail
      refine Calls.mono (answer_ok (tab_keep hT.out K.out) G1.out (stF_ok G1.out l k) P1.out (by omega) o fo.out) ?_
      rintro r w5 ⟨rfl, P1n, K5⟩
      have e1 : stF A l (k + 1) = ansF A (stF A l k) o := by rw [← ho.out]; rfl
      have e2 : stE A l k = ansE A (stF A l k) o := by rw [← ho.out]; rfl
      rw [← e1] at P1n
      have P2n : Pool w5 B (fun _ => 0) 0 := let ⟨c, h⟩ := P2.out; ⟨c, h.keep G2.out K5 ap1.out.b ap1.out.o⟩
      have On := own_keep O.out K5 ob1.out
      have Kn := S1.out.keep K.out K5
      have z5 := K5.size
      replace P1n := Lib.hid P1n
      replace P2n := Lib.hid P2n
      replace On := Lib.hid On
      replace Kn := Lib.hid Kn
      replace e1 := Lib.hid e1
      replace e2 := Lib.hid e2
      clear P1 P2 O K r0 r1
      go_wp2_with (at_builtin; refine wpList_append_own _ rfl (.tmp 74) (.tmp 81) 48 rfl w4.heap.size 3 i0 (.int .i64 0) 1 8 Tryd.underlying48 hi.out hz0.out hz1.out hz2.out rfl (by decide) u13 k _ rfl (own_next On.out ((Keep.refl _ _).alloc _)) ⟨w5.heap.size, 0, none⟩ 1 1 [.int .i64 (ansE A (stF A l k) o)] rfl rfl ?c1 ?c2 ?c3 ?c4 ?c5 ?_)
      case c1 => intro j u hu; rw [Addr.add_mid, Nat.zero_add]; exact new_at _ _ _ j u hu
      case c2 => simp [Value.oneCell']
      case c3 => unfold maxLen; omega
      case c4 => omega
      case c5 => rw [World.size_alloc]; omega
      intro v' w6 hown hgrow _
      have K6 := keep_of_own (own_next On.out ((Keep.refl _ _).alloc _)) hgrow
      have K7 := (((Keep.refl nob w5).alloc _).nob (S := since w4.heap.size)).trans K6 (fun _ _ x => x)
      have z7 := K7.size
      have P1m : Pool w6 A (stF A l (k + 1)) (k + 1) := let ⟨c, h⟩ := P1n.out; ⟨c, h.keep G1.out K7 (Nat.not_le.2 ub1.out.1) (fun x hx => Nat.not_le.2 (ub1.out.2 x hx))⟩
      have P2m : Pool w6 B (fun _ => 0) 0 := let ⟨c, h⟩ := P2n.out; ⟨c, h.keep G2.out K7 (Nat.not_le.2 ub2.out.1) (fun x hx => Nat.not_le.2 (ub2.out.2 x hx))⟩
      have Km := Kn.out.trans K7 (fun q hq e => Nat.not_le.2 hq (Nat.le_trans uw.out e))
      rw [← e2.out] at hown
      replace P1m := Lib.hid P1m
      replace P2m := Lib.hid P2m
      replace hown := Lib.hid hown
      replace Km := Lib.hid Km
      clear P1n P2n On Kn K5 K6 K7 hgrow
      go_wp2_with fail
      go_roundw
      case rel => exact ⟨k + 1, by go_num, by omega, P1m.out, P2m.out, by rw [seenL_succ]; exact hown.out, by omega, Km.out⟩
      case measure => simp [intOf]; omega
    · have t4 : decide (k < l.length) = false := by simpa using hlt
      obtain rfl : k = l.length := by omega
      obtain ⟨c2, P2⟩ := P2.out
      have C := Lib.hid (left_in G2.out P2 0 (by rw [ll2.out]; simp))
      rw [left_all (by omega) in2.out] at C
      replace P2 := Lib.hid P2
      clear hlt
      go_wp2_with fail
      refine Calls.mono (C.out) ?_
      rintro r w5 ⟨rfl, rfl⟩
      go_wp2_with fail
      clear C
      go_loopw [15] (fun i wr => Inv2 w A B l w4.heap.size u13 i wr) (fun i _ => (l.length - intOf i).toNat)
      case atStart => exact ⟨0, rfl, Nat.zero_le _, ⟨_, P1.out⟩, ⟨_, P2.out⟩, O.out, K.out⟩
      case round =>
        clear P1 P2 O K
        obtain ⟨k, rfl, hk, P1, ⟨c2, P2⟩, O, K⟩ := hrel
        replace P1 := Lib.hid P1
        replace P2 := Lib.hid P2
        replace O := Lib.hid O
        replace K := Lib.hid K
        by_cases hlt : k < l.length
        · have hne : l ≠ [] := by intro e; rw [e] at hlt; simp at hlt
          obtain ⟨gg, og, rfl, cs⟩ := hcells.out hne
          obtain ⟨o, ho⟩ : ∃ o, l.getD k (0, 0) = o := ⟨_, rfl⟩
          have ho' : l[k]? = some o := by rw [← ho, List.getD_eq_getElem?_getD, List.getElem?_eq_getElem hlt]; rfl
          have r0 := K.out.some (cs k o ho' 0 _ rfl) (fun x => x)
          have r1 := K.out.some (cs k o ho' 1 _ rfl) (fun x => x)
          have fo := Lib.hid (hf.out o (List.mem_of_getElem? ho'))
          have t4 : decide (k < l.length) = true := by simpa using hlt
          have r0 : wr.cell? ⟨gg, og + k * 2, none⟩ = some (.int .i64 o.1) := r0
          have r1 : wr.cell? ⟨gg, og + k * 2 + 1, none⟩ = some (.int .i64 o.2) := r1
          obtain ⟨gs, cps, rfl, hgs, hcs, hrow⟩ := own_cell O.out (by omega)
          have rs := (hrow k (.int .i64 (stE A l k)) (by unfold seenL; rw [List.getElem?_map, List.getElem?_range hlt]; rfl)).1
          have ngs := ob2.out gs hgs
          have gw : gg < w.heap.size := World.block_lt_of_cell? _ _ (cs k o ho' 0 _ rfl)
          have ngg : ¬ own B gg := fun h => by have s1 := S2.out.mf; have s2 := S2.out.lo; unfold own at h; omega
          have K0 : Keep nob wr wr.drew := (Keep.refl nob wr).drew
          have C := answer_ok (q := k) (tab_keep hT.out (K.out.then K0)) G2.out (stF_ok G2.out l k) (P2.out.next G2.out K0) (by omega) o fo.out
          have e1 : stF B l (k + 1) = ansF B (stF B l k) o := by rw [← ho]; rfl
          have e2 : stE A l k = ansE B (stF B l k) o := by rw [stE_norm, eN.out, ← stE_norm, ← ho]; rfl
          rw [← e1, ← e2] at C
          replace C := Lib.hid C
          clear e1 e2
          have ed : ∀ p, wr.drew.cell? p = wr.cell? p := fun p => rfl
          replace ho := Lib.hid ho
          replace ho' := Lib.hid ho'
          replace ngs := Lib.hid ngs
          replace ngg := Lib.hid ngg
          replace gw := Lib.hid gw
          replace K0 := Lib.hid K0
          replace ed := Lib.hid ed
          clear cs hrow
          go_wp2_with fail
          go_region_held3 (fun w' => w'.cell? ⟨gg, og + k * 2, none⟩ = some (.int .i64 o.1) ∧ w'.cell? ⟨gg, og + k * 2 + 1, none⟩ = some (.int .i64 o.2) ∧ w'.cell? ⟨gs, k, none⟩ = some (.int .i64 (stE A l k))) (first | go_keep | exact ⟨y0, y1, y2⟩) (first | (go_at_call 25; refine Calls.mono C.out ?_; rintro r w5 ⟨rfl, P2n, K5⟩; have y0 := K5.some ((ed.out _).trans r0) ngg.out; have y1 := K5.some ((ed.out _).trans r1) ngg.out; have y2 := K5.some ((ed.out _).trans rs) ngs.out; replace P2n := Lib.hid P2n; replace K5 := Lib.hid K5))
          go_wp2_with fail
          have P1n : Pool w5 A (stF A l l.length) l.length := let ⟨c, h⟩ := P1.out; ⟨c, (h.next G1.out K0.out).keep G1.out K5.out ap2.out.b ap2.out.o⟩
          have On := own_keep (own_next O.out K0.out) K5.out ob2.out
          have Kn := S2.out.keep (K.out.then K0.out) K5.out
          replace P1n := Lib.hid P1n
          replace On := Lib.hid On
          replace Kn := Lib.hid Kn
          clear P1 P2 O K r0 r1 rs y0 y1 y2 K5
          go_wp2_with fail
          go_roundw
          case rel => exact ⟨k + 1, by go_num, by omega, P1n.out, P2n.out, On.out, Kn.out⟩
          case measure => simp [intOf]; omega
        · have t4 : decide (k < l.length) = false := by simpa using hlt
          obtain rfl : k = l.length := by omega
          obtain ⟨c1, P1⟩ := P1.out
          have C1 := left_in G1.out P1 0 (by rw [ll1.out]; simp)
          have C2 := left_in G2.out P2.out 0 (by rw [ll2.out]; simp)
          have e : leftN B (stF B l l.length) 0 = leftN A (stF A l l.length) 0 := by
            rw [leftN_norm B, leftN_norm A, stF_norm B, stF_norm A, eN.out]
          rw [e] at C2
          replace C1 := Lib.hid C1
          replace C2 := Lib.hid C2
          clear hlt P1 e
          go_wp2_with fail
          refine Calls.mono (C1.out) ?_
          rintro r w5 ⟨rfl, rfl⟩
          go_wp2_with fail
          refine Calls.mono (C2.out) ?_
          rintro r w5 ⟨rfl, rfl⟩
          go_wp2_with fail
          refine Calls.mono (awake09 _ (tab_keep hT.out K.out)) ?_
          rintro r w6 ⟨rfl, K6⟩
          go_wp2_with fail
          go_ret
          exact ⟨rfl, K.out.then K6⟩
theorem walk_else (n : Int) (a : Option Addr) (len cap : Nat) (h : ¬ (1 ≤ n ∧ n ≤ 30 ∧ len ≤ 100)) (w : World) (hT : TabAt 0 Lib.deBruijn64tab w) :
    Calls Tryd.prog 7 #[.int .i64 n, .slice a len cap] w fun e w' => e = .returned (.bool true) ∧ Keep nob w w' := by
  have T : (decide (n < 1) || decide (30 < n) || decide ((100 : Int) < len)) = true := by simp; omega
  rcases Bool.eq_false_or_eq_true (decide (n < 1)) with t1 | t1 <;> rcases Bool.eq_false_or_eq_true (decide (30 < n)) with t2 | t2 <;> rcases Bool.eq_false_or_eq_true (decide ((100 : Int) < len)) with t3 | t3 <;> simp only [t1, t2, t3] at T <;> first | (exact absurd T (by decide)) | skip
  all_goals
    clear T h
    go_enter Tryd.func7, Tryd.ntmps7
    go_wp2_with fail
    refine Calls.mono (awake09 _ hT) ?_
    rintro r w5 ⟨rfl, K6⟩
    go_wp2_with fail
    go_ret
    exact ⟨rfl, K6⟩
theorem walk (n : Int) (v : Value) (l : List (Int × Int)) (w : World) (w0 : (Lit.int .i64 n).wf = true) (w1 : PairsAt w v l ∧ ∀ o ∈ l, pairFine o) (hT : TabAt 0 Lib.deBruijn64tab w) :
    Calls Tryd.prog 7 #[.int .i64 n, v] w fun e w' => e = .returned (.bool true) ∧ Keep nob w w' := by
  by_cases h : 1 ≤ n ∧ n ≤ 30 ∧ l.length ≤ 100
  · obtain ⟨N, rfl⟩ : ∃ m : Nat, n = m := ⟨n.toNat, by omega⟩
    exact walk_in N (by omega) (by omega) v l h.2.2 w w1.1 w1.2 hT
  · obtain ⟨⟨a, cap, rfl, hm, hcap, hc⟩, hf⟩ := w1
    exact walk_else n a _ cap h w hT
set_option maxRecDepth 100000 in
theorem lifted (os : Os) (started : os.Started) (H : Type) (enc : TypeId × Value → H) :
    ReturnsInHanded {} Tryd.checked os 7 .any (fun w args => (Rows.pallocTwoSpec.pre enc Tryd.prog Tryd.f7 [] false w args ∧ laidMetH Tryd.prog Laid.list w) ∧ sizedMet enc Tryd.prog Tryd.f7 (OpenSpec.ofChange Rows.pallocTwoSpec) false w args) (Rows.pallocTwoSpec.post enc Tryd.prog Tryd.f7 false true false false) := by
  refine returnsInHanded_of_change_and (C := Tryd.checked) (X := fun w _ => laidMetH Tryd.prog Laid.list w) (fun _ _ _ hh h => h.of_heap hh) Head.own started (by kernel_rfl) Tryd.func7
    (ChangeSpec.witness_shaped (enc := enc) (C := Tryd.checked) (os := os) (X := fun w _ => laidMetH Tryd.prog Laid.list w) false (World.doorLaid Tryd.prog Laid.steps os) #[.int .i64 0, .slice none 0 0] 8 rfl (World.shaped_of_RefB (by kernel_rfl) (by kernel_rfl)) (by kernel_rfl) (by kernel_rfl) (by kernel_rfl) (Laid.met os _)) ?_
  intro W base args ds gs before hval0 hW _ _ hL _
  have hval : ∀ (j : Nat) t v, Tryd.f7.params[j]? = some t → args[j]? = some v → Value.okWide Tryd.prog W .any base t v := hval0
  have hW' := hW
  obtain ⟨p, q, hA0, hV, rfl, hfz, hnd⟩ := hW
  have hA : DataW.TrodAll enc Tryd.prog W 0 (fun _ => true) true Tryd.f7.params.toList args.toList ds p := hA0
  rw [Tryd.params7] at hA hval
  obtain ⟨v0, vs0, d0, ds0, p0, q0, hargs, rfl, rfl, h0, r0⟩ := trodAll_cons hA
  obtain ⟨v1, vs1, d1, ds1, p1, q1, rfl, rfl, rfl, h1, r1⟩ := trodAll_cons r0
  obtain ⟨rfl, rfl, rfl⟩ := trodAll_nil r1
  obtain rfl : args = #[v0, v1] := by cases args; simp_all
  obtain ⟨rfl, rfl⟩ := trodVars_none hV
  have k0 := h0
  have lt0 : ∀ x ∈ p0, x.block < W.heap.size := by obtain ⟨m, hm⟩ := k0; exact DataW.trod_lt m _ _ _ hm
  obtain ⟨a0, rfl, rfl, rfl, w0⟩ := open_int Tryd.underlying3 (hval 0 3 v0 rfl rfl) h0
  have k1 := h1
  have lt1 : ∀ x ∈ p1, x.block < W.heap.size := by obtain ⟨m, hm⟩ := k1; exact DataW.trod_lt m _ _ _ hm
  obtain ⟨a1, w1⟩ := open_ops9 (hval 1 44 v1 rfl rfl) h1
  clear hA0 hval0
  refine (walk a0 v1 a1 W w0 w1 (Laid.tab hL)).mono fun e W' ⟨he, kp⟩ => ?_
  subst he
  have bel := kp.below
  exact ⟨_, rfl, _, _, _, [], _, [], hW', trodAll_mk1 (shut_bool Tryd.underlying4 _), (trodAll_cons_mk (shut_int Tryd.underlying3 w0) (trodAll_cons_mk (Below.trod Head.laidOut (by kernel_rfl) (of_decide_eq_true (by kernel_rfl)) k1 bel lt1) trodAll_mk0)), rfl, bel.frame _, fun h => by cases h⟩
theorem closed : joinedFacts Tryd.prog 7 Tryd.f7 Rows.pallocTwoSpec Rows.pallocTwoRow = true := by
  unfold joinedFacts
  rw [Head.mayEnter, Head.liftsFinal, Head.make]
  kernel_rfl
theorem over : Rows.pallocTwoRow.holds Tryd.pinned (OpenSpec.ofChange Rows.pallocTwoSpec) :=
  OpenClaim.holds_of_wide 7 Tryd.f7 rfl rfl rfl rfl rfl rfl rfl ⟨rfl, rfl, rfl, rfl, rfl⟩ rfl rfl rfl rfl rfl (by kernel_rfl) Tryd.func7 closed
    (of_decide_eq_true (by kernel_rfl)) (by unfold Func.isWrapper; first | (rw [if_pos (by decide +kernel)]; kernel_rfl) | (rw [if_neg (by decide +kernel)]; exact ⟨rfl, rfl⟩))
    (fun os started H enc _ => lifted os started H enc)
theorem row : Rows.PallocTwoSaid := over
theorem proved : Rows.PallocTwoCardSaid :=
  Claim7.holds_tied_plain_at .later [] [.data] true (true, "6f766e467f1f76f857c29113ad61a388d69ae06b2677fa7c12f1fa228f819649") false
    row (fun _ h => by cases h) (by kernel_rfl) (fun _ h => by cases h) pallocTwo_row_tie rfl ⟨rfl, rfl⟩ (by kernel_rfl) rfl
    (fun f fn hf hfn => by
      obtain rfl : f = 7 := Option.some.inj ((show Tryd.prog.funcNamed "priory/priorylaw09.PallocTwo" = some 7 by kernel_rfl).symm.trans hf) |>.symm
      obtain rfl : fn = Tryd.f7 := (Option.some.inj (Tryd.func7.symm.trans hfn)).symm
      exact ⟨by kernel_rfl, fun j t ht => by
        have hall : (Tryd.f7.params.toList.all fun u => !Tryd.prog.wantsStandIn u) = true := by kernel_rfl
        have hm : t ∈ Tryd.f7.params.toList := Array.mem_toList_iff.2 (Array.mem_of_getElem? ht)
        exact (show Tryd.prog.wantsStandIn t = false by simpa using List.all_eq_true.1 hall t hm)⟩)
    (by kernel_rfl)
end Go.Proofs.YtepmljcapobodaaDoor.pallocTwo
