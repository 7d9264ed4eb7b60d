/- What is mapped and unmapped again, in whatever order, leaves a space as it was, and all frames free but its root. Condition: none beyond the statement's own. -/
import Derived.Test.YtepmljcapobodaaDoorPtBack
import Derived.Test.YtepmljcapobodaaDoorFlat
import Derived.StillTailTactics
import Derived.Test.YtepmljcapobodaaDoorHead
import Derived.Test.YtepmljcapobodaaDoorLaid
import Derived.Test.YtepmljcapobodaaDoorCards
import Derived.Test.YtepmljcapobodaaDoorTie
namespace Go.Proofs.YtepmljcapobodaaDoor.ptableBack
open Go.ChangeShapes Go.WideShapes Go.ChangeAt Go.RowKit
set_option linter.unusedVariables false
set_option maxRecDepth 100000
theorem infoInt : (Tryd.prog.info? 3).map (fun i => (i.zero, i.size, i.bytes)) = some (some (.int .i64 0), 1, 8) := by kernel_rfl
/-! ### The pages -/
def intCells (x : Int) : List Value := [.int .i64 x]
theorem int_has (cs : List Value) (h : HasAll [.i .i64] cs) : ∃ o, wfI o ∧ cs = intCells o := by
  obtain ⟨a, r1, e1, ⟨x, x1, hx⟩, h1⟩ := HasAll.cons h
  have e3 := HasAll.nil h1
  rw [e1, e3, x1]
  exact ⟨x, wfI_of hx, rfl⟩
section
variable {H : Type} {enc : TypeId × Value → H} {w : World} {spare : Nat → Bool} {held : Bool}
theorem open_ints {v : Value} {d : DataW H} {p : List MemPlace} {r : Reach} {b0 base : Nat}
    (hv : Value.okWide Tryd.prog w r b0 48 v) (h : DataW.Trod enc Tryd.prog w base spare held 48 v d p) : ∃ l : List Int, RowsAt 1 intCells w v l ∧ ∀ o ∈ l, wfI o :=
  open_flat intCells wfI Tryd.underlying48 (by kernel_rfl) (by decide) (flat_int Tryd.underlying3) int_has hv h
end
/-! ### other -/
section
variable {A : MB} {B : PB}
theorem keepT {a b c : World} (h : Keep (ownT A B) a b) (k : Keep (ownT A B) b c) : Keep (ownT A B) a c := h.trans k (fun _ _ x => x)
theorem other_ok {w : World} {many left q : Nat} {M : Nat → Nat → Ent} {g : Int → Int} (hT : TabAt 0 Lib.deBruijn64tab w) (D : PtG A B) (S : PtSt w A B many M g left q) (hb : ∀ r, bare M r) (hl : left ≠ 0) (hq : q < 100000) (hm : many ≤ 1000) :
    Calls Tryd.prog 40 #[.pointer (some ⟨A.t, 0, none⟩)] w fun r w' => r = .returned (.bool true) ∧ Keep (ownT A B) w w' := by
  have C := st_open hT D S (by omega)
  replace D := Lib.hid D
  replace S := Lib.hid S
  replace hb := Lib.hid hb
  replace hl := Lib.hid hl
  replace hT := Lib.hid hT
  replace C := Lib.hid C
  go_enter Tryd.func40, Tryd.ntmps40
  go_wp2_with fail
  refine Calls.mono C.out ?_
  rintro r w2 ⟨⟨l0, -⟩ | ⟨n, nm, g0, -, rfl, S2⟩, K2⟩
  · exact absurd l0 hl.out
  have wn : wfI (n : Int) := by unfold wfI; omega
  have C2 := st_close D.out S2 (by omega) n wn
  replace S2 := Lib.hid S2
  replace K2 := Lib.hid K2
  replace wn := Lib.hid wn
  replace C2 := Lib.hid C2
  clear C
  go_wp2_with fail
  refine Calls.mono C2.out ?_
  rintro r w3 ⟨⟨h, -⟩ | ⟨-, h, -⟩ | ⟨-, -, rfl, S3⟩, K3⟩
  · rw [updI_at] at h; cases h
  · exact absurd (hb.out _) h
  have C3 := st_close D.out S3 (by omega) n wn.out
  have Ka := keepT K2.out K3
  replace S3 := Lib.hid S3
  replace K3 := Lib.hid K3
  replace C3 := Lib.hid C3
  replace Ka := Lib.hid Ka
  clear C2
  go_wp2_with fail
  refine Calls.mono C3.out ?_
  rintro r w4 ⟨⟨h, rfl, S4⟩ | ⟨h, -⟩ | ⟨h, -⟩, K4⟩
  rotate_left
  · exact absurd (updI_at _ _ _) h
  · exact absurd (updI_at _ _ _) h
  have C4 := st_tables D.out S4 n wn.out
  rw [if_pos h] at C4
  have Kb := keepT Ka.out K4
  replace S4 := Lib.hid S4
  replace K4 := Lib.hid K4
  replace C4 := Lib.hid C4
  replace Kb := Lib.hid Kb
  replace h := Lib.hid h
  clear C3
  go_wp2_with fail
  refine Calls.mono C4.out ?_
  rintro r w5 ⟨rfl, K5⟩
  replace K5 := Lib.hid K5
  go_wp2_with fail
  go_ret
  exact ⟨rfl, Kb.out.then K5.out⟩
end
theorem maps_len {base : Nat} {w : World} {v : Value} {l : List (Nat × Ent)} (h : MapsAt base w v l) : ∃ a cap, v = .slice a l.length cap := by
  rcases h.1.2 with ⟨h1, h2⟩ | ⟨g, cap, cur, hv, _⟩
  · exact ⟨none, 0, by rw [h1, h2]⟩
  · exact ⟨_, cap, hv⟩
theorem row_form {base e size n : Nat} {w : World} {v : Value} {xs : List Value} (h : w.ownsRow base e size v n xs) : ∃ a cap, v = .slice a n cap := by
  rcases h.2 with ⟨h1, h2⟩ | ⟨g, cap, cur, hv, _⟩
  · exact ⟨none, 0, by rw [h1, h2]⟩
  · exact ⟨_, cap, hv⟩
def pgs (dn : List Nat) : List Value := dn.map fun (p : Nat) => .int .i64 (p : Int)
def Inv1 (W : World) (A : MB) (B : PB) (n : Nat) (e : Ent) (g : Int → Int) (base len : Nat) (s i : Value) (wr : World) : Prop :=
  ∃ k dn M left, i = .int .i64 (k : Nat) ∧ k ≤ len ∧ BkI n e M dn left 59 ∧ dn.length ≤ k ∧ PtSt wr A B 60 M g left (k + 1) ∧ wr.ownsRow base 3 1 s dn.length (pgs dn) ∧ base ≤ wr.heap.size ∧ Keep nob W wr
def Inv2 (W : World) (A : MB) (B : PB) (n : Nat) (e : Ent) (g : Int → Int) (base len m : Nat) (s : Value) (od dn : List Nat) (i : Value) (wr : World) : Prop :=
  ∃ k M left, i = .int .i64 (k : Nat) ∧ k ≤ m ∧ BkI n e M (od.drop k) left 59 ∧ PtSt wr A B 60 M g left (len + 1 + k) ∧ wr.ownsRow base 3 1 s m (pgs dn) ∧ Keep nob W wr
set_option maxHeartbeats 3200000 in
theorem walk_in (v : Value) (l : List Int) (hl : l.length ≤ 40) (e : Ent) (turn : Bool) (w : World) (L : RowsAt 1 intCells w v l) (hf : ∀ o ∈ l, wfI o) (hT : TabAt 0 Lib.deBruijn64tab w) :
    Calls Tryd.prog 11 #[v, e.val, .bool turn] w fun r w' => r = .returned (.bool true) ∧ Keep nob w w' := by
  obtain ⟨a, cap, rfl, hm, hcap, hcells⟩ := L
  obtain ⟨p, v, cc, fr⟩ := e
  obtain ⟨W, hW⟩ : ∃ W, W = w.alloc (.cells #[.bool p, .bool v, .bool cc, .int .i64 fr] 69) := ⟨_, rfl⟩
  have KW : Keep nob w W := by rw [hW]; exact (Keep.refl _ _).alloc _
  have E := EntAt.new w p v cc fr 69
  rw [← hW] at E
  have C := made10 W 60 (by decide) (by decide)
  rw [show ((60 : Nat) : Int) = 60 from rfl] at C
  have t3 : decide ((40 : Int) < l.length) = false := by simp; omega
  obtain ⟨i0, hi, hz0, hz1, hz2⟩ := info_parts infoInt
  have hcells' : l ≠ [] → ∃ g o, a = some ⟨g, o, none⟩ ∧ g < w.heap.size ∧ ∀ (k : Nat) (c : Int), l[k]? = some c → W.cell? ⟨g, o + k, none⟩ = some (.int .i64 c) := by
    intro h
    obtain ⟨g, o, h1, h2⟩ := hcells h
    refine ⟨g, o, h1, ?_, fun k c hc => ?_⟩
    · obtain ⟨x, r, hx⟩ := List.exists_cons_of_ne_nil h
      exact World.block_lt_of_cell? _ _ (h2 0 x (by rw [hx]; rfl) 0 _ rfl)
    · have := KW.some (h2 k c hc 0 _ rfl) (fun x => x)
      rwa [show o + (k * 1 + 0) = o + k by omega] at this
  clear hcells
  unfold Ent.val
  dsimp only
  replace hT := Lib.hid hT
  replace C := Lib.hid C
  replace KW := Lib.hid KW
  replace E := Lib.hid E
  replace hW := Lib.hid hW
  replace hf := Lib.hid hf
  replace hcells' := Lib.hid hcells'
  replace hi := Lib.hid hi
  replace hz0 := Lib.hid hz0
  replace hz1 := Lib.hid hz1
  replace hz2 := Lib.hid hz2
  go_enter Tryd.func11, Tryd.ntmps11
  go_wp2_with fail
  rw [← hW.out]
  refine Calls.mono C.out ?_
  rintro r w1 ⟨A, B, rfl, D, hn, hll, S, Si, K⟩
  have hn' : B.n = 62 := hn
  replace D := Lib.hid D
  replace hn := Lib.hid hn
  replace hll := Lib.hid hll
  replace S := Lib.hid S
  replace Si := Lib.hid Si
  replace K := Lib.hid K
  replace hn' := Lib.hid hn'
  go_wp2_with fail
  refine Calls.mono (st_open (tab_keep hT.out (KW.out.then K.out)) D.out S.out (by omega)) ?_
  rintro r w2 ⟨⟨l0, -⟩ | ⟨n, nm, g0, -, rfl, S2⟩, K2⟩
  · cases l0
  have Ka := Si.out.keep K.out K2
  have wn : wfI (n : Int) := by unfold wfI; omega
  have nO : ∀ q, q < W.heap.size → ¬ ownT A B q := by
    intro q hq h
    have h1 := Si.out.s.mf
    have h2 := Si.out.s.lo
    have h3 := Si.out.rt
    rcases h with (h | h) | h
    · omega
    · omega
    · omega
  have bW := E.out.lt
  have bl := S2.below
  have nT := bl.no
  have gn : updI (fun _ => (0 : Int)) n 1 n ≠ 0 := by rw [updI_at]; decide
  obtain ⟨g, hg⟩ : ∃ g, updI (fun _ => (0 : Int)) n 1 = g := ⟨_, rfl⟩
  rw [hg] at S2 gn
  have zW := Ka.size
  replace S2 := Lib.hid S2
  replace K2 := Lib.hid K2
  replace Ka := Lib.hid Ka
  replace g0 := Lib.hid g0
  replace wn := Lib.hid wn
  replace nO := Lib.hid nO
  replace bW := Lib.hid bW
  replace nT := Lib.hid nT
  replace gn := Lib.hid gn
  replace hg := Lib.hid hg
  replace zW := Lib.hid zW
  replace bl := Lib.hid bl
  go_wp2_with fail
  go_loopw [13, 14] (fun s i wr => Inv1 W A B n ⟨p, v, cc, fr⟩ g w2.heap.size l.length s i wr) (fun _ i _ => (l.length - intOf i).toNat)
  case atStart => exact ⟨0, [], M0, 59, rfl, Nat.zero_le _, BkI.start _ _ _, Nat.le_refl _, S2.out, ⟨rfl, Or.inl ⟨rfl, rfl⟩⟩, Nat.le_refl _, Ka.out⟩
  case round =>
    clear S2 Ka
    obtain ⟨k, dn, M, left, rfl, hk, I, hd, S3, O, hb, K3⟩ := hrel
    replace I := Lib.hid I
    replace S3 := Lib.hid S3
    replace O := Lib.hid O
    replace K3 := Lib.hid K3
    replace hd := Lib.hid hd
    by_cases hlt : k < l.length
    · have hne : l ≠ [] := by intro e; rw [e] at hlt; simp at hlt
      obtain ⟨gg, og, rfl, gw, cs⟩ := hcells'.out hne
      obtain ⟨o, ho⟩ : ∃ o, l[k] = o := ⟨_, rfl⟩
      have ho' : l[k]? = some o := by rw [← ho, List.getElem?_eq_getElem hlt]
      have r0 := K3.out.some (cs k o ho') (fun x => x)
      have fo := Lib.hid (hf.out o (List.mem_of_getElem? ho'))
      have t4 : decide (k < l.length) = true := by simpa using hlt
      have K0 : Keep nob wr wr.drew := (Keep.refl nob wr).drew
      have E3 := E.out.next (K3.out.then K0)
      have CM := st_map (tab_keep hT.out (KW.out.then (K3.out.then K0))) D.out (S3.out.next D.out K0) (by omega) n o wn.out ⟨p, v, cc, fr⟩
      rw [hn'.out] at CM
      have J := I.out.map 62 gn.out o
      have r1 : wr.drew.cell? ⟨gg, og + k, none⟩ = some (.int .i64 o) := r0
      obtain ⟨an, han⟩ : ∃ an, mapA 62 M g left n o ⟨p, v, cc, fr⟩ = an := ⟨_, rfl⟩
      obtain ⟨M', hM'⟩ : ∃ M', mapM 62 M g left n o ⟨p, v, cc, fr⟩ = M' := ⟨_, rfl⟩
      obtain ⟨left', hl'⟩ : ∃ left', mapL 62 M g left n o ⟨p, v, cc, fr⟩ = left' := ⟨_, rfl⟩
      rw [han, hM', hl'] at J CM
      clear han hM' hl'
      unfold Ent.val at CM
      dsimp only at CM
      obtain ⟨d0, d1, d2, d3, -, -, -, -⟩ := id E3
      replace ho := Lib.hid ho
      replace ho' := Lib.hid ho'
      replace E3 := Lib.hid E3
      replace CM := Lib.hid CM
      replace K0 := Lib.hid K0
      replace gw := Lib.hid gw
      replace J := Lib.hid J
      clear cs
      go_wp2_with fail
      go_still_tail 7, (by kernel_rfl)
      change wpList _ _ _ _ _ wr.drew
      go_wp2_with fail
      refine Calls.mono CM.out ?_
      rintro r w5 ⟨rfl, S5, K5⟩
      have gT : ¬ ownT A B gg := nO.out _ (Nat.lt_of_lt_of_le gw.out KW.out.size)
      have r2 := K5.some r1 gT
      have On := own_keep (own_next O.out K0.out) K5 nT.out
      have Kn := Si.out.keep (K3.out.then K0.out) K5
      have z5 := K5.size
      have z6 := K0.out.size
      replace S5 := Lib.hid S5
      replace K5 := Lib.hid K5
      replace gT := Lib.hid gT
      replace On := Lib.hid On
      replace Kn := Lib.hid Kn
      replace z5 := Lib.hid z5
      replace z6 := Lib.hid z6
      rcases J.out with ⟨rfl, pg, hpg, J1⟩ | ⟨ane, J1⟩
      · replace J1 := Lib.hid J1
        subst hpg
        clear r0 r1 d0 d1 d2 d3 J S3 O K3 I E3
        go_wp2_with (at_builtin; refine wpList_append_own _ rfl (.tmp 53) (.tmp 58) 48 rfl w2.heap.size 3 i0 (.int .i64 0) 1 8 Tryd.underlying48 hi.out hz0.out hz1.out hz2.out rfl (by decide) u13 dn.length _ rfl (own_next On.out ((Keep.refl _ _).alloc _)) ⟨w5.heap.size, 0, none⟩ 1 1 [.int .i64 (pg : Int)] rfl rfl ?c1 ?c2 ?c3 ?c4 ?c5 ?_)
        case c1 => intro j u hu; rw [Addr.add_mid, Nat.zero_add]; exact new_at _ _ _ j u hu
        case c2 => simp [Value.oneCell']
        case c3 => have := hd.out; unfold maxLen; omega
        case c4 => have := hd.out; omega
        case c5 => have := z5.out; have := z6.out; rw [World.size_alloc]; omega
        intro v' w6 hown hgrow _
        have K6 := keep_of_own (own_next On.out ((Keep.refl _ _).alloc _)) hgrow
        have K7 := (((Keep.refl nob w5).alloc _).nob (S := since w2.heap.size)).trans K6 (fun _ _ x => x)
        have z7 := K7.size
        have zz : W.heap.size ≤ w2.heap.size := zW.out
        have S7 := S5.out.since D.out bl.out K7
        have Km := Kn.out.own_into K7 zz
        have z8 : w2.heap.size ≤ w6.heap.size := by have := z5.out; have := z6.out; omega
        have hown' : w6.ownsRow w2.heap.size 3 1 v' (dn ++ [pg]).length (pgs (dn ++ [pg])) := by
          unfold pgs
          rw [List.map_append, List.length_append]
          exact hown
        replace S7 := Lib.hid S7
        replace Km := Lib.hid Km
        replace hown' := Lib.hid hown'
        replace z8 := Lib.hid z8
        clear S5 On Kn K5 K6 K7 hgrow hown r2 CM
        go_wp2_with fail
        go_roundw
        case rel => exact ⟨k + 1, dn ++ [pg], M', left', by go_num, by omega, J1.out, by have := hd.out; rw [List.length_append, List.length_singleton]; omega, S7.out, hown'.out, z8.out, Km.out⟩
        case measure => simp [intOf]; omega
      · have t5 : (an == 0) = false := by simpa using ane
        have J1 := Lib.hid J1
        clear ane
        go_wp2_with fail
        go_roundw
        case rel => exact ⟨k + 1, dn, M', left', by go_num, by omega, J1.out, by have := hd.out; omega, S5.out, On.out, by have := z5.out; have := z6.out; omega, Kn.out⟩
        case measure => simp [intOf]; omega
    · have t4 : decide (k < l.length) = false := by simpa using hlt
      have CA := st_all D.out S3.out n wn.out
      have I0 := I.out.len gn.out
      have CL := fun W' (k : Keep nob wr W') => st_left D.out (S3.out.next D.out k)
      have CT := fun W' (k : Keep nob wr W') => st_tables D.out (S3.out.next D.out k) n wn.out
      rw [if_neg gn.out, Int.toNat_natCast] at CT
      have J0 := I.out.l
      obtain ⟨ct, hct⟩ : ∃ ct, cnt (live M n) 32 = ct := ⟨_, rfl⟩
      rw [hct] at CT J0
      obtain ⟨tt, htt⟩ : ∃ tt : Int, ((1 + ct : Nat) : Int) = tt := ⟨_, rfl⟩
      rw [htt] at CT
      have b1 : 0 ≤ tt := by omega
      have b2 : tt ≤ 60 := by omega
      have t6 : ((left : Int) != 60 - tt) = false := by simp; omega
      replace CA := Lib.hid CA
      replace CL := Lib.hid CL
      replace CT := Lib.hid CT
      replace J0 := Lib.hid J0
      replace hct := Lib.hid hct
      replace I0 := Lib.hid I0
      replace htt := Lib.hid htt
      obtain ⟨ad, cd, rfl⟩ := row_form O.out
      have hd40 : dn.length ≤ 40 := by have := hd.out; omega
      clear hlt
      go_wp2_with fail
      refine Calls.mono CA.out ?_
      rintro r w5 ⟨va, rfl, MA, K5⟩
      obtain ⟨aa, ca, rfl⟩ := maps_len MA
      rw [I0.out]
      replace MA := Lib.hid MA
      replace K5 := Lib.hid K5
      go_wp2_with fail
      refine Calls.mono (CL.out _ K5.out) ?_
      rintro r w6 ⟨rfl, rfl⟩
      go_wp2_with fail
      refine Calls.mono (CT.out _ K5.out) ?_
      rintro r w6 ⟨rfl, K6⟩
      replace K6 := Lib.hid K6
      have S6 := S3.out.next D.out (K5.out.then K6.out)
      have O6 := own_next O.out (K5.out.then K6.out)
      have K7 := K3.out.then (K5.out.then K6.out)
      obtain ⟨od, hod⟩ : ∃ od : List Nat, od = if turn then dn.reverse else dn := ⟨_, rfl⟩
      have oI : BkI n ⟨p, v, cc, fr⟩ M od left 59 := by
        rw [hod]
        cases turn with
        | false => exact I.out
        | true => exact I.out.same (List.pairwise_reverse.2 (I.out.d.imp (fun h => Ne.symm h))) (fun p => List.mem_reverse)
      have ol : od.length = dn.length := by rw [hod]; cases turn <;> simp
      replace S6 := Lib.hid S6
      replace O6 := Lib.hid O6
      replace K7 := Lib.hid K7
      replace oI := Lib.hid oI
      replace ol := Lib.hid ol
      replace hod := Lib.hid hod
      clear S3 O K3 I CA CL CT K5 K6 MA I0 J0 hct
      go_wp2_with fail
      go_loopw [15] (fun i wr => Inv2 W A B n ⟨p, v, cc, fr⟩ g w2.heap.size k dn.length (.slice ad dn.length cd) od dn i wr) (fun i _ => (dn.length - intOf i).toNat)
      case atStart => exact ⟨0, M, left, rfl, Nat.zero_le _, oI.out, S6.out, O6.out, K7.out⟩
      case round =>
        clear S6 O6 K7 oI
        obtain ⟨j, M, left, rfl, hj, I, S3, O, K3⟩ := hrel
        replace I := Lib.hid I
        replace S3 := Lib.hid S3
        replace O := Lib.hid O
        replace K3 := Lib.hid K3
        by_cases hlt : j < dn.length
        · have hlo : j < od.length := by rw [ol.out]; exact hlt
          obtain ⟨pg, hpg⟩ : ∃ pg, od[j] = pg := ⟨_, rfl⟩
          have hdr : od.drop j = pg :: od.drop (j + 1) := by rw [List.drop_eq_getElem_cons hlo, hpg]
          have I1 := I.out
          rw [hdr] at I1
          obtain ⟨e1, e2, I2⟩ := I1.unmap (g := g) gn.out
          have t5 : decide (j < dn.length) = true := by simpa using hlt
          obtain ⟨gs, cps, hsl, hgs, hcs, hrow⟩ := own_cell O.out (by omega)
          cases turn with
          | false =>
            have eo : od = dn := hod.out
            have r0 : wr.cell? ⟨gs, j, none⟩ = some (.int .i64 (pg : Int)) := (hrow j _ (by unfold pgs; rw [List.getElem?_map, ← eo, List.getElem?_eq_getElem hlo, hpg]; rfl)).1
            injection hsl with q1 q2 q3
            subst q1; subst q3
            have CU := st_unmap D.out S3.out (by omega) n pg wn.out
            rw [e1, e2] at CU
            obtain ⟨M', hM'⟩ : ∃ M', unmM M g n pg = M' := ⟨_, rfl⟩
            obtain ⟨left', hl'⟩ : ∃ left', unmL M g left n pg = left' := ⟨_, rfl⟩
            rw [hM', hl'] at CU I2
            clear e1 e2 hM' hl' I1
            unfold Ent.val at CU
            dsimp only at CU
            replace CU := Lib.hid CU
            replace I2 := Lib.hid I2
            replace hdr := Lib.hid hdr
            replace hpg := Lib.hid hpg
            replace eo := Lib.hid eo
            clear hrow
            go_wp2_with fail
            refine Calls.mono CU.out ?_
            rintro r w7 ⟨rfl, S7, K7⟩
            have Kn : Keep nob w7 (w7.alloc (.cells #[.bool p, .bool v, .bool cc, .int .i64 fr] 69)) := (Keep.refl _ _).alloc _
            have E7 := (E.out.next K3.out).keep K7 (nO.out _ bW.out)
            have UA := fun o => E7.next ((Keep.refl nob w7).alloc o)
            have d0 := fun o => (UA o).c0
            have d1 := fun o => (UA o).c1
            have d2 := fun o => (UA o).c2
            have d3 := fun o => (UA o).c3
            obtain ⟨y0, y1, y2, y3, -, -, -, -⟩ := EntAt.new w7 p v cc fr 69
            have S8 := S7.next D.out Kn
            have O8 := own_next (own_keep O.out K7 nT.out) Kn
            have K8 := (Si.out.keep K3.out K7).then Kn
            replace Kn := Lib.hid Kn
            replace E7 := Lib.hid E7
            replace UA := Lib.hid UA
            replace S8 := Lib.hid S8
            replace O8 := Lib.hid O8
            replace K8 := Lib.hid K8
            replace S7 := Lib.hid S7
            replace K7 := Lib.hid K7
            clear r0 S3 O K3 I
            go_wp2_with fail
            go_roundw
            case rel => exact ⟨j + 1, M', left', by go_num, by omega, I2.out, S8.out, O8.out, K8.out⟩
            case measure => simp [intOf]; omega
          | true =>
            have eo : od = dn.reverse := hod.out
            have x0 : 0 ≤ (dn.length : Int) - 1 - j := by omega
            have x1 : (dn.length : Int) - 1 - j < dn.length := by omega
            have x2 : 0 ≤ (dn.length : Int) - 1 := by omega
            have xe : ((dn.length : Int) - 1 - j).toNat = dn.length - 1 - j := by omega
            have r0 : wr.cell? ⟨gs, ((dn.length : Int) - 1 - j).toNat, none⟩ = some (.int .i64 (pg : Int)) := (hrow _ _ (by
              have h2 : dn.length - 1 - j < dn.length := by omega
              have : od[j]? = dn[dn.length - 1 - j]? := by rw [eo, List.getElem?_reverse (by omega)]
              unfold pgs
              rw [xe, List.getElem?_map, ← this, List.getElem?_eq_getElem hlo, hpg]; rfl)).1
            have r1 : wr.cell? ⟨gs, dn.length - 1 - j, none⟩ = some (.int .i64 (pg : Int)) := by rw [← xe]; exact r0
            injection hsl with q1 q2 q3
            subst q1; subst q3
            have CU := st_unmap D.out S3.out (by omega) n pg wn.out
            rw [e1, e2] at CU
            obtain ⟨M', hM'⟩ : ∃ M', unmM M g n pg = M' := ⟨_, rfl⟩
            obtain ⟨left', hl'⟩ : ∃ left', unmL M g left n pg = left' := ⟨_, rfl⟩
            rw [hM', hl'] at CU I2
            clear e1 e2 hM' hl' I1
            unfold Ent.val at CU
            dsimp only at CU
            replace CU := Lib.hid CU
            replace I2 := Lib.hid I2
            replace hdr := Lib.hid hdr
            replace hpg := Lib.hid hpg
            replace eo := Lib.hid eo
            replace xe := Lib.hid xe
            clear hrow
            go_wp2_with fail
            refine Calls.mono CU.out ?_
            rintro r w7 ⟨rfl, S7, K7⟩
            have Kn : Keep nob w7 (w7.alloc (.cells #[.bool p, .bool v, .bool cc, .int .i64 fr] 69)) := (Keep.refl _ _).alloc _
            have E7 := (E.out.next K3.out).keep K7 (nO.out _ bW.out)
            have UA := fun o => E7.next ((Keep.refl nob w7).alloc o)
            have d0 := fun o => (UA o).c0
            have d1 := fun o => (UA o).c1
            have d2 := fun o => (UA o).c2
            have d3 := fun o => (UA o).c3
            obtain ⟨y0, y1, y2, y3, -, -, -, -⟩ := EntAt.new w7 p v cc fr 69
            have S8 := S7.next D.out Kn
            have O8 := own_next (own_keep O.out K7 nT.out) Kn
            have K8 := (Si.out.keep K3.out K7).then Kn
            replace Kn := Lib.hid Kn
            replace E7 := Lib.hid E7
            replace UA := Lib.hid UA
            replace S8 := Lib.hid S8
            replace O8 := Lib.hid O8
            replace K8 := Lib.hid K8
            replace S7 := Lib.hid S7
            replace K7 := Lib.hid K7
            clear r0 S3 O K3 I
            go_wp2_with fail
            go_roundw
            case rel => exact ⟨j + 1, M', left', by go_num, by omega, I2.out, S8.out, O8.out, K8.out⟩
            case measure => simp [intOf]; omega
        · have t5 : decide (j < dn.length) = false := by simpa using hlt
          have hj' : j = dn.length := by omega
          have I1 := I.out
          rw [List.drop_of_length_le (by rw [ol.out]; omega)] at I1
          have hl59 := I1.l
          rw [I1.done] at hl59
          have lz : left = 59 := by omega
          have IL := I1.len (g := g) gn.out
          have CA := st_all D.out S3.out n wn.out
          rw [List.length_eq_zero_iff.1 IL] at CA
          have CT := fun W' (k : Keep nob wr W') => st_tables D.out (S3.out.next D.out k) n wn.out
          rw [if_neg gn.out, Int.toNat_natCast, I1.done, show ((1 + 0 : Nat) : Int) = 1 from rfl] at CT
          have CL := fun W' (k : Keep nob wr W') => st_left D.out (S3.out.next D.out k)
          have CC := fun W' (k : Keep nob wr W') => st_close D.out (S3.out.next D.out k) (by omega) n wn.out
          rw [lz, show ((59 : Nat) : Int) = 59 from rfl] at CL
          have bare := I1.bare
          replace CA := Lib.hid CA
          replace CT := Lib.hid CT
          replace CL := Lib.hid CL
          replace CC := Lib.hid CC
          replace bare := Lib.hid bare
          replace I1 := Lib.hid I1
          replace IL := Lib.hid IL
          replace hl59 := Lib.hid hl59
          clear hlt
          go_wp2_with fail
          refine Calls.mono CA.out ?_
          rintro r w7 ⟨va, rfl, MA, K7⟩
          obtain rfl := MA.2.2 rfl
          replace MA := Lib.hid MA
          replace K7 := Lib.hid K7
          go_wp2_with fail
          refine Calls.mono (CT.out _ K7.out) ?_
          rintro r w8 ⟨rfl, K8⟩
          have Ka := K7.out.then K8
          replace Ka := Lib.hid Ka
          replace K8 := Lib.hid K8
          go_wp2_with fail
          refine Calls.mono (CL.out _ Ka.out) ?_
          rintro r w9 ⟨rfl, rfl⟩
          go_wp2_with fail
          refine Calls.mono (CC.out _ Ka.out) ?_
          rintro r w9 ⟨⟨h, -⟩ | ⟨-, h, -⟩ | ⟨-, -, rfl, S9⟩, K9⟩
          · exact absurd h gn.out
          · exact absurd (bare.out _) h
          have Kb := Si.out.keep (K3.out.then Ka.out) K9
          have CL2 := st_left D.out S9
          rw [lz, show ((59 + 1 : Nat) : Int) = 60 from rfl] at CL2
          have CO := other_ok (tab_keep hT.out (KW.out.then Kb)) D.out S9 bare.out (by omega) (by omega) (by decide)
          replace S9 := Lib.hid S9
          replace K9 := Lib.hid K9
          replace Kb := Lib.hid Kb
          replace CL2 := Lib.hid CL2
          replace CO := Lib.hid CO
          go_wp2_with fail
          refine Calls.mono CL2.out ?_
          rintro r w10 ⟨rfl, rfl⟩
          go_wp2_with fail
          refine Calls.mono CO.out ?_
          rintro r w10 ⟨rfl, K10⟩
          have Kc := KW.out.then (Si.out.keep Kb.out K10)
          have AW := awake10 w10 (tab_keep hT.out Kc)
          replace K10 := Lib.hid K10
          replace Kc := Lib.hid Kc
          replace AW := Lib.hid AW
          go_wp2_with fail
          refine Calls.mono AW.out ?_
          rintro r w11 ⟨rfl, K11⟩
          replace K11 := Lib.hid K11
          go_wp2_with fail
          go_ret
          exact ⟨rfl, Kc.out.then K11.out⟩
theorem walk_else (a : Option Addr) (len cap : Nat) (hl : ¬ len ≤ 40) (e : Ent) (turn : Bool) (w : World) (hT : TabAt 0 Lib.deBruijn64tab w) :
    Calls Tryd.prog 11 #[.slice a len cap, e.val, .bool turn] w fun r w' => r = .returned (.bool true) ∧ Keep nob w w' := by
  obtain ⟨p, v, cc, fr⟩ := e
  have KW : Keep nob w (w.alloc (.cells #[.bool p, .bool v, .bool cc, .int .i64 fr] 69)) := (Keep.refl _ _).alloc _
  have AW := awake10 _ (tab_keep hT KW)
  have t0 : decide ((40 : Int) < len) = true := by simp; omega
  unfold Ent.val
  dsimp only
  replace KW := Lib.hid KW
  replace AW := Lib.hid AW
  replace hT := Lib.hid hT
  go_enter Tryd.func11, Tryd.ntmps11
  go_wp2_with fail
  refine Calls.mono AW.out ?_
  rintro r w5 ⟨rfl, K6⟩
  replace K6 := Lib.hid K6
  go_wp2_with fail
  go_ret
  exact ⟨rfl, KW.out.then K6.out⟩
theorem walk (v : Value) (l : List Int) (v1 : Value) (e : Ent) (turn : Bool) (w : World) (w0 : RowsAt 1 intCells w v l ∧ ∀ o ∈ l, wfI o) (w1 : EntIs v1 e) (hT : TabAt 0 Lib.deBruijn64tab w) :
    Calls Tryd.prog 11 #[v, v1, .bool turn] w fun r w' => r = .returned (.bool true) ∧ Keep nob w w' := by
  obtain ⟨rfl, -⟩ := w1
  by_cases h : l.length ≤ 40
  · exact walk_in v l h e turn w w0.1 w0.2 hT
  · obtain ⟨⟨a, cap, rfl, hm, hcap, hc⟩, hf⟩ := w0
    exact walk_else a _ cap h e turn w hT
set_option maxRecDepth 100000 in
theorem lifted (os : Os) (started : os.Started) (H : Type) (enc : TypeId × Value → H) :
    ReturnsInHanded {} Tryd.checked os 11 .any (fun w args => (Rows.ptableBackSpec.pre enc Tryd.prog Tryd.f11 [] false w args ∧ laidMetH Tryd.prog Laid.list w) ∧ sizedMet enc Tryd.prog Tryd.f11 (OpenSpec.ofChange Rows.ptableBackSpec) false w args) (Rows.ptableBackSpec.post enc Tryd.prog Tryd.f11 false true false false) := by
  refine returnsInHanded_of_change_and (C := Tryd.checked) (X := fun w _ => laidMetH Tryd.prog Laid.list w) (fun _ _ _ hh h => h.of_heap hh) Head.own started (by kernel_rfl) Tryd.func11
    (ChangeSpec.witness_shaped (enc := enc) (C := Tryd.checked) (os := os) (X := fun w _ => laidMetH Tryd.prog Laid.list w) false (World.doorLaid Tryd.prog Laid.steps os) #[.slice none 0 0, .agg #[.bool false,.bool false,.bool false,.int .i64 0], .bool false] 8 rfl (World.shaped_of_RefB (by kernel_rfl) (by kernel_rfl)) (by kernel_rfl) (by kernel_rfl) (by kernel_rfl) (Laid.met os _)) ?_
  intro W base args ds gs before hval0 hW _ _ hL _
  have hval : ∀ (j : Nat) t v, Tryd.f11.params[j]? = some t → args[j]? = some v → Value.okWide Tryd.prog W .any base t v := hval0
  have hW' := hW
  obtain ⟨p, q, hA0, hV, rfl, hfz, hnd⟩ := hW
  have hA : DataW.TrodAll enc Tryd.prog W 0 (fun _ => true) true Tryd.f11.params.toList args.toList ds p := hA0
  rw [Tryd.params11] at hA hval
  obtain ⟨v0, vs0, d0, ds0, p0, q0, hargs, rfl, rfl, h0, r0⟩ := trodAll_cons hA
  obtain ⟨v1, vs1, d1, ds1, p1, q1, rfl, rfl, rfl, h1, r1⟩ := trodAll_cons r0
  obtain ⟨v2, vs2, d2, ds2, p2, q2, rfl, rfl, rfl, h2, r2⟩ := trodAll_cons r1
  obtain ⟨rfl, rfl, rfl⟩ := trodAll_nil r2
  obtain rfl : args = #[v0, v1, v2] := by cases args; simp_all
  obtain ⟨rfl, rfl⟩ := trodVars_none hV
  have k0 := h0
  have lt0 : ∀ x ∈ p0, x.block < W.heap.size := by obtain ⟨m, hm⟩ := k0; exact DataW.trod_lt m _ _ _ hm
  obtain ⟨a0, w0⟩ := open_ints (hval 0 48 v0 rfl rfl) h0
  have k1 := h1
  have lt1 : ∀ x ∈ p1, x.block < W.heap.size := by obtain ⟨m, hm⟩ := k1; exact DataW.trod_lt m _ _ _ hm
  obtain ⟨a1, w1⟩ := open_ent (hval 1 69 v1 rfl rfl) h1
  obtain ⟨a2, rfl, rfl, rfl⟩ := open_bool Tryd.underlying4 (hval 2 4 v2 rfl rfl) h2
  clear hA0 hval0
  refine (walk v0 a0 v1 a1 a2 W w0 w1 (Laid.tab hL)).mono fun e W' ⟨he, kp⟩ => ?_
  subst he
  have bel := kp.below
  exact ⟨_, rfl, _, _, _, [], _, [], hW', trodAll_mk1 (shut_bool Tryd.underlying4 _), (trodAll_cons_mk (Below.trod Head.laidOut (by kernel_rfl) (of_decide_eq_true (by kernel_rfl)) k0 bel lt0) (trodAll_cons_mk (Below.trod Head.laidOut (by kernel_rfl) (of_decide_eq_true (by kernel_rfl)) k1 bel lt1) (trodAll_cons_mk (shut_bool Tryd.underlying4 a2) trodAll_mk0))), rfl, bel.frame _, fun h => by cases h⟩
theorem closed : joinedFacts Tryd.prog 11 Tryd.f11 Rows.ptableBackSpec Rows.ptableBackRow = true := by
  unfold joinedFacts
  rw [Head.mayEnter, Head.liftsFinal, Head.make]
  kernel_rfl
theorem over : Rows.ptableBackRow.holds Tryd.pinned (OpenSpec.ofChange Rows.ptableBackSpec) :=
  OpenClaim.holds_of_wide 11 Tryd.f11 rfl rfl rfl rfl rfl rfl rfl ⟨rfl, rfl, rfl, rfl, rfl⟩ rfl rfl rfl rfl rfl (by kernel_rfl) Tryd.func11 closed
    (of_decide_eq_true (by kernel_rfl)) (by unfold Func.isWrapper; first | (rw [if_pos (by decide +kernel)]; kernel_rfl) | (rw [if_neg (by decide +kernel)]; exact ⟨rfl, rfl⟩))
    (fun os started H enc _ => lifted os started H enc)
theorem row : Rows.PtableBackSaid := over
theorem proved : Rows.PtableBackCardSaid :=
  Claim7.holds_tied_plain_at .later [] [.data] true (true, "6f766e467f1f76f857c29113ad61a388d69ae06b2677fa7c12f1fa228f819649") false
    row (fun _ h => by cases h) (by kernel_rfl) (fun _ h => by cases h) ptableBack_row_tie rfl ⟨rfl, rfl⟩ (by kernel_rfl) rfl
    (fun f fn hf hfn => by
      obtain rfl : f = 11 := Option.some.inj ((show Tryd.prog.funcNamed "priory/priorylaw10.PtableBack" = some 11 by kernel_rfl).symm.trans hf) |>.symm
      obtain rfl : fn = Tryd.f11 := (Option.some.inj (Tryd.func11.symm.trans hfn)).symm
      exact ⟨by kernel_rfl, fun j t ht => by
        have hall : (Tryd.f11.params.toList.all fun u => !Tryd.prog.wantsStandIn u) = true := by kernel_rfl
        have hm : t ∈ Tryd.f11.params.toList := Array.mem_toList_iff.2 (Array.mem_of_getElem? ht)
        exact (show Tryd.prog.wantsStandIn t = false by simpa using List.all_eq_true.1 hall t hm)⟩)
    (by kernel_rfl)
end Go.Proofs.YtepmljcapobodaaDoor.ptableBack
