/- A page for which there is no frame for a table is not mapped, and nothing changes; with one frame more it is. Condition: none beyond the statement's own. -/
import Derived.Test.YtepmljcapobodaaDoorPtAwake
import Derived.Test.YtepmljcapobodaaDoorHead
import Derived.Test.YtepmljcapobodaaDoorLaid
import Derived.Test.YtepmljcapobodaaDoorCards
import Derived.Test.YtepmljcapobodaaDoorTie
namespace Go.Proofs.YtepmljcapobodaaDoor.ptableFull
open Go.ChangeShapes Go.WideShapes Go.ChangeAt Go.RowKit
set_option linter.unusedVariables false
set_option maxRecDepth 100000
theorem map_no {n left : Nat} {M : Nat → Nat → Ent} {g : Int → Int} {root page : Int} {e : Ent} (h : fitB n e = false) : mapA n M g left root page e = 2 := by
  have a : askE g root page (fitB n e) = 2 := by unfold askE; rw [h]; exact if_neg (fun q => by cases q.2.2)
  unfold mapA
  rw [a]
  rfl
theorem walk_no (page other : Nat) (h0 : page < 1024) (h1 : other < 1024) (h2 : page / 32 ≠ other / 32) (e : Ent) (hf : fitB 5 e = false) (w : World) (hT : TabAt 0 Lib.deBruijn64tab w) :
    Calls Tryd.prog 10 #[.int .i64 page, .int .i64 other, e.val] w fun r w' => r = .returned (.bool true) ∧ Keep nob w w' := by
  obtain ⟨p, v, cc, fr⟩ := e
  obtain ⟨W, hW⟩ : ∃ W, W = w.alloc (.cells #[.bool p, .bool v, .bool cc, .int .i64 fr] 69) := ⟨_, rfl⟩
  have KW : Keep nob w W := by rw [hW]; exact (Keep.refl _ _).alloc _
  have E := EntAt.new w p v cc fr 69
  rw [← hW] at E
  have C := made10 W 3 (by decide) (by decide)
  rw [show ((3 : Nat) : Int) = 3 from rfl] at C
  have t1 : decide ((page : Int) < 0) = false := by simp
  have t2 : decide (1024 ≤ (page : Int)) = false := by simp; omega
  have t3 : decide ((other : Int) < 0) = false := by simp
  have t4 : decide (1024 ≤ (other : Int)) = false := by simp; omega
  have t5 : (((page : Int) / 32) == ((other : Int) / 32)) = false := by simp; omega
  have b0 : (0 : Int) ≤ page := by omega
  have b1 : (page : Int) < 1024 := by omega
  have b2 : (0 : Int) ≤ other := by omega
  have b3 : (other : Int) < 1024 := by omega
  unfold Ent.val
  dsimp only
  replace hT := Lib.hid hT
  replace C := Lib.hid C
  replace KW := Lib.hid KW
  replace E := Lib.hid E
  replace hW := Lib.hid hW
  replace h0 := Lib.hid h0
  replace h1 := Lib.hid h1
  replace h2 := Lib.hid h2
  replace hf := Lib.hid hf
  go_enter Tryd.func10, Tryd.ntmps10
  go_wp2_with fail
  rw [← hW.out]
  refine Calls.mono C.out ?_
  rintro r w1 ⟨A, B, rfl, D, hn, hl, S, Si, K⟩
  replace D := Lib.hid D
  replace hn := Lib.hid hn
  replace hl := Lib.hid hl
  replace S := Lib.hid S
  replace Si := Lib.hid Si
  replace K := Lib.hid K
  go_wp2_with fail
  refine Calls.mono (st_open (tab_keep hT.out (KW.out.then K.out)) D.out S.out (by omega)) ?_
  rintro r w2 ⟨⟨l0, -⟩ | ⟨n, nm, g0, -, rfl, S2⟩, K2⟩
  · cases l0
  have Ka := Si.out.keep K.out K2
  have E2 := E.out.next Ka
  have wn : wfI (n : Int) := by unfold wfI; omega
  have nO : ∀ q, q < W.heap.size → ¬ ownT A B q := by
    intro q hq h
    have h1 := Si.out.s.mf
    have h2 := Si.out.s.lo
    have h3 := Si.out.rt
    rcases h with (h | h) | h
    · omega
    · omega
    · omega
  have bW := E.out.lt
  have CM := st_map (tab_keep hT.out (KW.out.then Ka)) D.out S2 (by omega) n page wn ⟨p, v, cc, fr⟩
  unfold mapM mapL at CM
  rw [hn.out, map_no hf.out, if_neg (by decide), if_neg (fun h => absurd h.1 (by decide))] at CM
  unfold Ent.val at CM
  dsimp only at CM
  obtain ⟨d0, d1, d2, d3, -, -, -, -⟩ := id E2
  replace S2 := Lib.hid S2
  replace K2 := Lib.hid K2
  replace Ka := Lib.hid Ka
  replace E2 := Lib.hid E2
  replace g0 := Lib.hid g0
  replace wn := Lib.hid wn
  replace nO := Lib.hid nO
  replace bW := Lib.hid bW
  replace CM := Lib.hid CM
  go_wp2_with fail
  refine Calls.mono CM.out ?_
  rintro r w3 ⟨rfl, S3, K3⟩
  have Kb := Si.out.keep Ka.out K3
  have E3 := E2.out.keep K3 (nO.out _ bW.out)
  clear d0 d1 d2 d3
  replace S3 := Lib.hid S3
  replace K3 := Lib.hid K3
  replace Kb := Lib.hid Kb
  replace E3 := Lib.hid E3
  go_wp2_with fail
  refine Calls.mono (st_open (tab_keep hT.out (KW.out.then Kb.out)) D.out S3.out (by omega)) ?_
  rintro r w4 ⟨⟨l0, -⟩ | ⟨m, mm, g1, -, rfl, S4⟩, K4⟩
  · cases l0
  have Kc := Si.out.keep Kb.out K4
  have E4 := E3.out.keep K4 (nO.out _ bW.out)
  have CN := st_map (tab_keep hT.out (KW.out.then Kc)) D.out S4 (by omega) n other wn.out ⟨p, v, cc, fr⟩
  unfold mapM mapL at CN
  rw [hn.out, map_no hf.out, if_neg (by decide), if_neg (fun h => absurd h.1 (by decide))] at CN
  unfold Ent.val at CN
  dsimp only at CN
  obtain ⟨d0, d1, d2, d3, -, -, -, -⟩ := id E4
  replace S4 := Lib.hid S4
  replace K4 := Lib.hid K4
  replace Kc := Lib.hid Kc
  replace E4 := Lib.hid E4
  replace CN := Lib.hid CN
  replace g1 := Lib.hid g1
  go_wp2_with fail
  refine Calls.mono CN.out ?_
  rintro r w5 ⟨rfl, S5, K5⟩
  have Kd := Si.out.keep Kc.out K5
  have CL := st_left D.out S5
  clear d0 d1 d2 d3
  rw [show ((3 - 1 - 1 : Nat) : Int) = 1 from rfl] at CL
  have AW := awake10 w5 (tab_keep hT.out (KW.out.then Kd))
  replace S5 := Lib.hid S5
  replace K5 := Lib.hid K5
  replace Kd := Lib.hid Kd
  replace CL := Lib.hid CL
  replace AW := Lib.hid AW
  go_wp2_with fail
  refine Calls.mono (CL.out) ?_
  rintro r w6 ⟨rfl, rfl⟩
  go_wp2_with fail
  refine Calls.mono AW.out ?_
  rintro r w7 ⟨rfl, K7⟩
  replace K7 := Lib.hid K7
  go_wp2_with fail
  go_ret
  exact ⟨rfl, (KW.out.then Kd.out).then K7.out⟩
theorem maps_one {base : Nat} {w : World} {v : Value} {l : List (Nat × Ent)} (h : MapsAt base w v l) (h1 : l.length = 1) : ∃ g cap, v = .slice (some ⟨g, 0, none⟩) 1 cap := by
  have h0 := h.1
  rw [h1] at h0
  rcases h0.2 with ⟨_, h0⟩ | ⟨g, cap, cur, hv, _⟩
  · omega
  · exact ⟨g, cap, hv⟩
theorem cnt_one (a n : Nat) (h : a < n) : cnt (fun j => decide (j = a)) n = 1 := by
  have z : ∀ n, cnt (fun _ => false) n = 0 := by intro n; induction n with | zero => rfl | succ n ih => rw [cnt, ih]; rfl
  have := cnt_turn (P := fun j => decide (j = a)) (Q := fun _ => false) (j := a) (by simp) rfl (fun k hk => by simp [hk]) n h
  rw [z] at this
  exact this.symm
theorem cnt_two (a b n : Nat) (ha : a < n) (hb : b < n) (h : a ≠ b) : cnt (fun j => decide (j = a ∨ j = b)) n = 2 := by
  have := cnt_turn (P := fun j => decide (j = a ∨ j = b)) (Q := fun j => decide (j = a)) (j := b) (by simp) (by simpa using Ne.symm h) (fun k hk => by simp [hk]) n hb
  rw [cnt_one a n ha] at this
  exact this.symm
section
variable {page other n m : Nat} {e : Ent}
theorem ask_at {g : Int → Int} {n p : Nat} {e : Ent} (hg : g n ≠ 0) (hp : p < 1024) (he : fitB 5 e = true) : askE g n p (fitB 5 e) = 0 := by
  unfold askE
  rw [if_pos ⟨by omega, by omega, he⟩, if_neg hg]
theorem map_yes {M : Nat → Nat → Ent} {g : Int → Int} {left n p : Nat} {e : Ent} (hg : g n ≠ 0) (hp : p < 1024) (he : fitB 5 e = true) (hM : (M n p).p = false) (hl : live M n (p / 32) = false) : mapA 5 M g left n p e = if left = 0 then 3 else 0 := by
  unfold mapA
  rw [if_pos (ask_at hg hp he), Int.toNat_natCast, Int.toNat_natCast, hM, hl]
  simp
theorem live1 (he : e.p = true) (i : Nat) : live (updM M0 n page e) n i = decide (i = page / 32) := by
  by_cases h : i = page / 32
  · subst h; rw [live_put he]; simp
  · rw [live_upd (fun q => h q.2), live_not (fun j _ => rfl)]; simp [h]
theorem live2 (he : e.p = true) (i : Nat) : live (updM (updM M0 n page e) n other e) n i = decide (i = page / 32 ∨ i = other / 32) := by
  by_cases h : i = other / 32
  · subst h; rw [live_put he]; simp
  · rw [live_upd (fun q => h q.2), live1 he]; simp [h]
theorem len1 (he : e.p = true) (hp : page < 1024) : (presF (updM M0 n page e n) 1024).length = 1 := by
  rw [presF_len, ← cnt_one page 1024 hp]
  refine cnt_congr _ fun j _ => ?_
  by_cases h : j = page
  · subst h; rw [updM_at, he]; simp
  · rw [updM_ne (fun q => h q.2)]; simp [h]; rfl
end
theorem walk_yes (page other : Nat) (h0 : page < 1024) (h1 : other < 1024) (h2 : page / 32 ≠ other / 32) (e : Ent) (hf : fitB 5 e = true) (w : World) (hT : TabAt 0 Lib.deBruijn64tab w) :
    Calls Tryd.prog 10 #[.int .i64 page, .int .i64 other, e.val] w fun r w' => r = .returned (.bool true) ∧ Keep nob w w' := by
  have he : e.p = true := (fitB_ok hf).2
  have pf1 := fun (g : Int → Int) (n left : Nat) (hg : g n ≠ 0) => map_yes (M := M0) (left := left) hg h0 hf rfl (live_not (fun j _ => rfl))
  have ne : other ≠ page := fun q => h2 (by rw [q])
  have pf2 := fun (g : Int → Int) (n left : Nat) (hg : g n ≠ 0) => map_yes (M := updM M0 n page e) (left := left) hg h1 hf (by rw [updM_ne (fun q => ne q.2)]; rfl) (by rw [live1 he]; simpa using Ne.symm h2)
  have pt1 : ∀ n, cnt (live (updM M0 n page e) n) 32 = 1 := fun n => by rw [cnt_congr _ (fun i _ => live1 he i)]; exact cnt_one _ _ (by omega)
  have pt2 : ∀ n, cnt (live (updM (updM M0 n page e) n other e) n) 32 = 2 := fun n => by rw [cnt_congr _ (fun i _ => live2 he i)]; exact cnt_two _ _ _ (by omega) (by omega) h2
  have pl1 : ∀ n, (presF (updM M0 n page e n) 1024).length = 1 := fun n => len1 he h0
  have plo : ∀ n, live (updM M0 n page e) n (other / 32) = false := fun n => by rw [live1 he]; simpa using Ne.symm h2
  have pb : ∀ n m, m ≠ n → bare (updM M0 n page e) m := fun n m h i => by rw [live_upd (fun q => h q.1)]; exact live_not (fun j _ => rfl)
  obtain ⟨p, v, cc, fr⟩ := e
  obtain ⟨W, hW⟩ : ∃ W, W = w.alloc (.cells #[.bool p, .bool v, .bool cc, .int .i64 fr] 69) := ⟨_, rfl⟩
  have KW : Keep nob w W := by rw [hW]; exact (Keep.refl _ _).alloc _
  have E := EntAt.new w p v cc fr 69
  rw [← hW] at E
  have C := made10 W 3 (by decide) (by decide)
  rw [show ((3 : Nat) : Int) = 3 from rfl] at C
  have t1 : decide ((page : Int) < 0) = false := by simp
  have t2 : decide (1024 ≤ (page : Int)) = false := by simp; omega
  have t3 : decide ((other : Int) < 0) = false := by simp
  have t4 : decide (1024 ≤ (other : Int)) = false := by simp; omega
  have t5 : (((page : Int) / 32) == ((other : Int) / 32)) = false := by simp; omega
  have b0 : (0 : Int) ≤ page := by omega
  have b1 : (page : Int) < 1024 := by omega
  have b2 : (0 : Int) ≤ other := by omega
  have b3 : (other : Int) < 1024 := by omega
  unfold Ent.val
  dsimp only
  replace hT := Lib.hid hT
  replace C := Lib.hid C
  replace KW := Lib.hid KW
  replace E := Lib.hid E
  replace hW := Lib.hid hW
  replace h0 := Lib.hid h0
  replace h1 := Lib.hid h1
  replace h2 := Lib.hid h2
  replace hf := Lib.hid hf
  replace he := Lib.hid he
  replace pf1 := Lib.hid pf1
  replace pf2 := Lib.hid pf2
  replace pt1 := Lib.hid pt1
  replace pt2 := Lib.hid pt2
  replace pl1 := Lib.hid pl1
  replace pb := Lib.hid pb
  replace ne := Lib.hid ne
  replace plo := Lib.hid plo
  go_enter Tryd.func10, Tryd.ntmps10
  go_wp2_with fail
  rw [← hW.out]
  refine Calls.mono C.out ?_
  rintro r w1 ⟨A, B, rfl, D, hn, hl, S, Si, K⟩
  replace D := Lib.hid D
  replace hn := Lib.hid hn
  replace hl := Lib.hid hl
  replace S := Lib.hid S
  replace Si := Lib.hid Si
  replace K := Lib.hid K
  go_wp2_with fail
  refine Calls.mono (st_open (tab_keep hT.out (KW.out.then K.out)) D.out S.out (by omega)) ?_
  rintro r w2 ⟨⟨l0, -⟩ | ⟨n, nm, g0, -, rfl, S2⟩, K2⟩
  · cases l0
  have Ka := Si.out.keep K.out K2
  have E2 := E.out.next Ka
  have wn : wfI (n : Int) := by unfold wfI; omega
  have nO : ∀ q, q < W.heap.size → ¬ ownT A B q := by
    intro q hq h
    have h1 := Si.out.s.mf
    have h2 := Si.out.s.lo
    have h3 := Si.out.rt
    rcases h with (h | h) | h
    · omega
    · omega
    · omega
  have bW := E.out.lt
  have gn : updI (fun _ => (0 : Int)) n 1 n ≠ 0 := by rw [updI_at]; decide
  have CM := st_map (tab_keep hT.out (KW.out.then Ka)) D.out S2 (by omega) n page wn ⟨p, v, cc, fr⟩
  unfold mapM mapL at CM
  rw [hn.out, pf1.out _ n _ gn, if_neg (by decide), if_pos rfl, Int.toNat_natCast, Int.toNat_natCast, show live M0 n (page / 32) = false from live_not (fun j _ => rfl), if_pos ⟨rfl, rfl⟩] at CM
  obtain ⟨g1, hg1⟩ : ∃ g1, updI (fun _ => (0 : Int)) n 1 = g1 := ⟨_, rfl⟩
  obtain ⟨M1, hM1⟩ : ∃ M1, updM M0 n page ⟨p, v, cc, fr⟩ = M1 := ⟨_, rfl⟩
  have qf2 := fun (g : Int → Int) (left : Nat) (hg : g n ≠ 0) => pf2.out g n left hg
  have qt1 := pt1.out n
  have qt2 := pt2.out n
  have ql1 := pl1.out n
  have qb := fun m => pb.out n m
  have qlo := plo.out n
  rw [hM1] at CM qt1 qt2 ql1 qlo
  simp only [hM1] at qf2 qb
  rw [hg1] at CM gn
  unfold Ent.val at CM
  dsimp only at CM
  obtain ⟨d0, d1, d2, d3, -, -, -, -⟩ := id E2
  replace S2 := Lib.hid S2
  replace K2 := Lib.hid K2
  replace Ka := Lib.hid Ka
  replace E2 := Lib.hid E2
  replace g0 := Lib.hid g0
  replace wn := Lib.hid wn
  replace nO := Lib.hid nO
  replace bW := Lib.hid bW
  replace CM := Lib.hid CM
  replace gn := Lib.hid gn
  replace hg1 := Lib.hid hg1
  replace hM1 := Lib.hid hM1
  replace qf2 := Lib.hid qf2
  replace qt1 := Lib.hid qt1
  replace qt2 := Lib.hid qt2
  replace ql1 := Lib.hid ql1
  replace qb := Lib.hid qb
  replace qlo := Lib.hid qlo
  go_wp2_with fail
  refine Calls.mono CM.out ?_
  rintro r w3 ⟨rfl, S3, K3⟩
  have Kb := Si.out.keep Ka.out K3
  have E3 := E2.out.keep K3 (nO.out _ bW.out)
  clear d0 d1 d2 d3
  replace S3 := Lib.hid S3
  replace K3 := Lib.hid K3
  replace Kb := Lib.hid Kb
  replace E3 := Lib.hid E3
  go_wp2_with fail
  refine Calls.mono (st_open (tab_keep hT.out (KW.out.then Kb.out)) D.out S3.out (by omega)) ?_
  rintro r w4 ⟨⟨l0, -⟩ | ⟨m, mm, g1', -, rfl, S4⟩, K4⟩
  · cases l0
  have mn : m ≠ n := fun q => gn.out (by rw [← q]; exact g1')
  have wm : wfI (m : Int) := by unfold wfI; omega
  have Kc := Si.out.keep Kb.out K4
  have E4 := E3.out.keep K4 (nO.out _ bW.out)
  have gn2 : updI g1 m 1 n ≠ 0 := by rw [updI_ne (by omega)]; exact gn.out
  have CN := st_map (tab_keep hT.out (KW.out.then Kc)) D.out S4 (by omega) n other wn.out ⟨p, v, cc, fr⟩
  unfold mapM mapL at CN
  rw [hn.out, qf2.out _ _ gn2, if_pos (by decide), if_neg (by decide), if_neg (fun h => absurd h.1 (by decide))] at CN
  unfold Ent.val at CN
  dsimp only at CN
  obtain ⟨d0, d1, d2, d3, -, -, -, -⟩ := id E4
  replace S4 := Lib.hid S4
  replace K4 := Lib.hid K4
  replace Kc := Lib.hid Kc
  replace E4 := Lib.hid E4
  replace CN := Lib.hid CN
  replace g1' := Lib.hid g1'
  replace mn := Lib.hid mn
  replace wm := Lib.hid wm
  replace gn2 := Lib.hid gn2
  go_wp2_with fail
  refine Calls.mono CN.out ?_
  rintro r w5 ⟨rfl, S5, K5⟩
  have Kd := Si.out.keep Kc.out K5
  have E5 := E4.out.keep K5 (nO.out _ bW.out)
  have CA := st_all D.out S5 n wn.out
  unfold allA at CA
  rw [if_neg gn2.out, Int.toNat_natCast] at CA
  have CT := fun W' (k : Keep nob w5 W') => st_tables D.out (S5.next D.out k) n wn.out
  rw [if_neg gn2.out, Int.toNat_natCast, qt1.out, show ((1 + 1 : Nat) : Int) = 2 from rfl] at CT
  have CC := fun W' (k : Keep nob w5 W') => st_close D.out (S5.next D.out k) (by omega) m wm.out
  clear d0 d1 d2 d3
  replace S5 := Lib.hid S5
  replace K5 := Lib.hid K5
  replace Kd := Lib.hid Kd
  replace E5 := Lib.hid E5
  replace CA := Lib.hid CA
  replace CT := Lib.hid CT
  replace CC := Lib.hid CC
  go_wp2_with fail
  refine Calls.mono CA.out ?_
  rintro r w6 ⟨vv, rfl, MA, K6⟩
  obtain ⟨gg, cap, rfl⟩ := maps_one MA ql1.out
  replace MA := Lib.hid MA
  replace K6 := Lib.hid K6
  go_wp2_with fail
  refine Calls.mono (CT.out _ K6.out) ?_
  rintro r w7 ⟨rfl, K7⟩
  replace K7 := Lib.hid K7
  go_wp2_with fail
  refine Calls.mono (CC.out _ (K6.out.then K7.out)) ?_
  rintro r w8 ⟨⟨h, -⟩ | ⟨-, h, -⟩ | ⟨-, -, rfl, S8⟩, K8⟩
  · rw [updI_at] at h
    cases h
  · exact absurd (qb.out m mn.out) h
  have K67 := Kd.out.then (K6.out.then K7.out)
  have Ke := Si.out.keep K67 K8
  have E8 := (E5.out.next (K6.out.then K7.out)).keep K8 (nO.out _ bW.out)
  have gn3 : updI (updI g1 m 1) m 0 n ≠ 0 := by have := mn.out; rw [updI_ne (by omega)]; exact gn2.out
  have CN := st_map (tab_keep hT.out (KW.out.then Ke)) D.out S8 (by omega) n other wn.out ⟨p, v, cc, fr⟩
  unfold mapM mapL at CN
  rw [hn.out, qf2.out _ _ gn3, if_neg (by decide), if_pos rfl, Int.toNat_natCast, Int.toNat_natCast, qlo.out, if_pos ⟨rfl, rfl⟩] at CN
  unfold Ent.val at CN
  dsimp only at CN
  obtain ⟨d0, d1, d2, d3, -, -, -, -⟩ := id E8
  replace S8 := Lib.hid S8
  replace K8 := Lib.hid K8
  replace Ke := Lib.hid Ke
  replace E8 := Lib.hid E8
  replace CN := Lib.hid CN
  replace gn3 := Lib.hid gn3
  replace K67 := Lib.hid K67
  go_wp2_with fail
  refine Calls.mono CN.out ?_
  rintro r w9 ⟨rfl, S9, K9⟩
  have Kf := Si.out.keep Ke.out K9
  have CT3 := st_tables D.out S9 n wn.out
  rw [if_neg gn3.out, Int.toNat_natCast, qt2.out, show ((1 + 2 : Nat) : Int) = 3 from rfl] at CT3
  have CL := fun W' (k : Keep nob w9 W') => st_left D.out (S9.next D.out k)
  rw [show ((3 - 1 - 1 - 1 + 1 - 1 : Nat) : Int) = 0 from rfl] at CL
  clear d0 d1 d2 d3
  replace S9 := Lib.hid S9
  replace K9 := Lib.hid K9
  replace Kf := Lib.hid Kf
  replace CT3 := Lib.hid CT3
  replace CL := Lib.hid CL
  go_wp2_with fail
  refine Calls.mono CT3.out ?_
  rintro r w10 ⟨rfl, K10⟩
  replace K10 := Lib.hid K10
  go_wp2_with fail
  refine Calls.mono (CL.out _ K10.out) ?_
  rintro r w11 ⟨rfl, rfl⟩
  have Kg := KW.out.then (Kf.out.then K10.out)
  have AW := awake10 w10 (tab_keep hT.out Kg)
  replace Kg := Lib.hid Kg
  replace AW := Lib.hid AW
  go_wp2_with fail
  refine Calls.mono AW.out ?_
  rintro r w12 ⟨rfl, K12⟩
  replace K12 := Lib.hid K12
  go_wp2_with fail
  go_ret
  exact ⟨rfl, Kg.out.then K12.out⟩
theorem walk_else (page other : Int) (e : Ent) (h : ¬ (0 ≤ page ∧ page < 1024 ∧ 0 ≤ other ∧ other < 1024 ∧ page / 32 ≠ other / 32)) (w : World) (hT : TabAt 0 Lib.deBruijn64tab w) :
    Calls Tryd.prog 10 #[.int .i64 page, .int .i64 other, e.val] w fun r w' => r = .returned (.bool true) ∧ Keep nob w w' := by
  obtain ⟨p, v, cc, fr⟩ := e
  have KW : Keep nob w (w.alloc (.cells #[.bool p, .bool v, .bool cc, .int .i64 fr] 69)) := (Keep.refl _ _).alloc _
  have AW := awake10 _ (tab_keep hT KW)
  unfold Ent.val
  dsimp only
  replace KW := Lib.hid KW
  replace AW := Lib.hid AW
  replace hT := Lib.hid hT
  by_cases q0 : page < 0
  · have t0 : decide (page < 0) = true := by simpa using q0
    clear h
    go_enter Tryd.func10, Tryd.ntmps10
    go_wp2_with fail
    refine Calls.mono AW.out ?_
    rintro r w5 ⟨rfl, K6⟩
    replace K6 := Lib.hid K6
    go_wp2_with fail
    go_ret
    exact ⟨rfl, KW.out.then K6.out⟩
  have t0 : decide (page < 0) = false := by simpa using q0
  by_cases q1 : 1024 ≤ page
  · have t1 : decide (1024 ≤ page) = true := by simpa using q1
    clear h
    go_enter Tryd.func10, Tryd.ntmps10
    go_wp2_with fail
    refine Calls.mono AW.out ?_
    rintro r w5 ⟨rfl, K6⟩
    replace K6 := Lib.hid K6
    go_wp2_with fail
    go_ret
    exact ⟨rfl, KW.out.then K6.out⟩
  have t1 : decide (1024 ≤ page) = false := by simpa using q1
  by_cases q2 : other < 0
  · have t2 : decide (other < 0) = true := by simpa using q2
    clear h
    go_enter Tryd.func10, Tryd.ntmps10
    go_wp2_with fail
    refine Calls.mono AW.out ?_
    rintro r w5 ⟨rfl, K6⟩
    replace K6 := Lib.hid K6
    go_wp2_with fail
    go_ret
    exact ⟨rfl, KW.out.then K6.out⟩
  have t2 : decide (other < 0) = false := by simpa using q2
  by_cases q3 : 1024 ≤ other
  · have t3 : decide (1024 ≤ other) = true := by simpa using q3
    clear h
    go_enter Tryd.func10, Tryd.ntmps10
    go_wp2_with fail
    refine Calls.mono AW.out ?_
    rintro r w5 ⟨rfl, K6⟩
    replace K6 := Lib.hid K6
    go_wp2_with fail
    go_ret
    exact ⟨rfl, KW.out.then K6.out⟩
  have t3 : decide (1024 ≤ other) = false := by simpa using q3
  have t5 : ((page / 32) == (other / 32)) = true := by
    have : page / 32 = other / 32 := by
      by_cases z : page / 32 = other / 32
      · exact z
      · exact absurd ⟨by omega, by omega, by omega, by omega, z⟩ h
    simpa using this
  have b0 : 0 ≤ page := by omega
  have b1 : page < 1024 := by omega
  have b2 : 0 ≤ other := by omega
  have b3 : other < 1024 := by omega
  clear h
  go_enter Tryd.func10, Tryd.ntmps10
  go_wp2_with fail
  refine Calls.mono AW.out ?_
  rintro r w5 ⟨rfl, K6⟩
  replace K6 := Lib.hid K6
  go_wp2_with fail
  go_ret
  exact ⟨rfl, KW.out.then K6.out⟩
theorem walk (page other : Int) (v2 : Value) (e : Ent) (w : World) (w0 : (Lit.int .i64 page).wf = true) (w1 : (Lit.int .i64 other).wf = true) (w2 : EntIs v2 e) (hT : TabAt 0 Lib.deBruijn64tab w) :
    Calls Tryd.prog 10 #[.int .i64 page, .int .i64 other, v2] w fun r w' => r = .returned (.bool true) ∧ Keep nob w w' := by
  obtain ⟨rfl, -⟩ := w2
  by_cases h : 0 ≤ page ∧ page < 1024 ∧ 0 ≤ other ∧ other < 1024 ∧ page / 32 ≠ other / 32
  · obtain ⟨P, rfl⟩ : ∃ m : Nat, page = m := ⟨page.toNat, by omega⟩
    obtain ⟨O, rfl⟩ : ∃ m : Nat, other = m := ⟨other.toNat, by omega⟩
    by_cases hf : fitB 5 e = true
    · exact walk_yes P O (by omega) (by omega) (by omega) e hf w hT
    · exact walk_no P O (by omega) (by omega) (by omega) e (by simpa using hf) w hT
  · exact walk_else page other e h w hT
set_option maxRecDepth 100000 in
theorem lifted (os : Os) (started : os.Started) (H : Type) (enc : TypeId × Value → H) :
    ReturnsInHanded {} Tryd.checked os 10 .any (fun w args => (Rows.ptableFullSpec.pre enc Tryd.prog Tryd.f10 [] false w args ∧ laidMetH Tryd.prog Laid.list w) ∧ sizedMet enc Tryd.prog Tryd.f10 (OpenSpec.ofChange Rows.ptableFullSpec) false w args) (Rows.ptableFullSpec.post enc Tryd.prog Tryd.f10 false true false false) := by
  refine returnsInHanded_of_change_and (C := Tryd.checked) (X := fun w _ => laidMetH Tryd.prog Laid.list w) (fun _ _ _ hh h => h.of_heap hh) Head.own started (by kernel_rfl) Tryd.func10
    (ChangeSpec.witness_shaped (enc := enc) (C := Tryd.checked) (os := os) (X := fun w _ => laidMetH Tryd.prog Laid.list w) false (World.doorLaid Tryd.prog Laid.steps os) #[.int .i64 0, .int .i64 0, .agg #[.bool false,.bool false,.bool false,.int .i64 0]] 8 rfl (World.shaped_of_RefB (by kernel_rfl) (by kernel_rfl)) (by kernel_rfl) (by kernel_rfl) (by kernel_rfl) (Laid.met os _)) ?_
  intro W base args ds gs before hval0 hW _ _ hL _
  have hval : ∀ (j : Nat) t v, Tryd.f10.params[j]? = some t → args[j]? = some v → Value.okWide Tryd.prog W .any base t v := hval0
  have hW' := hW
  obtain ⟨p, q, hA0, hV, rfl, hfz, hnd⟩ := hW
  have hA : DataW.TrodAll enc Tryd.prog W 0 (fun _ => true) true Tryd.f10.params.toList args.toList ds p := hA0
  rw [Tryd.params10] at hA hval
  obtain ⟨v0, vs0, d0, ds0, p0, q0, hargs, rfl, rfl, h0, r0⟩ := trodAll_cons hA
  obtain ⟨v1, vs1, d1, ds1, p1, q1, rfl, rfl, rfl, h1, r1⟩ := trodAll_cons r0
  obtain ⟨v2, vs2, d2, ds2, p2, q2, rfl, rfl, rfl, h2, r2⟩ := trodAll_cons r1
  obtain ⟨rfl, rfl, rfl⟩ := trodAll_nil r2
  obtain rfl : args = #[v0, v1, v2] := by cases args; simp_all
  obtain ⟨rfl, rfl⟩ := trodVars_none hV
  have k0 := h0
  have lt0 : ∀ x ∈ p0, x.block < W.heap.size := by obtain ⟨m, hm⟩ := k0; exact DataW.trod_lt m _ _ _ hm
  obtain ⟨a0, rfl, rfl, rfl, w0⟩ := open_int Tryd.underlying3 (hval 0 3 v0 rfl rfl) h0
  have k1 := h1
  have lt1 : ∀ x ∈ p1, x.block < W.heap.size := by obtain ⟨m, hm⟩ := k1; exact DataW.trod_lt m _ _ _ hm
  obtain ⟨a1, rfl, rfl, rfl, w1⟩ := open_int Tryd.underlying3 (hval 1 3 v1 rfl rfl) h1
  have k2 := h2
  have lt2 : ∀ x ∈ p2, x.block < W.heap.size := by obtain ⟨m, hm⟩ := k2; exact DataW.trod_lt m _ _ _ hm
  obtain ⟨a2, w2⟩ := open_ent (hval 2 69 v2 rfl rfl) h2
  clear hA0 hval0
  refine (walk a0 a1 v2 a2 W w0 w1 w2 (Laid.tab hL)).mono fun e W' ⟨he, kp⟩ => ?_
  subst he
  have bel := kp.below
  exact ⟨_, rfl, _, _, _, [], _, [], hW', trodAll_mk1 (shut_bool Tryd.underlying4 _), (trodAll_cons_mk (shut_int Tryd.underlying3 w0) (trodAll_cons_mk (shut_int Tryd.underlying3 w1) (trodAll_cons_mk (Below.trod Head.laidOut (by kernel_rfl) (of_decide_eq_true (by kernel_rfl)) k2 bel lt2) trodAll_mk0))), rfl, bel.frame _, fun h => by cases h⟩
theorem closed : joinedFacts Tryd.prog 10 Tryd.f10 Rows.ptableFullSpec Rows.ptableFullRow = true := by
  unfold joinedFacts
  rw [Head.mayEnter, Head.liftsFinal, Head.make]
  kernel_rfl
theorem over : Rows.ptableFullRow.holds Tryd.pinned (OpenSpec.ofChange Rows.ptableFullSpec) :=
  OpenClaim.holds_of_wide 10 Tryd.f10 rfl rfl rfl rfl rfl rfl rfl ⟨rfl, rfl, rfl, rfl, rfl⟩ rfl rfl rfl rfl rfl (by kernel_rfl) Tryd.func10 closed
    (of_decide_eq_true (by kernel_rfl)) (by unfold Func.isWrapper; first | (rw [if_pos (by decide +kernel)]; kernel_rfl) | (rw [if_neg (by decide +kernel)]; exact ⟨rfl, rfl⟩))
    (fun os started H enc _ => lifted os started H enc)
theorem row : Rows.PtableFullSaid := over
theorem proved : Rows.PtableFullCardSaid :=
  Claim7.holds_tied_plain_at .later [] [.data] true (true, "6f766e467f1f76f857c29113ad61a388d69ae06b2677fa7c12f1fa228f819649") false
    row (fun _ h => by cases h) (by kernel_rfl) (fun _ h => by cases h) ptableFull_row_tie rfl ⟨rfl, rfl⟩ (by kernel_rfl) rfl
    (fun f fn hf hfn => by
      obtain rfl : f = 10 := Option.some.inj ((show Tryd.prog.funcNamed "priory/priorylaw10.PtableFull" = some 10 by kernel_rfl).symm.trans hf) |>.symm
      obtain rfl : fn = Tryd.f10 := (Option.some.inj (Tryd.func10.symm.trans hfn)).symm
      exact ⟨by kernel_rfl, fun j t ht => by
        have hall : (Tryd.f10.params.toList.all fun u => !Tryd.prog.wantsStandIn u) = true := by kernel_rfl
        have hm : t ∈ Tryd.f10.params.toList := Array.mem_toList_iff.2 (Array.mem_of_getElem? ht)
        exact (show Tryd.prog.wantsStandIn t = false by simpa using List.all_eq_true.1 hall t hm)⟩)
    (by kernel_rfl)
end Go.Proofs.YtepmljcapobodaaDoor.ptableFull
