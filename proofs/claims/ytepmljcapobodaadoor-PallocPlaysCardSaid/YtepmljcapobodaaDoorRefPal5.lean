/- The document's pool (package prioryref09): New. -/
import Derived.Test.YtepmljcapobodaaDoorRefPal4
namespace Go.Proofs.YtepmljcapobodaaDoor
open Go.RowKit
set_option linter.unusedVariables false
set_option maxRecDepth 100000
/-- A number lies in the j-th range. -/
def inL (l : List (Int × Int)) (j : Nat) (z : Int) : Prop := (l.getD j (0, 0)).1 ≤ z ∧ z < (l.getD j (0, 0)).1 + (l.getD j (0, 0)).2
instance (l : List (Int × Int)) (j : Nat) (z : Int) : Decidable (inL l j z) := by unfold inL; exact inferInstance
def cntL (l : List (Int × Int)) (z : Int) (t : Nat) : Nat := cnt (fun j => decide (inL l j z)) t
theorem cntL_succ (l : List (Int × Int)) (z : Int) (t : Nat) : cntL l z (t + 1) = cntL l z t + if inL l t z then 1 else 0 := by unfold cntL; rw [cnt]; congr 1; simp
theorem cnt_one {P : Nat → Bool} : ∀ n, 0 < cnt P n → ∃ i, i < n ∧ P i = true
  | 0, h => by simp [cnt] at h
  | n + 1, h => by
    rw [cnt] at h
    by_cases q : P n = true
    · exact ⟨n, by omega, q⟩
    · rw [if_neg q] at h
      obtain ⟨i, hi, hp⟩ := cnt_one n (by omega)
      exact ⟨i, by omega, hp⟩
theorem cnt_two {P : Nat → Bool} : ∀ n, 1 < cnt P n → ∃ i j, i < j ∧ j < n ∧ P i = true ∧ P j = true
  | 0, h => by simp [cnt] at h
  | n + 1, h => by
    rw [cnt] at h
    by_cases q : P n = true
    · rw [if_pos q] at h
      obtain ⟨i, hi, hp⟩ := cnt_one n (show 0 < cnt P n by omega)
      exact ⟨i, n, hi, by omega, hp, q⟩
    · rw [if_neg q] at h
      obtain ⟨i, j, hi, hj, hp⟩ := cnt_two n (by omega)
      exact ⟨i, j, hi, by omega, hp⟩
theorem cnt_mono (P : Nat → Bool) {a b : Nat} (h : a ≤ b) : cnt P a ≤ cnt P b := by
  obtain ⟨d, rfl⟩ : ∃ d, b = a + d := ⟨b - a, by omega⟩
  rw [cnt_add]; omega
theorem cnt_ge_two {P : Nat → Bool} {n i j : Nat} (hi : i < j) (hj : j < n) (p : P i = true) (q : P j = true) : 1 < cnt P n := by
  have a : cnt P (i + 1) = cnt P i + 1 := by rw [cnt, if_pos p]
  have b : cnt P (j + 1) = cnt P j + 1 := by rw [cnt, if_pos q]
  have c := cnt_mono P (show i + 1 ≤ j by omega)
  have d := cnt_mono P (show j + 1 ≤ n by omega)
  omega
theorem meet_of {l : List (Int × Int)} {i j : Nat} {z : Int} (a : inL l i z) (b : inL l j z) : meet l i j := by
  unfold inL at a b; unfold meet; omega
theorem not_valid_two {n : Nat} {l : List (Int × Int)} {z : Int} (h : 1 < cntL l z l.length) : ¬ Valid n l := by
  rintro ⟨_, _, v⟩
  obtain ⟨i, j, hi, hj, p, q⟩ := cnt_two _ h
  exact (v j hj).2 i hi (meet_of (of_decide_eq_true p) (of_decide_eq_true q))
theorem valid_of {n : Nat} {l : List (Int × Int)} (h1 : 1 ≤ l.length) (h8 : l.length ≤ 8) (hf : ∀ j, j < l.length → fits n l j) (hc : ∀ z : Nat, z < n → cntL l z l.length ≤ 1) : Valid n l := by
  refine ⟨h1, h8, fun k hk => ⟨hf k hk, fun i hi m => ?_⟩⟩
  have a := hf k hk
  have b := hf i (by omega)
  unfold fits at a b
  unfold meet at m
  obtain ⟨z, hz⟩ : ∃ z : Nat, (z : Int) = max (l.getD k (0, 0)).1 (l.getD i (0, 0)).1 := ⟨(max (l.getD k (0, 0)).1 (l.getD i (0, 0)).1).toNat, by omega⟩
  have c := hc z (by omega)
  have d : 1 < cntL l z l.length := cnt_ge_two hi hk (decide_eq_true (by unfold inL; omega)) (decide_eq_true (by unfold inL; omega))
  omega
def zeroPool : Value := .agg #[.slice none 0 0, .slice none 0 0, .slice none 0 0]
def RNew (w : World) (n : Nat) (v : Value) (l : List (Int × Int)) (r : Ending) (w' : World) : Prop :=
  (¬ Valid n l ∧ r = .returned (.tuple #[zeroPool, .int .i64 2]) ∧ Keep nob w w') ∨
  (Valid n l ∧ ∃ g h, r = .returned (.tuple #[.agg #[v, refV g n, refsV h n], .int .i64 0]) ∧ RefAt w' g n (fun _ => 0) ∧ (∀ k : Nat, k < n → w'.cell? ⟨h, k, none⟩ = some (.int .i64 0)) ∧ (∀ k : Nat, w'.frozen? ⟨h, k, none⟩ = false) ∧ w.heap.size ≤ g ∧ w.heap.size ≤ h ∧ g ≠ h ∧ Keep nob w w')
/-- The result's cells, still empty. -/
structure ResAt (w : World) (b : Nat) : Prop where
  c0 : w.cell? ⟨b, 0, none⟩ = some (.slice none 0 0)
  c1 : w.cell? ⟨b, 1, none⟩ = some (.slice none 0 0)
  c2 : w.cell? ⟨b, 2, none⟩ = some (.slice none 0 0)
  z : ∀ k, w.frozen? ⟨b, k, none⟩ = false
theorem ResAt.next {w w' : World} {b : Nat} (h : ResAt w b) (K : Keep nob w w') : ResAt w' b :=
  ⟨K.some h.c0 (fun x => x), K.some h.c1 (fun x => x), K.some h.c2 (fun x => x), fun k => (K.frozen (p := ⟨b, k, none⟩) (World.block_lt_of_cell? w ⟨b, 0, none⟩ h.c0) (fun x => x)).trans (h.z k)⟩
theorem rnew_many (w : World) (n : Int) (a : Option Addr) (len cap : Nat) (h : ¬ (1 ≤ len ∧ len ≤ 8)) :
    Calls Tryd.prog 26 #[.int .i64 n, .slice a len cap] w fun r w' => r = .returned (.tuple #[zeroPool, .int .i64 2]) ∧ Keep nob w w' := by
  unfold zeroPool
  by_cases h1 : len < 1
  · have t1 : decide ((len : Int) < 1) = true := by simp; omega
    clear h h1
    go_enter Tryd.func26, Tryd.ntmps26
    go_wp2_with fail
    exact bodyPost_ret (v := .tuple #[.agg #[.slice none 0 0, .slice none 0 0, .slice none 0 0], .int .i64 2]) (by rw [results_cell_tmp rfl]; go_simp) rfl ⟨rfl, (Keep.refl _ _).alloc _⟩
  · have t1 : decide ((len : Int) < 1) = false := by simp; omega
    have t2 : decide ((8 : Int) < len) = true := by simp; omega
    clear h h1
    go_enter Tryd.func26, Tryd.ntmps26
    go_wp2_with fail
    exact bodyPost_ret (v := .tuple #[.agg #[.slice none 0 0, .slice none 0 0, .slice none 0 0], .int .i64 2]) (by rw [results_cell_tmp rfl]; go_simp) rfl ⟨rfl, (Keep.refl _ _).alloc _⟩
def RnI (W : World) (n : Nat) (l : List (Int × Int)) (i : Value) (wr : World) : Prop := ∃ k : Nat, i = .int .i64 k ∧ k ≤ l.length ∧ (∀ j, j < k → fits n l j) ∧ Keep nob W wr
def RnO (W : World) (n : Nat) (l : List (Int × Int)) (i : Value) (wr : World) : Prop := ∃ y : Nat, i = .int .i64 y ∧ y ≤ n ∧ (∀ z : Nat, z < y → cntL l z l.length ≤ 1) ∧ Keep nob W wr
def RnJ (W : World) (l : List (Int × Int)) (y : Nat) (k j : Value) (wr : World) : Prop := ∃ t : Nat, j = .int .i64 t ∧ t ≤ l.length ∧ k = .int .i64 (cntL l y t) ∧ Keep nob W wr
theorem infoInt9 : (Tryd.prog.info? 3).map (fun i => (i.zero, i.size, i.bytes)) = some (some (.int .i64 0), 1, 8) := by kernel_rfl
theorem made_int (m k : Nat) (hk : k < m) : (madeCells #[.int .i64 0] m)[k]? = some (.int .i64 0) := by
  simp only [madeCells, Array.getElem?_map, Array.getElem?_range, if_pos hk, Option.map_some]
  have hs : (#[Value.int .i64 0] : Array Value).size = 1 := rfl
  rw [hs, Nat.mod_one]
  rfl
set_option maxHeartbeats 3200000 in
theorem rnew_in (w : World) (n : Nat) (hn1 : 1 ≤ n) (hn2 : n ≤ 40) (v : Value) (l : List (Int × Int)) (h1 : 1 ≤ l.length) (h8 : l.length ≤ 8) (L : PairsAt w v l) (hf : ∀ o ∈ l, pairFine o) :
    Calls Tryd.prog 26 #[.int .i64 n, v] w (RNew w n v l) := by
  obtain ⟨a, cap, rfl, hm, hcap, hc⟩ := L
  have t1 : decide ((l.length : Int) < 1) = false := by simp; omega
  have t2 : decide ((8 : Int) < l.length) = false := by simp; omega
  have hne : l ≠ [] := by intro e; rw [e] at h1; have h1 : 1 ≤ 0 := h1; omega
  obtain ⟨gg, og, rfl, cs⟩ := hc hne
  have cs : ∀ k, k < l.length → w.cell? ⟨gg, og + k * 2, none⟩ = some (.int .i64 (l.getD k (0, 0)).1) ∧ w.cell? ⟨gg, og + k * 2 + 1, none⟩ = some (.int .i64 (l.getD k (0, 0)).2) ∧ pairFine (l.getD k (0, 0)) := fun k hk => by
    have e : l[k]? = some (l.getD k (0, 0)) := by rw [List.getD_eq_getElem?_getD, List.getElem?_eq_getElem hk]; rfl
    exact ⟨cs k _ e 0 _ rfl, cs k _ e 1 _ rfl, hf _ (List.mem_of_getElem? e)⟩
  replace cs := Lib.hid cs
  replace hf := Lib.hid hf
  clear hne hc
  go_enter Tryd.func26, Tryd.ntmps26
  go_wp2_with fail
  refine Calls.mono (refnew_in _ n hn1 (by omega)) ?_
  rintro r w1 ⟨g, rfl, M, hg, K⟩
  have hrv : refV g n = .slice (some ⟨g, 0, none⟩) (n * 32) (n * 32) := rfl
  rw [hrv]
  rw [World.size_alloc] at hg
  have K1 := ((Keep.refl nob w).alloc (.cells #[.slice none 0 0, .slice none 0 0, .slice none 0 0] 55)).then K
  have Z : ResAt w1 w.heap.size := (show ResAt (w.alloc (.cells #[.slice none 0 0, .slice none 0 0, .slice none 0 0] 55)) w.heap.size from ⟨new_at _ _ _ 0 _ rfl, new_at _ _ _ 1 _ rfl, new_at _ _ _ 2 _ rfl, fun k => new_free _ _ _ k⟩).next K
  replace K := Lib.hid K
  obtain ⟨W, hW⟩ : ∃ W, W = w1.alloc (.cells #[.slice (some ⟨g, 0, none⟩) (n * 32) (n * 32)] 53) := ⟨_, rfl⟩
  have KW : Keep nob w1 W := by rw [hW]; exact (Keep.refl _ _).alloc _
  have KX := K1.then KW
  have m0 : W.cell? ⟨w1.heap.size, 0, none⟩ = some (.slice (some ⟨g, 0, none⟩) (n * 32) (n * 32)) := by rw [hW]; exact new_at _ _ _ 0 _ rfl
  have MW := M.next KW
  have ZW := Z.next KW
  replace M := Lib.hid M
  replace hg := Lib.hid hg
  replace K1 := Lib.hid K1
  replace Z := Lib.hid Z
  replace KW := Lib.hid KW
  replace KX := Lib.hid KX
  replace m0 := Lib.hid m0
  replace MW := Lib.hid MW
  replace ZW := Lib.hid ZW
  replace hrv := Lib.hid hrv
  go_wp2_with fail
  rw [← hW]
  replace hW := Lib.hid hW
  go_loopw [8] (fun i wr => RnI W n l i wr) (fun i _ => (l.length - intOf i).toNat)
  case atStart => exact ⟨0, rfl, Nat.zero_le _, fun j hj => absurd hj (Nat.not_lt_zero j), Keep.refl _ _⟩
  case round =>
    obtain ⟨k, rfl, hk, hfit, A⟩ := hrel
    replace hfit := Lib.hid hfit
    by_cases hlt : k < l.length
    · have t3 : decide (k < l.length) = true := by simpa using hlt
      obtain ⟨r0, r1, f0, f1⟩ := cs.out k hlt
      have r0 := (KX.out.then A).some r0 (fun x => x)
      have r1 := (KX.out.then A).some r1 (fun x => x)
      obtain ⟨x, hx⟩ : ∃ x, (l.getD k (0, 0)).1 = x := ⟨_, rfl⟩
      obtain ⟨m, hmm⟩ : ∃ m, (l.getD k (0, 0)).2 = m := ⟨_, rfl⟩
      rw [hx] at r0 f0
      rw [hmm] at r1 f1
      unfold wfI at f0 f1
      obtain ⟨f2, f3⟩ := f0
      obtain ⟨f4, f5⟩ := f1
      have ZA := ZW.out.next A
      obtain ⟨z0, z1, z2, zf⟩ := ZA
      have zf0 := zf 0
      have zf1 := zf 1
      have zf2 := zf 2
      have kl : (k : Int) < (l.length : Int) := by omega
      by_cases q : 0 ≤ x ∧ 1 ≤ m ∧ x < n ∧ m ≤ n - x
      · have s1 : decide (x < 0) = false := by simp; omega
        have s2 : decide (m < 1) = false := by simp; omega
        have s3 : decide ((n : Int) ≤ x) = false := by simp; omega
        have s4 : decide ((n : Int) - x < m) = false := by simp; omega
        obtain ⟨q1, q2, q3, q4⟩ := q
        have e : fits n l k := by unfold fits; rw [hx, hmm]; omega
        replace A := Lib.hid A
        replace e := Lib.hid e
        replace hx := Lib.hid hx
        replace hmm := Lib.hid hmm
        clear zf z0 z1 z2 zf0 zf1 zf2
        go_wp2_with fail
        go_quiet (fail)
        go_wp2_with fail
        go_roundw
        case rel =>
          refine ⟨k + 1, by go_num, by omega, fun j hj => ?_, (A.out.drewN _)⟩
          by_cases ej : j = k
          · rw [ej]; exact e.out
          · exact hfit.out j (by omega)
        case measure => simp [intOf]; omega
      · have nv : ¬ Valid n l := fun V => q (by have := (V.2.2 k hlt).1; unfold fits at this; rw [hx, hmm] at this; omega)
        replace nv := Lib.hid nv
        replace hx := Lib.hid hx
        replace hmm := Lib.hid hmm
        replace A := Lib.hid A
        clear zf
        by_cases cs1 : x < 0
        · have s1 : decide (x < 0) = true := by simpa using cs1
          clear q cs1
          go_wp2_with fail
          go_quiet (fail)
          go_wp2_with fail
          refine bodyPost_ret (v := .tuple #[.agg #[.slice none 0 0, .slice none 0 0, .slice none 0 0], .int .i64 2]) (by rw [results_cell_tmp rfl]; go_simp) rfl (Or.inl ⟨nv.out, rfl, ?_⟩)
          repeat (refine Keep.setCell ?_ _ (Or.inl (Nat.le_refl _)))
          exact (KX.out.then A.out).drewN _
        have s1 : decide (x < 0) = false := by simpa using cs1
        by_cases cs2 : m < 1
        · have s2 : decide (m < 1) = true := by simpa using cs2
          clear q cs2
          go_wp2_with fail
          go_quiet (fail)
          go_wp2_with fail
          refine bodyPost_ret (v := .tuple #[.agg #[.slice none 0 0, .slice none 0 0, .slice none 0 0], .int .i64 2]) (by rw [results_cell_tmp rfl]; go_simp) rfl (Or.inl ⟨nv.out, rfl, ?_⟩)
          repeat (refine Keep.setCell ?_ _ (Or.inl (Nat.le_refl _)))
          exact (KX.out.then A.out).drewN _
        have s2 : decide (m < 1) = false := by simpa using cs2
        by_cases cs3 : (n : Int) ≤ x
        · have s3 : decide ((n : Int) ≤ x) = true := by simpa using cs3
          clear q cs3
          go_wp2_with fail
          go_quiet (fail)
          go_wp2_with fail
          refine bodyPost_ret (v := .tuple #[.agg #[.slice none 0 0, .slice none 0 0, .slice none 0 0], .int .i64 2]) (by rw [results_cell_tmp rfl]; go_simp) rfl (Or.inl ⟨nv.out, rfl, ?_⟩)
          repeat (refine Keep.setCell ?_ _ (Or.inl (Nat.le_refl _)))
          exact (KX.out.then A.out).drewN _
        have s3 : decide ((n : Int) ≤ x) = false := by simpa using cs3
        have s4 : decide ((n : Int) - x < m) = true := by simp; omega
        have b1 : 0 ≤ x := by omega
        have b2 : x < n := by omega
        clear q cs1 cs2 cs3
        go_wp2_with fail
        go_quiet (fail)
        go_wp2_with fail
        refine bodyPost_ret (v := .tuple #[.agg #[.slice none 0 0, .slice none 0 0, .slice none 0 0], .int .i64 2]) (by rw [results_cell_tmp rfl]; go_simp) rfl (Or.inl ⟨nv.out, rfl, ?_⟩)
        repeat (refine Keep.setCell ?_ _ (Or.inl (Nat.le_refl _)))
        exact (KX.out.then A.out).drewN _
    · have t3 : decide (k < l.length) = false := by simpa using hlt
      obtain rfl : l.length = k := by omega
      obtain ⟨wo, rfl⟩ : ∃ wo : World, wo = wr := ⟨_, rfl⟩
      have KO := KX.out.then A
      have ZO := ZW.out.next A
      have MO := MW.out.next A
      have mO := A.some m0.out (fun x => x)
      replace A := Lib.hid A
      replace KO := Lib.hid KO
      replace ZO := Lib.hid ZO
      replace MO := Lib.hid MO
      replace mO := Lib.hid mO
      clear hlt hk
      go_wp2_with fail
      go_loopw [9, 10, 11] (fun i _ _ wr => RnO wo n l i wr) (fun i _ _ _ => (n - intOf i).toNat)
      case atStart => exact ⟨0, rfl, Nat.zero_le _, fun z hz => absurd hz (Nat.not_lt_zero z), Keep.refl _ _⟩
      case round =>
        obtain ⟨y, rfl, hy, hcnt, A2⟩ := hrel
        replace hcnt := Lib.hid hcnt
        by_cases hyn : y < n
        · have t4 : decide (y < n) = true := by simpa using hyn
          obtain ⟨wi, rfl⟩ : ∃ wi : World, wi = wr := ⟨_, rfl⟩
          have KI := KO.out.then A2
          replace A2 := Lib.hid A2
          replace KI := Lib.hid KI
          go_wp2_with fail
          go_loopw [10, 11] (fun k j wr => RnJ wi l y k j wr) (fun _ j _ => (l.length - intOf j).toNat)
          case atStart => exact ⟨0, rfl, Nat.zero_le _, rfl, Keep.refl _ _⟩
          case round =>
            obtain ⟨t, rfl, ht, rfl, A3⟩ := hrel
            have bc : cntL l y t ≤ t := cnt_le _ t
            by_cases htl : t < l.length
            · have t5 : decide (t < l.length) = true := by simpa using htl
              obtain ⟨r0, r1, f0, f1⟩ := cs.out t htl
              have r0 := (KI.out.then A3).some r0 (fun x => x)
              have r1 := (KI.out.then A3).some r1 (fun x => x)
              have ft := hfit.out t htl
              have es := cntL_succ l y t
              have C := in_raw (l.getD t (0, 0)).1 (l.getD t (0, 0)).2 y (by unfold fits at ft; omega) (by unfold fits at ft; omega) (by unfold fits at ft; omega) (by unfold fits at ft; omega) wr
              obtain ⟨x, hx⟩ : ∃ x, (l.getD t (0, 0)).1 = x := ⟨_, rfl⟩
              obtain ⟨m, hmm⟩ : ∃ m, (l.getD t (0, 0)).2 = m := ⟨_, rfl⟩
              have ei : inL l t y ↔ x ≤ (y : Int) ∧ (y : Int) < x + m := by unfold inL; rw [hx, hmm]
              rw [hx] at r0 C
              rw [hmm] at r1 C
              have kl : (t : Int) < (l.length : Int) := by omega
              by_cases q : x ≤ (y : Int) ∧ (y : Int) < x + m
              · rw [decide_eq_true q] at C
                rw [if_pos (ei.2 q)] at es
                replace q := Lib.hid q
                replace es := Lib.hid es
                replace C := Lib.hid C
                replace A3 := Lib.hid A3
                replace hx := Lib.hid hx
                replace hmm := Lib.hid hmm
                replace ft := Lib.hid ft
                replace ei := Lib.hid ei
                replace f0 := Lib.hid f0
                replace f1 := Lib.hid f1
                go_wp2_with fail
                refine Calls.mono C.out ?_
                rintro r w5 ⟨rfl, K5⟩
                have K6 := Lib.hid (A3.out.then K5)
                replace K5 := Lib.hid K5
                clear r0 r1
                go_wp2_with fail
                go_roundw
                case rel => exact ⟨t + 1, by go_num, by omega, by rw [es.out]; go_num, K6.out⟩
                case measure => simp [intOf]; omega
              · rw [decide_eq_false q] at C
                rw [if_neg (fun e => q (ei.1 e))] at es
                replace q := Lib.hid q
                replace es := Lib.hid es
                replace C := Lib.hid C
                replace A3 := Lib.hid A3
                replace hx := Lib.hid hx
                replace hmm := Lib.hid hmm
                replace ft := Lib.hid ft
                replace ei := Lib.hid ei
                replace f0 := Lib.hid f0
                replace f1 := Lib.hid f1
                go_wp2_with fail
                refine Calls.mono C.out ?_
                rintro r w5 ⟨rfl, K5⟩
                have K6 := Lib.hid (A3.out.then K5)
                replace K5 := Lib.hid K5
                clear r0 r1
                go_wp2_with fail
                go_roundw
                case rel => exact ⟨t + 1, by go_num, by omega, by rw [es.out]; rfl, K6.out⟩
                case measure => simp [intOf]; omega
            · have t5 : decide (t < l.length) = false := by simpa using htl
              obtain rfl : l.length = t := by omega
              by_cases q : 1 < cntL l y l.length
              · have t6 : decide ((1 : Int) < (cntL l y l.length : Int)) = true := by simp; omega
                have nv : ¬ Valid n l := not_valid_two q
                have ZI := (ZO.out.next A2.out).next A3
                obtain ⟨z0, z1, z2, zf⟩ := ZI
                have zf0 := zf 0
                have zf1 := zf 1
                have zf2 := zf 2
                have KJ := KI.out.then A3
                replace nv := Lib.hid nv
                replace A3 := Lib.hid A3
                replace KJ := Lib.hid KJ
                clear zf htl q
                go_wp2_with fail
                refine bodyPost_ret (v := .tuple #[.agg #[.slice none 0 0, .slice none 0 0, .slice none 0 0], .int .i64 2]) (by rw [results_cell_tmp rfl]; go_simp) rfl (Or.inl ⟨nv.out, rfl, ?_⟩)
                repeat (refine Keep.setCell ?_ _ (Or.inl (Nat.le_refl _)))
                exact KJ.out
              · have t6 : decide ((1 : Int) < (cntL l y l.length : Int)) = false := by simp; omega
                have K6 := A2.out.then A3
                replace K6 := Lib.hid K6
                replace A3 := Lib.hid A3
                replace q := Lib.hid q
                clear htl
                go_wp2_with fail
                go_roundw
                case rel =>
                  refine ⟨y + 1, by go_num, by omega, fun z hz => ?_, K6.out⟩
                  by_cases e : z = y
                  · rw [e]; have := q.out; omega
                  · exact hcnt.out z (by omega)
                case measure => simp [intOf]; omega
        · have t4 : decide (y < n) = false := by simpa using hyn
          obtain rfl : n = y := by omega
          have V : Valid n l := valid_of h1 h8 hfit.out hcnt.out
          have ZI := ZO.out.next A2
          obtain ⟨z0, z1, z2, zf⟩ := ZI
          have zf0 := zf 0
          have zf1 := zf 1
          have zf2 := zf 2
          have mI := A2.some mO.out (fun x => x)
          have MI := MO.out.next A2
          have KI := KO.out.then A2
          obtain ⟨i0, hi, hz0, hz1, hz2⟩ := info_parts infoInt9
          have hmk := fun w : World => run_make (P := Tryd.prog) w 48 3 i0 (.int .i64 0) Tryd.underlying48 hi hz0 .i64 .i64 n n (by omega) (by omega) (by rw [hz2]; omega) (by omega)
          simp only [Int.toNat_natCast, hz1, Nat.mul_one] at hmk
          change ∀ w : World, _ = Result.ok _ (w.alloc (.cells (madeCells #[.int .i64 0] n) _)) at hmk
          have ka := fun o => (Keep.refl nob wr).alloc o
          have y0 := fun o => (ka o).some z0 (fun x => x)
          have y1 := fun o => (ka o).some z1 (fun x => x)
          have y2 := fun o => (ka o).some z2 (fun x => x)
          have ym := fun o => (ka o).some mI (fun x => x)
          have blt := World.block_lt_of_cell? wr ⟨w.heap.size, 0, none⟩ z0
          have yf0 := fun o => ((ka o).frozen (p := ⟨w.heap.size, 0, none⟩) blt (fun x => x)).trans zf0
          have yf1 := fun o => ((ka o).frozen (p := ⟨w.heap.size, 1, none⟩) blt (fun x => x)).trans zf1
          have yf2 := fun o => ((ka o).frozen (p := ⟨w.heap.size, 2, none⟩) blt (fun x => x)).trans zf2
          replace V := Lib.hid V
          replace MI := Lib.hid MI
          replace KI := Lib.hid KI
          replace A2 := Lib.hid A2
          replace ka := Lib.hid ka
          replace blt := Lib.hid blt
          clear zf hyn hi hz0 hz1 hz2
          go_wp2_with fail
          go_region
          all_goals
            go_wp2_with fail
            have gl := MI.out.glt
            have kz := KI.out.size
            have hg' := hg.out
            have bl := blt.out
            have KR : Keep (only w.heap.size) (wr.alloc (.cells (madeCells #[.int .i64 0] n) 3)) (((((wr.alloc (.cells (madeCells #[.int .i64 0] n) 3)).setCell ⟨w.heap.size, 0, none⟩ (.slice (some ⟨gg, og, none⟩) l.length cap)).setCell ⟨w.heap.size, 1, none⟩ (.slice (some ⟨g, 0, none⟩) (n * 32) (n * 32))).setCell ⟨w.heap.size, 2, none⟩ (.slice (some ⟨wr.heap.size, 0, none⟩) n n)).drew) :=
              ((((Keep.refl _ _).store _ _).store _ _).store _ _).drew
            refine bodyPost_ret (v := .tuple #[.agg #[.slice (some ⟨gg, og, none⟩) l.length cap, .slice (some ⟨g, 0, none⟩) (n * 32) (n * 32), .slice (some ⟨wr.heap.size, 0, none⟩) n n], .int .i64 0]) (by rw [results_cell_tmp rfl]; go_simp) rfl (Or.inr ⟨V.out, g, wr.heap.size, rfl, ?_, fun k hk => ?_, fun k => ?_, by omega, kz, by omega, ?_⟩)
            · exact (MI.out.next (ka.out _)).keep KR (fun e => by have e : g = w.heap.size := e; omega)
            · exact KR.some (new_at _ _ _ k _ (by rw [Array.getElem?_toList]; exact made_int n k hk)) (fun e => by have e : wr.heap.size = w.heap.size := e; omega)
            · rw [KR.frozen (p := ⟨wr.heap.size, k, none⟩) (by rw [World.size_alloc]; exact Nat.lt_succ_self _) (fun e => by have e : wr.heap.size = w.heap.size := e; omega)]
              exact new_free _ _ _ k
            · exact ((((KI.out.alloc _).fresh 0 _ (Nat.le_refl _)).fresh 1 _ (Nat.le_refl _)).fresh 2 _ (Nat.le_refl _)).drew
theorem rnew (w : World) (n : Nat) (hn1 : 1 ≤ n) (hn2 : n ≤ 40) (v : Value) (l : List (Int × Int)) (L : PairsAt w v l) (hf : ∀ o ∈ l, pairFine o) :
    Calls Tryd.prog 26 #[.int .i64 n, v] w (RNew w n v l) := by
  by_cases h : 1 ≤ l.length ∧ l.length ≤ 8
  · exact rnew_in w n hn1 hn2 v l h.1 h.2 L hf
  · obtain ⟨a, cap, rfl, hm, hcap, hc⟩ := L
    exact (rnew_many w n a l.length cap h).mono fun r w' q => Or.inl ⟨fun V => h ⟨V.1, V.2.1⟩, q⟩
end Go.Proofs.YtepmljcapobodaaDoor
