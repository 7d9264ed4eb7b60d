/- What is written at a place is read there, and no other place changes; a copy is as what it was copied from, and what is told is in memory of its own. Condition: none beyond the statement's own. -/
import Derived.Test.YtkkkmaigcnpmeaaMemAwake
import Derived.Test.YtkkkmaigcnpmeaaWords
import Derived.Test.YtkkkmaigcnpmeaaHead
import Derived.ProofKit
import Derived.OpenShut
import Derived.ChangeOld
import Derived.Below
namespace Go.Proofs.Ytkkkmaigcnpmeaa.memApart
open Go.ChangeShapes Go.WideShapes Go.ChangeAt Go.RowKit
set_option linter.unusedVariables false
set_option maxRecDepth 100000

theorem u32_wf {n : Int} (h : (Lit.int .u32 n).wf = true) : 0 ≤ n ∧ n < 4294967296 := by
  have := bounds_u32 h
  omega
/-- Ahead of each round: the row is as it was from k on, the memory stands. -/
def Inv (base b f n g cap : Nat) (c : Nat → Int) (a : Int) (w : World) (i : Value) (wr : World) : Prop :=
  ∃ (k : Int) (l : List Int), i = .int .i64 k ∧ 0 ≤ k ∧ k ≤ 32 ∧ MemAt wr b f n c ∧ RowIs base wr (.slice (some ⟨g, 0, none⟩) 32 cap) 32 l ∧ (∀ j : Nat, k ≤ j → j < 32 → l[j]? = some (c (a.toNat * 32 + j))) ∧ Keep (fun q => w.heap.size ≤ q) w wr
/-- The words behind both writes. -/
def two (a b p q v x : Int) : Nat → Int := upd (upd (fun _ => 0) (a.toNat * 32 + p.toNat) v) (b.toNat * 32 + q.toNat) x

theorem words_copy (c : Nat → Int) (t i : Nat) : words (updRow c t fun k => c (i * 32 + k)) t = words c i := by
  unfold words
  refine List.map_congr_left (fun j hj => ?_)
  have hj := List.mem_range.1 hj
  simp only [updRow]
  rw [if_pos ⟨by omega, by omega⟩, show t * 32 + j - t * 32 = j by omega]
theorem words_zero (c : Nat → Int) (t : Nat) : words (updRow c t fun _ => 0) t = List.replicate 32 0 := by
  unfold words
  rw [List.eq_replicate_iff]
  refine ⟨by simp, fun x hx => ?_⟩
  obtain ⟨j, hj, rfl⟩ := List.mem_map.1 hx
  have hj := List.mem_range.1 hj
  simp only [updRow]
  rw [if_pos ⟨by omega, by omega⟩]
theorem words_other (c d : Nat → Int) (t i : Nat) (h : i ≠ t) : words (updRow c t d) i = words c i := by
  unfold words
  refine List.map_congr_left (fun j hj => ?_)
  have hj := List.mem_range.1 hj
  simp only [updRow]
  rw [if_neg (by omega)]
set_option maxHeartbeats 3200000 in
theorem walk_in (n a b p q v x W : Int) (w : World) (h1 : 1 ≤ n) (h2 : n ≤ 20) (ha0 : 0 ≤ a) (ha1 : a < n) (hb0 : 0 ≤ b) (hb1 : b < n) (hp0 : 0 ≤ p) (hp1 : p < 32) (hq0 : 0 ≤ q) (hq1 : q < 32) (hv : 0 ≤ v ∧ v < 4294967296) (hx : 0 ≤ x ∧ x < 4294967296)
    (hW1 : a = b ∧ p = q → W = x) (hW2 : ¬ (a = b ∧ p = q) → W = v) :
    Calls Try.prog 6 #[.int .i64 n, .int .i64 a, .int .i64 b, .int .i64 p, .int .i64 q, .int .u32 v, .int .u32 x] w fun e w' => e = .returned (.bool true) ∧ Keep nob w w' := by
  have t1 : decide (n < 1) = false := by simpa using h1
  have t2 : decide (20 < n) = false := by simpa using h2
  have t3 : decide (a < 0) = false := by simpa using ha0
  have t4 : decide (n ≤ a) = false := by simpa using ha1
  have t5 : decide (b < 0) = false := by simpa using hb0
  have t6 : decide (n ≤ b) = false := by simpa using hb1
  have t7 : decide (p < 0) = false := by simpa using hp0
  have t8 : decide (31 < p) = false := by simp; omega
  have t9 : decide (q < 0) = false := by simpa using hq0
  have t10 : decide (31 < q) = false := by simp; omega
  obtain ⟨A, tA⟩ : ∃ A, (a == b) = A := ⟨_, rfl⟩
  obtain ⟨B, tB⟩ : ∃ B, (p == q) = B := ⟨_, rfl⟩
  have HA := Lib.hid tA
  have HB := Lib.hid tB
  have hcx : two a b p q v x (a.toNat * 32 + p.toNat) = W := by
    unfold two upd
    by_cases h : a = b ∧ p = q
    · rw [hW1 h, h.1, h.2, if_pos rfl]
    · rw [hW2 h, if_neg (by omega), if_pos rfl]
  have hcy : two a b p q v x (b.toNat * 32 + q.toNat) = x := by simp [two, upd]
  have hcz : ∀ j : Nat, j < 32 → ¬ (j = p.toNat) → ¬ (a = b ∧ j = q.toNat) → two a b p q v x (a.toNat * 32 + j) = 0 := by
    intro j hj h3 h4
    unfold two upd
    rw [if_neg (by omega), if_neg (by omega)]
  have eW : (if (A && B) = true then x else v) = W := by
    refine Eq.symm ?_
    rw [← tA, ← tB]
    by_cases h : a = b ∧ p = q
    · rw [hW1 h, if_pos (by simp [h.1, h.2])]
    · rw [hW2 h, if_neg (by simp; exact fun h3 h4 => h ⟨h3, h4⟩)]
  have HX := Lib.hid hcx
  have HY := Lib.hid hcy
  have HZ := Lib.hid hcz
  clear hcx hcy hcz hW1 hW2
  have hmk := make32
  cases A <;> cases B
  all_goals
    simp at eW
    subst eW
    go_enter Try.func6, Try.ntmps6
    go_wp2_with fail
    refine Calls.mono (new_ok _ n h1 (by omega)) ?_
    rintro e w1 ⟨bb, f, rfl, M1, hb, hf, K1⟩
    go_wp2_with fail
    refine Calls.mono (write_in M1 a p v (by omega) (by omega) hp0 hp1 hv) ?_
    rintro e w2 ⟨rfl, M2, K2⟩
    have A2 : Keep (fun q => w.heap.size ≤ q) w w2 := K1.nob.trans K2 (fun k hk e => by unfold only at e; omega)
    clear K1 K2 M1
    go_wp2_with fail
    refine Calls.mono (write_in M2 b q x (by omega) (by omega) hq0 hq1 hx) ?_
    rintro e w3 ⟨rfl, M3, K3⟩
    have A3 := A2.trans K3 (fun q hq e => by unfold only at e; omega)
    change MemAt w3 bb f n.toNat (two a b p q v x) at M3
    clear A2 K3 M2
    go_wp2_with fail
    have hr := read_in M3 a p (by omega) (by omega) hp0 hp1
    rw [HX.out] at hr
    refine Calls.mono hr ?_
    clear hr
    rintro e w4 ⟨rfl, K4⟩
    have M4 := M3.next K4
    have A4 := A3.then K4
    clear M3 K4 A3
    go_wp2_with fail
    have hr := read_in M4 b q (by omega) (by omega) hq0 hq1
    rw [HY.out] at hr
    refine Calls.mono hr ?_
    clear hr
    rintro e w5 ⟨rfl, K5⟩
    have M5 := M4.next K5
    have A5 := A4.then K5
    clear M4 K5 A4
    go_wp2_with fail
    refine Calls.mono (page_in M5 a ha0 (by omega)) ?_
    rintro e w6 ⟨v6, rfl, R6, K6⟩
    have M6 := M5.next K6
    have A6 := A5.then K6
    obtain ⟨g, cap, rfl⟩ := R6.form
    have R6' : ∀ (c : Nat → Int) (j : Nat), (0 : Int) ≤ j → j < 32 → (words c a.toNat)[j]? = some (c (a.toNat * 32 + j)) := fun c j _ hj => by simp [words, hj]
    have H6' := Lib.hid R6'
    have hbb := Lib.hid M5.blt
    have hff := Lib.hid M5.flt
    have hww := Lib.hid A5.size
    clear R6' K6 M5 A5
    go_wp2_with fail
    go_loopw [24] (fun i wr => Inv w5.heap.size bb f n.toNat g cap (two a b p q v x) a w i wr) (fun i _ => (32 - intOf i).toNat)
    case atStart => exact ⟨0, _, rfl, by decide, by decide, M6, R6, H6'.out _, A6⟩
    case round =>
      obtain ⟨k, l, rfl, hk0, hk1, M, R, hl, A⟩ := hrel
      by_cases hlt : k < 32
      · have t11 : decide (k < 32) = true := by simpa using hlt
        obtain ⟨y, hy⟩ : ∃ y, l[k.toNat]? = some y := ⟨_, hl k.toNat (by omega) (by omega)⟩
        have hy' := (hl k.toNat (by omega) (by omega))
        obtain ⟨hcell, hfz⟩ := R.cell k.toNat y hy
        have hge := R.ge
        have M' := M.keep (Keep.setCell (S := only g) (Keep.refl _ _) (p := ⟨g, k.toNat, none⟩) (.int .u32 77) (Or.inr rfl)) (by unfold only; have := hbb.out; omega) (by unfold only; have := hff.out; omega)
        have R' := R.set k.toNat 77 (by omega)
        have A' := A.setCell (p := ⟨g, k.toNat, none⟩) (.int .u32 77) (Or.inr (by have := hww.out; show w.heap.size ≤ g; omega))
        have hl' : ∀ j : Nat, k + 1 ≤ j → j < 32 → (l.set k.toNat 77)[j]? = some (two a b p q v x (a.toNat * 32 + j)) := fun j hj1 hj2 => by
          rw [List.getElem?_set_ne (by omega)]; exact hl j (by omega) hj2
        have M' := Lib.hid M'
        have R' := Lib.hid R'
        have A' := Lib.hid A'
        have hl' := Lib.hid hl'
        clear M R A hl hge
        by_cases kp : k = p
        · have t12 : (k != p) = false := by simp [kp]
          clear kp hy hy'
          go_wp2_with fail
          go_roundw
          case rel => exact ⟨k + 1, _, rfl, by omega, by omega, M'.out, R'.out, hl'.out, A'.out⟩
          case measure => simp [intOf]; omega
        · have t12 : (k != p) = true := by simpa using kp
          by_cases kq : a = b ∧ k = q
          · first
            | (exfalso; have h := HA.out; rw [kq.1] at h; simp at h; done)
            | skip
            all_goals
              have t13 : (k == q) = true := by simp [kq.2]
              have t14 := HA.out
              clear kp kq hy hy'
              go_wp2_with fail
              go_roundw
              case rel => exact ⟨k + 1, _, rfl, by omega, by omega, M'.out, R'.out, hl'.out, A'.out⟩
              case measure => simp [intOf]; omega
          · rw [HZ.out k.toNat (by omega) (by omega) (fun e => kq ⟨e.1, by omega⟩), hy] at hy'
            injection hy' with hy'
            subst hy'
            have t14 := HA.out
            try have t15 : (k == q) = false := by simp; exact fun h => kq ⟨by simpa using t14, h⟩
            clear kp kq hy
            go_wp2_with fail
            go_roundw
            case rel => exact ⟨k + 1, _, rfl, by omega, by omega, M'.out, R'.out, hl'.out, A'.out⟩
            case measure => simp [intOf]; omega
      · have t11 : decide (k < 32) = false := by simpa using hlt
        clear hl R
        go_wp2_with fail
        have hf7 := Lib.hid M.flt
        refine Calls.mono (page_in M a ha0 (by omega)) ?_
        rintro e w7 ⟨v7, rfl, R7, K7⟩
        have M7 := M.next K7
        have A7 := A.then K7
        obtain ⟨g7, cap7, rfl⟩ := R7.form
        obtain ⟨hc7, -⟩ := R7.cell p.toNat _ (words_get _ _ _ (by omega))
        rw [HX.out] at hc7
        clear K7 M A
        go_wp2_with fail
        refine Calls.mono (copy_in M7 b a (by omega) (by omega) (by omega) (by omega)) ?_
        rintro e w8 ⟨rfl, M8, K8⟩
        have A8 := Keep.into A7 K8 hf
        have R8 := R7.write K8 hf7.out
        clear K8 M7 A7 R7 hc7
        go_wp2_with fail
        have hf8 := Lib.hid M8.flt
        refine Calls.mono (page_in M8 b (by omega) (by omega)) ?_
        rintro e w9 ⟨v9, rfl, R9, K9⟩
        rw [words_copy] at R9
        have M9 := M8.next K9
        have A9 := A8.then K9
        have S9 := R8.next K9
        clear K9 M8 A8 R8
        go_wp2_with fail
        refine Calls.mono (zero_in M9 a (by omega) (by omega)) ?_
        rintro e w10 ⟨rfl, M10, K10⟩
        have A10 := Keep.into A9 K10 hf
        have R10 := R9.write K10 hf8.out
        have S10 := S9.write K10 hf7.out
        clear K10 M9 A9 R9 S9
        go_wp2_with fail
        refine Calls.mono (page_in M10 a (by omega) (by omega)) ?_
        rintro e w11 ⟨v11, rfl, R11, K11⟩
        rw [words_zero] at R11
        have M11 := M10.next K11
        have A11 := A10.then K11
        have P11 := R11.words
        have R11 := (R10.next K11).words
        have S11 := (S10.next K11).words
        clear K11 M10 A10 R10 S10
        go_wp2_with fail
        refine Calls.mono (page_in M11 b (by omega) (by omega)) ?_
        rintro e w12 ⟨v12, rfl, R12, K12⟩
        have A12 := A11.then K12
        have Q12 := R12.words
        have P12 := P11.next K12
        have R12 := R11.next K12
        have S12 := S11.next K12
        clear K12 M11 A11 R11 S11 P11
        go_wp2_with fail
        refine Calls.mono (same_ok R12 S12 (by rw [words_len]; decide)) ?_
        rw [decide_eq_true rfl]
        rintro e w13 ⟨rfl, K13⟩
        have P13 := P12.next K13
        have Q13 := Q12.next K13
        have S13 := S12.next K13
        have A13 := A12.then K13
        clear K13 A12 P12 Q12 R12 S12
        go_wp2_with fail
        have P14 := P13.next ((Keep.refl _ _).alloc (.cells zeroFrame 23))
        have Q14 := Q13.next ((Keep.refl _ _).alloc (.cells zeroFrame 23))
        have S14 := S13.next ((Keep.refl _ _).alloc (.cells zeroFrame 23))
        have A14 := A13.alloc (.cells zeroFrame 23)
        clear A13 P13 Q13 S13
        refine Calls.mono (same_ok P14 (wordsAt_zero _ _) (by rw [List.length_replicate]; decide)) ?_
        rw [decide_eq_true rfl]
        rintro e w15 ⟨rfl, K15⟩
        have Q15 := Q14.next K15
        have S15 := S14.next K15
        have A15 := A14.then K15
        clear K15 A14 P14 Q14 S14
        go_wp2_with fail
        first
          | ((with_reducible refine Calls.mono (awake02 _) ?_); rintro e w16 ⟨rfl, K16⟩; go_wp2; go_ret; exact ⟨rfl, (A15.then K16).own⟩)
          | (have hne : a ≠ b := by have h := HA.out; simpa using h
             rw [words_other _ _ _ _ (by omega), words_copy] at Q15
             refine Calls.mono (same_ok Q15 S15 (by rw [words_len]; decide)) ?_
             rw [decide_eq_true rfl]
             rintro e w16 ⟨rfl, K16⟩
             have A16 := A15.then K16
             go_wp2_with fail
             refine Calls.mono (awake02 _) ?_
             rintro e w17 ⟨rfl, K17⟩
             go_wp2
             go_ret
             exact ⟨rfl, (A16.then K17).own⟩)
theorem walk_else (n a b p q v x : Int) (w : World) (h : ¬ (1 ≤ n ∧ n ≤ 20 ∧ 0 ≤ a ∧ a < n ∧ 0 ≤ b ∧ b < n ∧ 0 ≤ p ∧ p ≤ 31 ∧ 0 ≤ q ∧ q ≤ 31)) :
    Calls Try.prog 6 #[.int .i64 n, .int .i64 a, .int .i64 b, .int .i64 p, .int .i64 q, .int .u32 v, .int .u32 x] w fun e w' => e = .returned (.bool true) ∧ Keep nob w w' := by
  obtain ⟨T1, t1⟩ : ∃ T, decide (n < 1) = T := ⟨_, rfl⟩
  obtain ⟨T2, t2⟩ : ∃ T, decide (20 < n) = T := ⟨_, rfl⟩
  obtain ⟨T3, t3⟩ : ∃ T, decide (a < 0) = T := ⟨_, rfl⟩
  obtain ⟨T4, t4⟩ : ∃ T, decide (n ≤ a) = T := ⟨_, rfl⟩
  obtain ⟨T5, t5⟩ : ∃ T, decide (b < 0) = T := ⟨_, rfl⟩
  obtain ⟨T6, t6⟩ : ∃ T, decide (n ≤ b) = T := ⟨_, rfl⟩
  obtain ⟨T7, t7⟩ : ∃ T, decide (p < 0) = T := ⟨_, rfl⟩
  obtain ⟨T8, t8⟩ : ∃ T, decide (31 < p) = T := ⟨_, rfl⟩
  obtain ⟨T9, t9⟩ : ∃ T, decide (q < 0) = T := ⟨_, rfl⟩
  obtain ⟨T10, t10⟩ : ∃ T, decide (31 < q) = T := ⟨_, rfl⟩
  have HT : (T1 || T2 || T3 || T4 || T5 || T6 || T7 || T8 || T9 || T10) = true := by
    rw [← t1, ← t2, ← t3, ← t4, ← t5, ← t6, ← t7, ← t8, ← t9, ← t10]
    simp only [Bool.or_eq_true, decide_eq_true_eq]
    omega
  clear h
  go_enter Try.func6, Try.ntmps6
  go_wp2_with fail
  all_goals first
    | ((with_reducible refine Calls.mono (awake02 _) ?_); rintro e w16 ⟨rfl, K16⟩; go_wp2; go_ret; exact ⟨rfl, K16⟩)
    | (exfalso; simp_all)
theorem walk (n a b p q v x : Int) (w : World) (w0 : (Lit.int .i64 n).wf = true) (w1 : (Lit.int .i64 a).wf = true) (w2 : (Lit.int .i64 b).wf = true) (w3 : (Lit.int .i64 p).wf = true) (w4 : (Lit.int .i64 q).wf = true) (w5 : (Lit.int .u32 v).wf = true) (w6 : (Lit.int .u32 x).wf = true) :
    Calls Try.prog 6 #[.int .i64 n, .int .i64 a, .int .i64 b, .int .i64 p, .int .i64 q, .int .u32 v, .int .u32 x] w fun e w' => e = .returned (.bool true) ∧ Keep nob w w' := by
  by_cases h : 1 ≤ n ∧ n ≤ 20 ∧ 0 ≤ a ∧ a < n ∧ 0 ≤ b ∧ b < n ∧ 0 ≤ p ∧ p ≤ 31 ∧ 0 ≤ q ∧ q ≤ 31
  · obtain ⟨h1, h2, h3, h4, h5, h6, h7, h8, h9, h10⟩ := h
    by_cases hc : a = b ∧ p = q
    · exact walk_in n a b p q v x x w h1 h2 h3 h4 h5 h6 h7 (by omega) h9 (by omega) (u32_wf w5) (u32_wf w6) (fun _ => rfl) (fun h => absurd hc h)
    · exact walk_in n a b p q v x v w h1 h2 h3 h4 h5 h6 h7 (by omega) h9 (by omega) (u32_wf w5) (u32_wf w6) (fun h => absurd h hc) (fun _ => rfl)
  · exact walk_else n a b p q v x w h
set_option maxRecDepth 100000 in
theorem lifted (os : Os) (started : os.Started) (H : Type) (enc : TypeId × Value → H) :
    ReturnsInHanded {} Try.checked os 6 .any (Rows.memApartSpec.pre6 enc Try.prog Try.f6 Rows.memApartRow.domain false) (Rows.memApartSpec.post enc Try.prog Try.f6 false true false false) := by
  refine returnsInHanded_of_change (C := Try.checked) Head.own started (by kernel_rfl) Try.func6
    (ChangeSpec.witness6 (enc := enc) (C := Try.checked) false ⟨#[], #[.int .i64 0, .int .i64 0, .int .i64 0, .int .i64 0, .int .i64 0, .int .u32 0, .int .u32 0], []⟩ 8 (by kernel_rfl) (by kernel_rfl) (by kernel_rfl) (by kernel_rfl)) ?_
  intro W base args ds gs before hval0 hW hcnd _
  have hval : ∀ (j : Nat) t v, Try.f6.params[j]? = some t → args[j]? = some v → Value.okWide Try.prog W .any base t v := hval0
  have hW' := hW
  obtain ⟨p, q, hA0, hV, rfl, hfz, hnd⟩ := hW
  have hA : DataW.TrodAll enc Try.prog W 0 (fun _ => true) true Try.f6.params.toList args.toList ds p := hA0
  rw [Try.params6] at hA hval
  obtain ⟨v0, vs0, d0, ds0, p0, q0, hargs, rfl, rfl, h0, r0⟩ := trodAll_cons hA
  obtain ⟨v1, vs1, d1, ds1, p1, q1, rfl, rfl, rfl, h1, r1⟩ := trodAll_cons r0
  obtain ⟨v2, vs2, d2, ds2, p2, q2, rfl, rfl, rfl, h2, r2⟩ := trodAll_cons r1
  obtain ⟨v3, vs3, d3, ds3, p3, q3, rfl, rfl, rfl, h3, r3⟩ := trodAll_cons r2
  obtain ⟨v4, vs4, d4, ds4, p4, q4, rfl, rfl, rfl, h4, r4⟩ := trodAll_cons r3
  obtain ⟨v5, vs5, d5, ds5, p5, q5, rfl, rfl, rfl, h5, r5⟩ := trodAll_cons r4
  obtain ⟨v6, vs6, d6, ds6, p6, q6, rfl, rfl, rfl, h6, r6⟩ := trodAll_cons r5
  obtain ⟨rfl, rfl, rfl⟩ := trodAll_nil r6
  obtain rfl : args = #[v0, v1, v2, v3, v4, v5, v6] := by cases args; simp_all
  obtain ⟨rfl, rfl⟩ := trodVars_none hV
  have k0 := h0
  have lt0 : ∀ x ∈ p0, x.block < W.heap.size := by obtain ⟨m, hm⟩ := k0; exact DataW.trod_lt m _ _ _ hm
  obtain ⟨a0, rfl, rfl, rfl, w0⟩ := open_int Try.underlying3 (hval 0 3 v0 rfl rfl) h0
  have k1 := h1
  have lt1 : ∀ x ∈ p1, x.block < W.heap.size := by obtain ⟨m, hm⟩ := k1; exact DataW.trod_lt m _ _ _ hm
  obtain ⟨a1, rfl, rfl, rfl, w1⟩ := open_int Try.underlying3 (hval 1 3 v1 rfl rfl) h1
  have k2 := h2
  have lt2 : ∀ x ∈ p2, x.block < W.heap.size := by obtain ⟨m, hm⟩ := k2; exact DataW.trod_lt m _ _ _ hm
  obtain ⟨a2, rfl, rfl, rfl, w2⟩ := open_int Try.underlying3 (hval 2 3 v2 rfl rfl) h2
  have k3 := h3
  have lt3 : ∀ x ∈ p3, x.block < W.heap.size := by obtain ⟨m, hm⟩ := k3; exact DataW.trod_lt m _ _ _ hm
  obtain ⟨a3, rfl, rfl, rfl, w3⟩ := open_int Try.underlying3 (hval 3 3 v3 rfl rfl) h3
  have k4 := h4
  have lt4 : ∀ x ∈ p4, x.block < W.heap.size := by obtain ⟨m, hm⟩ := k4; exact DataW.trod_lt m _ _ _ hm
  obtain ⟨a4, rfl, rfl, rfl, w4⟩ := open_int Try.underlying3 (hval 4 3 v4 rfl rfl) h4
  have k5 := h5
  have lt5 : ∀ x ∈ p5, x.block < W.heap.size := by obtain ⟨m, hm⟩ := k5; exact DataW.trod_lt m _ _ _ hm
  obtain ⟨a5, rfl, rfl, rfl, w5⟩ := open_int Try.underlying23 (hval 5 23 v5 rfl rfl) h5
  have k6 := h6
  have lt6 : ∀ x ∈ p6, x.block < W.heap.size := by obtain ⟨m, hm⟩ := k6; exact DataW.trod_lt m _ _ _ hm
  obtain ⟨a6, rfl, rfl, rfl, w6⟩ := open_int Try.underlying23 (hval 6 23 v6 rfl rfl) h6
  clear hA0 hval0
  refine (walk a0 a1 a2 a3 a4 a5 a6 W w0 w1 w2 w3 w4 w5 w6).mono fun e W' ⟨he, kp⟩ => ?_
  subst he
  have bel := kp.below
  exact ⟨_, rfl, _, _, _, [], _, [], hW', trodAll_mk1 (shut_bool Try.underlying4 _), (trodAll_cons_mk (shut_int Try.underlying3 w0) (trodAll_cons_mk (shut_int Try.underlying3 w1) (trodAll_cons_mk (shut_int Try.underlying3 w2) (trodAll_cons_mk (shut_int Try.underlying3 w3) (trodAll_cons_mk (shut_int Try.underlying3 w4) (trodAll_cons_mk (shut_int Try.underlying23 w5) (trodAll_cons_mk (shut_int Try.underlying23 w6) trodAll_mk0))))))), rfl, bel.frame _, fun h => by cases h⟩
theorem closed : joinedFacts Try.prog 6 Try.f6 Rows.memApartSpec Rows.memApartRow = true := by
  unfold joinedFacts
  rw [Head.mayEnter, Head.liftsFinal, Head.make]
  kernel_rfl
theorem over : Rows.memApartRow.holds Try.pinned (OpenSpec.ofChange Rows.memApartSpec) :=
  OpenClaim.holds_of_wide 6 Try.f6 rfl rfl rfl rfl rfl rfl rfl ⟨rfl, rfl, rfl, rfl, rfl⟩ rfl rfl rfl rfl rfl (by kernel_rfl) Try.func6 closed
    (of_decide_eq_true (by kernel_rfl)) (by unfold Func.isWrapper; first | (rw [if_pos (by decide +kernel)]; kernel_rfl) | (rw [if_neg (by decide +kernel)]; exact ⟨rfl, rfl⟩))
    (fun os started H enc _ => lifted os started H enc)
theorem proved : Rows.MemApartSaid := over
end Go.Proofs.Ytkkkmaigcnpmeaa.memApart
