/- What may be written to may be read, at the same place, and what is stored is loaded, if the word that was written is none on the way. Condition: 1 to 12 frames, at most 200 words. -/
import Derived.Test.YtkkkmaigcnpmeaaWalkAwake
import Derived.Test.YtkkkmaigcnpmeaaHead
namespace Go.Proofs.Ytkkkmaigcnpmeaa.walkBoth
open Go.ChangeShapes Go.WideShapes Go.ChangeAt Go.RowKit Go.Deep
set_option linter.unusedVariables false
set_option maxRecDepth 100000
theorem at_both (e : Int → Int → Ent) (ok : Int → Int → Bool) (root va : Int) (h : atF e ok root va true = 0) : atF e ok root va false = 0 ∧ atFr e ok root va false = atFr e ok root va true ∧ atPl e ok root va false = atPl e ok root va true := by
  have h0 : atF e ok root va false = 0 := by
    unfold atF at *
    by_cases a : 32768 ≤ va
    · rw [if_pos a] at h; cases h
    · rw [if_neg a] at h ⊢
      by_cases b : pgF e ok root (va / 32 / 32) (va / 32 % 32) = 0
      · rw [if_pos b]; rfl
      · rw [if_neg b] at h; exact absurd h b
  unfold atFr atPl
  rw [h0, h]
  exact ⟨rfl, rfl, rfl⟩
theorem at_fault (e : Int → Int → Ent) (ok : Int → Int → Bool) (root va : Int) (h : atF e ok root va false ≠ 0) : atF e ok root va true = atF e ok root va false := by
  unfold atF at *
  by_cases a : 32768 ≤ va
  · rw [if_pos a, if_pos a]
  · rw [if_neg a] at h ⊢
    rw [if_neg a]
    by_cases b : pgF e ok root (va / 32 / 32) (va / 32 % 32) = 0
    · rw [if_pos b] at h
      exact absurd rfl h
    · rw [if_neg b, if_neg b]
theorem getR_f (x : Int) : 0 ≤ (getR x).f := by
  unfold getR
  split
  · rename_i h
    unfold okW okE at h
    simp only [Bool.and_eq_true, decide_eq_true_eq] at h
    exact h.1.1.1.1
  · decide
theorem at_in (n : Nat) (c : Nat → Int) (root va : Int) (wr : Bool) (h0 : 0 ≤ va) (h : atF (entE n c) (entOk n c) root va wr = 0) : inR n (atFr (entE n c) (entOk n c) root va wr) (atPl (entE n c) (entOk n c) root va wr) := by
  have hp : pgF (entE n c) (entOk n c) root (va / 32 / 32) (va / 32 % 32) = 0 := by
    unfold atF at h
    by_cases a : 32768 ≤ va
    · rw [if_pos a] at h; cases h
    · rw [if_neg a] at h
      by_cases b : pgF (entE n c) (entOk n c) root (va / 32 / 32) (va / 32 % 32) = 0
      · exact b
      · rw [if_neg b] at h; exact absurd h b
  unfold atFr atPl
  rw [h]
  simp only [if_true]
  unfold atE
  unfold pgF at hp
  unfold pgE
  by_cases a1 : entOk n c root (va / 32 / 32) = true
  · by_cases a2 : (entE n c root (va / 32 / 32)).p = true
    · by_cases a3 : entOk n c (entE n c root (va / 32 / 32)).f (va / 32 % 32) = true
      · by_cases a4 : (entE n c (entE n c root (va / 32 / 32)).f (va / 32 % 32)).p = true
        · rw [a1, a2, a3, a4]
          simp only [Bool.and_self, if_true]
          generalize (entE n c root (va / 32 / 32)).f = t at a3 a4 ⊢
          generalize va / 32 % 32 = p at a3 a4 ⊢
          have he : entE n c t p = getR (rdW n c t p) := by unfold entE; rw [if_pos a3]
          rw [he] at a4 ⊢
          unfold entOk at a3
          rw [a4] at a3
          simp only [Bool.and_eq_true, Bool.true_and, Bool.not_eq_true', decide_eq_false_iff_not] at a3
          have := getR_f (rdW n c t p)
          exact ⟨this, by omega, by omega, by omega⟩
        · rw [if_pos a1, if_pos a2, if_pos a3, if_neg a4] at hp; cases hp
      · rw [if_pos a1, if_pos a2, if_neg a3] at hp; cases hp
    · rw [if_pos a1, if_neg a2] at hp; cases hp
  · rw [if_neg a1] at hp; cases hp
set_option maxHeartbeats 1600000 in
theorem walk_in (m : Nat) (v : Value) (l : List Cel) (root va x : Int) (w : World) (L : CelsAt w v l) (n1 : 1 ≤ m) (n2 : m ≤ 12) (n3 : l.length ≤ 200) (h0 : 0 ≤ va) (h1 : va < 4294967296) (hx : 0 ≤ x ∧ x < 4294967296) :
    Calls Try.prog 24 #[.int .i64 m, v, .int .i64 root, .int .u32 va, .int .u32 x] w fun e w' => e = .returned (.bool true) ∧ Keep nob w w' := by
  have FN := fine_ok m v l w L
  rw [(fineB_iff m l).2 ⟨by omega, by omega, n3⟩] at FN
  replace FN := Lib.hid FN
  have BO := Lib.hid (built_ok m v l w n1 (by omega) L)
  replace hx := Lib.hid hx
  clear L n3
  go_enter Try.func24, Try.ntmps24
  go_wp2_with fail
  refine Calls.mono FN.out ?_
  rintro r w1 ⟨rfl, rfl⟩
  go_wp2_with fail
  refine Calls.mono BO.out ?_
  rintro r w1 ⟨b, f, g, rfl, B⟩
  unfold refV
  obtain ⟨c, hc⟩ : ∃ c, c = memOf m l := ⟨_, rfl⟩
  rw [← hc] at B
  have hM := Lib.hid B.m
  have hfw := Lib.hid (show w.heap.size ≤ f from B.hf)
  have A1 := Lib.hid B.k
  have AT := fun W (M : MemAt W b f m c) => at_ok (entry_at M) root va true h0 h1
  have AF := fun W (M : MemAt W b f m c) => at_ok (entry_at M) root va false h0 h1
  have ST := fun W (M : MemAt W b f m c) => store_ok M root va x h0 h1 hx.out
  have hboth := at_both (entE m c) (entOk m c) root va
  have hfault := at_fault (entE m c) (entOk m c) root va
  have hin := at_in m c root va true h0
  clear hc B BO
  obtain ⟨F, hF⟩ : ∃ F, F = atF (entE m c) (entOk m c) root va true := ⟨_, rfl⟩
  obtain ⟨G, hG⟩ : ∃ G, G = atF (entE m c) (entOk m c) root va false := ⟨_, rfl⟩
  by_cases hF0 : F = 0
  · subst hF0
    obtain ⟨g1, g2, g3⟩ := hboth hF.symm
    have hin := Lib.hid (hin hF.symm)
    rw [g1, g2, g3] at AF
    unfold stW at ST
    rw [← hF] at AT ST
    obtain ⟨X, hX⟩ : ∃ X, X = atFr (entE m c) (entOk m c) root va true := ⟨_, rfl⟩
    obtain ⟨Y, hY⟩ : ∃ Y, Y = atPl (entE m c) (entOk m c) root va true := ⟨_, rfl⟩
    rw [← hX, ← hY] at AT AF ST hin
    simp only [if_true, if_pos hin.out] at ST
    clear hboth hfault hF hG g1 g2 g3 hX hY
    replace AT := Lib.hid AT
    replace AF := Lib.hid AF
    replace ST := Lib.hid ST
    go_wp2_with fail
    have M0 := hM.out.next ((Keep.refl nob w1).alloc (.cells #[.slice (some ⟨g, 0, none⟩) (m * 32) (m * 32)] 58))
    have A2 := Lib.hid (A1.out.alloc (.cells #[.slice (some ⟨g, 0, none⟩) (m * 32) (m * 32)] 58))
    refine Calls.mono (AT.out _ M0) ?_
    rintro r w2 ⟨rfl, K2⟩
    have M2 := Lib.hid (M0.next K2)
    have A3 := Lib.hid (A2.out.then K2)
    clear M0 A2 K2 hM A1
    go_wp2_with fail
    refine Calls.mono (AF.out _ M2.out) ?_
    rintro r w3 ⟨rfl, K3⟩
    have M3 := Lib.hid (M2.out.next K3)
    have A4 := Lib.hid (A3.out.then K3)
    clear M2 A3 K3 AT AF
    go_wp2_with fail
    refine Calls.mono (ST.out _ M3.out) ?_
    rintro r w4 ⟨rfl, M4, K4⟩
    have A5 := Lib.hid (A4.out.trans K4 (fun q hq e => by have e : q = f := e; have := hfw.out; omega))
    clear K4 A4 M3 ST
    obtain ⟨d, hd⟩ : ∃ d, d = upd c (X.toNat * 32 + Y.toNat) x := ⟨_, rfl⟩
    rw [← hd] at M4
    have hrd := Lib.hid (show rdW m d X Y = x by unfold rdW; rw [if_pos hin.out, hd]; simp [upd])
    have AF := fun W (M : MemAt W b f m d) => at_ok (entry_at M) root va false h0 h1
    have LD := fun W (M : MemAt W b f m d) => load_ok M root va h0 h1
    have RD := fun W (M : MemAt W b f m d) => rd_any M X Y
    unfold ldW at LD
    rw [hrd.out] at RD
    obtain ⟨H, hH⟩ : ∃ H, H = atF (entE m d) (entOk m d) root va false := ⟨_, rfl⟩
    obtain ⟨P, hP⟩ : ∃ P, P = atFr (entE m d) (entOk m d) root va false := ⟨_, rfl⟩
    obtain ⟨Q, hQ⟩ : ∃ Q, Q = atPl (entE m d) (entOk m d) root va false := ⟨_, rfl⟩
    rw [← hH, ← hP, ← hQ] at AF LD
    replace M4 := Lib.hid M4
    clear hH hP hQ hd
    have hcase : H ≠ 0 ∨ H = 0 ∧ P ≠ X ∨ H = 0 ∧ P = X ∧ Q ≠ Y ∨ H = 0 ∧ P = X ∧ Q = Y := by
      by_cases q1 : H = 0
      · by_cases q2 : P = X
        · by_cases q3 : Q = Y
          · exact Or.inr (Or.inr (Or.inr ⟨q1, q2, q3⟩))
          · exact Or.inr (Or.inr (Or.inl ⟨q1, q2, q3⟩))
        · exact Or.inr (Or.inl ⟨q1, q2⟩)
      · exact Or.inl q1
    replace AF := Lib.hid AF
    replace RD := Lib.hid RD
    rcases hcase with q1 | ⟨rfl, q2⟩ | ⟨rfl, q2, q3⟩ | ⟨rfl, q2, q3⟩
    · have t1 : (H != 0) = true := by simpa using q1
      simp only [if_neg q1] at LD
      replace LD := Lib.hid LD
      clear q1
      go_wp2_with fail
      refine Calls.mono (AF.out _ M4.out) ?_
      rintro r w5 ⟨rfl, K5⟩
      have M5 := Lib.hid (M4.out.next K5)
      have A6 := Lib.hid (A5.out.then K5)
      clear M4 A5 K5 AF
      go_wp2_with fail
      refine Calls.mono (LD.out _ M5.out) ?_
      rintro r w6 ⟨rfl, K6⟩
      have M6 := Lib.hid (M5.out.next K6)
      have A7 := Lib.hid (A6.out.then K6)
      clear M5 A6 K6 LD
      go_wp2_with fail
      refine Calls.mono (RD.out _ M6.out) ?_
      rintro r w7 ⟨⟨C7, rfl⟩, K7⟩
      have A8 := Lib.hid (A7.out.then K7)
      clear M6 A7 K7 RD
      go_wp2_with fail
      refine Calls.mono (awake03 _) ?_
      rintro r w9 ⟨rfl, K9⟩
      go_wp2_with fail
      go_ret
      exact ⟨rfl, A8.out.then K9⟩
    · have t1 : (P != X) = true := by simpa using q2
      simp only [if_true] at LD
      obtain ⟨R, hR⟩ : ∃ R, R = rdW m d P Q := ⟨_, rfl⟩
      rw [← hR] at LD
      replace LD := Lib.hid LD
      clear q2 hR
      go_wp2_with fail
      refine Calls.mono (AF.out _ M4.out) ?_
      rintro r w5 ⟨rfl, K5⟩
      have M5 := Lib.hid (M4.out.next K5)
      have A6 := Lib.hid (A5.out.then K5)
      clear M4 A5 K5 AF
      go_wp2_with fail
      refine Calls.mono (LD.out _ M5.out) ?_
      rintro r w6 ⟨rfl, K6⟩
      have M6 := Lib.hid (M5.out.next K6)
      have A7 := Lib.hid (A6.out.then K6)
      clear M5 A6 K6 LD
      go_wp2_with fail
      refine Calls.mono (RD.out _ M6.out) ?_
      rintro r w7 ⟨⟨C7, rfl⟩, K7⟩
      have A8 := Lib.hid (A7.out.then K7)
      clear M6 A7 K7 RD
      go_wp2_with fail
      refine Calls.mono (awake03 _) ?_
      rintro r w9 ⟨rfl, K9⟩
      go_wp2_with fail
      go_ret
      exact ⟨rfl, A8.out.then K9⟩
    · subst q2
      have t1 : (Q != Y) = true := by simpa using q3
      simp only [if_true] at LD
      obtain ⟨R, hR⟩ : ∃ R, R = rdW m d P Q := ⟨_, rfl⟩
      rw [← hR] at LD
      replace LD := Lib.hid LD
      clear q3 hR
      go_wp2_with fail
      refine Calls.mono (AF.out _ M4.out) ?_
      rintro r w5 ⟨rfl, K5⟩
      have M5 := Lib.hid (M4.out.next K5)
      have A6 := Lib.hid (A5.out.then K5)
      clear M4 A5 K5 AF
      go_wp2_with fail
      refine Calls.mono (LD.out _ M5.out) ?_
      rintro r w6 ⟨rfl, K6⟩
      have M6 := Lib.hid (M5.out.next K6)
      have A7 := Lib.hid (A6.out.then K6)
      clear M5 A6 K6 LD
      go_wp2_with fail
      refine Calls.mono (RD.out _ M6.out) ?_
      rintro r w7 ⟨⟨C7, rfl⟩, K7⟩
      have A8 := Lib.hid (A7.out.then K7)
      clear M6 A7 K7 RD
      go_wp2_with fail
      refine Calls.mono (awake03 _) ?_
      rintro r w9 ⟨rfl, K9⟩
      go_wp2_with fail
      go_ret
      exact ⟨rfl, A8.out.then K9⟩
    · subst q2 q3
      simp only [if_true, hrd.out] at LD
      replace LD := Lib.hid LD
      go_wp2_with fail
      refine Calls.mono (AF.out _ M4.out) ?_
      rintro r w5 ⟨rfl, K5⟩
      have M5 := Lib.hid (M4.out.next K5)
      have A6 := Lib.hid (A5.out.then K5)
      clear M4 A5 K5 AF
      go_wp2_with fail
      refine Calls.mono (LD.out _ M5.out) ?_
      rintro r w6 ⟨rfl, K6⟩
      have M6 := Lib.hid (M5.out.next K6)
      have A7 := Lib.hid (A6.out.then K6)
      clear M5 A6 K6 LD
      go_wp2_with fail
      refine Calls.mono (RD.out _ M6.out) ?_
      rintro r w7 ⟨⟨C7, rfl⟩, K7⟩
      have A8 := Lib.hid (A7.out.then K7)
      clear M6 A7 K7 RD
      go_wp2_with fail
      refine Calls.mono (awake03 _) ?_
      rintro r w9 ⟨rfl, K9⟩
      go_wp2_with fail
      go_ret
      exact ⟨rfl, A8.out.then K9⟩
  · have hfr : atFr (entE m c) (entOk m c) root va true = 0 := by unfold atFr; rw [← hF, if_neg hF0]
    have hpl : atPl (entE m c) (entOk m c) root va true = 0 := by unfold atPl; rw [← hF, if_neg hF0]
    unfold stW at ST
    rw [hfr, hpl] at AT
    rw [← hF] at AT ST
    simp only [if_neg hF0] at ST
    obtain ⟨X, hX⟩ : ∃ X, X = atFr (entE m c) (entOk m c) root va false := ⟨_, rfl⟩
    obtain ⟨Y, hY⟩ : ∃ Y, Y = atPl (entE m c) (entOk m c) root va false := ⟨_, rfl⟩
    rw [← hG, ← hX, ← hY] at AF
    have hgf : G = 0 ∨ G = F ∧ (F != 0) = true := by
      by_cases q : G = 0
      · exact Or.inl q
      · refine Or.inr ⟨?_, by simpa using hF0⟩
        rw [hF, hG]
        exact (hfault (by rw [← hG]; exact q)).symm
    have t1 : (F == 0) = false := by simpa using hF0
    have t2 : (F != 0) = true := by simpa using hF0
    replace AT := Lib.hid AT
    replace AF := Lib.hid AF
    replace ST := Lib.hid ST
    clear hboth hfault hin hF hG hX hY hfr hpl hF0
    rcases hgf with rfl | ⟨rfl, _⟩
    all_goals
      go_wp2_with fail
      have M0 := hM.out.next ((Keep.refl nob w1).alloc (.cells #[.slice (some ⟨g, 0, none⟩) (m * 32) (m * 32)] 58))
      have A2 := Lib.hid (A1.out.alloc (.cells #[.slice (some ⟨g, 0, none⟩) (m * 32) (m * 32)] 58))
      refine Calls.mono (AT.out _ M0) ?_
      rintro r w2 ⟨rfl, K2⟩
      have M2 := Lib.hid (M0.next K2)
      have A3 := Lib.hid (A2.out.then K2)
      clear M0 A2 K2 hM A1
      go_wp2_with fail
      refine Calls.mono (AF.out _ M2.out) ?_
      rintro r w3 ⟨rfl, K3⟩
      have M3 := Lib.hid (M2.out.next K3)
      have A4 := Lib.hid (A3.out.then K3)
      clear M2 A3 K3 AT AF
      go_wp2_with fail
      refine Calls.mono (ST.out _ M3.out) ?_
      rintro r w4 ⟨rfl, M4, K4⟩
      have A5 := Lib.hid (A4.out.trans K4 (fun q hq e => by have e : q = f := e; have := hfw.out; omega))
      clear K4 A4 M3 ST M4
      go_wp2_with fail
      refine Calls.mono (awake03 _) ?_
      rintro r w9 ⟨rfl, K9⟩
      go_wp2_with fail
      go_ret
      exact ⟨rfl, A5.out.then K9⟩
theorem walk (n : Int) (v : Value) (l : List Cel) (root va x : Int) (w : World) (wn : (Lit.int .i64 n).wf = true) (L : CelsAt w v l) (wroot : (Lit.int .i64 root).wf = true) (wva : (Lit.int .u32 va).wf = true) (wx : (Lit.int .u32 x).wf = true) :
    Calls Try.prog 24 #[.int .i64 n, v, .int .i64 root, .int .u32 va, .int .u32 x] w fun e w' => e = .returned (.bool true) ∧ Keep nob w w' := by
  have FN := fine_ok n v l w L
  have HB := fineB_iff n l
  obtain ⟨FB, hFB⟩ : ∃ FB, FB = fineB n l := ⟨_, rfl⟩
  rw [← hFB] at FN HB
  cases FB with
  | true =>
    obtain ⟨n1, n2, n3⟩ := HB.1 rfl
    obtain ⟨m, rfl⟩ : ∃ m : Nat, n = m := ⟨n.toNat, by omega⟩
    exact walk_in m v l root va x w L (by omega) (by omega) n3 (u32_wf wva).1 (u32_wf wva).2 (u32_wf wx)
  | false =>
    replace FN := Lib.hid FN
    clear L hFB HB wn wroot wva wx
    go_enter Try.func24, Try.ntmps24
    go_wp2_with fail
    refine Calls.mono FN.out ?_
    rintro r w1 ⟨rfl, rfl⟩
    go_wp2_with fail
    refine Calls.mono (awake03 _) ?_
    rintro r w9 ⟨rfl, K⟩
    go_wp2_with fail
    go_ret
    exact ⟨rfl, K⟩
set_option maxRecDepth 100000 in
theorem lifted (os : Os) (started : os.Started) (H : Type) (enc : TypeId × Value → H) :
    ReturnsInHanded {} Try.checked os 24 .any (Rows.walkBothSpec.pre6 enc Try.prog Try.f24 Rows.walkBothRow.domain false) (Rows.walkBothSpec.post enc Try.prog Try.f24 false true false false) := by
  refine returnsInHanded_of_change (C := Try.checked) Head.own started (by kernel_rfl) Try.func24
    (ChangeSpec.witness6 (enc := enc) (C := Try.checked) false ⟨#[], #[.int .i64 0, .slice none 0 0, .int .i64 0, .int .u32 0, .int .u32 0], []⟩ 8 (by kernel_rfl) (by kernel_rfl) (by kernel_rfl) (by kernel_rfl)) ?_
  intro W base args ds gs before hval0 hW hcnd _
  have hval : ∀ (j : Nat) t v, Try.f24.params[j]? = some t → args[j]? = some v → Value.okWide Try.prog W .any base t v := hval0
  have hW' := hW
  obtain ⟨p, q, hA0, hV, rfl, hfz, hnd⟩ := hW
  have hA : DataW.TrodAll enc Try.prog W 0 (fun _ => true) true Try.f24.params.toList args.toList ds p := hA0
  rw [Try.params24] at hA hval
  obtain ⟨v0, vs0, d0, ds0, p0, q0, hargs, rfl, rfl, h0, r0⟩ := trodAll_cons hA
  obtain ⟨v1, vs1, d1, ds1, p1, q1, rfl, rfl, rfl, h1, r1⟩ := trodAll_cons r0
  obtain ⟨v2, vs2, d2, ds2, p2, q2, rfl, rfl, rfl, h2, r2⟩ := trodAll_cons r1
  obtain ⟨v3, vs3, d3, ds3, p3, q3, rfl, rfl, rfl, h3, r3⟩ := trodAll_cons r2
  obtain ⟨v4, vs4, d4, ds4, p4, q4, rfl, rfl, rfl, h4, r4⟩ := trodAll_cons r3
  obtain ⟨rfl, rfl, rfl⟩ := trodAll_nil r4
  obtain rfl : args = #[v0, v1, v2, v3, v4] := by cases args; simp_all
  obtain ⟨rfl, rfl⟩ := trodVars_none hV
  have k0 := h0
  have lt0 : ∀ x ∈ p0, x.block < W.heap.size := by obtain ⟨m, hm⟩ := k0; exact DataW.trod_lt m _ _ _ hm
  obtain ⟨a0, rfl, rfl, rfl, w0⟩ := open_int Try.underlying3 (hval 0 3 v0 rfl rfl) h0
  have k1 := h1
  have lt1 : ∀ x ∈ p1, x.block < W.heap.size := by obtain ⟨m, hm⟩ := k1; exact DataW.trod_lt m _ _ _ hm
  obtain ⟨a1, w1⟩ := open_cels (hval 1 90 v1 rfl rfl) h1
  have k2 := h2
  have lt2 : ∀ x ∈ p2, x.block < W.heap.size := by obtain ⟨m, hm⟩ := k2; exact DataW.trod_lt m _ _ _ hm
  obtain ⟨a2, rfl, rfl, rfl, w2⟩ := open_int Try.underlying3 (hval 2 3 v2 rfl rfl) h2
  have k3 := h3
  have lt3 : ∀ x ∈ p3, x.block < W.heap.size := by obtain ⟨m, hm⟩ := k3; exact DataW.trod_lt m _ _ _ hm
  obtain ⟨a3, rfl, rfl, rfl, w3⟩ := open_int Try.underlying23 (hval 3 23 v3 rfl rfl) h3
  have k4 := h4
  have lt4 : ∀ x ∈ p4, x.block < W.heap.size := by obtain ⟨m, hm⟩ := k4; exact DataW.trod_lt m _ _ _ hm
  obtain ⟨a4, rfl, rfl, rfl, w4⟩ := open_int Try.underlying23 (hval 4 23 v4 rfl rfl) h4
  clear hA0 hval0
  refine (walk a0 v1 a1 a2 a3 a4 W w0 w1 w2 w3 w4).mono fun e W' ⟨he, kp⟩ => ?_
  subst he
  have bel := kp.below
  exact ⟨_, rfl, _, _, _, [], _, [], hW', trodAll_mk1 (shut_bool Try.underlying4 _), (trodAll_cons_mk (shut_int Try.underlying3 w0) (trodAll_cons_mk (Below.trod Head.laidOut (by kernel_rfl) (of_decide_eq_true (by kernel_rfl)) k1 bel lt1) (trodAll_cons_mk (shut_int Try.underlying3 w2) (trodAll_cons_mk (shut_int Try.underlying23 w3) (trodAll_cons_mk (shut_int Try.underlying23 w4) trodAll_mk0))))), rfl, bel.frame _, fun h => by cases h⟩
theorem closed : joinedFacts Try.prog 24 Try.f24 Rows.walkBothSpec Rows.walkBothRow = true := by
  unfold joinedFacts
  rw [Head.mayEnter, Head.liftsFinal, Head.make]
  kernel_rfl
theorem over : Rows.walkBothRow.holds Try.pinned (OpenSpec.ofChange Rows.walkBothSpec) :=
  OpenClaim.holds_of_wide 24 Try.f24 rfl rfl rfl rfl rfl rfl rfl ⟨rfl, rfl, rfl, rfl, rfl⟩ rfl rfl rfl rfl rfl (by kernel_rfl) Try.func24 closed
    (of_decide_eq_true (by kernel_rfl)) (by unfold Func.isWrapper; first | (rw [if_pos (by decide +kernel)]; kernel_rfl) | (rw [if_neg (by decide +kernel)]; exact ⟨rfl, rfl⟩))
    (fun os started H enc _ => lifted os started H enc)
theorem proved : Rows.WalkBothSaid := over
end Go.Proofs.Ytkkkmaigcnpmeaa.walkBoth
