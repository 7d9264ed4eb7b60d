/- Where a table is missing, it is so for all 32 pages of it, and Look tells what the walk does. Condition: 1 to 12 frames, at most 200 words. -/
import Derived.Test.YtkkkmaigcnpmeaaWalkAwake
import Derived.Test.YtkkkmaigcnpmeaaHead
namespace Go.Proofs.Ytkkkmaigcnpmeaa.walkTables
open Go.ChangeShapes Go.WideShapes Go.ChangeAt Go.RowKit Go.Deep
set_option linter.unusedVariables false
set_option maxRecDepth 100000
theorem pgF_two (e : Int → Int → Ent) (ok : Int → Int → Bool) (root i k k' : Int) : (pgF e ok root i k == 2) = (pgF e ok root i k' == 2) := by
  unfold pgF
  by_cases a1 : ok root i = true <;> by_cases a2 : (e root i).p = true
  · simp only [a1, a2, if_true]
    (repeat' split) <;> rfl
  all_goals simp [a1, a2]
theorem atF_page (e : Int → Int → Ent) (ok : Int → Int → Bool) (root q : Int) (p0 : 0 ≤ q) (p1 : q < 1024) : atF e ok root (q * 32) false = pgF e ok root (q / 32) (q % 32) := by
  unfold atF
  rw [if_neg (show ¬ 32768 ≤ q * 32 by omega), show q * 32 / 32 = q by omega]
  by_cases h : pgF e ok root (q / 32) (q % 32) = 0
  · rw [if_pos h, h]; rfl
  · rw [if_neg h]
theorem pgE_p (e : Int → Int → Ent) (ok : Int → Int → Bool) (root i k : Int) : (pgE e ok root i k).p = (pgF e ok root i k == 0) := by
  unfold pgE pgF
  by_cases a1 : ok root i = true <;> by_cases a2 : (e root i).p = true <;> by_cases a3 : ok (e root i).f k = true <;> by_cases a4 : (e (e root i).f k).p = true <;> simp [a1, a2, a3, a4, Ent.zero]
def TbI (w w1 : World) (v : Value) (wr : World) : Prop := ∃ k : Nat, v = .int .i64 k ∧ k ≤ 32 ∧ Keep nob w1 wr ∧ Keep nob w wr
set_option maxHeartbeats 1600000 in
theorem walk_in (m : Nat) (v : Value) (l : List Cel) (root page : Int) (w : World) (L : CelsAt w v l) (n1 : 1 ≤ m) (n2 : m ≤ 12) (n3 : l.length ≤ 200) (p0 : 0 ≤ page) (p1 : page < 1024) :
    Calls Try.prog 26 #[.int .i64 m, v, .int .i64 root, .int .i64 page] w fun e w' => e = .returned (.bool true) ∧ Keep nob w w' := by
  have FN := fine_ok m v l w L
  rw [(fineB_iff m l).2 ⟨by omega, by omega, n3⟩] at FN
  have FN := Lib.hid FN
  have BO := Lib.hid (built_ok m v l w n1 (by omega) L)
  have t1 : decide (page < 0) = false := by simpa using p0
  have t2 : decide (1024 ≤ page) = false := by simpa using p1
  clear L n3
  go_enter Try.func26, Try.ntmps26
  go_wp2_with fail
  refine Calls.mono FN.out ?_
  rintro r w1 ⟨rfl, rfl⟩
  go_wp2_with fail
  refine Calls.mono BO.out ?_
  rintro r w1 ⟨b, f, g, rfl, B⟩
  unfold refV
  have EN := entry_at B.m
  have LK := fun W (K : Keep nob w1 W) => look_ok (B.m.next K) root page
  obtain ⟨e, he⟩ : ∃ e, e = entE m (memOf m l) := ⟨_, rfl⟩
  obtain ⟨ok, hok⟩ : ∃ ok, ok = entOk m (memOf m l) := ⟨_, rfl⟩
  rw [← he, ← hok] at EN LK
  have A1 := Lib.hid B.k
  have AT0 := fun W (K : Keep nob w1 W) => at_ok (EN.next K) root (page * 32) false (by omega) (by omega)
  have ATi := fun W (K : Keep nob w1 W) (i : Int) (i0 : 0 ≤ i) (i1 : i < 32) => at_ok (EN.next K) root ((page - page % 32 + i) * 32) false (by omega) (by omega)
  have hG : ∀ i : Int, 0 ≤ i → i < 32 → (atF e ok root ((page - page % 32 + i) * 32) false == 2) = (pgF e ok root (page / 32) (page % 32) == 2) := fun i i0 i1 => by
    rw [atF_page e ok root (page - page % 32 + i) (by omega) (by omega), show (page - page % 32 + i) / 32 = page / 32 by omega]
    exact pgF_two _ _ _ _ _ _
  rw [atF_page e ok root page p0 p1] at AT0
  have hc := pgF_cases e ok root (page / 32) (page % 32)
  have hx := pgE_p e ok root (page / 32) (page % 32)
  unfold lkE lkF at LK
  simp only [if_pos (show 0 ≤ page ∧ page < 1024 from ⟨p0, p1⟩)] at LK
  obtain ⟨F, hF⟩ : ∃ F, F = pgF e ok root (page / 32) (page % 32) := ⟨_, rfl⟩
  obtain ⟨X, hX⟩ : ∃ X, X = pgE e ok root (page / 32) (page % 32) := ⟨_, rfl⟩
  rw [← hF] at hc
  rw [← hF, ← hX] at hx
  simp only [← hF] at AT0 hG
  simp only [← hF, ← hX] at LK
  obtain ⟨Y, hY⟩ : ∃ Y, Y = atFr e ok root (page * 32) false := ⟨_, rfl⟩
  obtain ⟨Z, hZ⟩ : ∃ Z, Z = atPl e ok root (page * 32) false := ⟨_, rfl⟩
  rw [← hY, ← hZ] at AT0
  obtain ⟨p, q, c, ff⟩ := X
  replace hx : p = (F == 0) := hx
  unfold Ent.val at LK
  have AT0 := Lib.hid AT0
  replace ATi := Lib.hid ATi
  replace hG := Lib.hid hG
  clear hF hX he hok EN B BO hY hZ
  have A2 := Lib.hid (A1.out.alloc (.cells #[.slice (some ⟨g, 0, none⟩) (m * 32) (m * 32)] 58))
  rcases hc with rfl | rfl | rfl | rfl
  all_goals
    simp only [Int.reduceEq, if_true, if_false] at LK
    replace LK := Lib.hid LK
    subst hx
    go_wp2_with fail
    refine Calls.mono (AT0.out _ ((Keep.refl _ _).alloc _)) ?_
    rintro r w2 ⟨rfl, K2⟩
    have K12 := Lib.hid (((Keep.refl nob w1).alloc _).then K2)
    have A3 := Lib.hid (A2.out.then K2)
    clear K2 A2 AT0
    go_wp2_with fail
    refine Calls.mono (LK.out _ K12.out) ?_
    rintro r w3 ⟨rfl, K3⟩
    have K13 := Lib.hid (fun p' => (K12.out.then K3).alloc (.cells #[.bool p', .bool q, .bool c, .int .i64 ff] 47))
    have A4 := Lib.hid (fun p' => (A3.out.then K3).alloc (.cells #[.bool p', .bool q, .bool c, .int .i64 ff] 47))
    clear K3 K12 A3 LK
    go_wp2_with fail
    go_loopw [18] (fun i' wr' => TbI w w1 i' wr') (fun i' _ => (32 - intOf i').toNat)
    case atStart => exact ⟨0, rfl, by decide, K13.out _, A4.out _⟩
    case round =>
      clear K13 A4
      obtain ⟨k, rfl, hk, K, A⟩ := hrel
      by_cases hlt : k < 32
      · have b1 : ((k : Int) < 32) := by omega
        have AT := ATi.out _ K k (by omega) b1
        have hg := hG.out k (by omega) b1
        obtain ⟨G, eG⟩ : ∃ G, G = atF e ok root ((page - page % 32 + k) * 32) false := ⟨_, rfl⟩
        obtain ⟨Y', hY⟩ : ∃ Y, Y = atFr e ok root ((page - page % 32 + k) * 32) false := ⟨_, rfl⟩
        obtain ⟨Z', hZ⟩ : ∃ Z, Z = atPl e ok root ((page - page % 32 + k) * 32) false := ⟨_, rfl⟩
        rw [← eG, ← hY, ← hZ] at AT
        rw [← eG] at hg
        simp only [Int.reduceBEq] at hg
        have AT := Lib.hid AT
        have K := Lib.hid K
        have A := Lib.hid A
        clear eG hY hZ
        go_wp2_with fail
        refine Calls.mono AT.out ?_
        rintro r w5 ⟨rfl, K5⟩
        have K6 := Lib.hid (K.out.then K5)
        have A6 := Lib.hid (A.out.then K5)
        clear AT K A K5
        go_wp2_with fail
        go_roundw
        case rel => exact ⟨k + 1, by go_num, by omega, K6.out, A6.out⟩
        case measure => simp [intOf]; omega
      · obtain rfl : k = 32 := by omega
        have A := Lib.hid A
        clear hlt hk K
        go_wp2_with fail
        refine Calls.mono (awake03 _) ?_
        rintro r w9 ⟨rfl, K9⟩
        go_wp2_with fail
        go_ret
        exact ⟨rfl, A.out.then K9⟩
theorem walk (n : Int) (v : Value) (l : List Cel) (root page : Int) (w : World) (wn : (Lit.int .i64 n).wf = true) (L : CelsAt w v l) (wroot : (Lit.int .i64 root).wf = true) (wva : (Lit.int .i64 page).wf = true) :
    Calls Try.prog 26 #[.int .i64 n, v, .int .i64 root, .int .i64 page] w fun e w' => e = .returned (.bool true) ∧ Keep nob w w' := by
  have FN := fine_ok n v l w L
  have HB := fineB_iff n l
  obtain ⟨FB, hFB⟩ : ∃ FB, FB = fineB n l := ⟨_, rfl⟩
  rw [← hFB] at FN HB
  by_cases h : FB = true ∧ 0 ≤ page ∧ page < 1024
  · obtain ⟨n1, n2, n3⟩ := HB.1 h.1
    obtain ⟨m, rfl⟩ : ∃ m : Nat, n = m := ⟨n.toNat, by omega⟩
    exact walk_in m v l root page w L (by omega) (by omega) n3 h.2.1 h.2.2
  · obtain ⟨T1, t1⟩ : ∃ T, decide (page < 0) = T := ⟨_, rfl⟩
    obtain ⟨T2, t2⟩ : ∃ T, decide (1024 ≤ page) = T := ⟨_, rfl⟩
    have HT : FB = false ∨ FB = true ∧ T1 = true ∨ FB = true ∧ T1 = false ∧ T2 = true := by
      rw [← t1, ← t2]
      simp only [decide_eq_true_eq, decide_eq_false_iff_not]
      cases FB
      · exact Or.inl rfl
      · simp only [true_and] at h
        by_cases q : page < 0
        · exact Or.inr (Or.inl ⟨rfl, q⟩)
        · exact Or.inr (Or.inr ⟨rfl, q, by omega⟩)
    have FN := Lib.hid FN
    clear h L hFB HB wn wroot wva
    rcases HT with rfl | ⟨rfl, rfl⟩ | ⟨rfl, rfl, rfl⟩
    all_goals
      go_enter Try.func26, Try.ntmps26
      go_wp2_with fail
      refine Calls.mono FN.out ?_
      rintro r w1 ⟨rfl, rfl⟩
      go_wp2_with fail
      refine Calls.mono (awake03 _) ?_
      rintro r w9 ⟨rfl, K⟩
      go_wp2_with fail
      go_ret
      exact ⟨rfl, K⟩
set_option maxRecDepth 100000 in
theorem lifted (os : Os) (started : os.Started) (H : Type) (enc : TypeId × Value → H) :
    ReturnsInHanded {} Try.checked os 26 .any (Rows.walkTablesSpec.pre6 enc Try.prog Try.f26 Rows.walkTablesRow.domain false) (Rows.walkTablesSpec.post enc Try.prog Try.f26 false true false false) := by
  refine returnsInHanded_of_change (C := Try.checked) Head.own started (by kernel_rfl) Try.func26
    (ChangeSpec.witness6 (enc := enc) (C := Try.checked) false ⟨#[], #[.int .i64 0, .slice none 0 0, .int .i64 0, .int .i64 0], []⟩ 8 (by kernel_rfl) (by kernel_rfl) (by kernel_rfl) (by kernel_rfl)) ?_
  intro W base args ds gs before hval0 hW hcnd _
  have hval : ∀ (j : Nat) t v, Try.f26.params[j]? = some t → args[j]? = some v → Value.okWide Try.prog W .any base t v := hval0
  have hW' := hW
  obtain ⟨p, q, hA0, hV, rfl, hfz, hnd⟩ := hW
  have hA : DataW.TrodAll enc Try.prog W 0 (fun _ => true) true Try.f26.params.toList args.toList ds p := hA0
  rw [Try.params26] at hA hval
  obtain ⟨v0, vs0, d0, ds0, p0, q0, hargs, rfl, rfl, h0, r0⟩ := trodAll_cons hA
  obtain ⟨v1, vs1, d1, ds1, p1, q1, rfl, rfl, rfl, h1, r1⟩ := trodAll_cons r0
  obtain ⟨v2, vs2, d2, ds2, p2, q2, rfl, rfl, rfl, h2, r2⟩ := trodAll_cons r1
  obtain ⟨v3, vs3, d3, ds3, p3, q3, rfl, rfl, rfl, h3, r3⟩ := trodAll_cons r2
  obtain ⟨rfl, rfl, rfl⟩ := trodAll_nil r3
  obtain rfl : args = #[v0, v1, v2, v3] := by cases args; simp_all
  obtain ⟨rfl, rfl⟩ := trodVars_none hV
  have k0 := h0
  have lt0 : ∀ x ∈ p0, x.block < W.heap.size := by obtain ⟨m, hm⟩ := k0; exact DataW.trod_lt m _ _ _ hm
  obtain ⟨a0, rfl, rfl, rfl, w0⟩ := open_int Try.underlying3 (hval 0 3 v0 rfl rfl) h0
  have k1 := h1
  have lt1 : ∀ x ∈ p1, x.block < W.heap.size := by obtain ⟨m, hm⟩ := k1; exact DataW.trod_lt m _ _ _ hm
  obtain ⟨a1, w1⟩ := open_cels (hval 1 90 v1 rfl rfl) h1
  have k2 := h2
  have lt2 : ∀ x ∈ p2, x.block < W.heap.size := by obtain ⟨m, hm⟩ := k2; exact DataW.trod_lt m _ _ _ hm
  obtain ⟨a2, rfl, rfl, rfl, w2⟩ := open_int Try.underlying3 (hval 2 3 v2 rfl rfl) h2
  have k3 := h3
  have lt3 : ∀ x ∈ p3, x.block < W.heap.size := by obtain ⟨m, hm⟩ := k3; exact DataW.trod_lt m _ _ _ hm
  obtain ⟨a3, rfl, rfl, rfl, w3⟩ := open_int Try.underlying3 (hval 3 3 v3 rfl rfl) h3
  clear hA0 hval0
  refine (walk a0 v1 a1 a2 a3 W w0 w1 w2 w3).mono fun e W' ⟨he, kp⟩ => ?_
  subst he
  have bel := kp.below
  exact ⟨_, rfl, _, _, _, [], _, [], hW', trodAll_mk1 (shut_bool Try.underlying4 _), (trodAll_cons_mk (shut_int Try.underlying3 w0) (trodAll_cons_mk (Below.trod Head.laidOut (by kernel_rfl) (of_decide_eq_true (by kernel_rfl)) k1 bel lt1) (trodAll_cons_mk (shut_int Try.underlying3 w2) (trodAll_cons_mk (shut_int Try.underlying3 w3) trodAll_mk0)))), rfl, bel.frame _, fun h => by cases h⟩
theorem closed : joinedFacts Try.prog 26 Try.f26 Rows.walkTablesSpec Rows.walkTablesRow = true := by
  unfold joinedFacts
  rw [Head.mayEnter, Head.liftsFinal, Head.make]
  kernel_rfl
theorem over : Rows.walkTablesRow.holds Try.pinned (OpenSpec.ofChange Rows.walkTablesSpec) :=
  OpenClaim.holds_of_wide 26 Try.f26 rfl rfl rfl rfl rfl rfl rfl ⟨rfl, rfl, rfl, rfl, rfl⟩ rfl rfl rfl rfl rfl (by kernel_rfl) Try.func26 closed
    (of_decide_eq_true (by kernel_rfl)) (by unfold Func.isWrapper; first | (rw [if_pos (by decide +kernel)]; kernel_rfl) | (rw [if_neg (by decide +kernel)]; exact ⟨rfl, rfl⟩))
    (fun os started H enc _ => lifted os started H enc)
theorem proved : Rows.WalkTablesSaid := over
end Go.Proofs.Ytkkkmaigcnpmeaa.walkTables
