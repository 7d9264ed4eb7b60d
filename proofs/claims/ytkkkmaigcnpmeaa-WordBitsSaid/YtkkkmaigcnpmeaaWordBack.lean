/- An entry that is put is got back, a word that is taken is put so, and unlike entries have unlike words. Condition: none. -/
import Derived.Test.YtkkkmaigcnpmeaaEnt
namespace Go.Proofs.Ytkkkmaigcnpmeaa.wordBack
open Go.ChangeShapes Go.WideShapes Go.ChangeAt Go.RowKit
set_option linter.unusedVariables false
set_option maxRecDepth 100000
theorem ok_parts {e : Ent} (h : okE e = true) : 0 ≤ e.f ∧ e.f < 1024 := by
  simp only [okE, Bool.and_eq_true, decide_eq_true_eq] at h
  exact h.1.1
theorem entOf_put {e : Ent} (h : okE e = true) : entOf (putW e) = e := by
  obtain ⟨h0, h1⟩ := ok_parts h
  obtain ⟨p, w, c, f⟩ := e
  simp only at h0 h1
  unfold entOf putW bit
  have a1 : ∀ n : Int, n % 2 = 1 → decide (n % 2 = 1) = true := fun n h => by simp [h]
  cases p <;> cases w <;> cases c <;> simp only [if_true, if_false, Bool.false_eq_true, Ent.mk.injEq, decide_eq_true_eq, decide_eq_false_iff_not] <;> refine ⟨?_, ?_, ?_, ?_⟩ <;> omega
theorem put_range {e : Ent} (h : okE e = true) : 0 ≤ putW e ∧ putW e < 4294967296 := by
  obtain ⟨h0, h1⟩ := ok_parts h
  obtain ⟨p, w, c, f⟩ := e
  simp only at h0 h1
  unfold putW bit
  cases p <;> cases w <;> cases c <;> simp only [if_true, if_false, Bool.false_eq_true] <;> omega
theorem okW_put {e : Ent} (h : okE e = true) : okW (putW e) = true := by
  simp [okW, entOf_put h, h]
theorem get_put {e : Ent} (h : okE e = true) : getR (putR e) = e ∧ gchk (putR e) = 0 := by
  simp [getR, gchk, putR, h, okW_put h, entOf_put h]
theorem put_inj {e d : Ent} (h : okE e = true) (k : okE d = true) : putW e = putW d ↔ e = d :=
  ⟨fun q => by rw [← entOf_put h, q, entOf_put k], fun q => by rw [q]⟩
theorem put_get {x : Int} (h : okW x = true) : putR (getR x) = x ∧ chk (getR x) = 0 := by
  have h' := h
  simp only [okW, Bool.and_eq_true, decide_eq_true_eq] at h'
  simp [getR, h, putR, chk, h'.1, h'.2]

set_option maxHeartbeats 6400000 in
theorem walk_gen (x y u1 u2 : Ent) (z A B E F G K' I V : Int) (w : World)
    (q1 : ∀ W, Calls Try.prog 37 #[x.val] W fun r w' => r = .returned (.tuple #[.int .u32 A, .int .i64 E]) ∧ Keep nob W w')
    (q2 : ∀ W, Calls Try.prog 37 #[y.val] W fun r w' => r = .returned (.tuple #[.int .u32 B, .int .i64 F]) ∧ Keep nob W w')
    (q3 : ∀ W, Calls Try.prog 42 #[.int .u32 A] W fun r w' => r = .returned (.tuple #[u1.val, .int .i64 G]) ∧ Keep nob W w')
    (q4 : ∀ W, Calls Try.prog 42 #[.int .u32 z] W fun r w' => r = .returned (.tuple #[u2.val, .int .i64 K']) ∧ Keep nob W w')
    (q5 : ∀ W, Calls Try.prog 37 #[u2.val] W fun r w' => r = .returned (.tuple #[.int .u32 V, .int .i64 I]) ∧ Keep nob W w')
    (hE : (E = 0 ∧ G = 0 ∧ u1 = x ∧ ((F = 0 ∧ (A == B) = true ∧ x = y) ∨ (F = 0 ∧ (A == B) = false ∧ x ≠ y) ∨ F = 2)) ∨ E = 2)
    (hK : (K' = 0 ∧ I = 0 ∧ V = z) ∨ K' = 6) :
    Calls Try.prog 9 #[x.val, y.val, .int .u32 z] w fun r w' => r = .returned (.bool true) ∧ Keep nob w w' := by
  have H1 := Lib.hid q1
  have H2 := Lib.hid q2
  have H3 := Lib.hid q3
  have H4 := Lib.hid q4
  have H5 := Lib.hid q5
  clear q1 q2 q3 q4 q5
  obtain ⟨p, wr, c, f⟩ := x
  obtain ⟨p', wr', c', f'⟩ := y
  obtain ⟨p1, wr1, k1, f1⟩ := u1
  obtain ⟨p2, wr2, k2, f2⟩ := u2
  rcases hE with ⟨rfl, rfl, hu, ⟨rfl, hn, hxy⟩ | ⟨rfl, hn, hxy⟩ | rfl⟩ | rfl <;> rcases hK with ⟨rfl, rfl, rfl⟩ | rfl
  all_goals
    try have HN := Lib.hid hxy
    try clear hxy
    try have HU := Lib.hid hu
    try clear hu
    unfold Ent.val at *
    go_enter Try.func9, Try.ntmps9
    go_wp2_with fail
    obtain ⟨W, hW⟩ : ∃ W, W = (w.alloc (.cells #[.bool p, .bool wr, .bool c, .int .i64 f] 47)).alloc (.cells #[.bool p', .bool wr', .bool c', .int .i64 f'] 47) := ⟨_, rfl⟩
    have c0 : W.cell? ⟨w.heap.size, 0, none⟩ = some (.bool p) := by rw [hW]; go_simp
    have c1 : W.cell? ⟨w.heap.size, 1, none⟩ = some (.bool wr) := by rw [hW]; go_simp
    have c2 : W.cell? ⟨w.heap.size, 2, none⟩ = some (.bool c) := by rw [hW]; go_simp
    have c3 : W.cell? ⟨w.heap.size, 3, none⟩ = some (.int .i64 f) := by rw [hW]; go_simp
    have d0 : W.cell? ⟨w.heap.size + 1, 0, none⟩ = some (.bool p') := by rw [hW]; go_simp
    have d1 : W.cell? ⟨w.heap.size + 1, 1, none⟩ = some (.bool wr') := by rw [hW]; go_simp
    have d2 : W.cell? ⟨w.heap.size + 1, 2, none⟩ = some (.bool c') := by rw [hW]; go_simp
    have d3 : W.cell? ⟨w.heap.size + 1, 3, none⟩ = some (.int .i64 f') := by rw [hW]; go_simp
    have A : Hid (Keep nob w W) := by rw [hW]; exact ((Keep.refl _ _).alloc _).alloc _
    rw [← hW]
    clear hW
    refine Calls.mono (H1.out _) ?_
    rintro e w1 ⟨rfl, K⟩
    have c0 := K.some c0 (fun x => x); have c1 := K.some c1 (fun x => x); have c2 := K.some c2 (fun x => x); have c3 := K.some c3 (fun x => x)
    have d0 := K.some d0 (fun x => x); have d1 := K.some d1 (fun x => x); have d2 := K.some d2 (fun x => x); have d3 := K.some d3 (fun x => x)
    have A := Lib.hid (A.out.then K)
    clear K
    go_wp2_with fail
    refine Calls.mono (H2.out _) ?_
    rintro e w2 ⟨rfl, K⟩
    have c0 := K.some c0 (fun x => x); have c1 := K.some c1 (fun x => x); have c2 := K.some c2 (fun x => x); have c3 := K.some c3 (fun x => x)
    have d0 := K.some d0 (fun x => x); have d1 := K.some d1 (fun x => x); have d2 := K.some d2 (fun x => x); have d3 := K.some d3 (fun x => x)
    have A := Lib.hid (A.out.then K)
    clear K
    go_wp2_with fail
    refine Calls.mono (H3.out _) ?_
    rintro e w3 ⟨rfl, K⟩
    have c0 := K.some c0 (fun x => x); have c1 := K.some c1 (fun x => x); have c2 := K.some c2 (fun x => x); have c3 := K.some c3 (fun x => x)
    have d0 := K.some d0 (fun x => x); have d1 := K.some d1 (fun x => x); have d2 := K.some d2 (fun x => x); have d3 := K.some d3 (fun x => x)
    have hlt := World.block_lt_of_cell? _ _ c0
    have hlt' := World.block_lt_of_cell? _ _ d0
    have A := Lib.hid (A.out.then K)
    clear K
    go_wp2_with fail
    all_goals first
      | (exfalso; have h := HU.out; simp only [Ent.mk.injEq] at h; simp_all; done)
      | (exfalso; have h := HN.out; simp only [Ent.mk.injEq, ne_eq] at h; simp_all; done)
      | skip
    all_goals
      refine Calls.mono (H4.out _) ?_
      rintro e w4 ⟨rfl, K⟩
      have A := Lib.hid ((A.out.alloc _).then K)
      clear K
      go_wp2_with fail
      refine Calls.mono (H5.out _) ?_
      rintro e w5 ⟨rfl, K⟩
      have A := Lib.hid ((A.out.alloc _).then K)
      clear K
      go_wp2_with fail
      refine Calls.mono (awake01 _) ?_
      rintro e w6 ⟨rfl, K⟩
      go_wp2
      go_ret
      exact ⟨rfl, A.out.then K⟩
theorem walk (v0 : Value) (x : Ent) (v1 : Value) (y : Ent) (z : Int) (w : World) (h0 : EntIs v0 x) (h1 : EntIs v1 y) (w2 : (Lit.int .u32 z).wf = true) :
    Calls Try.prog 9 #[v0, v1, .int .u32 z] w fun r w' => r = .returned (.bool true) ∧ Keep nob w w' := by
  rw [h0.1, h1.1]
  have hp : 0 ≤ putR x ∧ putR x < 4294967296 := by
    unfold putR
    split
    · rename_i h; exact put_range h
    · decide
  refine walk_gen x y (getR (putR x)) (getR z) z (putR x) (putR y) (chk x) (chk y) (gchk (putR x)) (gchk z) (chk (getR z)) (putR (getR z)) w (put_ok x) (put_ok y)
    (fun W => get_ok (putR x) W hp.1 hp.2) (fun W => get_ok z W (u32_wf w2).1 (u32_wf w2).2) (put_ok (getR z)) ?_ ?_
  · cases hx : okE x
    · exact Or.inr (chk_no hx)
    · refine Or.inl ⟨chk_ok hx, (get_put hx).2, (get_put hx).1, ?_⟩
      cases hy : okE y
      · exact Or.inr (Or.inr (chk_no hy))
      · by_cases e : x = y
        · exact Or.inl ⟨chk_ok hy, by rw [e]; simp, e⟩
        · refine Or.inr (Or.inl ⟨chk_ok hy, ?_, e⟩)
          simp only [putR, hx, hy, if_true, beq_eq_false_iff_ne, ne_eq]
          exact fun q => e ((put_inj hx hy).1 q)
  · cases hz : okW z
    · exact Or.inr (by simp [gchk, hz])
    · exact Or.inl ⟨by simp [gchk, hz], (put_get hz).2, (put_get hz).1⟩
set_option maxRecDepth 100000 in
theorem lifted (os : Os) (started : os.Started) (H : Type) (enc : TypeId × Value → H) :
    ReturnsInHanded {} Try.checked os 9 .any (Rows.wordBackSpec.pre6 enc Try.prog Try.f9 Rows.wordBackRow.domain false) (Rows.wordBackSpec.post enc Try.prog Try.f9 false true false false) := by
  refine returnsInHanded_of_change (C := Try.checked) Head.own started (by kernel_rfl) Try.func9
    (ChangeSpec.witness6 (enc := enc) (C := Try.checked) false ⟨#[], #[.agg #[.bool false,.bool false,.bool false,.int .i64 0], .agg #[.bool false,.bool false,.bool false,.int .i64 0], .int .u32 0], []⟩ 8 (by kernel_rfl) (by kernel_rfl) (by kernel_rfl) (by kernel_rfl)) ?_
  intro W base args ds gs before hval0 hW hcnd _
  have hval : ∀ (j : Nat) t v, Try.f9.params[j]? = some t → args[j]? = some v → Value.okWide Try.prog W .any base t v := hval0
  have hW' := hW
  obtain ⟨p, q, hA0, hV, rfl, hfz, hnd⟩ := hW
  have hA : DataW.TrodAll enc Try.prog W 0 (fun _ => true) true Try.f9.params.toList args.toList ds p := hA0
  rw [Try.params9] at hA hval
  obtain ⟨v0, vs0, d0, ds0, p0, q0, hargs, rfl, rfl, h0, r0⟩ := trodAll_cons hA
  obtain ⟨v1, vs1, d1, ds1, p1, q1, rfl, rfl, rfl, h1, r1⟩ := trodAll_cons r0
  obtain ⟨v2, vs2, d2, ds2, p2, q2, rfl, rfl, rfl, h2, r2⟩ := trodAll_cons r1
  obtain ⟨rfl, rfl, rfl⟩ := trodAll_nil r2
  obtain rfl : args = #[v0, v1, v2] := by cases args; simp_all
  obtain ⟨rfl, rfl⟩ := trodVars_none hV
  have k0 := h0
  have lt0 : ∀ x ∈ p0, x.block < W.heap.size := by obtain ⟨m, hm⟩ := k0; exact DataW.trod_lt m _ _ _ hm
  obtain ⟨a0, w0⟩ := open_ent (hval 0 47 v0 rfl rfl) h0
  have k1 := h1
  have lt1 : ∀ x ∈ p1, x.block < W.heap.size := by obtain ⟨m, hm⟩ := k1; exact DataW.trod_lt m _ _ _ hm
  obtain ⟨a1, w1⟩ := open_ent (hval 1 47 v1 rfl rfl) h1
  have k2 := h2
  have lt2 : ∀ x ∈ p2, x.block < W.heap.size := by obtain ⟨m, hm⟩ := k2; exact DataW.trod_lt m _ _ _ hm
  obtain ⟨a2, rfl, rfl, rfl, w2⟩ := open_int Try.underlying23 (hval 2 23 v2 rfl rfl) h2
  clear hA0 hval0
  refine (walk v0 a0 v1 a1 a2 W w0 w1 w2).mono fun e W' ⟨he, kp⟩ => ?_
  subst he
  have bel := kp.below
  exact ⟨_, rfl, _, _, _, [], _, [], hW', trodAll_mk1 (shut_bool Try.underlying4 _), (trodAll_cons_mk (Below.trod Head.laidOut (by kernel_rfl) (of_decide_eq_true (by kernel_rfl)) k0 bel lt0) (trodAll_cons_mk (Below.trod Head.laidOut (by kernel_rfl) (of_decide_eq_true (by kernel_rfl)) k1 bel lt1) (trodAll_cons_mk (shut_int Try.underlying23 w2) trodAll_mk0))), rfl, bel.frame _, fun h => by cases h⟩
theorem closed : joinedFacts Try.prog 9 Try.f9 Rows.wordBackSpec Rows.wordBackRow = true := by
  unfold joinedFacts
  rw [Head.mayEnter, Head.liftsFinal, Head.make]
  kernel_rfl
theorem over : Rows.wordBackRow.holds Try.pinned (OpenSpec.ofChange Rows.wordBackSpec) :=
  OpenClaim.holds_of_wide 9 Try.f9 rfl rfl rfl rfl rfl rfl rfl ⟨rfl, rfl, rfl, rfl, rfl⟩ rfl rfl rfl rfl rfl (by kernel_rfl) Try.func9 closed
    (of_decide_eq_true (by kernel_rfl)) (by unfold Func.isWrapper; first | (rw [if_pos (by decide +kernel)]; kernel_rfl) | (rw [if_neg (by decide +kernel)]; exact ⟨rfl, rfl⟩))
    (fun os started H enc _ => lifted os started H enc)
theorem proved : Rows.WordBackSaid := over
end Go.Proofs.Ytkkkmaigcnpmeaa.wordBack
