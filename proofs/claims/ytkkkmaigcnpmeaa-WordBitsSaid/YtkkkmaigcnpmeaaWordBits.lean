/- An entry's word tells its fields one by one: changing one field changes no other one. Condition: none beyond the statement's own. -/
import Derived.Test.YtkkkmaigcnpmeaaWordBack
namespace Go.Proofs.Ytkkkmaigcnpmeaa.wordBits
open Go.ChangeShapes Go.WideShapes Go.ChangeAt Go.RowKit
set_option linter.unusedVariables false
set_option maxRecDepth 100000
set_option maxHeartbeats 6400000 in
theorem walk_in (wr c : Bool) (f n P Q R : Int) (w : World) (h0 : 0 ≤ n) (h1 : n < 1024) (hf0 : 0 ≤ f) (hf1 : f < 1024)
    (q1 : ∀ W, Calls Try.prog 37 #[.agg #[.bool true, .bool wr, .bool c, .int .i64 f]] W fun r w' => r = .returned (.tuple #[.int .u32 P, .int .i64 0]) ∧ Keep nob W w')
    (q2 : ∀ W, Calls Try.prog 37 #[.agg #[.bool true, .bool wr, .bool c, .int .i64 n]] W fun r w' => r = .returned (.tuple #[.int .u32 Q, .int .i64 0]) ∧ Keep nob W w')
    (q3 : ∀ W, Calls Try.prog 37 #[.agg #[.bool true, .bool (!wr), .bool false, .int .i64 f]] W fun r w' => r = .returned (.tuple #[.int .u32 R, .int .i64 0]) ∧ Keep nob W w')
    (q4 : ∀ W, Calls Try.prog 42 #[.int .u32 Q] W fun r w' => r = .returned (.tuple #[.agg #[.bool true, .bool wr, .bool c, .int .i64 n], .int .i64 0]) ∧ Keep nob W w')
    (q5 : ∀ W, Calls Try.prog 42 #[.int .u32 R] W fun r w' => r = .returned (.tuple #[.agg #[.bool true, .bool (!wr), .bool false, .int .i64 f], .int .i64 0]) ∧ Keep nob W w')
    (hx : bits .xor .u32 Q P = bits .xor .u32 n f * 256 % 4294967296) :
    Calls Try.prog 10 #[.agg #[.bool true, .bool wr, .bool c, .int .i64 f], .int .i64 n] w fun r w' => r = .returned (.bool true) ∧ Keep nob w w' := by
  have H1 := Lib.hid q1
  have H2 := Lib.hid q2
  have H3 := Lib.hid q3
  have H4 := Lib.hid q4
  have H5 := Lib.hid q5
  have HX := Lib.hid hx
  clear hx
  clear q1 q2 q3 q4 q5
  have t1 : decide (n < 0) = false := by simpa using h0
  have t2 : decide (1024 ≤ n) = false := by simpa using h1
  go_enter Try.func10, Try.ntmps10
  go_wp2_with fail
  refine Calls.mono (H1.out _) ?_
  rintro e w1 ⟨rfl, K⟩
  have c0 := K.some (p := ⟨w.heap.size, 0, none⟩) (v := .bool true) (by rw [World.cell?_alloc_new]; rfl) (fun x => x)
  have c1 := K.some (p := ⟨w.heap.size, 1, none⟩) (v := .bool wr) (by rw [World.cell?_alloc_new]; rfl) (fun x => x)
  have c2 := K.some (p := ⟨w.heap.size, 2, none⟩) (v := .bool c) (by rw [World.cell?_alloc_new]; rfl) (fun x => x)
  have c3 := K.some (p := ⟨w.heap.size, 3, none⟩) (v := .int .i64 f) (by rw [World.cell?_alloc_new]; rfl) (fun x => x)
  have hlt := World.block_lt_of_cell? _ _ c0
  have A := Lib.hid ((Keep.alloc (Keep.refl nob w) _).then K)
  clear K
  go_wp2_with fail
  obtain ⟨W, hW⟩ : ∃ W, W = w1.alloc (.cells #[.bool true, .bool wr, .bool c, .int .i64 n] 47) := ⟨_, rfl⟩
  have d0 : W.cell? ⟨w1.heap.size, 0, none⟩ = some (.bool true) := by rw [hW]; go_simp
  have d1 : W.cell? ⟨w1.heap.size, 1, none⟩ = some (.bool wr) := by rw [hW]; go_simp
  have d2 : W.cell? ⟨w1.heap.size, 2, none⟩ = some (.bool c) := by rw [hW]; go_simp
  have d3 : W.cell? ⟨w1.heap.size, 3, none⟩ = some (.int .i64 n) := by rw [hW]; go_simp
  have KW : Keep nob w1 W := by rw [hW]; exact (Keep.refl _ _).alloc _
  have c0 := KW.some c0 (fun x => x); have c1 := KW.some c1 (fun x => x); have c2 := KW.some c2 (fun x => x); have c3 := KW.some c3 (fun x => x)
  have A := Lib.hid (A.out.then KW)
  rw [← hW]
  clear hW KW
  refine Calls.mono (H2.out _) ?_
  rintro e w2 ⟨rfl, K⟩
  have c0 := K.some c0 (fun x => x); have c1 := K.some c1 (fun x => x); have c2 := K.some c2 (fun x => x); have c3 := K.some c3 (fun x => x)
  have d0 := K.some d0 (fun x => x); have d1 := K.some d1 (fun x => x); have d2 := K.some d2 (fun x => x); have d3 := K.some d3 (fun x => x)
  have hlt := World.block_lt_of_cell? _ _ c0
  have hlt' := World.block_lt_of_cell? _ _ d0
  have A := Lib.hid (A.out.then K)
  clear K
  go_wp2_with fail
  obtain ⟨W, hW⟩ : ∃ W, W = w2.alloc (.cells #[.bool true, .bool (!wr), .bool false, .int .i64 f] 47) := ⟨_, rfl⟩
  have e0 : W.cell? ⟨w2.heap.size, 0, none⟩ = some (.bool true) := by rw [hW]; go_simp
  have e1 : W.cell? ⟨w2.heap.size, 1, none⟩ = some (.bool (!wr)) := by rw [hW]; go_simp
  have e2 : W.cell? ⟨w2.heap.size, 2, none⟩ = some (.bool false) := by rw [hW]; go_simp
  have e3 : W.cell? ⟨w2.heap.size, 3, none⟩ = some (.int .i64 f) := by rw [hW]; go_simp
  have K : Keep nob w2 W := by rw [hW]; exact (Keep.refl _ _).alloc _
  have c0 := K.some c0 (fun x => x); have c1 := K.some c1 (fun x => x); have c2 := K.some c2 (fun x => x); have c3 := K.some c3 (fun x => x)
  have d0 := K.some d0 (fun x => x); have d1 := K.some d1 (fun x => x); have d2 := K.some d2 (fun x => x); have d3 := K.some d3 (fun x => x)
  have A := Lib.hid (A.out.then K)
  rw [← hW]
  clear hW K
  refine Calls.mono (H3.out _) ?_
  rintro e w3 ⟨rfl, K⟩
  have c0 := K.some c0 (fun x => x); have c1 := K.some c1 (fun x => x); have c2 := K.some c2 (fun x => x); have c3 := K.some c3 (fun x => x)
  have d0 := K.some d0 (fun x => x); have d1 := K.some d1 (fun x => x); have d2 := K.some d2 (fun x => x); have d3 := K.some d3 (fun x => x)
  have e0 := K.some e0 (fun x => x); have e1 := K.some e1 (fun x => x); have e2 := K.some e2 (fun x => x); have e3 := K.some e3 (fun x => x)
  have A := Lib.hid (A.out.then K)
  clear K
  go_wp2_with fail
  refine Calls.mono (H4.out _) ?_
  rintro e w4 ⟨rfl, K⟩
  have c0 := K.some c0 (fun x => x); have c1 := K.some c1 (fun x => x); have c2 := K.some c2 (fun x => x); have c3 := K.some c3 (fun x => x)
  have d0 := K.some d0 (fun x => x); have d1 := K.some d1 (fun x => x); have d2 := K.some d2 (fun x => x); have d3 := K.some d3 (fun x => x)
  have e0 := K.some e0 (fun x => x); have e1 := K.some e1 (fun x => x); have e2 := K.some e2 (fun x => x); have e3 := K.some e3 (fun x => x)
  have hl1 := World.block_lt_of_cell? _ _ c0
  have hl2 := World.block_lt_of_cell? _ _ d0
  have hl3 := World.block_lt_of_cell? _ _ e0
  have A := Lib.hid (A.out.then K)
  clear K
  go_wp2_with fail
  obtain ⟨W, hW⟩ : ∃ W, W = w4.alloc (.cells #[.bool true, .bool wr, .bool c, .int .i64 n] 47) := ⟨_, rfl⟩
  have g0 : W.cell? ⟨w4.heap.size, 0, none⟩ = some (.bool true) := by rw [hW]; go_simp
  have g1 : W.cell? ⟨w4.heap.size, 1, none⟩ = some (.bool wr) := by rw [hW]; go_simp
  have g2 : W.cell? ⟨w4.heap.size, 2, none⟩ = some (.bool c) := by rw [hW]; go_simp
  have g3 : W.cell? ⟨w4.heap.size, 3, none⟩ = some (.int .i64 n) := by rw [hW]; go_simp
  have K : Keep nob w4 W := by rw [hW]; exact (Keep.refl _ _).alloc _
  have c0 := K.some c0 (fun x => x); have c1 := K.some c1 (fun x => x); have c2 := K.some c2 (fun x => x); have c3 := K.some c3 (fun x => x)
  have d0 := K.some d0 (fun x => x); have d1 := K.some d1 (fun x => x); have d2 := K.some d2 (fun x => x); have d3 := K.some d3 (fun x => x)
  have e0 := K.some e0 (fun x => x); have e1 := K.some e1 (fun x => x); have e2 := K.some e2 (fun x => x); have e3 := K.some e3 (fun x => x)
  have A := Lib.hid (A.out.then K)
  rw [← hW]
  clear hW K
  refine Calls.mono (H5.out _) ?_
  rintro e w5 ⟨rfl, K⟩
  have c0 := K.some c0 (fun x => x); have c1 := K.some c1 (fun x => x); have c2 := K.some c2 (fun x => x); have c3 := K.some c3 (fun x => x)
  have d0 := K.some d0 (fun x => x); have d1 := K.some d1 (fun x => x); have d2 := K.some d2 (fun x => x); have d3 := K.some d3 (fun x => x)
  have e0 := K.some e0 (fun x => x); have e1 := K.some e1 (fun x => x); have e2 := K.some e2 (fun x => x); have e3 := K.some e3 (fun x => x)
  have g0 := K.some g0 (fun x => x); have g1 := K.some g1 (fun x => x); have g2 := K.some g2 (fun x => x); have g3 := K.some g3 (fun x => x)
  have hl1 := World.block_lt_of_cell? _ _ c0
  have hl2 := World.block_lt_of_cell? _ _ d0
  have hl3 := World.block_lt_of_cell? _ _ e0
  have hl4 := World.block_lt_of_cell? _ _ g0
  have A := Lib.hid (A.out.then K)
  clear K
  go_wp2_with fail
  all_goals first
    | (exfalso; have h := HX.out; contradiction)
    | skip
  refine Calls.mono (awake01 _) ?_
  rintro e w6 ⟨rfl, K⟩
  go_wp2
  go_ret
  exact ⟨rfl, (A.out.alloc _).then K⟩
theorem xor_low (a b k : Nat) (hk : k < 2 ^ 8) : (2 ^ 8 * a + k) ^^^ (2 ^ 8 * b + k) = 2 ^ 8 * (a ^^^ b) := by
  refine Nat.eq_of_testBit_eq (fun i => ?_)
  rw [Nat.testBit_xor, Nat.testBit_two_pow_mul_add _ hk, Nat.testBit_two_pow_mul_add _ hk, ← Nat.add_zero (2 ^ 8 * (a ^^^ b)), Nat.testBit_two_pow_mul_add _ (by decide)]
  split
  · simp
  · rw [Nat.testBit_xor]
theorem xor_words (n f k : Int) (h0 : 0 ≤ n) (h1 : n < 1024) (hf0 : 0 ≤ f) (hf1 : f < 1024) (hk0 : 0 ≤ k) (hk1 : k < 8) :
    bits .xor .u32 (n * 256 + k) (f * 256 + k) = bits .xor .u32 n f * 256 % 4294967296 := by
  obtain ⟨n, rfl⟩ : ∃ a : Nat, n = a := ⟨n.toNat, by omega⟩
  obtain ⟨f, rfl⟩ : ∃ a : Nat, f = a := ⟨f.toNat, by omega⟩
  obtain ⟨k, rfl⟩ : ∃ a : Nat, k = a := ⟨k.toNat, by omega⟩
  have e1 : ((n : Int) * 256 + k) = ((2 ^ 8 * n + k : Nat) : Int) := by omega
  have e2 : ((f : Int) * 256 + k) = ((2 ^ 8 * f + k : Nat) : Int) := by omega
  rw [e1, e2, u32_xor_nat _ _ (by omega) (by omega), u32_xor_nat _ _ (by omega) (by omega), xor_low n f k (by omega)]
  have : n ^^^ f < 2 ^ 10 := Nat.xor_lt_two_pow (by omega) (by omega)
  omega
theorem walk_ok (x : Ent) (n : Int) (w : World) (hx : okE x = true) (hp : x.p = true) (h0 : 0 ≤ n) (h1 : n < 1024) :
    Calls Try.prog 10 #[x.val, .int .i64 n] w fun r w' => r = .returned (.bool true) ∧ Keep nob w w' := by
  obtain ⟨hf0, hf1⟩ := wordBack.ok_parts hx
  obtain ⟨p, wr, c, f⟩ := x
  simp only at hp hf0 hf1
  subst hp
  have hy : okE ⟨true, wr, c, n⟩ = true := by
    simp only [okE, Bool.and_eq_true, decide_eq_true_eq] at hx ⊢
    exact ⟨⟨⟨h0, h1⟩, hx.1.2⟩, rfl⟩
  have hz : okE ⟨true, !wr, false, f⟩ = true := by simp [okE, hf0, hf1]
  have ry := wordBack.put_range hy
  have rz := wordBack.put_range hz
  have gy := wordBack.get_put hy
  have gz := wordBack.get_put hz
  rw [putR, if_pos hy] at gy
  rw [putR, if_pos hz] at gz
  refine walk_in wr c f n (putW ⟨true, wr, c, f⟩) (putW ⟨true, wr, c, n⟩) (putW ⟨true, !wr, false, f⟩) w h0 h1 hf0 hf1 ?_ ?_ ?_ ?_ ?_ ?_
  · have := fun W => put_ok ⟨true, wr, c, f⟩ W
    simp only [putR, hx, if_true, chk_ok hx] at this
    exact this
  · have := fun W => put_ok ⟨true, wr, c, n⟩ W
    simp only [putR, hy, if_true, chk_ok hy] at this
    exact this
  · have := fun W => put_ok ⟨true, !wr, false, f⟩ W
    simp only [putR, hz, if_true, chk_ok hz] at this
    exact this
  · have := fun W => get_ok (putW ⟨true, wr, c, n⟩) W ry.1 ry.2
    rw [gy.1, gy.2] at this
    exact this
  · have := fun W => get_ok (putW ⟨true, !wr, false, f⟩) W rz.1 rz.2
    rw [gz.1, gz.2] at this
    exact this
  · have := xor_words n f (bit true 1 + bit wr 2 + bit c 4) h0 h1 hf0 hf1 (by cases wr <;> cases c <;> decide) (by cases wr <;> cases c <;> decide)
    simp only [putW]
    rw [show n * 256 + bit true 1 + bit wr 2 + bit c 4 = n * 256 + (bit true 1 + bit wr 2 + bit c 4) by omega, show f * 256 + bit true 1 + bit wr 2 + bit c 4 = f * 256 + (bit true 1 + bit wr 2 + bit c 4) by omega]
    exact this
set_option maxHeartbeats 3200000 in
theorem walk_else (x : Ent) (n : Int) (w : World) (h : ¬ (okE x = true ∧ x.p = true ∧ 0 ≤ n ∧ n < 1024)) :
    Calls Try.prog 10 #[x.val, .int .i64 n] w fun r w' => r = .returned (.bool true) ∧ Keep nob w w' := by
  have q1 := fun W => put_ok x W
  obtain ⟨C, hC⟩ : ∃ C, chk x = C := ⟨_, rfl⟩
  obtain ⟨P, hP⟩ : ∃ C, putR x = C := ⟨_, rfl⟩
  rw [hC, hP] at q1
  have hC2 : C = 2 ∨ (C = 0 ∧ okE x = true) := by
    cases hx : okE x
    · exact Or.inl (by rw [← hC, chk_no hx])
    · exact Or.inr ⟨by rw [← hC, chk_ok hx], rfl⟩
  obtain ⟨T1, t1⟩ : ∃ T, decide (n < 0) = T := ⟨_, rfl⟩
  obtain ⟨T2, t2⟩ : ∃ T, decide (1024 ≤ n) = T := ⟨_, rfl⟩
  have HT : C = 2 ∨ (C = 0 ∧ x.p = false) ∨ (C = 0 ∧ x.p = true ∧ T1 = true) ∨ (C = 0 ∧ x.p = true ∧ T1 = false ∧ T2 = true) := by
    rcases hC2 with h2 | ⟨h2, h3⟩
    · exact Or.inl h2
    · cases hp : x.p
      · exact Or.inr (Or.inl ⟨h2, rfl⟩)
      · refine Or.inr (Or.inr ?_)
        rw [← t1, ← t2]
        by_cases hn : n < 0
        · exact Or.inl ⟨h2, rfl, by simpa using hn⟩
        · refine Or.inr ⟨h2, rfl, by simpa using hn, ?_⟩
          simp only [decide_eq_true_eq]
          apply Classical.byContradiction
          intro hh
          exact h ⟨h3, hp, by omega, by omega⟩
  have H1 := Lib.hid q1
  clear q1 hC hP hC2 h
  obtain ⟨p, wr, c, f⟩ := x
  unfold Ent.val at *
  simp only at HT
  rcases HT with rfl | ⟨rfl, rfl⟩ | ⟨rfl, rfl, rfl⟩ | ⟨rfl, rfl, rfl, rfl⟩
  all_goals
    go_enter Try.func10, Try.ntmps10
    go_wp2_with fail
    refine Calls.mono (H1.out _) ?_
    rintro e w1 ⟨rfl, K⟩
    have c0 := K.some (p := ⟨w.heap.size, 0, none⟩) (v := .bool _) (by rw [World.cell?_alloc_new]; rfl) (fun x => x)
    have A := Lib.hid ((Keep.alloc (Keep.refl nob w) _).then K)
    clear K
    go_wp2_with fail
    refine Calls.mono (awake01 _) ?_
    rintro e w6 ⟨rfl, K⟩
    go_wp2
    go_ret
    exact ⟨rfl, A.out.then K⟩
theorem walk (v0 : Value) (x : Ent) (n : Int) (w : World) (h0 : EntIs v0 x) (w1 : (Lit.int .i64 n).wf = true) :
    Calls Try.prog 10 #[v0, .int .i64 n] w fun r w' => r = .returned (.bool true) ∧ Keep nob w w' := by
  rw [h0.1]
  by_cases h : okE x = true ∧ x.p = true ∧ 0 ≤ n ∧ n < 1024
  · exact walk_ok x n w h.1 h.2.1 h.2.2.1 h.2.2.2
  · exact walk_else x n w h
set_option maxRecDepth 100000 in
theorem lifted (os : Os) (started : os.Started) (H : Type) (enc : TypeId × Value → H) :
    ReturnsInHanded {} Try.checked os 10 .any (Rows.wordBitsSpec.pre6 enc Try.prog Try.f10 Rows.wordBitsRow.domain false) (Rows.wordBitsSpec.post enc Try.prog Try.f10 false true false false) := by
  refine returnsInHanded_of_change (C := Try.checked) Head.own started (by kernel_rfl) Try.func10
    (ChangeSpec.witness6 (enc := enc) (C := Try.checked) false ⟨#[], #[.agg #[.bool false,.bool false,.bool false,.int .i64 0], .int .i64 0], []⟩ 8 (by kernel_rfl) (by kernel_rfl) (by kernel_rfl) (by kernel_rfl)) ?_
  intro W base args ds gs before hval0 hW hcnd _
  have hval : ∀ (j : Nat) t v, Try.f10.params[j]? = some t → args[j]? = some v → Value.okWide Try.prog W .any base t v := hval0
  have hW' := hW
  obtain ⟨p, q, hA0, hV, rfl, hfz, hnd⟩ := hW
  have hA : DataW.TrodAll enc Try.prog W 0 (fun _ => true) true Try.f10.params.toList args.toList ds p := hA0
  rw [Try.params10] at hA hval
  obtain ⟨v0, vs0, d0, ds0, p0, q0, hargs, rfl, rfl, h0, r0⟩ := trodAll_cons hA
  obtain ⟨v1, vs1, d1, ds1, p1, q1, rfl, rfl, rfl, h1, r1⟩ := trodAll_cons r0
  obtain ⟨rfl, rfl, rfl⟩ := trodAll_nil r1
  obtain rfl : args = #[v0, v1] := by cases args; simp_all
  obtain ⟨rfl, rfl⟩ := trodVars_none hV
  have k0 := h0
  have lt0 : ∀ x ∈ p0, x.block < W.heap.size := by obtain ⟨m, hm⟩ := k0; exact DataW.trod_lt m _ _ _ hm
  obtain ⟨a0, w0⟩ := open_ent (hval 0 47 v0 rfl rfl) h0
  have k1 := h1
  have lt1 : ∀ x ∈ p1, x.block < W.heap.size := by obtain ⟨m, hm⟩ := k1; exact DataW.trod_lt m _ _ _ hm
  obtain ⟨a1, rfl, rfl, rfl, w1⟩ := open_int Try.underlying3 (hval 1 3 v1 rfl rfl) h1
  clear hA0 hval0
  refine (walk v0 a0 a1 W w0 w1).mono fun e W' ⟨he, kp⟩ => ?_
  subst he
  have bel := kp.below
  exact ⟨_, rfl, _, _, _, [], _, [], hW', trodAll_mk1 (shut_bool Try.underlying4 _), (trodAll_cons_mk (Below.trod Head.laidOut (by kernel_rfl) (of_decide_eq_true (by kernel_rfl)) k0 bel lt0) (trodAll_cons_mk (shut_int Try.underlying3 w1) trodAll_mk0)), rfl, bel.frame _, fun h => by cases h⟩
theorem closed : joinedFacts Try.prog 10 Try.f10 Rows.wordBitsSpec Rows.wordBitsRow = true := by
  unfold joinedFacts
  rw [Head.mayEnter, Head.liftsFinal, Head.make]
  kernel_rfl
theorem over : Rows.wordBitsRow.holds Try.pinned (OpenSpec.ofChange Rows.wordBitsSpec) :=
  OpenClaim.holds_of_wide 10 Try.f10 rfl rfl rfl rfl rfl rfl rfl ⟨rfl, rfl, rfl, rfl, rfl⟩ rfl rfl rfl rfl rfl (by kernel_rfl) Try.func10 closed
    (of_decide_eq_true (by kernel_rfl)) (by unfold Func.isWrapper; first | (rw [if_pos (by decide +kernel)]; kernel_rfl) | (rw [if_neg (by decide +kernel)]; exact ⟨rfl, rfl⟩))
    (fun os started H enc _ => lifted os started H enc)
theorem proved : Rows.WordBitsSaid := over
end Go.Proofs.Ytkkkmaigcnpmeaa.wordBits
