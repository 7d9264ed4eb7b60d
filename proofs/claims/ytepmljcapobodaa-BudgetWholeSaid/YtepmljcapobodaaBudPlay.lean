/- One call on a budget and on the document's list. -/
import Derived.Test.YtepmljcapobodaaBudRef5
namespace Go.Proofs.Ytepmljcapobodaa
open Go.RowKit
set_option linter.unusedVariables false
set_option linter.unusedSimpArgs false
set_option maxRecDepth 100000
structure Op11 where
  d : Int
  id : Int
  up : Int
  n : Int
def opV11 (o : Op11) : Value := .agg #[.int .i64 o.d, .int .i64 o.id, .int .i64 o.up, .int .i64 o.n]
def stepL (l : List Nd) (o : Op11) : List Nd := if o.d = 1 then opnL l o.id o.up o.n else if o.d = 2 then clsL l o.id else if o.d = 3 then chgL l o.id o.n else if o.d = 4 then refL l o.id o.n else l
/-- A budget and the document's list, which lies elsewhere. -/
structure Both (w0 w : World) (b : Nat) (O : Nat → Prop) (q : Nat) (l : List Nd) (v : Value) : Prop where
  S : Bw w0 w b O q l
  N : NL w v l
  off : offB O v
theorem Both.next {w0 w w' : World} {b q : Nat} {O : Nat → Prop} {l : List Nd} {v : Value} (B : Both w0 w b O q l v) (k : Keep nob w w') : Both w0 w' b O q l v := ⟨B.S.next k, B.N.next k, B.off⟩
def PlayPost (w0 w : World) (b : Nat) (O : Nat → Prop) (q : Nat) (l' : List Nd) (r : Ending) (w' : World) : Prop :=
  ∃ v' O', r = .returned (.tuple #[v', .bool true]) ∧ Both w0 w' b O' (q + 1) l' v' ∧ (∀ k, O' k → O k ∨ w.heap.size ≤ k) ∧ Keep O w w'
section
variable {w0 w : World} {b q : Nat} {O : Nat → Prop} {l : List Nd} {v : Value}
/-- Behind the document's call and the budget's. -/
theorem both_post {w1 w2 : World} {v' : Value} {l' : List Nd} {O' : Nat → Prop} (B : Both w0 w b O q l v) (K1 : Keep nob w w1) (N1 : NL w1 v' l') (hv : v' = v ∨ ∀ g, v'.ownBlock = some g → w.heap.size ≤ g) (S2 : Bw w0 w2 b O' (q + 1) l') (hO : ∀ k, O' k → O k ∨ w1.heap.size ≤ k) (K2 : Keep O w1 w2) :
    PlayPost w0 w b O q l' (.returned (.tuple #[v', .bool true])) w2 := by
  have o1 : offB O v' := by
    rcases hv with rfl | h
    · exact B.off
    · intro g hg ho
      have := h g hg
      have := B.S.olt g ho
      omega
  have s1 := K1.size
  refine ⟨v', O', rfl, ⟨S2, N1.keep K2 o1, fun g hg ho => ?_⟩, fun k hk => ?_, K1.nob.trans K2 (fun _ _ e => e)⟩
  · rcases hO g ho with e | e
    · exact o1 g hg e
    · have := N1.lt g hg; omega
  · rcases hO k hk with e | e
    · exact Or.inl e
    · exact Or.inr (by omega)
set_option maxHeartbeats 1600000 in
theorem play11_1 (B : Both w0 w b O q l v) (hq : q < 4611686018427387904) (id up n : Int) :
    Calls Try.prog 17 #[.pointer (some ⟨b, 0, none⟩), v, .agg #[.int .i64 1, .int .i64 id, .int .i64 up, .int .i64 n]] w (PlayPost w0 w b O q (opnL l id up n)) := by
  have K0 : Keep nob w (w.alloc (.cells #[.int .i64 1, .int .i64 id, .int .i64 up, .int .i64 n] 43)) := (Keep.refl _ _).alloc _
  have co : ∀ (j : Nat) (u : Value), [Value.int .i64 1, .int .i64 id, .int .i64 up, .int .i64 n][j]? = some u → (w.alloc (.cells #[.int .i64 1, .int .i64 id, .int .i64 up, .int .i64 n] 43)).cell? ⟨w.heap.size, j, none⟩ = some u := fun j u hu => new_at w _ _ j u hu
  obtain ⟨W, hW⟩ : ∃ W, W = w.alloc (.cells #[.int .i64 1, .int .i64 id, .int .i64 up, .int .i64 n] 43) := ⟨_, rfl⟩
  rw [← hW] at K0 co
  have BW := B.next K0
  have C1 := ropn_ok BW.N BW.S.G id up n
  obtain ⟨cc, hcc⟩ : ∃ cc, opnN l id up n = cc := ⟨_, rfl⟩
  obtain ⟨ll, hll⟩ : ∃ ll, opnL l id up n = ll := ⟨_, rfl⟩
  rw [hcc, hll] at C1
  rw [hll]
  have d0 := co 0 _ rfl
  have d1 := co 1 _ rfl
  have d2 := co 2 _ rfl
  have d3 := co 3 _ rfl
  replace B := Lib.hid B
  replace hW := Lib.hid hW
  replace K0 := Lib.hid K0
  replace co := Lib.hid co
  replace BW := Lib.hid BW
  replace C1 := Lib.hid C1
  replace hcc := Lib.hid hcc
  replace hll := Lib.hid hll
  go_enter Try.func17, Try.ntmps17
  go_wp2_with fail
  rw [← hW.out]
  refine Calls.mono C1.out ?_
  rintro r w1 ⟨v', rfl, N1, hv, K1⟩
  have C2 := bw_open (BW.out.S.next K1) hq id up n
  rw [hcc.out, hll.out] at C2
  replace d1 := K1.some d1 (fun x => x)
  replace d2 := K1.some d2 (fun x => x)
  replace d3 := K1.some d3 (fun x => x)
  replace N1 := Lib.hid N1
  replace hv := Lib.hid hv
  replace K1 := Lib.hid K1
  replace C2 := Lib.hid C2
  go_wp2_with fail
  refine Calls.mono C2.out ?_
  rintro r w2 ⟨rfl, O2, S2, hO2, K2⟩
  replace S2 := Lib.hid S2
  replace hO2 := Lib.hid hO2
  replace K2 := Lib.hid K2
  go_wp2_with fail
  go_ret2
  have sz := K0.out.size
  refine both_post B.out (K0.out.then K1.out) N1.out (hv.out.imp (fun h => h) fun h g hg => Nat.le_trans sz (h g hg)) S2.out hO2.out K2.out
set_option maxHeartbeats 1600000 in
theorem play11_2 (B : Both w0 w b O q l v) (hq : q < 4611686018427387904) (id up n : Int) :
    Calls Try.prog 17 #[.pointer (some ⟨b, 0, none⟩), v, .agg #[.int .i64 2, .int .i64 id, .int .i64 up, .int .i64 n]] w (PlayPost w0 w b O q (clsL l id)) := by
  have K0 : Keep nob w (w.alloc (.cells #[.int .i64 2, .int .i64 id, .int .i64 up, .int .i64 n] 43)) := (Keep.refl _ _).alloc _
  have co : ∀ (j : Nat) (u : Value), [Value.int .i64 2, .int .i64 id, .int .i64 up, .int .i64 n][j]? = some u → (w.alloc (.cells #[.int .i64 2, .int .i64 id, .int .i64 up, .int .i64 n] 43)).cell? ⟨w.heap.size, j, none⟩ = some u := fun j u hu => new_at w _ _ j u hu
  obtain ⟨W, hW⟩ : ∃ W, W = w.alloc (.cells #[.int .i64 2, .int .i64 id, .int .i64 up, .int .i64 n] 43) := ⟨_, rfl⟩
  rw [← hW] at K0 co
  have BW := B.next K0
  have C1 := rcls_ok BW.N BW.S.G id
  obtain ⟨cc, hcc⟩ : ∃ cc, clsN l id = cc := ⟨_, rfl⟩
  obtain ⟨ll, hll⟩ : ∃ ll, clsL l id = ll := ⟨_, rfl⟩
  rw [hcc, hll] at C1
  rw [hll]
  have d0 := co 0 _ rfl
  have d1 := co 1 _ rfl
  have d2 := co 2 _ rfl
  have d3 := co 3 _ rfl
  replace B := Lib.hid B
  replace hW := Lib.hid hW
  replace K0 := Lib.hid K0
  replace co := Lib.hid co
  replace BW := Lib.hid BW
  replace C1 := Lib.hid C1
  replace hcc := Lib.hid hcc
  replace hll := Lib.hid hll
  go_enter Try.func17, Try.ntmps17
  go_wp2_with fail
  rw [← hW.out]
  refine Calls.mono C1.out ?_
  rintro r w1 ⟨v', rfl, N1, hv, K1⟩
  have C2 := bw_close (BW.out.S.next K1) id
  rw [hcc.out, hll.out] at C2
  replace d1 := K1.some d1 (fun x => x)
  replace d2 := K1.some d2 (fun x => x)
  replace d3 := K1.some d3 (fun x => x)
  replace N1 := Lib.hid N1
  replace hv := Lib.hid hv
  replace K1 := Lib.hid K1
  replace C2 := Lib.hid C2
  go_wp2_with fail
  refine Calls.mono C2.out ?_
  rintro r w2 ⟨rfl, O2, S2, hO2, K2⟩
  replace S2 := Lib.hid S2
  replace hO2 := Lib.hid hO2
  replace K2 := Lib.hid K2
  go_wp2_with fail
  go_ret2
  have sz := K0.out.size
  refine both_post B.out (K0.out.then K1.out) N1.out (hv.out.imp (fun h => h) fun h g hg => Nat.le_trans sz (h g hg)) S2.out hO2.out K2.out
set_option maxHeartbeats 1600000 in
theorem play11_3 (B : Both w0 w b O q l v) (hq : q < 4611686018427387904) (id up n : Int) :
    Calls Try.prog 17 #[.pointer (some ⟨b, 0, none⟩), v, .agg #[.int .i64 3, .int .i64 id, .int .i64 up, .int .i64 n]] w (PlayPost w0 w b O q (chgL l id n)) := by
  have K0 : Keep nob w (w.alloc (.cells #[.int .i64 3, .int .i64 id, .int .i64 up, .int .i64 n] 43)) := (Keep.refl _ _).alloc _
  have co : ∀ (j : Nat) (u : Value), [Value.int .i64 3, .int .i64 id, .int .i64 up, .int .i64 n][j]? = some u → (w.alloc (.cells #[.int .i64 3, .int .i64 id, .int .i64 up, .int .i64 n] 43)).cell? ⟨w.heap.size, j, none⟩ = some u := fun j u hu => new_at w _ _ j u hu
  obtain ⟨W, hW⟩ : ∃ W, W = w.alloc (.cells #[.int .i64 3, .int .i64 id, .int .i64 up, .int .i64 n] 43) := ⟨_, rfl⟩
  rw [← hW] at K0 co
  have BW := B.next K0
  have C1 := rchg_ok BW.N BW.S.G id n
  obtain ⟨cc, hcc⟩ : ∃ cc, chgN l id n = cc := ⟨_, rfl⟩
  obtain ⟨ll, hll⟩ : ∃ ll, chgL l id n = ll := ⟨_, rfl⟩
  rw [hcc, hll] at C1
  rw [hll]
  have d0 := co 0 _ rfl
  have d1 := co 1 _ rfl
  have d2 := co 2 _ rfl
  have d3 := co 3 _ rfl
  replace B := Lib.hid B
  replace hW := Lib.hid hW
  replace K0 := Lib.hid K0
  replace co := Lib.hid co
  replace BW := Lib.hid BW
  replace C1 := Lib.hid C1
  replace hcc := Lib.hid hcc
  replace hll := Lib.hid hll
  go_enter Try.func17, Try.ntmps17
  go_wp2_with fail
  rw [← hW.out]
  refine Calls.mono C1.out ?_
  rintro r w1 ⟨v', rfl, N1, hv, K1⟩
  have C2 := bw_charge (BW.out.S.next K1) id n
  rw [hcc.out, hll.out] at C2
  replace d1 := K1.some d1 (fun x => x)
  replace d2 := K1.some d2 (fun x => x)
  replace d3 := K1.some d3 (fun x => x)
  replace N1 := Lib.hid N1
  replace hv := Lib.hid hv
  replace K1 := Lib.hid K1
  replace C2 := Lib.hid C2
  go_wp2_with fail
  refine Calls.mono C2.out ?_
  rintro r w2 ⟨rfl, O2, S2, hO2, K2⟩
  replace S2 := Lib.hid S2
  replace hO2 := Lib.hid hO2
  replace K2 := Lib.hid K2
  go_wp2_with fail
  go_ret2
  have sz := K0.out.size
  refine both_post B.out (K0.out.then K1.out) N1.out (hv.out.imp (fun h => h) fun h g hg => Nat.le_trans sz (h g hg)) S2.out hO2.out K2.out
set_option maxHeartbeats 1600000 in
theorem play11_4 (B : Both w0 w b O q l v) (hq : q < 4611686018427387904) (id up n : Int) :
    Calls Try.prog 17 #[.pointer (some ⟨b, 0, none⟩), v, .agg #[.int .i64 4, .int .i64 id, .int .i64 up, .int .i64 n]] w (PlayPost w0 w b O q (refL l id n)) := by
  have K0 : Keep nob w (w.alloc (.cells #[.int .i64 4, .int .i64 id, .int .i64 up, .int .i64 n] 43)) := (Keep.refl _ _).alloc _
  have co : ∀ (j : Nat) (u : Value), [Value.int .i64 4, .int .i64 id, .int .i64 up, .int .i64 n][j]? = some u → (w.alloc (.cells #[.int .i64 4, .int .i64 id, .int .i64 up, .int .i64 n] 43)).cell? ⟨w.heap.size, j, none⟩ = some u := fun j u hu => new_at w _ _ j u hu
  obtain ⟨W, hW⟩ : ∃ W, W = w.alloc (.cells #[.int .i64 4, .int .i64 id, .int .i64 up, .int .i64 n] 43) := ⟨_, rfl⟩
  rw [← hW] at K0 co
  have BW := B.next K0
  have C1 := rref_ok BW.N BW.S.G id n
  obtain ⟨cc, hcc⟩ : ∃ cc, refN l id n = cc := ⟨_, rfl⟩
  obtain ⟨ll, hll⟩ : ∃ ll, refL l id n = ll := ⟨_, rfl⟩
  rw [hcc, hll] at C1
  rw [hll]
  have d0 := co 0 _ rfl
  have d1 := co 1 _ rfl
  have d2 := co 2 _ rfl
  have d3 := co 3 _ rfl
  replace B := Lib.hid B
  replace hW := Lib.hid hW
  replace K0 := Lib.hid K0
  replace co := Lib.hid co
  replace BW := Lib.hid BW
  replace C1 := Lib.hid C1
  replace hcc := Lib.hid hcc
  replace hll := Lib.hid hll
  go_enter Try.func17, Try.ntmps17
  go_wp2_with fail
  rw [← hW.out]
  refine Calls.mono C1.out ?_
  rintro r w1 ⟨v', rfl, N1, hv, K1⟩
  have C2 := bw_refund (BW.out.S.next K1) id n
  rw [hcc.out, hll.out] at C2
  replace d1 := K1.some d1 (fun x => x)
  replace d2 := K1.some d2 (fun x => x)
  replace d3 := K1.some d3 (fun x => x)
  replace N1 := Lib.hid N1
  replace hv := Lib.hid hv
  replace K1 := Lib.hid K1
  replace C2 := Lib.hid C2
  go_wp2_with fail
  refine Calls.mono C2.out ?_
  rintro r w2 ⟨rfl, O2, S2, hO2, K2⟩
  replace S2 := Lib.hid S2
  replace hO2 := Lib.hid hO2
  replace K2 := Lib.hid K2
  go_wp2_with fail
  go_ret2
  have sz := K0.out.size
  refine both_post B.out (K0.out.then K1.out) N1.out (hv.out.imp (fun h => h) fun h g hg => Nat.le_trans sz (h g hg)) S2.out hO2.out K2.out
theorem play11_no (B : Both w0 w b O q l v) (d id up n : Int) (h1 : d ≠ 1) (h2 : d ≠ 2) (h3 : d ≠ 3) (h4 : d ≠ 4) :
    Calls Try.prog 17 #[.pointer (some ⟨b, 0, none⟩), v, .agg #[.int .i64 d, .int .i64 id, .int .i64 up, .int .i64 n]] w (PlayPost w0 w b O q l) := by
  have K0 : Keep nob w (w.alloc (.cells #[.int .i64 d, .int .i64 id, .int .i64 up, .int .i64 n] 43)) := (Keep.refl _ _).alloc _
  have t1 : (d == 1) = false := by simpa using h1
  have t2 : (d == 2) = false := by simpa using h2
  have t3 : (d == 3) = false := by simpa using h3
  have t4 : (d == 4) = false := by simpa using h4
  replace B := Lib.hid B
  replace K0 := Lib.hid K0
  go_enter Try.func17, Try.ntmps17
  go_wp2_with fail
  go_ret2
  have BB := B.out.next K0.out
  exact ⟨v, O, rfl, ⟨BB.S.mono (Nat.le_succ _), BB.N, BB.off⟩, fun _ h => Or.inl h, K0.out.nob⟩
theorem play11 (B : Both w0 w b O q l v) (hq : q < 4611686018427387904) (o : Op11) :
    Calls Try.prog 17 #[.pointer (some ⟨b, 0, none⟩), v, opV11 o] w (PlayPost w0 w b O q (stepL l o)) := by
  obtain ⟨d, id, up, n⟩ := o
  unfold stepL opV11
  dsimp only
  by_cases h1 : d = 1
  · subst h1
    exact play11_1 B hq id up n
  rw [if_neg h1]
  by_cases h2 : d = 2
  · subst h2
    exact play11_2 B hq id up n
  rw [if_neg h2]
  by_cases h3 : d = 3
  · subst h3
    exact play11_3 B hq id up n
  rw [if_neg h3]
  by_cases h4 : d = 4
  · subst h4
    exact play11_4 B hq id up n
  rw [if_neg h4]
  exact play11_no B d id up n h1 h2 h3 h4
end
/-! ### The script -/
def opCells11 (o : Op11) : List Value := [.int .i64 o.d, .int .i64 o.id, .int .i64 o.up, .int .i64 o.n]
def op11Fine (o : Op11) : Prop := wfI o.d ∧ wfI o.id ∧ wfI o.up ∧ wfI o.n
theorem op11_has (cs : List Value) (h : HasAll [.i .i64, .i .i64, .i .i64, .i .i64] cs) : ∃ o, op11Fine o ∧ cs = opCells11 o := by
  obtain ⟨a, r1, e1, ⟨x, x1, hx⟩, h1⟩ := HasAll.cons h
  obtain ⟨b, r2, e2, ⟨y, y1, hy⟩, h2⟩ := HasAll.cons h1
  obtain ⟨c, r3, e3, ⟨z, z1, hz⟩, h3⟩ := HasAll.cons h2
  obtain ⟨d, r4, e4, ⟨t, t1, ht⟩, h4⟩ := HasAll.cons h3
  have e5 := HasAll.nil h4
  rw [e1, e2, e3, e4, e5, x1, y1, z1, t1]
  exact ⟨⟨x, y, z, t⟩, ⟨wfI_of hx, wfI_of hy, wfI_of hz, wfI_of ht⟩, rfl⟩
abbrev OpsAt11 (w : World) (v : Value) (l : List Op11) : Prop := RowsAt 4 opCells11 w v l
theorem flat_op11 : Flat 43 [.i .i64, .i .i64, .i .i64, .i .i64] :=
  flat_struct (ks := [[.i .i64], [.i .i64], [.i .i64], [.i .i64]]) Try.underlying43 (by kernel_rfl) (.cons (flat_int Try.underlying3) rfl (by kernel_rfl) (.cons (flat_int Try.underlying3) rfl (by kernel_rfl) (.cons (flat_int Try.underlying3) rfl (by kernel_rfl) (.cons (flat_int Try.underlying3) rfl (by kernel_rfl) (.nil _)))))
section
variable {H : Type} {enc : TypeId × Value → H} {w : World} {spare : Nat → Bool} {held : Bool}
theorem open_ops11 {v : Value} {d : DataW H} {p : List MemPlace} {r : Reach} {b0 base : Nat} (hv : Value.okWide Try.prog w r b0 37 v) (h : DataW.Trod enc Try.prog w base spare held 37 v d p) : ∃ l : List Op11, OpsAt11 w v l ∧ ∀ o ∈ l, op11Fine o :=
  open_flat opCells11 op11Fine Try.underlying37 (by kernel_rfl) (by decide) flat_op11 op11_has hv h
end
end Go.Proofs.Ytepmljcapobodaa
