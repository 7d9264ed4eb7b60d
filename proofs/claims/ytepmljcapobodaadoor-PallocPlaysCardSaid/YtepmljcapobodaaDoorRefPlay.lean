/- One call on a pool and on the document's (priorylaw09.play): they answer the same, and stay alike. -/
import Derived.Test.YtepmljcapobodaaDoorRefPal5
import Derived.Deep.RegionHeld3
namespace Go.Proofs.YtepmljcapobodaaDoor
open Go.RowKit
set_option linter.unusedVariables false
set_option maxRecDepth 100000
/-- The pool B and the document's at pw, alike. -/
structure Both9 (w : World) (B : PB) (pw g h n : Nat) (v : Value) (f : Int → Int) (q : Nat) : Prop where
  PR : ∃ c, PoolAt w B c f q ∧ RpAt w pw g h n v c f
  R : RefsOk B f
structure Far (w0 : World) (B : PB) (pw g h : Nat) : Prop where
  fp : ¬ own B pw
  fg : ¬ own B g
  fh : ¬ own B h
  fb : ¬ gh g h B.b
  lo : Since w0 B
  lg : w0.heap.size ≤ g
  lh : w0.heap.size ≤ h
theorem Far.o {w0 : World} {B : PB} {pw g h : Nat} (F : Far w0 B pw g h) : ∀ x, own B x → ¬ gh g h x := fun x hx e => by
  rcases e with e | e
  · rw [e] at hx; exact F.fg hx
  · rw [e] at hx; exact F.fh hx
theorem Far.gh {w0 : World} {B : PB} {pw g h : Nat} (F : Far w0 B pw g h) {w w' : World} (K : Keep nob w0 w) (k : Keep (YtepmljcapobodaaDoor.gh g h) w w') : Keep nob w0 w' :=
  K.trans k (fun q hq e => by
    have := F.lg
    have := F.lh
    rcases e with e | e
    · show False; omega
    · show False; omega)
/-- The document's pool stays while the pool is written to. -/
theorem RpAt.other {w w' w0 : World} {B : PB} {pw g h n : Nat} {v : Value} {c : Nat → Int} {f : Int → Int} (F : Far w0 B pw g h) (P : RpAt w pw g h n v c f) (K : Keep (own B) w w') : RpAt w' pw g h n v c f := P.keep K F.fp F.fg F.fh
theorem PoolAt.other {w w' w0 : World} {B : PB} {pw g h : Nat} {c : Nat → Int} {f : Int → Int} {q : Nat} (F : Far w0 B pw g h) (G : Geo B) (P : PoolAt w B c f q) (K : Keep (YtepmljcapobodaaDoor.gh g h) w w') : PoolAt w' B c f q := P.keep G K F.fb F.o
theorem Both9.next {w w' : World} {B : PB} {pw g h n : Nat} {v : Value} {f : Int → Int} {q : Nat} (G : Geo B) (X : Both9 w B pw g h n v f q) (K : Keep nob w w') : Both9 w' B pw g h n v f q :=
  let ⟨c, P, R⟩ := X.PR; ⟨⟨c, P.next G K, R.next K⟩, X.R⟩
theorem Both9.mono {w : World} {B : PB} {pw g h n : Nat} {v : Value} {f : Int → Int} {q r : Nat} (X : Both9 w B pw g h n v f q) (hq : q ≤ r) : Both9 w B pw g h n v f r :=
  let ⟨c, P, R⟩ := X.PR; ⟨⟨c, P.mono hq, R⟩, X.R⟩
theorem PoolAt.mem_turn {w w' : World} {B : PB} {c c' : Nat → Int} {f : Int → Int} {q : Nat} (G : Geo B) (P : PoolAt w B c f q) (k : Keep (only B.mf) w w') (M : MemAt w' B.b B.mf B.n c') : PoolAt w' B c' f q := by
  have h : ∀ x, B.lo ≤ x → ¬ only B.mf x := fun x hx e => by have e : x = B.mf := e; have := G.m.2; omega
  exact ⟨M, k.some P.pm (h _ G.p.1), k.some P.pl (h _ G.p.1), k.some P.pr (h _ G.p.1), fun j hj => k.some (P.gs j hj) (h _ G.g.1), fun j hj => k.some (P.gf j hj) (h _ G.g.1), fun j hj => k.some (P.gm j hj) (h _ G.g.1),
    fun j hj => let ⟨W, h1, h2⟩ := P.set j hj; ⟨W, h1.keep k (h _ (G.s j hj).1), h2⟩, P.map.keep k (h _ G.r.1)⟩
theorem owner_fn {w : World} {B : PB} {c : Nat → Int} {f : Int → Int} {q : Nat} (G : Geo B) (P : PoolAt w B c f q) (x : Int) (hx : wfI x) :
    Calls Tryd.prog 23 #[.pointer (some ⟨B.p, 0, none⟩), .int .i64 x] w fun r w' => r = .returned (.tuple #[.int .i64 (ownE B x).1, .int .i64 (ownE B x).2]) ∧ Keep nob w w' := by
  refine (owner_any G P x hx).mono ?_
  rintro r w' ⟨⟨j, hj, rfl⟩ | ⟨hj, rfl⟩, K⟩
  · exact ⟨by rw [ownE_in G hj], K⟩
  · exact ⟨by rw [ownE_out hj], K⟩
theorem left_fn {w : World} {B : PB} {c : Nat → Int} {f : Int → Int} {q : Nat} (G : Geo B) (P : PoolAt w B c f q) (x : Int) :
    Calls Tryd.prog 24 #[.pointer (some ⟨B.p, 0, none⟩), .int .i64 x] w fun r w' => r = .returned (.int .i64 (lefE B f x)) ∧ w = w' := by
  unfold lefE
  by_cases h : 0 ≤ x ∧ x < B.l.length
  · rw [if_pos h]
    obtain ⟨j, rfl⟩ : ∃ j : Nat, x = j := ⟨x.toNat, by omega⟩
    rw [Int.toNat_natCast]
    exact left_in G P j (by omega)
  · rw [if_neg h]
    exact left_out G P x h
theorem u32_bd (x : Int) : 0 ≤ IntKind.u32.wrap x ∧ IntKind.u32.wrap x < 4294967296 := by simp only [IntKind.wrap, IntKind.signed, IntKind.bits]; simp; omega
/-- What a call of play leaves. -/
def PlayPost (w0 w : World) (B : PB) (pw g h n : Nat) (v : Value) (q : Nat) (r : Ending) (w' : World) : Prop :=
  r = .returned (.bool true) ∧ (∃ f', Both9 w' B pw g h n v f' (q + 1)) ∧ Keep nob w0 w' ∧ w.heap.size ≤ w'.heap.size
set_option maxHeartbeats 6400000 in
theorem play_rest {w0 w : World} {B : PB} {pw g h n q : Nat} {v : Value} {l : List (Int × Int)} {f : Int → Int} (hT : TabAt 0 Lib.deBruijn64tab w0) (G : Geo B) (S : Same B n l) (L : PairsAt w0 v l) (FF : Far w0 B pw g h) (K : Keep nob w0 w) (X : Both9 w B pw g h n v f q) (hq : q < 4611686018427387904) (z : Int) (hz : wfI z) (d : Int) (h1 : (d == 1) = false) (h2 : (d == 2) = false) (h3 : (d == 3) = false) (h4 : (d == 4) = false) :
    Calls Tryd.prog 27 #[.pointer (some ⟨B.b, 0, none⟩), .pointer (some ⟨B.p, 0, none⟩), .pointer (some ⟨pw, 0, none⟩), .agg #[.int .i64 d, .int .i64 z]] w (PlayPost w0 w B pw g h n v q) := by
  obtain ⟨c, PA, RA⟩ := X.PR
  have RR := X.R
  obtain ⟨va, vl, vc, hv⟩ : ∃ va vl vc, v = .slice va vl vc := by obtain ⟨a, cap, hv, _⟩ := L; exact ⟨_, _, _, hv⟩
  have KB : Keep nob w (w.alloc (.cells #[.int .i64 d, .int .i64 z] 46)) := (Keep.refl _ _).alloc _
  obtain ⟨W, hW⟩ : ∃ W, W = w.alloc (.cells #[.int .i64 d, .int .i64 z] 46) := ⟨_, rfl⟩
  obtain ⟨bx, hbx⟩ : ∃ bx, bx = w.heap.size := ⟨_, rfl⟩
  rw [← hW] at KB
  have c0 : W.cell? ⟨bx, 0, none⟩ = some (.int .i64 d) := by rw [hW, hbx]; exact new_at _ _ _ 0 _ rfl
  have c1 : W.cell? ⟨bx, 1, none⟩ = some (.int .i64 z) := by rw [hW, hbx]; exact new_at _ _ _ 1 _ rfl
  replace PA := PA.next G KB
  replace RA := RA.next KB
  have KW := K.then KB
  have wz := hz
  replace PA := Lib.hid PA
  replace RA := Lib.hid RA
  replace RR := Lib.hid RR
  replace KW := Lib.hid KW
  replace wz := Lib.hid wz
  replace hW := Lib.hid hW
  replace hbx := Lib.hid hbx
  replace G := Lib.hid G
  replace S := Lib.hid S
  replace L := Lib.hid L
  replace KB := Lib.hid KB
  replace hv := Lib.hid hv
  replace FF := Lib.hid FF
  replace hT := Lib.hid hT
  replace c0 := Lib.hid c0
  clear X K hz
  go_enter Tryd.func27, Tryd.ntmps27
  go_wp2_with fail
  rw [← hbx.out, ← hW.out]
  have TO := Lib.hid (owner_fn G.out PA.out z wz.out)
  have TB := ownE_fit G.out z
  obtain ⟨oa, hoa⟩ : ∃ oa, (ownE B z).1 = oa := ⟨_, rfl⟩
  obtain ⟨ob, hob⟩ : ∃ ob, (ownE B z).2 = ob := ⟨_, rfl⟩
  rw [hoa, hob] at TO
  replace TB := Lib.hid TB
  go_wp2_with fail
  refine Calls.mono TO.out ?_
  rintro r wo ⟨rfl, KO⟩
  have PO := PA.out.next G.out KO
  have RO := RA.out.next KO
  have Kw := KW.out.then KO
  have co := KO.some c1 (fun x => x)
  have p0 := RO.p0
  have p1 := RO.p1
  have p2 := RO.p2
  have Kd : Keep nob wo wo.drew := (Keep.refl nob wo).drew
  have ed : ∀ p, wo.drew.cell? p = wo.cell? p := fun p => rfl
  have C1 := rowner (g := g) (h := h) (n := n) G.out S.out (L.out.next (Kw.then Kd)) z
  rw [hoa, hob] at C1
  rw [hv] at p0 C1
  unfold refV refsV at C1
  unfold refV at p1
  unfold refsV at p2
  replace PO := Lib.hid PO
  replace RO := Lib.hid RO
  replace Kw := Lib.hid Kw
  replace KO := Lib.hid KO
  replace Kd := Lib.hid Kd
  replace ed := Lib.hid ed
  replace C1 := Lib.hid C1
  replace hoa := Lib.hid hoa
  replace hob := Lib.hid hob
  go_wp2_with fail
  go_region_held3 (fun w' => w'.cell? ⟨pw, 0, none⟩ = some (.slice va vl vc) ∧ w'.cell? ⟨pw, 1, none⟩ = some (.slice (some ⟨g, 0, none⟩) (n * 32) (n * 32)) ∧ w'.cell? ⟨pw, 2, none⟩ = some (.slice (some ⟨h, 0, none⟩) n n) ∧ w'.cell? ⟨bx, 1, none⟩ = some (.int .i64 z)) (first | go_keep | exact ⟨y0, y1, y2, y3⟩) (first | (go_at_call 64; refine Calls.mono C1.out ?_; rintro r wp ⟨rfl, KP⟩; have y0 := KP.some ((ed.out _).trans p0) (fun x => x); have y1 := KP.some ((ed.out _).trans p1) (fun x => x); have y2 := KP.some ((ed.out _).trans p2) (fun x => x); have y3 := KP.some ((ed.out _).trans co) (fun x => x); replace KP := Lib.hid KP))
  clear p0 p1 p2 co
  go_wp2_with fail
  have Kp0 := Kw.out.then (Kd.out.then KP.out)
  have Ke : Keep nob wp wp.drew := (Keep.refl nob wp).drew
  have ee : ∀ p, wp.drew.cell? p = wp.cell? p := fun p => rfl
  have PE := PO.out.next G.out ((Kd.out.then KP.out).then Ke)
  have RE := RO.out.next ((Kd.out.then KP.out).then Ke)
  have KE := Kp0.then Ke
  have D1 := refs_ok PE z wz.out
  have D2 := rrefs G.out S.out RR.out (L.out.next KE) RE z
  have D3 := fun (W' : World) (k : Keep nob wp.drew W') => left_fn G.out (PE.next G.out k) z
  have D4 := fun (W' : World) (k : Keep nob wp.drew W') => rleft G.out S.out RR.out (L.out.next (KE.then k)) (RE.next k) z
  obtain ⟨u1, hu1⟩ : ∃ u, (f) z = u := ⟨_, rfl⟩
  obtain ⟨u2, hu2⟩ : ∃ u, lefE B ((f)) z = u := ⟨_, rfl⟩
  rw [hu1] at D1 D2
  rw [hu2] at D3 D4
  rw [hv.out] at D2 D4
  unfold refV refsV at D2 D4
  replace D1 := Lib.hid D1
  replace D2 := Lib.hid D2
  replace D3 := Lib.hid D3
  replace D4 := Lib.hid D4
  replace hu1 := Lib.hid hu1
  replace hu2 := Lib.hid hu2
  replace PE := Lib.hid PE
  replace RE := Lib.hid RE
  replace KE := Lib.hid KE
  replace Kp0 := Lib.hid Kp0
  replace Ke := Lib.hid Ke
  replace ee := Lib.hid ee
  go_region_held3 (fun w' => w'.cell? ⟨pw, 0, none⟩ = some (.slice va vl vc) ∧ w'.cell? ⟨pw, 1, none⟩ = some (.slice (some ⟨g, 0, none⟩) (n * 32) (n * 32)) ∧ w'.cell? ⟨pw, 2, none⟩ = some (.slice (some ⟨h, 0, none⟩) n n) ∧ w'.cell? ⟨bx, 1, none⟩ = some (.int .i64 z)) (first | go_keep | exact ⟨x0, x1, x2, x3⟩ | exact ⟨v0, v1, v2, v3⟩) (first | (go_at_call 21; refine Calls.mono D1.out ?_; rintro r wq ⟨rfl, rfl⟩) | (go_at_call 65; refine Calls.mono D2.out ?_; rintro r wq ⟨rfl, KQ⟩; have x0 := KQ.some ((ee.out _).trans y0) (fun x => x); have x1 := KQ.some ((ee.out _).trans y1) (fun x => x); have x2 := KQ.some ((ee.out _).trans y2) (fun x => x); have x3 := KQ.some ((ee.out _).trans y3) (fun x => x); replace KQ := Lib.hid KQ) | (go_at_call 24; refine Calls.mono (D3.out _ KQ.out) ?_; rintro r wq ⟨rfl, rfl⟩) | (go_at_call 66; refine Calls.mono (D4.out _ KQ.out) ?_; rintro r wz' ⟨rfl, KZ⟩; have v0 := KZ.some x0 (fun x => x); have v1 := KZ.some x1 (fun x => x); have v2 := KZ.some x2 (fun x => x); have v3 := KZ.some x3 (fun x => x); replace KZ := Lib.hid KZ))
  go_wp2_with fail
  go_ret
  have KF := KQ.out.then KZ.out
  exact ⟨rfl, ⟨_, (⟨⟨_, PE.out.next G.out KF, RE.out.next KF⟩, RR.out⟩ : Both9 _ B pw g h n v _ _).mono (Nat.le_succ _)⟩, KE.out.then KF, by have := KB.out.size; have := KO.out.size; have := Kd.out.size; have := KP.out.size; have := Ke.out.size; have := KF.size; omega⟩
set_option maxHeartbeats 6400000 in
theorem play_alloc {w0 w : World} {B : PB} {pw g h n q : Nat} {v : Value} {l : List (Int × Int)} {f : Int → Int} (hT : TabAt 0 Lib.deBruijn64tab w0) (G : Geo B) (S : Same B n l) (L : PairsAt w0 v l) (FF : Far w0 B pw g h) (K : Keep nob w0 w) (X : Both9 w B pw g h n v f q) (hq : q < 4611686018427387904) (hb : ∀ x, own B x ∨ gh g h x → x < w.heap.size) (z : Int) (hz : wfI z) :
    Calls Tryd.prog 27 #[.pointer (some ⟨B.b, 0, none⟩), .pointer (some ⟨B.p, 0, none⟩), .pointer (some ⟨pw, 0, none⟩), .agg #[.int .i64 1, .int .i64 z]] w (PlayPost w0 w B pw g h n v q) := by
  obtain ⟨c, PA, RA⟩ := X.PR
  have nb : ∀ x, own B x ∨ gh g h x → x ≠ w.heap.size := fun x hx e => by have := hb x hx; omega
  have RR := X.R
  obtain ⟨va, vl, vc, hv⟩ : ∃ va vl vc, v = .slice va vl vc := by obtain ⟨a, cap, hv, _⟩ := L; exact ⟨_, _, _, hv⟩
  have KB : Keep nob w (w.alloc (.cells #[.int .i64 1, .int .i64 z] 46)) := (Keep.refl _ _).alloc _
  obtain ⟨W, hW⟩ : ∃ W, W = w.alloc (.cells #[.int .i64 1, .int .i64 z] 46) := ⟨_, rfl⟩
  obtain ⟨bx, hbx⟩ : ∃ bx, bx = w.heap.size := ⟨_, rfl⟩
  rw [← hW] at KB
  rw [← hbx] at nb
  have nbo : ¬ own B bx := fun h => nb bx (Or.inl h) rfl
  have nbg : ¬ gh g h bx := fun h => nb bx (Or.inr h) rfl
  have c0 : W.cell? ⟨bx, 0, none⟩ = some (.int .i64 1) := by rw [hW, hbx]; exact new_at _ _ _ 0 _ rfl
  have c1 : W.cell? ⟨bx, 1, none⟩ = some (.int .i64 z) := by rw [hW, hbx]; exact new_at _ _ _ 1 _ rfl
  replace PA := PA.next G KB
  replace RA := RA.next KB
  have KW := K.then KB
  have wz := hz
  replace nb := Lib.hid nb
  replace nbo := Lib.hid nbo
  replace nbg := Lib.hid nbg
  replace PA := Lib.hid PA
  replace RA := Lib.hid RA
  replace RR := Lib.hid RR
  replace KW := Lib.hid KW
  replace wz := Lib.hid wz
  replace hW := Lib.hid hW
  replace hbx := Lib.hid hbx
  replace G := Lib.hid G
  replace S := Lib.hid S
  replace L := Lib.hid L
  replace KB := Lib.hid KB
  replace hv := Lib.hid hv
  replace FF := Lib.hid FF
  replace hT := Lib.hid hT
  replace c0 := Lib.hid c0
  clear X K hz
  go_enter Tryd.func27, Tryd.ntmps27
  go_wp2_with fail
  rw [← hbx.out, ← hW.out]
  have C1 := alloc_any (tab_keep hT.out KW.out) G.out PA.out hq z
  have CC := fun W' R' L' => ralloc (w := W') (pw := pw) (g := g) (h := h) (v := v) (c := c) G.out S.out RR.out L' R' z
  have RN := RR.out.all z
  have bd := allE_bd G.out f z
  obtain ⟨ea, hea⟩ : ∃ ea, (allE B f z).1 = ea := ⟨_, rfl⟩
  obtain ⟨eb, heb⟩ : ∃ eb, (allE B f z).2 = eb := ⟨_, rfl⟩
  obtain ⟨f1, hf1⟩ : ∃ f1, allF B f z = f1 := ⟨_, rfl⟩
  obtain ⟨k1, hk1⟩ : ∃ k1, allC B f z c = k1 := ⟨_, rfl⟩
  rw [hea, heb, hf1, hk1] at C1 CC
  rw [hf1] at RN
  replace bd := Lib.hid bd
  replace CC := Lib.hid CC
  replace RN := Lib.hid RN
  replace hea := Lib.hid hea
  replace heb := Lib.hid heb
  replace hf1 := Lib.hid hf1
  replace hk1 := Lib.hid hk1
  refine Calls.mono C1 ?_
  rintro r w1 ⟨rfl, P1, K1⟩
  have R1 := RA.out.other FF.out K1
  have c01 := K1.some c0.out nbo.out
  have c11 := K1.some c1 nbo.out
  have KW1 := FF.out.lo.keep KW.out K1
  have C2 := CC.out w1 R1 (L.out.next KW1)
  replace P1 := Lib.hid P1
  replace K1 := Lib.hid K1
  replace R1 := Lib.hid R1
  replace KW1 := Lib.hid KW1
  replace C2 := Lib.hid C2
  clear c1 C1
  go_wp2_with fail
  refine Calls.mono C2.out ?_
  rintro r w2 ⟨rfl, R2, K2⟩
  have P2 := P1.out.other FF.out G.out K2
  have c02 := K2.some c01 nbg.out
  have c12 := K2.some c11 nbg.out
  have KW2 := FF.out.gh KW1.out K2
  replace P2 := Lib.hid P2
  replace K2 := Lib.hid K2
  replace R2 := Lib.hid R2
  replace KW2 := Lib.hid KW2
  clear c01 c11 C2
  have TO := Lib.hid (owner_fn G.out P2.out z wz.out)
  have TB := ownE_fit G.out z
  obtain ⟨oa, hoa⟩ : ∃ oa, (ownE B z).1 = oa := ⟨_, rfl⟩
  obtain ⟨ob, hob⟩ : ∃ ob, (ownE B z).2 = ob := ⟨_, rfl⟩
  rw [hoa, hob] at TO
  replace TB := Lib.hid TB
  go_wp2_with fail
  refine Calls.mono TO.out ?_
  rintro r wo ⟨rfl, KO⟩
  have PO := P2.out.next G.out KO
  have RO := R2.out.next KO
  have Kw := KW2.out.then KO
  have co := KO.some c12 (fun x => x)
  have p0 := RO.p0
  have p1 := RO.p1
  have p2 := RO.p2
  have Kd : Keep nob wo wo.drew := (Keep.refl nob wo).drew
  have ed : ∀ p, wo.drew.cell? p = wo.cell? p := fun p => rfl
  have C1 := rowner (g := g) (h := h) (n := n) G.out S.out (L.out.next (Kw.then Kd)) z
  rw [hoa, hob] at C1
  rw [hv] at p0 C1
  unfold refV refsV at C1
  unfold refV at p1
  unfold refsV at p2
  replace PO := Lib.hid PO
  replace RO := Lib.hid RO
  replace Kw := Lib.hid Kw
  replace KO := Lib.hid KO
  replace Kd := Lib.hid Kd
  replace ed := Lib.hid ed
  replace C1 := Lib.hid C1
  replace hoa := Lib.hid hoa
  replace hob := Lib.hid hob
  go_wp2_with fail
  go_region_held3 (fun w' => w'.cell? ⟨pw, 0, none⟩ = some (.slice va vl vc) ∧ w'.cell? ⟨pw, 1, none⟩ = some (.slice (some ⟨g, 0, none⟩) (n * 32) (n * 32)) ∧ w'.cell? ⟨pw, 2, none⟩ = some (.slice (some ⟨h, 0, none⟩) n n) ∧ w'.cell? ⟨bx, 1, none⟩ = some (.int .i64 z)) (first | go_keep | exact ⟨y0, y1, y2, y3⟩) (first | (go_at_call 64; refine Calls.mono C1.out ?_; rintro r wp ⟨rfl, KP⟩; have y0 := KP.some ((ed.out _).trans p0) (fun x => x); have y1 := KP.some ((ed.out _).trans p1) (fun x => x); have y2 := KP.some ((ed.out _).trans p2) (fun x => x); have y3 := KP.some ((ed.out _).trans co) (fun x => x); replace KP := Lib.hid KP))
  clear p0 p1 p2 co
  go_wp2_with fail
  have Kp0 := Kw.out.then (Kd.out.then KP.out)
  have Ke : Keep nob wp wp.drew := (Keep.refl nob wp).drew
  have ee : ∀ p, wp.drew.cell? p = wp.cell? p := fun p => rfl
  have PE := PO.out.next G.out ((Kd.out.then KP.out).then Ke)
  have RE := RO.out.next ((Kd.out.then KP.out).then Ke)
  have KE := Kp0.then Ke
  have D1 := refs_ok PE z wz.out
  have D2 := rrefs G.out S.out RN.out (L.out.next KE) RE z
  have D3 := fun (W' : World) (k : Keep nob wp.drew W') => left_fn G.out (PE.next G.out k) z
  have D4 := fun (W' : World) (k : Keep nob wp.drew W') => rleft G.out S.out RN.out (L.out.next (KE.then k)) (RE.next k) z
  obtain ⟨u1, hu1⟩ : ∃ u, (f1) z = u := ⟨_, rfl⟩
  obtain ⟨u2, hu2⟩ : ∃ u, lefE B ((f1)) z = u := ⟨_, rfl⟩
  rw [hu1] at D1 D2
  rw [hu2] at D3 D4
  rw [hv.out] at D2 D4
  unfold refV refsV at D2 D4
  replace D1 := Lib.hid D1
  replace D2 := Lib.hid D2
  replace D3 := Lib.hid D3
  replace D4 := Lib.hid D4
  replace hu1 := Lib.hid hu1
  replace hu2 := Lib.hid hu2
  replace PE := Lib.hid PE
  replace RE := Lib.hid RE
  replace KE := Lib.hid KE
  replace Kp0 := Lib.hid Kp0
  replace Ke := Lib.hid Ke
  replace ee := Lib.hid ee
  go_region_held3 (fun w' => w'.cell? ⟨pw, 0, none⟩ = some (.slice va vl vc) ∧ w'.cell? ⟨pw, 1, none⟩ = some (.slice (some ⟨g, 0, none⟩) (n * 32) (n * 32)) ∧ w'.cell? ⟨pw, 2, none⟩ = some (.slice (some ⟨h, 0, none⟩) n n) ∧ w'.cell? ⟨bx, 1, none⟩ = some (.int .i64 z)) (first | go_keep | exact ⟨x0, x1, x2, x3⟩ | exact ⟨v0, v1, v2, v3⟩) (first | (go_at_call 21; refine Calls.mono D1.out ?_; rintro r wq ⟨rfl, rfl⟩) | (go_at_call 65; refine Calls.mono D2.out ?_; rintro r wq ⟨rfl, KQ⟩; have x0 := KQ.some ((ee.out _).trans y0) (fun x => x); have x1 := KQ.some ((ee.out _).trans y1) (fun x => x); have x2 := KQ.some ((ee.out _).trans y2) (fun x => x); have x3 := KQ.some ((ee.out _).trans y3) (fun x => x); replace KQ := Lib.hid KQ) | (go_at_call 24; refine Calls.mono (D3.out _ KQ.out) ?_; rintro r wq ⟨rfl, rfl⟩) | (go_at_call 66; refine Calls.mono (D4.out _ KQ.out) ?_; rintro r wz' ⟨rfl, KZ⟩; have v0 := KZ.some x0 (fun x => x); have v1 := KZ.some x1 (fun x => x); have v2 := KZ.some x2 (fun x => x); have v3 := KZ.some x3 (fun x => x); replace KZ := Lib.hid KZ))
  go_wp2_with fail
  go_ret
  have KF := KQ.out.then KZ.out
  exact ⟨rfl, ⟨_, (⟨⟨_, PE.out.next G.out KF, RE.out.next KF⟩, RN.out⟩ : Both9 _ B pw g h n v _ _).mono (Nat.le_refl _)⟩, KE.out.then KF, by have := K1.out.size; have := K2.out.size; have := KB.out.size; have := KO.out.size; have := Kd.out.size; have := KP.out.size; have := Ke.out.size; have := KF.size; omega⟩
set_option maxHeartbeats 6400000 in
theorem play_share {w0 w : World} {B : PB} {pw g h n q : Nat} {v : Value} {l : List (Int × Int)} {f : Int → Int} (hT : TabAt 0 Lib.deBruijn64tab w0) (G : Geo B) (S : Same B n l) (L : PairsAt w0 v l) (FF : Far w0 B pw g h) (K : Keep nob w0 w) (X : Both9 w B pw g h n v f q) (hq : q < 4611686018427387904) (hb : ∀ x, own B x ∨ gh g h x → x < w.heap.size) (z : Int) (hz : wfI z) :
    Calls Tryd.prog 27 #[.pointer (some ⟨B.b, 0, none⟩), .pointer (some ⟨B.p, 0, none⟩), .pointer (some ⟨pw, 0, none⟩), .agg #[.int .i64 2, .int .i64 z]] w (PlayPost w0 w B pw g h n v q) := by
  obtain ⟨c, PA, RA⟩ := X.PR
  have nb : ∀ x, own B x ∨ gh g h x → x ≠ w.heap.size := fun x hx e => by have := hb x hx; omega
  have RR := X.R
  obtain ⟨va, vl, vc, hv⟩ : ∃ va vl vc, v = .slice va vl vc := by obtain ⟨a, cap, hv, _⟩ := L; exact ⟨_, _, _, hv⟩
  have KB : Keep nob w (w.alloc (.cells #[.int .i64 2, .int .i64 z] 46)) := (Keep.refl _ _).alloc _
  obtain ⟨W, hW⟩ : ∃ W, W = w.alloc (.cells #[.int .i64 2, .int .i64 z] 46) := ⟨_, rfl⟩
  obtain ⟨bx, hbx⟩ : ∃ bx, bx = w.heap.size := ⟨_, rfl⟩
  rw [← hW] at KB
  rw [← hbx] at nb
  have nbo : ¬ own B bx := fun h => nb bx (Or.inl h) rfl
  have nbg : ¬ gh g h bx := fun h => nb bx (Or.inr h) rfl
  have c0 : W.cell? ⟨bx, 0, none⟩ = some (.int .i64 2) := by rw [hW, hbx]; exact new_at _ _ _ 0 _ rfl
  have c1 : W.cell? ⟨bx, 1, none⟩ = some (.int .i64 z) := by rw [hW, hbx]; exact new_at _ _ _ 1 _ rfl
  replace PA := PA.next G KB
  replace RA := RA.next KB
  have KW := K.then KB
  have wz := hz
  replace nb := Lib.hid nb
  replace nbo := Lib.hid nbo
  replace nbg := Lib.hid nbg
  replace PA := Lib.hid PA
  replace RA := Lib.hid RA
  replace RR := Lib.hid RR
  replace KW := Lib.hid KW
  replace wz := Lib.hid wz
  replace hW := Lib.hid hW
  replace hbx := Lib.hid hbx
  replace G := Lib.hid G
  replace S := Lib.hid S
  replace L := Lib.hid L
  replace KB := Lib.hid KB
  replace hv := Lib.hid hv
  replace FF := Lib.hid FF
  replace hT := Lib.hid hT
  replace c0 := Lib.hid c0
  clear X K hz
  go_enter Tryd.func27, Tryd.ntmps27
  go_wp2_with fail
  rw [← hbx.out, ← hW.out]
  have C1 := share_any G.out RR.out (PA.out.next G.out (Keep.refl nob W).drew) hq z wz.out
  have CC := fun W' R' L' => rshare (w := W') (pw := pw) (g := g) (h := h) (v := v) (c := c) G.out S.out RR.out L' R' z
  have RN := RR.out.sha G.out z
  obtain ⟨ea, hea⟩ : ∃ ea, shaE B f z = ea := ⟨_, rfl⟩
  obtain ⟨f1, hf1⟩ : ∃ f1, shaF B f z = f1 := ⟨_, rfl⟩
  rw [hea, hf1] at C1 CC
  rw [hf1] at RN
  have ed0 : ∀ p, W.drew.cell? p = W.cell? p := fun p => rfl
  have Kd0 : Keep nob W W.drew := (Keep.refl nob W).drew
  replace CC := Lib.hid CC
  replace RN := Lib.hid RN
  replace hea := Lib.hid hea
  replace hf1 := Lib.hid hf1
  replace C1 := Lib.hid C1
  replace ed0 := Lib.hid ed0
  replace Kd0 := Lib.hid Kd0
  go_region_held3 (fun w' => w'.cell? ⟨bx, 1, none⟩ = some (.int .i64 z)) (first | go_keep | exact a1 | exact a2) (first | (go_at_call 20; refine Calls.mono C1.out ?_; rintro r w1 ⟨rfl, P1, K1⟩; have a1 := K1.some ((ed0.out _).trans c1) nbo.out; replace P1 := Lib.hid P1; replace K1 := Lib.hid K1) | (go_at_call 61; refine Calls.mono (CC.out _ ((RA.out.next Kd0.out).other FF.out K1.out) (L.out.next (FF.out.lo.keep (KW.out.then Kd0.out) K1.out))) ?_; rintro r w2 ⟨rfl, R2, K2⟩; have a2 := K2.some a1 (fun e => nbg.out (Or.inr e)); replace R2 := Lib.hid R2; replace K2 := Lib.hid K2))
  have KG : Keep (gh g h) w1 w2 := K2.out.mono (fun _ _ e => Or.inr e)
  have P2 := P1.out.other FF.out G.out KG
  have KW2 := FF.out.gh (FF.out.lo.keep (KW.out.then Kd0.out) K1.out) KG
  replace P2 := Lib.hid P2
  replace KW2 := Lib.hid KW2
  replace KG := Lib.hid KG
  clear c1 a1
  have TO := Lib.hid (owner_fn G.out P2.out z wz.out)
  have TB := ownE_fit G.out z
  obtain ⟨oa, hoa⟩ : ∃ oa, (ownE B z).1 = oa := ⟨_, rfl⟩
  obtain ⟨ob, hob⟩ : ∃ ob, (ownE B z).2 = ob := ⟨_, rfl⟩
  rw [hoa, hob] at TO
  replace TB := Lib.hid TB
  go_wp2_with fail
  refine Calls.mono TO.out ?_
  rintro r wo ⟨rfl, KO⟩
  have PO := P2.out.next G.out KO
  have RO := R2.out.next KO
  have Kw := KW2.out.then KO
  have co := KO.some a2 (fun x => x)
  have p0 := RO.p0
  have p1 := RO.p1
  have p2 := RO.p2
  have Kd : Keep nob wo wo.drew := (Keep.refl nob wo).drew
  have ed : ∀ p, wo.drew.cell? p = wo.cell? p := fun p => rfl
  have C1 := rowner (g := g) (h := h) (n := n) G.out S.out (L.out.next (Kw.then Kd)) z
  rw [hoa, hob] at C1
  rw [hv] at p0 C1
  unfold refV refsV at C1
  unfold refV at p1
  unfold refsV at p2
  replace PO := Lib.hid PO
  replace RO := Lib.hid RO
  replace Kw := Lib.hid Kw
  replace KO := Lib.hid KO
  replace Kd := Lib.hid Kd
  replace ed := Lib.hid ed
  replace C1 := Lib.hid C1
  replace hoa := Lib.hid hoa
  replace hob := Lib.hid hob
  go_wp2_with fail
  go_region_held3 (fun w' => w'.cell? ⟨pw, 0, none⟩ = some (.slice va vl vc) ∧ w'.cell? ⟨pw, 1, none⟩ = some (.slice (some ⟨g, 0, none⟩) (n * 32) (n * 32)) ∧ w'.cell? ⟨pw, 2, none⟩ = some (.slice (some ⟨h, 0, none⟩) n n) ∧ w'.cell? ⟨bx, 1, none⟩ = some (.int .i64 z)) (first | go_keep | exact ⟨y0, y1, y2, y3⟩) (first | (go_at_call 64; refine Calls.mono C1.out ?_; rintro r wp ⟨rfl, KP⟩; have y0 := KP.some ((ed.out _).trans p0) (fun x => x); have y1 := KP.some ((ed.out _).trans p1) (fun x => x); have y2 := KP.some ((ed.out _).trans p2) (fun x => x); have y3 := KP.some ((ed.out _).trans co) (fun x => x); replace KP := Lib.hid KP))
  clear p0 p1 p2 co
  go_wp2_with fail
  have Kp0 := Kw.out.then (Kd.out.then KP.out)
  have Ke : Keep nob wp wp.drew := (Keep.refl nob wp).drew
  have ee : ∀ p, wp.drew.cell? p = wp.cell? p := fun p => rfl
  have PE := PO.out.next G.out ((Kd.out.then KP.out).then Ke)
  have RE := RO.out.next ((Kd.out.then KP.out).then Ke)
  have KE := Kp0.then Ke
  have D1 := refs_ok PE z wz.out
  have D2 := rrefs G.out S.out RN.out (L.out.next KE) RE z
  have D3 := fun (W' : World) (k : Keep nob wp.drew W') => left_fn G.out (PE.next G.out k) z
  have D4 := fun (W' : World) (k : Keep nob wp.drew W') => rleft G.out S.out RN.out (L.out.next (KE.then k)) (RE.next k) z
  obtain ⟨u1, hu1⟩ : ∃ u, (f1) z = u := ⟨_, rfl⟩
  obtain ⟨u2, hu2⟩ : ∃ u, lefE B ((f1)) z = u := ⟨_, rfl⟩
  rw [hu1] at D1 D2
  rw [hu2] at D3 D4
  rw [hv.out] at D2 D4
  unfold refV refsV at D2 D4
  replace D1 := Lib.hid D1
  replace D2 := Lib.hid D2
  replace D3 := Lib.hid D3
  replace D4 := Lib.hid D4
  replace hu1 := Lib.hid hu1
  replace hu2 := Lib.hid hu2
  replace PE := Lib.hid PE
  replace RE := Lib.hid RE
  replace KE := Lib.hid KE
  replace Kp0 := Lib.hid Kp0
  replace Ke := Lib.hid Ke
  replace ee := Lib.hid ee
  go_region_held3 (fun w' => w'.cell? ⟨pw, 0, none⟩ = some (.slice va vl vc) ∧ w'.cell? ⟨pw, 1, none⟩ = some (.slice (some ⟨g, 0, none⟩) (n * 32) (n * 32)) ∧ w'.cell? ⟨pw, 2, none⟩ = some (.slice (some ⟨h, 0, none⟩) n n) ∧ w'.cell? ⟨bx, 1, none⟩ = some (.int .i64 z)) (first | go_keep | exact ⟨x0, x1, x2, x3⟩ | exact ⟨v0, v1, v2, v3⟩) (first | (go_at_call 21; refine Calls.mono D1.out ?_; rintro r wq ⟨rfl, rfl⟩) | (go_at_call 65; refine Calls.mono D2.out ?_; rintro r wq ⟨rfl, KQ⟩; have x0 := KQ.some ((ee.out _).trans y0) (fun x => x); have x1 := KQ.some ((ee.out _).trans y1) (fun x => x); have x2 := KQ.some ((ee.out _).trans y2) (fun x => x); have x3 := KQ.some ((ee.out _).trans y3) (fun x => x); replace KQ := Lib.hid KQ) | (go_at_call 24; refine Calls.mono (D3.out _ KQ.out) ?_; rintro r wq ⟨rfl, rfl⟩) | (go_at_call 66; refine Calls.mono (D4.out _ KQ.out) ?_; rintro r wz' ⟨rfl, KZ⟩; have v0 := KZ.some x0 (fun x => x); have v1 := KZ.some x1 (fun x => x); have v2 := KZ.some x2 (fun x => x); have v3 := KZ.some x3 (fun x => x); replace KZ := Lib.hid KZ))
  go_wp2_with fail
  go_ret
  have KF := KQ.out.then KZ.out
  exact ⟨rfl, ⟨_, (⟨⟨_, PE.out.next G.out KF, RE.out.next KF⟩, RN.out⟩ : Both9 _ B pw g h n v _ _).mono (Nat.le_refl _)⟩, KE.out.then KF, by have := Kd0.out.size; have := K1.out.size; have := K2.out.size; have := KB.out.size; have := KO.out.size; have := Kd.out.size; have := KP.out.size; have := Ke.out.size; have := KF.size; omega⟩
set_option maxHeartbeats 6400000 in
theorem play_free {w0 w : World} {B : PB} {pw g h n q : Nat} {v : Value} {l : List (Int × Int)} {f : Int → Int} (hT : TabAt 0 Lib.deBruijn64tab w0) (G : Geo B) (S : Same B n l) (L : PairsAt w0 v l) (FF : Far w0 B pw g h) (K : Keep nob w0 w) (X : Both9 w B pw g h n v f q) (hq : q < 4611686018427387904) (hb : ∀ x, own B x ∨ gh g h x → x < w.heap.size) (z : Int) (hz : wfI z) :
    Calls Tryd.prog 27 #[.pointer (some ⟨B.b, 0, none⟩), .pointer (some ⟨B.p, 0, none⟩), .pointer (some ⟨pw, 0, none⟩), .agg #[.int .i64 3, .int .i64 z]] w (PlayPost w0 w B pw g h n v q) := by
  obtain ⟨c, PA, RA⟩ := X.PR
  have nb : ∀ x, own B x ∨ gh g h x → x ≠ w.heap.size := fun x hx e => by have := hb x hx; omega
  have RR := X.R
  obtain ⟨va, vl, vc, hv⟩ : ∃ va vl vc, v = .slice va vl vc := by obtain ⟨a, cap, hv, _⟩ := L; exact ⟨_, _, _, hv⟩
  have KB : Keep nob w (w.alloc (.cells #[.int .i64 3, .int .i64 z] 46)) := (Keep.refl _ _).alloc _
  obtain ⟨W, hW⟩ : ∃ W, W = w.alloc (.cells #[.int .i64 3, .int .i64 z] 46) := ⟨_, rfl⟩
  obtain ⟨bx, hbx⟩ : ∃ bx, bx = w.heap.size := ⟨_, rfl⟩
  rw [← hW] at KB
  rw [← hbx] at nb
  have nbo : ¬ own B bx := fun h => nb bx (Or.inl h) rfl
  have nbg : ¬ gh g h bx := fun h => nb bx (Or.inr h) rfl
  have c0 : W.cell? ⟨bx, 0, none⟩ = some (.int .i64 3) := by rw [hW, hbx]; exact new_at _ _ _ 0 _ rfl
  have c1 : W.cell? ⟨bx, 1, none⟩ = some (.int .i64 z) := by rw [hW, hbx]; exact new_at _ _ _ 1 _ rfl
  replace PA := PA.next G KB
  replace RA := RA.next KB
  have KW := K.then KB
  have wz := hz
  replace nb := Lib.hid nb
  replace nbo := Lib.hid nbo
  replace nbg := Lib.hid nbg
  replace PA := Lib.hid PA
  replace RA := Lib.hid RA
  replace RR := Lib.hid RR
  replace KW := Lib.hid KW
  replace wz := Lib.hid wz
  replace hW := Lib.hid hW
  replace hbx := Lib.hid hbx
  replace G := Lib.hid G
  replace S := Lib.hid S
  replace L := Lib.hid L
  replace KB := Lib.hid KB
  replace hv := Lib.hid hv
  replace FF := Lib.hid FF
  replace hT := Lib.hid hT
  replace c0 := Lib.hid c0
  clear X K hz
  go_enter Tryd.func27, Tryd.ntmps27
  go_wp2_with fail
  rw [← hbx.out, ← hW.out]
  have C1 := free_any G.out RR.out (PA.out.next G.out (Keep.refl nob W).drew) hq z wz.out
  have CC := fun W' R' L' => rfree (w := W') (pw := pw) (g := g) (h := h) (v := v) (c := c) G.out S.out RR.out L' R' z
  have RN := RR.out.fre G.out z
  obtain ⟨ea, hea⟩ : ∃ ea, freE B f z = ea := ⟨_, rfl⟩
  obtain ⟨f1, hf1⟩ : ∃ f1, freF B f z = f1 := ⟨_, rfl⟩
  rw [hea, hf1] at C1 CC
  rw [hf1] at RN
  have ed0 : ∀ p, W.drew.cell? p = W.cell? p := fun p => rfl
  have Kd0 : Keep nob W W.drew := (Keep.refl nob W).drew
  replace CC := Lib.hid CC
  replace RN := Lib.hid RN
  replace hea := Lib.hid hea
  replace hf1 := Lib.hid hf1
  replace C1 := Lib.hid C1
  replace ed0 := Lib.hid ed0
  replace Kd0 := Lib.hid Kd0
  go_region_held3 (fun w' => w'.cell? ⟨bx, 1, none⟩ = some (.int .i64 z)) (first | go_keep | exact a1 | exact a2) (first | (go_at_call 22; refine Calls.mono C1.out ?_; rintro r w1 ⟨rfl, P1, K1⟩; have a1 := K1.some ((ed0.out _).trans c1) nbo.out; replace P1 := Lib.hid P1; replace K1 := Lib.hid K1) | (go_at_call 62; refine Calls.mono (CC.out _ ((RA.out.next Kd0.out).other FF.out K1.out) (L.out.next (FF.out.lo.keep (KW.out.then Kd0.out) K1.out))) ?_; rintro r w2 ⟨rfl, R2, K2⟩; have a2 := K2.some a1 (fun e => nbg.out (Or.inr e)); replace R2 := Lib.hid R2; replace K2 := Lib.hid K2))
  have KG : Keep (gh g h) w1 w2 := K2.out.mono (fun _ _ e => Or.inr e)
  have P2 := P1.out.other FF.out G.out KG
  have KW2 := FF.out.gh (FF.out.lo.keep (KW.out.then Kd0.out) K1.out) KG
  replace P2 := Lib.hid P2
  replace KW2 := Lib.hid KW2
  replace KG := Lib.hid KG
  clear c1 a1
  have TO := Lib.hid (owner_fn G.out P2.out z wz.out)
  have TB := ownE_fit G.out z
  obtain ⟨oa, hoa⟩ : ∃ oa, (ownE B z).1 = oa := ⟨_, rfl⟩
  obtain ⟨ob, hob⟩ : ∃ ob, (ownE B z).2 = ob := ⟨_, rfl⟩
  rw [hoa, hob] at TO
  replace TB := Lib.hid TB
  go_wp2_with fail
  refine Calls.mono TO.out ?_
  rintro r wo ⟨rfl, KO⟩
  have PO := P2.out.next G.out KO
  have RO := R2.out.next KO
  have Kw := KW2.out.then KO
  have co := KO.some a2 (fun x => x)
  have p0 := RO.p0
  have p1 := RO.p1
  have p2 := RO.p2
  have Kd : Keep nob wo wo.drew := (Keep.refl nob wo).drew
  have ed : ∀ p, wo.drew.cell? p = wo.cell? p := fun p => rfl
  have C1 := rowner (g := g) (h := h) (n := n) G.out S.out (L.out.next (Kw.then Kd)) z
  rw [hoa, hob] at C1
  rw [hv] at p0 C1
  unfold refV refsV at C1
  unfold refV at p1
  unfold refsV at p2
  replace PO := Lib.hid PO
  replace RO := Lib.hid RO
  replace Kw := Lib.hid Kw
  replace KO := Lib.hid KO
  replace Kd := Lib.hid Kd
  replace ed := Lib.hid ed
  replace C1 := Lib.hid C1
  replace hoa := Lib.hid hoa
  replace hob := Lib.hid hob
  go_wp2_with fail
  go_region_held3 (fun w' => w'.cell? ⟨pw, 0, none⟩ = some (.slice va vl vc) ∧ w'.cell? ⟨pw, 1, none⟩ = some (.slice (some ⟨g, 0, none⟩) (n * 32) (n * 32)) ∧ w'.cell? ⟨pw, 2, none⟩ = some (.slice (some ⟨h, 0, none⟩) n n) ∧ w'.cell? ⟨bx, 1, none⟩ = some (.int .i64 z)) (first | go_keep | exact ⟨y0, y1, y2, y3⟩) (first | (go_at_call 64; refine Calls.mono C1.out ?_; rintro r wp ⟨rfl, KP⟩; have y0 := KP.some ((ed.out _).trans p0) (fun x => x); have y1 := KP.some ((ed.out _).trans p1) (fun x => x); have y2 := KP.some ((ed.out _).trans p2) (fun x => x); have y3 := KP.some ((ed.out _).trans co) (fun x => x); replace KP := Lib.hid KP))
  clear p0 p1 p2 co
  go_wp2_with fail
  have Kp0 := Kw.out.then (Kd.out.then KP.out)
  have Ke : Keep nob wp wp.drew := (Keep.refl nob wp).drew
  have ee : ∀ p, wp.drew.cell? p = wp.cell? p := fun p => rfl
  have PE := PO.out.next G.out ((Kd.out.then KP.out).then Ke)
  have RE := RO.out.next ((Kd.out.then KP.out).then Ke)
  have KE := Kp0.then Ke
  have D1 := refs_ok PE z wz.out
  have D2 := rrefs G.out S.out RN.out (L.out.next KE) RE z
  have D3 := fun (W' : World) (k : Keep nob wp.drew W') => left_fn G.out (PE.next G.out k) z
  have D4 := fun (W' : World) (k : Keep nob wp.drew W') => rleft G.out S.out RN.out (L.out.next (KE.then k)) (RE.next k) z
  obtain ⟨u1, hu1⟩ : ∃ u, (f1) z = u := ⟨_, rfl⟩
  obtain ⟨u2, hu2⟩ : ∃ u, lefE B ((f1)) z = u := ⟨_, rfl⟩
  rw [hu1] at D1 D2
  rw [hu2] at D3 D4
  rw [hv.out] at D2 D4
  unfold refV refsV at D2 D4
  replace D1 := Lib.hid D1
  replace D2 := Lib.hid D2
  replace D3 := Lib.hid D3
  replace D4 := Lib.hid D4
  replace hu1 := Lib.hid hu1
  replace hu2 := Lib.hid hu2
  replace PE := Lib.hid PE
  replace RE := Lib.hid RE
  replace KE := Lib.hid KE
  replace Kp0 := Lib.hid Kp0
  replace Ke := Lib.hid Ke
  replace ee := Lib.hid ee
  go_region_held3 (fun w' => w'.cell? ⟨pw, 0, none⟩ = some (.slice va vl vc) ∧ w'.cell? ⟨pw, 1, none⟩ = some (.slice (some ⟨g, 0, none⟩) (n * 32) (n * 32)) ∧ w'.cell? ⟨pw, 2, none⟩ = some (.slice (some ⟨h, 0, none⟩) n n) ∧ w'.cell? ⟨bx, 1, none⟩ = some (.int .i64 z)) (first | go_keep | exact ⟨x0, x1, x2, x3⟩ | exact ⟨v0, v1, v2, v3⟩) (first | (go_at_call 21; refine Calls.mono D1.out ?_; rintro r wq ⟨rfl, rfl⟩) | (go_at_call 65; refine Calls.mono D2.out ?_; rintro r wq ⟨rfl, KQ⟩; have x0 := KQ.some ((ee.out _).trans y0) (fun x => x); have x1 := KQ.some ((ee.out _).trans y1) (fun x => x); have x2 := KQ.some ((ee.out _).trans y2) (fun x => x); have x3 := KQ.some ((ee.out _).trans y3) (fun x => x); replace KQ := Lib.hid KQ) | (go_at_call 24; refine Calls.mono (D3.out _ KQ.out) ?_; rintro r wq ⟨rfl, rfl⟩) | (go_at_call 66; refine Calls.mono (D4.out _ KQ.out) ?_; rintro r wz' ⟨rfl, KZ⟩; have v0 := KZ.some x0 (fun x => x); have v1 := KZ.some x1 (fun x => x); have v2 := KZ.some x2 (fun x => x); have v3 := KZ.some x3 (fun x => x); replace KZ := Lib.hid KZ))
  go_wp2_with fail
  go_ret
  have KF := KQ.out.then KZ.out
  exact ⟨rfl, ⟨_, (⟨⟨_, PE.out.next G.out KF, RE.out.next KF⟩, RN.out⟩ : Both9 _ B pw g h n v _ _).mono (Nat.le_refl _)⟩, KE.out.then KF, by have := Kd0.out.size; have := K1.out.size; have := K2.out.size; have := KB.out.size; have := KO.out.size; have := Kd.out.size; have := KP.out.size; have := Ke.out.size; have := KF.size; omega⟩
set_option maxHeartbeats 6400000 in
theorem play_write {w0 w : World} {B : PB} {pw g h n q : Nat} {v : Value} {l : List (Int × Int)} {f : Int → Int} (hT : TabAt 0 Lib.deBruijn64tab w0) (G : Geo B) (S : Same B n l) (L : PairsAt w0 v l) (FF : Far w0 B pw g h) (K : Keep nob w0 w) (X : Both9 w B pw g h n v f q) (hq : q < 4611686018427387904) (hb : ∀ x, own B x ∨ gh g h x → x < w.heap.size) (z : Int) (hz : wfI z) :
    Calls Tryd.prog 27 #[.pointer (some ⟨B.b, 0, none⟩), .pointer (some ⟨B.p, 0, none⟩), .pointer (some ⟨pw, 0, none⟩), .agg #[.int .i64 4, .int .i64 z]] w (PlayPost w0 w B pw g h n v q) := by
  obtain ⟨c, PA, RA⟩ := X.PR
  have nb : ∀ x, own B x ∨ gh g h x → x ≠ w.heap.size := fun x hx e => by have := hb x hx; omega
  have RR := X.R
  obtain ⟨va, vl, vc, hv⟩ : ∃ va vl vc, v = .slice va vl vc := by obtain ⟨a, cap, hv, _⟩ := L; exact ⟨_, _, _, hv⟩
  have KB : Keep nob w (w.alloc (.cells #[.int .i64 4, .int .i64 z] 46)) := (Keep.refl _ _).alloc _
  obtain ⟨W, hW⟩ : ∃ W, W = w.alloc (.cells #[.int .i64 4, .int .i64 z] 46) := ⟨_, rfl⟩
  obtain ⟨bx, hbx⟩ : ∃ bx, bx = w.heap.size := ⟨_, rfl⟩
  rw [← hW] at KB
  rw [← hbx] at nb
  have nbo : ¬ own B bx := fun h => nb bx (Or.inl h) rfl
  have nbg : ¬ gh g h bx := fun h => nb bx (Or.inr h) rfl
  have c0 : W.cell? ⟨bx, 0, none⟩ = some (.int .i64 4) := by rw [hW, hbx]; exact new_at _ _ _ 0 _ rfl
  have c1 : W.cell? ⟨bx, 1, none⟩ = some (.int .i64 z) := by rw [hW, hbx]; exact new_at _ _ _ 1 _ rfl
  replace PA := PA.next G KB
  replace RA := RA.next KB
  have KW := K.then KB
  have wz := hz
  replace nb := Lib.hid nb
  replace nbo := Lib.hid nbo
  replace nbg := Lib.hid nbg
  replace PA := Lib.hid PA
  replace RA := Lib.hid RA
  replace RR := Lib.hid RR
  replace KW := Lib.hid KW
  replace wz := Lib.hid wz
  replace hW := Lib.hid hW
  replace hbx := Lib.hid hbx
  replace G := Lib.hid G
  replace S := Lib.hid S
  replace L := Lib.hid L
  replace KB := Lib.hid KB
  replace hv := Lib.hid hv
  replace FF := Lib.hid FF
  replace hT := Lib.hid hT
  replace c0 := Lib.hid c0
  clear X K hz
  go_enter Tryd.func27, Tryd.ntmps27
  go_wp2_with fail
  rw [← hbx.out, ← hW.out]
  have M0 := PA.out.mem
  have C1 := fun v' hv' => write_any M0 z 5 v' hv'
  have CC := fun (W' : World) (R' : RpAt W' pw g h n v c f) v' hv' => refwrite_at R'.M R'.p1 R'.ne.1 z 5 v' hv'
  have sn := S.out.n
  rw [sn] at C1
  obtain ⟨ea, hea⟩ : ∃ ea, (if inR n z 5 then (0 : Int) else 2) = ea := ⟨_, rfl⟩
  obtain ⟨cf, hcf⟩ : ∃ cf : Int → Nat → Int, (fun v' => if inR n z 5 then upd c (z.toNat * 32 + (5 : Int).toNat) v' else c) = cf := ⟨_, rfl⟩
  have hcf' : ∀ v', (if inR n z 5 then upd c (z.toNat * 32 + (5 : Int).toNat) v' else c) = cf v' := fun v' => congrFun hcf v'
  simp only [hea, hcf'] at C1 CC
  replace hcf := Lib.hid hcf
  replace hcf' := Lib.hid hcf'
  replace hea := Lib.hid hea
  replace CC := Lib.hid CC
  replace C1 := Lib.hid C1
  replace sn := Lib.hid sn
  replace M0 := Lib.hid M0
  go_wp2_with fail
  refine Calls.mono (C1.out _ (u32_bd _)) ?_
  rintro r w1 ⟨rfl, M1, K1⟩
  have sn' := sn.out
  rw [← sn'] at M1
  have P1 := PA.out.mem_turn G.out K1 M1
  have KO1 : Keep (own B) W w1 := K1.mono (fun _ _ e => Or.inl e)
  have R1 := RA.out.other FF.out KO1
  have a0 := KO1.some c1 nbo.out
  have KW1 := FF.out.lo.keep KW.out KO1
  have Kd0 : Keep nob w1 w1.drew := (Keep.refl nob w1).drew
  have C2 := fun v' hv' => CC.out _ (R1.next Kd0) v' hv'
  have ed0 : ∀ p, w1.drew.cell? p = w1.cell? p := fun p => rfl
  replace P1 := Lib.hid P1
  replace K1 := Lib.hid K1
  replace KO1 := Lib.hid KO1
  replace R1 := Lib.hid R1
  replace KW1 := Lib.hid KW1
  replace Kd0 := Lib.hid Kd0
  replace C2 := Lib.hid C2
  replace ed0 := Lib.hid ed0
  replace M1 := Lib.hid M1
  replace sn' := Lib.hid sn'
  clear c1
  go_wp2_with fail
  go_region_held3 (fun w' => w'.cell? ⟨bx, 1, none⟩ = some (.int .i64 z)) (first | go_keep | exact a2) (first | (go_at_call 63; refine Calls.mono (C2.out _ (u32_bd _)) ?_; rintro r w2 ⟨rfl, M2, pm2, K2⟩; have a2 := K2.some ((ed0.out _).trans a0) (fun e => nbg.out (Or.inl e)); replace M2 := Lib.hid M2; replace pm2 := Lib.hid pm2; replace K2 := Lib.hid K2))
  have KG : Keep (gh g h) w1.drew w2 := K2.out.mono (fun _ _ e => Or.inl e)
  have P2 := (P1.out.next G.out Kd0.out).other FF.out G.out KG
  have R2 := (R1.out.next Kd0.out).words K2.out M2.out
  have KW2 := FF.out.gh (KW1.out.then Kd0.out) KG
  replace P2 := Lib.hid P2
  replace R2 := Lib.hid R2
  replace KW2 := Lib.hid KW2
  replace KG := Lib.hid KG
  clear a0
  have TO := Lib.hid (owner_fn G.out P2.out z wz.out)
  have TB := ownE_fit G.out z
  obtain ⟨oa, hoa⟩ : ∃ oa, (ownE B z).1 = oa := ⟨_, rfl⟩
  obtain ⟨ob, hob⟩ : ∃ ob, (ownE B z).2 = ob := ⟨_, rfl⟩
  rw [hoa, hob] at TO
  replace TB := Lib.hid TB
  go_wp2_with fail
  refine Calls.mono TO.out ?_
  rintro r wo ⟨rfl, KO⟩
  have PO := P2.out.next G.out KO
  have RO := R2.out.next KO
  have Kw := KW2.out.then KO
  have co := KO.some a2 (fun x => x)
  have p0 := RO.p0
  have p1 := RO.p1
  have p2 := RO.p2
  have Kd : Keep nob wo wo.drew := (Keep.refl nob wo).drew
  have ed : ∀ p, wo.drew.cell? p = wo.cell? p := fun p => rfl
  have C1 := rowner (g := g) (h := h) (n := n) G.out S.out (L.out.next (Kw.then Kd)) z
  rw [hoa, hob] at C1
  rw [hv] at p0 C1
  unfold refV refsV at C1
  unfold refV at p1
  unfold refsV at p2
  replace PO := Lib.hid PO
  replace RO := Lib.hid RO
  replace Kw := Lib.hid Kw
  replace KO := Lib.hid KO
  replace Kd := Lib.hid Kd
  replace ed := Lib.hid ed
  replace C1 := Lib.hid C1
  replace hoa := Lib.hid hoa
  replace hob := Lib.hid hob
  go_wp2_with fail
  go_region_held3 (fun w' => w'.cell? ⟨pw, 0, none⟩ = some (.slice va vl vc) ∧ w'.cell? ⟨pw, 1, none⟩ = some (.slice (some ⟨g, 0, none⟩) (n * 32) (n * 32)) ∧ w'.cell? ⟨pw, 2, none⟩ = some (.slice (some ⟨h, 0, none⟩) n n) ∧ w'.cell? ⟨bx, 1, none⟩ = some (.int .i64 z)) (first | go_keep | exact ⟨y0, y1, y2, y3⟩) (first | (go_at_call 64; refine Calls.mono C1.out ?_; rintro r wp ⟨rfl, KP⟩; have y0 := KP.some ((ed.out _).trans p0) (fun x => x); have y1 := KP.some ((ed.out _).trans p1) (fun x => x); have y2 := KP.some ((ed.out _).trans p2) (fun x => x); have y3 := KP.some ((ed.out _).trans co) (fun x => x); replace KP := Lib.hid KP))
  clear p0 p1 p2 co
  go_wp2_with fail
  have Kp0 := Kw.out.then (Kd.out.then KP.out)
  have Ke : Keep nob wp wp.drew := (Keep.refl nob wp).drew
  have ee : ∀ p, wp.drew.cell? p = wp.cell? p := fun p => rfl
  have PE := PO.out.next G.out ((Kd.out.then KP.out).then Ke)
  have RE := RO.out.next ((Kd.out.then KP.out).then Ke)
  have KE := Kp0.then Ke
  have D1 := refs_ok PE z wz.out
  have D2 := rrefs G.out S.out RR.out (L.out.next KE) RE z
  have D3 := fun (W' : World) (k : Keep nob wp.drew W') => left_fn G.out (PE.next G.out k) z
  have D4 := fun (W' : World) (k : Keep nob wp.drew W') => rleft G.out S.out RR.out (L.out.next (KE.then k)) (RE.next k) z
  obtain ⟨u1, hu1⟩ : ∃ u, (f) z = u := ⟨_, rfl⟩
  obtain ⟨u2, hu2⟩ : ∃ u, lefE B ((f)) z = u := ⟨_, rfl⟩
  rw [hu1] at D1 D2
  rw [hu2] at D3 D4
  rw [hv.out] at D2 D4
  unfold refV refsV at D2 D4
  replace D1 := Lib.hid D1
  replace D2 := Lib.hid D2
  replace D3 := Lib.hid D3
  replace D4 := Lib.hid D4
  replace hu1 := Lib.hid hu1
  replace hu2 := Lib.hid hu2
  replace PE := Lib.hid PE
  replace RE := Lib.hid RE
  replace KE := Lib.hid KE
  replace Kp0 := Lib.hid Kp0
  replace Ke := Lib.hid Ke
  replace ee := Lib.hid ee
  go_region_held3 (fun w' => w'.cell? ⟨pw, 0, none⟩ = some (.slice va vl vc) ∧ w'.cell? ⟨pw, 1, none⟩ = some (.slice (some ⟨g, 0, none⟩) (n * 32) (n * 32)) ∧ w'.cell? ⟨pw, 2, none⟩ = some (.slice (some ⟨h, 0, none⟩) n n) ∧ w'.cell? ⟨bx, 1, none⟩ = some (.int .i64 z)) (first | go_keep | exact ⟨x0, x1, x2, x3⟩ | exact ⟨v0, v1, v2, v3⟩) (first | (go_at_call 21; refine Calls.mono D1.out ?_; rintro r wq ⟨rfl, rfl⟩) | (go_at_call 65; refine Calls.mono D2.out ?_; rintro r wq ⟨rfl, KQ⟩; have x0 := KQ.some ((ee.out _).trans y0) (fun x => x); have x1 := KQ.some ((ee.out _).trans y1) (fun x => x); have x2 := KQ.some ((ee.out _).trans y2) (fun x => x); have x3 := KQ.some ((ee.out _).trans y3) (fun x => x); replace KQ := Lib.hid KQ) | (go_at_call 24; refine Calls.mono (D3.out _ KQ.out) ?_; rintro r wq ⟨rfl, rfl⟩) | (go_at_call 66; refine Calls.mono (D4.out _ KQ.out) ?_; rintro r wz' ⟨rfl, KZ⟩; have v0 := KZ.some x0 (fun x => x); have v1 := KZ.some x1 (fun x => x); have v2 := KZ.some x2 (fun x => x); have v3 := KZ.some x3 (fun x => x); replace KZ := Lib.hid KZ))
  go_wp2_with fail
  go_ret
  have KF := KQ.out.then KZ.out
  exact ⟨rfl, ⟨_, (⟨⟨_, PE.out.next G.out KF, RE.out.next KF⟩, RR.out⟩ : Both9 _ B pw g h n v _ _).mono (Nat.le_succ _)⟩, KE.out.then KF, by have := K1.out.size; have := Kd0.out.size; have := K2.out.size; have := KB.out.size; have := KO.out.size; have := Kd.out.size; have := KP.out.size; have := Ke.out.size; have := KF.size; omega⟩
theorem play9 {w0 w : World} {B : PB} {pw g h n q : Nat} {v : Value} {l : List (Int × Int)} {f : Int → Int} (hT : TabAt 0 Lib.deBruijn64tab w0) (G : Geo B) (S : Same B n l) (L : PairsAt w0 v l) (FF : Far w0 B pw g h) (K : Keep nob w0 w) (X : Both9 w B pw g h n v f q) (hq : q < 4611686018427387904) (hb : ∀ x, own B x ∨ gh g h x → x < w.heap.size) (o : Int × Int) (ho : pairFine o) :
    Calls Tryd.prog 27 #[.pointer (some ⟨B.b, 0, none⟩), .pointer (some ⟨B.p, 0, none⟩), .pointer (some ⟨pw, 0, none⟩), .agg #[.int .i64 o.1, .int .i64 o.2]] w (PlayPost w0 w B pw g h n v q) := by
  obtain ⟨d, z⟩ := o
  by_cases h1 : d = 1
  · subst h1; exact play_alloc hT G S L FF K X hq hb z ho.2
  by_cases h2 : d = 2
  · subst h2; exact play_share hT G S L FF K X hq hb z ho.2
  by_cases h3 : d = 3
  · subst h3; exact play_free hT G S L FF K X hq hb z ho.2
  by_cases h4 : d = 4
  · subst h4; exact play_write hT G S L FF K X hq hb z ho.2
  · exact play_rest hT G S L FF K X hq z ho.2 d (by simpa using h1) (by simpa using h2) (by simpa using h3) (by simpa using h4)
end Go.Proofs.YtepmljcapobodaaDoor
