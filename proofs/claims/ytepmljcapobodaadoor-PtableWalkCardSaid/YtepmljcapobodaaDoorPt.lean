/- A manager of package ptable: its state; none, asked, get, put, fits. -/
import Derived.Test.YtepmljcapobodaaDoorPalTwo
import Derived.Test.YtepmljcapobodaaDoorEnt
import Derived.Test.YtepmljcapobodaaDoorEntAt
import Derived.Deep.RegionHeld3
namespace Go.Proofs.YtepmljcapobodaaDoor
open Go.RowKit
set_option linter.unusedVariables false
set_option maxRecDepth 100000
/-- Where a manager lies: its block, its map, its partition. -/
structure MB where
  t : Nat
  rt : Nat
  part : Nat
structure MGeo (A : MB) (B : PB) : Prop where
  t : ¬ own B A.t
  rt : ¬ own B A.rt
  ne : A.t ≠ A.rt
  b : B.b ≠ A.rt
  part : A.part < B.l.length
/-- The manager itself: behind its pool and memory. -/
structure MgrAt (w : World) (A : MB) (B : PB) (g : Int → Int) (q : Nat) : Prop where
  tm : w.cell? ⟨A.t, 0, none⟩ = some (.pointer (some ⟨B.b, 0, none⟩))
  tp : w.cell? ⟨A.t, 1, none⟩ = some (.pointer (some ⟨B.p, 0, none⟩))
  ti : w.cell? ⟨A.t, 2, none⟩ = some (.int .i64 A.part)
  tr : w.cell? ⟨A.t, 3, none⟩ = some (.map (some A.rt))
  map : MapI w A.rt q g
theorem MgrAt.keep {w w' : World} {A : MB} {B : PB} {g : Int → Int} {q : Nat} {S : Nat → Prop} (M : MgrAt w A B g q) (k : Keep S w w') (h1 : ¬ S A.t) (h2 : ¬ S A.rt) : MgrAt w' A B g q :=
  ⟨k.some M.tm h1, k.some M.tp h1, k.some M.ti h1, k.some M.tr h1, M.map.keep k h2⟩
theorem MgrAt.next {w w' : World} {A : MB} {B : PB} {g : Int → Int} {q : Nat} (M : MgrAt w A B g q) (k : Keep nob w w') : MgrAt w' A B g q := M.keep k (fun x => x) (fun x => x)
theorem MgrAt.pool {w w' : World} {A : MB} {B : PB} {g : Int → Int} {q : Nat} (H : MGeo A B) (M : MgrAt w A B g q) (k : Keep (own B) w w') : MgrAt w' A B g q := M.keep k H.t H.rt
theorem MgrAt.mono {w : World} {A : MB} {B : PB} {g : Int → Int} {q r : Nat} (M : MgrAt w A B g q) (h : q ≤ r) : MgrAt w A B g r := ⟨M.tm, M.tp, M.ti, M.tr, M.map.mono h⟩
/-- The manager, its pool and its memory. -/
structure PtAt (w : World) (A : MB) (B : PB) (c : Nat → Int) (f g : Int → Int) (q : Nat) : Prop where
  P : PoolAt w B c f q
  M : MgrAt w A B g q
  O : ∀ x, own B x → x < w.heap.size
theorem PtAt.grow {w w' : World} {A : MB} {B : PB} {c : Nat → Int} {f g : Int → Int} {q : Nat} {S : Nat → Prop} (X : PtAt w A B c f g q) (k : Keep S w w') : ∀ x, own B x → x < w'.heap.size := fun x h => Nat.lt_of_lt_of_le (X.O x h) k.size
theorem PtAt.next {w w' : World} {A : MB} {B : PB} {c : Nat → Int} {f g : Int → Int} {q : Nat} (G : Geo B) (X : PtAt w A B c f g q) (k : Keep nob w w') : PtAt w' A B c f g q := ⟨X.P.next G k, X.M.next k, X.grow k⟩
theorem PtAt.mono {w : World} {A : MB} {B : PB} {c : Nat → Int} {f g : Int → Int} {q r : Nat} (X : PtAt w A B c f g q) (h : q ≤ r) : PtAt w A B c f g r := ⟨X.P.mono h, X.M.mono h, X.O⟩
theorem PtAt.keep {w w' : World} {A : MB} {B : PB} {c : Nat → Int} {f g : Int → Int} {q : Nat} {S : Nat → Prop} (G : Geo B) (X : PtAt w A B c f g q) (k : Keep S w w') (hb : ¬ S B.b) (hS : ∀ x, own B x → ¬ S x) (h1 : ¬ S A.t) (h2 : ¬ S A.rt) : PtAt w' A B c f g q :=
  ⟨X.P.keep G k hb hS, X.M.keep k h1 h2, X.grow k⟩
theorem PoolAt.words {w w' : World} {B : PB} {c c' : Nat → Int} {f : Int → Int} {q : Nat} (G : Geo B) (P : PoolAt w B c f q) (k : Keep (only B.mf) w w') (M : MemAt w' B.b B.mf B.n c') : PoolAt w' B c' f q := by
  have h : ∀ x, B.lo ≤ x → ¬ only B.mf x := fun x hx e => by have e : x = B.mf := e; have := G.m.2; omega
  exact ⟨M, k.some P.pm (h _ G.p.1), k.some P.pl (h _ G.p.1), k.some P.pr (h _ G.p.1), fun j hj => k.some (P.gs j hj) (h _ G.g.1), fun j hj => k.some (P.gf j hj) (h _ G.g.1), fun j hj => k.some (P.gm j hj) (h _ G.g.1),
    fun j hj => let ⟨W, h1, h2⟩ := P.set j hj; ⟨W, h1.keep k (h _ (G.s j hj).1), h2⟩, P.map.keep k (h _ G.r.1)⟩
theorem mf_own {B : PB} : ∀ x, only B.mf x → own B x := fun _ e => Or.inl e
theorem PtAt.words {w w' : World} {A : MB} {B : PB} {c c' : Nat → Int} {f g : Int → Int} {q : Nat} (G : Geo B) (H : MGeo A B) (X : PtAt w A B c f g q) (k : Keep (only B.mf) w w') (M : MemAt w' B.b B.mf B.n c') : PtAt w' A B c' f g q :=
  ⟨X.P.words G k M, X.M.keep k (fun e => H.t (mf_own _ e)) (fun e => H.rt (mf_own _ e)), X.grow k⟩
/-- The blocks that a manager's calls may write. -/
def ownT (A : MB) (B : PB) : Nat → Prop := fun k => own B k ∨ k = A.rt
theorem own_T {A : MB} {B : PB} : ∀ x, own B x → ownT A B x := fun _ e => Or.inl e
theorem tnone_ok {w : World} {A : MB} {B : PB} {g : Int → Int} {q : Nat} (M : MgrAt w A B g q) :
    Calls Tryd.prog 71 #[.pointer (some ⟨A.t, 0, none⟩)] w fun r w' => r = .returned (.bool false) ∧ w = w' := by
  have c0 := M.tm
  clear M
  go_enter Tryd.func71, Tryd.ntmps71
  go_wp2_with fail
  go_ret
  exact ⟨rfl, rfl⟩
/-! ### asked -/
def askE (g : Int → Int) (root page : Int) (fine : Bool) : Int := if 0 ≤ page ∧ page < 1024 ∧ fine = true then (if g root = 0 then 4 else 0) else 2
theorem asked_ok' {w : World} {A : MB} {B : PB} {g : Int → Int} {q : Nat} (M : MgrAt w A B g q) (root page : Int) (fine : Bool) (hr : wfI root) :
    Calls Tryd.prog 72 #[.pointer (some ⟨A.t, 0, none⟩), .int .i64 root, .int .i64 page, .bool fine] w fun r w' => r = .returned (.int .i64 (askE g root page fine)) ∧ w = w' := by
  have c3 := M.tr
  have MM := Lib.hid M.map
  have N := Lib.hid (tnone_ok M)
  replace hr := Lib.hid hr
  replace M := Lib.hid M
  by_cases h0 : page < 0
  · have e : askE g root page fine = 2 := if_neg (by omega)
    rw [e]
    have t1 : decide (page < 0) = true := by simpa using h0
    clear h0 e
    go_enter Tryd.func72, Tryd.ntmps72
    go_wp2_with fail
    refine Calls.mono (N.out) ?_
    rintro r w1 ⟨rfl, rfl⟩
    go_wp2_with fail
    go_ret
    exact ⟨rfl, rfl⟩
  by_cases h1 : 1024 ≤ page
  · have e : askE g root page fine = 2 := if_neg (by omega)
    rw [e]
    have t1 : decide (page < 0) = false := by simpa using h0
    have t2 : decide (1024 ≤ page) = true := by simpa using h1
    clear h0 h1 e
    go_enter Tryd.func72, Tryd.ntmps72
    go_wp2_with fail
    refine Calls.mono (N.out) ?_
    rintro r w1 ⟨rfl, rfl⟩
    go_wp2_with fail
    go_ret
    exact ⟨rfl, rfl⟩
  have t1 : decide (page < 0) = false := by simpa using h0
  have t2 : decide (1024 ≤ page) = false := by simpa using h1
  cases fine with
  | false =>
    have e : askE g root page false = 2 := if_neg (by simp)
    rw [e]
    clear h0 h1 e
    go_enter Tryd.func72, Tryd.ntmps72
    go_wp2_with fail
    refine Calls.mono (N.out) ?_
    rintro r w1 ⟨rfl, rfl⟩
    go_wp2_with fail
    go_ret
    exact ⟨rfl, rfl⟩
  | true =>
    have e : askE g root page true = if g root = 0 then 4 else 0 := if_pos ⟨by omega, by omega, rfl⟩
    rw [e]
    obtain ⟨u, hu⟩ : ∃ u, g root = u := ⟨_, rfl⟩
    rw [hu]
    clear h0 h1 e
    by_cases z : u = 0
    · subst z
      replace hu := Lib.hid hu
      simp only [if_true]
      go_enter Tryd.func72, Tryd.ntmps72
      go_wp2_with fail
      refine Calls.mono N.out ?_
      rintro r w1 ⟨rfl, rfl⟩
      go_wp2_with (at_lookup; refine wpList_look rfl _ _ rfl A.rt q g MM.out root hr.out rfl rfl ?_; rw [hu.out])
      go_ret
      exact ⟨rfl, rfl⟩
    · have t3 : (u == 0) = false := by simpa using z
      rw [if_neg z]
      replace hu := Lib.hid hu
      replace z := Lib.hid z
      go_enter Tryd.func72, Tryd.ntmps72
      go_wp2_with fail
      refine Calls.mono N.out ?_
      rintro r w1 ⟨rfl, rfl⟩
      go_wp2_with (at_lookup; refine wpList_look rfl _ _ rfl A.rt q g MM.out root hr.out rfl rfl ?_; rw [hu.out])
      go_ret
      exact ⟨rfl, rfl⟩
theorem write_some {w : World} {b f n : Nat} {c : Nat → Int} (M : MemAt w b f n c) (i j v : Int) (hv : 0 ≤ v ∧ v < 4294967296) :
    Calls Tryd.prog 31 #[.pointer (some ⟨b, 0, none⟩), .int .i64 i, .int .i64 j, .int .u32 v] w
      fun e w' => ∃ x : Int, e = .returned (.int .i64 x) ∧ MemAt w' b f n (if inR n i j then upd c (i.toNat * 32 + j.toNat) v else c) ∧ Keep (only f) w w' :=
  (write_any M i j v hv).mono fun e w' h => ⟨_, h.1, h.2.1, h.2.2⟩
/-! ### get, put -/
/-- The entry at a place of a table. -/
def getE (n : Nat) (c : Nat → Int) (table place : Int) : Ent := getR (if inR n table place then c (table.toNat * 32 + place.toNat) else 0)
def putC (n : Nat) (c : Nat → Int) (table place : Int) (e : Ent) : Nat → Int := if inR n table place then upd c (table.toNat * 32 + place.toNat) (putR e) else c
theorem getE_val (e : Ent) : e.val = .agg #[.bool e.p, .bool e.w, .bool e.c, .int .i64 e.f] := rfl
set_option maxHeartbeats 1600000 in
theorem tget {w : World} {A : MB} {B : PB} {c : Nat → Int} {f g : Int → Int} {q : Nat} (X : PtAt w A B c f g q) (table place : Int) :
    Calls Tryd.prog 74 #[.pointer (some ⟨A.t, 0, none⟩), .int .i64 table, .int .i64 place] w fun r w' => r = .returned (getE B.n c table place).val ∧ Keep nob w w' := by
  have c0 := X.M.tm
  have ca0 := fun o => (alloc_lt (o := o) (World.block_lt_of_cell? _ _ c0)).trans c0
  have M := X.P.mem
  unfold getE
  obtain ⟨W, hW⟩ : ∃ W, W = w.alloc (.cells #[.bool false, .bool false, .bool false, .int .i64 0] 69) := ⟨_, rfl⟩
  have KW : Keep nob w W := by rw [hW]; exact (Keep.refl _ _).alloc _
  have C := read_any (M.next KW) table place
  obtain ⟨x, hx⟩ : ∃ x, (if inR B.n table place then c (table.toNat * 32 + place.toNat) else 0) = x := ⟨_, rfl⟩
  obtain ⟨y, hy⟩ : ∃ y, (if inR B.n table place then (0 : Int) else 2) = y := ⟨_, rfl⟩
  have bx : 0 ≤ x ∧ x < 4294967296 := by
    rw [← hx]; split
    · exact M.rng _
    · omega
  rw [hx, hy] at C
  rw [hx]
  have C2 := fun W' => get_ok x W' bx.1 bx.2
  obtain ⟨p, v, cc, fr, hE⟩ : ∃ p v cc fr, getR x = ⟨p, v, cc, fr⟩ := ⟨_, _, _, _, rfl⟩
  obtain ⟨y2, hy2⟩ : ∃ y2, gchk x = y2 := ⟨_, rfl⟩
  rw [hE, hy2] at C2
  rw [hE]
  unfold Ent.val at C2 ⊢
  simp only at C2 ⊢
  have E0 : EntAt W w.heap.size false false false 0 := by rw [hW]; exact EntAt.new _ _ _ _ _ _
  replace KW := Lib.hid KW
  replace C := Lib.hid C
  replace C2 := Lib.hid C2
  replace hx := Lib.hid hx
  replace hy := Lib.hid hy
  replace bx := Lib.hid bx
  replace hE := Lib.hid hE
  replace hy2 := Lib.hid hy2
  replace E0 := Lib.hid E0
  replace M := Lib.hid M
  replace hW := Lib.hid hW
  go_enter Tryd.func74, Tryd.ntmps74
  go_wp2_with fail
  rw [← hW.out]
  refine Calls.mono C.out ?_
  rintro r w1 ⟨rfl, K1⟩
  replace K1 := Lib.hid K1
  go_wp2_with fail
  refine Calls.mono (C2.out _) ?_
  rintro r w2 ⟨rfl, K2⟩
  have E2 := (E0.out.next K1.out).next K2
  have K3 := (KW.out.then K1.out).then K2
  have F := Lib.hid (fun p' q' c' f' => ((E2.next ((Keep.refl nob w2).alloc (.cells #[.bool p, .bool v, .bool cc, .int .i64 fr] 69)))).put (p' := p') (q' := q') (c' := c') (f' := f'))
  have EA := fun o => E2.next ((Keep.refl nob w2).alloc o)
  have d0 := fun o => (EA o).c0
  have d1 := fun o => (EA o).c1
  have d2 := fun o => (EA o).c2
  have d3 := fun o => (EA o).c3
  have z0 := fun o => (EA o).z0
  have z1 := fun o => (EA o).z1
  have z2 := fun o => (EA o).z2
  have z3 := fun o => (EA o).z3
  replace K2 := Lib.hid K2
  replace K3 := Lib.hid K3
  replace EA := Lib.hid EA
  replace E2 := Lib.hid E2
  go_wp2_with fail
  refine bodyPost_ret (results_ent1 rfl _ _ w.heap.size (F.out p v cc fr) rfl) rfl ⟨rfl, ?_⟩
  repeat (refine Keep.setCell ?_ _ (Or.inl (Nat.le_refl _)))
  exact K3.out.alloc _
set_option maxHeartbeats 1600000 in
theorem tput {w : World} {A : MB} {B : PB} {c : Nat → Int} {f g : Int → Int} {q : Nat} (G : Geo B) (H : MGeo A B) (X : PtAt w A B c f g q) (table place : Int) (e : Ent) :
    Calls Tryd.prog 75 #[.pointer (some ⟨A.t, 0, none⟩), .int .i64 table, .int .i64 place, e.val] w fun r w' => r = .returned (.tuple #[]) ∧ PtAt w' A B (putC B.n c table place e) f g q ∧ Keep (only B.mf) w w' := by
  have c0 := X.M.tm
  obtain ⟨p, v, cc, fr⟩ := e
  obtain ⟨W, hW⟩ : ∃ W, W = w.alloc (.cells #[.bool p, .bool v, .bool cc, .int .i64 fr] 69) := ⟨_, rfl⟩
  have KW : Keep nob w W := by rw [hW]; exact (Keep.refl _ _).alloc _
  have bp : 0 ≤ putR ⟨p, v, cc, fr⟩ ∧ putR ⟨p, v, cc, fr⟩ < 4294967296 := by
    unfold putR
    split
    · rename_i h
      unfold okE at h
      simp only [Bool.and_eq_true, decide_eq_true_eq] at h
      unfold putW bit
      simp only
      split <;> split <;> split <;> omega
    · omega
  have C := put_ok ⟨p, v, cc, fr⟩ W
  obtain ⟨x, hx⟩ : ∃ x, putR ⟨p, v, cc, fr⟩ = x := ⟨_, rfl⟩
  obtain ⟨y, hy⟩ : ∃ y, chk ⟨p, v, cc, fr⟩ = y := ⟨_, rfl⟩
  unfold putC
  rw [hx, hy] at C
  rw [hx] at bp ⊢
  obtain ⟨c9, hc9⟩ : ∃ c9, (if inR B.n table place then upd c (table.toNat * 32 + place.toNat) x else c) = c9 := ⟨_, rfl⟩
  rw [hc9]
  unfold Ent.val at C ⊢
  simp only at C ⊢
  have c0' := KW.some c0 (fun x => x)
  replace KW := Lib.hid KW
  replace C := Lib.hid C
  replace hx := Lib.hid hx
  replace hy := Lib.hid hy
  replace bp := Lib.hid bp
  replace hW := Lib.hid hW
  replace X := Lib.hid X
  replace hc9 := Lib.hid hc9
  go_enter Tryd.func75, Tryd.ntmps75
  go_wp2_with fail
  rw [← hW.out]
  refine Calls.mono C.out ?_
  rintro r w1 ⟨rfl, K1⟩
  have K2 := KW.out.then K1
  have c1 := K1.some c0' (fun x => x)
  have X1 := X.out.next G K2
  have C2 := write_some X1.P.mem table place x bp.out
  rw [hc9.out] at C2
  replace K1 := Lib.hid K1
  replace K2 := Lib.hid K2
  replace C2 := Lib.hid C2
  replace X1 := Lib.hid X1
  clear c0 c0'
  go_wp2_with fail
  refine Calls.mono C2.out ?_
  rintro r w2 ⟨ee, rfl, M2, K3⟩
  have X2 := X1.out.words G H K3 M2
  have K4 : Keep (only B.mf) w w2 := K2.out.nob.trans K3 (fun _ _ e => e)
  replace M2 := Lib.hid M2
  replace K3 := Lib.hid K3
  replace X2 := Lib.hid X2
  replace K4 := Lib.hid K4
  go_wp2_with fail
  go_end0
  exact ⟨rfl, X2.out, K4.out⟩
/-! ### fits -/
def fitB (n : Nat) (e : Ent) : Bool := okE e && e.p && decide (e.f < n)
set_option maxHeartbeats 3200000 in
theorem tfits {w : World} {A : MB} {B : PB} {c : Nat → Int} {f g : Int → Int} {q : Nat} (X : PtAt w A B c f g q) (e : Ent) :
    Calls Tryd.prog 73 #[.pointer (some ⟨A.t, 0, none⟩), e.val] w fun r w' => r = .returned (.bool (fitB B.n e)) ∧ Keep nob w w' := by
  have c0 := X.M.tm
  have MM := X.M
  have ME := X.P.mem
  obtain ⟨p, v, cc, fr⟩ := e
  have K1 : Keep nob w (w.alloc (.cells #[.bool p, .bool v, .bool cc, .int .i64 fr] 69)) := (Keep.refl _ _).alloc _
  obtain ⟨W, hW⟩ : ∃ W, W = w.alloc (.cells #[.bool p, .bool v, .bool cc, .int .i64 fr] 69) := ⟨_, rfl⟩
  rw [← hW] at K1
  have E0 : EntAt W w.heap.size p v cc fr := by rw [hW]; exact EntAt.new _ _ _ _ _ _
  have KD : Keep nob W W.drew := (Keep.refl nob W).drew
  have N := tnone_ok ((MM.next K1).next KD)
  have C := check_ok ⟨p, v, cc, fr⟩ W.drew
  have F := fun W' (k : Keep nob W W') => frames_at (ME.next (K1.then k))
  have c0' := K1.some c0 (fun x => x)
  have ed : ∀ p, W.drew.cell? p = W.cell? p := fun p => rfl
  unfold Ent.val at C ⊢
  simp only at C ⊢
  obtain ⟨e0, e1, e2, e3, z0, z1, z2, z3⟩ := E0
  cases h : okE ⟨p, v, cc, fr⟩ with
  | false =>
    have hk : chk ⟨p, v, cc, fr⟩ = 2 := chk_no h
    have hf : fitB B.n ⟨p, v, cc, fr⟩ = false := by unfold fitB; rw [h]; rfl
    rw [hk] at C
    rw [hf]
    replace hW := Lib.hid hW
    replace N := Lib.hid N
    replace C := Lib.hid C
    replace F := Lib.hid F
    replace K1 := Lib.hid K1
    replace KD := Lib.hid KD
    replace h := Lib.hid h
    replace hk := Lib.hid hk
    replace hf := Lib.hid hf
    replace MM := Lib.hid MM
    replace ME := Lib.hid ME
    replace ed := Lib.hid ed
    go_enter Tryd.func73, Tryd.ntmps73
    go_wp2_with fail
    rw [← hW.out]
    first
      | (go_region_with (first | (go_at_call 71; refine Calls.mono N.out ?_; rintro r w1 ⟨rfl, rfl⟩) | (go_at_call 94; refine Calls.mono C.out ?_; rintro r w1 ⟨rfl, KC⟩; have y0 := KC.some ((ed.out _).trans e0) (fun x => x); have y1 := KC.some ((ed.out _).trans e1) (fun x => x); have y2 := KC.some ((ed.out _).trans e2) (fun x => x); have y3 := KC.some ((ed.out _).trans e3) (fun x => x); have y4 := KC.some ((ed.out _).trans c0') (fun x => x); replace KC := Lib.hid KC)))
      | fail
    all_goals
      go_wp2_with fail
      go_ret
      exact ⟨rfl, (K1.out.then KD.out).then KC.out⟩
  | true =>
    have hk : chk ⟨p, v, cc, fr⟩ = 0 := chk_ok h
    rw [hk] at C
    have bf : 0 ≤ fr ∧ fr < 1024 := by
      unfold okE at h
      simp only [Bool.and_eq_true, decide_eq_true_eq] at h
      omega
    cases p with
    | false =>
      have hf : fitB B.n ⟨false, v, cc, fr⟩ = false := by unfold fitB; simp
      rw [hf]
      replace hW := Lib.hid hW
      replace N := Lib.hid N
      replace C := Lib.hid C
      replace F := Lib.hid F
      replace K1 := Lib.hid K1
      replace KD := Lib.hid KD
      replace h := Lib.hid h
      replace hk := Lib.hid hk
      replace hf := Lib.hid hf
      replace MM := Lib.hid MM
      replace ME := Lib.hid ME
      replace ed := Lib.hid ed
      replace bf := Lib.hid bf
      go_enter Tryd.func73, Tryd.ntmps73
      go_wp2_with fail
      rw [← hW.out]
      first
        | (go_region_with (first | (go_at_call 71; refine Calls.mono N.out ?_; rintro r w1 ⟨rfl, rfl⟩) | (go_at_call 94; refine Calls.mono C.out ?_; rintro r w1 ⟨rfl, KC⟩; have y0 := KC.some ((ed.out _).trans e0) (fun x => x); have y1 := KC.some ((ed.out _).trans e1) (fun x => x); have y2 := KC.some ((ed.out _).trans e2) (fun x => x); have y3 := KC.some ((ed.out _).trans e3) (fun x => x); have y4 := KC.some ((ed.out _).trans c0') (fun x => x); replace KC := Lib.hid KC)))
        | fail
      all_goals
        go_wp2_with fail
        go_ret
        exact ⟨rfl, (K1.out.then KD.out).then KC.out⟩
    | true =>
      have hf : fitB B.n ⟨true, v, cc, fr⟩ = decide (fr < B.n) := by unfold fitB; rw [h]; rfl
      rw [hf]
      obtain ⟨T, hT⟩ : ∃ T, decide (fr < B.n) = T := ⟨_, rfl⟩
      rw [hT]
      replace hW := Lib.hid hW
      replace N := Lib.hid N
      replace C := Lib.hid C
      replace F := Lib.hid F
      replace K1 := Lib.hid K1
      replace KD := Lib.hid KD
      replace h := Lib.hid h
      replace hk := Lib.hid hk
      replace hf := Lib.hid hf
      replace MM := Lib.hid MM
      replace ME := Lib.hid ME
      replace ed := Lib.hid ed
      replace bf := Lib.hid bf
      go_enter Tryd.func73, Tryd.ntmps73
      go_wp2_with fail
      rw [← hW.out]
      first
        | (go_region_held3 (fun w' => w'.cell? ⟨w.heap.size, 0, none⟩ = some (.bool true) ∧ w'.cell? ⟨w.heap.size, 1, none⟩ = some (.bool v) ∧ w'.cell? ⟨w.heap.size, 2, none⟩ = some (.bool cc) ∧ w'.cell? ⟨w.heap.size, 3, none⟩ = some (.int .i64 fr) ∧ w'.cell? ⟨A.t, 0, none⟩ = some (.pointer (some ⟨B.b, 0, none⟩))) (first | go_keep | exact ⟨y0, y1, y2, y3, y4⟩) (first | (go_at_call 71; refine Calls.mono N.out ?_; rintro r w1 ⟨rfl, rfl⟩) | (go_at_call 94; refine Calls.mono C.out ?_; rintro r w1 ⟨rfl, KC⟩; have y0 := KC.some ((ed.out _).trans e0) (fun x => x); have y1 := KC.some ((ed.out _).trans e1) (fun x => x); have y2 := KC.some ((ed.out _).trans e2) (fun x => x); have y3 := KC.some ((ed.out _).trans e3) (fun x => x); have y4 := KC.some ((ed.out _).trans c0') (fun x => x); replace KC := Lib.hid KC) | (go_at_call 51; refine Calls.mono (F.out _ (KD.out.then KC.out)) ?_; rintro r w2 ⟨rfl, rfl⟩)))
        | fail
      go_wp2_with fail
      go_ret
      exact ⟨rfl, (K1.out.then KD.out).then KC.out⟩
end Go.Proofs.YtepmljcapobodaaDoor
