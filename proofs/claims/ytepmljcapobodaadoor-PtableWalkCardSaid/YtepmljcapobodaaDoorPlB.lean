/- One call on both, a manager and the reference of layer 10. -/
import Derived.Test.YtepmljcapobodaaDoorPlA
import Derived.Test.YtepmljcapobodaaDoorPtAwake
import Derived.Deep.RegionHeld3
section
namespace Go.Proofs.YtepmljcapobodaaDoor
open Go.RowKit
set_option linter.unusedVariables false
set_option maxRecDepth 100000
theorem rmap_ok {w : World} {base bw : Nat} {v : Value} {sl : List Spc} {n many : Nat} (D : WdAt w base bw v sl n many) (root page : Int) (e : Ent) (hr : ∀ s, spcR sl root = some s → isF s.l page = false → 0 ≤ page → page < 1024 → s.l.length < 1024) :
    Calls Tryd.prog 79 #[.pointer (some ⟨bw, 0, none⟩), .int .i64 root, .int .i64 page, e.val] w (MapPost w base bw v sl n many root page e) := by
  by_cases ha : askR sl root page (fitB n e) = 0
  · refine rmap_yes D root page e ha fun s h1 h2 => ?_
    unfold askR at ha
    split at ha
    · rename_i h; exact hr s h1 h2 h.1 h.2.1
    · cases ha
  · exact rmap_no D root page e ha
theorem runmap_ok {w : World} {base bw : Nat} {v : Value} {sl : List Spc} {n many : Nat} (D : WdAt w base bw v sl n many) (root page : Int) :
    Calls Tryd.prog 80 #[.pointer (some ⟨bw, 0, none⟩), .int .i64 root, .int .i64 page] w (UmPost w base bw v sl n many root page) := by
  by_cases ha : askR sl root page true = 0
  · exact runmap_yes D root page ha
  · exact runmap_no D root page ha
theorem rset_ok {w : World} {base bw : Nat} {v : Value} {sl : List Spc} {n many : Nat} (D : WdAt w base bw v sl n many) (root page : Int) (e : Ent) :
    Calls Tryd.prog 81 #[.pointer (some ⟨bw, 0, none⟩), .int .i64 root, .int .i64 page, e.val] w (SePost w base bw v sl n many root page e) := by
  by_cases ha : askR sl root page (fitB n e) = 0
  · exact rset_yes D root page e ha
  · exact rset_no D root page e ha
/-- Where all of it lies. -/
structure PlGeo (A : MB) (B : PB) (base bw lb many : Nat) : Prop where
  D : PtG A B
  bl : Bl A B base
  b0 : Bl A B bw
  b1 : Bl A B lb
  ne : bw ≠ lb
  bb : bw < base
  lt : lb < base
  n : B.n = many + 2
  h1 : 1 ≤ many
  h2 : many ≤ 30
theorem PlGeo.nb {A : MB} {B : PB} {base bw lb many : Nat} (G : PlGeo A B base bw lb many) : ¬ ownT A B bw := G.b0.no _ (Nat.le_refl _)
theorem PlGeo.nl {A : MB} {B : PB} {base bw lb many : Nat} (G : PlGeo A B base bw lb many) : ¬ ownT A B lb := G.b1.no _ (Nat.le_refl _)
structure PlAt (w : World) (A : MB) (B : PB) (base bw lb many : Nat) (v lv : Value) (sl : List Spc) (ol : List Nat) (M : Nat → Nat → Ent) (g : Int → Int) (left q : Nat) : Prop where
  S : PtSt w A B many M g left q
  W : WdAt w base bw v sl (many + 2) many
  l0 : w.cell? ⟨lb, 0, none⟩ = some lv
  lz : w.frozen? ⟨lb, 0, none⟩ = false
  lr : w.ownsRow base 3 1 lv ol.length (ol.flatMap natCells)
  R : PRel many sl M g left
  ll : ol.length ≤ q
  lo : ∀ x ∈ ol, x < 1024
def playS (A : MB) (B : PB) (base bw lb : Nat) : Nat → Prop := fun k => ownT A B k ∨ k = bw ∨ k = lb ∨ base ≤ k
section
variable {w : World} {A : MB} {B : PB} {base bw lb many : Nat} {v lv : Value} {sl : List Spc} {ol : List Nat} {M : Nat → Nat → Ent} {g : Int → Int} {left q : Nat}
theorem PlAt.next {w' : World} (G : PlGeo A B base bw lb many) (P : PlAt w A B base bw lb many v lv sl ol M g left q) (k : Keep nob w w') : PlAt w' A B base bw lb many v lv sl ol M g left q :=
  ⟨P.S.next G.D k, P.W.next k, k.some P.l0 (fun x => x), (k.frozen (World.block_lt_of_cell? _ _ P.l0) (fun x => x)).trans P.lz, own_next P.lr k, P.R, P.ll, P.lo⟩
theorem PlAt.mono {q' : Nat} (P : PlAt w A B base bw lb many v lv sl ol M g left q) (h : q ≤ q') : PlAt w A B base bw lb many v lv sl ol M g left q' :=
  ⟨P.S.mono h, P.W, P.l0, P.lz, P.lr, P.R, Nat.le_trans P.ll h, P.lo⟩
/-- The reference's side, behind a call of the manager. -/
structure RfAt (w : World) (base bw lb many : Nat) (v lv : Value) (sl : List Spc) (ol : List Nat) : Prop where
  W : WdAt w base bw v sl (many + 2) many
  l0 : w.cell? ⟨lb, 0, none⟩ = some lv
  lz : w.frozen? ⟨lb, 0, none⟩ = false
  lr : w.ownsRow base 3 1 lv ol.length (ol.flatMap natCells)
theorem PlAt.rf (P : PlAt w A B base bw lb many v lv sl ol M g left q) : RfAt w base bw lb many v lv sl ol := ⟨P.W, P.l0, P.lz, P.lr⟩
theorem RfAt.mgr {w' : World} (G : PlGeo A B base bw lb many) (P : RfAt w base bw lb many v lv sl ol) (k : Keep (ownT A B) w w') : RfAt w' base bw lb many v lv sl ol :=
  ⟨P.W.keep k G.nb G.bl.no, k.some P.l0 G.nl, (k.frozen (World.block_lt_of_cell? _ _ P.l0) G.nl).trans P.lz, own_keep P.lr k G.bl.no⟩
theorem RfAt.next {w' : World} (P : RfAt w base bw lb many v lv sl ol) (k : Keep nob w w') : RfAt w' base bw lb many v lv sl ol :=
  ⟨P.W.next k, k.some P.l0 (fun x => x), (k.frozen (World.block_lt_of_cell? _ _ P.l0) (fun x => x)).trans P.lz, own_next P.lr k⟩
theorem int_ne : (3 : TypeId) ≠ 98 := by decide
theorem RfAt.row {w' : World} {sl' : List Spc} (G : PlGeo A B base bw lb many) (P : RfAt w base bw lb many v lv sl ol) (k : Keep (rowOf v) w w') (D : WdAt w' base bw v sl' (many + 2) many) : RfAt w' base bw lb many v lv sl' ol := by
  have nl : ¬ rowOf v lb := fun e => by have := (own_tag P.W.row e).1; have := G.lt; omega
  exact ⟨D, k.some P.l0 nl, (k.frozen (World.block_lt_of_cell? _ _ P.l0) nl).trans P.lz, own_keep2 P.lr k (fun g e1 e2 => own_ne P.lr P.W.row int_ne g e1 e2)⟩
theorem keepT_row {w w' : World} (G : PlGeo A B base bw lb many) {sl : List Spc} (D : WdAt w base bw v sl (many + 2) many) (S : PtSt w A B many M g left q) (k : Keep (rowOf v) w w') : PtSt w' A B many M g left q :=
  S.since G.D G.bl (k.mono (fun y _ e => (own_tag D.row e).1))
theorem play_row {w w' : World} {sl : List Spc} (D : WdAt w base bw v sl (many + 2) many) (k : Keep (rowOf v) w w') : Keep (playS A B base bw lb) w w' := k.mono (fun y _ e => Or.inr (Or.inr (Or.inr (own_tag D.row e).1)))
def PlPost (w : World) (A : MB) (B : PB) (base bw lb many q : Nat) (r : Ending) (w' : World) : Prop :=
  r = .returned (.bool true) ∧ (∃ v lv sl ol M g left, PlAt w' A B base bw lb many v lv sl ol M g left (q + 1)) ∧ Keep (playS A B base bw lb) w w'
end
end Go.Proofs.YtepmljcapobodaaDoor
end
section
namespace Go.Proofs.YtepmljcapobodaaDoor
open Go.RowKit
set_option linter.unusedVariables false
set_option maxRecDepth 100000
theorem natCells_len (x : Nat) : (natCells x).length = 1 := rfl
def opV (o : Op10) : Value := .agg #[.int .i64 o.d, .int .i64 o.s, .int .i64 o.p, .bool o.e.p, .bool o.e.w, .bool o.e.c, .int .i64 o.e.f]
theorem root_wf {l : List Nat} {n : Int} (h : ∀ x ∈ l, x < 1024) : wfI (rootR l n) := by
  unfold rootR wfI
  split
  · omega
  · have : l.getD n.toNat 0 < 1024 := by
      rw [List.getD_eq_getElem?_getD]
      cases e : l[n.toNat]? with
      | none => simp
      | some x => exact h x (List.mem_of_getElem? e)
    omega
section
variable {w : World} {A : MB} {B : PB} {base bw lb many : Nat} {v lv : Value} {sl : List Spc} {ol : List Nat} {M : Nat → Nat → Ent} {g : Int → Int} {left q : Nat}
set_option maxHeartbeats 0 in
theorem play_map (G : PlGeo A B base bw lb many) (P : PlAt w A B base bw lb many v lv sl ol M g left q) (hT : TabAt 0 Lib.deBruijn64tab w) (hq : q ≤ 1000) (ho : ∀ x ∈ ol, x < 1024) (s pg : Int) (ep eq ec : Bool) (ef : Int) :
    Calls Tryd.prog 41 #[.pointer (some ⟨A.t, 0, none⟩), .pointer (some ⟨bw, 0, none⟩), .pointer (some ⟨lb, 0, none⟩), opV ⟨3, s, pg, ⟨ep, eq, ec, ef⟩⟩] w (PlPost w A B base bw lb many q) := by
  have KW0 : Keep nob w (w.alloc (.cells #[.int .i64 (3), .int .i64 s, .int .i64 pg, .bool ep, .bool eq, .bool ec, .int .i64 ef] 90)) := (Keep.refl _ _).alloc _
  have co : ∀ (j : Nat) (u : Value), [Value.int .i64 (3), .int .i64 s, .int .i64 pg, .bool ep, .bool eq, .bool ec, .int .i64 ef][j]? = some u → (w.alloc (.cells #[.int .i64 (3), .int .i64 s, .int .i64 pg, .bool ep, .bool eq, .bool ec, .int .i64 ef] 90)).cell? ⟨w.heap.size, j, none⟩ = some u := fun j u hu => new_at w _ _ j u hu
  obtain ⟨W, hW⟩ : ∃ W, W = w.alloc (.cells #[.int .i64 (3), .int .i64 s, .int .i64 pg, .bool ep, .bool eq, .bool ec, .int .i64 ef] 90) := ⟨_, rfl⟩
  rw [← hW] at KW0 co
  have PW := P.next G KW0
  have wr := root_wf (n := s) ho
  have RT := fun W' (k : Keep nob W W') => (root_ok (own_rows natCells_len (own_next PW.lr k) (by have := P.ll; omega)) (by have := P.ll; omega) s).mono (fun r w' (h : r = .returned (.int .i64 (rootR ol s)) ∧ W' = w') => (⟨h.1, by rw [h.2]; exact Keep.refl _ _⟩ : r = .returned (.int .i64 (rootR ol s)) ∧ Keep nob W' w'))
  obtain ⟨rt, hrt⟩ : ∃ rt, rootR ol s = rt := ⟨_, rfl⟩
  rw [hrt] at RT wr
  have Z0 := KW.cell PW.l0
  have Z1 := KW.cell (co 1 _ rfl)
  have nO : ¬ ownT A B w.heap.size := G.bl.no _ P.W.hb
  have nR : ¬ rowOf v w.heap.size := fun e => by have := (own_tag P.W.row e).2.1; omega
  unfold opV
  dsimp only
  replace hW := Lib.hid hW
  replace KW0 := Lib.hid KW0
  replace co := Lib.hid co
  replace PW := Lib.hid PW
  replace RT := Lib.hid RT
  replace hrt := Lib.hid hrt
  replace P := Lib.hid P
  replace G := Lib.hid G
  replace hT := Lib.hid hT
  replace ho := Lib.hid ho
  replace wr := Lib.hid wr
  replace nO := Lib.hid nO
  replace nR := Lib.hid nR
  go_enter Tryd.func41, Tryd.ntmps41
  go_wp2_with fail
  rw [← hW.out]
  refine wp_region_keepq (by kernel_rfl) (by kernel_rfl) ?_
  repeat (go_big_quiet_step ((first | (go_at_call 43; with_reducible exact Calls.keepq (RT.out _ (KW.k _))))))
  refine wpQuiet_nil ?_
  rintro w1 ⟨⟨_, K1⟩, rfl⟩
  try dsimp only
  clear Z0 Z1
  have c0 := K1.some (co.out 0 _ rfl) (fun x => x)
  have c2 := K1.some (co.out 2 _ rfl) (fun x => x)
  have c3 := K1.some (co.out 3 _ rfl) (fun x => x)
  have c4 := K1.some (co.out 4 _ rfl) (fun x => x)
  have c5 := K1.some (co.out 5 _ rfl) (fun x => x)
  have c6 := K1.some (co.out 6 _ rfl) (fun x => x)
  have Ka := KW0.out.then K1
  have P1 := PW.out.next G.out K1
  replace K1 := Lib.hid K1
  replace Ka := Lib.hid Ka
  replace P1 := Lib.hid P1
  have Kd : Keep nob w1 w1.drew := (Keep.refl nob w1).drew
  have ed : ∀ p, w1.drew.cell? p = w1.cell? p := fun p => rfl
  have CM := st_map (tab_keep hT.out (Ka.out.then Kd)) G.out.D (P1.out.S.next G.out.D Kd) (by omega) rt pg wr.out ⟨ep, eq, ec, ef⟩
  have RR := P.out.R.map B.n rt pg ⟨ep, eq, ec, ef⟩
  have hn := G.out.n
  obtain ⟨an, han⟩ : ∃ an, mapA B.n M g left rt pg ⟨ep, eq, ec, ef⟩ = an := ⟨_, rfl⟩
  obtain ⟨M', hM'⟩ : ∃ M', mapM B.n M g left rt pg ⟨ep, eq, ec, ef⟩ = M' := ⟨_, rfl⟩
  obtain ⟨left', hl'⟩ : ∃ left', mapL B.n M g left rt pg ⟨ep, eq, ec, ef⟩ = left' := ⟨_, rfl⟩
  rw [han, hM', hl'] at CM RR
  rw [hn] at RR
  have CR : ∀ W', WdAt W' base bw v sl (many + 2) many → Calls Tryd.prog 79 #[.pointer (some ⟨bw, 0, none⟩), .int .i64 rt, .int .i64 pg, .agg #[.bool ep, .bool eq, .bool ec, .int .i64 ef]] W' (fun r w' => r = .returned (.int .i64 an) ∧ ∃ sl', WdAt w' base bw v sl' (many + 2) many ∧ Keep (rowOf v) W' w' ∧ PRel many sl' M' g left') := fun W' D =>
    (rmap_ok D rt pg ⟨ep, eq, ec, ef⟩ RR.2.1).mono (fun r w' h => by
      obtain ⟨h1, sl', D', K, e1, e2⟩ := h
      exact ⟨by rw [h1, RR.1], sl', D', K, RR.2.2 sl' e1 e2⟩)
  unfold Ent.val at CM
  dsimp only at CM
  have RF := P1.out.rf.next Kd
  replace Kd := Lib.hid Kd
  replace ed := Lib.hid ed
  replace CM := Lib.hid CM
  replace RR := Lib.hid RR
  replace han := Lib.hid han
  replace hM' := Lib.hid hM'
  replace hl' := Lib.hid hl'
  replace CR := Lib.hid CR
  replace RF := Lib.hid RF
  replace hn := Lib.hid hn
  go_wp2_with fail
  go_region_held3 (fun w' => w'.cell? ⟨w.heap.size, 2, none⟩ = some (.int .i64 pg) ∧ w'.cell? ⟨w.heap.size, 3, none⟩ = some (.bool ep) ∧ w'.cell? ⟨w.heap.size, 4, none⟩ = some (.bool eq) ∧ w'.cell? ⟨w.heap.size, 5, none⟩ = some (.bool ec) ∧ w'.cell? ⟨w.heap.size, 6, none⟩ = some (.int .i64 ef)) (first | go_keep | exact ⟨y2, y3, y4, y5, y6⟩ | exact ⟨x2, x3, x4, x5, x6⟩) (first | (go_at_call 35; (with_reducible refine Calls.mono CM.out ?_); rintro r w2 ⟨rfl, S2, K2⟩; have y2 := K2.some ((ed.out _).trans c2) nO.out; have y3 := K2.some ((ed.out _).trans c3) nO.out; have y4 := K2.some ((ed.out _).trans c4) nO.out; have y5 := K2.some ((ed.out _).trans c5) nO.out; have y6 := K2.some ((ed.out _).trans c6) nO.out; replace S2 := Lib.hid S2; replace K2 := Lib.hid K2) | (go_at_call 79; (with_reducible refine Calls.mono (CR.out _ (RF.out.mgr G.out K2.out).W) ?_); rintro r w3 ⟨rfl, sl', D3, K3, R3⟩; have x2 := K3.some y2 nR.out; have x3 := K3.some y3 nR.out; have x4 := K3.some y4 nR.out; have x5 := K3.some y5 nR.out; have x6 := K3.some y6 nR.out; replace D3 := Lib.hid D3; replace K3 := Lib.hid K3; replace R3 := Lib.hid R3))
  go_wp2_with fail
  go_ret
  have RF2 := RF.out.mgr G.out K2.out
  have RF3 := RF2.row G.out K3.out D3.out
  refine ⟨rfl, ⟨v, lv, sl', ol, M', g, left', keepT_row G.out RF2.W (S2.out.mono (by omega)) K3.out, D3.out, RF3.l0, RF3.lz, RF3.lr, R3.out, by have := P.out.ll; omega, P.out.lo⟩, ?_⟩
  exact ((Ka.out.then Kd.out).nob.trans (K2.out.mono (fun y _ e => Or.inl e)) (fun _ _ x => x)).trans (play_row (A := A) (B := B) (lb := lb) RF2.W K3.out) (fun _ _ x => x)
set_option maxHeartbeats 0 in
theorem play_set (G : PlGeo A B base bw lb many) (P : PlAt w A B base bw lb many v lv sl ol M g left q) (hT : TabAt 0 Lib.deBruijn64tab w) (hq : q ≤ 1000) (ho : ∀ x ∈ ol, x < 1024) (s pg : Int) (ep eq ec : Bool) (ef : Int) :
    Calls Tryd.prog 41 #[.pointer (some ⟨A.t, 0, none⟩), .pointer (some ⟨bw, 0, none⟩), .pointer (some ⟨lb, 0, none⟩), opV ⟨5, s, pg, ⟨ep, eq, ec, ef⟩⟩] w (PlPost w A B base bw lb many q) := by
  have KW0 : Keep nob w (w.alloc (.cells #[.int .i64 (5), .int .i64 s, .int .i64 pg, .bool ep, .bool eq, .bool ec, .int .i64 ef] 90)) := (Keep.refl _ _).alloc _
  have co : ∀ (j : Nat) (u : Value), [Value.int .i64 (5), .int .i64 s, .int .i64 pg, .bool ep, .bool eq, .bool ec, .int .i64 ef][j]? = some u → (w.alloc (.cells #[.int .i64 (5), .int .i64 s, .int .i64 pg, .bool ep, .bool eq, .bool ec, .int .i64 ef] 90)).cell? ⟨w.heap.size, j, none⟩ = some u := fun j u hu => new_at w _ _ j u hu
  obtain ⟨W, hW⟩ : ∃ W, W = w.alloc (.cells #[.int .i64 (5), .int .i64 s, .int .i64 pg, .bool ep, .bool eq, .bool ec, .int .i64 ef] 90) := ⟨_, rfl⟩
  rw [← hW] at KW0 co
  have PW := P.next G KW0
  have wr := root_wf (n := s) ho
  have RT := fun W' (k : Keep nob W W') => (root_ok (own_rows natCells_len (own_next PW.lr k) (by have := P.ll; omega)) (by have := P.ll; omega) s).mono (fun r w' (h : r = .returned (.int .i64 (rootR ol s)) ∧ W' = w') => (⟨h.1, by rw [h.2]; exact Keep.refl _ _⟩ : r = .returned (.int .i64 (rootR ol s)) ∧ Keep nob W' w'))
  obtain ⟨rt, hrt⟩ : ∃ rt, rootR ol s = rt := ⟨_, rfl⟩
  rw [hrt] at RT wr
  have Z0 := KW.cell PW.l0
  have Z1 := KW.cell (co 1 _ rfl)
  have nO : ¬ ownT A B w.heap.size := G.bl.no _ P.W.hb
  have nR : ¬ rowOf v w.heap.size := fun e => by have := (own_tag P.W.row e).2.1; omega
  unfold opV
  dsimp only
  replace hW := Lib.hid hW
  replace KW0 := Lib.hid KW0
  replace co := Lib.hid co
  replace PW := Lib.hid PW
  replace RT := Lib.hid RT
  replace hrt := Lib.hid hrt
  replace P := Lib.hid P
  replace G := Lib.hid G
  replace hT := Lib.hid hT
  replace ho := Lib.hid ho
  replace wr := Lib.hid wr
  replace nO := Lib.hid nO
  replace nR := Lib.hid nR
  go_enter Tryd.func41, Tryd.ntmps41
  go_wp2_with fail
  rw [← hW.out]
  refine wp_region_keepq (by kernel_rfl) (by kernel_rfl) ?_
  repeat (go_big_quiet_step ((first | (go_at_call 43; with_reducible exact Calls.keepq (RT.out _ (KW.k _))))))
  refine wpQuiet_nil ?_
  rintro w1 ⟨⟨_, K1⟩, rfl⟩
  try dsimp only
  clear Z0 Z1
  have c0 := K1.some (co.out 0 _ rfl) (fun x => x)
  have c2 := K1.some (co.out 2 _ rfl) (fun x => x)
  have c3 := K1.some (co.out 3 _ rfl) (fun x => x)
  have c4 := K1.some (co.out 4 _ rfl) (fun x => x)
  have c5 := K1.some (co.out 5 _ rfl) (fun x => x)
  have c6 := K1.some (co.out 6 _ rfl) (fun x => x)
  have Ka := KW0.out.then K1
  have P1 := PW.out.next G.out K1
  replace K1 := Lib.hid K1
  replace Ka := Lib.hid Ka
  replace P1 := Lib.hid P1
  have Kd : Keep nob w1 w1.drew := (Keep.refl nob w1).drew
  have ed : ∀ p, w1.drew.cell? p = w1.cell? p := fun p => rfl
  have CM := st_set G.out.D (P1.out.S.next G.out.D Kd) rt pg wr.out ⟨ep, eq, ec, ef⟩
  have RR := P.out.R.seti B.n rt pg ⟨ep, eq, ec, ef⟩
  have hn := G.out.n
  obtain ⟨an, han⟩ : ∃ an, setA B.n M g rt pg ⟨ep, eq, ec, ef⟩ = an := ⟨_, rfl⟩
  obtain ⟨M', hM'⟩ : ∃ M', setM B.n M g rt pg ⟨ep, eq, ec, ef⟩ = M' := ⟨_, rfl⟩
  obtain ⟨left', hl'⟩ : ∃ left', left = left' := ⟨_, rfl⟩
  rw [han, hM', hl'] at CM RR
  rw [hn] at RR
  have CR : ∀ W', WdAt W' base bw v sl (many + 2) many → Calls Tryd.prog 81 #[.pointer (some ⟨bw, 0, none⟩), .int .i64 rt, .int .i64 pg, .agg #[.bool ep, .bool eq, .bool ec, .int .i64 ef]] W' (fun r w' => r = .returned (.int .i64 an) ∧ ∃ sl', WdAt w' base bw v sl' (many + 2) many ∧ Keep (rowOf v) W' w' ∧ PRel many sl' M' g left') := fun W' D =>
    (rset_ok D rt pg ⟨ep, eq, ec, ef⟩).mono (fun r w' h => by
      obtain ⟨h1, sl', D', K, e1, e2⟩ := h
      exact ⟨by rw [h1, RR.1], sl', D', K, RR.2 sl' e1 e2⟩)
  unfold Ent.val at CM
  dsimp only at CM
  have RF := P1.out.rf.next Kd
  replace Kd := Lib.hid Kd
  replace ed := Lib.hid ed
  replace CM := Lib.hid CM
  replace RR := Lib.hid RR
  replace han := Lib.hid han
  replace hM' := Lib.hid hM'
  replace hl' := Lib.hid hl'
  replace CR := Lib.hid CR
  replace RF := Lib.hid RF
  replace hn := Lib.hid hn
  go_wp2_with fail
  go_region_held3 (fun w' => w'.cell? ⟨w.heap.size, 2, none⟩ = some (.int .i64 pg) ∧ w'.cell? ⟨w.heap.size, 3, none⟩ = some (.bool ep) ∧ w'.cell? ⟨w.heap.size, 4, none⟩ = some (.bool eq) ∧ w'.cell? ⟨w.heap.size, 5, none⟩ = some (.bool ec) ∧ w'.cell? ⟨w.heap.size, 6, none⟩ = some (.int .i64 ef)) (first | go_keep | exact ⟨y2, y3, y4, y5, y6⟩ | exact ⟨x2, x3, x4, x5, x6⟩) (first | (go_at_call 48; (with_reducible refine Calls.mono CM.out ?_); rintro r w2 ⟨rfl, S2, K2⟩; have y2 := K2.some ((ed.out _).trans c2) nO.out; have y3 := K2.some ((ed.out _).trans c3) nO.out; have y4 := K2.some ((ed.out _).trans c4) nO.out; have y5 := K2.some ((ed.out _).trans c5) nO.out; have y6 := K2.some ((ed.out _).trans c6) nO.out; replace S2 := Lib.hid S2; replace K2 := Lib.hid K2) | (go_at_call 81; (with_reducible refine Calls.mono (CR.out _ (RF.out.mgr G.out K2.out).W) ?_); rintro r w3 ⟨rfl, sl', D3, K3, R3⟩; have x2 := K3.some y2 nR.out; have x3 := K3.some y3 nR.out; have x4 := K3.some y4 nR.out; have x5 := K3.some y5 nR.out; have x6 := K3.some y6 nR.out; replace D3 := Lib.hid D3; replace K3 := Lib.hid K3; replace R3 := Lib.hid R3))
  go_wp2_with fail
  go_ret
  have RF2 := RF.out.mgr G.out K2.out
  have RF3 := RF2.row G.out K3.out D3.out
  refine ⟨rfl, ⟨v, lv, sl', ol, M', g, left', keepT_row G.out RF2.W (S2.out.mono (by omega)) K3.out, D3.out, RF3.l0, RF3.lz, RF3.lr, R3.out, by have := P.out.ll; omega, P.out.lo⟩, ?_⟩
  exact ((Ka.out.then Kd.out).nob.trans (K2.out.mono (fun y _ e => Or.inl e)) (fun _ _ x => x)).trans (play_row (A := A) (B := B) (lb := lb) RF2.W K3.out) (fun _ _ x => x)
set_option maxHeartbeats 0 in
theorem play_un (G : PlGeo A B base bw lb many) (P : PlAt w A B base bw lb many v lv sl ol M g left q) (hT : TabAt 0 Lib.deBruijn64tab w) (hq : q ≤ 1000) (ho : ∀ x ∈ ol, x < 1024) (s pg : Int) (ep eq ec : Bool) (ef : Int) :
    Calls Tryd.prog 41 #[.pointer (some ⟨A.t, 0, none⟩), .pointer (some ⟨bw, 0, none⟩), .pointer (some ⟨lb, 0, none⟩), opV ⟨4, s, pg, ⟨ep, eq, ec, ef⟩⟩] w (PlPost w A B base bw lb many q) := by
  have KW0 : Keep nob w (w.alloc (.cells #[.int .i64 (4), .int .i64 s, .int .i64 pg, .bool ep, .bool eq, .bool ec, .int .i64 ef] 90)) := (Keep.refl _ _).alloc _
  have co : ∀ (j : Nat) (u : Value), [Value.int .i64 (4), .int .i64 s, .int .i64 pg, .bool ep, .bool eq, .bool ec, .int .i64 ef][j]? = some u → (w.alloc (.cells #[.int .i64 (4), .int .i64 s, .int .i64 pg, .bool ep, .bool eq, .bool ec, .int .i64 ef] 90)).cell? ⟨w.heap.size, j, none⟩ = some u := fun j u hu => new_at w _ _ j u hu
  obtain ⟨W, hW⟩ : ∃ W, W = w.alloc (.cells #[.int .i64 (4), .int .i64 s, .int .i64 pg, .bool ep, .bool eq, .bool ec, .int .i64 ef] 90) := ⟨_, rfl⟩
  rw [← hW] at KW0 co
  have PW := P.next G KW0
  have wr := root_wf (n := s) ho
  have RT := fun W' (k : Keep nob W W') => (root_ok (own_rows natCells_len (own_next PW.lr k) (by have := P.ll; omega)) (by have := P.ll; omega) s).mono (fun r w' (h : r = .returned (.int .i64 (rootR ol s)) ∧ W' = w') => (⟨h.1, by rw [h.2]; exact Keep.refl _ _⟩ : r = .returned (.int .i64 (rootR ol s)) ∧ Keep nob W' w'))
  obtain ⟨rt, hrt⟩ : ∃ rt, rootR ol s = rt := ⟨_, rfl⟩
  rw [hrt] at RT wr
  have Z0 := KW.cell PW.l0
  have Z1 := KW.cell (co 1 _ rfl)
  have nO : ¬ ownT A B w.heap.size := G.bl.no _ P.W.hb
  have nR : ¬ rowOf v w.heap.size := fun e => by have := (own_tag P.W.row e).2.1; omega
  unfold opV
  dsimp only
  replace hW := Lib.hid hW
  replace KW0 := Lib.hid KW0
  replace co := Lib.hid co
  replace PW := Lib.hid PW
  replace RT := Lib.hid RT
  replace hrt := Lib.hid hrt
  replace P := Lib.hid P
  replace G := Lib.hid G
  replace hT := Lib.hid hT
  replace ho := Lib.hid ho
  replace wr := Lib.hid wr
  replace nO := Lib.hid nO
  replace nR := Lib.hid nR
  go_enter Tryd.func41, Tryd.ntmps41
  go_wp2_with fail
  rw [← hW.out]
  refine wp_region_keepq (by kernel_rfl) (by kernel_rfl) ?_
  repeat (go_big_quiet_step ((first | (go_at_call 43; with_reducible exact Calls.keepq (RT.out _ (KW.k _))))))
  refine wpQuiet_nil ?_
  rintro w1 ⟨⟨_, K1⟩, rfl⟩
  try dsimp only
  clear Z0 Z1
  have c0 := K1.some (co.out 0 _ rfl) (fun x => x)
  have c2 := K1.some (co.out 2 _ rfl) (fun x => x)
  have c3 := K1.some (co.out 3 _ rfl) (fun x => x)
  have c4 := K1.some (co.out 4 _ rfl) (fun x => x)
  have c5 := K1.some (co.out 5 _ rfl) (fun x => x)
  have c6 := K1.some (co.out 6 _ rfl) (fun x => x)
  have Ka := KW0.out.then K1
  have P1 := PW.out.next G.out K1
  replace K1 := Lib.hid K1
  replace Ka := Lib.hid Ka
  replace P1 := Lib.hid P1
  have CM := st_unmap G.out.D P1.out.S (by omega) rt pg wr.out
  have RR := P.out.R.unmap rt pg
  obtain ⟨an, han⟩ : ∃ an, unmA M g rt pg = an := ⟨_, rfl⟩
  obtain ⟨M', hM'⟩ : ∃ M', unmM M g rt pg = M' := ⟨_, rfl⟩
  obtain ⟨left', hl'⟩ : ∃ left', unmL M g left rt pg = left' := ⟨_, rfl⟩
  obtain ⟨⟨ap, aw, ac, af⟩, hx⟩ : ∃ x, unmX M g rt pg = x := ⟨_, rfl⟩
  rw [han, hM', hl', hx] at CM RR
  have CR : ∀ W', WdAt W' base bw v sl (many + 2) many → Calls Tryd.prog 80 #[.pointer (some ⟨bw, 0, none⟩), .int .i64 rt, .int .i64 pg] W' (fun r w' => r = .returned (.tuple #[.agg #[.bool ap, .bool aw, .bool ac, .int .i64 af], .int .i64 an]) ∧ ∃ sl', WdAt w' base bw v sl' (many + 2) many ∧ Keep (rowOf v) W' w' ∧ PRel many sl' M' g left') := fun W' D =>
    (runmap_ok D rt pg).mono (fun r w' h => by
      obtain ⟨h1, sl', D', K, e1, e2⟩ := h
      exact ⟨by rw [h1, RR.1, RR.2.1]; rfl, sl', D', K, RR.2.2 sl' e1 e2⟩)
  unfold Ent.val at CM
  dsimp only at CM
  have RF := P1.out.rf
  replace CM := Lib.hid CM
  replace RR := Lib.hid RR
  replace han := Lib.hid han
  replace hM' := Lib.hid hM'
  replace hl' := Lib.hid hl'
  replace CR := Lib.hid CR
  replace RF := Lib.hid RF
  replace hx := Lib.hid hx
  go_wp2_with fail
  refine Calls.mono CM.out ?_
  rintro r w2 ⟨rfl, S2, K2⟩
  have RF2 := RF.out.mgr G.out K2
  have KE : Keep nob w2 (w2.alloc (.cells #[.bool ap, .bool aw, .bool ac, .int .i64 af] 69)) := (Keep.refl _ _).alloc _
  have RF3 := RF2.next KE
  have S3 := S2.next G.out.D KE
  have C3 := CR.out _ RF3.W
  have y2 := fun o => ((Keep.refl nob w2).alloc o).some (K2.some c2 nO.out) (fun x => x)
  obtain ⟨E0, E1, E2, E3, -, -, -, -⟩ := EntAt.new w2 ap aw ac af 69
  obtain ⟨W3, hW3⟩ : ∃ W3, W3 = w2.alloc (.cells #[.bool ap, .bool aw, .bool ac, .int .i64 af] 69) := ⟨_, rfl⟩
  rw [← hW3] at KE RF3 S3 C3 E0 E1 E2 E3
  have lt3 : w2.heap.size < W3.heap.size := World.block_lt_of_cell? _ _ E0
  replace S2 := Lib.hid S2
  replace K2 := Lib.hid K2
  replace RF2 := Lib.hid RF2
  replace KE := Lib.hid KE
  replace RF3 := Lib.hid RF3
  replace S3 := Lib.hid S3
  replace C3 := Lib.hid C3
  replace hW3 := Lib.hid hW3
  go_wp2_with fail
  rw [← hW3.out]
  refine Calls.mono C3.out ?_
  rintro r w4 ⟨rfl, sl', D4, K4, R4⟩
  have n2 : ¬ rowOf v w2.heap.size := fun e => by have := (own_tag RF2.out.W.row e).2.1; omega
  have z0 := K4.some E0 n2
  have z1 := K4.some E1 n2
  have z2 := K4.some E2 n2
  have z3 := K4.some E3 n2
  have u0 := fun o => ((Keep.refl nob w4).alloc o).some z0 (fun x => x)
  have u1 := fun o => ((Keep.refl nob w4).alloc o).some z1 (fun x => x)
  have u2 := fun o => ((Keep.refl nob w4).alloc o).some z2 (fun x => x)
  have u3 := fun o => ((Keep.refl nob w4).alloc o).some z3 (fun x => x)
  obtain ⟨v0, v1, v2, v3, -, -, -, -⟩ := EntAt.new w4 ap aw ac af 69
  replace D4 := Lib.hid D4
  replace K4 := Lib.hid K4
  replace R4 := Lib.hid R4
  go_wp2_with fail
  go_ret
  have RF4 := RF3.out.row G.out K4.out D4.out
  have S4 := keepT_row G.out RF3.out.W S3.out K4.out
  have KF : Keep nob w4 (w4.alloc (.cells #[.bool ap, .bool aw, .bool ac, .int .i64 af] 69)) := (Keep.refl _ _).alloc _
  have RF5 := RF4.next KF
  refine ⟨rfl, ⟨v, lv, sl', ol, M', g, left', S4.next G.out.D KF, RF5.W, RF5.l0, RF5.lz, RF5.lr, R4.out, by have := P.out.ll; omega, P.out.lo⟩, ?_⟩
  exact (((Ka.out.nob.trans (K2.out.mono (fun y _ e => Or.inl e)) (fun _ _ x => x)).then KE.out).trans (play_row (A := A) (B := B) (lb := lb) RF3.out.W K4.out) (fun _ _ x => x)).then KF
set_option maxHeartbeats 0 in
theorem play_no (G : PlGeo A B base bw lb many) (P : PlAt w A B base bw lb many v lv sl ol M g left q) (hT : TabAt 0 Lib.deBruijn64tab w) (hq : q ≤ 1000) (ho : ∀ x ∈ ol, x < 1024) (d s pg : Int) (ep eq ec : Bool) (ef : Int) (d1 : d ≠ 1) (d2 : d ≠ 2) (d3 : d ≠ 3) (d4 : d ≠ 4) (d5 : d ≠ 5) :
    Calls Tryd.prog 41 #[.pointer (some ⟨A.t, 0, none⟩), .pointer (some ⟨bw, 0, none⟩), .pointer (some ⟨lb, 0, none⟩), opV ⟨d, s, pg, ⟨ep, eq, ec, ef⟩⟩] w (PlPost w A B base bw lb many q) := by
  have KW0 : Keep nob w (w.alloc (.cells #[.int .i64 (d), .int .i64 s, .int .i64 pg, .bool ep, .bool eq, .bool ec, .int .i64 ef] 90)) := (Keep.refl _ _).alloc _
  have co : ∀ (j : Nat) (u : Value), [Value.int .i64 (d), .int .i64 s, .int .i64 pg, .bool ep, .bool eq, .bool ec, .int .i64 ef][j]? = some u → (w.alloc (.cells #[.int .i64 (d), .int .i64 s, .int .i64 pg, .bool ep, .bool eq, .bool ec, .int .i64 ef] 90)).cell? ⟨w.heap.size, j, none⟩ = some u := fun j u hu => new_at w _ _ j u hu
  obtain ⟨W, hW⟩ : ∃ W, W = w.alloc (.cells #[.int .i64 (d), .int .i64 s, .int .i64 pg, .bool ep, .bool eq, .bool ec, .int .i64 ef] 90) := ⟨_, rfl⟩
  rw [← hW] at KW0 co
  have PW := P.next G KW0
  have wr := root_wf (n := s) ho
  have RT := fun W' (k : Keep nob W W') => (root_ok (own_rows natCells_len (own_next PW.lr k) (by have := P.ll; omega)) (by have := P.ll; omega) s).mono (fun r w' (h : r = .returned (.int .i64 (rootR ol s)) ∧ W' = w') => (⟨h.1, by rw [h.2]; exact Keep.refl _ _⟩ : r = .returned (.int .i64 (rootR ol s)) ∧ Keep nob W' w'))
  obtain ⟨rt, hrt⟩ : ∃ rt, rootR ol s = rt := ⟨_, rfl⟩
  rw [hrt] at RT wr
  have Z0 := KW.cell PW.l0
  have Z1 := KW.cell (co 1 _ rfl)
  have nO : ¬ ownT A B w.heap.size := G.bl.no _ P.W.hb
  have nR : ¬ rowOf v w.heap.size := fun e => by have := (own_tag P.W.row e).2.1; omega
  unfold opV
  dsimp only
  replace hW := Lib.hid hW
  replace KW0 := Lib.hid KW0
  replace co := Lib.hid co
  replace PW := Lib.hid PW
  replace RT := Lib.hid RT
  replace hrt := Lib.hid hrt
  replace P := Lib.hid P
  replace G := Lib.hid G
  replace hT := Lib.hid hT
  replace ho := Lib.hid ho
  replace wr := Lib.hid wr
  replace nO := Lib.hid nO
  replace nR := Lib.hid nR
  go_enter Tryd.func41, Tryd.ntmps41
  go_wp2_with fail
  rw [← hW.out]
  refine wp_region_keepq (by kernel_rfl) (by kernel_rfl) ?_
  repeat (go_big_quiet_step ((first | (go_at_call 43; with_reducible exact Calls.keepq (RT.out _ (KW.k _))))))
  refine wpQuiet_nil ?_
  rintro w1 ⟨⟨_, K1⟩, rfl⟩
  try dsimp only
  clear Z0 Z1
  have c0 := K1.some (co.out 0 _ rfl) (fun x => x)
  have c2 := K1.some (co.out 2 _ rfl) (fun x => x)
  have c3 := K1.some (co.out 3 _ rfl) (fun x => x)
  have c4 := K1.some (co.out 4 _ rfl) (fun x => x)
  have c5 := K1.some (co.out 5 _ rfl) (fun x => x)
  have c6 := K1.some (co.out 6 _ rfl) (fun x => x)
  have Ka := KW0.out.then K1
  have P1 := PW.out.next G.out K1
  replace K1 := Lib.hid K1
  replace Ka := Lib.hid Ka
  replace P1 := Lib.hid P1
  have t1 : (d == 1) = false := by simpa using d1
  have t2 : (d == 2) = false := by simpa using d2
  have t3 : (d == 3) = false := by simpa using d3
  have t4 : (d == 4) = false := by simpa using d4
  have t5 : (d == 5) = false := by simpa using d5
  go_wp2_with fail
  go_ret
  exact ⟨rfl, ⟨v, lv, sl, ol, M, g, left, P1.out.mono (by omega)⟩, Ka.out.nob⟩
end
end Go.Proofs.YtepmljcapobodaaDoor
end
section
namespace Go.Proofs.YtepmljcapobodaaDoor
open Go.RowKit
set_option linter.unusedVariables false
set_option maxRecDepth 100000
theorem step_append_cut {P : Program} {ops : Array Oper} {o : Oper} {a : Act} {w : World} {K : Act → World → Prop} {Q : Exit → Act → World → Prop} {E : Prop}
    (hg : o.guard = none) (s x : Operand) (t : TypeId) (hop : o.op = Op.call { callee := Callee.builtin Builtin.append, args := #[s, x], argTypes := #[t, t] })
    (e : TypeId) (i : TypeInfo) (z : Value) (size bytes : Nat) (h1 : P.underlying t = some (.slice e)) (h2 : P.info? e = some i) (h3 : i.zero = some z) (h4 : i.size = size) (h5 : i.bytes = bytes) (h6 : z.cells.size = size) (h7 : 0 < size)
    (base : Nat) (v : Value) (n : Nat) (xs : List Value) (hs : a.eval s = v) (hown : w.ownsRow base e size v n xs) (hbase : base ≤ w.heap.size)
    (ad : Addr) (m c : Nat) (news : List Value) (hx : a.eval x = .slice (some ad) m c) (hn : news.length = m * size) (hc : ∀ j u, news[j]? = some u → w.cell? (ad.add j) = some u) (h1c : ∀ u ∈ news, u.oneCell' = true)
    (b1 : n + m ≤ maxLen) (b2 : (n + m) * bytes ≤ 140737488355328)
    (hK : ∀ v' w', w'.ownsRow base e size v' (n + m) (xs ++ news) → w.grownBy w' v.ownBlock → K (a.put o.dst v') w') :
    if Region.wanted o (yielded ops a.tmps) = true then Oper.wp P o a w K Q else E :=
  step_append_own hg s x t hop e i z size bytes h1 h2 h3 h4 h5 h6 h7 base v n xs hs hown hbase ad m c news hx hn hc h1c b1 b2 (fun v' w' q1 q2 _ => hK v' w' q1 q2)
theorem keep_grown {w w' : World} {v : Value} (h : w.grownBy w' v.ownBlock) : Keep (rowOf v) w w' := ⟨h.os, h.tape, h.output, h.size, fun q hq hs => h.block q hq (fun e => hs e.symm)⟩
/-! ### Plain: a space less, a space more -/
section
variable {many : Nat} {sl : List Spc} {M : Nat → Nat → Ent} {g : Int → Int} {left : Nat}
theorem used_len : ∀ (sl : List Spc), sl.length ≤ usedR sl
  | [] => Nat.le_refl _
  | s :: r => by
    have := used_len r
    unfold usedR at this ⊢
    rw [List.map_cons, List.sum_cons, List.length_cons]
    have : 1 ≤ tabR s.l := by unfold tabR; omega
    omega
theorem PRel.len (R : PRel many sl M g left) : sl.length ≤ many := by have := used_len sl; have := R.us; omega
theorem used_erase {k : Nat} {s : Spc} (h : sl[k]? = some s) : usedR (sl.take k ++ sl.drop (k + 1)) + tabR s.l = usedR sl := by
  have hlt := (List.getElem?_eq_some_iff.1 h).1
  have e : sl = sl.take k ++ (s :: sl.drop (k + 1)) := by
    have h1 : sl.drop k = s :: sl.drop (k + 1) := by
      rw [List.drop_eq_getElem_cons hlt]
      congr 1
      exact (List.getElem?_eq_some_iff.1 h).2
    rw [← h1, List.take_append_drop]
  have e2 : usedR sl = usedR (sl.take k ++ (s :: sl.drop (k + 1))) := congrArg usedR e
  rw [e2]
  unfold usedR
  rw [List.map_append, List.map_append, List.map_cons, List.sum_append, List.sum_append, List.sum_cons]
  omega
theorem tab_nil : tabR [] = 1 := rfl
theorem bare_nil {F : Nat → Nat → Ent} {r : Nat} : bare F r ↔ ∀ p, (F r p).p = false := by
  constructor
  · intro h p
    have := live_no (h (p / 32)) (p % 32) (by omega)
    rwa [show p / 32 * 32 + p % 32 = p by omega] at this
  · intro h i
    exact live_not (fun j _ => h _)
theorem PRel.close (R : PRel many sl M g left) {root : Int} (hg : g root ≠ 0) (hb : bare M root.toNat) : ∃ (k : Nat) (s : Spc), atR sl root = k ∧ sl[k]? = some s ∧ s.l = [] ∧ PRel many (sl.take k ++ sl.drop (k + 1)) M (updI g root 0) (left + 1) := by
  obtain ⟨k, s, q, hk, hr, hrn, hl, hs⟩ := R.get hg
  have hlt := (List.getElem?_eq_some_iff.1 hk).1
  have nil : s.l = [] := by
    rw [hl]
    exact presF_none (fun j _ => by have := bare_nil.1 hb j; rwa [hrn] at this)
  refine ⟨k, s, q, hk, nil, ?_⟩
  have e : sl.take k ++ sl.drop (k + 1) = sl.eraseIdx k := (List.eraseIdx_eq_take_drop_succ sl k).symm
  have hnd := R.nd
  have idx : ∀ j t, sl[j]? = some t → t.r = s.r → j = k := by
    intro j t hj ht
    have h1 : (sl.map Spc.r)[j]? = some t.r := by rw [List.getElem?_map, hj]; rfl
    have h2 : (sl.map Spc.r)[k]? = some s.r := by rw [List.getElem?_map, hk]; rfl
    rw [ht] at h1
    exact (List.getElem?_inj (List.getElem?_eq_some_iff.1 h1).1 hnd).1 (h1.trans h2.symm)
  have mem : ∀ t, t ∈ sl.take k ++ sl.drop (k + 1) ↔ t ∈ sl ∧ t.r ≠ s.r := by
    intro t
    constructor
    · intro ht
      rcases List.mem_append.1 ht with h | h
      · refine ⟨List.mem_of_mem_take h, fun er => ?_⟩
        obtain ⟨j, hj⟩ := List.mem_iff_getElem?.1 h
        rw [List.getElem?_take] at hj
        split at hj
        · have := idx j t hj er; omega
        · cases hj
      · refine ⟨List.mem_of_mem_drop h, fun er => ?_⟩
        obtain ⟨j, hj⟩ := List.mem_iff_getElem?.1 h
        rw [List.getElem?_drop] at hj
        have := idx _ t hj er
        omega
    · rintro ⟨ht, hn⟩
      obtain ⟨j, hj⟩ := List.mem_iff_getElem?.1 ht
      rw [List.mem_append]
      rcases Nat.lt_trichotomy j k with h | h | h
      · exact Or.inl (List.mem_iff_getElem?.2 ⟨j, by rw [List.getElem?_take, if_pos h]; exact hj⟩)
      · subst h; rw [hk] at hj; injection hj with hj; subst hj; exact absurd rfl hn
      · exact Or.inr (List.mem_iff_getElem?.2 ⟨j - (k + 1), by rw [List.getElem?_drop, show k + 1 + (j - (k + 1)) = j by omega]; exact hj⟩)
  refine ⟨?_, fun r => ?_, fun t ht => R.ls t ((mem t).1 ht).1, ?_, fun r h p => ?_, R.mz, R.hi⟩
  · rw [e]
    exact List.Nodup.sublist ((List.eraseIdx_sublist sl k).map Spc.r) hnd
  · by_cases z : r = root
    · rw [z, updI_at]
      refine ⟨fun h => absurd rfl h, ?_⟩
      rintro ⟨t, ht, er⟩
      exact absurd (by omega) ((mem t).1 ht).2
    · rw [updI_ne z, R.on r]
      constructor
      · rintro ⟨t, ht, er⟩
        exact ⟨t, (mem t).2 ⟨ht, fun q => z (by omega)⟩, er⟩
      · rintro ⟨t, ht, er⟩
        exact ⟨t, ((mem t).1 ht).1, er⟩
  · have := used_erase hk
    rw [nil, tab_nil] at this
    have := R.us
    omega
  · by_cases z : (r : Int) = root
    · have : r = root.toNat := by omega
      rw [this]; exact bare_nil.1 hb p
    · rw [updI_ne z] at h
      exact R.off r h p
theorem PRel.notbare (R : PRel many sl M g left) {root : Int} (hg : g root ≠ 0) : ∃ (k : Nat) (s : Spc), atR sl root = k ∧ sl[k]? = some s ∧ (s.l = [] ↔ bare M root.toNat) := by
  obtain ⟨k, s, q, hk, hr, hrn, hl, hs⟩ := R.get hg
  refine ⟨k, s, q, hk, ?_⟩
  rw [hl, hrn]
  constructor
  · intro h
    refine fun i => ?_
    refine live_not (fun j hj => ?_)
    cases e : (M s.r (i * 32 + j)).p with
    | false => rfl
    | true =>
      by_cases hi : i * 32 + j < 1024
      · exact absurd h (presF_some hi e)
      · rw [R.hi _ _ (by omega)] at e; cases e
  · intro h
    exact presF_none (fun j _ => bare_nil.1 h j)
theorem PRel.open (R : PRel many sl M g left) {n : Nat} (hg : g n = 0) (hl : 0 < left) (u : Value) : PRel many (sl ++ [⟨n, u, []⟩]) M (updI g n 1) (left - 1) := by
  have new : ∀ s ∈ sl, s.r ≠ n := fun s hs e => (R.on n).2 ⟨s, hs, by omega⟩ hg
  refine ⟨?_, fun r => ?_, fun t ht => ?_, ?_, fun r h p => ?_, R.mz, R.hi⟩
  · rw [List.map_append, List.nodup_append]
    refine ⟨R.nd, by simp, fun x hx y hy => ?_⟩
    obtain ⟨s, hs, rfl⟩ := List.mem_map.1 hx
    have : y = n := by simpa using hy
    rw [this]
    exact new s hs
  · by_cases z : r = n
    · subst z
      rw [updI_at]
      exact ⟨fun _ => ⟨⟨n, u, []⟩, by simp, rfl⟩, fun _ => by decide⟩
    · rw [updI_ne z, R.on r]
      constructor
      · rintro ⟨t, ht, e⟩; exact ⟨t, by simp [ht], e⟩
      · rintro ⟨t, ht, e⟩
        rcases List.mem_append.1 ht with h | h
        · exact ⟨t, h, e⟩
        · rw [List.mem_singleton] at h; subst h; exact absurd e.symm z
  · rcases List.mem_append.1 ht with h | h
    · exact R.ls t h
    · rw [List.mem_singleton] at h
      subst h
      exact (presF_none (fun j _ => R.off n hg j)).symm
  · have := R.us
    rw [usedR_snoc]
    show left - 1 + (usedR sl + tabR []) = many
    rw [tab_nil]
    omega
  · by_cases z : (r : Int) = n
    · rw [z, updI_at] at h; cases h
    · rw [updI_ne z] at h; exact R.off r h p
end
end Go.Proofs.YtepmljcapobodaaDoor
end
section
namespace Go.Proofs.YtepmljcapobodaaDoor
open Go.RowKit
set_option linter.unusedVariables false
set_option linter.unusedSimpArgs false
set_option maxRecDepth 100000
theorem infoSpc : (Tryd.prog.info? 98).map (fun i => (i.zero, i.size, i.bytes)) = some (some (.agg #[.int .i64 0, .slice none 0 0]), 2, 32) := by kernel_rfl
theorem spc_len (l : List Spc) : (l.flatMap spcCells).length = l.length * 2 := by
  induction l with
  | nil => rfl
  | cons a l ih => rw [List.flatMap_cons, List.length_append, ih, List.length_cons]; show 2 + _ = _; omega
theorem spc_split (l : List Spc) (P : Nat) : l.flatMap spcCells = (l.take P).flatMap spcCells ++ (l.drop P).flatMap spcCells := by
  rw [← List.flatMap_append, List.take_append_drop]
theorem spc_take {l : List Spc} {P j : Nat} {u : Value} (h : ((l.take P).flatMap spcCells)[j]? = some u) : (l.flatMap spcCells)[j]? = some u := by
  rw [spc_split l P, List.getElem?_append_left (List.getElem?_eq_some_iff.1 h).1]
  exact h
theorem spc_drop {l : List Spc} {P j : Nat} {u : Value} (hP : P ≤ l.length) (h : ((l.drop P).flatMap spcCells)[j]? = some u) : (l.flatMap spcCells)[P * 2 + j]? = some u := by
  have e : ((l.take P).flatMap spcCells).length = P * 2 := by rw [spc_len, List.length_take, Nat.min_eq_left hP]
  rw [spc_split l P, List.getElem?_append_right (by rw [e]; omega), e, Nat.add_sub_cancel_left]
  exact h
theorem spc_one {l : List Spc} (h : ∀ s ∈ l, ∃ a n c, s.v = .slice a n c) : ∀ u ∈ l.flatMap spcCells, u.oneCell' = true := by
  intro u hu
  rw [List.mem_flatMap] at hu
  obtain ⟨x, hx, hu⟩ := hu
  unfold spcCells at hu
  simp only [List.mem_cons, List.not_mem_nil, or_false] at hu
  rcases hu with rfl | rfl
  · rfl
  · obtain ⟨a, n, c, e⟩ := h x hx
    rw [e]; rfl
section
variable {w : World} {A : MB} {B : PB} {base bw lb many : Nat} {v lv : Value} {sl : List Spc} {ol : List Nat} {M : Nat → Nat → Ent} {g : Int → Int} {left q : Nat}
theorem WdAt.repl {w6 : World} {n : Nat} {v6 : Value} {sl' : List Spc} (h : WdAt w base bw v sl n many) (K : Keep nob w w6) (row6 : w6.ownsRow base 98 2 v6 sl'.length (sl'.flatMap spcCells)) (sub : ∀ t ∈ sl', t ∈ sl) (hl : sl'.length ≤ 1000) :
    WdAt (w6.setCell ⟨bw, 0, none⟩ v6) base bw v6 sl' n many := by
  have K1 : Keep (only bw) w6 (w6.setCell ⟨bw, 0, none⟩ v6) := (Keep.refl _ _).store _ _
  have nb : ∀ g, base ≤ g → ¬ only bw g := fun g hg e => by have e : g = bw := e; have := h.lt; omega
  refine ⟨setCell_eq (K.some h.c0 (fun x => x)), ?_, ?_, ?_, h.lt, own_keep row6 K1 nb, fun t ht => own_keep (own_next (h.maps t (sub t ht)) K) K1 nb, hl, fun t ht => h.fine t (sub t ht), Nat.le_trans (Nat.le_trans h.hb K.size) K1.size⟩
  · rw [setCell_off (by show (0 : Nat) ≠ 1; decide)]; exact K.some h.c1 (fun x => x)
  · rw [setCell_off (by show (0 : Nat) ≠ 2; decide)]; exact K.some h.c2 (fun x => x)
  · rw [frozen_setCell]; exact (K.frozen (World.block_lt_of_cell? _ _ h.c0) (fun x => x)).trans h.z0
set_option maxHeartbeats 0 in
theorem play_close (G : PlGeo A B base bw lb many) (P : PlAt w A B base bw lb many v lv sl ol M g left q) (hT : TabAt 0 Lib.deBruijn64tab w) (hq : q ≤ 1000) (ho : ∀ x ∈ ol, x < 1024) (s pg : Int) (ep eq ec : Bool) (ef : Int) :
    Calls Tryd.prog 41 #[.pointer (some ⟨A.t, 0, none⟩), .pointer (some ⟨bw, 0, none⟩), .pointer (some ⟨lb, 0, none⟩), opV ⟨2, s, pg, ⟨ep, eq, ec, ef⟩⟩] w (PlPost w A B base bw lb many q) := by
  have KW0 : Keep nob w (w.alloc (.cells #[.int .i64 (2), .int .i64 s, .int .i64 pg, .bool ep, .bool eq, .bool ec, .int .i64 ef] 90)) := (Keep.refl _ _).alloc _
  have co : ∀ (j : Nat) (u : Value), [Value.int .i64 (2), .int .i64 s, .int .i64 pg, .bool ep, .bool eq, .bool ec, .int .i64 ef][j]? = some u → (w.alloc (.cells #[.int .i64 (2), .int .i64 s, .int .i64 pg, .bool ep, .bool eq, .bool ec, .int .i64 ef] 90)).cell? ⟨w.heap.size, j, none⟩ = some u := fun j u hu => new_at w _ _ j u hu
  obtain ⟨W, hW⟩ : ∃ W, W = w.alloc (.cells #[.int .i64 (2), .int .i64 s, .int .i64 pg, .bool ep, .bool eq, .bool ec, .int .i64 ef] 90) := ⟨_, rfl⟩
  rw [← hW] at KW0 co
  have PW := P.next G KW0
  have wr := root_wf (n := s) ho
  have RT := fun W' (k : Keep nob W W') => (root_ok (own_rows natCells_len (own_next PW.lr k) (by have := P.ll; omega)) (by have := P.ll; omega) s).mono (fun r w' (h : r = .returned (.int .i64 (rootR ol s)) ∧ W' = w') => (⟨h.1, by rw [h.2]; exact Keep.refl _ _⟩ : r = .returned (.int .i64 (rootR ol s)) ∧ Keep nob W' w'))
  obtain ⟨rt, hrt⟩ : ∃ rt, rootR ol s = rt := ⟨_, rfl⟩
  rw [hrt] at RT wr
  have Z0 := KW.cell PW.l0
  have Z1 := KW.cell (co 1 _ rfl)
  have nO : ¬ ownT A B w.heap.size := G.bl.no _ P.W.hb
  have nR : ¬ rowOf v w.heap.size := fun e => by have := (own_tag P.W.row e).2.1; omega
  unfold opV
  dsimp only
  replace hW := Lib.hid hW
  replace KW0 := Lib.hid KW0
  replace co := Lib.hid co
  replace PW := Lib.hid PW
  replace RT := Lib.hid RT
  replace hrt := Lib.hid hrt
  replace P := Lib.hid P
  replace G := Lib.hid G
  replace hT := Lib.hid hT
  replace ho := Lib.hid ho
  replace wr := Lib.hid wr
  replace nO := Lib.hid nO
  replace nR := Lib.hid nR
  go_enter Tryd.func41, Tryd.ntmps41
  go_wp2_with fail
  rw [← hW.out]
  refine wp_region_keepq (by kernel_rfl) (by kernel_rfl) ?_
  repeat (go_big_quiet_step ((first | (go_at_call 43; with_reducible exact Calls.keepq (RT.out _ (KW.k _))))))
  refine wpQuiet_nil ?_
  rintro w1 ⟨⟨_, K1⟩, rfl⟩
  try dsimp only
  clear Z0 Z1
  have c0 := K1.some (co.out 0 _ rfl) (fun x => x)
  have c2 := K1.some (co.out 2 _ rfl) (fun x => x)
  have c3 := K1.some (co.out 3 _ rfl) (fun x => x)
  have c4 := K1.some (co.out 4 _ rfl) (fun x => x)
  have c5 := K1.some (co.out 5 _ rfl) (fun x => x)
  have c6 := K1.some (co.out 6 _ rfl) (fun x => x)
  have Ka := KW0.out.then K1
  have P1 := PW.out.next G.out K1
  replace K1 := Lib.hid K1
  replace Ka := Lib.hid Ka
  replace P1 := Lib.hid P1
  have CA := rat_ok P1.out.W.is (((many + 2 : Nat)) : Int) many rt
  unfold wAgg at CA
  have z0 := P1.out.W.c0
  have z1 := P1.out.W.c1
  have z2 := P1.out.W.c2
  have RA := P.out.R.at0 (r := rt)
  by_cases hg : g rt = 0
  · have q1 : atR sl rt = -1 := by
      rcases atR_cases sl rt with ⟨h, -⟩ | ⟨k, s, h, -⟩
      · exact h
      · have := RA.2 hg; omega
    rw [q1] at CA
    replace CA := Lib.hid CA
    replace q1 := Lib.hid q1
    replace RA := Lib.hid RA
    go_wp2_with fail
    refine Calls.mono CA.out ?_
    rintro r w2 ⟨rfl, K2⟩
    have P2 := P1.out.next G.out K2
    have C := st_close G.out.D P2.S (by omega) rt wr.out
    replace K2 := Lib.hid K2
    replace P2 := Lib.hid P2
    replace C := Lib.hid C
    go_wp2_with fail
    refine Calls.mono C.out ?_
    rintro r w3 ⟨⟨-, rfl, S3⟩ | ⟨h, -⟩ | ⟨h, -⟩, K3⟩
    rotate_left
    · exact absurd hg h
    · exact absurd hg h
    have RF3 := P2.out.rf.mgr G.out K3
    replace S3 := Lib.hid S3
    replace K3 := Lib.hid K3
    replace RF3 := Lib.hid RF3
    go_wp2_with fail
    go_ret
    refine ⟨rfl, ⟨v, lv, sl, ol, M, g, left, S3.out, RF3.out.W, RF3.out.l0, RF3.out.lz, RF3.out.lr, P.out.R, by have := P.out.ll; omega, P.out.lo⟩, ?_⟩
    exact (Ka.out.then K2.out).nob.trans (K3.out.mono (fun y _ e => Or.inl e)) (fun _ _ x => x)
  · obtain ⟨k, s, q1, hk, hbn⟩ := P.out.R.notbare hg
    obtain ⟨gg, cap, hv, hgb, hgw, -, -⟩ := P.out.W.spc hk
    subst hv
    have sm := List.mem_of_getElem? hk
    have kl : k < sl.length := (List.getElem?_eq_some_iff.1 hk).1
    rw [q1] at CA
    have kz : (0 : Int) ≤ k := by omega
    have kb : (k : Int) < sl.length := by omega
    have t0 : decide ((k : Int) < 0) = false := by simp
    replace CA := Lib.hid CA
    replace q1 := Lib.hid q1
    replace RA := Lib.hid RA
    replace hk := Lib.hid hk
    replace sm := Lib.hid sm
    replace hbn := Lib.hid hbn
    replace hgb := Lib.hid hgb
    go_wp2_with fail
    refine Calls.mono CA.out ?_
    rintro r w2 ⟨rfl, K2⟩
    have P2 := P1.out.next G.out K2
    have C := st_close G.out.D P2.S (by omega) rt wr.out
    replace K2 := Lib.hid K2
    replace P2 := Lib.hid P2
    replace C := Lib.hid C
    clear z0 z1 z2
    go_wp2_with fail
    refine Calls.mono C.out ?_
    rintro r w3 ⟨hcase, K3⟩
    have RF3 := P2.out.rf.mgr G.out K3
    obtain ⟨gg', cap', hv', -, hgw3, hc3, -⟩ := RF3.W.spc hk.out
    injection hv' with e1 _ e3
    injection e1 with e1
    injection e1 with e1
    subst e1; subst e3
    obtain ⟨av, cv, hsv⟩ := row_form (RF3.W.maps _ sm.out)
    rw [hsv] at hc3
    have z0 := RF3.W.c0
    have zz := RF3.W.z0
    replace hsv := Lib.hid hsv
    rcases hcase with ⟨h, -⟩ | ⟨-, hnb, rfl, S3⟩ | ⟨-, hb, rfl, S3⟩
    · exact absurd h hg
    · have ln : 0 < s.l.length := by
        cases e : s.l with
        | nil => exact absurd (hbn.out.1 e) hnb
        | cons a r => simp
      have t1 : decide (0 < s.l.length) = true := decide_eq_true ln
      have t2 : decide ((0 : Int) < s.l.length) = true := decide_eq_true (by omega)
      replace S3 := Lib.hid S3
      replace K3 := Lib.hid K3
      replace RF3 := Lib.hid RF3
      replace hnb := Lib.hid hnb
      go_wp2_with fail
      go_ret
      refine ⟨rfl, ⟨_, lv, sl, ol, M, g, left, S3.out, RF3.out.W, RF3.out.l0, RF3.out.lz, RF3.out.lr, P.out.R, by have := P.out.ll; omega, P.out.lo⟩, ?_⟩
      exact (Ka.out.then K2.out).nob.trans (K3.out.mono (fun y _ e => Or.inl e)) (fun _ _ x => x)
    · have nil := hbn.out.2 hb
      rw [nil] at hc3
      obtain ⟨k', s', q1', hk', -, R'⟩ := P.out.R.close hg hb
      have kk : k' = k := by have := q1.out; omega
      subst kk
      obtain ⟨i0, hi, hz0, hz1, hz2⟩ := info_parts infoSpc
      have hw3 := RF3.W.hb
      have hlen := RF3.W.len
      have bwl : bw < w3.heap.size := World.block_lt_of_cell? _ _ z0
      obtain ⟨_, _, hvx, _, _, hcap, src0⟩ := own_cells RF3.W.row (by omega)
      injection hvx with x1 _ x3
      injection x1 with x1
      injection x1 with x1
      subst x1; subst x3
      have one : ∀ l : List Spc, (∀ t ∈ l, t ∈ sl) → ∀ u ∈ l.flatMap spcCells, u.oneCell' = true := fun l hl => spc_one (fun t ht => by obtain ⟨a, c, e⟩ := row_form (RF3.W.maps t (hl t ht)); exact ⟨a, _, c, e⟩)
      have sub : ∀ t ∈ sl.take k' ++ sl.drop (k' + 1), t ∈ sl := fun t ht => by
        rcases List.mem_append.1 ht with h | h
        · exact List.mem_of_mem_take h
        · exact List.mem_of_mem_drop h
      have sb1 : (k' : Int) ≤ cap := by omega
      have sb3 : (k' : Int) + 1 ≤ sl.length := by omega
      have sb4 : (k' : Int) + 1 ≤ cap := by omega
      have l1 : ((sl.take k').flatMap spcCells).length = k' * 2 := by rw [spc_len, List.length_take, Nat.min_eq_left (by omega)]
      have l2 : ((sl.drop (k' + 1)).flatMap spcCells).length = (sl.length - (k' + 1)) * 2 := by rw [spc_len, List.length_drop]
      have ln : (sl.take k' ++ sl.drop (k' + 1)).length = k' + (sl.length - (k' + 1)) := by rw [List.length_append, List.length_take, List.length_drop, Nat.min_eq_left (by omega)]
      have sbq : (k' : Int) ≤ (k' : Int) + 1 := by omega
      have sb5 : (0 : Int) ≤ (k' : Int) + 1 := by omega
      have sb6 : (sl.length : Int) ≤ cap := by omega
      have sb7 : ((k' : Int) + 1).toNat = k' + 1 := by omega
      have wk : IntKind.i64.wrap ((k' : Int) + 1) = (k' : Int) + 1 := IntWalk.i64_in _ (by omega)
      have K0 : Keep nob w3 w3.drew := (Keep.refl nob w3).drew
      have ed : ∀ p, w3.drew.cell? p = w3.cell? p := fun p => rfl
      have hcA := fun (o : Obj) => (K0.alloc o).some z0 (fun x => x)
      have own0 : (w3.drew.alloc (.cells #[] 98)).ownsRow w3.heap.size 98 2 (.slice (some ⟨w3.heap.size, 0, none⟩) 0 0) 0 [] := World.ownsRow_lit w3.drew #[] 0 (Nat.le_refl _) (by decide) rfl
      replace S3 := Lib.hid S3
      replace K3 := Lib.hid K3
      replace RF3 := Lib.hid RF3
      replace hb := Lib.hid hb
      replace R' := Lib.hid R'
      replace src0 := Lib.hid src0
      replace one := Lib.hid one
      replace sub := Lib.hid sub
      replace l1 := Lib.hid l1
      replace l2 := Lib.hid l2
      replace ln := Lib.hid ln
      replace K0 := Lib.hid K0
      replace ed := Lib.hid ed
      replace own0 := Lib.hid own0
      replace nil := Lib.hid nil
      go_wp2_with fail
      by_cases ce : cap = k' + 1
      · have e0 : sl.length - (k' + 1) = 0 := by omega
        subst ce
        go_region_law (first | (refine step_append_cut rfl (.tmp 111) (.tmp 118) 83 rfl 98 i0 _ 2 32 Tryd.underlying83 hi hz0 hz1 hz2 rfl (by decide) w3.heap.size v5 _ _ (by first | rfl | simp [Act.eval]) own2.out sz5 ⟨gg, 0, none⟩ 0 0 [] (by first | rfl | simp [Act.eval]) rfl (fun j u hu => by simp at hu) (by simp) (by unfold maxLen; omega) (by omega) ?_; intro v6 w6 own3 gr2; have K6 := Lib.hid (new_row2 K5.out own2.out (Nat.le_refl _) gr2); have x0 := K6.out.some z0 (fun x => x); have zz6 := (K6.out.frozen (p := ⟨bw, 0, none⟩) bwl (fun x => x)).trans zz; obtain ⟨a6, c6, rfl⟩ := row_form own3; have own4 := Lib.hid own3; clear own3 gr2) | (refine step_append_cut rfl (.tmp 104) (.tmp 110) 83 rfl 98 i0 _ 2 32 Tryd.underlying83 hi hz0 hz1 hz2 rfl (by decide) w3.heap.size (.slice (some ⟨w3.heap.size, 0, none⟩) 0 0) 0 [] (by first | rfl | simp [Act.eval]) own0.out (by show w3.heap.size ≤ (w3.alloc _).heap.size; rw [World.size_alloc]; omega) ⟨gg, 0, none⟩ k' (k' + 1) ((sl.take k').flatMap spcCells) (by first | rfl | simp [Act.eval]) l1.out (fun j u hu => by rw [Addr.add_mid, Nat.zero_add]; exact (K0.out.alloc _).some (src0.out _ _ (spc_take hu)).1 (fun x => x)) (one.out _ (fun t ht => List.mem_of_mem_take ht)) (by unfold maxLen; omega) (by omega) ?_; intro v5 w5 own1 gr1; have K5 := Lib.hid (new_row2 (a := w3) (K0.out.alloc _) own0.out (Nat.le_refl _) gr1); have y0 := K5.out.some z0 (fun x => x); have own2 := Lib.hid own1; have sz5 := K5.out.size; clear own1 gr1))
        all_goals
          go_wp2_with fail
          go_ret
          have row6 : w6.ownsRow base 98 2 (.slice a6 k' c6) (sl.take k' ++ sl.drop (k' + 1)).length ((sl.take k' ++ sl.drop (k' + 1)).flatMap spcCells) := by
            have e0 : sl.drop (k' + 1) = [] := List.drop_of_length_le (by omega)
            have e1 : (sl.take k' ++ sl.drop (k' + 1)).length = k' := by rw [ln.out]; omega
            have e2 : (sl.take k' ++ sl.drop (k' + 1)).flatMap spcCells = [] ++ (sl.take k').flatMap spcCells ++ [] := by rw [List.flatMap_append, e0]; simp
            rw [e1, e2]
            have h := own_base own4.out hw3
            simp only [Nat.zero_add, Nat.add_zero] at h
            exact h
          have D6 := RF3.out.W.repl K6.out row6 sub.out (by rw [ln.out]; omega)
          have K7 : Keep (only bw) w6 (w6.setCell ⟨bw, 0, none⟩ (.slice a6 k' c6)) := (Keep.refl _ _).store _ _
          have nlb : ¬ only bw lb := fun e => G.out.ne e.symm
          have nbs : ∀ y, base ≤ y → ¬ only bw y := fun y hy e => by have e : y = bw := e; have := G.out.bb; omega
          have RF6 := RF3.out.next K6.out
          have S6 := (S3.out.next G.out.D K6.out).since G.out.D G.out.b0 (K7.mono (fun y _ e => by have e : y = bw := e; show bw ≤ y; omega))
          refine ⟨rfl, ⟨_, lv, _, ol, M, updI g rt 0, left + 1, S6, D6, K7.some RF6.l0 nlb, (K7.frozen (World.block_lt_of_cell? _ _ RF6.l0) nlb).trans RF6.lz, own_keep RF6.lr K7 nbs, R'.out, by have := P.out.ll; omega, P.out.lo⟩, ?_⟩
          exact (((Ka.out.then K2.out).nob.trans (K3.out.mono (fun y _ e => Or.inl e)) (fun _ _ x => x)).then K6.out).trans K7 (fun y _ e => Or.inr (Or.inl e))
      · have ce' : ¬ k' + 1 = cap := fun q => ce q.symm
        go_region_law (first | (refine step_append_cut rfl (.tmp 111) (.tmp 118) 83 rfl 98 i0 _ 2 32 Tryd.underlying83 hi hz0 hz1 hz2 rfl (by decide) w3.heap.size v5 _ _ (by first | rfl | simp [Act.eval]) own2.out sz5 ⟨gg, (k' + 1) * 2, none⟩ (sl.length - (k' + 1)) (cap - (k' + 1)) ((sl.drop (k' + 1)).flatMap spcCells) (by first | rfl | simp [Act.eval]) l2.out (fun j u hu => by rw [Addr.add_mid]; exact K5.out.some (src0.out _ _ (spc_drop (by omega) hu)).1 (fun x => x)) (one.out _ (fun t ht => List.mem_of_mem_drop ht)) (by unfold maxLen; omega) (by omega) ?_; intro v6 w6 own3 gr2; have K6 := Lib.hid (new_row2 K5.out own2.out (Nat.le_refl _) gr2); have x0 := K6.out.some z0 (fun x => x); have zz6 := (K6.out.frozen (p := ⟨bw, 0, none⟩) bwl (fun x => x)).trans zz; obtain ⟨a6, c6, rfl⟩ := row_form own3; have own4 := Lib.hid own3; clear own3 gr2) | (refine step_append_cut rfl (.tmp 104) (.tmp 110) 83 rfl 98 i0 _ 2 32 Tryd.underlying83 hi hz0 hz1 hz2 rfl (by decide) w3.heap.size (.slice (some ⟨w3.heap.size, 0, none⟩) 0 0) 0 [] (by first | rfl | simp [Act.eval]) own0.out (by show w3.heap.size ≤ (w3.alloc _).heap.size; rw [World.size_alloc]; omega) ⟨gg, 0, none⟩ k' cap ((sl.take k').flatMap spcCells) (by first | rfl | simp [Act.eval]) l1.out (fun j u hu => by rw [Addr.add_mid, Nat.zero_add]; exact (K0.out.alloc _).some (src0.out _ _ (spc_take hu)).1 (fun x => x)) (one.out _ (fun t ht => List.mem_of_mem_take ht)) (by unfold maxLen; omega) (by omega) ?_; intro v5 w5 own1 gr1; have K5 := Lib.hid (new_row2 (a := w3) (K0.out.alloc _) own0.out (Nat.le_refl _) gr1); have y0 := K5.out.some z0 (fun x => x); have own2 := Lib.hid own1; have sz5 := K5.out.size; clear own1 gr1))
        all_goals
          go_wp2_with fail
          go_ret
          have row6 : w6.ownsRow base 98 2 (.slice a6 (k' + (sl.length - (k' + 1))) c6) (sl.take k' ++ sl.drop (k' + 1)).length ((sl.take k' ++ sl.drop (k' + 1)).flatMap spcCells) := by
            have e1 : (sl.take k' ++ sl.drop (k' + 1)).length = k' + (sl.length - (k' + 1)) := ln.out
            have e2 : (sl.take k' ++ sl.drop (k' + 1)).flatMap spcCells = [] ++ (sl.take k').flatMap spcCells ++ (sl.drop (k' + 1)).flatMap spcCells := by rw [List.flatMap_append]; simp
            rw [e1, e2]
            have h := own_base own4.out hw3
            simp only [Nat.zero_add, Nat.add_zero] at h
            exact h
          have D6 := RF3.out.W.repl K6.out row6 sub.out (by rw [ln.out]; omega)
          have K7 : Keep (only bw) w6 (w6.setCell ⟨bw, 0, none⟩ (.slice a6 (k' + (sl.length - (k' + 1))) c6)) := (Keep.refl _ _).store _ _
          have nlb : ¬ only bw lb := fun e => G.out.ne e.symm
          have nbs : ∀ y, base ≤ y → ¬ only bw y := fun y hy e => by have e : y = bw := e; have := G.out.bb; omega
          have RF6 := RF3.out.next K6.out
          have S6 := (S3.out.next G.out.D K6.out).since G.out.D G.out.b0 (K7.mono (fun y _ e => by have e : y = bw := e; show bw ≤ y; omega))
          refine ⟨rfl, ⟨_, lv, _, ol, M, updI g rt 0, left + 1, S6, D6, K7.some RF6.l0 nlb, (K7.frozen (World.block_lt_of_cell? _ _ RF6.l0) nlb).trans RF6.lz, own_keep RF6.lr K7 nbs, R'.out, by have := P.out.ll; omega, P.out.lo⟩, ?_⟩
          exact (((Ka.out.then K2.out).nob.trans (K3.out.mono (fun y _ e => Or.inl e)) (fun _ _ x => x)).then K6.out).trans K7 (fun y _ e => Or.inr (Or.inl e))
end
end Go.Proofs.YtepmljcapobodaaDoor
end
section
namespace Go.Proofs.YtepmljcapobodaaDoor
open Go.RowKit
set_option linter.unusedVariables false
set_option maxRecDepth 100000
theorem infoInt10 : (Tryd.prog.info? 3).map (fun i => (i.zero, i.size, i.bytes)) = some (some (.int .i64 0), 1, 8) := by kernel_rfl
section
variable {w : World} {A : MB} {B : PB} {base bw lb many : Nat} {v lv : Value} {sl : List Spc} {ol : List Nat} {M : Nat → Nat → Ent} {g : Int → Int} {left q : Nat}
theorem WdAt.push {w6 : World} {n r : Nat} {v6 : Value} (h : WdAt w base bw v sl n many) (K : Keep (rowOf v) w w6) (row6 : w6.ownsRow base 98 2 v6 (sl.length + 1) (sl.flatMap spcCells ++ [.int .i64 (r : Int), .slice none 0 0])) (hl : sl.length + 1 ≤ 1000) :
    WdAt (w6.setCell ⟨bw, 0, none⟩ v6) base bw v6 (sl ++ [⟨r, .slice none 0 0, []⟩]) n many := by
  have K1 : Keep (only bw) w6 (w6.setCell ⟨bw, 0, none⟩ v6) := (Keep.refl _ _).store _ _
  have nb : ∀ g, base ≤ g → ¬ only bw g := fun g hg e => by have e : g = bw := e; have := h.lt; omega
  have nw : ¬ rowOf v bw := fun e => by have := (own_tag h.row e).1; have := h.lt; omega
  have row7 : w6.ownsRow base 98 2 v6 (sl ++ [(⟨r, .slice none 0 0, []⟩ : Spc)]).length ((sl ++ [(⟨r, .slice none 0 0, []⟩ : Spc)]).flatMap spcCells) := by
    rw [List.length_append, List.length_singleton, List.flatMap_append]
    exact row6
  refine ⟨setCell_eq (K.some h.c0 nw), ?_, ?_, ?_, h.lt, own_keep row7 K1 nb, fun t ht => ?_, by rw [List.length_append, List.length_singleton]; exact hl, fun t ht => ?_, Nat.le_trans (Nat.le_trans h.hb K.size) K1.size⟩
  · rw [setCell_off (by show (0 : Nat) ≠ 1; decide)]; exact K.some h.c1 nw
  · rw [setCell_off (by show (0 : Nat) ≠ 2; decide)]; exact K.some h.c2 nw
  · rw [frozen_setCell]; exact (K.frozen (World.block_lt_of_cell? _ _ h.c0) nw).trans h.z0
  · rcases List.mem_append.1 ht with ht | ht
    · exact own_keep (own_keep2 (h.maps t ht) K (fun g e1 e2 => own_ne (h.maps t ht) h.row ts_ne g e1 e2)) K1 nb
    · rw [List.mem_singleton] at ht
      subst ht
      exact World.ownsRow_nil _ _ _ _
  · rcases List.mem_append.1 ht with ht | ht
    · exact h.fine t ht
    · rw [List.mem_singleton] at ht
      subst ht
      exact ⟨Nat.zero_le _, fun x hx => by cases hx⟩
theorem map_int : (106 : TypeId) ≠ 3 := by decide
theorem spc_int : (98 : TypeId) ≠ 3 := by decide
/-- Behind an append to l. -/
theorem WdAt.aside {w6 : World} {n : Nat} (h : WdAt w base bw v sl n many) (hr : w.ownsRow base 3 1 lv ol.length (ol.flatMap natCells)) (K : Keep (rowOf lv) w w6) : WdAt w6 base bw v sl n many := by
  have nw : ¬ rowOf lv bw := fun e => by have := (own_tag hr e).1; have := h.lt; omega
  exact ⟨K.some h.c0 nw, K.some h.c1 nw, K.some h.c2 nw, (K.frozen (World.block_lt_of_cell? _ _ h.c0) nw).trans h.z0, h.lt, own_keep2 h.row K (fun g e1 e2 => own_ne h.row hr spc_int g e1 e2), fun t ht => own_keep2 (h.maps t ht) K (fun g e1 e2 => own_ne (h.maps t ht) hr map_int g e1 e2), h.len, h.fine, Nat.le_trans h.hb K.size⟩
set_option maxHeartbeats 0 in
theorem play_open (G : PlGeo A B base bw lb many) (P : PlAt w A B base bw lb many v lv sl ol M g left q) (hT : TabAt 0 Lib.deBruijn64tab w) (hq : q ≤ 1000) (ho : ∀ x ∈ ol, x < 1024) (s pg : Int) (ep eq ec : Bool) (ef : Int) :
    Calls Tryd.prog 41 #[.pointer (some ⟨A.t, 0, none⟩), .pointer (some ⟨bw, 0, none⟩), .pointer (some ⟨lb, 0, none⟩), opV ⟨1, s, pg, ⟨ep, eq, ec, ef⟩⟩] w (PlPost w A B base bw lb many q) := by
  have KW0 : Keep nob w (w.alloc (.cells #[.int .i64 (1), .int .i64 s, .int .i64 pg, .bool ep, .bool eq, .bool ec, .int .i64 ef] 90)) := (Keep.refl _ _).alloc _
  have co : ∀ (j : Nat) (u : Value), [Value.int .i64 (1), .int .i64 s, .int .i64 pg, .bool ep, .bool eq, .bool ec, .int .i64 ef][j]? = some u → (w.alloc (.cells #[.int .i64 (1), .int .i64 s, .int .i64 pg, .bool ep, .bool eq, .bool ec, .int .i64 ef] 90)).cell? ⟨w.heap.size, j, none⟩ = some u := fun j u hu => new_at w _ _ j u hu
  obtain ⟨W, hW⟩ : ∃ W, W = w.alloc (.cells #[.int .i64 (1), .int .i64 s, .int .i64 pg, .bool ep, .bool eq, .bool ec, .int .i64 ef] 90) := ⟨_, rfl⟩
  rw [← hW] at KW0 co
  have PW := P.next G KW0
  have wr := root_wf (n := s) ho
  have RT := fun W' (k : Keep nob W W') => (root_ok (own_rows natCells_len (own_next PW.lr k) (by have := P.ll; omega)) (by have := P.ll; omega) s).mono (fun r w' (h : r = .returned (.int .i64 (rootR ol s)) ∧ W' = w') => (⟨h.1, by rw [h.2]; exact Keep.refl _ _⟩ : r = .returned (.int .i64 (rootR ol s)) ∧ Keep nob W' w'))
  obtain ⟨rt, hrt⟩ : ∃ rt, rootR ol s = rt := ⟨_, rfl⟩
  rw [hrt] at RT wr
  have Z0 := KW.cell PW.l0
  have Z1 := KW.cell (co 1 _ rfl)
  have nO : ¬ ownT A B w.heap.size := G.bl.no _ P.W.hb
  have nR : ¬ rowOf v w.heap.size := fun e => by have := (own_tag P.W.row e).2.1; omega
  unfold opV
  dsimp only
  replace hW := Lib.hid hW
  replace KW0 := Lib.hid KW0
  replace co := Lib.hid co
  replace PW := Lib.hid PW
  replace RT := Lib.hid RT
  replace hrt := Lib.hid hrt
  replace P := Lib.hid P
  replace G := Lib.hid G
  replace hT := Lib.hid hT
  replace ho := Lib.hid ho
  replace wr := Lib.hid wr
  replace nO := Lib.hid nO
  replace nR := Lib.hid nR
  go_enter Tryd.func41, Tryd.ntmps41
  go_wp2_with fail
  rw [← hW.out]
  refine wp_region_keepq (by kernel_rfl) (by kernel_rfl) ?_
  repeat (go_big_quiet_step ((first | (go_at_call 43; with_reducible exact Calls.keepq (RT.out _ (KW.k _))))))
  refine wpQuiet_nil ?_
  rintro w1 ⟨⟨_, K1⟩, rfl⟩
  try dsimp only
  clear Z0 Z1
  have c0 := K1.some (co.out 0 _ rfl) (fun x => x)
  have c2 := K1.some (co.out 2 _ rfl) (fun x => x)
  have c3 := K1.some (co.out 3 _ rfl) (fun x => x)
  have c4 := K1.some (co.out 4 _ rfl) (fun x => x)
  have c5 := K1.some (co.out 5 _ rfl) (fun x => x)
  have c6 := K1.some (co.out 6 _ rfl) (fun x => x)
  have Ka := KW0.out.then K1
  have P1 := PW.out.next G.out K1
  replace K1 := Lib.hid K1
  replace Ka := Lib.hid Ka
  replace P1 := Lib.hid P1
  have C := st_open (tab_keep hT.out Ka.out) G.out.D P1.out.S (by omega)
  replace C := Lib.hid C
  go_wp2_with fail
  refine Calls.mono C.out ?_
  have us := P.out.R.us
  have ul := used_len sl
  have hm := G.out.h2
  rintro r w2 ⟨⟨l0, rfl, S2⟩ | ⟨n, nm, g0, lp, rfl, S2⟩, K2⟩
  · have RF2 := P1.out.rf.mgr G.out K2
    have CU := fun W' (k : Keep nob w2 W') => used_ok (RF2.W.is.next k) ((many : Int) + 2) many
    unfold wAgg at CU
    obtain ⟨u, hu⟩ : ∃ u, usedR sl = u := ⟨_, rfl⟩
    rw [hu] at CU us
    have Z0 := KW.cell RF2.W.c0
    have Z1 := KW.cell RF2.W.c1
    have Z2 := KW.cell RF2.W.c2
    have t1 : decide (many ≤ u) = true := decide_eq_true (by omega)
    have t2 : decide ((many : Int) ≤ (u : Int)) = true := decide_eq_true (by omega)
    replace S2 := Lib.hid S2
    replace K2 := Lib.hid K2
    replace RF2 := Lib.hid RF2
    replace CU := Lib.hid CU
    replace hu := Lib.hid hu
    go_wp2_with fail
    refine wp_region_keepq (by kernel_rfl) (by kernel_rfl) ?_
    repeat (go_big_quiet_step ((first | (go_at_call 42; with_reducible exact Calls.keepq (CU.out _ (KW.k _))))))
    refine wpQuiet_nil ?_
    rintro w3 ⟨⟨_, K3⟩, rfl⟩
    try dsimp only
    replace K3 := Lib.hid K3
    go_wp2_with fail
    go_ret
    have RF3 := RF2.out.next K3.out
    rw [← l0] at S2
    refine ⟨rfl, ⟨v, lv, sl, ol, M, g, left, S2.out.next G.out.D K3.out, RF3.W, RF3.l0, RF3.lz, RF3.lr, P.out.R, by have := P.out.ll; omega, P.out.lo⟩, ?_⟩
    exact ((Ka.out.nob).trans (K2.out.mono (fun y _ e => Or.inl e)) (fun _ _ x => x)).then K3.out
  · have RF2 := P1.out.rf.mgr G.out K2
    have CU := fun W' (k : Keep nob w2 W') => used_ok (RF2.W.is.next k) ((many : Int) + 2) many
    unfold wAgg at CU
    obtain ⟨u, hu⟩ : ∃ u, usedR sl = u := ⟨_, rfl⟩
    rw [hu] at CU us ul
    have Z0 := KW.cell RF2.W.c0
    have Z1 := KW.cell RF2.W.c1
    have Z2 := KW.cell RF2.W.c2
    have t1 : decide (many ≤ u) = false := decide_eq_false (by omega)
    have t2 : decide ((many : Int) ≤ (u : Int)) = false := decide_eq_false (by omega)
    replace S2 := Lib.hid S2
    replace K2 := Lib.hid K2
    replace RF2 := Lib.hid RF2
    replace CU := Lib.hid CU
    replace hu := Lib.hid hu
    go_wp2_with fail
    refine wp_region_keepq (by kernel_rfl) (by kernel_rfl) ?_
    repeat (go_big_quiet_step ((first | (go_at_call 42; with_reducible exact Calls.keepq (CU.out _ (KW.k _))))))
    refine wpQuiet_nil ?_
    rintro w3 ⟨⟨_, K3⟩, rfl⟩
    try dsimp only
    have RF3 := RF2.out.next K3
    have CA := rat_ok RF3.W.is ((many : Int) + 2) many n
    unfold wAgg at CA
    have q1 : atR sl n = -1 := by
      rcases atR_cases sl n with ⟨h, -⟩ | ⟨k, s, h, -⟩
      · exact h
      · have := (P.out.R.at0 (r := (n : Int))).2 g0; omega
    rw [q1] at CA
    have z0 := RF3.W.c0
    have z1 := RF3.W.c1
    have z2 := RF3.W.c2
    clear Z0 Z1 Z2
    replace K3 := Lib.hid K3
    replace RF3 := Lib.hid RF3
    replace CA := Lib.hid CA
    replace q1 := Lib.hid q1
    go_wp2_with fail
    refine Calls.mono CA.out ?_
    rintro r w4 ⟨rfl, K4⟩
    have RF4 := RF3.out.next K4
    clear z0 z1 z2
    have z0 := RF4.W.c0
    obtain ⟨i0, hi, hz0, hz1, hz2⟩ := info_parts infoSpc
    obtain ⟨j0, ji, jz0, jz1, jz2⟩ := info_parts infoInt10
    have rw4 := RF4.W.row
    have lr4 := RF4.lr
    have hb4 := RF4.W.hb
    have ol1 := P.out.ll
    have bwl : bw < w4.heap.size := World.block_lt_of_cell? _ _ z0
    have lbl : lb < w4.heap.size := World.block_lt_of_cell? _ _ RF4.l0
    replace K4 := Lib.hid K4
    replace RF4 := Lib.hid RF4
    replace hi := Lib.hid hi
    replace hz0 := Lib.hid hz0
    replace hz1 := Lib.hid hz1
    replace hz2 := Lib.hid hz2
    replace ji := Lib.hid ji
    replace jz0 := Lib.hid jz0
    replace jz1 := Lib.hid jz1
    replace jz2 := Lib.hid jz2
    replace rw4 := Lib.hid rw4
    replace lr4 := Lib.hid lr4
    go_wp2_with (at_builtin; refine wpList_append_cut rfl (.tmp 62) (.tmp 65) 83 rfl base 98 i0 (.agg #[.int .i64 0, .slice none 0 0]) 2 32 Tryd.underlying83 hi.out hz0.out hz1.out hz2.out rfl (by decide) v sl.length _ rfl (own_next rw4.out ((Keep.refl _ _).alloc _)) (some ⟨w4.heap.size, 0, none⟩) 1 1 [.int .i64 (n : Int), .slice none 0 0] rfl (fun h => by cases h) rfl ?c2 ?c1 ?c3 ?c4 ?c5 ?_)
    case c2 => intro ad h; injection h with h; subst h; intro j u hu; rw [Addr.add_mid, Nat.zero_add]; exact new_at _ _ _ j u hu
    case c1 => simp [Value.oneCell']
    case c3 => unfold maxLen; omega
    case c4 => omega
    case c5 => rw [World.size_alloc]; omega
    intro v6 w6 own6 gr6
    have K6 : Keep (rowOf v) w4 w6 := (((Keep.refl nob w4).alloc _).nob).trans (keep_grown gr6) (fun _ _ x => x)
    obtain ⟨a6, c6, rfl⟩ := row_form own6
    have D6 := RF4.out.W.push K6 own6 (by omega)
    have K7 : Keep (only bw) w6 (w6.setCell ⟨bw, 0, none⟩ (.slice a6 (sl.length + 1) c6)) := (Keep.refl _ _).store _ _
    have nw : ¬ rowOf v bw := fun e => by have := (own_tag rw4.out e).1; have := G.out.bb; omega
    have nl : ¬ rowOf v lb := fun e => by have := (own_tag rw4.out e).1; have := G.out.lt; omega
    have nlb : ¬ only bw lb := fun e => G.out.ne e.symm
    have nbs : ∀ y, base ≤ y → ¬ only bw y := fun y hy e => by have e : y = bw := e; have := G.out.bb; omega
    have y0 : w6.cell? ⟨bw, 0, none⟩ = some v := K6.some z0 nw
    have yz : w6.frozen? ⟨bw, 0, none⟩ = false := (K6.frozen (p := ⟨bw, 0, none⟩) bwl nw).trans RF4.out.W.z0
    have l7 : (w6.setCell ⟨bw, 0, none⟩ (.slice a6 (sl.length + 1) c6)).cell? ⟨lb, 0, none⟩ = some lv := K7.some (K6.some RF4.out.l0 nl) nlb
    have lz7 : (w6.setCell ⟨bw, 0, none⟩ (.slice a6 (sl.length + 1) c6)).frozen? ⟨lb, 0, none⟩ = false := (K7.frozen (p := ⟨lb, 0, none⟩) (Nat.lt_of_lt_of_le lbl K6.size) nlb).trans ((K6.frozen (p := ⟨lb, 0, none⟩) lbl nl).trans RF4.out.lz)
    have lr7 : (w6.setCell ⟨bw, 0, none⟩ (.slice a6 (sl.length + 1) c6)).ownsRow base 3 1 lv ol.length (ol.flatMap natCells) := own_keep (own_keep2 lr4.out K6 (fun g e1 e2 => own_ne lr4.out rw4.out int_ne g e1 e2)) K7 nbs
    have hb7 : base ≤ (w6.setCell ⟨bw, 0, none⟩ (.slice a6 (sl.length + 1) c6)).heap.size := D6.hb
    have S7 : PtSt (w6.setCell ⟨bw, 0, none⟩ (.slice a6 (sl.length + 1) c6)) A B many M (updI g n 1) (left - 1) (q + 1) := ((((S2.out.next G.out.D K3.out).next G.out.D K4.out).since G.out.D G.out.bl (K6.mono (fun y _ e => (own_tag rw4.out e).1)))).since G.out.D G.out.b0 (K7.mono (fun y _ e => by have e : y = bw := e; show bw ≤ y; omega))
    have ws7 : (w6.setCell ⟨bw, 0, none⟩ (.slice a6 (sl.length + 1) c6)).heap.size = w6.heap.size := by simp [World.setCell]
    have lbl7 : lb < (w6.setCell ⟨bw, 0, none⟩ (.slice a6 (sl.length + 1) c6)).heap.size := World.block_lt_of_cell? _ _ l7
    replace own6 := Lib.hid own6
    replace gr6 := Lib.hid gr6
    replace K6 := Lib.hid K6
    replace D6 := Lib.hid D6
    replace K7 := Lib.hid K7
    replace lr7 := Lib.hid lr7
    replace S7 := Lib.hid S7
    replace lz7 := Lib.hid lz7
    clear z0
    go_wp2_with (at_builtin; refine wpList_append_cut rfl (.tmp 72) (.tmp 74) 48 rfl base 3 j0 (.int .i64 0) 1 8 Tryd.underlying48 ji.out jz0.out jz1.out jz2.out rfl (by decide) lv ol.length _ rfl (own_next lr7.out ((Keep.refl _ _).alloc _)) (some ⟨w6.heap.size, 0, none⟩) 1 1 [.int .i64 (n : Int)] rfl (fun h => by cases h) rfl ?c2 ?c1 ?c3 ?c4 ?c5 ?_)
    case c2 => intro ad h; injection h with h; subst h; intro j u hu; rw [Addr.add_mid, Nat.zero_add, ← ws7]; exact new_at _ _ _ j u hu
    case c1 => simp [Value.oneCell']
    case c3 => unfold maxLen; omega
    case c4 => omega
    case c5 => rw [World.size_alloc]; exact Nat.le_succ_of_le hb7
    intro v8 w8 own8 gr8
    have K8 : Keep (rowOf lv) (w6.setCell ⟨bw, 0, none⟩ (.slice a6 (sl.length + 1) c6)) w8 := (((Keep.refl nob (w6.setCell ⟨bw, 0, none⟩ (.slice a6 (sl.length + 1) c6))).alloc _).nob).trans (keep_grown gr8) (fun _ _ x => x)
    obtain ⟨a8, c8, rfl⟩ := row_form own8
    have D8 := D6.out.aside lr7.out K8
    have K9 : Keep (only lb) w8 (w8.setCell ⟨lb, 0, none⟩ (.slice a8 (ol.length + 1) c8)) := (Keep.refl _ _).store _ _
    have nl2 : ¬ rowOf lv lb := fun e => by have := (own_tag lr7.out e).1; have := G.out.lt; omega
    have nbl : ¬ only lb bw := fun e => G.out.ne e
    have nbs2 : ∀ y, base ≤ y → ¬ only lb y := fun y hy e => by have e : y = lb := e; have := G.out.lt; omega
    have y8 : w8.cell? ⟨lb, 0, none⟩ = some lv := K8.some l7 nl2
    have yz8 : w8.frozen? ⟨lb, 0, none⟩ = false := (K8.frozen (p := ⟨lb, 0, none⟩) lbl7 nl2).trans lz7.out
    have D9 := D8.keep K9 nbl nbs2
    have S9 := (S7.out.since G.out.D G.out.bl (K8.mono (fun y _ e => (own_tag lr7.out e).1))).since G.out.D G.out.b1 (K9.mono (fun y _ e => by have e : y = lb := e; show lb ≤ y; omega))
    have row9 : (w8.setCell ⟨lb, 0, none⟩ (.slice a8 (ol.length + 1) c8)).ownsRow base 3 1 (.slice a8 (ol.length + 1) c8) (ol ++ [n]).length ((ol ++ [n]).flatMap natCells) := by
      rw [List.length_append, List.length_singleton, List.flatMap_append]
      exact own_keep own8 K9 nbs2
    have R9 := P.out.R.open g0 lp (.slice none 0 0)
    have KA : Keep (playS A B base bw lb) w (w6.setCell ⟨bw, 0, none⟩ (.slice a6 (sl.length + 1) c6)) := ((((Ka.out.nob.trans (K2.out.mono (fun y _ e => Or.inl e)) (fun _ _ x => x)).then K3.out).then K4.out).trans (K6.out.mono (fun y _ e => Or.inr (Or.inr (Or.inr (own_tag rw4.out e).1)))) (fun _ _ x => x)).trans K7.out (fun y _ e => Or.inr (Or.inl e))
    have KB : Keep (playS A B base bw lb) w (w8.setCell ⟨lb, 0, none⟩ (.slice a8 (ol.length + 1) c8)) := (KA.trans (K8.mono (fun y _ e => (Or.inr (Or.inr (Or.inr (own_tag lr7.out e).1)) : playS A B base bw lb y))) (fun _ _ x => x)).trans K9 (fun y _ e => Or.inr (Or.inr (Or.inl e)))
    replace own8 := Lib.hid own8
    replace gr8 := Lib.hid gr8
    replace K8 := Lib.hid K8
    replace D8 := Lib.hid D8
    replace K9 := Lib.hid K9
    replace D9 := Lib.hid D9
    replace S9 := Lib.hid S9
    replace row9 := Lib.hid row9
    replace R9 := Lib.hid R9
    replace KA := Lib.hid KA
    replace KB := Lib.hid KB
    clear l7
    go_wp2_with fail
    go_ret
    exact ⟨rfl, ⟨_, _, _, ol ++ [n], M, updI g n 1, left - 1, S9.out, D9.out, setCell_eq y8, by rw [frozen_setCell]; exact yz8, row9.out, R9.out, by rw [List.length_append, List.length_singleton]; omega, fun x hx => by
      rcases List.mem_append.1 hx with h | h
      · exact P.out.lo x h
      · rw [List.mem_singleton] at h; omega⟩, KB.out⟩
end
end Go.Proofs.YtepmljcapobodaaDoor
end
section
namespace Go.Proofs.YtepmljcapobodaaDoor
open Go.RowKit
set_option linter.unusedVariables false
set_option maxRecDepth 100000
theorem play_ok {w : World} {A : MB} {B : PB} {base bw lb many : Nat} {v lv : Value} {sl : List Spc} {ol : List Nat} {M : Nat → Nat → Ent} {g : Int → Int} {left q : Nat} (G : PlGeo A B base bw lb many) (P : PlAt w A B base bw lb many v lv sl ol M g left q) (hT : TabAt 0 Lib.deBruijn64tab w) (hq : q ≤ 1000) (o : Op10) :
    Calls Tryd.prog 41 #[.pointer (some ⟨A.t, 0, none⟩), .pointer (some ⟨bw, 0, none⟩), .pointer (some ⟨lb, 0, none⟩), opV o] w (PlPost w A B base bw lb many q) := by
  obtain ⟨d, s, pg, ⟨ep, eq, ec, ef⟩⟩ := o
  by_cases d1 : d = 1
  · subst d1; exact play_open G P hT hq P.lo s pg ep eq ec ef
  by_cases d2 : d = 2
  · subst d2; exact play_close G P hT hq P.lo s pg ep eq ec ef
  by_cases d3 : d = 3
  · subst d3; exact play_map G P hT hq P.lo s pg ep eq ec ef
  by_cases d4 : d = 4
  · subst d4; exact play_un G P hT hq P.lo s pg ep eq ec ef
  by_cases d5 : d = 5
  · subst d5; exact play_set G P hT hq P.lo s pg ep eq ec ef
  exact play_no G P hT hq P.lo d s pg ep eq ec ef d1 d2 d3 d4 d5
end Go.Proofs.YtepmljcapobodaaDoor
end
