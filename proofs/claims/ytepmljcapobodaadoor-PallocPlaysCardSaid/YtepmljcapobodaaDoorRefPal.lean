/- The document's pool (package prioryref09): its state; in, Owner, Refs, Left. -/
import Derived.Test.YtepmljcapobodaaDoorPalTwo
import Derived.Test.YtepmljcapobodaaDoorRef3
namespace Go.Proofs.YtepmljcapobodaaDoor
open Go.RowKit
set_option linter.unusedVariables false
set_option maxRecDepth 100000
theorem ret2 {a b c d : Int} (h1 : a = c) (h2 : b = d) : Ending.returned (.tuple #[.int .i64 a, .int .i64 b]) = .returned (.tuple #[.int .i64 c, .int .i64 d]) := by rw [h1, h2]
def refsV (h n : Nat) : Value := .slice (some ⟨h, 0, none⟩) n n
/-- The pool at pw: the ranges' slice v, the words at g, the counts at h. -/
structure RpAt (w : World) (pw g h n : Nat) (v : Value) (c : Nat → Int) (f : Int → Int) : Prop where
  p0 : w.cell? ⟨pw, 0, none⟩ = some v
  p1 : w.cell? ⟨pw, 1, none⟩ = some (refV g n)
  p2 : w.cell? ⟨pw, 2, none⟩ = some (refsV h n)
  M : RefAt w g n c
  F : ∀ k : Nat, k < n → w.cell? ⟨h, k, none⟩ = some (.int .i64 (f k))
  Z : ∀ k : Nat, w.frozen? ⟨h, k, none⟩ = false
  ne : pw ≠ g ∧ pw ≠ h ∧ g ≠ h
theorem RpAt.hlt {w : World} {pw g h n : Nat} {v : Value} {c : Nat → Int} {f : Int → Int} (P : RpAt w pw g h n v c f) : h < w.heap.size := World.block_lt_of_cell? _ _ (P.F 0 P.M.lo)
theorem RpAt.keep {w w' : World} {pw g h n : Nat} {v : Value} {c : Nat → Int} {f : Int → Int} {S : Nat → Prop} (P : RpAt w pw g h n v c f) (K : Keep S w w') (h1 : ¬ S pw) (h2 : ¬ S g) (h3 : ¬ S h) : RpAt w' pw g h n v c f :=
  ⟨K.some P.p0 h1, K.some P.p1 h1, K.some P.p2 h1, P.M.keep K h2, fun k hk => K.some (P.F k hk) h3, fun k => by rw [K.frozen (p := ⟨h, k, none⟩) P.hlt h3]; exact P.Z k, P.ne⟩
theorem RpAt.next {w w' : World} {pw g h n : Nat} {v : Value} {c : Nat → Int} {f : Int → Int} (P : RpAt w pw g h n v c f) (K : Keep nob w w') : RpAt w' pw g h n v c f := P.keep K (fun x => x) (fun x => x) (fun x => x)
theorem RpAt.words {w w' : World} {pw g h n : Nat} {v : Value} {c c' : Nat → Int} {f : Int → Int} (P : RpAt w pw g h n v c f) (K : Keep (only g) w w') (M : RefAt w' g n c') : RpAt w' pw g h n v c' f :=
  have h1 : ¬ only g pw := P.ne.1
  have h3 : ¬ only g h := fun e => P.ne.2.2 e.symm
  ⟨K.some P.p0 h1, K.some P.p1 h1, K.some P.p2 h1, M, fun k hk => K.some (P.F k hk) h3, fun k => by rw [K.frozen (p := ⟨h, k, none⟩) P.hlt h3]; exact P.Z k, P.ne⟩
theorem RpAt.set {w : World} {pw g h n : Nat} {v : Value} {c : Nat → Int} {f : Int → Int} (P : RpAt w pw g h n v c f) (x : Nat) (hx : x < n) (y : Int) : RpAt (w.setCell ⟨h, x, none⟩ (.int .i64 y)) pw g h n v c (updI f x y) := by
  have K : Keep (only h) w (w.setCell ⟨h, x, none⟩ (.int .i64 y)) := (Keep.refl _ _).store _ _
  have h1 : ¬ only h pw := P.ne.2.1
  have h2 : ¬ only h g := P.ne.2.2
  refine ⟨K.some P.p0 h1, K.some P.p1 h1, K.some P.p2 h1, P.M.keep K h2, fun k hk => ?_, fun k => by rw [frozen_setCell]; exact P.Z k, P.ne⟩
  unfold updI
  by_cases e : k = x
  · rw [e, if_pos rfl]; exact setCell_eq (P.F x hx)
  · rw [if_neg (by omega), setCell_off (by simpa using Ne.symm e)]; exact P.F k hk
/-- The document's ranges are the pool's. -/
structure Same (B : PB) (n : Nat) (l : List (Int × Int)) : Prop where
  len : B.l.length = l.length
  at_ : ∀ j, j < l.length → l[j]? = some ((B.fr j : Int), (B.mn j : Int))
  n : B.n = n
theorem in_raw (a m x : Int) (ha : 0 ≤ a) (ha2 : a ≤ 1024) (hm : 0 ≤ m) (hm2 : m ≤ 1024) (w : World) :
    Calls Tryd.prog 59 #[.agg #[.int .i64 a, .int .i64 m], .int .i64 x] w fun r w' => r = .returned (.bool (decide (a ≤ x ∧ x < a + m))) ∧ Keep nob w w' := by
  by_cases h1 : a ≤ x
  · have t1 : decide (a ≤ x) = true := by simpa using h1
    by_cases h2 : x < a + m
    · have t2 : decide (x < a + m) = true := by simpa using h2
      rw [decide_eq_true ⟨h1, h2⟩]
      clear h1 h2
      go_enter Tryd.func59, Tryd.ntmps59
      go_wp2_with fail
      go_ret
      exact ⟨rfl, (Keep.refl _ _).alloc _⟩
    · have t2 : decide (x < a + m) = false := by simpa using h2
      rw [decide_eq_false (fun e => h2 e.2)]
      clear h1 h2
      go_enter Tryd.func59, Tryd.ntmps59
      go_wp2_with fail
      go_ret
      exact ⟨rfl, (Keep.refl _ _).alloc _⟩
  · have t1 : decide (a ≤ x) = false := by simpa using h1
    rw [decide_eq_false (fun e => h1 e.1)]
    clear h1
    go_enter Tryd.func59, Tryd.ntmps59
    go_wp2_with fail
    go_ret
    exact ⟨rfl, (Keep.refl _ _).alloc _⟩
theorem in_ok {B : PB} (G : Geo B) (j : Nat) (hj : j < B.l.length) (x : Int) (w : World) :
    Calls Tryd.prog 59 #[.agg #[.int .i64 (B.fr j), .int .i64 (B.mn j)], .int .i64 x] w fun r w' => r = .returned (.bool (decide (B.inr j x))) ∧ Keep nob w w' := by
  have h := G.fit j hj
  have hn := G.n
  have e : decide (B.inr j x) = decide ((B.fr j : Int) ≤ x ∧ x < B.fr j + B.mn j) := by
    apply decide_eq_decide.2
    unfold PB.inr
    exact ⟨fun h => h.2, fun h => ⟨hj, h⟩⟩
  rw [e]
  exact in_raw _ _ x (by omega) (by omega) (by omega) (by omega) w
def OwI (w : World) (B : PB) (x : Int) (i : Value) (wr : World) : Prop := ∃ k : Nat, i = .int .i64 k ∧ k ≤ B.l.length ∧ (∀ j, j < k → ¬ B.inr j x) ∧ Keep nob w wr
set_option maxHeartbeats 1600000 in
theorem rowner {w : World} {B : PB} {n g h : Nat} {v : Value} {l : List (Int × Int)} (G : Geo B) (S : Same B n l) (L : PairsAt w v l) (x : Int) :
    Calls Tryd.prog 64 #[.agg #[v, refV g n, refsV h n], .int .i64 x] w fun r w' => r = .returned (.tuple #[.int .i64 (ownE B x).1, .int .i64 (ownE B x).2]) ∧ Keep nob w w' := by
  obtain ⟨a, cap, rfl, hm, hcap, hc⟩ := L
  have hl := S.len
  replace G := Lib.hid G
  replace S := Lib.hid S
  replace hc := Lib.hid hc
  unfold refV refsV
  go_enter Tryd.func64, Tryd.ntmps64
  go_wp2_with fail
  obtain ⟨W, hW⟩ : ∃ W, W = w.alloc (.cells #[.slice a l.length cap, refV g n, refsV h n] 55) := ⟨_, rfl⟩
  have c0 : W.cell? ⟨w.heap.size, 0, none⟩ = some (.slice a l.length cap) := by rw [hW]; exact new_at _ _ _ 0 _ rfl
  have KW : Keep nob w W := by rw [hW]; exact (Keep.refl _ _).alloc _
  unfold refV refsV at hW
  rw [← hW]
  replace hW := Lib.hid hW
  replace c0 := Lib.hid c0
  replace KW := Lib.hid KW
  go_loopw [6] (fun i wr => OwI W B x i wr) (fun i _ => (l.length - intOf i).toNat)
  case atStart => exact ⟨0, rfl, Nat.zero_le _, fun j hj => absurd hj (Nat.not_lt_zero j), Keep.refl _ _⟩
  case round =>
    obtain ⟨k, rfl, hk, hn, K⟩ := hrel
    have d0 := K.some c0.out (fun x => x)
    replace hn := Lib.hid hn
    by_cases hlt : k < l.length
    · have t1 : decide (k < l.length) = true := by simpa using hlt
      have hne : l ≠ [] := by intro e; rw [e] at hlt; simp at hlt
      obtain ⟨gg, og, rfl, cs⟩ := hc.out hne
      have ho' := S.out.at_ k hlt
      have Kx := KW.out.then K
      have r0 := Kx.some (cs k _ ho' 0 _ rfl) (fun x => x)
      have r1 := Kx.some (cs k _ ho' 1 _ rfl) (fun x => x)
      have r0 : wr.cell? ⟨gg, og + k * 2, none⟩ = some (.int .i64 (B.fr k)) := r0
      have r1 : wr.cell? ⟨gg, og + k * 2 + 1, none⟩ = some (.int .i64 (B.mn k)) := r1
      have C := Lib.hid (in_ok G.out k (by omega) x wr)
      have hl' := hl
      replace Kx := Lib.hid Kx
      replace K := Lib.hid K
      replace ho' := Lib.hid ho'
      clear cs
      by_cases q : B.inr k x
      · rw [decide_eq_true q] at C
        have eO := ownE_in G.out q
        replace q := Lib.hid q
        replace eO := Lib.hid eO
        go_wp2_with fail
        refine Calls.mono (C.out) ?_
        rintro r w5 ⟨rfl, K5⟩
        go_wp2_with fail
        go_ret2
        exact ⟨ret2 (by rw [eO.out]) (by rw [eO.out]), Kx.out.then K5⟩
      · rw [decide_eq_false q] at C
        replace q := Lib.hid q
        go_wp2_with fail
        refine Calls.mono C.out ?_
        rintro r w5 ⟨rfl, K5⟩
        have K6 := Lib.hid (K.out.then K5)
        clear d0 r0 r1
        replace K5 := Lib.hid K5
        go_wp2_with fail
        go_roundw
        case rel =>
          refine ⟨k + 1, by go_num, by omega, fun j hj => ?_, K6.out⟩
          by_cases e : j = k
          · rw [e]; exact q.out
          · exact hn.out j (by omega)
        case measure => simp [intOf]; omega
    · have t1 : decide (k < l.length) = false := by simpa using hlt
      have hno : ∀ j, ¬ B.inr j x := fun j e => hn.out j (by have := e.1; omega) e
      have eO := ownE_out hno
      have Kx := KW.out.then K
      replace hno := Lib.hid hno
      replace Kx := Lib.hid Kx
      replace K := Lib.hid K
      replace eO := Lib.hid eO
      clear hlt
      go_wp2_with fail
      go_ret2
      exact ⟨ret2 (by rw [eO.out]) (by rw [eO.out]), Kx.out⟩
/-! ### Refs -/
theorem ownE_or (B : PB) (x : Int) : ((ownE B x).2 = 0 ∧ ∃ j, B.inr j x) ∨ ((ownE B x) = (0, 2) ∧ ∀ j, ¬ B.inr j x) := by
  rcases in_or B x with ⟨j, h⟩ | h
  · left
    have e : ∃ j, B.inr j x := ⟨j, h⟩
    exact ⟨by unfold ownE; rw [dif_pos e], e⟩
  · exact Or.inr ⟨ownE_out h, h⟩
theorem ownE_fit {B : PB} (G : Geo B) (x : Int) : 0 ≤ (ownE B x).1 ∧ (ownE B x).1 < 8 := by
  rcases in_or B x with ⟨j, h⟩ | h
  · rw [ownE_in G h]; have := h.1; have := G.some; simp only; omega
  · rw [ownE_out h]; simp
set_option maxHeartbeats 1600000 in
theorem rrefs {w : World} {B : PB} {pw n g h : Nat} {v : Value} {l : List (Int × Int)} {c : Nat → Int} {f : Int → Int} (G : Geo B) (S : Same B n l) (R : RefsOk B f) (L : PairsAt w v l) (P : RpAt w pw g h n v c f) (x : Int) :
    Calls Tryd.prog 65 #[.agg #[v, refV g n, refsV h n], .int .i64 x] w fun r w' => r = .returned (.int .i64 (f x)) ∧ Keep nob w w' := by
  obtain ⟨a, cap, hv, hm, hcap, hc⟩ := id L
  subst hv
  obtain ⟨W, hW⟩ : ∃ W, W = w.alloc (.cells #[.slice a l.length cap, refV g n, refsV h n] 55) := ⟨_, rfl⟩
  have c0 : W.cell? ⟨w.heap.size, 0, none⟩ = some (.slice a l.length cap) := by rw [hW]; exact new_at _ _ _ 0 _ rfl
  have c1 : W.cell? ⟨w.heap.size, 1, none⟩ = some (.slice (some ⟨g, 0, none⟩) (n * 32) (n * 32)) := by rw [hW]; exact new_at _ _ _ 1 _ rfl
  have c2 : W.cell? ⟨w.heap.size, 2, none⟩ = some (.slice (some ⟨h, 0, none⟩) n n) := by rw [hW]; exact new_at _ _ _ 2 _ rfl
  have KW : Keep nob w W := by rw [hW]; exact (Keep.refl _ _).alloc _
  have C := Lib.hid (rowner (g := g) (h := h) G S (L.next KW) x)
  unfold refV refsV at hW C
  rcases ownE_or B x with ⟨e1, j, hj⟩ | ⟨e1, hj⟩
  · obtain ⟨b, hb⟩ : ∃ b, (ownE B x).1 = b := ⟨_, rfl⟩
    rw [hb, e1] at C
    have hx := inr_lt G hj
    rw [S.n] at hx
    obtain ⟨x, rfl⟩ : ∃ y : Nat, x = y := ⟨x.toNat, by omega⟩
    have d : ∀ w', Keep nob W w' → w'.cell? ⟨h, x, none⟩ = some (.int .i64 (f x)) := fun w' K => (KW.then K).some (P.F x (by omega)) (fun x => x)
    have hx2 : x < n := by omega
    replace hb := Lib.hid hb
    replace hj := Lib.hid hj
    replace e1 := Lib.hid e1
    replace d := Lib.hid d
    replace KW := Lib.hid KW
    replace hW := Lib.hid hW
    replace hx := Lib.hid hx
    replace P := Lib.hid P
    replace hc := Lib.hid hc
    replace L := Lib.hid L
    clear R
    unfold refV refsV
    go_enter Tryd.func65, Tryd.ntmps65
    go_wp2_with fail
    rw [← hW.out]
    refine Calls.mono C.out ?_
    rintro r w5 ⟨rfl, K5⟩
    have d2 := K5.some c2 (fun x => x)
    have d3 := d.out _ K5
    have K6 := Lib.hid (KW.out.then K5)
    replace K5 := Lib.hid K5
    clear c0 c1 c2
    go_wp2_with fail
    go_ret
    exact ⟨rfl, K6.out⟩
  · rw [e1] at C
    have e0 : f x = 0 := R.out x hj
    rw [e0]
    replace hj := Lib.hid hj
    replace e1 := Lib.hid e1
    replace KW := Lib.hid KW
    replace hW := Lib.hid hW
    replace P := Lib.hid P
    replace hc := Lib.hid hc
    replace e0 := Lib.hid e0
    replace L := Lib.hid L
    clear R
    unfold refV refsV
    go_enter Tryd.func65, Tryd.ntmps65
    go_wp2_with fail
    rw [← hW.out]
    refine Calls.mono C.out ?_
    rintro r w5 ⟨rfl, K5⟩
    have K6 := Lib.hid (KW.out.then K5)
    replace K5 := Lib.hid K5
    clear c0 c1 c2
    go_wp2_with fail
    go_ret
    exact ⟨rfl, K6.out⟩
end Go.Proofs.YtepmljcapobodaaDoor
