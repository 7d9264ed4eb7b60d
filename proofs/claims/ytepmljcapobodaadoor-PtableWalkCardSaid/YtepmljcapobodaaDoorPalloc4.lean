/- A pool of package palloc: Share, Free. -/
import Derived.Test.YtepmljcapobodaaDoorPalloc3
namespace Go.Proofs.YtepmljcapobodaaDoor
open Go.RowKit
set_option linter.unusedVariables false
set_option maxRecDepth 100000
theorem owner_in {w : World} {B : PB} {c : Nat → Int} {f : Int → Int} {q : Nat} (G : Geo B) (P : PoolAt w B c f q) (x : Int) (hx : wfI x) (j : Nat) (hj : B.inr j x) :
    Calls Tryd.prog 23 #[.pointer (some ⟨B.p, 0, none⟩), .int .i64 x] w fun r w' => r = .returned (.tuple #[.int .i64 j, .int .i64 0]) ∧ Keep nob w w' := by
  refine (owner_any G P x hx).mono ?_
  rintro r w' ⟨⟨i, hi, rfl⟩ | ⟨h, -⟩, K⟩
  · rw [G.one i j x hi hj]; exact ⟨rfl, K⟩
  · exact absurd hj (h j)
theorem owner_out {w : World} {B : PB} {c : Nat → Int} {f : Int → Int} {q : Nat} (G : Geo B) (P : PoolAt w B c f q) (x : Int) (hx : wfI x) (hj : ∀ j, ¬ B.inr j x) :
    Calls Tryd.prog 23 #[.pointer (some ⟨B.p, 0, none⟩), .int .i64 x] w fun r w' => r = .returned (.tuple #[.int .i64 0, .int .i64 2]) ∧ Keep nob w w' := by
  refine (owner_any G P x hx).mono ?_
  rintro r w' ⟨⟨i, hi, rfl⟩ | ⟨h, e⟩, K⟩
  · exact absurd hi (hj i)
  · exact ⟨e, K⟩
/-- Only the counts have turned; the free ones are free. -/
theorem PoolAt.counted {w w' : World} {B : PB} {c : Nat → Int} {f f' : Int → Int} {q q' : Nat} (G : Geo B) (P : PoolAt w B c f q) (K : Keep (only B.r) w w') (hM : MapI w' B.r q' f') (hf : ∀ k, f k = 0 ↔ f' k = 0) : PoolAt w' B c f' q' := by
  have h0 : 0 < B.l.length := G.some.1
  have hm : ¬ only B.r B.mf := fun e => by have e : B.mf = B.r := e; have := G.r; have := G.m; omega
  have hb : ¬ only B.r B.b := fun e => by have e : B.b = B.r := e; have := G.r; have := G.m; omega
  obtain ⟨W, h1, h2⟩ := P.set 0 h0
  exact P.turned G 0 h0 (K.mono (fun k _ e => Or.inr (Or.inl e))) (P.mem.keep K hb hm) (h1.keep K (fun e => (G.s 0 h0).2.2.2.2 e)) (fun k => by rw [h2 k, hf k]) hM (fun i _ k _ => hf k)
theorem share_out {w : World} {B : PB} {c : Nat → Int} {f : Int → Int} {q : Nat} (G : Geo B) (P : PoolAt w B c f q) (x : Int) (hx : wfI x) (hj : ∀ j, ¬ B.inr j x) :
    Calls Tryd.prog 20 #[.pointer (some ⟨B.p, 0, none⟩), .int .i64 x] w fun r w' => r = .returned (.int .i64 2) ∧ Keep nob w w' := by
  have h := Lib.hid (owner_out G P x hx hj)
  clear hj hx G
  go_enter Tryd.func20, Tryd.ntmps20
  go_wp2_with fail
  refine Calls.mono h.out ?_
  rintro r w1 ⟨rfl, K⟩
  have K := Lib.hid K
  go_wp2_with fail
  go_ret
  exact ⟨rfl, K.out⟩
theorem share_no {w : World} {B : PB} {c : Nat → Int} {f : Int → Int} {q : Nat} (G : Geo B) (P : PoolAt w B c f q) (x : Int) (hx : wfI x) (j : Nat) (hj : B.inr j x) (h0 : f x = 0) :
    Calls Tryd.prog 20 #[.pointer (some ⟨B.p, 0, none⟩), .int .i64 x] w fun r w' => r = .returned (.int .i64 4) ∧ Keep nob w w' := by
  have h := Lib.hid (owner_in G P x hx j hj)
  have c2 := P.pr
  have M := Lib.hid P.map
  have hx := Lib.hid hx
  clear hj G P
  go_enter Tryd.func20, Tryd.ntmps20
  go_wp2_with fail
  refine Calls.mono h.out ?_
  rintro r w1 ⟨rfl, K⟩
  have p2 := K.some c2 (fun x => x)
  have M1 := Lib.hid (M.out.next K)
  have K := Lib.hid K
  clear c2 M
  go_wp2_with (at_lookup; refine wpList_look rfl _ _ rfl B.r q f M1.out x hx.out rfl rfl ?_; rw [h0])
  go_ret
  exact ⟨rfl, K.out⟩
theorem share_full {w : World} {B : PB} {c : Nat → Int} {f : Int → Int} {q : Nat} (G : Geo B) (P : PoolAt w B c f q) (x : Int) (hx : wfI x) (j : Nat) (hj : B.inr j x) (h0 : f x = 64) :
    Calls Tryd.prog 20 #[.pointer (some ⟨B.p, 0, none⟩), .int .i64 x] w fun r w' => r = .returned (.int .i64 3) ∧ Keep nob w w' := by
  have h := Lib.hid (owner_in G P x hx j hj)
  have c2 := P.pr
  have M := Lib.hid P.map
  have hx := Lib.hid hx
  clear hj G P
  go_enter Tryd.func20, Tryd.ntmps20
  go_wp2_with fail
  refine Calls.mono h.out ?_
  rintro r w1 ⟨rfl, K⟩
  have p2 := K.some c2 (fun x => x)
  have M1 := Lib.hid (M.out.next K)
  have K := Lib.hid K
  clear c2 M
  go_wp2_with (at_lookup; refine wpList_look rfl _ _ rfl B.r q f M1.out x hx.out rfl rfl ?_; rw [h0])
  go_ret
  exact ⟨rfl, K.out⟩
set_option maxHeartbeats 800000 in
theorem share_ok {w : World} {B : PB} {c : Nat → Int} {f : Int → Int} {q : Nat} (G : Geo B) (R : RefsOk B f) (P : PoolAt w B c f q) (hq : q < 4611686018427387904) (x : Int) (hx : wfI x) (j : Nat) (hj : B.inr j x) (h0 : f x ≠ 0) (h1 : f x ≠ 64) :
    Calls Tryd.prog 20 #[.pointer (some ⟨B.p, 0, none⟩), .int .i64 x] w fun r w' => r = .returned (.int .i64 0) ∧ PoolAt w' B c (updI f x (f x + 1)) (q + 1) ∧ Keep (own B) w w' := by
  have h := Lib.hid (owner_in G P x hx j hj)
  have c2 := P.pr
  have G := Lib.hid G
  have P := Lib.hid P
  have M := Lib.hid P.out.map
  have hx := Lib.hid hx
  obtain ⟨v, hv⟩ : ∃ v, v = f x := ⟨_, rfl⟩
  have r1 := R.rng x
  rw [← hv] at r1 h0 h1
  have t1 : (v == 0) = false := by simpa using h0
  have t2 : (v == 64) = false := by simpa using h1
  have h0 := Lib.hid h0
  obtain ⟨r0, r2⟩ := r1
  have Hv := Lib.hid hv
  clear hj R h1 hv
  go_enter Tryd.func20, Tryd.ntmps20
  go_wp2_with fail
  refine Calls.mono h.out ?_
  rintro r w1 ⟨rfl, K⟩
  have p2 := K.some c2 (fun x => x)
  have M1 := Lib.hid (M.out.next K)
  have K := Lib.hid K
  clear c2 M h
  go_wp2_with (first | (at_lookup; refine wpList_look rfl _ _ rfl B.r q f M1.out x hx.out rfl rfl ?_; rw [← Hv.out]) | (at_mapUpdate; refine wpList_put rfl _ _ _ rfl B.r q f M1.out hq x (v + 1) hx.out (by unfold wfI; omega) rfl rfl rfl ?_; intro w3 Mp3 K3))
  go_ret
  have hne := h0.out
  refine ⟨rfl, ?_, (K.out.nob (S := own B)).trans K3 (fun k _ e => by have e : k = B.r := e; rw [e]; exact Or.inr G.out.r)⟩
  rw [← Hv.out]
  refine (P.out.next G.out K.out).counted G.out K3 Mp3 (fun k => ?_)
  unfold updI
  by_cases e : k = x
  · rw [if_pos e, e, ← Hv.out]; omega
  · rw [if_neg e]
end Go.Proofs.YtepmljcapobodaaDoor
