/- The example of layer 9: awake. -/
import Derived.Test.YtepmljcapobodaaDoorPalloc7
namespace Go.Proofs.YtepmljcapobodaaDoor
open Go.RowKit
set_option linter.unusedVariables false
set_option maxRecDepth 100000
/-- A pool that was made since w0. -/
structure Since (w0 : World) (B : PB) : Prop where
  mf : w0.heap.size ≤ B.mf
  lo : w0.heap.size ≤ B.lo
theorem Since.keep {w0 w w' : World} {B : PB} (h : Since w0 B) (K : Keep nob w0 w) (k : Keep (own B) w w') : Keep nob w0 w' :=
  K.trans k (fun q hq e => by
    have := h.mf
    have := h.lo
    rcases e with e | e
    · show False; omega
    · show False; omega)
theorem ranges2 (w : World) (a b c d : Int) (T : TypeId) (ha : wfI a) (hb : wfI b) (hc : wfI c) (hd : wfI d) : RangesAt (w.alloc (.cells #[.int .i64 a, .int .i64 b, .int .i64 c, .int .i64 d] T)) ⟨w.heap.size, 0, none⟩ [(a, b), (c, d)] := by
  refine ⟨fun j hj => ?_, fun j hj => ?_, fun j => ?_, rfl⟩
  · rcases j with _ | _ | j
    · exact new_at _ _ _ 0 _ rfl
    · exact new_at _ _ _ 2 _ rfl
    · exfalso; have hj : j + 1 + 1 < 2 := hj; omega
  · rcases j with _ | _ | j
    · exact new_at _ _ _ 1 _ rfl
    · exact new_at _ _ _ 3 _ rfl
    · exfalso; have hj : j + 1 + 1 < 2 := hj; omega
  · rcases j with _ | _ | j
    · exact ⟨ha, hb⟩
    · exact ⟨hc, hd⟩
    · exact ⟨by unfold wfI; simp, by unfold wfI; simp⟩
set_option maxHeartbeats 1000000 in
theorem awake09 (w : World) (hT : TabAt 0 Lib.deBruijn64tab w) : Calls Tryd.prog 16 #[] w fun r w' => r = .returned (.bool true) ∧ Keep nob w w' := by
  replace hT := Lib.hid hT
  go_enter Tryd.func16, Tryd.ntmps16
  go_wp2_with fail
  refine Calls.mono (new_in w 3 (by decide) (by decide)) ?_
  rintro r w1 ⟨rfl, M, K⟩
  replace M := Lib.hid M
  replace K := Lib.hid K
  go_wp2_with fail
  have R := ranges2 w1 0 2 2 1 31 (by unfold wfI; omega) (by unfold wfI; omega) (by unfold wfI; omega) (by unfold wfI; omega)
  refine Calls.mono (pool_new (M.out.next ((Keep.refl _ _).alloc _)) _ 2 [(0, 2), (2, 1)] R (by decide) (by decide) (by decide)) ?_
  rintro r w2 (⟨V, -⟩ | ⟨V, B, rfl, G, hb, hmf, hn, hl, hlo, hhi, P, K2⟩)
  · exfalso
    apply V
    refine ⟨by decide, by decide, fun k hk => ?_⟩
    rcases k with _ | _ | k
    · exact ⟨by unfold fits; decide, fun i hi => absurd hi (Nat.not_lt_zero i)⟩
    · refine ⟨by unfold fits; decide, fun i hi => ?_⟩
      obtain rfl : i = 0 := by omega
      unfold meet; decide
    · exfalso; have hk : k + 1 + 1 < 2 := hk; omega
  have in0 : ∀ x : Int, B.inr 0 x ↔ 0 ≤ x ∧ x < 2 := fun x => by
    unfold PB.inr PB.fr PB.mn
    rw [hl]
    show (0 < 2 ∧ ((0 : Nat) : Int) ≤ x ∧ x < ((0 : Nat) : Int) + ((2 : Nat) : Int)) ↔ _
    omega
  have in1 : ∀ x : Int, B.inr 1 x ↔ 2 ≤ x ∧ x < 3 := fun x => by
    unfold PB.inr PB.fr PB.mn
    rw [hl]
    show (1 < 2 ∧ ((2 : Nat) : Int) ≤ x ∧ x < ((2 : Nat) : Int) + ((1 : Nat) : Int)) ↔ _
    omega
  have ln : B.l.length = 2 := by rw [hl]; rfl
  have K3 := K.out.trans (((Keep.refl nob _).alloc _).trans K2 (fun _ _ x => x)) (fun _ _ x => x)
  have SI : Since w B := ⟨by omega, by
    have := K.out.size
    have e : (w1.alloc (.cells #[.int .i64 0, .int .i64 2, .int .i64 2, .int .i64 1] 31)).heap.size = w1.heap.size + 1 := World.size_alloc _ _
    omega⟩
  replace G := Lib.hid G
  replace P := Lib.hid P
  replace K3 := Lib.hid K3
  replace SI := Lib.hid SI
  replace in0 := Lib.hid in0
  replace in1 := Lib.hid in1
  clear K2 M K V R hb hmf hn hl hlo hhi
  go_wp2_with fail
  refine Calls.mono (alloc_ok (tab_keep hT.out K3.out) G.out P.out (by omega) 0 0 ((in0.out _).2 (by omega)) rfl (fun m hm => absurd hm (Nat.not_lt_zero m))) ?_
  rintro r w3 ⟨rfl, P3, K4⟩
  have K5 := Lib.hid (SI.out.keep K3.out K4)
  replace P3 := Lib.hid P3
  clear P K3 K4
  go_wp2_with fail
  have h1 : ∀ m : Nat, m < 1 → B.inr 0 m → updI (fun _ => 0) ((0 : Nat) : Int) 1 m ≠ 0 := fun m hm _ => by
    obtain rfl : m = 0 := by omega
    decide
  refine Calls.mono (alloc_ok (tab_keep hT.out K5.out) G.out P3.out (by omega) 0 1 ((in0.out _).2 (by omega)) (by rfl) h1) ?_
  rintro r w4 ⟨rfl, P4, K4⟩
  have K6 := Lib.hid (SI.out.keep K5.out K4)
  replace P4 := Lib.hid P4
  clear P3 K5 K4
  go_wp2_with fail
  refine Calls.mono (alloc_full (tab_keep hT.out K6.out) G.out P4.out 0 (by omega) (fun k hk => by
    have := (in0.out k).1 hk
    obtain rfl | rfl : k = 0 ∨ k = 1 := by omega
    · decide
    · decide)) ?_
  rintro r w5 ⟨rfl, K4⟩
  have K7 := Lib.hid (K6.out.trans K4 (fun _ _ x => x))
  have P5 := Lib.hid (P4.out.next G.out K4)
  clear P4 K6 K4
  go_wp2_with fail
  refine Calls.mono (alloc_ok (tab_keep hT.out K7.out) G.out P5.out (by omega) 1 2 ((in1.out _).2 (by omega)) (by rfl) (fun m hm h => by have := (in1.out _).1 h; omega)) ?_
  rintro r w6 ⟨rfl, P6, K4⟩
  have K8 := Lib.hid (SI.out.keep K7.out K4)
  replace P6 := Lib.hid P6
  clear P5 K7 K4
  go_wp2_with fail
  generalize hf : updI (updI (updI (fun _ => (0 : Int)) ((0 : Nat) : Int) 1) ((1 : Nat) : Int) 1) ((2 : Nat) : Int) 1 = f at *
  have f1 : f 1 = 1 := by rw [← hf]; decide
  have R6 : RefsOk B f := by rw [← hf]; exact (((RefsOk.zero B).upd _ 1 0 ((in0.out _).2 (by omega)) (by decide) (by decide)).upd _ 1 0 ((in0.out _).2 (by omega)) (by decide) (by decide)).upd _ 1 1 ((in1.out _).2 (by omega)) (by decide) (by decide)
  have w1' : wfI 1 := by unfold wfI; omega
  refine Calls.mono (share_ok G.out R6 P6.out (by omega) 1 w1' 0 ((in0.out _).2 (by omega)) (by rw [f1]; decide) (by rw [f1]; decide)) ?_
  rintro r w7 ⟨rfl, P7, K4⟩
  have K9 := Lib.hid (SI.out.keep K8.out K4)
  rw [f1] at P7
  replace P7 := Lib.hid P7
  have R7 : RefsOk B (updI f 1 (1 + 1)) := R6.upd 1 _ 0 ((in0.out _).2 (by omega)) (by decide) (by decide)
  have g1 : updI f 1 (1 + 1) 1 = 2 := by unfold updI; rw [if_pos rfl]; rfl
  clear P6 K8 K4
  go_wp2_with fail
  refine Calls.mono (free_more G.out R7 P7.out (by omega) 1 w1' 0 ((in0.out _).2 (by omega)) (by rw [g1]; decide) (by rw [g1]; decide)) ?_
  rintro r w8 ⟨rfl, P8, K4⟩
  have K10 := Lib.hid (SI.out.keep K9.out K4)
  rw [g1] at P8
  have g2 : updI (updI f 1 (1 + 1)) 1 (2 - 1) 1 = 1 := by unfold updI; rw [if_pos rfl]; rfl
  replace P8 := Lib.hid P8
  clear P7 K9 K4
  go_wp2_with fail
  refine Calls.mono (refs_ok P8.out 1 w1') ?_
  rintro r w9 ⟨rfl, rfl⟩
  rw [g2]
  go_wp2_with fail
  go_ret
  exact ⟨rfl, K10.out⟩
end Go.Proofs.YtepmljcapobodaaDoor
