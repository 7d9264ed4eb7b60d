/- A pool of package palloc: New. -/
import Derived.Test.YtepmljcapobodaaDoorPalloc6
namespace Go.Proofs.YtepmljcapobodaaDoor
open Go.RowKit
set_option linter.unusedVariables false
set_option maxRecDepth 100000
theorem infoFree : (Tryd.prog.info? 120).map (fun i => (i.zero, i.size, i.bytes)) = some (some (.agg #[.pointer none, .int .i64 0, .int .i64 0]), 3, 24) := by kernel_rfl
theorem newAt_zero (w : World) (b : Nat) (L : List (Int × Int)) (T : TypeId) (w' : World) (h : w' = (w.alloc (.map #[] 0)).alloc (.cells #[.pointer (some ⟨b, 0, none⟩), .slice none 0 0, .map (some w.heap.size)] T)) : NewAt w w' b L 0 (.slice none 0 0) [] (fun _ => 0) := by
  have hs : (w.alloc (.map #[] 0)).heap.size = w.heap.size + 1 := World.size_alloc _ _
  have n := fun j u hu => new_at (w.alloc (.map #[] 0)) #[.pointer (some ⟨b, 0, none⟩), .slice none 0 0, .map (some w.heap.size)] T j u hu
  rw [hs, ← h] at n
  have nf := fun j => new_free (w.alloc (.map #[] 0)) #[.pointer (some ⟨b, 0, none⟩), .slice none 0 0, .map (some w.heap.size)] T j
  rw [hs, ← h] at nf
  refine ⟨n 0 _ rfl, n 1 _ rfl, n 2 _ rfl, nf, World.ownsRow_nil _ _ _ _, fun j hj => absurd hj (Nat.not_lt_zero j), fun j hj => absurd hj (Nat.not_lt_zero j), fun j hj => absurd hj (Nat.not_lt_zero j), fun j hj => absurd hj (Nat.not_lt_zero j), fun i j hi => absurd hi (Nat.not_lt_zero i), ?_, ?_⟩
  · rw [h]; exact (MapI.made w).next ((Keep.refl _ _).alloc _)
  · rw [h]; exact ((Keep.refl _ _).alloc _).alloc _
/-- Inside the loop over the ranges. -/
def NewL (w0 : World) (b n : Nat) (L : List (Int × Int)) (i : Value) (wr : World) : Prop :=
  ∃ (k : Nat) (v : Value) (xs : List Value) (s : Nat → Nat), i = .int .i64 k ∧ k ≤ L.length ∧ (∀ j, j < k → fits n L j ∧ ∀ i, i < j → ¬ meet L i j) ∧ NewAt w0 wr b L k v xs s
/-- Inside the loop over the ranges ahead. -/
def NewM (w0 wr : World) (L : List (Int × Int)) (k : Nat) (i : Value) (w : World) : Prop := ∃ t : Nat, i = .int .i64 t ∧ t ≤ k ∧ (∀ j, j < t → ¬ meet L j k) ∧ Keep nob wr w
def natL (L : List (Int × Int)) : List (Nat × Nat) := L.map fun x => (x.1.toNat, x.2.toNat)
theorem natL_get (L : List (Int × Int)) (j : Nat) : (natL L).getD j (0, 0) = ((L.getD j (0, 0)).1.toNat, (L.getD j (0, 0)).2.toNat) := by
  unfold natL
  rw [List.getD_eq_getElem?_getD, List.getD_eq_getElem?_getD, List.getElem?_map]
  cases L[j]? <;> rfl
theorem natL_len (L : List (Int × Int)) : (natL L).length = L.length := by unfold natL; simp
/-- What New answers. -/
def NewPost (w : World) (b mf n : Nat) (c : Nat → Int) (L : List (Int × Int)) (r : Ending) (w' : World) : Prop :=
  (¬ Valid n L ∧ r = .returned (.tuple #[.pointer none, .int .i64 2]) ∧ Keep nob w w') ∨
  (Valid n L ∧ ∃ B : PB, r = .returned (.tuple #[.pointer (some ⟨B.p, 0, none⟩), .int .i64 0]) ∧ Geo B ∧ B.b = b ∧ B.mf = mf ∧ B.n = n ∧ B.l = natL L ∧ B.lo = w.heap.size ∧ B.hi = w'.heap.size ∧ PoolAt w' B c (fun _ => 0) 0 ∧ Keep nob w w')
theorem NewAt.done {w wr : World} {b mf n : Nat} {c : Nat → Int} {L : List (Int × Int)} {v : Value} {xs : List Value} {s : Nat → Nat} (M : MemAt w b mf n c) (V : Valid n L) (N : NewAt w wr b L L.length v xs s) :
    NewPost w b mf n c L (.returned (.tuple #[.pointer (some ⟨w.heap.size + 1, 0, none⟩), .int .i64 0])) wr := by
  have V' := V
  obtain ⟨v1, v2, v3⟩ := V
  have row := N.row
  have pl := N.pl
  have hset := N.set
  obtain ⟨g, cap, rfl⟩ := Joins.ownsRow_form row v1
  have hg := row.lt g rfl
  have hp := World.block_lt_of_cell? _ _ N.pm
  have hp : w.heap.size + 1 < wr.heap.size := hp
  refine Or.inr ⟨V', ⟨w.heap.size + 1, g, w.heap.size, s, b, mf, n, w.heap.size, wr.heap.size, cap, natL L⟩, rfl, ?_, rfl, rfl, rfl, rfl, rfl, rfl, ?_, N.ok⟩
  · refine ⟨by simp only [natL_len]; omega, fun j hj => ?_, M.hi, fun i j x hi hj => ?_, by simp only; omega, by simp only; omega, by simp only; omega, fun j hj => ?_, fun i j hi hj h => ?_, by simp only; omega, ?_⟩
    · simp only [natL_len] at hj
      obtain ⟨f1, f2, f3, f4⟩ := (v3 j hj).1
      simp only [PB.fr, PB.mn, natL_get]
      omega
    · obtain ⟨hi1, hi2, hi3⟩ := hi
      obtain ⟨hj1, hj2, hj3⟩ := hj
      simp only [natL_len, PB.fr, PB.mn, natL_get] at *
      obtain ⟨f1, f2, f3, f4⟩ := (v3 i hi1).1
      obtain ⟨g1, g2, g3, g4⟩ := (v3 j hj1).1
      rcases Nat.lt_trichotomy i j with q | q | q
      · exact absurd ⟨by omega, by omega⟩ ((v3 j hj1).2 i q)
      · exact q
      · exact absurd ⟨by omega, by omega⟩ ((v3 i hi1).2 j q)
    · simp only [natL_len] at hj
      obtain ⟨h1, h2, W, h3, h4⟩ := hset j hj
      have := h3.blt
      refine ⟨by simp only; omega, this, by simp only; omega, fun e => h2 (by rw [show s j = g from e]; rfl), by simp only; omega⟩
    · simp only [natL_len] at hi hj
      exact N.inj i j hi hj h
    · exact ⟨M.blt, M.flt⟩
  · refine ⟨M.next N.ok, N.pm, ?_, N.pr, fun j hj => ?_, fun j hj => ?_, fun j hj => ?_, fun j hj => ?_, N.map⟩
    · rw [pl, natL_len]
    · simp only [natL_len] at hj
      have := row.cells rfl (j * 3) _ (N.x0 j hj)
      rw [Addr.add_mid, Nat.zero_add] at this
      exact this
    · simp only [natL_len] at hj
      have := row.cells rfl (j * 3 + 1) _ (N.x1 j hj)
      have f := (v3 j hj).1
      simp only [PB.fr, natL_get]
      rw [Int.toNat_of_nonneg f.1]
      rw [Addr.add_mid, Nat.zero_add] at this
      exact this
    · simp only [natL_len] at hj
      have := row.cells rfl (j * 3 + 2) _ (N.x2 j hj)
      have f := (v3 j hj).1
      simp only [PB.mn, natL_get]
      rw [Int.toNat_of_nonneg (by have := f.2.2.1; omega)]
      rw [Addr.add_mid, Nat.zero_add] at this
      exact this
    · simp only [natL_len] at hj
      obtain ⟨h1, h2, W, h3, h4⟩ := hset j hj
      refine ⟨W, h3, fun k => ?_⟩
      rw [h4 k, decide_eq_true_iff]
      simp only [PB.inr, PB.fr, PB.mn, natL_get, natL_len]
      constructor
      · intro h; exact ⟨⟨hj, by omega, by omega⟩, trivial⟩
      · intro h; obtain ⟨⟨-, h5, h6⟩, -⟩ := h; exact ⟨by omega, by omega⟩
set_option maxHeartbeats 2000000 in
theorem pool_new {w : World} {b mf n : Nat} {c : Nat → Int} (M : MemAt w b mf n c) (a : Addr) (cap : Nat) (L : List (Int × Int)) (hL : RangesAt w a L) (h1 : 1 ≤ L.length) (h8 : L.length ≤ 8) (hc : L.length ≤ cap) :
    Calls Tryd.prog 18 #[.pointer (some ⟨b, 0, none⟩), .slice (some a) L.length cap] w fun r w' => NewPost w b mf n c L r w' := by
  obtain ⟨gl, o, st⟩ := a
  obtain rfl : st = none := by have := hL.nost; simp at this; exact this
  replace M := Lib.hid M
  replace hL := Lib.hid hL
  have hn := M.out.lo
  have hn2 := M.out.hi
  have hmm := @run_makeMap Tryd.prog
  have t0 : ((n : Int) == 0) = false := by simp; omega
  have t1 : decide ((L.length : Int) < 1) = false := by simp; omega
  have t2 : decide ((8 : Int) < L.length) = false := by simp; omega
  go_enter Tryd.func18, Tryd.ntmps18
  go_wp2_with fail
  refine Calls.mono (frames_at M.out) ?_
  rintro r w1 ⟨rfl, rfl⟩
  go_wp2_with fail
  generalize hW : (w.alloc (.map #[] 0)).alloc _ = W0
  have Z := Lib.hid (newAt_zero w b L _ W0 hW.symm)
  clear hW
  go_wp2_with fail
  go_loopw [30] (fun i wr => NewL w b n L i wr) (fun i _ => (L.length - intOf i).toNat)
  case atStart => exact ⟨0, _, _, _, rfl, Nat.zero_le _, fun j hj => absurd hj (Nat.not_lt_zero j), Z.out⟩
  case round =>
    clear Z
    obtain ⟨k, v, xs, s, rfl, hk, hv, N⟩ := hrel
    replace N := Lib.hid N
    replace hv := Lib.hid hv
    by_cases hlt : k < L.length
    · have t3 : decide ((k : Int) < L.length) = true := by simp; omega
      have l0 := (N.out.ok).some (hL.out.fr k hlt) (fun x => x)
      have l1 := (N.out.ok).some (hL.out.mn k hlt) (fun x => x)
      simp only at l0 l1
      obtain ⟨x, hx⟩ : ∃ x, x = (L.getD k (0, 0)).1 := ⟨_, rfl⟩
      obtain ⟨m, hm⟩ : ∃ m, m = (L.getD k (0, 0)).2 := ⟨_, rfl⟩
      replace hx := Lib.hid hx
      replace hm := Lib.hid hm
      rw [← hx.out] at l0
      rw [← hm.out] at l1
      have hnb : ∀ w' : World, Keep nob w w' → Calls Tryd.prog 51 #[.pointer (some ⟨b, 0, none⟩)] w' fun r w'' => r = .returned (.int .i64 n) ∧ w'' = w' := fun w' K => (frames_at (M.out.next K)).mono (fun _ _ q => ⟨q.1, q.2.symm⟩)
      replace hnb := Lib.hid hnb
      go_wp2_with fail
      by_cases hf : fits n L k
      · have f1 : 0 ≤ x ∧ x < n ∧ 1 ≤ m ∧ m ≤ n - x := by rw [hx.out, hm.out]; exact hf
        have s1 : decide (x < 0) = false := by simp; omega
        have s2 : decide ((n : Int) ≤ x) = false := by simp; omega
        have s3 : decide (m < 1) = false := by simp; omega
        have s4 : decide ((n : Int) - x < m) = false := by simp; omega
        obtain ⟨f2, f3, f4, f5⟩ := f1
        have k1 : k ≤ cap := by omega
        have k0 : (cap = 0) = False := by simp; omega
        replace hf := Lib.hid hf
        go_quiet ((go_at_call 51; first | exact Calls.quiet_of_same (hnb.out _ (N.out.ok.alloc _)) | exact Calls.quiet_of_same (hnb.out _ (N.out.ok.alloc _).drew) | exact Calls.quiet_of_same (hnb.out _ ((N.out.ok.alloc _).drewN _))))
        go_wp2_with fail
        obtain ⟨X, rfl⟩ : ∃ X : Nat, x = X := ⟨x.toNat, by omega⟩
        obtain ⟨Y, rfl⟩ : ∃ Y : Nat, m = Y := ⟨m.toNat, by omega⟩
        have f6 : X + Y ≤ 1024 := by omega
        generalize hW1 : World.drewN _ _ = W1
        have K1 : Keep nob wr W1 := by rw [← hW1]; exact ((Keep.refl _ _).alloc _).drewN _
        have r0 : W1.cell? ⟨wr.heap.size, 0, none⟩ = some (.int .i64 X) := by rw [← hW1]; exact new_at _ _ _ 0 _ rfl
        have r1 : W1.cell? ⟨wr.heap.size, 1, none⟩ = some (.int .i64 Y) := by rw [← hW1]; exact new_at _ _ _ 1 _ rfl
        clear hW1
        replace K1 := Lib.hid K1
        generalize wr.heap.size = pr at *
        go_loopw [64] (fun i w5 => NewM w W1 L k i w5) (fun i _ => (k - intOf i).toNat)
        case atStart => exact ⟨0, rfl, Nat.zero_le _, fun j hj => absurd hj (Nat.not_lt_zero j), Keep.refl _ _⟩
        case round =>
          obtain ⟨t, rfl, ht, hmt, K5⟩ := hrel
          have q0 := K5.some r0 (fun x => x)
          have q1 := K5.some r1 (fun x => x)
          have q2 : pr < wr.heap.size := World.block_lt_of_cell? _ _ q0
          clear r0 r1
          replace K5 := Lib.hid K5
          replace hmt := Lib.hid hmt
          by_cases htk : t < k
          · have u1 : decide ((t : Int) < k) = true := by simp; omega
            have z0 := K5.out.some (K1.out.some (N.out.ok.some (hL.out.fr t (by omega)) (fun x => x)) (fun x => x)) (fun x => x)
            have z1 := K5.out.some (K1.out.some (N.out.ok.some (hL.out.mn t (by omega)) (fun x => x)) (fun x => x)) (fun x => x)
            simp only at z0 z1
            obtain ⟨g1, g2, g3, g4⟩ := (hv.out t htk).1
            obtain ⟨x', hx'⟩ : ∃ x', x' = (L.getD t (0, 0)).1 := ⟨_, rfl⟩
            obtain ⟨m', hm'⟩ : ∃ m', m' = (L.getD t (0, 0)).2 := ⟨_, rfl⟩
            rw [← hx'] at z0 g1 g2 g4
            rw [← hm'] at z1 g3 g4
            replace hx' := Lib.hid hx'
            replace hm' := Lib.hid hm'
            obtain ⟨X', rfl⟩ : ∃ X : Nat, x' = X := ⟨x'.toNat, by omega⟩
            obtain ⟨Y', rfl⟩ : ∃ Y : Nat, m' = Y := ⟨m'.toNat, by omega⟩
            have f7 : X' + Y' ≤ 1024 := by omega
            by_cases e1 : X < X' + Y'
            · by_cases e2 : X' < X + Y
              · have u2 : decide ((X : Int) < X' + Y') = true := by simp; omega
                have u3 : decide ((X' : Int) < X + Y) = true := by simp; omega
                go_wp2_with fail
                go_ret2
                exact Or.inl ⟨fun V => (V.2.2 k (by omega)).2 t htk (by unfold meet; rw [← hx'.out, ← hm'.out, ← hx.out, ← hm.out]; omega), rfl, (((N.out.ok.trans K1.out (fun _ _ x => x)).trans K5.out (fun _ _ x => x)).alloc _)⟩
              · have u2 : decide ((X : Int) < X' + Y') = true := by simp; omega
                have u3 : decide ((X' : Int) < X + Y) = false := by simp; omega
                go_wp2_with fail
                go_roundw
                case rel =>
                  refine ⟨t + 1, by go_num, by omega, fun j hj => ?_, K5.out.alloc _⟩
                  by_cases e : j = t
                  · rw [e]; unfold meet; rw [← hx'.out, ← hm'.out, ← hx.out, ← hm.out]; omega
                  · exact hmt.out j (by omega)
                case measure => simp [intOf]; omega
            · have u2 : decide ((X : Int) < X' + Y') = false := by simp; omega
              go_wp2_with fail
              go_roundw
              case rel =>
                refine ⟨t + 1, by go_num, by omega, fun j hj => ?_, K5.out.alloc _⟩
                by_cases e : j = t
                · rw [e]; unfold meet; rw [← hx'.out, ← hm'.out, ← hx.out, ← hm.out]; omega
                · exact hmt.out j (by omega)
              case measure => simp [intOf]; omega
          · have u1 : decide ((t : Int) < k) = false := by simp; omega
            obtain rfl : t = k := by omega
            go_wp2_with fail
            refine Calls.mono (set_new X Y (by omega) (by omega) wr) ?_
            rintro r w6 ⟨W, rfl, S6, R6, K6⟩
            replace S6 := Lib.hid S6
            replace R6 := Lib.hid R6
            replace K6 := Lib.hid K6
            have N5 := N.out.next (K1.out.trans K5.out (fun _ _ x => x))
            have N6 := N5.next K6.out
            have p6 := N6.pl
            have z6 := N6.pf 1
            have b6 : w.heap.size + 1 < w6.heap.size := World.block_lt_of_cell? _ _ p6
            have y0 := K6.out.some q0 (fun x => x)
            have y1 := K6.out.some q1 (fun x => x)
            have y2 : pr < w6.heap.size := World.block_lt_of_cell? _ _ y0
            replace N5 := Lib.hid N5
            replace N6 := Lib.hid N6
            obtain ⟨i0, hi, hz0, hz1, hz2⟩ := info_parts infoFree
            go_wp2_with fail
            go_region_law (first | (refine step_append_own rfl (.tmp 102) (.tmp 106) 39 rfl 120 i0 _ 3 24 Tryd.underlying39 hi hz0 hz1 hz2 rfl (by decide) (w.heap.size + 2) v _ xs (by simp [Act.eval]) (own_next N6.out.row ((Keep.refl _ _).alloc _).drew) (by
              show _ ≤ (w6.alloc _).heap.size
              rw [World.size_alloc]; omega) ⟨w6.heap.size, 0, none⟩ 1 1 [.pointer (some ⟨wr.heap.size, 0, none⟩), .int .i64 X, .int .i64 Y] (by simp [Act.eval]) rfl (by
                intro j u hu
                rw [Addr.add_mid, Nat.zero_add, drew_cell]
                exact new_at _ _ _ j u hu) (by simp [Value.oneCell']) (by unfold maxLen; omega) (by omega) ?_; intro v' w8 hown hg hnil; obtain ⟨g, cap', rfl⟩ := Joins.ownsRow_form hown (by omega); have hown' := Lib.hid hown; have hg' := Lib.hid hg; have kk := keep_of_own (own_next N6.out.row ((Keep.refl _ _).alloc _).drew) hg; have p8 := kk.some (((N6.out.next ((Keep.refl _ _).alloc _).drew)).pl) (fun e => by have e : w.heap.size + 2 ≤ w.heap.size + 1 := e; omega); have z8 := (kk.frozen (p := ⟨w.heap.size + 1, 1, none⟩) (World.block_lt_of_cell? _ _ (((N6.out.next ((Keep.refl _ _).alloc _).drew)).pl)) (fun e => by have e : w.heap.size + 2 ≤ w.heap.size + 1 := e; omega)).trans (((N6.out.next ((Keep.refl _ _).alloc _).drew)).pf 1); clear hown hg hnil kk))
            all_goals
              go_wp2_with fail
              go_roundw
              case rel =>
                refine ⟨t + 1, _, _, _, by go_num, by omega, fun j hj => ?_, NewAt.push N5.out K6.out S6.out ?_ ((Keep.refl _ _).alloc _).drew ?_ hg'.out⟩
                · by_cases e : j = t
                  · rw [e]; exact ⟨hf.out, hmt.out⟩
                  · exact hv.out j (by omega)
                · rw [← hx.out, ← hm.out]; exact R6.out
                · rw [← hx.out, ← hm.out]; exact hown'.out
              case measure => simp [intOf]; omega
      · replace hf := Lib.hid hf
        by_cases q1 : x < 0
        · have s1 : decide (x < 0) = true := by simpa using q1
          clear q1
          go_quiet ((go_at_call 51; first | exact Calls.quiet_of_same (hnb.out _ (N.out.ok.alloc _)) | exact Calls.quiet_of_same (hnb.out _ (N.out.ok.alloc _).drew) | exact Calls.quiet_of_same (hnb.out _ ((N.out.ok.alloc _).drewN _))))
          go_wp2_with fail
          go_ret2
          exact Or.inl ⟨fun V => hf.out (V.2.2 k (by omega)).1, rfl, (N.out.ok.alloc _).drewN _⟩
        · have s1 : decide (x < 0) = false := by simpa using q1
          by_cases q2 : (n : Int) ≤ x
          · have s2 : decide ((n : Int) ≤ x) = true := by simpa using q2
            clear q1 q2
            go_quiet ((go_at_call 51; first | exact Calls.quiet_of_same (hnb.out _ (N.out.ok.alloc _)) | exact Calls.quiet_of_same (hnb.out _ (N.out.ok.alloc _).drew) | exact Calls.quiet_of_same (hnb.out _ ((N.out.ok.alloc _).drewN _))))
            go_wp2_with fail
            go_ret2
            exact Or.inl ⟨fun V => hf.out (V.2.2 k (by omega)).1, rfl, (N.out.ok.alloc _).drewN _⟩
          · have s2 : decide ((n : Int) ≤ x) = false := by simpa using q2
            by_cases q3 : m < 1
            · have s3 : decide (m < 1) = true := by simpa using q3
              clear q1 q2 q3
              go_quiet ((go_at_call 51; first | exact Calls.quiet_of_same (hnb.out _ (N.out.ok.alloc _)) | exact Calls.quiet_of_same (hnb.out _ (N.out.ok.alloc _).drew) | exact Calls.quiet_of_same (hnb.out _ ((N.out.ok.alloc _).drewN _))))
              go_wp2_with fail
              go_ret2
              exact Or.inl ⟨fun V => hf.out (V.2.2 k (by omega)).1, rfl, (N.out.ok.alloc _).drewN _⟩
            · have s3 : decide (m < 1) = false := by simpa using q3
              have q4 : (n : Int) - x < m := by
                have := hf.out
                unfold fits at this
                rw [← hx.out, ← hm.out] at this
                omega
              have s4 : decide ((n : Int) - x < m) = true := by simpa using q4
              have b1 : 0 ≤ x := by omega
              have b2 : x < 1024 := by omega
              clear q1 q2 q3 q4
              go_quiet ((go_at_call 51; first | exact Calls.quiet_of_same (hnb.out _ (N.out.ok.alloc _)) | exact Calls.quiet_of_same (hnb.out _ (N.out.ok.alloc _).drew) | exact Calls.quiet_of_same (hnb.out _ ((N.out.ok.alloc _).drewN _))))
              go_wp2_with fail
              go_ret2
              exact Or.inl ⟨fun V => hf.out (V.2.2 k (by omega)).1, rfl, (N.out.ok.alloc _).drewN _⟩
    · have t3 : decide ((k : Int) < L.length) = false := by simp; omega
      obtain rfl : k = L.length := by omega
      go_wp2_with fail
      go_ret2
      exact NewAt.done M.out ⟨h1, h8, hv.out⟩ N.out
end Go.Proofs.YtepmljcapobodaaDoor
