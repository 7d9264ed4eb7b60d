/- The example of layer 4; a trap's frame, words, and frames that are handed in. -/
import Derived.Test.YtkkkmaigcnpmeaaTrap4
import Derived.Test.YtkkkmaigcnpmeaaArgs
import Derived.Test.YtkkkmaigcnpmeaaWordLaws
namespace Go.Proofs.Ytkkkmaigcnpmeaa
open Go.ChangeShapes Go.WideShapes Go.ChangeAt Go.RowKit Go.Deep Go.Joins
set_option linter.unusedVariables false
set_option maxRecDepth 100000
set_option maxHeartbeats 800000 in
theorem awake04 (w : World) : Calls Try.prog 50 #[] w fun e w' => e = .returned (.bool true) ∧ Keep nob w w' := by
  go_enter Try.func50, Try.ntmps50
  go_wp2_with fail
  refine Calls.mono (new_ok _ 2 (by decide) (by decide)) ?_
  rintro e w1 ⟨b, f, rfl, M1, hb, hf, K1⟩
  have SV := Lib.hid (fun W (M : MemAt W b f 2 (fun _ => 0)) => save_in M 1 2 ⟨5, 0, 0, 0, 0, 0, 0, 0, 1, 0⟩ (by unfold Trap.fine Trap.list; decide) (by decide))
  have SN := Lib.hid (fun W c (M : MemAt W b f 2 c) => save_out M 1 3 ⟨5, 0, 0, 0, 0, 0, 0, 0, 1, 0⟩ (by decide))
  unfold Trap.val Trap.cells at SV SN
  simp only [] at SV SN
  have M1 := Lib.hid M1
  have A1 := Lib.hid K1
  clear K1
  go_wp2_with fail
  have hfb := Lib.hid (show ¬ only f w1.heap.size by have := M1.out.flt; unfold only; omega)
  refine Calls.mono (SV.out _ (M1.out.next ((Keep.refl _ _).alloc _))) ?_
  rintro e w2 ⟨rfl, M2, K2⟩
  have c0 := K2.some (p := ⟨w1.heap.size, 0, none⟩) (v := .int .u32 5) (new_at _ _ _ 0 _ rfl) hfb.out
  have c1 := K2.some (p := ⟨w1.heap.size, 1, none⟩) (v := .int .u32 0) (new_at _ _ _ 1 _ rfl) hfb.out
  have c2 := K2.some (p := ⟨w1.heap.size, 2, none⟩) (v := .int .u32 0) (new_at _ _ _ 2 _ rfl) hfb.out
  have c3 := K2.some (p := ⟨w1.heap.size, 3, none⟩) (v := .int .u32 0) (new_at _ _ _ 3 _ rfl) hfb.out
  have c4 := K2.some (p := ⟨w1.heap.size, 4, none⟩) (v := .int .u32 0) (new_at _ _ _ 4 _ rfl) hfb.out
  have c5 := K2.some (p := ⟨w1.heap.size, 5, none⟩) (v := .int .u32 0) (new_at _ _ _ 5 _ rfl) hfb.out
  have c6 := K2.some (p := ⟨w1.heap.size, 6, none⟩) (v := .int .u32 0) (new_at _ _ _ 6 _ rfl) hfb.out
  have c7 := K2.some (p := ⟨w1.heap.size, 7, none⟩) (v := .int .u32 0) (new_at _ _ _ 7 _ rfl) hfb.out
  have c8 := K2.some (p := ⟨w1.heap.size, 8, none⟩) (v := .int .u32 1) (new_at _ _ _ 8 _ rfl) hfb.out
  have c9 := K2.some (p := ⟨w1.heap.size, 9, none⟩) (v := .int .u32 0) (new_at _ _ _ 9 _ rfl) hfb.out
  have A2 := (A1.out.alloc _).nob.trans K2 (fun q hq e => e)
  have A2 := Lib.hid (A2.mono (T := nob) (fun q hq e => by have e : q = f := e; omega))
  clear K2 SV
  go_wp2_with fail
  refine Calls.mono (read_in M2 1 20 (by decide) (by decide) (by decide) (by decide)) ?_
  have hv1 : span (fun _ => 0) ((1 : Int).toNat * 32 + (2 : Int).toNat * 10) (Trap.list ⟨5, 0, 0, 0, 0, 0, 0, 0, 1, 0⟩) 10 ((1 : Int).toNat * 32 + (20 : Int).toNat) = 5 := by decide
  rw [hv1]
  clear hv1
  rintro e w3 ⟨rfl, K3⟩
  have M3 := M2.next K3
  have A3 := Lib.hid (A2.out.then K3)
  have c0 := K3.some c0 (fun x => x)
  have c1 := K3.some c1 (fun x => x)
  have c2 := K3.some c2 (fun x => x)
  have c3 := K3.some c3 (fun x => x)
  have c4 := K3.some c4 (fun x => x)
  have c5 := K3.some c5 (fun x => x)
  have c6 := K3.some c6 (fun x => x)
  have c7 := K3.some c7 (fun x => x)
  have c8 := K3.some c8 (fun x => x)
  have c9 := K3.some c9 (fun x => x)
  clear K3 M2 A2
  go_wp2_with fail
  refine Calls.mono (read_in M3 1 28 (by decide) (by decide) (by decide) (by decide)) ?_
  have hv1 : span (fun _ => 0) ((1 : Int).toNat * 32 + (2 : Int).toNat * 10) (Trap.list ⟨5, 0, 0, 0, 0, 0, 0, 0, 1, 0⟩) 10 ((1 : Int).toNat * 32 + (28 : Int).toNat) = 1 := by decide
  rw [hv1]
  clear hv1
  rintro e w4 ⟨rfl, K4⟩
  have M4 := Lib.hid (M3.next K4)
  have A4 := Lib.hid (A3.out.then K4)
  have c0 := K4.some c0 (fun x => x)
  have c1 := K4.some c1 (fun x => x)
  have c2 := K4.some c2 (fun x => x)
  have c3 := K4.some c3 (fun x => x)
  have c4 := K4.some c4 (fun x => x)
  have c5 := K4.some c5 (fun x => x)
  have c6 := K4.some c6 (fun x => x)
  have c7 := K4.some c7 (fun x => x)
  have c8 := K4.some c8 (fun x => x)
  have c9 := K4.some c9 (fun x => x)
  clear K4 M3 A3
  go_wp2_with fail
  refine Calls.mono (SN.out _ _ M4.out) ?_
  rintro e w5 ⟨rfl, K5⟩
  go_wp2_with fail
  go_ret
  exact ⟨rfl, A4.out.then K5⟩

/-! ### What is handed in -/
def TrapIs (v : Value) (t : Trap) : Prop := v = t.val ∧ t.fine
theorem cellsTrap : Try.prog.cellsOf 76 = 10 := by kernel_rfl
theorem cellsArr : Try.prog.cellsOf 74 = 8 := by kernel_rfl
theorem cellsWord1 : Try.prog.cellsOf 23 = 1 := by kernel_rfl
theorem ten {cs : List Value} (h : cs.length = 10) : ∃ a b c d e f g h' i j, cs = [a, b, c, d, e, f, g, h', i, j] := by
  match cs, h with
  | [a, b, c, d, e, f, g, h', i, j], _ => exact ⟨a, b, c, d, e, f, g, h', i, j, rfl⟩
section
variable {H : Type} {enc : TypeId × Value → H} {w : World} {spare : Nat → Bool} {held : Bool}
theorem read_word {n base : Nat} {c : Value} {y : Option (DataW H × List MemPlace)} {x : DataW H × List MemPlace} (h : DataW.trod enc Try.prog w base spare held n 23 [c] = y) (hy : y = some x) : ∃ k : Int, c = .int .u32 k ∧ 0 ≤ k ∧ k < 4294967296 := by
  rw [hy] at h
  obtain ⟨k, e, _, wf⟩ := DataW.trod_int Try.underlying23 h
  injection e with e
  have := bounds_u32 wf
  exact ⟨k, e, by omega, by omega⟩
theorem read_trap (n base : Nat) (cs : List Value) (y : DataW H × List MemPlace) (h : DataW.trod enc Try.prog w base spare held n 76 cs = some y) : ∃ t : Trap, t.fine ∧ cs = t.cells.toList := by
  obtain ⟨xs, m, _, _, hl, hx, hf⟩ := DataW.trod_struct Try.underlying76 h
  rw [cellsTrap] at hl
  obtain ⟨c0, c1, c2, c3, c4, c5, c6, c7, c8, c9, rfl⟩ := ten hl
  have h0 : DataW.trod enc Try.prog w base spare held m 74 ([c0, c1, c2, c3, c4, c5, c6, c7, c8, c9].take (Try.prog.cellsOf 74)) = xs[0]? := hf 0 _ rfl
  have h1 : DataW.trod enc Try.prog w base spare held m 23 ([c8, c9].take (Try.prog.cellsOf 23)) = xs[1]? := hf 1 _ rfl
  have h2 : DataW.trod enc Try.prog w base spare held m 23 ([c9].take (Try.prog.cellsOf 23)) = xs[2]? := hf 2 _ rfl
  rw [cellsArr] at h0
  rw [cellsWord1] at h1 h2
  have hx : xs.length = 3 := hx
  rw [List.getElem?_eq_getElem (by omega)] at h0 h1 h2
  obtain ⟨zs, m2, g1, g2, g3, g4, g5⟩ := DataW.trod_array Try.underlying74 h0
  rw [cellsWord1] at g5
  have d0 : DataW.trod enc Try.prog w base spare held m2 23 [c0] = zs[0]? := g5 0 (by decide)
  have d1 : DataW.trod enc Try.prog w base spare held m2 23 [c1] = zs[1]? := g5 1 (by decide)
  have d2 : DataW.trod enc Try.prog w base spare held m2 23 [c2] = zs[2]? := g5 2 (by decide)
  have d3 : DataW.trod enc Try.prog w base spare held m2 23 [c3] = zs[3]? := g5 3 (by decide)
  have d4 : DataW.trod enc Try.prog w base spare held m2 23 [c4] = zs[4]? := g5 4 (by decide)
  have d5 : DataW.trod enc Try.prog w base spare held m2 23 [c5] = zs[5]? := g5 5 (by decide)
  have d6 : DataW.trod enc Try.prog w base spare held m2 23 [c6] = zs[6]? := g5 6 (by decide)
  have d7 : DataW.trod enc Try.prog w base spare held m2 23 [c7] = zs[7]? := g5 7 (by decide)
  rw [List.getElem?_eq_getElem (by omega)] at d0 d1 d2 d3 d4 d5 d6 d7
  obtain ⟨k0, rfl, a0, b0⟩ := read_word d0 rfl
  obtain ⟨k1, rfl, a1, b1⟩ := read_word d1 rfl
  obtain ⟨k2, rfl, a2, b2⟩ := read_word d2 rfl
  obtain ⟨k3, rfl, a3, b3⟩ := read_word d3 rfl
  obtain ⟨k4, rfl, a4, b4⟩ := read_word d4 rfl
  obtain ⟨k5, rfl, a5, b5⟩ := read_word d5 rfl
  obtain ⟨k6, rfl, a6, b6⟩ := read_word d6 rfl
  obtain ⟨k7, rfl, a7, b7⟩ := read_word d7 rfl
  obtain ⟨k8, rfl, a8, b8⟩ := read_word h1 rfl
  obtain ⟨k9, rfl, a9, b9⟩ := read_word h2 rfl
  refine ⟨⟨k0, k1, k2, k3, k4, k5, k6, k7, k8, k9⟩, ?_, rfl⟩
  intro x hx
  simp only [Trap.list, List.mem_cons, List.not_mem_nil, or_false] at hx
  rcases hx with rfl | rfl | rfl | rfl | rfl | rfl | rfl | rfl | rfl | rfl <;> exact ⟨‹_›, ‹_›⟩
theorem open_trap {v : Value} {d : DataW H} {p : List MemPlace} {r : Reach} {b0 base : Nat}
    (hv : Value.okWide Try.prog w r b0 76 v) (h : DataW.Trod enc Try.prog w base spare held 76 v d p) : ∃ t : Trap, TrapIs v t := by
  obtain ⟨cs, rfl, hsz⟩ := okWide_struct Try.underlying76 hv
  obtain ⟨n, hn⟩ := h
  obtain ⟨t, ht, e⟩ := read_trap n base _ _ hn
  exact ⟨t, congrArg Value.agg (Array.toList_inj.1 e), ht⟩
/-- The slice v holds the words l, as one that was handed in. -/
def WordsArg (w : World) (v : Value) (l : List Int) : Prop := WordsC w v l ∧ l.length ≤ 9223372036854775807 ∧ ∀ x ∈ l, 0 ≤ x ∧ x < 4294967296
theorem open_words {v : Value} {d : DataW H} {p : List MemPlace} {r : Reach} {b0 base : Nat}
    (hv : Value.okWide Try.prog w r b0 37 v) (h : DataW.Trod enc Try.prog w base spare held 37 v d p) : ∃ l : List Int, WordsArg w v l := by
  obtain ⟨a0, len, cap, rfl⟩ := okWide_slice Try.underlying37 hv
  obtain ⟨fuel, hf⟩ := h
  rcases open_ints Try.underlying37 Try.underlying23 cellsWord1 hf with ⟨h1, h2⟩ | ⟨a, len', cap', zs, hcs, hb, hl, hm, hlen, hx, hc, hwf⟩
  · simp only [Value.cells, List.cons.injEq, and_true] at h1
    injection h1 with h1 h2 h3
    subst h1; subst h2; subst h3
    exact ⟨[], ⟨none, 0, rfl, Nat.le_refl _, fun h => absurd rfl h⟩, by decide, fun x hx => by simp at hx⟩
  · simp only [Value.cells, List.cons.injEq, and_true] at hcs
    injection hcs with h1 h2 h3
    subst h1; subst h2; subst h3
    have hle : len ≤ zs.length := by rw [hlen]; split <;> omega
    have hlt : (zs.take len).length = len := by rw [List.length_take]; omega
    unfold maxLen at hm
    refine ⟨zs.take len, ⟨some a, cap, by rw [hlt], by omega, fun hne => ?_⟩, by omega, fun x hx => ?_⟩
    · have hpos : 0 < len := by
        rcases Nat.eq_zero_or_pos len with e | e
        · subst e; exact absurd (List.take_zero) hne
        · exact e
      have hspot : a.spot = none := add_plain (n := 0) (hc 0 (by omega)) (Or.inl rfl)
      cases a with
      | mk b o s =>
        simp only at hspot
        subst hspot
        refine ⟨b, o, rfl, fun k x hk => ?_⟩
        have hkl : k < len := by have := (List.getElem?_eq_some_iff.1 hk).1; omega
        have := hc k (by omega)
        rw [Addr.add_mid] at this
        rw [this]
        rw [List.getElem?_take, if_pos hkl] at hk
        rw [List.getD_eq_getElem?_getD, hk]
        rfl
    · have := bounds_u32 (hwf x (List.mem_of_mem_take hx))
      omega
/-- The slice v holds the frames l. -/
def TrapsAt (w : World) (v : Value) (l : List Trap) : Prop :=
  ∃ a cap, v = .slice a l.length cap ∧ l.length ≤ 9223372036854775807 ∧ (∀ t ∈ l, t.fine) ∧ (l ≠ [] → ∃ g o, a = some ⟨g, o, none⟩ ∧ ∀ (k : Nat) (t : Trap), l[k]? = some t → ∀ (j : Nat) (u : Value), t.cells.toList[j]? = some u → w.cell? ⟨g, o + (k * 10 + j), none⟩ = some u)
theorem TrapsAt.next {w w' : World} {v : Value} {l : List Trap} (h : TrapsAt w v l) (k : Keep nob w w') : TrapsAt w' v l := by
  obtain ⟨a, cap, hv, hm, hf, h⟩ := h
  exact ⟨a, cap, hv, hm, hf, fun hl => let ⟨g, o, h1, h2⟩ := h hl; ⟨g, o, h1, fun i t hi j u hu => k.some (h2 i t hi j u hu) (fun x => x)⟩⟩
theorem open_traps {v : Value} {d : DataW H} {p : List MemPlace} {r : Reach} {b0 base : Nat}
    (hv : Value.okWide Try.prog w r b0 87 v) (h : DataW.Trod enc Try.prog w base spare held 87 v d p) : ∃ l : List Trap, TrapsAt w v l := by
  obtain ⟨l, ⟨a, cap, hv, hm, hc⟩, hl⟩ := open_rows (N := 10) (fun cs => ∃ t : Trap, t.fine ∧ cs = t.cells.toList) Try.underlying87 cellsTrap (by decide) (fun n cs y hy => read_trap n base cs y hy) hv h
  obtain ⟨ls, hlen, hls⟩ := list_of (n := l.length) (R := fun i (t : Trap) => t.fine ∧ l[i]? = some t.cells.toList) (fun i hi => by
    obtain ⟨_, o, ho, e⟩ := hl l[i] (List.getElem_mem hi)
    exact ⟨o, ho, by rw [List.getElem?_eq_getElem hi, e]⟩)
  refine ⟨ls, a, cap, by rw [hlen]; exact hv, by omega, fun o ho => ?_, fun hne => ?_⟩
  · obtain ⟨k, hk⟩ := List.mem_iff_getElem?.1 ho
    exact (hls k o hk).1
  · obtain ⟨g, o, h1, h2⟩ := hc (by intro e; rw [e] at hlen; exact hne (List.eq_nil_of_length_eq_zero hlen))
    exact ⟨g, o, h1, fun k t hk j u hu => h2 k _ (hls k t hk).2 j u hu⟩
end
end Go.Proofs.Ytkkkmaigcnpmeaa
