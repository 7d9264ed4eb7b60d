/- The memories of layer 3's statements: words that are written, on a memory and on the reference's. -/
import Derived.Test.YtkkkmaigcnpmeaaRefWalk2
import Derived.Test.YtkkkmaigcnpmeaaPlay3
import Derived.Test.YtkkkmaigcnpmeaaWordLaws
import Derived.StillTailTactics
namespace Go.Proofs.Ytkkkmaigcnpmeaa
open Go.ChangeShapes Go.WideShapes Go.ChangeAt Go.RowKit Go.Deep
set_option linter.unusedVariables false
set_option maxRecDepth 100000
/-- A word at a place. -/
structure Cel where
  a : Int
  b : Int
  x : Int
def Cel.cells (o : Cel) : List Value := [.int .i64 o.a, .int .i64 o.b, .int .u32 o.x]
def Cel.fine (o : Cel) : Prop := (0 ≤ o.x ∧ o.x < 4294967296)
def wrt (n : Nat) (c : Nat → Int) (o : Cel) : Nat → Int := if inR n o.a o.b then upd c (o.a.toNat * 32 + o.b.toNat) o.x else c
/-- What a memory of n frames has behind the words l. -/
def memOf (n : Nat) (l : List Cel) : Nat → Int := l.foldl (wrt n) (fun _ => 0)
theorem memOf_snoc (n : Nat) (l : List Cel) (k : Nat) (h : k < l.length) : memOf n (l.take (k + 1)) = wrt n (memOf n (l.take k)) l[k] := by
  unfold memOf
  rw [List.take_succ_eq_append_getElem h, List.foldl_append]
  rfl
section
variable {H : Type} {enc : TypeId × Value → H} {w : World} {spare : Nat → Bool} {held : Bool}
theorem cellsCel : Try.prog.cellsOf 126 = 3 := by kernel_rfl
theorem three_ {cs : List Value} (h : cs.length = 3) : ∃ a b c, cs = [a, b, c] := by
  match cs, h with
  | [a, b, c], _ => exact ⟨a, b, c, rfl⟩
theorem read_cel (n base : Nat) (cs : List Value) (y : DataW H × List MemPlace) (h : DataW.trod enc Try.prog w base spare held n 126 cs = some y) : ∃ o : Cel, o.fine ∧ cs = o.cells := by
  obtain ⟨xs, m, _, _, hl, hx, hf⟩ := DataW.trod_struct Try.underlying126 h
  rw [cellsCel] at hl
  obtain ⟨c0, c1, c2, rfl⟩ := three_ hl
  have h0 : DataW.trod enc Try.prog w base spare held m 3 ([c0, c1, c2].take (Try.prog.cellsOf 3)) = xs[0]? := hf 0 _ rfl
  have h1 : DataW.trod enc Try.prog w base spare held m 3 ([c1, c2].take (Try.prog.cellsOf 3)) = xs[1]? := hf 1 _ rfl
  have h2 : DataW.trod enc Try.prog w base spare held m 23 ([c2].take (Try.prog.cellsOf 23)) = xs[2]? := hf 2 _ rfl
  rw [cellsInt] at h0 h1
  rw [cellsWord] at h2
  have hx : xs.length = 3 := hx
  rw [List.getElem?_eq_getElem (by omega)] at h0 h1 h2
  obtain ⟨n0, e0, _, _⟩ := DataW.trod_int Try.underlying3 h0
  obtain ⟨n1, e1, _, _⟩ := DataW.trod_int Try.underlying3 h1
  obtain ⟨n2, e2, _, wf⟩ := DataW.trod_int Try.underlying23 h2
  injection e0 with e0; injection e1 with e1; injection e2 with e2
  subst e0; subst e1; subst e2
  have := bounds_u32 wf
  exact ⟨⟨n0, n1, n2⟩, by unfold Cel.fine; simp only; omega, rfl⟩
/-- The slice v holds the words l. -/
def CelsAt (w : World) (v : Value) (l : List Cel) : Prop :=
  ∃ a cap, v = .slice a l.length cap ∧ l.length ≤ 9223372036854775807 ∧ (∀ o ∈ l, o.fine) ∧ (l ≠ [] → ∃ g o, a = some ⟨g, o, none⟩ ∧ ∀ (k : Nat) (c : Cel), l[k]? = some c →
    w.cell? ⟨g, o + k * 3, none⟩ = some (.int .i64 c.a) ∧ w.cell? ⟨g, o + k * 3 + 1, none⟩ = some (.int .i64 c.b) ∧ w.cell? ⟨g, o + k * 3 + 2, none⟩ = some (.int .u32 c.x))
theorem CelsAt.next {w w' : World} {v : Value} {l : List Cel} (h : CelsAt w v l) (k : Keep nob w w') : CelsAt w' v l := by
  obtain ⟨a, cap, hv, hm, hf, h⟩ := h
  exact ⟨a, cap, hv, hm, hf, fun hl => let ⟨g, o, h1, h2⟩ := h hl; ⟨g, o, h1, fun i c hi => let ⟨q0, q1, q2⟩ := h2 i c hi; ⟨k.some q0 (fun x => x), k.some q1 (fun x => x), k.some q2 (fun x => x)⟩⟩⟩
theorem open_cels {v : Value} {d : DataW H} {p : List MemPlace} {r : Reach} {b0 base : Nat}
    (hv : Value.okWide Try.prog w r b0 90 v) (h : DataW.Trod enc Try.prog w base spare held 90 v d p) : ∃ l : List Cel, CelsAt w v l := by
  obtain ⟨l, ⟨a, cap, hv, hm, hc⟩, hl⟩ := open_rows (N := 3) (fun cs => ∃ o : Cel, o.fine ∧ cs = o.cells) Try.underlying90 cellsCel (by decide) (fun n cs y hy => read_cel n base cs y hy) hv h
  obtain ⟨ls, hlen, hls⟩ := list_of (n := l.length) (R := fun i (o : Cel) => o.fine ∧ l[i]? = some o.cells) (fun i hi => by
    obtain ⟨_, o, ho, e⟩ := hl l[i] (List.getElem_mem hi)
    exact ⟨o, ho, by rw [List.getElem?_eq_getElem hi, e]⟩)
  refine ⟨ls, a, cap, by rw [hlen]; exact hv, by omega, fun o ho => ?_, fun hne => ?_⟩
  · obtain ⟨k, hk⟩ := List.mem_iff_getElem?.1 ho
    exact (hls k o hk).1
  · obtain ⟨g, o, h1, h2⟩ := hc (by intro e; rw [e] at hlen; exact hne (List.eq_nil_of_length_eq_zero hlen))
    refine ⟨g, o, h1, fun k c hk => ?_⟩
    have q := h2 k _ (hls k c hk).2
    exact ⟨q 0 _ rfl, q 1 _ rfl, q 2 _ rfl⟩
end
theorem Keep.undrew {S : Nat → Prop} {a b : World} (h : Keep S a.drew b) : Keep S a b := ⟨h.os, h.tape, h.output, h.size, h.block⟩
def BuI (w : World) (b f g pw n : Nat) (l : List Cel) (v : Value) (wr : World) : Prop :=
  ∃ k : Nat, v = .int .i64 k ∧ k ≤ l.length ∧ Both wr b f g pw n (memOf n (l.take k)) ∧ Keep nob w wr ∧ wr.cell? ⟨w.heap.size, 0, none⟩ = some (.slice none 0 0) ∧ wr.frozen? ⟨w.heap.size, 0, none⟩ = false
/-- What 'built' leaves: both memories, with the same words, in blocks of their own. -/
structure Built (w w' : World) (b f g n : Nat) (c : Nat → Int) : Prop where
  m : MemAt w' b f n c
  r : RefAt w' g n c
  hbg : b ≠ g
  hfg : f ≠ g
  hb : w.heap.size ≤ b
  hf : w.heap.size ≤ f
  hg : w.heap.size ≤ g
  k : Keep nob w w'
set_option maxHeartbeats 1600000 in
theorem built_ok (n : Nat) (v : Value) (l : List Cel) (w : World) (n1 : 1 ≤ n) (n2 : n ≤ 1024) (L : CelsAt w v l) :
    Calls Try.prog 61 #[.int .i64 n, v] w fun r w' => ∃ b f g, r = .returned (.tuple #[.pointer (some ⟨b, 0, none⟩), .agg #[refV g n], .bool true]) ∧ Built w w' b f g n (memOf n l) := by
  obtain ⟨a, cap, rfl, hm, hf, hc⟩ := L
  have HF := Lib.hid hf
  have HC := Lib.hid hc
  have HM := Lib.hid hm
  clear hf hc
  go_enter Try.func61, Try.ntmps61
  go_wp2_with fail
  refine Calls.mono (new_in _ n n1 n2) ?_
  rintro e w1 ⟨rfl, M1, K1⟩
  simp only [World.size_alloc] at M1
  have d1 := K1.some (p := ⟨w.heap.size, 0, none⟩) (v := .slice none 0 0) (new_at _ _ _ 0 _ rfl) (fun x => x)
  have z1 := (K1.frozen (p := ⟨w.heap.size, 0, none⟩) (by rw [World.size_alloc]; exact Nat.lt_succ_self _) (fun x => x)).trans (new_free w #[.slice none 0 0] 58 0)
  go_wp2_with fail
  refine Calls.mono (refnew_in _ n n1 n2) ?_
  rintro e w2 ⟨g, rfl, R2, hg, K2⟩
  have hrv : refV g n = .slice (some ⟨g, 0, none⟩) (n * 32) (n * 32) := rfl
  rw [hrv]
  have K12 := (((Keep.refl nob w).alloc _).then K1).then K2
  have KA : Keep nob w2 (w2.alloc (.cells #[.slice (some ⟨g, 0, none⟩) (n * 32) (n * 32)] 58)) := (Keep.refl _ _).alloc _
  have hsz := K1.size
  have hsz2 := K2.size
  rw [World.size_alloc] at hsz
  have hb1 := M1.blt
  have hf1 := M1.flt
  have hg1 := R2.glt
  have B0 : Both (w2.alloc (.cells #[.slice (some ⟨g, 0, none⟩) (n * 32) (n * 32)] 58)) (w.heap.size + 1 + 1) (w.heap.size + 1) g w2.heap.size n (memOf n (l.take 0)) := by
    have : memOf n (l.take 0) = fun _ => 0 := rfl
    rw [this]
    refine ⟨(M1.next K2).next KA, R2.next KA, new_at _ _ _ 0 _ rfl, by omega, by omega, by omega, by omega⟩
  have A0 := Lib.hid (K12.then KA)
  have d2 := Lib.hid ((K2.then KA).some d1 (fun x => x))
  have z2 := Lib.hid (((K2.then KA).frozen (p := ⟨w.heap.size, 0, none⟩) (by show w.heap.size < w1.heap.size; omega) (fun x => x)).trans z1)
  have B0 := Lib.hid B0
  have HG := Lib.hid (show w.heap.size + 3 ≤ g by omega)
  have HW := Lib.hid (show w.heap.size ≠ w2.heap.size by omega)
  clear K1 K2 M1 R2 hg K12 KA hsz hsz2 hb1 hf1 hg1 d1 z1 hrv
  go_wp2_with fail
  obtain ⟨pw, hpw⟩ : ∃ pw, pw = w2.heap.size := ⟨_, rfl⟩
  obtain ⟨W, hW⟩ : ∃ W, W = w2.alloc (.cells #[.slice (some ⟨g, 0, none⟩) (n * 32) (n * 32)] 58) := ⟨_, rfl⟩
  rw [← hpw, ← hW] at B0
  rw [← hW] at A0 d2 z2
  rw [← hpw] at HW
  rw [← hW, ← hpw]
  clear hW hpw
  go_loopw [11] (fun i' wr => BuI w (w.heap.size + 1 + 1) (w.heap.size + 1) g pw n l i' wr) (fun i' _ => (l.length - intOf i').toNat)
  case atStart => exact ⟨0, rfl, Nat.zero_le _, B0.out, A0.out, d2.out, z2.out⟩
  case round =>
    clear B0 A0 d2 z2
    obtain ⟨k, rfl, hk, B, A, d, z⟩ := hrel
    by_cases hlt : k < l.length
    · have hne : l ≠ [] := by intro e; rw [e] at hlt; simp at hlt
      obtain ⟨gg, o, rfl, cs⟩ := HC.out hne
      have hx := Lib.hid (HF.out _ (List.getElem_mem hlt))
      obtain ⟨x, ex⟩ : ∃ x, x = l[k] := ⟨_, rfl⟩
      have HS := Lib.hid (memOf_snoc n l k hlt)
      rw [← ex] at hx HS
      obtain ⟨q0, q1, q2⟩ := cs k x (by rw [ex]; exact List.getElem?_eq_getElem hlt)
      have r0 := A.some q0 (fun x => x)
      have r1 := A.some q1 (fun x => x)
      have r2 := A.some q2 (fun x => x)
      have b1 : ((k : Int) < (l.length : Int)) := by omega
      have hgg := Lib.hid (show gg < w.heap.size from World.block_lt_of_cell? _ _ q0)
      have A := Lib.hid A
      have B := Lib.hid B
      have d := Lib.hid d
      have z := Lib.hid z
      clear q0 q1 q2 cs ex hne
      obtain ⟨C, hC⟩ : ∃ C : Int, C = (if inR n x.a x.b then 0 else 2) := ⟨_, rfl⟩
      have HCC := Lib.hid hC
      clear hC
      go_wp2_with fail
      go_still_tail 16, (by kernel_rfl)
      change wpList _ _ _ _ _ wr.drew
      have WA := write_any (B.out.m.next (Keep.drew (Keep.refl nob _))) x.a x.b x.x hx.out
      rw [← HCC.out] at WA
      have WA := Lib.hid WA
      go_wp2_with fail
      refine Calls.mono WA.out ?_
      rintro r w3 ⟨rfl, M3, K3⟩
      clear WA
      have K3 := Keep.undrew K3
      have hgn : ¬ only (w.heap.size + 1) gg := by have := hgg.out; unfold only; omega
      have q0 := K3.some r0 hgn
      have q1 := K3.some r1 hgn
      have q2 := K3.some r2 hgn
      have S3 : Hid (MemAt w3 (w.heap.size + 1 + 1) (w.heap.size + 1) n (wrt n (memOf n (l.take k)) x) ∧ RefAt w3 g n (memOf n (l.take k)) ∧ w3.cell? ⟨pw, 0, none⟩ = some (refV g n) ∧ Keep nob w w3 ∧ w3.cell? ⟨w.heap.size, 0, none⟩ = some (.slice none 0 0) ∧ w3.frozen? ⟨w.heap.size, 0, none⟩ = false) :=
        Lib.hid ⟨M3, B.out.r.keep K3 (Ne.symm B.out.hfg), K3.some B.out.p B.out.hpf, A.out.trans K3 (fun q hq e => by have e : q = w.heap.size + 1 := e; omega), K3.some d.out (by show ¬ w.heap.size = _; omega), (K3.frozen (World.block_lt_of_cell? _ _ d.out) (by show ¬ w.heap.size = _; omega)).trans z.out⟩
      clear M3 K3 r0 r1 r2 hgn
      go_wp2_with fail
      go_still_tail 15, (by kernel_rfl)
      change wpList _ _ _ _ _ w3.drew
      have KD : Keep nob w3 w3.drew := Keep.drew (Keep.refl nob _)
      have WB := refwrite_ok (S3.out.2.1.next KD) (KD.some S3.out.2.2.1 (fun x => x)) B.out.hpg x.a x.b x.x hx.out
      rw [← HCC.out] at WB
      have WB := Lib.hid WB
      clear KD
      go_wp2_with fail
      refine Calls.mono WB.out ?_
      rintro r w4 ⟨rfl, R4, p4, K4⟩
      clear WB q0 q1 q2
      have K4 := Keep.undrew K4
      have S4 : Hid (Both w4 (w.heap.size + 1 + 1) (w.heap.size + 1) g pw n (memOf n (l.take (k + 1))) ∧ Keep nob w w4 ∧ w4.cell? ⟨w.heap.size, 0, none⟩ = some (.slice none 0 0) ∧ w4.frozen? ⟨w.heap.size, 0, none⟩ = false) := by
        obtain ⟨s1, s2, s3, s4, s5, s6⟩ := S3.out
        have hg := HG.out
        rw [HS.out]
        exact Lib.hid ⟨⟨s1.keep K4 B.out.hbg B.out.hfg, R4, p4, B.out.hpf, B.out.hpg, B.out.hbg, B.out.hfg⟩, s4.trans K4 (fun q hq e => by have e : q = g := e; omega), K4.some s5 (by show ¬ w.heap.size = _; omega), (K4.frozen (World.block_lt_of_cell? _ _ s5) (by show ¬ w.heap.size = _; omega)).trans s6⟩
      clear S3 R4 p4 K4 B A d z HS
      go_wp2_with fail
      go_roundw
      case rel => exact ⟨k + 1, by go_num, hlt, S4.out.1, S4.out.2.1, S4.out.2.2.1, S4.out.2.2.2⟩
      case measure => simp [intOf]; omega
    · have t7 : decide (k < l.length) = false := by simpa using hlt
      have hkk : k = l.length := by omega
      have hp := B.p
      rw [show refV g n = .slice (some ⟨g, 0, none⟩) (n * 32) (n * 32) from rfl] at hp
      have hmem : memOf n (l.take k) = memOf n l := by rw [hkk, List.take_length]
      rw [hmem] at B
      have B := Lib.hid B
      have A := Lib.hid A
      clear hmem hkk hlt HC HF
      go_wp2_with fail
      go_region
      go_wp2_with fail
      refine bodyPost_ret (v := .tuple #[.pointer (some ⟨w.heap.size + 1 + 1, 0, none⟩), .agg #[.slice (some ⟨g, 0, none⟩) (n * 32) (n * 32)], .bool true]) (by simp [results, Try.results61, go_sem, d]) rfl ?_
      have KZ : Keep (only w.heap.size) wr (wr.setCell ⟨w.heap.size, 0, none⟩ (.slice (some ⟨g, 0, none⟩) (n * 32) (n * 32))).drew := ((Keep.refl _ _).store 0 _).drew
      have hg := HG.out
      exact ⟨_, _, g, rfl, B.out.m.keep KZ (by show ¬ _ = w.heap.size; omega) (by show ¬ _ = w.heap.size; omega), B.out.r.keep KZ (by show ¬ _ = w.heap.size; omega), B.out.hbg, B.out.hfg, by omega, by omega, by omega, A.out.trans KZ (fun q hq e => by have e : q = w.heap.size := e; omega)⟩
end Go.Proofs.Ytkkkmaigcnpmeaa
