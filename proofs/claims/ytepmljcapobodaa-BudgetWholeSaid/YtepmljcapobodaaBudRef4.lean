/- Of prioryref11: Charge, Refund. -/
import Derived.Test.YtepmljcapobodaaBudRef3
namespace Go.Proofs.Ytepmljcapobodaa
open Go.RowKit
set_option linter.unusedVariables false
set_option linter.unusedSimpArgs false
set_option maxRecDepth 100000
theorem nd_set {l : List Nd} {i : Nat} {x : Nd} (h : l[i]? = some x) (n : Int) : (l.flatMap ndCells).set (i * 4 + 3) (.int .i64 n) = (l.set i { x with us := n }).flatMap ndCells := by
  induction l generalizing i with
  | nil => simp at h
  | cons a r ih =>
    cases i with
    | zero =>
      have : a = x := by simpa using h
      subst this
      rfl
    | succ i =>
      have h' : r[i]? = some x := by simpa using h
      rw [List.flatMap_cons, List.set_cons_succ, List.flatMap_cons, ← ih h', List.set_append_right _ _ (by show 4 ≤ _; omega)]
      congr 2
      show (i + 1) * 4 + 3 - 4 = _
      omega
theorem add_none {l : List Nd} {id n : Int} (h : ∀ x ∈ l, x.id ≠ id) : l.map (addU id n) = l := by
  induction l with
  | nil => rfl
  | cons y l ih =>
    rw [List.map_cons, ih (fun x hx => h x (List.mem_cons_of_mem _ hx))]
    congr 1
    unfold addU
    rw [if_neg (h y List.mem_cons_self)]
theorem add_set {l : List Nd} (s : l.Pairwise (fun x y => x.id < y.id)) {id : Int} {x : Nd} (h : findN l id = some x) (n : Int) : l.map (addU id n) = l.set (idxN l id) { x with us := x.us + n } := by
  induction l with
  | nil => cases h
  | cons y l ih =>
    rw [List.pairwise_cons] at s
    rw [findN_cons] at h
    rw [idxN_cons, List.map_cons]
    by_cases e : y.id = id
    · rw [if_pos e] at h ⊢
      injection h with h
      subst h
      rw [List.set_cons_zero, add_none (fun z hz => by have := s.1 z hz; omega)]
      unfold addU
      rw [if_pos e]
    · rw [if_neg e] at h ⊢
      rw [List.set_cons_succ, ih s.2 h]
      unfold addU
      rw [if_neg e]
section
variable {w : World} {v : Value} {l : List Nd}
/-- A copy of the list, with one number written. -/
theorem nl_put {w9 : World} {base g cap : Nat} (own : w9.ownsRow base 35 4 (.slice (some ⟨g, 0, none⟩) l.length cap) l.length (l.flatMap ndCells)) (G : Good l) {id : Int} {x : Nd} (h : findN l id = some x) (n : Int) :
    (w9.setCell ⟨g, idxN l id * 4 + 3, none⟩ (.int .i64 (x.us + n))).ownsRow base 35 4 (.slice (some ⟨g, 0, none⟩) l.length cap) (l.map (addU id n)).length ((l.map (addU id n)).flatMap ndCells) := by
  have hx := idx_some h
  have hi := (List.getElem?_eq_some_iff.1 hx).1
  have := own_set own (j := idxN l id * 4 + 3) (by rw [nd_len]; omega) (.int .i64 (x.us + n))
  rw [nd_set hx, ← add_set G.srt h n] at this
  rw [List.length_map]
  exact this
set_option maxHeartbeats 3200000 in
theorem rchg_ok (h : NL w v l) (G : Good l) (id n : Int) : Calls Try.prog 28 #[v, .int .i64 id, .int .i64 n] w (NlPost w v (chgL l id n) (chgN l id n)) := by
  have ln := G.len
  have F1 := fits_ok w id n
  by_cases h1 : fitsN id n = true
  · rw [h1] at F1
    have hf := fitsN_iff.1 h1
    have A1 := at_ok11 h G.pos (by omega) id
    cases e : findN l id with
    | none =>
      have ec : chgN l id n = 4 := by unfold chgN; rw [if_pos h1, e]
      have el : chgL l id n = l := by unfold chgL; rw [ec]; rfl
      rw [atN_none e] at A1
      rw [ec, el]
      clear hf
      replace F1 := Lib.hid F1
      replace A1 := Lib.hid A1
      replace h := Lib.hid h
      replace G := Lib.hid G
      replace ec := Lib.hid ec
      replace el := Lib.hid el
      replace e := Lib.hid e
      replace h1 := Lib.hid h1
      go_enter Try.func28, Try.ntmps28
      go_wp2_with fail
      refine Calls.mono F1.out ?_
      rintro r w1 ⟨rfl, rfl⟩
      go_wp2_with fail
      refine Calls.mono A1.out ?_
      rintro r w1 ⟨rfl, rfl⟩
      go_wp2_with fail
      go_ret2
      exact NlPost.same h.out (Keep.refl _ _)
    | some x =>
      have ec : chgN l id n = if leftN' l id < n then 3 else 0 := by unfold chgN; rw [if_pos h1, e]
      rw [atN_some e] at A1
      have A3 := fun W' (k : Keep nob w W') => at_ok11 (h.next k) G.pos (by omega) id
      rw [atN_some e] at A3
      have hx := idx_some e
      have hi : idxN l id < l.length := (List.getElem?_eq_some_iff.1 hx).1
      have xm := List.mem_of_getElem? hx
      have us := G.us xm
      have us0 := (G.rng x xm).2.2.1
      have PUT := fun (w9 : World) (base g9 c9 : Nat) own => nl_put (w9 := w9) (base := base) (g := g9) (cap := c9) own G e n
      obtain ⟨ix, hix⟩ : ∃ i, idxN l id = i := ⟨_, rfl⟩
      rw [hix] at A1 A3 hx hi PUT
      have ta : decide ((ix : Int) < 0) = false := by simp
      have L := left_ok11 h G id
      by_cases hl : leftN' l id < n
      · rw [if_pos hl] at ec
        have el : chgL l id n = l := by unfold chgL; rw [ec]; rfl
        rw [ec, el]
        have t3 : decide (leftN' l id < n) = true := by simpa using hl
        obtain ⟨lf, hlf⟩ : ∃ lf, leftN' l id = lf := ⟨_, rfl⟩
        rw [hlf] at L t3
        clear hl hf
        replace F1 := Lib.hid F1
        replace A1 := Lib.hid A1
        replace A3 := Lib.hid A3
        replace h := Lib.hid h
        replace G := Lib.hid G
        replace ec := Lib.hid ec
        replace el := Lib.hid el
        replace e := Lib.hid e
        replace h1 := Lib.hid h1
        replace L := Lib.hid L
        replace hlf := Lib.hid hlf
        replace hx := Lib.hid hx
        replace PUT := Lib.hid PUT
        go_enter Try.func28, Try.ntmps28
        go_wp2_with fail
        refine Calls.mono F1.out ?_
        rintro r w1 ⟨rfl, rfl⟩
        go_wp2_with fail
        refine Calls.mono A1.out ?_
        rintro r w1 ⟨rfl, rfl⟩
        go_wp2_with fail
        refine Calls.mono L.out ?_
        rintro r w2 ⟨rfl, K2⟩
        go_wp2_with fail
        go_ret2
        exact NlPost.same h.out K2
      · rw [if_neg hl] at ec
        have el : chgL l id n = l.map (addU id n) := by unfold chgL; rw [if_pos ec]
        rw [ec, el]
        have t3 : decide (leftN' l id < n) = false := by simpa using hl
        obtain ⟨lf, hlf⟩ : ∃ lf, leftN' l id = lf := ⟨_, rfl⟩
        rw [hlf] at L t3
        have b1 : IntKind.i64.wrap (x.us + n) = x.us + n := IntWalk.i64_in _ (by omega)
        clear hl
        obtain ⟨g, cap, hv, hc, hg, src0⟩ := h.form G.pos
        have srcA := own_cells h G.pos
        subst hv
        have gp := G.pos
        have n0 : (0 : Int) ≤ n := hf.2.1
        have n1 : n ≤ 65536 := hf.2.2
        have kz : (0 : Int) ≤ ix := by omega
        have kb : (ix : Int) < l.length := by omega
        clear hf
        replace F1 := Lib.hid F1
        replace A1 := Lib.hid A1
        replace A3 := Lib.hid A3
        replace h := Lib.hid h
        replace G := Lib.hid G
        replace ec := Lib.hid ec
        replace el := Lib.hid el
        replace e := Lib.hid e
        replace h1 := Lib.hid h1
        replace L := Lib.hid L
        replace hlf := Lib.hid hlf
        replace src0 := Lib.hid src0
        replace srcA := Lib.hid srcA
        replace hx := Lib.hid hx
        replace PUT := Lib.hid PUT
        replace xm := Lib.hid xm
        go_enter Try.func28, Try.ntmps28
        go_wp2_with fail
        refine Calls.mono F1.out ?_
        rintro r w1 ⟨rfl, rfl⟩
        go_wp2_with fail
        refine Calls.mono A1.out ?_
        rintro r w1 ⟨rfl, rfl⟩
        go_wp2_with fail
        refine Calls.mono L.out ?_
        rintro r w2 ⟨rfl, K2⟩
        have src : ∀ j u, (l.flatMap ndCells)[j]? = some u → w2.cell? ⟨g, j, none⟩ = some u := by
          intro j u hj
          obtain ⟨g3, cap3, hv3, -, -, -, hh⟩ := srcA.out
          injection hv3 with q1
          injection q1 with q1
          injection q1 with q1
          subst q1
          exact K2.some (hh j u hj).1 (fun x => x)
        obtain ⟨i0, hi0, hz0, hz1, hz2⟩ := info_parts infoNd
        have own0 : (w2.alloc (.cells #[] 35)).ownsRow w2.heap.size 35 4 (.slice (some ⟨w2.heap.size, 0, none⟩) 0 0) 0 [] := World.ownsRow_lit w2 #[] 0 (Nat.le_refl _) (by decide) rfl
        have K2a : Keep nob w2 (w2.alloc (.cells #[] 35)) := (Keep.refl _ _).alloc _
        replace K2 := Lib.hid K2
        replace src := Lib.hid src
        replace hi0 := Lib.hid hi0
        replace hz0 := Lib.hid hz0
        replace hz1 := Lib.hid hz1
        replace hz2 := Lib.hid hz2
        replace own0 := Lib.hid own0
        replace K2a := Lib.hid K2a
        go_wp2_with (at_builtin; refine wpList_append_cut rfl (.tmp 25) (.tmp 26) 32 rfl w2.heap.size 35 i0 (.agg #[.int .i64 0, .int .i64 0, .int .i64 0, .int .i64 0]) 4 32 Try.underlying32 hi0.out hz0.out hz1.out hz2.out rfl (by decide) _ 0 [] rfl own0.out (some ⟨g, 0, none⟩) l.length cap (l.flatMap ndCells) rfl (fun h => by cases h) ?c1 ?c2 (nd_one _) ?c3 ?c4 ?c5 ?_)
        case c1 => exact nd_len _
        case c2 => intro ad h; injection h with h; subst h; intro j u hu; rw [Addr.add_mid, Nat.zero_add]; exact ((Keep.refl nob w2).alloc _).some (src.out _ _ hu) (fun x => x)
        case c3 => unfold maxLen; omega
        case c4 => omega
        case c5 => rw [World.size_alloc]; omega
        intro v9 w9 own1 gr1
        have K9 := new_row K2a.out own0.out gr1
        have own1 : w9.ownsRow w2.heap.size 35 4 v9 l.length (l.flatMap ndCells) := by simpa using own1
        have A9 := A3.out w9 (K2.out.then K9)
        obtain ⟨g9, c9, rfl, hb9, hg9, hc9, s9⟩ := own_cells own1 gp
        obtain ⟨d3, z3⟩ := s9 _ _ (flat_get ndCells_len l ix x 3 _ hx.out rfl)
        replace own1 := Lib.hid own1
        replace gr1 := Lib.hid gr1
        replace K9 := Lib.hid K9
        replace A9 := Lib.hid A9
        replace s9 := Lib.hid s9
        go_wp2_with fail
        refine Calls.mono A9.out ?_
        rintro r w10 ⟨rfl, rfl⟩
        go_wp2_with fail
        refine Calls.mono A9.out ?_
        rintro r w10 ⟨rfl, rfl⟩
        go_wp2_with fail
        go_ret2
        have P9 := PUT.out w9 w2.heap.size g9 c9 own1.out
        refine ⟨_, rfl, own_base P9 (Nat.zero_le _), Or.inr (fun q hq => Nat.le_trans K2.out.size (own_tag P9 hq).1), ?_⟩
        have sz2 := K2.out.size
        exact (K2.out.then K9.out).trans (Keep.store (Keep.refl (only g9) w9) (ix * 4 + 3) (.int .i64 (x.us + n))) (fun k hk e => by have e : k = g9 := e; omega)
  · have h1' : fitsN id n = false := by simpa using h1
    rw [h1'] at F1
    have ec : chgN l id n = 2 := by unfold chgN; rw [h1']; rfl
    have el : chgL l id n = l := by unfold chgL; rw [ec]; rfl
    rw [ec, el]
    replace F1 := Lib.hid F1
    replace h := Lib.hid h
    replace G := Lib.hid G
    replace ec := Lib.hid ec
    replace el := Lib.hid el
    replace h1 := Lib.hid h1
    replace h1' := Lib.hid h1'
    go_enter Try.func28, Try.ntmps28
    go_wp2_with fail
    refine Calls.mono F1.out ?_
    rintro r w1 ⟨rfl, rfl⟩
    go_wp2_with fail
    go_ret2
    exact NlPost.same h.out (Keep.refl _ _)
set_option maxHeartbeats 3200000 in
theorem rref_ok (h : NL w v l) (G : Good l) (id n : Int) : Calls Try.prog 29 #[v, .int .i64 id, .int .i64 n] w (NlPost w v (refL l id n) (refN l id n)) := by
  have ln := G.len
  have F1 := fits_ok w id n
  by_cases h1 : fitsN id n = true
  · rw [h1] at F1
    have hf := fitsN_iff.1 h1
    have A1 := at_ok11 h G.pos (by omega) id
    cases e : findN l id with
    | none =>
      have ec : refN l id n = 4 := by unfold refN; rw [if_pos h1, e]
      have el : refL l id n = l := by unfold refL; rw [ec]; rfl
      rw [atN_none e] at A1
      rw [ec, el]
      clear hf
      replace F1 := Lib.hid F1
      replace A1 := Lib.hid A1
      replace h := Lib.hid h
      replace G := Lib.hid G
      replace ec := Lib.hid ec
      replace el := Lib.hid el
      replace e := Lib.hid e
      replace h1 := Lib.hid h1
      go_enter Try.func29, Try.ntmps29
      go_wp2_with fail
      refine Calls.mono F1.out ?_
      rintro r w1 ⟨rfl, rfl⟩
      go_wp2_with fail
      refine Calls.mono A1.out ?_
      rintro r w1 ⟨rfl, rfl⟩
      go_wp2_with fail
      go_ret2
      exact NlPost.same h.out (Keep.refl _ _)
    | some x =>
      have ec : refN l id n = if x.us < n then 9 else 0 := by unfold refN; rw [if_pos h1, e]
      rw [atN_some e] at A1
      have hx := idx_some e
      have hi : idxN l id < l.length := (List.getElem?_eq_some_iff.1 hx).1
      have xm := List.mem_of_getElem? hx
      have us := G.us xm
      have us0 := (G.rng x xm).2.2.1
      have PUT := fun (w9 : World) (base g9 c9 : Nat) own => nl_put (w9 := w9) (base := base) (g := g9) (cap := c9) own G e (-n)
      obtain ⟨ix, hix⟩ : ∃ i, idxN l id = i := ⟨_, rfl⟩
      rw [hix] at A1 hx hi PUT
      have ta : decide ((ix : Int) < 0) = false := by simp
      obtain ⟨g, cap, hv, hc, hg, src0⟩ := h.form G.pos
      have srcA := own_cells h G.pos
      subst hv
      have gp := G.pos
      have n0 : (0 : Int) ≤ n := hf.2.1
      have n1 : n ≤ 65536 := hf.2.2
      have kz : (0 : Int) ≤ ix := by omega
      have kb : (ix : Int) < l.length := by omega
      have d0 := (src0 ix x hx).1.2.2.2
      by_cases hl : x.us < n
      · rw [if_pos hl] at ec
        have el : refL l id n = l := by unfold refL; rw [ec]; rfl
        rw [ec, el]
        have t3 : decide (x.us < n) = true := by simpa using hl
        clear hl hf
        replace F1 := Lib.hid F1
        replace A1 := Lib.hid A1
        replace h := Lib.hid h
        replace G := Lib.hid G
        replace ec := Lib.hid ec
        replace el := Lib.hid el
        replace e := Lib.hid e
        replace h1 := Lib.hid h1
        replace hx := Lib.hid hx
        replace PUT := Lib.hid PUT
        replace src0 := Lib.hid src0
        replace srcA := Lib.hid srcA
        replace xm := Lib.hid xm
        go_enter Try.func29, Try.ntmps29
        go_wp2_with fail
        refine Calls.mono F1.out ?_
        rintro r w1 ⟨rfl, rfl⟩
        go_wp2_with fail
        refine Calls.mono A1.out ?_
        rintro r w1 ⟨rfl, rfl⟩
        go_wp2_with fail
        go_ret2
        exact NlPost.same h.out (Keep.refl _ _)
      · rw [if_neg hl] at ec
        have el : refL l id n = l.map (addU id (-n)) := by unfold refL; rw [if_pos ec]
        rw [ec, el]
        have t3 : decide (x.us < n) = false := by simpa using hl
        have b1 : IntKind.i64.wrap (x.us - n) = x.us - n := IntWalk.i64_in _ (by omega)
        clear hl hf
        have src : ∀ j u, (l.flatMap ndCells)[j]? = some u → w.cell? ⟨g, j, none⟩ = some u := by
          intro j u hj
          obtain ⟨g3, cap3, hv3, -, -, -, hh⟩ := srcA
          injection hv3 with q1
          injection q1 with q1
          injection q1 with q1
          subst q1
          exact (hh j u hj).1
        obtain ⟨i0, hi0, hz0, hz1, hz2⟩ := info_parts infoNd
        have own0 : (w.alloc (.cells #[] 35)).ownsRow w.heap.size 35 4 (.slice (some ⟨w.heap.size, 0, none⟩) 0 0) 0 [] := World.ownsRow_lit w #[] 0 (Nat.le_refl _) (by decide) rfl
        have K2a : Keep nob w (w.alloc (.cells #[] 35)) := (Keep.refl _ _).alloc _
        replace F1 := Lib.hid F1
        replace A1 := Lib.hid A1
        replace h := Lib.hid h
        replace G := Lib.hid G
        replace ec := Lib.hid ec
        replace el := Lib.hid el
        replace e := Lib.hid e
        replace h1 := Lib.hid h1
        replace src0 := Lib.hid src0
        replace srcA := Lib.hid srcA
        replace hx := Lib.hid hx
        replace PUT := Lib.hid PUT
        replace xm := Lib.hid xm
        replace src := Lib.hid src
        replace hi0 := Lib.hid hi0
        replace hz0 := Lib.hid hz0
        replace hz1 := Lib.hid hz1
        replace hz2 := Lib.hid hz2
        replace own0 := Lib.hid own0
        replace K2a := Lib.hid K2a
        go_enter Try.func29, Try.ntmps29
        go_wp2_with fail
        refine Calls.mono F1.out ?_
        rintro r w1 ⟨rfl, rfl⟩
        go_wp2_with fail
        refine Calls.mono A1.out ?_
        rintro r w1 ⟨rfl, rfl⟩
        go_wp2_with (at_builtin; refine wpList_append_cut rfl (.tmp 29) (.tmp 30) 32 rfl w.heap.size 35 i0 (.agg #[.int .i64 0, .int .i64 0, .int .i64 0, .int .i64 0]) 4 32 Try.underlying32 hi0.out hz0.out hz1.out hz2.out rfl (by decide) _ 0 [] rfl own0.out (some ⟨g, 0, none⟩) l.length cap (l.flatMap ndCells) rfl (fun h => by cases h) ?c1 ?c2 (nd_one _) ?c3 ?c4 ?c5 ?_)
        case c1 => exact nd_len _
        case c2 => intro ad h; injection h with h; subst h; intro j u hu; rw [Addr.add_mid, Nat.zero_add]; exact ((Keep.refl nob w).alloc _).some (src.out _ _ hu) (fun x => x)
        case c3 => unfold maxLen; omega
        case c4 => omega
        case c5 => rw [World.size_alloc]; omega
        intro v9 w9 own1 gr1
        have K9 := new_row K2a.out own0.out gr1
        have own1 : w9.ownsRow w.heap.size 35 4 v9 l.length (l.flatMap ndCells) := by simpa using own1
        obtain ⟨g9, c9, rfl, hb9, hg9, hc9, s9⟩ := own_cells own1 gp
        obtain ⟨d3, z3⟩ := s9 _ _ (flat_get ndCells_len l ix x 3 _ hx.out rfl)
        clear d0
        replace own1 := Lib.hid own1
        replace gr1 := Lib.hid gr1
        replace K9 := Lib.hid K9
        replace s9 := Lib.hid s9
        go_wp2_with fail
        go_ret2
        have P9 := PUT.out w9 w.heap.size g9 c9 own1.out
        refine ⟨_, rfl, own_base P9 (Nat.zero_le _), Or.inr (fun q hq => (own_tag P9 hq).1), ?_⟩
        exact K9.out.trans (Keep.store (Keep.refl (only g9) w9) (ix * 4 + 3) (.int .i64 (x.us - n))) (fun k hk e => by have e : k = g9 := e; omega)
  · have h1' : fitsN id n = false := by simpa using h1
    rw [h1'] at F1
    have ec : refN l id n = 2 := by unfold refN; rw [h1']; rfl
    have el : refL l id n = l := by unfold refL; rw [ec]; rfl
    rw [ec, el]
    replace F1 := Lib.hid F1
    replace h := Lib.hid h
    replace G := Lib.hid G
    replace ec := Lib.hid ec
    replace el := Lib.hid el
    replace h1 := Lib.hid h1
    replace h1' := Lib.hid h1'
    go_enter Try.func29, Try.ntmps29
    go_wp2_with fail
    refine Calls.mono F1.out ?_
    rintro r w1 ⟨rfl, rfl⟩
    go_wp2_with fail
    go_ret2
    exact NlPost.same h.out (Keep.refl _ _)
end
end Go.Proofs.Ytepmljcapobodaa
