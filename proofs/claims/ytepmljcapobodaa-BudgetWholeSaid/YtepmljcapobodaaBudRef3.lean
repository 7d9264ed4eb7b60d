/- Of prioryref11: Open. -/
import Derived.Test.YtepmljcapobodaaBudRef2
namespace Go.Proofs.Ytepmljcapobodaa
open Go.RowKit
set_option linter.unusedVariables false
set_option linter.unusedSimpArgs false
set_option maxRecDepth 100000
theorem nd_one (l : List Nd) : ∀ u ∈ l.flatMap ndCells, u.oneCell' = true := by
  intro u hu
  rw [List.mem_flatMap] at hu
  obtain ⟨x, -, hu⟩ := hu
  unfold ndCells at hu
  simp only [List.mem_cons, List.not_mem_nil, or_false] at hu
  rcases hu with rfl | rfl | rfl | rfl <;> rfl
theorem nd_split (l : List Nd) (P : Nat) : l.flatMap ndCells = (l.take P).flatMap ndCells ++ (l.drop P).flatMap ndCells := by
  rw [← List.flatMap_append, List.take_append_drop]
theorem nd_take {l : List Nd} {P j : Nat} {u : Value} (h : ((l.take P).flatMap ndCells)[j]? = some u) : (l.flatMap ndCells)[j]? = some u := by
  rw [nd_split l P, List.getElem?_append_left (List.getElem?_eq_some_iff.1 h).1]
  exact h
theorem nd_drop {l : List Nd} {P j : Nat} {u : Value} (hP : P ≤ l.length) (h : ((l.drop P).flatMap ndCells)[j]? = some u) : (l.flatMap ndCells)[P * 4 + j]? = some u := by
  have e : ((l.take P).flatMap ndCells).length = P * 4 := by rw [nd_len, List.length_take, Nat.min_eq_left hP]
  rw [nd_split l P, List.getElem?_append_right (by rw [e]; omega), e, Nat.add_sub_cancel_left]
  exact h
theorem while_at {l : List Nd} {k : Nat} {id : Int} (hk : k ≤ l.length) (h : ∀ (j : Nat) (y : Nd), j < k → l[j]? = some y → y.id < id) (h2 : ∀ y, l[k]? = some y → ¬ y.id < id) :
    l.takeWhile (fun y => decide (y.id < id)) = l.take k ∧ l.dropWhile (fun y => decide (y.id < id)) = l.drop k := by
  induction l generalizing k with
  | nil => simp
  | cons y l ih =>
    cases k with
    | zero =>
      have := h2 y rfl
      rw [List.takeWhile_cons, List.dropWhile_cons, if_neg (by simpa using this), if_neg (by simpa using this)]
      exact ⟨rfl, rfl⟩
    | succ k =>
      have hy := h 0 y (by omega) rfl
      have := ih (k := k) (by simpa using hk) (fun j z hj hz => h (j + 1) z (by omega) (by simpa using hz)) (fun z hz => h2 z (by simpa using hz))
      rw [List.takeWhile_cons, List.dropWhile_cons, if_pos (by simpa using hy), if_pos (by simpa using hy), this.1, this.2]
      exact ⟨rfl, rfl⟩
def InvO (w : World) (l : List Nd) (id : Int) (i : Value) (wr : World) : Prop := ∃ k : Nat, i = .int .i64 k ∧ k ≤ l.length ∧ (∀ (j : Nat) (y : Nd), j < k → l[j]? = some y → y.id < id) ∧ w = wr
section
variable {w : World} {v : Value} {l : List Nd}
set_option maxHeartbeats 3200000 in
theorem ropn_ok (h : NL w v l) (G : Good l) (id up n : Int) : Calls Try.prog 26 #[v, .int .i64 id, .int .i64 up, .int .i64 n] w (NlPost w v (opnL l id up n) (opnN l id up n)) := by
  have ln := G.len
  have F1 := fits_ok w id n
  have F2 := fits_ok w up n
  by_cases h1 : fitsN id n = true
  · rw [h1] at F1
    by_cases h2 : fitsN up n = true
    · rw [h2] at F2
      have e0 : opnN l id up n = if findN l up = none then 4 else if findN l id ≠ none then 5 else if leftN' l up < n then 3 else 0 := by unfold opnN; rw [h1, h2]; rfl
      have A1 := at_ok11 h G.pos (by omega) up
      cases e : findN l up with
      | none =>
        rw [if_pos e] at e0
        have el : opnL l id up n = l := by unfold opnL; rw [e0]; rfl
        rw [atN_none e] at A1
        rw [e0, el]
        replace F1 := Lib.hid F1
        replace F2 := Lib.hid F2
        replace A1 := Lib.hid A1
        replace h := Lib.hid h
        replace G := Lib.hid G
        replace e0 := Lib.hid e0
        replace el := Lib.hid el
        replace e := Lib.hid e
        replace h1 := Lib.hid h1
        replace h2 := Lib.hid h2
        go_enter Try.func26, Try.ntmps26
        go_wp2_with fail
        refine Calls.mono F1.out ?_
        rintro r w1 ⟨rfl, rfl⟩
        go_wp2_with fail
        refine Calls.mono F2.out ?_
        rintro r w1 ⟨rfl, rfl⟩
        go_wp2_with fail
        refine Calls.mono A1.out ?_
        rintro r w1 ⟨rfl, rfl⟩
        go_wp2_with fail
        go_ret2
        exact NlPost.same h.out (Keep.refl _ _)
      | some y =>
        rw [if_neg (by rw [e]; simp)] at e0
        rw [atN_some e] at A1
        have A2 := at_ok11 h G.pos (by omega) id
        obtain ⟨iu, hiu⟩ : ∃ i, idxN l up = i := ⟨_, rfl⟩
        rw [hiu] at A1
        have ta : decide ((iu : Int) < 0) = false := by simp
        cases e2 : findN l id with
        | some x =>
          rw [if_pos (by rw [e2]; simp)] at e0
          have el : opnL l id up n = l := by unfold opnL; rw [e0]; rfl
          rw [atN_some e2] at A2
          obtain ⟨ii, hii⟩ : ∃ i, idxN l id = i := ⟨_, rfl⟩
          rw [hii] at A2
          have tb : decide ((0 : Int) ≤ (ii : Int)) = true := by simp
          rw [e0, el]
          replace F1 := Lib.hid F1
          replace F2 := Lib.hid F2
          replace A1 := Lib.hid A1
          replace A2 := Lib.hid A2
          replace h := Lib.hid h
          replace G := Lib.hid G
          replace e0 := Lib.hid e0
          replace el := Lib.hid el
          replace e := Lib.hid e
          replace e2 := Lib.hid e2
          replace h1 := Lib.hid h1
          replace h2 := Lib.hid h2
          replace hiu := Lib.hid hiu
          replace hii := Lib.hid hii
          go_enter Try.func26, Try.ntmps26
          go_wp2_with fail
          refine Calls.mono F1.out ?_
          rintro r w1 ⟨rfl, rfl⟩
          go_wp2_with fail
          refine Calls.mono F2.out ?_
          rintro r w1 ⟨rfl, rfl⟩
          go_wp2_with fail
          refine Calls.mono A1.out ?_
          rintro r w1 ⟨rfl, rfl⟩
          go_wp2_with fail
          refine Calls.mono A2.out ?_
          rintro r w1 ⟨rfl, rfl⟩
          go_wp2_with fail
          go_ret2
          exact NlPost.same h.out (Keep.refl _ _)
        | none =>
          rw [if_neg (by rw [e2]; simp)] at e0
          rw [atN_none e2] at A2
          have L := left_ok11 h G up
          by_cases hl : leftN' l up < n
          · rw [if_pos hl] at e0
            have el : opnL l id up n = l := by unfold opnL; rw [e0]; rfl
            rw [e0, el]
            have t3 : decide (leftN' l up < n) = true := by simpa using hl
            obtain ⟨lf, hlf⟩ : ∃ lf, leftN' l up = lf := ⟨_, rfl⟩
            rw [hlf] at L t3
            clear hl
            replace F1 := Lib.hid F1
            replace F2 := Lib.hid F2
            replace A1 := Lib.hid A1
            replace A2 := Lib.hid A2
            replace h := Lib.hid h
            replace G := Lib.hid G
            replace e0 := Lib.hid e0
            replace el := Lib.hid el
            replace e := Lib.hid e
            replace e2 := Lib.hid e2
            replace h1 := Lib.hid h1
            replace h2 := Lib.hid h2
            replace hiu := Lib.hid hiu
            replace L := Lib.hid L
            replace hlf := Lib.hid hlf
            go_enter Try.func26, Try.ntmps26
            go_wp2_with fail
            refine Calls.mono F1.out ?_
            rintro r w1 ⟨rfl, rfl⟩
            go_wp2_with fail
            refine Calls.mono F2.out ?_
            rintro r w1 ⟨rfl, rfl⟩
            go_wp2_with fail
            refine Calls.mono A1.out ?_
            rintro r w1 ⟨rfl, rfl⟩
            go_wp2_with fail
            refine Calls.mono A2.out ?_
            rintro r w1 ⟨rfl, rfl⟩
            go_wp2_with fail
            refine Calls.mono L.out ?_
            rintro r w2 ⟨rfl, K2⟩
            go_wp2_with fail
            go_ret2
            exact NlPost.same h.out K2
          · rw [if_neg hl] at e0
            have el : opnL l id up n = insN l ⟨id, up, n, 0⟩ := by unfold opnL; rw [if_pos e0]
            rw [e0, el]
            have t3 : decide (leftN' l up < n) = false := by simpa using hl
            obtain ⟨lf, hlf⟩ : ∃ lf, leftN' l up = lf := ⟨_, rfl⟩
            rw [hlf] at L t3
            clear hl
            obtain ⟨g, cap, hv, hc, hg, src0⟩ := h.form G.pos
            have srcA := own_cells h G.pos
            subst hv
            have gp := G.pos
            replace F1 := Lib.hid F1
            replace F2 := Lib.hid F2
            replace A1 := Lib.hid A1
            replace A2 := Lib.hid A2
            replace h := Lib.hid h
            replace G := Lib.hid G
            replace e0 := Lib.hid e0
            replace el := Lib.hid el
            replace e := Lib.hid e
            replace e2 := Lib.hid e2
            replace h1 := Lib.hid h1
            replace h2 := Lib.hid h2
            replace hiu := Lib.hid hiu
            replace L := Lib.hid L
            replace hlf := Lib.hid hlf
            replace src0 := Lib.hid src0
            replace srcA := Lib.hid srcA
            go_enter Try.func26, Try.ntmps26
            go_wp2_with fail
            refine Calls.mono F1.out ?_
            rintro r w1 ⟨rfl, rfl⟩
            go_wp2_with fail
            refine Calls.mono F2.out ?_
            rintro r w1 ⟨rfl, rfl⟩
            go_wp2_with fail
            refine Calls.mono A1.out ?_
            rintro r w1 ⟨rfl, rfl⟩
            go_wp2_with fail
            refine Calls.mono A2.out ?_
            rintro r w1 ⟨rfl, rfl⟩
            go_wp2_with fail
            refine Calls.mono L.out ?_
            rintro r w2 ⟨rfl, K2⟩
            have src : ∀ j u, (l.flatMap ndCells)[j]? = some u → w2.cell? ⟨g, j, none⟩ = some u := by
              intro j u hj
              obtain ⟨g3, cap3, hv3, -, -, -, hh⟩ := srcA.out
              injection hv3 with q1
              injection q1 with q1
              injection q1 with q1
              subst q1
              exact K2.some (hh j u hj).1 (fun x => x)
            obtain ⟨i0, hi, hz0, hz1, hz2⟩ := info_parts infoNd
            replace K2 := Lib.hid K2
            replace src := Lib.hid src
            replace hi := Lib.hid hi
            replace hz0 := Lib.hid hz0
            replace hz1 := Lib.hid hz1
            replace hz2 := Lib.hid hz2
            go_wp2_with fail
            go_loopw [10] (fun i wr => InvO w2 l id i wr) (fun i _ => (l.length - intOf i).toNat)
            case atStart => exact ⟨0, rfl, Nat.zero_le _, fun j y hj => by omega, rfl⟩
            case round =>
              obtain ⟨k, rfl, hk, hb, rfl⟩ := hrel
              have own0 : (w2.alloc (.cells #[] 35)).ownsRow w2.heap.size 35 4 (.slice (some ⟨w2.heap.size, 0, none⟩) 0 0) 0 [] := World.ownsRow_lit w2 #[] 0 (Nat.le_refl _) (by decide) rfl
              have K2a : Keep nob w2 (w2.alloc (.cells #[] 35)) := (Keep.refl _ _).alloc _
              have kz : (0 : Int) ≤ k := by omega
              by_cases hgo : ∃ x, l[k]? = some x ∧ x.id < id
              · obtain ⟨x, hx, hxl⟩ := hgo
                have hlt : k < l.length := (List.getElem?_eq_some_iff.1 hx).1
                have c0 := K2.out.some (src0.out k x hx).1.1 (fun x => x)
                have kb : (k : Int) < l.length := by omega
                have t0 : decide (k < l.length) = true := decide_eq_true hlt
                have t4 : decide (x.id < id) = true := decide_eq_true hxl
                replace hx := Lib.hid hx
                replace hxl := Lib.hid hxl
                replace hb := Lib.hid hb
                replace own0 := Lib.hid own0
                replace K2a := Lib.hid K2a
                go_wp2_with fail
                go_roundw
                case rel =>
                  refine ⟨k + 1, by go_num, by omega, fun j y hj hy => ?_, rfl⟩
                  by_cases q : j = k
                  · subst q
                    rw [hx.out] at hy
                    injection hy with hy
                    subst hy
                    exact hxl.out
                  · exact hb.out j y (by omega) hy
                case measure => simp [intOf]; omega
              · have wh := while_at hk hb (fun y hy q => hgo ⟨y, hy, q⟩)
                have ei : insN l ⟨id, up, n, 0⟩ = l.take k ++ ⟨id, up, n, 0⟩ :: l.drop k := by unfold insN; rw [wh.1, wh.2]
                have sb0 : (0 : Int) ≤ k := by omega
                have sb1 : (k : Int) ≤ cap := by omega
                have sb2 : (k : Int) ≤ l.length := by omega
                have hst : (k < l.length ∧ ∃ x, w2.cell? ⟨g, k * 4, none⟩ = some (.int .i64 x) ∧ decide (x < id) = false) ∨ ¬ k < l.length := by
                  by_cases hlt : k < l.length
                  · obtain ⟨x, hx⟩ : ∃ x, l[k]? = some x := ⟨l[k], List.getElem?_eq_getElem hlt⟩
                    exact Or.inl ⟨hlt, x.id, K2.out.some (src0.out k x hx).1.1 (fun x => x), decide_eq_false (fun q => hgo ⟨x, hx, q⟩)⟩
                  · exact Or.inr hlt
                replace wh := Lib.hid wh
                replace ei := Lib.hid ei
                replace own0 := Lib.hid own0
                replace K2a := Lib.hid K2a
                replace hb := Lib.hid hb
                replace hgo := Lib.hid hgo
                rcases hst with ⟨hlt, xi, c0, t4⟩ | hlt
                all_goals
                  first
                    | (have t0 : decide (k < l.length) = true := decide_eq_true hlt; have kb : (k : Int) < l.length := by omega)
                    | (have t0 : decide (k < l.length) = false := decide_eq_false hlt)
                  go_wp2_with (at_builtin; refine wpList_append_cut rfl (.tmp 54) (.tmp 57) 32 rfl w2.heap.size 35 i0 (.agg #[.int .i64 0, .int .i64 0, .int .i64 0, .int .i64 0]) 4 32 Try.underlying32 hi.out hz0.out hz1.out hz2.out rfl (by decide) _ 0 [] rfl own0.out (some ⟨g, 0, none⟩) k cap ((l.take k).flatMap ndCells) rfl (fun h => by cases h) ?c1 ?c2 (nd_one _) ?c3 ?c4 ?c5 ?_)
                  case c1 => rw [nd_len, List.length_take, Nat.min_eq_left hk]
                  case c2 => intro ad h; injection h with h; subst h; intro j u hu; rw [Addr.add_mid, Nat.zero_add]; exact ((Keep.refl nob w2).alloc _).some (src.out _ _ (nd_take hu)) (fun x => x)
                  case c3 => unfold maxLen; omega
                  case c4 => omega
                  case c5 => rw [World.size_alloc]; omega
                  intro v9 w9 own1 gr1
                  have K9 := new_row K2a.out own0.out gr1
                  have own1 : w9.ownsRow w2.heap.size 35 4 v9 k ((l.take k).flatMap ndCells) := by simpa using own1
                  have sz9 := K9.size
                  replace own1 := Lib.hid own1
                  replace gr1 := Lib.hid gr1
                  replace K9 := Lib.hid K9
                  go_wp2_with (at_builtin; refine wpList_append_cut rfl (.tmp 59) (.tmp 64) 32 rfl w2.heap.size 35 i0 (.agg #[.int .i64 0, .int .i64 0, .int .i64 0, .int .i64 0]) 4 32 Try.underlying32 hi.out hz0.out hz1.out hz2.out rfl (by decide) _ k _ rfl (own_next own1.out ((Keep.refl _ _).alloc _)) (some ⟨w9.heap.size, 0, none⟩) 1 1 [.int .i64 id, .int .i64 up, .int .i64 n, .int .i64 0] rfl (fun h => by cases h) rfl ?c2 ?c1 ?c3 ?c4 ?c5 ?_)
                  case c2 => intro ad h; injection h with h; subst h; intro j u hu; rw [Addr.add_mid, Nat.zero_add]; exact new_at _ _ _ j u hu
                  case c1 => simp [Value.oneCell']
                  case c3 => unfold maxLen; omega
                  case c4 => omega
                  case c5 => rw [World.size_alloc]; omega
                  intro v10 w10 own2 gr2
                  have K10 := new_row (K9.out.alloc _) (own_next own1.out ((Keep.refl _ _).alloc _)) gr2
                  have sz10 := K10.size
                  replace own2 := Lib.hid own2
                  replace gr2 := Lib.hid gr2
                  replace K10 := Lib.hid K10
                  by_cases ce : cap = k
                  · try (exfalso; omega)
                    all_goals
                      subst ce
                      have e0' : l.length - cap = 0 := by omega
                      go_wp2_with (at_builtin; refine wpList_append_cut rfl (.tmp 66) (.tmp 69) 32 rfl w2.heap.size 35 i0 (.agg #[.int .i64 0, .int .i64 0, .int .i64 0, .int .i64 0]) 4 32 Try.underlying32 hi.out hz0.out hz1.out hz2.out rfl (by decide) _ (cap + 1) _ rfl own2.out _ 0 _ [] rfl ?cn rfl ?c2 (by simp) ?c3 ?c4 ?c5 ?_)
                      case c2 => intro ad h j u hu; simp at hu
                      case c3 => unfold maxLen; omega
                      case c4 => omega
                      case c5 => omega
                      intro v11 w11 own3 gr3
                      have K11 := new_row K10.out own2.out gr3
                      have own4 : w11.ownsRow w2.heap.size 35 4 v11 (insN l ⟨id, up, n, 0⟩).length ((insN l ⟨id, up, n, 0⟩).flatMap ndCells) := by
                        rw [ei.out, List.drop_of_length_le (by omega), List.flatMap_append, List.length_append, List.length_take, Nat.min_eq_left hk]
                        simpa [ndCells] using own3
                      replace K11 := Lib.hid K11
                      replace own4 := Lib.hid own4
                      replace own3 := Lib.hid own3
                      go_wp2_with fail
                      go_ret2
                      exact ⟨_, rfl, own_base own4.out (Nat.zero_le _), Or.inr (fun q hq => Nat.le_trans K2.out.size (own_tag own4.out hq).1), K2.out.then K11.out⟩
                  have ce' : ¬ k = cap := fun q => ce q.symm
                  go_wp2_with (at_builtin; refine wpList_append_cut rfl (.tmp 66) (.tmp 69) 32 rfl w2.heap.size 35 i0 (.agg #[.int .i64 0, .int .i64 0, .int .i64 0, .int .i64 0]) 4 32 Try.underlying32 hi.out hz0.out hz1.out hz2.out rfl (by decide) _ (k + 1) _ rfl own2.out (some ⟨g, k * 4, none⟩) (l.length - k) _ ((l.drop k).flatMap ndCells) rfl (fun h => by cases h) ?c1 ?c2 (nd_one _) ?c3 ?c4 ?c5 ?_)
                  case c1 => rw [nd_len, List.length_drop]
                  case c2 =>
                    intro ad h j u hu
                    injection h with h
                    subst h
                    rw [Addr.add_mid]
                    exact K10.out.some (src.out _ _ (nd_drop hk hu)) (fun x => x)
                  case c3 => unfold maxLen; omega
                  case c4 => omega
                  case c5 => omega
                  intro v11 w11 own3 gr3
                  have K11 := new_row K10.out own2.out gr3
                  have own4 : w11.ownsRow w2.heap.size 35 4 v11 (insN l ⟨id, up, n, 0⟩).length ((insN l ⟨id, up, n, 0⟩).flatMap ndCells) := by
                    rw [ei.out, List.flatMap_append, List.length_append, List.length_take, Nat.min_eq_left hk, List.length_cons, List.length_drop, show k + (l.length - k + 1) = k + 1 + (l.length - k) by omega, List.flatMap_cons]
                    simpa [ndCells] using own3
                  replace K11 := Lib.hid K11
                  replace own4 := Lib.hid own4
                  replace own3 := Lib.hid own3
                  go_wp2_with fail
                  go_ret2
                  exact ⟨_, rfl, own_base own4.out (Nat.zero_le _), Or.inr (fun q hq => Nat.le_trans K2.out.size (own_tag own4.out hq).1), K2.out.then K11.out⟩
    · have h2' : fitsN up n = false := by simpa using h2
      rw [h2'] at F2
      have e0 : opnN l id up n = 2 := by unfold opnN; rw [h1, h2']; rfl
      have el : opnL l id up n = l := by unfold opnL; rw [e0]; rfl
      rw [e0, el]
      replace F1 := Lib.hid F1
      replace F2 := Lib.hid F2
      replace h := Lib.hid h
      replace G := Lib.hid G
      replace e0 := Lib.hid e0
      replace el := Lib.hid el
      replace h1 := Lib.hid h1
      replace h2 := Lib.hid h2
      replace h2' := Lib.hid h2'
      go_enter Try.func26, Try.ntmps26
      go_wp2_with fail
      refine Calls.mono F1.out ?_
      rintro r w1 ⟨rfl, rfl⟩
      go_wp2_with fail
      refine Calls.mono F2.out ?_
      rintro r w1 ⟨rfl, rfl⟩
      go_wp2_with fail
      go_ret2
      exact NlPost.same h.out (Keep.refl _ _)
  · have h1' : fitsN id n = false := by simpa using h1
    rw [h1'] at F1
    have e0 : opnN l id up n = 2 := by unfold opnN; rw [h1']; rfl
    have el : opnL l id up n = l := by unfold opnL; rw [e0]; rfl
    rw [e0, el]
    replace F1 := Lib.hid F1
    replace F2 := Lib.hid F2
    replace h := Lib.hid h
    replace G := Lib.hid G
    replace e0 := Lib.hid e0
    replace el := Lib.hid el
    replace h1 := Lib.hid h1
    replace h1' := Lib.hid h1'
    go_enter Try.func26, Try.ntmps26
    go_wp2_with fail
    refine Calls.mono F1.out ?_
    rintro r w1 ⟨rfl, rfl⟩
    go_wp2_with fail
    go_ret2
    exact NlPost.same h.out (Keep.refl _ _)
end
end Go.Proofs.Ytepmljcapobodaa
