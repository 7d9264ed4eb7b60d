/- Of prioryref11: Close. -/
import Derived.Test.YtepmljcapobodaaBudRef4
namespace Go.Proofs.Ytepmljcapobodaa
open Go.RowKit
set_option linter.unusedVariables false
set_option linter.unusedSimpArgs false
set_option maxRecDepth 100000
def partC (l : List Nd) (id up : Int) (j : Nat) : List Nd := (delN (l.take j) id).map (reUp id up)
theorem partC_succ {l : List Nd} {id up : Int} {j : Nat} {y : Nd} (h : l[j]? = some y) : partC l id up (j + 1) = partC l id up j ++ (if y.id = id then [] else [reUp id up y]) := by
  unfold partC delN
  rw [List.take_add_one, h, List.filter_append, List.map_append]
  congr 1
  show List.map _ (List.filter _ [y]) = _
  rw [List.filter_cons]
  by_cases e : y.id = id
  · rw [if_neg (by simp [e]), if_pos e]; rfl
  · rw [if_pos (by simp [e]), if_neg e]; rfl
theorem partC_len (l : List Nd) (id up : Int) (j : Nat) : (partC l id up j).length ≤ l.length := by
  unfold partC delN
  rw [List.length_map]
  exact Nat.le_trans (List.length_filter_le _ _) (by rw [List.length_take]; omega)
theorem idx_iff {l : List Nd} (s : l.Pairwise (fun x y => x.id < y.id)) {id : Int} {x y : Nd} (hx : findN l id = some x) {j : Nat} (hy : l[j]? = some y) : y.id = id ↔ j = idxN l id := by
  constructor
  · intro e
    refine (idx_at hy e fun i z hi hz q => ?_).2.symm
    have hjl := (List.getElem?_eq_some_iff.1 hy)
    have hil := (List.getElem?_eq_some_iff.1 hz)
    have := List.pairwise_iff_getElem.1 s i j hil.1 hjl.1 hi
    rw [hil.2, hjl.2] at this
    omega
  · intro e
    subst e
    have := idx_some hx
    rw [hy] at this
    injection this with this
    rw [this]
    exact (findN_some hx).2
def InvCl (w : World) (l : List Nd) (id up : Int) (out i : Value) (wr : World) : Prop :=
  ∃ j : Nat, i = .int .i64 j ∧ j ≤ l.length ∧ wr.ownsRow w.heap.size 35 4 out (partC l id up j).length ((partC l id up j).flatMap ndCells) ∧ Keep nob w wr
section
variable {w : World} {v : Value} {l : List Nd}
set_option maxHeartbeats 3200000 in
theorem rcls_ok (h : NL w v l) (G : Good l) (id : Int) : Calls Try.prog 27 #[v, .int .i64 id] w (NlPost w v (clsL l id) (clsN l id)) := by
  have ln := G.len
  have F1 := fits_ok w id 0
  by_cases h1 : fitsN id 0 = true
  · rw [h1] at F1
    have hf := fitsN_iff.1 h1
    have A1 := at_ok11 h G.pos (by omega) id
    cases e : findN l id with
    | none =>
      have ec : clsN l id = 4 := by unfold clsN; rw [if_pos h1, e]
      have el : clsL l id = l := clsL_no (by rw [ec]; decide)
      rw [atN_none e] at A1
      rw [ec, el]
      clear hf
      replace F1 := Lib.hid F1
      replace A1 := Lib.hid A1
      replace h := Lib.hid h
      replace G := Lib.hid G
      replace ec := Lib.hid ec
      replace el := Lib.hid el
      replace e := Lib.hid e
      replace h1 := Lib.hid h1
      go_enter Try.func27, Try.ntmps27
      go_wp2_with fail
      refine Calls.mono F1.out ?_
      rintro r w1 ⟨rfl, rfl⟩
      go_wp2_with fail
      refine Calls.mono A1.out ?_
      rintro r w1 ⟨rfl, rfl⟩
      go_wp2_with fail
      go_ret2
      exact NlPost.same h.out (Keep.refl _ _)
    | some x =>
      have ec : clsN l id = if id = 1 ∨ x.us ≠ 0 then 9 else 0 := by unfold clsN; rw [if_pos h1, e]
      rw [atN_some e] at A1
      have hx := idx_some e
      have hi : idxN l id < l.length := (List.getElem?_eq_some_iff.1 hx).1
      have xm := List.mem_of_getElem? hx
      have IFF := fun (j : Nat) (y : Nd) (hy : l[j]? = some y) => idx_iff G.srt e hy
      obtain ⟨ix, hix⟩ : ∃ i, idxN l id = i := ⟨_, rfl⟩
      rw [hix] at A1 hx hi IFF
      have ta : decide ((ix : Int) < 0) = false := by simp
      obtain ⟨g, cap, hv, hc, hg, src⟩ := h.form G.pos
      subst hv
      have gp := G.pos
      have kz : (0 : Int) ≤ ix := by omega
      have kb : (ix : Int) < l.length := by omega
      have d3 := (src ix x hx).1.2.2.2
      have d1 := (src ix x hx).1.2.1
      clear hf
      by_cases h2 : id = 1
      · rw [if_pos (Or.inl h2)] at ec
        have el : clsL l id = l := clsL_no (by rw [ec]; decide)
        rw [ec, el]
        subst h2
        replace F1 := Lib.hid F1
        replace A1 := Lib.hid A1
        replace h := Lib.hid h
        replace G := Lib.hid G
        replace ec := Lib.hid ec
        replace el := Lib.hid el
        replace e := Lib.hid e
        replace h1 := Lib.hid h1
        replace hx := Lib.hid hx
        replace src := Lib.hid src
        replace xm := Lib.hid xm
        replace IFF := Lib.hid IFF
        replace hix := Lib.hid hix
        go_enter Try.func27, Try.ntmps27
        go_wp2_with fail
        refine Calls.mono F1.out ?_
        rintro r w1 ⟨rfl, rfl⟩
        go_wp2_with fail
        refine Calls.mono A1.out ?_
        rintro r w1 ⟨rfl, rfl⟩
        go_wp2_with fail
        go_ret2
        exact NlPost.same h.out (Keep.refl _ _)
      · have t1 : (id == 1) = false := by simpa using h2
        by_cases h3 : x.us = 0
        · rw [if_neg (by rintro (z | z); exact h2 z; exact z h3)] at ec
          rw [ec, clsL_eq ec e]
          rw [h3] at d3
          obtain ⟨up, hup⟩ : ∃ up, x.up = up := ⟨_, rfl⟩
          rw [hup] at d1 ⊢
          obtain ⟨i0, hi0, hz0, hz1, hz2⟩ := info_parts infoNd
          replace F1 := Lib.hid F1
          replace A1 := Lib.hid A1
          replace h := Lib.hid h
          replace G := Lib.hid G
          replace ec := Lib.hid ec
          replace e := Lib.hid e
          replace h1 := Lib.hid h1
          replace hx := Lib.hid hx
          replace src := Lib.hid src
          replace xm := Lib.hid xm
          replace IFF := Lib.hid IFF
          replace hix := Lib.hid hix
          replace hi0 := Lib.hid hi0
          replace hz0 := Lib.hid hz0
          replace hz1 := Lib.hid hz1
          replace hz2 := Lib.hid hz2
          go_enter Try.func27, Try.ntmps27
          go_wp2_with fail
          refine Calls.mono F1.out ?_
          rintro r w1 ⟨rfl, rfl⟩
          go_wp2_with fail
          refine Calls.mono A1.out ?_
          rintro r w1 ⟨rfl, rfl⟩
          go_wp2_with fail
          go_loopw [7, 8] (fun out i wr => InvCl w l id up out i wr) (fun _ i _ => (l.length - intOf i).toNat)
          case atStart => exact ⟨0, rfl, Nat.zero_le _, by simpa [partC, delN] using World.ownsRow_nil _ _ _ _, Keep.refl _ _⟩
          case round =>
            obtain ⟨j, rfl, hj, O, K⟩ := hrel
            by_cases hlt : j < l.length
            · obtain ⟨y, hy⟩ : ∃ y, l[j]? = some y := ⟨l[j], List.getElem?_eq_getElem hlt⟩
              obtain ⟨⟨c0, c1, c2, c3⟩, -⟩ := src.out j y hy
              replace c0 := K.some c0 (fun x => x)
              replace c1 := K.some c1 (fun x => x)
              replace c2 := K.some c2 (fun x => x)
              replace c3 := K.some c3 (fun x => x)
              have u1 := fun o => ((Keep.refl nob wr).alloc o).some (K.some d1 (fun x => x)) (fun x => x)
              have iff := IFF.out j y hy
              have PS := partC_succ (id := id) (up := up) hy
              have PL := partC_len l id up j
              have jz : (0 : Int) ≤ j := by omega
              have jb : (j : Int) < l.length := by omega
              have t0 : decide (j < l.length) = true := decide_eq_true hlt
              have szr := K.size
              obtain ⟨⟨yi, yu, yq, ys⟩, hY⟩ : ∃ z, z = y := ⟨_, rfl⟩
              subst hY
              dsimp only at c0 c1 c2 c3 iff PS
              obtain ⟨n, hn⟩ : ∃ n, (partC l id up j).length = n := ⟨_, rfl⟩
              rw [hn] at O PL
              by_cases e1 : yu = id
              · have er : reUp id up ⟨yi, yu, yq, ys⟩ = ⟨yi, up, yq, ys⟩ := by unfold reUp; rw [if_pos e1]
                rw [er] at PS
                subst e1
                by_cases e2 : j = ix
                · rw [if_pos (iff.2 e2), List.append_nil] at PS
                  have t4 : ((j : Int) != ix) = false := by rw [e2]; simp
                  have t4' : (j != ix) = false := by rw [e2]; simp
                  replace O := Lib.hid O
                  replace K := Lib.hid K
                  replace hy := Lib.hid hy
                  replace iff := Lib.hid iff
                  replace PS := Lib.hid PS
                  replace er := Lib.hid er
                  replace e2 := Lib.hid e2
                  replace hn := Lib.hid hn
                  go_wp2_with fail
                  go_roundw
                  case rel => exact ⟨j + 1, by go_num, by omega, by rw [PS.out, hn.out]; exact own_next O.out ((Keep.refl _ _).alloc _), K.out.alloc _⟩
                  case measure => simp [intOf]; omega
                · rw [if_neg (fun z => e2 (iff.1 z))] at PS
                  have t4 : ((j : Int) != ix) = true := by simp; omega
                  have t4' : (j != ix) = true := by simpa using e2
                  replace O := Lib.hid O
                  replace K := Lib.hid K
                  replace hy := Lib.hid hy
                  replace iff := Lib.hid iff
                  replace PS := Lib.hid PS
                  replace er := Lib.hid er
                  replace e2 := Lib.hid e2
                  replace hn := Lib.hid hn
                  go_wp2_with (at_builtin; refine wpList_append_own _ rfl (.tmp 54) (.tmp 56) 32 rfl w.heap.size 35 i0 (.agg #[.int .i64 0, .int .i64 0, .int .i64 0, .int .i64 0]) 4 32 Try.underlying32 hi0.out hz0.out hz1.out hz2.out rfl (by decide) u7 n _ rfl (own_next O.out (((Keep.refl nob wr).alloc _).alloc _)) ⟨wr.heap.size + 1, 0, none⟩ 1 1 [.int .i64 yi, .int .i64 up, .int .i64 yq, .int .i64 ys] rfl rfl ?c1 ?c2 ?c3 ?c4 ?c5 ?_)
                  case c1 =>
                    intro k u hu
                    rw [Addr.add_mid, Nat.zero_add]
                    have := new_at (wr.alloc (.cells #[.int .i64 yi, .int .i64 up, .int .i64 yq, .int .i64 ys] 35)) #[.int .i64 yi, .int .i64 up, .int .i64 yq, .int .i64 ys] 35 k u hu
                    rwa [World.size_alloc] at this
                  case c2 => simp [Value.oneCell']
                  case c3 => unfold maxLen; omega
                  case c4 => omega
                  case c5 => simp; omega
                  intro v' w3 hown hgrow _
                  have A1 := Lib.hid (new_row (K.out.trans (((Keep.refl nob wr).alloc _).alloc _) (fun _ _ q => q)) (own_next O.out (((Keep.refl nob wr).alloc _).alloc _)) hgrow)
                  have O1 := Lib.hid hown
                  clear hown hgrow O K c0 c1 c2 c3 u1
                  go_wp2_with fail
                  go_roundw
                  case rel =>
                    refine ⟨j + 1, by go_num, by omega, ?_, A1.out⟩
                    rw [PS.out, List.length_append, List.flatMap_append, hn.out]
                    exact O1.out
                  case measure => simp [intOf]; omega
              · have t3 : (yu == id) = false := by simpa using e1
                have er : reUp id up ⟨yi, yu, yq, ys⟩ = ⟨yi, yu, yq, ys⟩ := by unfold reUp; rw [if_neg e1]
                rw [er] at PS
                by_cases e2 : j = ix
                · rw [if_pos (iff.2 e2), List.append_nil] at PS
                  have t4 : ((j : Int) != ix) = false := by rw [e2]; simp
                  have t4' : (j != ix) = false := by rw [e2]; simp
                  replace O := Lib.hid O
                  replace K := Lib.hid K
                  replace hy := Lib.hid hy
                  replace iff := Lib.hid iff
                  replace PS := Lib.hid PS
                  replace e1 := Lib.hid e1
                  replace er := Lib.hid er
                  replace e2 := Lib.hid e2
                  replace hn := Lib.hid hn
                  go_wp2_with fail
                  go_roundw
                  case rel => exact ⟨j + 1, by go_num, by omega, by rw [PS.out, hn.out]; exact own_next O.out ((Keep.refl _ _).alloc _), K.out.alloc _⟩
                  case measure => simp [intOf]; omega
                · rw [if_neg (fun z => e2 (iff.1 z))] at PS
                  have t4 : ((j : Int) != ix) = true := by simp; omega
                  have t4' : (j != ix) = true := by simpa using e2
                  replace O := Lib.hid O
                  replace K := Lib.hid K
                  replace hy := Lib.hid hy
                  replace iff := Lib.hid iff
                  replace PS := Lib.hid PS
                  replace e1 := Lib.hid e1
                  replace er := Lib.hid er
                  replace e2 := Lib.hid e2
                  replace hn := Lib.hid hn
                  go_wp2_with (at_builtin; refine wpList_append_own _ rfl (.tmp 54) (.tmp 56) 32 rfl w.heap.size 35 i0 (.agg #[.int .i64 0, .int .i64 0, .int .i64 0, .int .i64 0]) 4 32 Try.underlying32 hi0.out hz0.out hz1.out hz2.out rfl (by decide) u7 n _ rfl (own_next O.out (((Keep.refl nob wr).alloc _).alloc _)) ⟨wr.heap.size + 1, 0, none⟩ 1 1 [.int .i64 yi, .int .i64 yu, .int .i64 yq, .int .i64 ys] rfl rfl ?c1 ?c2 ?c3 ?c4 ?c5 ?_)
                  case c1 =>
                    intro k u hu
                    rw [Addr.add_mid, Nat.zero_add]
                    have := new_at ((wr.alloc (.cells #[.int .i64 yi, .int .i64 yu, .int .i64 yq, .int .i64 ys] 35))) #[.int .i64 yi, .int .i64 yu, .int .i64 yq, .int .i64 ys] 35 k u hu
                    rwa [World.size_alloc] at this
                  case c2 => simp [Value.oneCell']
                  case c3 => unfold maxLen; omega
                  case c4 => omega
                  case c5 => simp; omega
                  intro v' w3 hown hgrow _
                  have A1 := Lib.hid (new_row (K.out.trans (((Keep.refl nob wr).alloc _).alloc _) (fun _ _ q => q)) (own_next O.out (((Keep.refl nob wr).alloc _).alloc _)) hgrow)
                  have O1 := Lib.hid hown
                  clear hown hgrow O K c0 c1 c2 c3 u1
                  go_wp2_with fail
                  go_roundw
                  case rel =>
                    refine ⟨j + 1, by go_num, by omega, ?_, A1.out⟩
                    rw [PS.out, List.length_append, List.flatMap_append, hn.out]
                    exact O1.out
                  case measure => simp [intOf]; omega
            · obtain rfl : j = l.length := by omega
              have t0 : decide (l.length < l.length) = false := by simp
              have eP : partC l id up l.length = (delN l id).map (reUp id up) := by unfold partC; rw [List.take_length]
              rw [eP] at O
              replace O := Lib.hid O
              replace K := Lib.hid K
              go_wp2_with fail
              go_ret2
              exact ⟨_, rfl, own_base O.out (Nat.zero_le _), Or.inr (fun q hq => (own_tag O.out hq).1), K.out⟩
        · have t2 : (x.us != 0) = true := by simpa using h3
          rw [if_pos (Or.inr h3)] at ec
          have el : clsL l id = l := clsL_no (by rw [ec]; decide)
          rw [ec, el]
          replace F1 := Lib.hid F1
          replace A1 := Lib.hid A1
          replace h := Lib.hid h
          replace G := Lib.hid G
          replace ec := Lib.hid ec
          replace el := Lib.hid el
          replace e := Lib.hid e
          replace h1 := Lib.hid h1
          replace hx := Lib.hid hx
          replace src := Lib.hid src
          replace xm := Lib.hid xm
          replace IFF := Lib.hid IFF
          replace hix := Lib.hid hix
          go_enter Try.func27, Try.ntmps27
          go_wp2_with fail
          refine Calls.mono F1.out ?_
          rintro r w1 ⟨rfl, rfl⟩
          go_wp2_with fail
          refine Calls.mono A1.out ?_
          rintro r w1 ⟨rfl, rfl⟩
          go_wp2_with fail
          go_ret2
          exact NlPost.same h.out (Keep.refl _ _)
  · have h1' : fitsN id 0 = false := by simpa using h1
    rw [h1'] at F1
    have ec : clsN l id = 2 := by unfold clsN; rw [h1']; rfl
    have el : clsL l id = l := clsL_no (by rw [ec]; decide)
    rw [ec, el]
    replace F1 := Lib.hid F1
    replace h := Lib.hid h
    replace G := Lib.hid G
    replace ec := Lib.hid ec
    replace el := Lib.hid el
    replace h1 := Lib.hid h1
    replace h1' := Lib.hid h1'
    go_enter Try.func27, Try.ntmps27
    go_wp2_with fail
    refine Calls.mono F1.out ?_
    rintro r w1 ⟨rfl, rfl⟩
    go_wp2_with fail
    go_ret2
    exact NlPost.same h.out (Keep.refl _ _)
end
end Go.Proofs.Ytepmljcapobodaa
