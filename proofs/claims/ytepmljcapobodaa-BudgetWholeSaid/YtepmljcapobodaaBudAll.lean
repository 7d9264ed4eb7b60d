/- Contracts of package budget: All. -/
import Derived.Test.YtepmljcapobodaaBud4
import Derived.Test.YtepmljcapobodaaBudShelf
namespace Go.Proofs.Ytepmljcapobodaa
open Go.RowKit
set_option linter.unusedVariables false
set_option linter.unusedSimpArgs false
set_option maxRecDepth 100000
theorem infoNd : (Try.prog.info? 35).map (fun i => (i.zero, i.size, i.bytes)) = some (some (.agg #[.int .i64 0, .int .i64 0, .int .i64 0, .int .i64 0]), 4, 32) := by kernel_rfl
theorem nd_len (l : List Nd) : (l.flatMap ndCells).length = l.length * 4 := by
  induction l with
  | nil => rfl
  | cons a l ih => rw [List.flatMap_cons, List.length_append, ih, List.length_cons]; show 4 + _ = _; omega
theorem nd_snoc (l : List Nd) {k : Nat} {x : Nd} (h : l[k]? = some x) : (l.take (k + 1)).flatMap ndCells = (l.take k).flatMap ndCells ++ ndCells x := by
  rw [List.take_add_one, h, List.flatMap_append]
  simp
theorem ids_get {l : List Nd} {k : Nat} {x : Nd} (h : l[k]? = some x) : (l.map fun x => Value.int .i64 x.id)[k]? = some (.int .i64 x.id) := by
  rw [List.getElem?_map, h]; rfl
def InvA (w w2 : World) (l : List Nd) (out i : Value) (wr : World) : Prop :=
  ∃ k : Nat, i = .int .i64 k ∧ k ≤ l.length ∧ wr.ownsRow w2.heap.size 35 4 out k ((l.take k).flatMap ndCells) ∧ Keep nob w2 wr
section
variable {w : World} {b mb q : Nat} {P : Nat → Prop} {f : Int → Option Nat} {l : List Nd}
set_option maxHeartbeats 1600000 in
theorem all_ok (U : BuAt w b mb P q f l) (G : Good l) :
    Calls Try.prog 15 #[.pointer (some ⟨b, 0, none⟩)] w fun r w' => ∃ v, r = .returned v ∧ w'.ownsRow w.heap.size 35 4 v l.length (l.flatMap ndCells) ∧ Keep nob w w' := by
  have c0 := U.c
  have ln := G.len
  have KY := keysU (some mb) w
  have ST := sortedU w mb q f U.M (l.map Nd.id) (by rw [List.pairwise_map]; exact G.srt) (fun k => by
    rw [U.has k, List.mem_map]
    constructor
    · rintro ⟨x, hx, rfl⟩
      rw [findN_of G.srt hx]
      rfl
    · intro h
      obtain ⟨x, hx⟩ := Option.isSome_iff_exists.1 h
      exact ⟨x, (findN_some hx).1, (findN_some hx).2⟩) (by rw [List.length_map]; omega)
  rw [List.length_map, List.map_map] at ST
  have K0 : Keep nob w (w.alloc (.cells #[.map (some mb)] 47)) := (Keep.refl _ _).alloc _
  obtain ⟨i0, hi, hz0, hz1, hz2⟩ := info_parts infoNd
  replace U := Lib.hid U
  replace G := Lib.hid G
  replace KY := Lib.hid KY
  replace ST := Lib.hid ST
  replace K0 := Lib.hid K0
  replace hi := Lib.hid hi
  replace hz0 := Lib.hid hz0
  replace hz1 := Lib.hid hz1
  replace hz2 := Lib.hid hz2
  go_enter Try.func15, Try.ntmps15
  go_wp2_with fail
  refine Calls.mono KY.out ?_
  rintro r w1 ⟨rfl, rfl⟩
  go_wp2_with fail
  refine Calls.mono ST.out ?_
  rintro r w2 ⟨v, rfl, row, K2⟩
  have KA := K0.out.then K2
  have UA := U.out.next KA
  have sz2 := KA.size
  obtain ⟨av, cv, rfl⟩ := row_form row
  replace row := Lib.hid row
  replace KA := Lib.hid KA
  replace UA := Lib.hid UA
  replace K2 := Lib.hid K2
  clear c0
  go_wp2_with fail
  go_loopw [3, 15] (fun out i wr => InvA w w2 l out i wr) (fun _ i _ => (l.length - intOf i).toNat)
  case atStart => exact ⟨0, rfl, Nat.zero_le _, by simpa using World.ownsRow_nil _ _ _ _, Keep.refl _ _⟩
  case round =>
    obtain ⟨k, rfl, hk, O, A⟩ := hrel
    by_cases hlt : k < l.length
    · obtain ⟨x, hx⟩ : ∃ x, l[k]? = some x := ⟨l[k], List.getElem?_eq_getElem hlt⟩
      obtain ⟨gs, cv', hvx, _, _, _, src⟩ := own_cells row.out (by omega)
      injection hvx with q1 q2 q3
      subst q1; subst q3
      have e1 := A.some (src k _ (ids_get hx)).1 (fun x => x)
      have xm := List.mem_of_getElem? hx
      have UR := UA.out.next A
      have c0 := UR.c
      obtain ⟨p, hp, N⟩ := UR.on _ _ (findN_of G.out.srt xm)
      have rg := G.out.ids x xm
      have LR := look_yes UR.M (by unfold wfI; omega) hp
      have d0 := N.c0
      have d1 := N.c1
      have d2 := N.c2
      have d3 := N.c3
      have kz : (0 : Int) ≤ k := by omega
      have kb : (k : Int) < l.length := by omega
      have t1 : decide (k < l.length) = true := by simpa using hlt
      have ex := nd_snoc l hx
      have sa := A.size
      obtain ⟨⟨xi, xu, xq, xs⟩, hX⟩ : ∃ y, y = x := ⟨_, rfl⟩
      subst hX
      dsimp only at e1 LR d0 d1 d2 d3
      replace O := Lib.hid O
      replace A := Lib.hid A
      replace hx := Lib.hid hx
      replace src := Lib.hid src
      replace UR := Lib.hid UR
      replace N := Lib.hid N
      replace hp := Lib.hid hp
      replace rg := Lib.hid rg
      replace xm := Lib.hid xm
      replace ex := Lib.hid ex
      go_wp2_with (at_builtin; refine wpList_append_own _ rfl (.tmp 19) (.tmp 28) 32 rfl w2.heap.size 35 i0 (.agg #[.int .i64 0, .int .i64 0, .int .i64 0, .int .i64 0]) 4 32 Try.underlying32 hi.out hz0.out hz1.out hz2.out rfl (by decide) u3 k _ rfl (own_next O.out ((Keep.refl _ _).alloc _)) ⟨wr.heap.size, 0, none⟩ 1 1 [.int .i64 xi, .int .i64 xu, .int .i64 xq, .int .i64 xs] rfl rfl ?c1 ?c2 ?c3 ?c4 ?c5 ?_)
      case c2 => simp [Value.oneCell']
      case c3 => unfold maxLen; omega
      case c4 => omega
      case c5 => exact Nat.le_trans A.out.size (by simp)
      intro v' w3 hown hgrow _
      have O1 := Lib.hid hown
      have A1 := Lib.hid (new_row (A.out.alloc _) (own_next O.out ((Keep.refl _ _).alloc _)) hgrow)
      clear hown hgrow O A d0 d1 d2 d3 c0 e1 LR
      go_wp2_with fail
      go_roundw
      case rel =>
        refine ⟨k + 1, by go_num, by omega, ?_, A1.out⟩
        rw [ex.out]
        exact O1.out
      case measure => simp [intOf]; omega
    · obtain rfl : k = l.length := by omega
      have t1 : decide (l.length < l.length) = false := by simp
      have O : wr.ownsRow w2.heap.size 35 4 u3 l.length (l.flatMap ndCells) := by rw [List.take_length] at O; exact O
      replace O := Lib.hid O
      replace A := Lib.hid A
      go_wp2_with fail
      go_ret
      exact ⟨_, rfl, own_base O.out sz2, KA.out.then A.out⟩
end
end Go.Proofs.Ytepmljcapobodaa
