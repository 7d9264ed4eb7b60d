/- The document's pool (package prioryref09): Share, Free, Alloc. -/
import Derived.Test.YtepmljcapobodaaDoorRefPal2
namespace Go.Proofs.YtepmljcapobodaaDoor
open Go.RowKit
set_option linter.unusedVariables false
set_option maxRecDepth 100000
set_option maxHeartbeats 1600000 in
theorem rshare {w : World} {B : PB} {pw n g h : Nat} {v : Value} {l : List (Int × Int)} {c : Nat → Int} {f : Int → Int} (G : Geo B) (S : Same B n l) (R : RefsOk B f) (L : PairsAt w v l) (P : RpAt w pw g h n v c f) (x : Int) :
    Calls Tryd.prog 61 #[.pointer (some ⟨pw, 0, none⟩), .int .i64 x] w fun r w' => r = .returned (.int .i64 (shaE B f x)) ∧ RpAt w' pw g h n v c (shaF B f x) ∧ Keep (only h) w w' := by
  have p0 := P.p0
  have p1 := P.p1
  have p2 := P.p2
  have C := Lib.hid (rowner (g := g) (h := h) G S L x)
  obtain ⟨a, cap, hv, hm, hcap, hc⟩ := L
  subst hv
  unfold refV at p1
  unfold refsV at p2
  unfold refV refsV at C
  rcases ownE_or B x with ⟨e1, j, hj⟩ | ⟨e1, hj⟩
  · obtain ⟨b, hb⟩ : ∃ b, (ownE B x).1 = b := ⟨_, rfl⟩
    rw [hb, e1] at C
    have hx := inr_lt G hj
    rw [S.n] at hx
    obtain ⟨x, rfl⟩ : ∃ y : Nat, x = y := ⟨x.toNat, by omega⟩
    have d := P.F x (by omega)
    have z := P.Z x
    have hx2 : x < n := by omega
    obtain ⟨r1, r2⟩ := R.rng (x : Int)
    have hE : shaE B f (x : Int) = if f (x : Int) = 0 then 4 else if f (x : Int) = 64 then 3 else 0 := by unfold shaE; rw [e1]; simp
    obtain ⟨u, hu⟩ : ∃ u, f (x : Int) = u := ⟨_, rfl⟩
    rw [hu] at r1 r2 hE d
    replace P := Lib.hid P
    replace hc := Lib.hid hc
    by_cases h0 : u = 0
    · rw [if_pos h0] at hE
      have hF : shaF B f (x : Int) = f := by unfold shaF; rw [hE, if_neg (by decide)]
      rw [hE, hF]
      subst h0
      replace hb := Lib.hid hb
      replace hj := Lib.hid hj
      replace e1 := Lib.hid e1
      replace hu := Lib.hid hu
      replace hE := Lib.hid hE
      replace hF := Lib.hid hF
      clear hx r1 r2
      go_enter Tryd.func61, Tryd.ntmps61
      go_wp2_with fail
      refine Calls.mono C.out ?_
      rintro r w5 ⟨rfl, K5⟩
      have q0 := K5.some p0 (fun x => x)
      have q2 := K5.some p2 (fun x => x)
      have qd := K5.some d (fun x => x)
      replace K5 := Lib.hid K5
      clear p0 p1 p2 d z
      go_wp2_with fail
      go_ret
      exact ⟨rfl, P.out.next K5.out, K5.out.nob⟩
    rw [if_neg h0] at hE
    have t0 : (u == 0) = false := by simpa using h0
    by_cases h1 : u = 64
    · rw [if_pos h1] at hE
      have hF : shaF B f (x : Int) = f := by unfold shaF; rw [hE, if_neg (by decide)]
      rw [hE, hF]
      subst h1
      replace hb := Lib.hid hb
      replace hj := Lib.hid hj
      replace e1 := Lib.hid e1
      replace hu := Lib.hid hu
      replace hE := Lib.hid hE
      replace hF := Lib.hid hF
      clear hx r1 r2 h0 t0
      go_enter Tryd.func61, Tryd.ntmps61
      go_wp2_with fail
      refine Calls.mono C.out ?_
      rintro r w5 ⟨rfl, K5⟩
      have q0 := K5.some p0 (fun x => x)
      have q2 := K5.some p2 (fun x => x)
      have qd := K5.some d (fun x => x)
      replace K5 := Lib.hid K5
      clear p0 p1 p2 d z
      go_wp2_with fail
      go_ret
      exact ⟨rfl, P.out.next K5.out, K5.out.nob⟩
    rw [if_neg h1] at hE
    have t1 : decide (64 ≤ u) = false := by simp; omega
    have hF : shaF B f (x : Int) = updI f (x : Int) (u + 1) := by unfold shaF; rw [hE, if_pos rfl, hu]
    rw [hE, hF]
    replace hb := Lib.hid hb
    replace hj := Lib.hid hj
    replace e1 := Lib.hid e1
    replace hu := Lib.hid hu
    replace hE := Lib.hid hE
    replace hF := Lib.hid hF
    clear hx h0 h1
    go_enter Tryd.func61, Tryd.ntmps61
    go_wp2_with fail
    refine Calls.mono C.out ?_
    rintro r w5 ⟨rfl, K5⟩
    have q0 := K5.some p0 (fun x => x)
    have q2 := K5.some p2 (fun x => x)
    have qd := K5.some d (fun x => x)
    have P5 := Lib.hid (P.out.next K5)
    have qz := P5.out.Z x
    have K6 : Keep (only h) w w5 := K5.nob
    replace K5 := Lib.hid K5
    replace K6 := Lib.hid K6
    clear p0 p1 p2 d z
    go_wp2_with fail
    go_region
    all_goals
      go_wp2_with fail
      go_ret
      refine ⟨rfl, ?_, ?_⟩
      · exact ((P5.out.set x hx2 _).next (Keep.refl nob _).drew)
      · exact (K6.out.setCell (p := ⟨h, x, none⟩) _ (Or.inr rfl)).drew
  · have hE : shaE B f x = 2 := by unfold shaE; rw [e1]; simp
    have hF : shaF B f x = f := by unfold shaF; rw [hE, if_neg (by decide)]
    rw [hE, hF]
    rw [e1] at C
    replace hj := Lib.hid hj
    replace e1 := Lib.hid e1
    replace hE := Lib.hid hE
    replace hF := Lib.hid hF
    replace P := Lib.hid P
    replace hc := Lib.hid hc
    go_enter Tryd.func61, Tryd.ntmps61
    go_wp2_with fail
    refine Calls.mono C.out ?_
    rintro r w5 ⟨rfl, K5⟩
    replace K5 := Lib.hid K5
    clear p0 p1 p2
    go_wp2_with fail
    go_ret
    exact ⟨rfl, P.out.next K5.out, K5.out.nob⟩
set_option maxHeartbeats 1600000 in
theorem rfree {w : World} {B : PB} {pw n g h : Nat} {v : Value} {l : List (Int × Int)} {c : Nat → Int} {f : Int → Int} (G : Geo B) (S : Same B n l) (R : RefsOk B f) (L : PairsAt w v l) (P : RpAt w pw g h n v c f) (x : Int) :
    Calls Tryd.prog 62 #[.pointer (some ⟨pw, 0, none⟩), .int .i64 x] w fun r w' => r = .returned (.int .i64 (freE B f x)) ∧ RpAt w' pw g h n v c (freF B f x) ∧ Keep (only h) w w' := by
  have p0 := P.p0
  have p1 := P.p1
  have p2 := P.p2
  have C := Lib.hid (rowner (g := g) (h := h) G S L x)
  obtain ⟨a, cap, hv, hm, hcap, hc⟩ := L
  subst hv
  unfold refV at p1
  unfold refsV at p2
  unfold refV refsV at C
  rcases ownE_or B x with ⟨e1, j, hj⟩ | ⟨e1, hj⟩
  · obtain ⟨b, hb⟩ : ∃ b, (ownE B x).1 = b := ⟨_, rfl⟩
    rw [hb, e1] at C
    have hx := inr_lt G hj
    rw [S.n] at hx
    obtain ⟨x, rfl⟩ : ∃ y : Nat, x = y := ⟨x.toNat, by omega⟩
    have d := P.F x (by omega)
    have z := P.Z x
    have hx2 : x < n := by omega
    obtain ⟨r1, r2⟩ := R.rng (x : Int)
    have hE : freE B f (x : Int) = if f (x : Int) = 0 then 4 else 0 := by unfold freE; rw [e1]; simp
    obtain ⟨u, hu⟩ : ∃ u, f (x : Int) = u := ⟨_, rfl⟩
    rw [hu] at r1 r2 hE d
    replace P := Lib.hid P
    replace hc := Lib.hid hc
    by_cases h0 : u = 0
    · rw [if_pos h0] at hE
      have hF : freF B f (x : Int) = f := by unfold freF; rw [hE, if_neg (by decide)]
      rw [hE, hF]
      subst h0
      replace hb := Lib.hid hb
      replace hj := Lib.hid hj
      replace e1 := Lib.hid e1
      replace hu := Lib.hid hu
      replace hE := Lib.hid hE
      replace hF := Lib.hid hF
      clear hx r1 r2
      go_enter Tryd.func62, Tryd.ntmps62
      go_wp2_with fail
      refine Calls.mono C.out ?_
      rintro r w5 ⟨rfl, K5⟩
      have q0 := K5.some p0 (fun x => x)
      have q2 := K5.some p2 (fun x => x)
      have qd := K5.some d (fun x => x)
      replace K5 := Lib.hid K5
      clear p0 p1 p2 d z
      go_wp2_with fail
      go_ret
      exact ⟨rfl, P.out.next K5.out, K5.out.nob⟩
    rw [if_neg h0] at hE
    have t0 : (u == 0) = false := by simpa using h0
    have hF : freF B f (x : Int) = updI f (x : Int) (u - 1) := by unfold freF; rw [hE, if_pos rfl, hu]
    rw [hE, hF]
    replace hb := Lib.hid hb
    replace hj := Lib.hid hj
    replace e1 := Lib.hid e1
    replace hu := Lib.hid hu
    replace hE := Lib.hid hE
    replace hF := Lib.hid hF
    clear hx h0
    go_enter Tryd.func62, Tryd.ntmps62
    go_wp2_with fail
    refine Calls.mono C.out ?_
    rintro r w5 ⟨rfl, K5⟩
    have q0 := K5.some p0 (fun x => x)
    have q2 := K5.some p2 (fun x => x)
    have qd := K5.some d (fun x => x)
    have P5 := Lib.hid (P.out.next K5)
    have qz := P5.out.Z x
    have K6 : Keep (only h) w w5 := K5.nob
    replace K5 := Lib.hid K5
    replace K6 := Lib.hid K6
    clear p0 p1 p2 d z
    go_wp2_with fail
    go_region
    all_goals
      go_wp2_with fail
      go_ret
      refine ⟨rfl, ?_, ?_⟩
      · exact ((P5.out.set x hx2 _).next (Keep.refl nob _).drew)
      · exact (K6.out.setCell (p := ⟨h, x, none⟩) _ (Or.inr rfl)).drew
  · have hE : freE B f x = 2 := by unfold freE; rw [e1]; simp
    have hF : freF B f x = f := by unfold freF; rw [hE, if_neg (by decide)]
    rw [hE, hF]
    rw [e1] at C
    replace hj := Lib.hid hj
    replace e1 := Lib.hid e1
    replace hE := Lib.hid hE
    replace hF := Lib.hid hF
    replace P := Lib.hid P
    replace hc := Lib.hid hc
    go_enter Tryd.func62, Tryd.ntmps62
    go_wp2_with fail
    refine Calls.mono C.out ?_
    rintro r w5 ⟨rfl, K5⟩
    replace K5 := Lib.hid K5
    clear p0 p1 p2
    go_wp2_with fail
    go_ret
    exact ⟨rfl, P.out.next K5.out, K5.out.nob⟩
end Go.Proofs.YtepmljcapobodaaDoor
