/- A pool that is not there, or that nobody made: what its calls answer; the ranges and calls of layer 9 as lists. -/
import Derived.Test.YtepmljcapobodaaDoorPalAwake
import Derived.Test.YtepmljcapobodaaDoorFlat
namespace Go.Proofs.YtepmljcapobodaaDoor
open Go.ChangeShapes Go.WideShapes Go.ChangeAt Go.RowKit Go.Deep
set_option linter.unusedVariables false
set_option maxRecDepth 100000
def NoPool (w : World) (v : Value) : Prop := v = .pointer none ∨ ∃ b, v = .pointer (some ⟨b, 0, none⟩) ∧ w.cell? ⟨b, 0, none⟩ = some (.pointer none)
theorem NoPool.next {w w' : World} {v : Value} (h : NoPool w v) (k : Keep nob w w') : NoPool w' v := by
  rcases h with h | ⟨b, h1, h2⟩
  · exact Or.inl h
  · exact Or.inr ⟨b, h1, k.some h2 (fun x => x)⟩
theorem none_none {w : World} {v : Value} (h : NoPool w v) :
    Calls Tryd.prog 53 #[v] w fun r w' => r = .returned (.bool true) ∧ w = w' := by
  rcases h with rfl | ⟨b, rfl, c0⟩
  · go_enter Tryd.func53, Tryd.ntmps53
    go_wp2_with fail
    go_ret
    exact ⟨rfl, rfl⟩
  · go_enter Tryd.func53, Tryd.ntmps53
    go_wp2_with fail
    go_ret
    exact ⟨rfl, rfl⟩
theorem alloc_none {w : World} {v : Value} (h : NoPool w v) (x : Int) :
    Calls Tryd.prog 19 #[v, .int .i64 x] w fun r w' => r = .returned (.tuple #[.int .i64 0, .int .i64 1]) ∧ w = w' := by
  have H := Lib.hid h
  clear h
  go_enter Tryd.func19, Tryd.ntmps19
  go_wp2_with fail
  refine Calls.mono (none_none H.out) ?_
  rintro r w1 ⟨rfl, rfl⟩
  go_wp2_with fail
  go_ret2
  exact ⟨rfl, rfl⟩
theorem owner_none {w : World} {v : Value} (h : NoPool w v) (x : Int) :
    Calls Tryd.prog 23 #[v, .int .i64 x] w fun r w' => r = .returned (.tuple #[.int .i64 0, .int .i64 1]) ∧ w = w' := by
  have H := Lib.hid h
  clear h
  go_enter Tryd.func23, Tryd.ntmps23
  go_wp2_with fail
  refine Calls.mono (none_none H.out) ?_
  rintro r w1 ⟨rfl, rfl⟩
  go_wp2_with fail
  go_ret2
  exact ⟨rfl, rfl⟩
theorem share_none {w : World} {v : Value} (h : NoPool w v) (x : Int) :
    Calls Tryd.prog 20 #[v, .int .i64 x] w fun r w' => r = .returned (.int .i64 1) ∧ w = w' := by
  have H := Lib.hid (owner_none h x)
  clear h
  go_enter Tryd.func20, Tryd.ntmps20
  go_wp2_with fail
  refine Calls.mono H.out ?_
  rintro r w1 ⟨rfl, rfl⟩
  go_wp2_with fail
  go_ret
  exact ⟨rfl, rfl⟩
theorem free_none {w : World} {v : Value} (h : NoPool w v) (x : Int) :
    Calls Tryd.prog 22 #[v, .int .i64 x] w fun r w' => r = .returned (.int .i64 1) ∧ w = w' := by
  have H := Lib.hid (owner_none h x)
  clear h
  go_enter Tryd.func22, Tryd.ntmps22
  go_wp2_with fail
  refine Calls.mono H.out ?_
  rintro r w1 ⟨rfl, rfl⟩
  go_wp2_with fail
  go_ret
  exact ⟨rfl, rfl⟩
theorem refs_none {w : World} {v : Value} (h : NoPool w v) (x : Int) :
    Calls Tryd.prog 21 #[v, .int .i64 x] w fun r w' => r = .returned (.int .i64 0) ∧ w = w' := by
  have H := Lib.hid h
  clear h
  go_enter Tryd.func21, Tryd.ntmps21
  go_wp2_with fail
  refine Calls.mono (none_none H.out) ?_
  rintro r w1 ⟨rfl, rfl⟩
  go_wp2_with fail
  go_ret
  exact ⟨rfl, rfl⟩
theorem left_none {w : World} {v : Value} (h : NoPool w v) (x : Int) :
    Calls Tryd.prog 24 #[v, .int .i64 x] w fun r w' => r = .returned (.int .i64 0) ∧ w = w' := by
  have H := Lib.hid h
  clear h
  go_enter Tryd.func24, Tryd.ntmps24
  go_wp2_with fail
  refine Calls.mono (none_none H.out) ?_
  rintro r w1 ⟨rfl, rfl⟩
  go_wp2_with fail
  go_ret
  exact ⟨rfl, rfl⟩
theorem pool_nil (w : World) (v : Value) :
    Calls Tryd.prog 18 #[.pointer none, v] w fun r w' => r = .returned (.tuple #[.pointer none, .int .i64 1]) ∧ w = w' := by
  go_enter Tryd.func18, Tryd.ntmps18
  go_wp2_with fail
  refine Calls.mono (frames_nil _) ?_
  rintro r w1 ⟨rfl, rfl⟩
  go_wp2_with fail
  go_ret2
  exact ⟨rfl, rfl⟩
theorem pool_many {w : World} {b mf n : Nat} {c : Nat → Int} (M : MemAt w b mf n c) (a : Option Addr) (len cap : Nat) (h : ¬ (1 ≤ len ∧ len ≤ 8)) :
    Calls Tryd.prog 18 #[.pointer (some ⟨b, 0, none⟩), .slice a len cap] w fun r w' => r = .returned (.tuple #[.pointer none, .int .i64 2]) ∧ w = w' := by
  have hn := M.lo
  have hn2 := M.hi
  replace M := Lib.hid M
  have t0 : ((n : Int) == 0) = false := by simp; omega
  rcases (show len < 1 ∨ (¬ len < 1 ∧ 8 < len) by omega) with h | ⟨h1, h2⟩
  · have t1 : decide ((len : Int) < 1) = true := by simp; omega
    clear h
    go_enter Tryd.func18, Tryd.ntmps18
    go_wp2_with fail
    refine Calls.mono (frames_at M.out) ?_
    rintro r w1 ⟨rfl, rfl⟩
    go_wp2_with fail
    go_ret2
    exact ⟨rfl, rfl⟩
  · have t1 : decide ((len : Int) < 1) = false := by simp; omega
    have t2 : decide ((8 : Int) < len) = true := by simp; omega
    clear h1 h2 h
    go_enter Tryd.func18, Tryd.ntmps18
    go_wp2_with fail
    refine Calls.mono (frames_at M.out) ?_
    rintro r w1 ⟨rfl, rfl⟩
    go_wp2_with fail
    go_ret2
    exact ⟨rfl, rfl⟩
/-! ### Slices of ranges, and of calls -/
section
variable {H : Type} {enc : TypeId × Value → H} {w : World} {spare : Nat → Bool} {held : Bool}
theorem flatI : Flat 3 [.i .i64] := flat_int Tryd.underlying3
theorem cellsI : Tryd.prog.cellsOf 3 = 1 := by kernel_rfl
theorem flatRange : Flat 31 [.i .i64, .i .i64] := flat_struct (ks := [[.i .i64], [.i .i64]]) Tryd.underlying31 (by kernel_rfl) (.cons flatI rfl cellsI (.cons flatI rfl cellsI (.nil _)))
theorem flatOp9 : Flat 46 [.i .i64, .i .i64] := flat_struct (ks := [[.i .i64], [.i .i64]]) Tryd.underlying46 (by kernel_rfl) (.cons flatI rfl cellsI (.cons flatI rfl cellsI (.nil _)))
theorem open_ranges {v : Value} {d : DataW H} {p : List MemPlace} {r : Reach} {b0 base : Nat}
    (hv : Value.okWide Tryd.prog w r b0 32 v) (h : DataW.Trod enc Tryd.prog w base spare held 32 v d p) : ∃ l : List (Int × Int), PairsAt w v l ∧ ∀ o ∈ l, pairFine o :=
  open_flat pairCells pairFine Tryd.underlying32 (by kernel_rfl) (by decide) flatRange pair_has hv h
theorem open_ops9 {v : Value} {d : DataW H} {p : List MemPlace} {r : Reach} {b0 base : Nat}
    (hv : Value.okWide Tryd.prog w r b0 44 v) (h : DataW.Trod enc Tryd.prog w base spare held 44 v d p) : ∃ l : List (Int × Int), PairsAt w v l ∧ ∀ o ∈ l, pairFine o :=
  open_flat pairCells pairFine Tryd.underlying44 (by kernel_rfl) (by decide) flatOp9 pair_has hv h
end
end Go.Proofs.YtepmljcapobodaaDoor
