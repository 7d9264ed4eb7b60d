/- Contracts of package mem: what New, Read, Write, Zero, Copy, Page, Frames do to a memory, said of its words. -/
import Derived.Test.YtepmljcapobodaaDoorRows
import Derived.Test.YtepmljcapobodaaDoorLib
namespace Go.Proofs.YtepmljcapobodaaDoor
open Go.RowKit
set_option linter.unusedVariables false
set_option maxRecDepth 100000

/-- b points at a memory of n frames whose words lie in block f, the k-th one c k. -/
structure MemAt (w : World) (b f n : Nat) (c : Nat → Int) : Prop where
  ptr : w.cell? ⟨b, 0, none⟩ = some (.slice (some ⟨f, 0, none⟩) n n)
  cell : ∀ k, k < n * 32 → w.cell? ⟨f, k, none⟩ = some (.int .u32 (c k))
  free : ∀ k, w.frozen? ⟨f, k, none⟩ = false
  lo : 1 ≤ n
  hi : n ≤ 1024
  ne : b ≠ f
  rng : ∀ k, 0 ≤ c k ∧ c k < 4294967296

def upd (c : Nat → Int) (k : Nat) (v : Int) : Nat → Int := fun j => if j = k then v else c j

theorem MemAt.blt {w : World} {b f n : Nat} {c : Nat → Int} (M : MemAt w b f n c) : b < w.heap.size := World.block_lt_of_cell? _ _ M.ptr
theorem MemAt.flt {w : World} {b f n : Nat} {c : Nat → Int} (M : MemAt w b f n c) : f < w.heap.size := by
  have := M.lo
  exact World.block_lt_of_cell? _ _ (M.cell 0 (by omega))
theorem MemAt.keep {w w' : World} {b f n : Nat} {c : Nat → Int} {S : Nat → Prop} (M : MemAt w b f n c) (h : Keep S w w') (hb : ¬ S b) (hf : ¬ S f) : MemAt w' b f n c :=
  ⟨h.some M.ptr hb, fun k hk => h.some (M.cell k hk) hf, fun k => by rw [h.frozen (p := ⟨f, k, none⟩) M.flt hf]; exact M.free k, M.lo, M.hi, M.ne, M.rng⟩
theorem MemAt.next {w w' : World} {b f n : Nat} {c : Nat → Int} (M : MemAt w b f n c) (h : Keep nob w w') : MemAt w' b f n c := M.keep h (fun x => x) (fun x => x)
theorem MemAt.set {w : World} {b f n : Nat} {c : Nat → Int} (M : MemAt w b f n c) (k : Nat) (hk : k < n * 32) (v : Int) (hv : 0 ≤ v ∧ v < 4294967296) :
    MemAt (w.setCell ⟨f, k, none⟩ (.int .u32 v)) b f n (upd c k v) := by
  refine ⟨?_, fun j hj => ?_, fun j => ?_, M.lo, M.hi, M.ne, fun j => ?_⟩
  · rw [setCell_blk (Ne.symm M.ne)]; exact M.ptr
  · by_cases h : j = k
    · subst h; rw [setCell_eq (M.cell j hj)]; simp [upd]
    · rw [setCell_off (Ne.symm h)]; simp [upd, h, M.cell j hj]
  · rw [frozen_setCell]; exact M.free j
  · unfold upd; split
    · exact hv
    · exact M.rng j

theorem eqnil64 (w : World) (a : Option Addr) (l c : Nat) : (binOp .eql 112 (.slice a l c) (.slice none 0 0)).run Tryd.prog w = .ok (.bool a.isNone) w :=
  Lib.run_eql_slice_nil (P := Tryd.prog) w 112 158 a l c 0 0 Tryd.underlying112

set_option maxHeartbeats 400000 in
theorem with_in (g : Nat) (cap : Array Value) (R : World → Prop) (b f n : Nat) (i j : Int) (w : World)
    (hent : ∀ args w, (callFunc g args).run Tryd.prog w = .ok (.enter g args) w)
    (hc : w.cell? ⟨b, 0, none⟩ = some (.slice (some ⟨f, 0, none⟩) n n))
    (hi0 : 0 ≤ i) (hi1 : i < n) (h0 : 0 ≤ j) (h1 : j < 32)
    (hcall : Calls Tryd.prog g (#[.pointer (some ⟨f, i.toNat * 32, none⟩)] ++ cap) w fun e w' => e = .returned (.tuple #[]) ∧ R w') :
    Calls Tryd.prog 67 #[.pointer (some ⟨b, 0, none⟩), .int .i64 i, .int .i64 j, .func (.func g) #[] cap] w fun e w' => e = .returned (.int .i64 0) ∧ R w' := by
  have hnil := eqnil64
  have t1 : decide (i < 0) = false := by simpa using hi0
  have t2 : decide ((n : Int) ≤ i) = false := by simpa using hi1
  have t3 : decide (j < 0) = false := by simpa using h0
  have t4 : decide ((32 : Int) ≤ j) = false := by simpa using h1
  have hcall' : Hid _ := hcall
  clear hcall
  go_enter Tryd.func67, Tryd.ntmps67
  go_wp2
  refine Calls.mono hcall'.out ?_
  rintro e w' ⟨rfl, hR⟩
  go_wp2
  go_ret
  exact ⟨rfl, hR⟩
set_option maxHeartbeats 400000 in
theorem with_out (g : Nat) (cap : Array Value) (b f n : Nat) (i j : Int) (w : World)
    (hc : w.cell? ⟨b, 0, none⟩ = some (.slice (some ⟨f, 0, none⟩) n n))
    (h : ¬ (0 ≤ i ∧ i < n ∧ 0 ≤ j ∧ j < 32)) :
    Calls Tryd.prog 67 #[.pointer (some ⟨b, 0, none⟩), .int .i64 i, .int .i64 j, .func (.func g) #[] cap] w fun e w' => e = .returned (.int .i64 2) ∧ w = w' := by
  have hnil := eqnil64
  by_cases c1 : i < 0
  · have t1 : decide (i < 0) = true := by simpa using c1
    go_enter Tryd.func67, Tryd.ntmps67
    go_wp2
    go_ret
    exact ⟨rfl, rfl⟩
  have t1 : decide (i < 0) = false := by simpa using c1
  by_cases c2 : (n : Int) ≤ i
  · have t2 : decide ((n : Int) ≤ i) = true := by simpa using c2
    go_enter Tryd.func67, Tryd.ntmps67
    go_wp2
    go_ret
    exact ⟨rfl, rfl⟩
  have t2 : decide ((n : Int) ≤ i) = false := by simpa using c2
  by_cases c3 : j < 0
  · have t3 : decide (j < 0) = true := by simpa using c3
    go_enter Tryd.func67, Tryd.ntmps67
    go_wp2
    go_ret
    exact ⟨rfl, rfl⟩
  have t3 : decide (j < 0) = false := by simpa using c3
  have t4 : decide ((32 : Int) ≤ j) = true := by simp; omega
  go_enter Tryd.func67, Tryd.ntmps67
  go_wp2
  go_ret
  exact ⟨rfl, rfl⟩

theorem with_nil (v1 v2 v3 : Value) (w : World) :
    Calls Tryd.prog 67 #[.pointer none, v1, v2, v3] w fun e w' => e = .returned (.int .i64 1) ∧ w = w' := by
  go_enter Tryd.func67, Tryd.ntmps67
  go_wp2
  go_ret
  exact ⟨rfl, rfl⟩
theorem with_zero (b : Nat) (v1 v2 v3 : Value) (w : World) (hc : w.cell? ⟨b, 0, none⟩ = some (.slice none 0 0)) :
    Calls Tryd.prog 67 #[.pointer (some ⟨b, 0, none⟩), v1, v2, v3] w fun e w' => e = .returned (.int .i64 1) ∧ w = w' := by
  have hnil := eqnil64
  go_enter Tryd.func67, Tryd.ntmps67
  go_wp2
  go_ret
  exact ⟨rfl, rfl⟩


theorem ent_read : ∀ args w, (callFunc 105 args).run Tryd.prog w = .ok (.enter 105 args) w := fun _ _ => by go_simp
theorem ent_write : ∀ args w, (callFunc 70 args).run Tryd.prog w = .ok (.enter 70 args) w := fun _ _ => by go_simp
theorem ent_zero : ∀ args w, (callFunc 90 args).run Tryd.prog w = .ok (.enter 90 args) w := fun _ _ => by go_simp
theorem ent_page : ∀ args w, (callFunc 68 args).run Tryd.prog w = .ok (.enter 68 args) w := fun _ _ => by go_simp

set_option maxHeartbeats 400000 in
theorem write1 (o pv pj f : Nat) (j v x : Int) (w : World)
    (hv : w.cell? ⟨pv, 0, none⟩ = some (.int .u32 v)) (hj : w.cell? ⟨pj, 0, none⟩ = some (.int .i64 j)) (h0 : 0 ≤ j) (h1 : j < 32)
    (hx : w.cell? ⟨f, o + j.toNat, none⟩ = some (.int .u32 x)) (hf : w.frozen? ⟨f, o + j.toNat, none⟩ = false) :
    Calls Tryd.prog 70 #[.pointer (some ⟨f, o, none⟩), .pointer (some ⟨pv, 0, none⟩), .pointer (some ⟨pj, 0, none⟩)] w
      fun e w' => e = .returned (.tuple #[]) ∧ w' = (w.setCell ⟨f, o + j.toNat, none⟩ (.int .u32 v)).drew := by
  go_enter Tryd.func70, Tryd.ntmps70
  go_wp2
  go_region
  all_goals (go_end0; exact ⟨rfl, rfl⟩)
set_option maxHeartbeats 400000 in
theorem read1 (o pw pj f : Nat) (j v x : Int) (w : World)
    (hw : w.cell? ⟨pw, 0, none⟩ = some (.int .u32 x)) (hz : w.frozen? ⟨pw, 0, none⟩ = false) (hj : w.cell? ⟨pj, 0, none⟩ = some (.int .i64 j)) (h0 : 0 ≤ j) (h1 : j < 32)
    (hx : w.cell? ⟨f, o + j.toNat, none⟩ = some (.int .u32 v)) :
    Calls Tryd.prog 105 #[.pointer (some ⟨f, o, none⟩), .pointer (some ⟨pj, 0, none⟩), .pointer (some ⟨pw, 0, none⟩)] w
      fun e w' => e = .returned (.tuple #[]) ∧ w' = (w.setCell ⟨pw, 0, none⟩ (.int .u32 v)).drew := by
  go_enter Tryd.func105, Tryd.ntmps105
  go_wp2
  go_region
  all_goals (go_end0; exact ⟨rfl, rfl⟩)

theorem infoFrame : (Tryd.prog.info? 158).map (·.size) = some 32 := by kernel_rfl
theorem infoWord : (Tryd.prog.info? 66).map (fun i => (i.zero, i.size, i.bytes)) = some (some (.int .u32 0), 1, 4) := by kernel_rfl
theorem oneZ : (#[.int .u32 0, .int .u32 0, .int .u32 0, .int .u32 0, .int .u32 0, .int .u32 0, .int .u32 0, .int .u32 0, .int .u32 0, .int .u32 0, .int .u32 0, .int .u32 0, .int .u32 0, .int .u32 0, .int .u32 0, .int .u32 0, .int .u32 0, .int .u32 0, .int .u32 0, .int .u32 0, .int .u32 0, .int .u32 0, .int .u32 0, .int .u32 0, .int .u32 0, .int .u32 0, .int .u32 0, .int .u32 0, .int .u32 0, .int .u32 0, .int .u32 0, .int .u32 0] : Array Value).all (·.oneCell') = true := by kernel_rfl
set_option maxHeartbeats 400000 in
theorem zero1 (f o : Nat) (w : World) (h : w.there f o 32) :
    Calls Tryd.prog 90 #[.pointer (some ⟨f, o, none⟩)] w fun e w' => e = .returned (.tuple #[]) ∧ w' = w.setCells f o (List.replicate 32 (.int .u32 0)) := by
  have H : Hid (w.there f o (#[.int .u32 0, .int .u32 0, .int .u32 0, .int .u32 0, .int .u32 0, .int .u32 0, .int .u32 0, .int .u32 0, .int .u32 0, .int .u32 0, .int .u32 0, .int .u32 0, .int .u32 0, .int .u32 0, .int .u32 0, .int .u32 0, .int .u32 0, .int .u32 0, .int .u32 0, .int .u32 0, .int .u32 0, .int .u32 0, .int .u32 0, .int .u32 0, .int .u32 0, .int .u32 0, .int .u32 0, .int .u32 0, .int .u32 0, .int .u32 0, .int .u32 0, .int .u32 0] : Array Value).size) := h
  have hi : Hid ((Tryd.prog.info? 158).map (·.size) = some (#[.int .u32 0, .int .u32 0, .int .u32 0, .int .u32 0, .int .u32 0, .int .u32 0, .int .u32 0, .int .u32 0, .int .u32 0, .int .u32 0, .int .u32 0, .int .u32 0, .int .u32 0, .int .u32 0, .int .u32 0, .int .u32 0, .int .u32 0, .int .u32 0, .int .u32 0, .int .u32 0, .int .u32 0, .int .u32 0, .int .u32 0, .int .u32 0, .int .u32 0, .int .u32 0, .int .u32 0, .int .u32 0, .int .u32 0, .int .u32 0, .int .u32 0, .int .u32 0] : Array Value).size) := infoFrame
  clear h
  go_enter Tryd.func90, Tryd.ntmps90
  go_wp2_with (with_reducible refine wpList_store_mid rfl 158 (.tmp 4) (.tmp 3) rfl f o #[.int .u32 0, .int .u32 0, .int .u32 0, .int .u32 0, .int .u32 0, .int .u32 0, .int .u32 0, .int .u32 0, .int .u32 0, .int .u32 0, .int .u32 0, .int .u32 0, .int .u32 0, .int .u32 0, .int .u32 0, .int .u32 0, .int .u32 0, .int .u32 0, .int .u32 0, .int .u32 0, .int .u32 0, .int .u32 0, .int .u32 0, .int .u32 0, .int .u32 0, .int .u32 0, .int .u32 0, .int .u32 0, .int .u32 0, .int .u32 0, .int .u32 0, .int .u32 0] rfl rfl H.out hi.out oneZ ?_)
  go_end0
  exact ⟨rfl, rfl⟩
def PagePost (pl : Nat) (l : List Value) (w : World) (w' : World) : Prop :=
  ∃ g cap, w'.cell? ⟨pl, 0, none⟩ = some (.slice (some ⟨g, 0, none⟩) 32 cap) ∧ w'.ownsRow w.heap.size 66 1 (.slice (some ⟨g, 0, none⟩) 32 cap) 32 l ∧ w'.frozen? ⟨pl, 0, none⟩ = false ∧ Keep (only pl) w w'
set_option maxHeartbeats 400000 in
theorem page1 (f o pl : Nat) (l : List Value) (hl : l.length = 32) (hc : ∀ v ∈ l, v.oneCell' = true) (w : World) (hr : w.rangeAt f o l) (hp : w.cell? ⟨pl, 0, none⟩ = some (.slice none 0 0))
    (hz : w.frozen? ⟨pl, 0, none⟩ = false) :
    Calls Tryd.prog 68 #[.pointer (some ⟨f, o, none⟩), .pointer (some ⟨pl, 0, none⟩)] w fun e w' => e = .returned (.tuple #[]) ∧ PagePost pl l w w' := by
  obtain ⟨i0, hi, hz0, hz1, hz2⟩ := info_parts infoWord
  have hl' : Hid (l.length = 32 * 1) := hl
  have hpl := World.block_lt_of_cell? _ _ hp
  have hr' : Hid (∀ j u, l[j]? = some u → w.cell? ((⟨f, o, none⟩ : Addr).add j) = some u) := fun j u hu => by rw [Addr.add_mid]; exact hr j u hu
  have hc' := Lib.hid hc
  clear hl hr hc
  go_enter Tryd.func68, Tryd.ntmps68
  go_wp2_with fail
  go_region_law (first | (refine step_append_grows rfl (.tmp 3) (.tmp 6) 51 rfl 66 i0 (.int .u32 0) 1 4 Tryd.underlying51 hi hz0 hz1 hz2 rfl (by decide) none 0 0 [] (by simp [Act.eval]) (fun _ => ⟨rfl, rfl⟩) rfl (fun b hb => by cases hb) ⟨f, o, none⟩ 32 32 l (by simp [Act.eval]) hl'.out hr'.out hc'.out (by decide) (by decide) (by decide) ?_; intro v' w' hown hgrow; obtain ⟨g, cap, rfl⟩ := Joins.ownsRow_form hown (by decide); have hk := Lib.hid (keep_of_grown hgrow); have hp' := hk.out.some (p := ⟨pl, 0, none⟩) hp (fun x => x); have hz' := (hk.out.frozen (p := ⟨pl, 0, none⟩) hpl (fun x => x)).trans hz; have hown' := Lib.hid hown; clear hown hgrow) )
  go_end0
  refine ⟨rfl, g, cap, setCell_eq hp', ownsRow_setCell_below hown'.out hpl _, by rw [frozen_setCell]; exact hz', ?_⟩
  exact Keep.setCell (Keep.then (Keep.drew (Keep.refl _ w)) hk.out) _ (Or.inr rfl)

/-! ### The methods -/
def row (c : Nat → Int) (i : Nat) : List Value := (List.range 32).map fun j => .int .u32 (c (i * 32 + j))
def updRow (c : Nat → Int) (i : Nat) (d : Nat → Int) : Nat → Int := fun k => if i * 32 ≤ k ∧ k < i * 32 + 32 then d (k - i * 32) else c k
theorem row_len (c : Nat → Int) (i : Nat) : (row c i).length = 32 := by simp [row]
theorem row_one (c : Nat → Int) (i : Nat) : ∀ v ∈ row c i, v.oneCell' = true := by
  intro v hv
  simp only [row, List.mem_map] at hv
  obtain ⟨j, _, rfl⟩ := hv
  rfl
theorem row_get (c : Nat → Int) (i j : Nat) (hj : j < 32) : (row c i)[j]? = some (.int .u32 (c (i * 32 + j))) := by simp [row, hj]
theorem MemAt.range {w : World} {b f n : Nat} {c : Nat → Int} (M : MemAt w b f n c) (i : Nat) (hi : i < n) : w.rangeAt f (i * 32) (row c i) := by
  intro j v hv
  have hj : j < 32 := by have := (List.getElem?_eq_some_iff.1 hv).1; rwa [row_len] at this
  rw [row_get c i j hj] at hv
  injection hv with hv
  rw [← hv]
  exact M.cell _ (by omega)
theorem MemAt.there {w : World} {b f n : Nat} {c : Nat → Int} (M : MemAt w b f n c) (i : Nat) (hi : i < n) : w.there f (i * 32) 32 := by
  intro j hj
  exact ⟨by rw [M.cell _ (by omega)]; rfl, M.free _⟩
theorem frozen_setCells (b : Nat) (p : Addr) : ∀ (vs : List Value) (o : Nat) (w : World), (w.setCells b o vs).frozen? p = w.frozen? p
  | [], _, _ => rfl
  | v :: r, o, w => by rw [World.setCells, frozen_setCells b p r (o + 1) _, frozen_setCell]
theorem Keep.setCells {S : Nat → Prop} {a : World} (b : Nat) : ∀ (vs : List Value) (o : Nat) (w : World), Keep S a w → (a.heap.size ≤ b ∨ S b) → Keep S a (w.setCells b o vs)
  | [], _, _, h, _ => h
  | v :: r, o, w, h, hp => Keep.setCells b r (o + 1) _ (h.setCell v hp) hp
theorem MemAt.setRow {w : World} {b f n : Nat} {c : Nat → Int} (M : MemAt w b f n c) (i : Nat) (hi : i < n) (d : Nat → Int) (hd : ∀ k, 0 ≤ d k ∧ d k < 4294967296) :
    MemAt (w.setCells f (i * 32) ((List.range 32).map fun j => .int .u32 (d j))) b f n (updRow c i d) := by
  have hl : ((List.range 32).map fun j => (Value.int .u32 (d j))).length = 32 := by simp
  refine ⟨?_, fun k hk => ?_, fun j => ?_, M.lo, M.hi, M.ne, fun k => ?_⟩
  · rw [World.cell?_setCells_out _ _ _ _ _ (fun h => absurd h M.ne)]; exact M.ptr
  · by_cases h : i * 32 ≤ k ∧ k < i * 32 + 32
    · have := World.cell?_setCells_in f ((List.range 32).map fun j => (Value.int .u32 (d j))) (i * 32) w (fun j hj => by rw [hl] at hj; exact (M.there i hi j hj).1) (k - i * 32) (by rw [hl]; omega)
      rw [show i * 32 + (k - i * 32) = k by omega] at this
      rw [this]
      simp [updRow, h]
    · rw [World.cell?_setCells_out _ _ _ _ _ (fun _ _ => by simp only [hl]; omega), M.cell k hk]
      simp [updRow, h]
  · rw [frozen_setCells]; exact M.free j
  · unfold updRow; split
    · exact hd _
    · exact M.rng k

set_option maxHeartbeats 400000 in
theorem read_in {w : World} {b f n : Nat} {c : Nat → Int} (M : MemAt w b f n c) (i j : Int) (hi0 : 0 ≤ i) (hi1 : i < n) (h0 : 0 ≤ j) (h1 : j < 32) :
    Calls Tryd.prog 95 #[.pointer (some ⟨b, 0, none⟩), .int .i64 i, .int .i64 j] w
      fun e w' => e = .returned (.tuple #[.int .u32 (c (i.toNat * 32 + j.toNat)), .int .i64 0]) ∧ Keep nob w w' := by
  have hbs := M.blt
  have hfs := M.flt
  have hb1 : b < w.heap.size + 1 := by omega
  have hf1 : f < w.heap.size + 1 := by omega
  have hp := M.ptr
  have hx := M.cell (i.toNat * 32 + j.toNat) (by omega)
  go_enter Tryd.func95, Tryd.ntmps95
  go_wp2_with fail
  refine Calls.mono (with_in 105 _ ?R b f n i j _ ent_read ?hc hi0 hi1 h0 h1 ?hcall) ?_
  case hcall => refine read1 (i.toNat * 32) (w.heap.size + 1) w.heap.size f j (c (i.toNat * 32 + j.toNat)) 0 _ ?_ ?_ ?_ h0 h1 ?_ <;> go_simp
  case hc => go_simp
  rintro e w' ⟨rfl, rfl⟩
  go_wp2
  refine bodyPost_ret (v := .tuple #[.int .u32 (c (i.toNat * 32 + j.toNat)), .int .i64 0]) (by rw [results_cell_tmp rfl]; go_simp) rfl ⟨rfl, ?_⟩
  exact (((Keep.refl _ _).alloc _).alloc _).drew
set_option maxHeartbeats 400000 in
theorem read_out {w : World} {b f n : Nat} {c : Nat → Int} (M : MemAt w b f n c) (i j : Int) (h : ¬ (0 ≤ i ∧ i < n ∧ 0 ≤ j ∧ j < 32)) :
    Calls Tryd.prog 95 #[.pointer (some ⟨b, 0, none⟩), .int .i64 i, .int .i64 j] w
      fun e w' => e = .returned (.tuple #[.int .u32 0, .int .i64 2]) ∧ Keep nob w w' := by
  have hbs := M.blt
  have hb1 : b < w.heap.size + 1 := by omega
  have hp := M.ptr
  have H := Lib.hid h
  clear h
  go_enter Tryd.func95, Tryd.ntmps95
  go_wp2_with fail
  refine Calls.mono (with_out 105 _ b f n i j _ ?hc H.out) ?_
  case hc => go_simp
  rintro e w' ⟨rfl, rfl⟩
  go_wp2
  refine bodyPost_ret (v := .tuple #[.int .u32 0, .int .i64 2]) (by rw [results_cell_tmp rfl]; go_simp) rfl ⟨rfl, ?_⟩
  exact (((Keep.refl _ _).alloc _).alloc _)
set_option maxHeartbeats 400000 in
theorem read_nil (w : World) (i j : Int) :
    Calls Tryd.prog 95 #[.pointer none, .int .i64 i, .int .i64 j] w
      fun e w' => e = .returned (.tuple #[.int .u32 0, .int .i64 1]) ∧ Keep nob w w' := by
  go_enter Tryd.func95, Tryd.ntmps95
  go_wp2_with fail
  refine Calls.mono (with_nil _ _ _ _) ?_
  rintro e w' ⟨rfl, rfl⟩
  go_wp2
  refine bodyPost_ret (v := .tuple #[.int .u32 0, .int .i64 1]) (by rw [results_cell_tmp rfl]; go_simp) rfl ⟨rfl, ?_⟩
  exact (((Keep.refl _ _).alloc _).alloc _)
set_option maxHeartbeats 400000 in
theorem read_zero (w : World) (b : Nat) (i j : Int) (hp : w.cell? ⟨b, 0, none⟩ = some (.slice none 0 0)) :
    Calls Tryd.prog 95 #[.pointer (some ⟨b, 0, none⟩), .int .i64 i, .int .i64 j] w
      fun e w' => e = .returned (.tuple #[.int .u32 0, .int .i64 1]) ∧ Keep nob w w' := by
  have hbs := World.block_lt_of_cell? _ _ hp
  have hb1 : b < w.heap.size + 1 := Nat.lt_succ_of_lt hbs
  go_enter Tryd.func95, Tryd.ntmps95
  go_wp2_with fail
  refine Calls.mono (with_zero b _ _ _ _ ?hc) ?_
  case hc => go_simp
  rintro e w' ⟨rfl, rfl⟩
  go_wp2
  refine bodyPost_ret (v := .tuple #[.int .u32 0, .int .i64 1]) (by rw [results_cell_tmp rfl]; go_simp) rfl ⟨rfl, ?_⟩
  exact (((Keep.refl _ _).alloc _).alloc _)
end Go.Proofs.YtepmljcapobodaaDoor
