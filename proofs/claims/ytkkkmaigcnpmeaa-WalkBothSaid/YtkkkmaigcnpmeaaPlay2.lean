/- The calls of 'play', each with the state of both memories. -/
import Derived.Test.YtkkkmaigcnpmeaaPlay
namespace Go.Proofs.Ytkkkmaigcnpmeaa
open Go.RowKit
set_option linter.unusedVariables false
set_option maxRecDepth 100000
section
variable {w0 w w' : World} {b f g pw n ob : Nat} {cm cr cm' cr' : Nat → Int} {o : Op}
def zeroed (n : Nat) (c : Nat → Int) (o : Op) : Nat → Int := if 0 ≤ o.a ∧ o.a < (n : Int) then updRow c o.a.toNat (fun _ => 0) else c
def zcode (n : Nat) (o : Op) : Int := if 0 ≤ o.a ∧ o.a < (n : Int) then 0 else 2
def copied (n : Nat) (c : Nat → Int) (o : Op) : Nat → Int := if 0 ≤ o.a ∧ o.a < (n : Int) ∧ 0 ≤ o.b ∧ o.b < (n : Int) then updRow c o.a.toNat (fun k => c (o.b.toNat * 32 + k)) else c
def ccode (n : Nat) (o : Op) : Int := if 0 ≤ o.a ∧ o.a < (n : Int) ∧ 0 ≤ o.b ∧ o.b < (n : Int) then 0 else 2
theorem st_zero (h : St w0 w b f g pw n ob cm cr o) :
    Calls Try.prog 36 #[.pointer (some ⟨b, 0, none⟩), .int .i64 o.a] w fun r w' => r = .returned (.int .i64 (zcode n o)) ∧ St w0 w' b f g pw n ob (zeroed n cm o) cr o := by
  unfold zcode zeroed
  by_cases q : 0 ≤ o.a ∧ o.a < (n : Int)
  · simp only [if_pos q]
    exact (zero_in h.m o.a q.1 q.2).mono (fun r w' q => ⟨q.1, h.wrote q.2.1 q.2.2⟩)
  · simp only [if_neg q]
    exact (zero_out h.m o.a q).mono (fun r w' q => ⟨q.1, h.next q.2⟩)
theorem st_refzero (h : St w0 w b f g pw n ob cm cr o) :
    Calls Try.prog 77 #[.pointer (some ⟨pw, 0, none⟩), .int .i64 o.a] w fun r w' => r = .returned (.int .i64 (zcode n o)) ∧ St w0 w' b f g pw n ob cm (zeroed n cr o) o := by
  unfold zcode zeroed
  by_cases q : 0 ≤ o.a ∧ o.a < (n : Int)
  · simp only [if_pos q]
    exact (refzero_in h.r h.p h.hpg o.a q.1 q.2).mono (fun r w' q => ⟨q.1, h.rewrote q.2.1 q.2.2.2⟩)
  · simp only [if_neg q]
    exact (refzero_out h.r h.p o.a q).mono (fun r w' q => ⟨q.1, h.next q.2⟩)
theorem st_copy (h : St w0 w b f g pw n ob cm cr o) :
    Calls Try.prog 31 #[.pointer (some ⟨b, 0, none⟩), .int .i64 o.a, .int .i64 o.b] w fun r w' => r = .returned (.int .i64 (ccode n o)) ∧ St w0 w' b f g pw n ob (copied n cm o) cr o := by
  unfold ccode copied
  by_cases q : 0 ≤ o.a ∧ o.a < (n : Int) ∧ 0 ≤ o.b ∧ o.b < (n : Int)
  · simp only [if_pos q]
    exact (copy_in h.m o.a o.b q.1 q.2.1 q.2.2.1 q.2.2.2).mono (fun r w' q => ⟨q.1, h.wrote q.2.1 q.2.2⟩)
  · simp only [if_neg q]
    exact (copy_out h.m o.a o.b q).mono (fun r w' q => ⟨q.1, h.next q.2⟩)
theorem st_refcopy (h : St w0 w b f g pw n ob cm cr o) :
    Calls Try.prog 78 #[.pointer (some ⟨pw, 0, none⟩), .int .i64 o.a, .int .i64 o.b] w fun r w' => r = .returned (.int .i64 (ccode n o)) ∧ St w0 w' b f g pw n ob cm (copied n cr o) o := by
  unfold ccode copied
  by_cases q : 0 ≤ o.a ∧ o.a < (n : Int) ∧ 0 ≤ o.b ∧ o.b < (n : Int)
  · simp only [if_pos q]
    exact (refcopy_in h.r h.p h.hpg o.a o.b q.1 q.2.1 q.2.2.1 q.2.2.2).mono (fun r w' q => ⟨q.1, h.rewrote q.2.1 q.2.2.2⟩)
  · simp only [if_neg q]
    exact (refcopy_out h.r h.p o.a o.b q).mono (fun r w' q => ⟨q.1, h.next q.2⟩)
theorem St.drew (h : St w0 w b f g pw n ob cm cr o) : St w0 w.drew b f g pw n ob cm cr o := h.next (Keep.drew (Keep.refl _ _))
end
def opV (o : Op) : Value := .agg #[.int .i64 o.do_, .int .i64 o.a, .int .i64 o.b, .int .u32 o.x]
/-- Ahead of a call: both memories, apart, with the same words. -/
structure Both (w : World) (b f g pw n : Nat) (c : Nat → Int) : Prop where
  m : MemAt w b f n c
  r : RefAt w g n c
  p : w.cell? ⟨pw, 0, none⟩ = some (refV g n)
  hpf : pw ≠ f
  hpg : pw ≠ g
  hbg : b ≠ g
  hfg : f ≠ g
theorem Both.st {w : World} {b f g pw n : Nat} {c : Nat → Int} (h : Both w b f g pw n c) (o : Op) (t : TypeId) :
    St w (w.alloc (.cells #[.int .i64 o.do_, .int .i64 o.a, .int .i64 o.b, .int .u32 o.x] t)) b f g pw n w.heap.size c c o := by
  have hf := h.m.flt
  have hg := h.r.glt
  have K : Keep nob w (w.alloc (.cells #[.int .i64 o.do_, .int .i64 o.a, .int .i64 o.b, .int .u32 o.x] t)) := (Keep.refl _ _).alloc _
  exact ⟨h.m.next K, h.r.next K, K.some h.p (fun x => x), h.hpf, h.hpg, h.hbg, h.hfg, by omega, by omega,
    by rw [World.cell?_alloc_new]; rfl, by rw [World.cell?_alloc_new]; rfl, by rw [World.cell?_alloc_new]; rfl, by rw [World.cell?_alloc_new]; rfl, K.nob⟩
def After (w0 w' : World) (b f g pw n : Nat) : Prop := ∃ c, Both w' b f g pw n c ∧ Keep (twof f g) w0 w'
theorem St.after {w0 w : World} {b f g pw n ob : Nat} {c : Nat → Int} {o : Op} (h : St w0 w b f g pw n ob c c o) : After w0 w b f g pw n :=
  ⟨c, ⟨h.m, h.r, h.p, h.hpf, h.hpg, h.hbg, h.hfg⟩, h.k⟩
set_option maxHeartbeats 1600000 in
theorem play_two {w : World} {b f g pw n : Nat} {c : Nat → Int} (h : Both w b f g pw n c) (o : Op) (hx : o.fine) (hd : o.do_ = 2) :
    Calls Try.prog 45 #[.pointer (some ⟨b, 0, none⟩), .pointer (some ⟨pw, 0, none⟩), opV o] w fun r w' => r = .returned (.bool true) ∧ After w w' b f g pw n := by
  have S := fun t => h.st o t
  unfold opV
  obtain ⟨W, hW⟩ : ∃ W, W = w.alloc (.cells #[.int .i64 o.do_, .int .i64 o.a, .int .i64 o.b, .int .u32 o.x] 36) := ⟨_, rfl⟩
  have S := S 36
  rw [← hW] at S
  have c0 := S.c0
  rw [hd] at c0 hW
  go_enter Try.func45, Try.ntmps45
  go_wp2_with fail
  rw [← hW]
  clear hW
  have S1 := S.drew
  have c1 := S1.c1
  have c2 := S1.c2
  have c3 := S1.c3
  clear c0 hd S
  go_region_held3 (fun w' => w'.cell? ⟨w.heap.size, 1, none⟩ = some (.int .i64 o.a) ∧ w'.cell? ⟨w.heap.size, 2, none⟩ = some (.int .i64 o.b) ∧ w'.cell? ⟨w.heap.size, 3, none⟩ = some (.int .u32 o.x)) (first | exact ⟨S1.c1, S1.c2, S1.c3⟩ | exact ⟨H.c1, H.c2, H.c3⟩ | exact ⟨G.c1, G.c2, G.c3⟩) (first | ((go_at_call 30; refine (st_write S1 hx).mono ?_; rintro r w2 ⟨rfl, H⟩)) | ((go_at_call 55; refine (st_refwrite H hx).mono ?_; rintro r w3 ⟨rfl, G⟩)))
  go_wp2_with fail
  go_ret
  exact ⟨rfl, G.after⟩
set_option maxHeartbeats 1600000 in
theorem play_three {w : World} {b f g pw n : Nat} {c : Nat → Int} (h : Both w b f g pw n c) (o : Op) (hx : o.fine) (hd : o.do_ = 3) :
    Calls Try.prog 45 #[.pointer (some ⟨b, 0, none⟩), .pointer (some ⟨pw, 0, none⟩), opV o] w fun r w' => r = .returned (.bool true) ∧ After w w' b f g pw n := by
  have S := fun t => h.st o t
  unfold opV
  obtain ⟨W, hW⟩ : ∃ W, W = w.alloc (.cells #[.int .i64 o.do_, .int .i64 o.a, .int .i64 o.b, .int .u32 o.x] 36) := ⟨_, rfl⟩
  have S := S 36
  rw [← hW] at S
  have c0 := S.c0
  rw [hd] at c0 hW
  go_enter Try.func45, Try.ntmps45
  go_wp2_with fail
  rw [← hW]
  clear hW
  have S1 := S.drew
  have c1 := S1.c1
  clear c0 hd S
  go_region_held3 (fun w' => w'.cell? ⟨w.heap.size, 1, none⟩ = some (.int .i64 o.a)) (first | exact S1.c1 | exact H.c1 | exact G.c1) (first | ((go_at_call 36; refine (st_zero S1).mono ?_; rintro r w2 ⟨rfl, H⟩)) | ((go_at_call 77; refine (st_refzero H).mono ?_; rintro r w3 ⟨rfl, G⟩)))
  go_wp2_with fail
  go_ret
  exact ⟨rfl, G.after⟩
set_option maxHeartbeats 1600000 in
theorem play_four {w : World} {b f g pw n : Nat} {c : Nat → Int} (h : Both w b f g pw n c) (o : Op) (hx : o.fine) (hd : o.do_ = 4) :
    Calls Try.prog 45 #[.pointer (some ⟨b, 0, none⟩), .pointer (some ⟨pw, 0, none⟩), opV o] w fun r w' => r = .returned (.bool true) ∧ After w w' b f g pw n := by
  have S := fun t => h.st o t
  unfold opV
  obtain ⟨W, hW⟩ : ∃ W, W = w.alloc (.cells #[.int .i64 o.do_, .int .i64 o.a, .int .i64 o.b, .int .u32 o.x] 36) := ⟨_, rfl⟩
  have S := S 36
  rw [← hW] at S
  have c0 := S.c0
  rw [hd] at c0 hW
  go_enter Try.func45, Try.ntmps45
  go_wp2_with fail
  rw [← hW]
  clear hW
  have S1 := S.drew
  have c1 := S1.c1
  have c2 := S1.c2
  clear c0 hd S
  go_region_held3 (fun w' => w'.cell? ⟨w.heap.size, 1, none⟩ = some (.int .i64 o.a) ∧ w'.cell? ⟨w.heap.size, 2, none⟩ = some (.int .i64 o.b)) (first | exact ⟨S1.c1, S1.c2⟩ | exact ⟨H.c1, H.c2⟩ | exact ⟨G.c1, G.c2⟩) (first | ((go_at_call 31; refine (st_copy S1).mono ?_; rintro r w2 ⟨rfl, H⟩)) | ((go_at_call 78; refine (st_refcopy H).mono ?_; rintro r w3 ⟨rfl, G⟩)))
  go_wp2_with fail
  go_ret
  exact ⟨rfl, G.after⟩
end Go.Proofs.Ytkkkmaigcnpmeaa
