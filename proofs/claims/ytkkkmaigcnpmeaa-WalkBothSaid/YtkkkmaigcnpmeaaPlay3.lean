/- The calls of 'play', second part: Read, Page, and any other one. -/
import Derived.Test.YtkkkmaigcnpmeaaPlay2
namespace Go.Proofs.Ytkkkmaigcnpmeaa
open Go.RowKit
set_option linter.unusedVariables false
set_option maxRecDepth 100000
section
variable {w0 w w' : World} {b f g pw n ob : Nat} {cm cr cm' cr' : Nat → Int} {o : Op}
def rcode (n : Nat) (c : Nat → Int) (o : Op) : Int := if inR n o.a o.b then c (o.a.toNat * 32 + o.b.toNat) else 0
theorem st_read (h : St w0 w b f g pw n ob cm cr o) :
    Calls Try.prog 32 #[.pointer (some ⟨b, 0, none⟩), .int .i64 o.a, .int .i64 o.b] w fun r w' => r = .returned (.tuple #[.int .u32 (rcode n cm o), .int .i64 (wcode n o)]) ∧ St w0 w' b f g pw n ob cm cr o :=
  (read_any h.m o.a o.b).mono (fun r w' q => ⟨q.1, h.next q.2⟩)
theorem st_refread (h : St w0 w b f g pw n ob cm cr o) :
    Calls Try.prog 68 #[.agg #[refV g n], .int .i64 o.a, .int .i64 o.b] w fun r w' => r = .returned (.tuple #[.int .u32 (rcode n cr o), .int .i64 (wcode n o)]) ∧ St w0 w' b f g pw n ob cm cr o :=
  (refread_ok h.r o.a o.b).mono (fun r w' q => ⟨q.1, h.next q.2⟩)
def pageL (n : Nat) (c : Nat → Int) (o : Op) : List Int := if 0 ≤ o.a ∧ o.a < (n : Int) then words c o.a.toNat else []
theorem pageL_len (n : Nat) (c : Nat → Int) (o : Op) : (pageL n c o).length < 4294967296 := by
  unfold pageL
  split
  · rw [words_len]; decide
  · decide
theorem wordsAt_empty (w : World) : WordsAt w (.slice none 0 0) [] := ⟨none, 0, rfl, fun h => absurd rfl h⟩
theorem st_page (h : St w0 w b f g pw n ob cm cr o) :
    Calls Try.prog 33 #[.pointer (some ⟨b, 0, none⟩), .int .i64 o.a] w fun r w' => ∃ v, r = .returned (.tuple #[v, .int .i64 (zcode n o)]) ∧ WordsAt w' v (pageL n cm o) ∧ Keep nob w w' ∧ St w0 w' b f g pw n ob cm cr o := by
  unfold zcode pageL
  by_cases q : 0 ≤ o.a ∧ o.a < (n : Int)
  · simp only [if_pos q]
    exact (page_in h.m o.a q.1 q.2).mono (fun r w' ⟨v, q1, q2, q3⟩ => ⟨v, q1, q2.words, q3, h.next q3⟩)
  · simp only [if_neg q]
    exact (page_out h.m o.a q).mono (fun r w' q => ⟨_, q.1, wordsAt_empty _, q.2, h.next q.2⟩)
theorem st_refpage (h : St w0 w b f g pw n ob cm cr o) :
    Calls Try.prog 58 #[.agg #[refV g n], .int .i64 o.a] w fun r w' => ∃ v, r = .returned (.tuple #[v, .int .i64 (zcode n o)]) ∧ WordsAt w' v (pageL n cr o) ∧ Keep nob w w' ∧ St w0 w' b f g pw n ob cm cr o := by
  unfold zcode pageL
  by_cases q : 0 ≤ o.a ∧ o.a < (n : Int)
  · simp only [if_pos q]
    exact (refpage_in h.r o.a q.1 q.2).mono (fun r w' ⟨v, q1, q2, q3⟩ => ⟨v, q1, q2.words, q3, h.next q3⟩)
  · simp only [if_neg q]
    exact (refpage_out h.r o.a q).mono (fun r w' q => ⟨_, q.1, wordsAt_empty _, q.2, h.next q.2⟩)
end
set_option maxHeartbeats 1600000 in
theorem play_one {w : World} {b f g pw n : Nat} {c : Nat → Int} (h : Both w b f g pw n c) (o : Op) (hx : o.fine) (hd : o.do_ = 1) :
    Calls Try.prog 45 #[.pointer (some ⟨b, 0, none⟩), .pointer (some ⟨pw, 0, none⟩), opV o] w fun r w' => r = .returned (.bool true) ∧ After w w' b f g pw n := by
  have S := fun t => h.st o t
  unfold opV
  obtain ⟨W, hW⟩ : ∃ W, W = w.alloc (.cells #[.int .i64 o.do_, .int .i64 o.a, .int .i64 o.b, .int .u32 o.x] 36) := ⟨_, rfl⟩
  have S := S 36
  rw [← hW] at S
  have c0 := S.c0
  rw [hd] at c0 hW
  go_enter Try.func45, Try.ntmps45
  go_wp2_with fail
  rw [← hW]
  clear hW
  refine (st_read S).mono ?_
  rintro r w1 ⟨rfl, S1⟩
  clear c0 hd S
  go_wp2_with fail
  have S2 := S1.drew
  have c0 : w1.drew.cell? ⟨pw, 0, none⟩ = some (.slice (some ⟨g, 0, none⟩) (n * 32) (n * 32)) := S2.p
  have c1 := S2.c1
  have c2 := S2.c2
  go_region_held3 (fun w' => w'.cell? ⟨pw, 0, none⟩ = some (.slice (some ⟨g, 0, none⟩) (n * 32) (n * 32)) ∧ w'.cell? ⟨w.heap.size, 1, none⟩ = some (.int .i64 o.a) ∧ w'.cell? ⟨w.heap.size, 2, none⟩ = some (.int .i64 o.b)) (first | exact ⟨S2.p, S2.c1, S2.c2⟩ | exact ⟨G.p, G.c1, G.c2⟩) (first | ((go_at_call 68; refine (st_refread S2).mono ?_; rintro r w3 ⟨rfl, G⟩)))
  go_wp2_with fail
  go_ret
  exact ⟨rfl, G.after⟩
set_option maxHeartbeats 1600000 in
theorem play_five {w : World} {b f g pw n : Nat} {c : Nat → Int} (h : Both w b f g pw n c) (o : Op) (hd : o.do_ = 5) :
    Calls Try.prog 45 #[.pointer (some ⟨b, 0, none⟩), .pointer (some ⟨pw, 0, none⟩), opV o] w fun r w' => r = .returned (.bool true) ∧ After w w' b f g pw n := by
  have S := fun t => h.st o t
  unfold opV
  obtain ⟨W, hW⟩ : ∃ W, W = w.alloc (.cells #[.int .i64 o.do_, .int .i64 o.a, .int .i64 o.b, .int .u32 o.x] 36) := ⟨_, rfl⟩
  have S := S 36
  rw [← hW] at S
  have c0 := S.c0
  rw [hd] at c0 hW
  go_enter Try.func45, Try.ntmps45
  go_wp2_with fail
  rw [← hW]
  clear hW
  refine (st_page S).mono ?_
  rintro r w1 ⟨v1, rfl, R1, -, S1⟩
  clear c0 hd S
  go_wp2_with fail
  have S2 := S1.drew
  have R2 := R1.next (Keep.drew (Keep.refl _ _))
  have c0 : w1.drew.cell? ⟨pw, 0, none⟩ = some (.slice (some ⟨g, 0, none⟩) (n * 32) (n * 32)) := S2.p
  have c1 := S2.c1
  go_region_held3 (fun w' => w'.cell? ⟨pw, 0, none⟩ = some (.slice (some ⟨g, 0, none⟩) (n * 32) (n * 32)) ∧ w'.cell? ⟨w.heap.size, 1, none⟩ = some (.int .i64 o.a)) (first | exact ⟨S2.p, S2.c1⟩ | exact ⟨G.p, G.c1⟩) (first | ((go_at_call 58; refine (st_refpage S2).mono ?_; rintro r w3 ⟨v2, rfl, R3, K3, G⟩)))
  go_wp2_with fail
  refine (same_ok (R2.next K3) R3 (pageL_len _ _ _)).mono ?_
  rintro r w4 ⟨rfl, K4⟩
  rw [decide_eq_true (rfl : pageL n c o = pageL n c o)]
  go_wp2_with fail
  go_ret
  exact ⟨rfl, (G.next K4).after⟩
set_option maxHeartbeats 1600000 in
theorem play_none {w : World} {b f g pw n : Nat} {c : Nat → Int} (h : Both w b f g pw n c) (o : Op) (h1 : o.do_ ≠ 1) (h2 : o.do_ ≠ 2) (h3 : o.do_ ≠ 3) (h4 : o.do_ ≠ 4) (h5 : o.do_ ≠ 5) :
    Calls Try.prog 45 #[.pointer (some ⟨b, 0, none⟩), .pointer (some ⟨pw, 0, none⟩), opV o] w fun r w' => r = .returned (.bool true) ∧ After w w' b f g pw n := by
  have S := fun t => h.st o t
  have t1 : (o.do_ == 1) = false := by simpa using h1
  have t2 : (o.do_ == 2) = false := by simpa using h2
  have t3 : (o.do_ == 3) = false := by simpa using h3
  have t4 : (o.do_ == 4) = false := by simpa using h4
  have t5 : (o.do_ == 5) = false := by simpa using h5
  unfold opV
  go_enter Try.func45, Try.ntmps45
  go_wp2_with fail
  go_ret
  exact ⟨rfl, (S _).after⟩
theorem play_ok {w : World} {b f g pw n : Nat} {c : Nat → Int} (h : Both w b f g pw n c) (o : Op) (hx : o.fine) :
    Calls Try.prog 45 #[.pointer (some ⟨b, 0, none⟩), .pointer (some ⟨pw, 0, none⟩), opV o] w fun r w' => r = .returned (.bool true) ∧ After w w' b f g pw n := by
  by_cases h1 : o.do_ = 1
  · exact play_one h o hx h1
  by_cases h2 : o.do_ = 2
  · exact play_two h o hx h2
  by_cases h3 : o.do_ = 3
  · exact play_three h o hx h3
  by_cases h4 : o.do_ = 4
  · exact play_four h o hx h4
  by_cases h5 : o.do_ = 5
  · exact play_five h o h5
  exact play_none h o h1 h2 h3 h4 h5
end Go.Proofs.Ytkkkmaigcnpmeaa
