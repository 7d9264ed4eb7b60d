/- Plain numbers: the bits of words, how many there are, which is the first: no program in sight. -/
import Derived.Test.YtepmljcapobodaaDoorLib
namespace Go.Proofs.YtepmljcapobodaaDoor
set_option linter.unusedVariables false
set_option maxRecDepth 100000
/-! ### A row of words as a set of numbers -/
def memW (W : Nat → Nat) (n : Nat) : Bool := (W (n / 64)).testBit (n % 64)
def turnW (W : Nat → Nat) (n : Nat) : Nat → Nat := fun i => if i = n / 64 then W i ^^^ 2 ^ (n % 64) else W i
theorem memW_turn (W : Nat → Nat) (n k : Nat) : memW (turnW W n) k = if k = n then !memW W n else memW W k := by
  unfold memW turnW
  by_cases h : k / 64 = n / 64
  · rw [if_pos h, Nat.testBit_xor, Nat.testBit_two_pow]
    by_cases e : k = n
    · subst e
      simp
    · rw [if_neg e]
      have : n % 64 ≠ k % 64 := by omega
      simp [this]
  · rw [if_neg h, if_neg (by intro e; subst e; exact h rfl)]
theorem turnW_lt {W : Nat → Nat} (h : ∀ i, W i < 2 ^ 64) (n i : Nat) : turnW W n i < 2 ^ 64 := by
  unfold turnW
  split
  · exact Nat.xor_lt_two_pow (h i) (Nat.pow_lt_pow_right (by decide) (Nat.mod_lt _ (by decide)))
  · exact h i
/-! ### How many bits -/
/-- The number that bytes make, the least first. -/
def val : List Nat → Nat
  | [] => 0
  | b :: bs => b + 256 * val bs
theorem and_split (a b c d : Nat) (hb : b < 256) (hd : d < 256) : (b + 256 * a) &&& (d + 256 * c) = (b &&& d) + 256 * (a &&& c) := by
  have e1 : b + 256 * a = 2 ^ 8 * a + b := by omega
  have e2 : d + 256 * c = 2 ^ 8 * c + d := by omega
  have hbd : b &&& d < 2 ^ 8 := Nat.and_lt_two_pow _ hd
  have e3 : (b &&& d) + 256 * (a &&& c) = 2 ^ 8 * (a &&& c) + (b &&& d) := by omega
  rw [e1, e2, e3]
  apply Nat.eq_of_testBit_eq
  intro i
  rw [Nat.testBit_and, Nat.testBit_two_pow_mul_add a hb, Nat.testBit_two_pow_mul_add c hd, Nat.testBit_two_pow_mul_add _ hbd]
  split
  · rw [Nat.testBit_and]
  · rw [Nat.testBit_and]
def f1 (b : Nat) : Nat := (b / 2 &&& 85) + (b &&& 85)
def f2 (b : Nat) : Nat := (b / 4 &&& 51) + (b &&& 51)
def f3 (b : Nat) : Nat := (b / 16 + b) &&& 15
def pop8 (b : Nat) : Nat := f3 (f2 (f1 b))
theorem t1 : ∀ b, b < 256 → ∀ e, e < 2 → (b / 2 + 128 * e) &&& 85 = b / 2 &&& 85 := by decide +kernel
theorem t2 : ∀ b, b < 256 → ∀ e, e < 4 → (b / 4 + 64 * e) &&& 51 = b / 4 &&& 51 := by decide +kernel
theorem l1 : ∀ b, b < 256 → f1 b ≤ 170 ∧ f2 (f1 b) ≤ 68 ∧ f2 (f1 b) % 16 ≤ 4 ∧ pop8 b ≤ 8 := by decide +kernel
theorem s1 : ∀ l : List Nat, (∀ b ∈ l, b < 256) → (val l / 2 &&& val (l.map fun _ => 85)) + (val l &&& val (l.map fun _ => 85)) = val (l.map f1)
  | [], _ => rfl
  | b :: bs, h => by
    have hb : b < 256 := h b (List.mem_cons_self ..)
    have ih := s1 bs (fun x hx => h x (List.mem_cons_of_mem _ hx))
    have e : (b + 256 * val bs) / 2 = (b / 2 + 128 * (val bs % 2)) + 256 * (val bs / 2) := by omega
    simp only [List.map_cons, val]
    rw [e, and_split _ _ _ _ (by omega) (by decide), and_split _ _ _ _ hb (by decide), t1 b hb _ (Nat.mod_lt _ (by decide)), ← ih]
    unfold f1
    omega
theorem s2 : ∀ l : List Nat, (∀ b ∈ l, b < 256) → (val l / 4 &&& val (l.map fun _ => 51)) + (val l &&& val (l.map fun _ => 51)) = val (l.map f2)
  | [], _ => rfl
  | b :: bs, h => by
    have hb : b < 256 := h b (List.mem_cons_self ..)
    have ih := s2 bs (fun x hx => h x (List.mem_cons_of_mem _ hx))
    have e : (b + 256 * val bs) / 4 = (b / 4 + 64 * (val bs % 4)) + 256 * (val bs / 4) := by omega
    simp only [List.map_cons, val]
    rw [e, and_split _ _ _ _ (by omega) (by decide), and_split _ _ _ _ hb (by decide), t2 b hb _ (Nat.mod_lt _ (by decide)), ← ih]
    unfold f2
    omega
theorem t3 (c e : Nat) : (c + 16 * e) &&& 15 = c &&& 15 := by
  have h : ∀ n : Nat, n &&& 15 = n % 16 := fun n => Nat.and_two_pow_sub_one_eq_mod n 4
  rw [h, h]
  omega
theorem s3 : ∀ l : List Nat, (∀ b ∈ l, b ≤ 68 ∧ b % 16 ≤ 4) → ((val l / 16 + val l) &&& val (l.map fun _ => 15)) = val (l.map f3)
  | [], _ => rfl
  | b :: bs, h => by
    obtain ⟨hb, hb4⟩ := h b (List.mem_cons_self ..)
    have ih := s3 bs (fun x hx => h x (List.mem_cons_of_mem _ hx))
    have hm : val bs % 16 ≤ 4 := by
      cases bs with
      | nil => decide
      | cons d ds =>
        have := (h d (List.mem_cons_of_mem _ (List.mem_cons_self ..))).2
        simp only [val]
        omega
    have e : (b + 256 * val bs) / 16 + (b + 256 * val bs) = (b / 16 + b + 16 * (val bs % 16)) + 256 * (val bs / 16 + val bs) := by omega
    simp only [List.map_cons, val]
    rw [e, and_split _ _ _ _ (by omega) (by decide), t3, ih]
    rfl
def bytes8 (x : Nat) : List Nat := [x % 256, x / 256 % 256, x / 65536 % 256, x / 16777216 % 256, x / 4294967296 % 256, x / 1099511627776 % 256, x / 281474976710656 % 256, x / 72057594037927936 % 256]
theorem bytes_lt (x : Nat) : ∀ b ∈ bytes8 x, b < 256 := by
  intro b hb
  simp only [bytes8, List.mem_cons, List.not_mem_nil, or_false] at hb
  rcases hb with rfl | rfl | rfl | rfl | rfl | rfl | rfl | rfl <;> exact Nat.mod_lt _ (by decide)
theorem val_bytes (x : Nat) (h : x < 18446744073709551616) : val (bytes8 x) = x := by
  simp only [bytes8, val]
  omega
def m0 : Nat := 6148914691236517205
def m1 : Nat := 3689348814741910323
def m2 : Nat := 1085102592571150095
/-- What math/bits reckons. -/
def stepA (x : Nat) : Nat := (x / 2 &&& m0) + (x &&& m0)
def stepB (x : Nat) : Nat := (x / 4 &&& m1) + (x &&& m1)
def stepC (x : Nat) : Nat := (x / 16 + x) &&& m2
def ones (x : Nat) : Nat := ((bytes8 x).map pop8).sum
theorem swar_c (x : Nat) (h : x < 18446744073709551616) : stepC (stepB (stepA x)) = val ((bytes8 x).map pop8) := by
  have hb := bytes_lt x
  have e0 : m0 = val ((bytes8 x).map fun _ => 85) := by simp [bytes8, val, m0]
  have e1 : m1 = val (((bytes8 x).map f1).map fun _ => 51) := by simp [bytes8, val, m1]
  have e2 : m2 = val ((((bytes8 x).map f1).map f2).map fun _ => 15) := by simp [bytes8, val, m2]
  have a : stepA x = val ((bytes8 x).map f1) := by
    unfold stepA
    rw [e0]
    conv => lhs; rw [← val_bytes x h]
    exact s1 _ hb
  have b : stepB (stepA x) = val (((bytes8 x).map f1).map f2) := by
    unfold stepB
    rw [a, e1]
    refine s2 _ (fun c hc => ?_)
    obtain ⟨d, hd, rfl⟩ := List.mem_map.1 hc
    have := (l1 d (hb d hd)).1
    omega
  unfold stepC
  rw [b, e2, s3 _ (fun c hc => by
    obtain ⟨d, hd, rfl⟩ := List.mem_map.1 hc
    obtain ⟨q, hq, rfl⟩ := List.mem_map.1 hd
    exact ⟨(l1 q (hb q hq)).2.1, (l1 q (hb q hq)).2.2.1⟩), List.map_map, List.map_map]
  rfl
theorem div_a (p c : Nat) (h : p < 256) : (p + 256 * c) / 256 = c := by omega
theorem div_b (p q c : Nat) (h : p < 256) (h2 : q < 256) : (p + 256 * (q + 256 * c)) / 65536 = c := by omega
theorem div_c (p q r s c : Nat) (h : p < 256) (h2 : q < 256) (h3 : r < 256) (h4 : s < 256) : (p + 256 * (q + 256 * (r + 256 * (s + 256 * c)))) / 4294967296 = c := by omega
theorem mod_a (p c : Nat) (h : p < 128) : (p + 256 * c) % 128 = p := by omega
theorem swar_core (p0 p1 p2 p3 p4 p5 p6 p7 c1 c2 c3 c4 c5 c6 d e f : Nat) (q0 : p0 ≤ 8) (q1 : p1 ≤ 8) (q2 : p2 ≤ 8) (q3 : p3 ≤ 8) (q4 : p4 ≤ 8) (q5 : p5 ≤ 8) (q6 : p6 ≤ 8) (q7 : p7 ≤ 8)
    (h6 : c6 = p6 + 256 * p7) (h5 : c5 = p5 + 256 * c6) (h4 : c4 = p4 + 256 * c5) (h3 : c3 = p3 + 256 * c4) (h2 : c2 = p2 + 256 * c3) (h1 : c1 = p1 + 256 * c2)
    (hd : d = (p0 + 256 * c1) + (p0 + 256 * c1) / 256) (he : e = d + d / 65536) (hf : f = e + e / 4294967296) :
    d < 18446744073709551616 ∧ e < 18446744073709551616 ∧ f < 18446744073709551616 ∧ f % 128 = p0 + (p1 + (p2 + (p3 + (p4 + (p5 + (p6 + p7)))))) := by
  have b6 : c6 ≤ 2056 := by rw [h6]; clear h5 h4 h3 h2 h1 hd he hf; omega
  have b5 : c5 ≤ 526344 := by rw [h5]; clear h6 h5 h4 h3 h2 h1 hd he hf; omega
  have b4 : c4 ≤ 134744072 := by rw [h4]; clear h6 h5 h4 h3 h2 h1 hd he hf; omega
  have b3 : c3 ≤ 34494482440 := by rw [h3]; clear h6 h5 h4 h3 h2 h1 hd he hf; omega
  have b2 : c2 ≤ 8830587504648 := by rw [h2]; clear h6 h5 h4 h3 h2 h1 hd he hf; omega
  have b1 : c1 ≤ 2260630401189896 := by rw [h1]; clear h6 h5 h4 h3 h2 h1 hd he hf; omega
  rw [div_a p0 c1 (by omega)] at hd
  -- d in bytes
  have d1 : d = (p0 + p1) + 256 * ((p1 + p2) + 256 * (c2 + c3)) := by
    rw [hd]
    conv => lhs; rw [h1]
    conv => rhs; rw [h2]
    clear h6 h5 h4 h3 hd he hf b1 b2 b3 b4 b5 b6
    subst h1
    omega
  have e0 : e = d + (c2 + c3) := by rw [he]; conv => lhs; arg 2; rw [d1]; rw [div_b _ _ _ (by omega) (by omega)]
  have e1 : e = (p0 + p1 + p2 + p3) + 256 * ((p1 + p2 + p3 + p4) + 256 * ((p2 + p3 + p4 + p5) + 256 * ((p3 + p4 + p5 + p6) + 256 * ((c4 + c5) + c6 + p7)))) := by
    rw [e0, d1, h2, h3, h4, h5, h6]
    clear h6 h5 h4 h3 h2 h1 hd he hf b1 b2 b3 b4 b5 b6 d1 e0
    omega
  have f0 : f = e + (c4 + c5 + c6 + p7) := by rw [hf]; conv => lhs; arg 2; rw [e1]; rw [div_c _ _ _ _ _ (by omega) (by omega) (by omega) (by omega)]
  refine ⟨?_, ?_, ?_, ?_⟩
  · rw [hd]; clear h6 h5 h4 h3 h2 h1 hd he hf d1 e0 e1 f0; omega
  · rw [e0, hd]; clear h6 h5 h4 h3 h2 h1 hd he hf d1 e0 e1 f0; omega
  · rw [f0, e0, hd]; clear h6 h5 h4 h3 h2 h1 hd he hf d1 e0 e1 f0; omega
  · have f1 : f = (p0 + (p1 + (p2 + (p3 + (p4 + (p5 + (p6 + p7))))))) + 256 * ((p1 + p2 + p3 + p4) + 256 * ((p2 + p3 + p4 + p5) + 256 * ((p3 + p4 + p5 + p6) + 256 * ((c4 + c5) + c6 + p7))) + (c5 + c6 + p7)) := by
      rw [f0, e1]
      conv => lhs; arg 2; rw [h4, h5, h6]
      conv => rhs; arg 2; arg 2; arg 2; rw [h5, h6]
      clear h6 h5 h4 h3 h2 h1 hd he hf b1 b2 b3 b4 b5 b6 d1 e0 e1 f0
      omega
    rw [f1]
    exact mod_a _ _ (by clear h6 h5 h4 h3 h2 h1 hd he hf b1 b2 b3 b4 b5 b6 d1 e0 e1 f0 f1; omega)
/-- The last three steps add the bytes up. -/
theorem swar_sum (x : Nat) (h : x < 18446744073709551616) (c d e f : Nat) (hc : c = stepC (stepB (stepA x))) (hd : d = c + c / 256) (he : e = d + d / 65536) (hf : f = e + e / 4294967296) :
    d < 18446744073709551616 ∧ e < 18446744073709551616 ∧ f < 18446744073709551616 ∧ f % 128 = ones x := by
  rw [swar_c x h] at hc
  have hb := fun b hb => (l1 b (bytes_lt x b hb)).2.2.2
  unfold ones
  generalize hl : bytes8 x = l at hc hb ⊢
  unfold bytes8 at hl
  subst hl
  simp only [List.map_cons, List.map_nil, val, List.sum_cons, List.sum_nil, Nat.mul_zero, Nat.add_zero] at hc ⊢
  simp only [List.mem_cons, List.not_mem_nil, or_false, forall_eq_or_imp, forall_eq] at hb
  obtain ⟨q0, q1, q2, q3, q4, q5, q6, q7⟩ := hb
  subst hc
  exact swar_core _ _ _ _ _ _ _ _ _ _ _ _ _ _ d e f q0 q1 q2 q3 q4 q5 q6 q7 rfl rfl rfl rfl rfl rfl hd he hf
/-! ### Counting -/
def cnt (P : Nat → Bool) : Nat → Nat
  | 0 => 0
  | n + 1 => cnt P n + if P n then 1 else 0
theorem cnt_add (P : Nat → Bool) (a b : Nat) : cnt P (a + b) = cnt P a + cnt (fun k => P (a + k)) b := by
  induction b with
  | zero => rfl
  | succ b ih => rw [Nat.add_succ, cnt, ih, cnt, Nat.add_assoc]
theorem cnt_congr {P Q : Nat → Bool} (n : Nat) (h : ∀ k, k < n → P k = Q k) : cnt P n = cnt Q n := by
  induction n with
  | zero => rfl
  | succ n ih => rw [cnt, cnt, ih (fun k hk => h k (by omega)), h n (by omega)]
theorem pop8_cnt : ∀ b, b < 256 → pop8 b = cnt (fun j => b.testBit j) 8 := by decide +kernel
theorem byte_bit (x i j : Nat) (hj : j < 8) : (x / 2 ^ (8 * i) % 256).testBit j = x.testBit (8 * i + j) := by
  rw [show (256 : Nat) = 2 ^ 8 from rfl, Nat.testBit_mod_two_pow, Nat.testBit_div_two_pow]
  simp [hj, Nat.add_comm]
theorem ones_cnt (x : Nat) : ones x = cnt (fun j => x.testBit j) 64 := by
  have h : ∀ i, pop8 (x / 2 ^ (8 * i) % 256) = cnt (fun k => x.testBit (8 * i + k)) 8 := fun i => by
    rw [pop8_cnt _ (Nat.mod_lt _ (by decide))]
    exact cnt_congr 8 (fun j hj => byte_bit x i j hj)
  have h0 := h 0
  have h1 := h 1
  have h2 := h 2
  have h3 := h 3
  have h4 := h 4
  have h5 := h 5
  have h6 := h 6
  have h7 := h 7
  unfold ones bytes8
  simp only [List.map_cons, List.map_nil, List.sum_cons, List.sum_nil]
  rw [show (64 : Nat) = 8 + (8 + (8 + (8 + (8 + (8 + (8 + 8)))))) from rfl]
  simp only [cnt_add]
  simp only [Nat.reduceMul, Nat.reducePow, Nat.pow_zero, Nat.div_one] at h0 h1 h2 h3 h4 h5 h6 h7
  rw [h0, h1, h2, h3, h4, h5, h6, h7]
  simp only [← Nat.add_assoc, Nat.reduceAdd, Nat.zero_add, Nat.add_zero]
def sumW (W : Nat → Nat) : Nat → Nat
  | 0 => 0
  | i + 1 => sumW W i + ones (W i)
theorem sumW_cnt (W : Nat → Nat) (i : Nat) : sumW W i = cnt (memW W) (64 * i) := by
  induction i with
  | zero => rfl
  | succ i ih =>
    rw [sumW, ih, Nat.mul_succ, cnt_add, ones_cnt]
    congr 1
    refine cnt_congr 64 (fun k hk => ?_)
    unfold memW
    rw [show (64 * i + k) / 64 = i by omega, show (64 * i + k) % 64 = k by omega]
end Go.Proofs.YtepmljcapobodaaDoor
