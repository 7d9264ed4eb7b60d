/- Any frame is saved in any slot as the document says, loaded from it, or refused, and nothing else changes. Condition: 1 to 10 frames. -/
import Derived.Test.YtkkkmaigcnpmeaaTrapV
import Derived.Test.YtkkkmaigcnpmeaaPlay3
namespace Go.Proofs.Ytkkkmaigcnpmeaa.trapSave
open Go.ChangeShapes Go.WideShapes Go.ChangeAt Go.RowKit
set_option linter.unusedVariables false
set_option maxRecDepth 100000
/-- Both memories, with the same words, and the two frames of the call. -/
structure St2 (w wr : World) (b f g pw n : Nat) (t u : Trap) (c : Nat → Int) : Prop where
  both : Both wr b f g pw n c
  t : TrapIn wr w.heap.size 0 t
  u : TrapIn wr (w.heap.size + 1) 0 u
  k : Keep nob w wr
  hf : w.heap.size + 2 ≤ f
  hg : w.heap.size + 2 ≤ g
section
variable {w wr w' : World} {b f g pw n : Nat} {t u : Trap} {c : Nat → Int}
theorem Both.next (h : Both wr b f g pw n c) (k : Keep nob wr w') : Both w' b f g pw n c := ⟨h.m.next k, h.r.next k, k.some h.p (fun x => x), h.hpf, h.hpg, h.hbg, h.hfg⟩
theorem St2.next (h : St2 w wr b f g pw n t u c) (k : Keep nob wr w') : St2 w w' b f g pw n t u c := ⟨Both.next h.both k, h.t.next k, h.u.next k, h.k.then k, h.hf, h.hg⟩
end
def SvI (w : World) (b f g pw n : Nat) (t u : Trap) (v : Value) (wr : World) : Prop :=
  ∃ (k : Nat) (c : Nat → Int), v = .int .i64 k ∧ k ≤ 2 ∧ St2 w wr b f g pw n t u c
/-- Between the words: the memory is done, k words of the reference's are. -/
structure Mid (w wr : World) (b f g pw n o : Nat) (t u z : Trap) (bx bz base : Nat) (rv : Value) (c : Nat → Int) (k : Nat) : Prop where
  m : MemAt wr b f n (span c o z.list 10)
  r : RefAt wr g n (span c o z.list k)
  p : wr.cell? ⟨pw, 0, none⟩ = some (refV g n)
  hpf : pw ≠ f
  hpg : pw ≠ g
  hbg : b ≠ g
  hfg : f ≠ g
  ht : TrapIn wr w.heap.size 0 t
  hu : TrapIn wr (w.heap.size + 1) 0 u
  hx : TrapIn wr bx 0 z
  hz : TrapIn wr bz 0 z
  row : RowIs base wr rv 10 z.list
  k : Keep nob w wr
  hf : w.heap.size + 2 ≤ f
  hg : w.heap.size + 2 ≤ g
  hgx : g ≠ bx
  hgy : g ≠ bz
  hgb : g < base
section
variable {w wr w' : World} {b f g pw n o : Nat} {t u z : Trap} {bx bz base : Nat} {rv : Value} {c : Nat → Int} {k : Nat}
theorem Mid.step (h : Mid w wr b f g pw n o t u z bx bz base rv c k) (r : RefAt w' g n (span c o z.list (k + 1))) (p : w'.cell? ⟨pw, 0, none⟩ = some (refV g n)) (K : Keep (only g) wr w') : Mid w w' b f g pw n o t u z bx bz base rv c (k + 1) :=
  ⟨h.m.keep K h.hbg h.hfg, r, p, h.hpf, h.hpg, h.hbg, h.hfg, h.ht.keep K (by have := h.hg; unfold only; omega), h.hu.keep K (by have := h.hg; unfold only; omega), h.hx.keep K (Ne.symm h.hgx), h.hz.keep K (Ne.symm h.hgy), h.row.write K h.hgb,
    h.k.trans K (fun q hq e => by have e : q = g := e; have := h.hg; omega), h.hf, h.hg, h.hgx, h.hgy, h.hgb⟩
theorem Mid.done (h : Mid w wr b f g pw n o t u z bx bz base rv c 10) : St2 w wr b f g pw n t u (span c o z.list 10) :=
  ⟨⟨h.m, h.r, h.p, h.hpf, h.hpg, h.hbg, h.hfg⟩, h.ht, h.hu, h.k, h.hf, h.hg⟩
end
def MidI (w : World) (b f g pw n o : Nat) (t u z : Trap) (bx bz base : Nat) (rv : Value) (c : Nat → Int) (v : Value) (wr : World) : Prop :=
  ∃ k : Nat, v = .int .i64 k ∧ k ≤ 10 ∧ Mid w wr b f g pw n o t u z bx bz base rv c k
theorem refsave {w : World} {g n pw : Nat} {c : Nat → Int} (z : Trap) (hz : z.fine) (k : Nat) (hk : k < 10) (i s : Int) (h : inS n i s) (M : RefAt w g n (span c (i.toNat * 32 + s.toNat * 10) z.list k)) (hp : w.cell? ⟨pw, 0, none⟩ = some (refV g n)) (hne : pw ≠ g) :
    Calls Try.prog 55 #[.pointer (some ⟨pw, 0, none⟩), .int .i64 i, .int .i64 (s * 10 + k), .int .u32 (ix z.list k)] w
      fun r w' => r = .returned (.int .i64 0) ∧ RefAt w' g n (span c (i.toNat * 32 + s.toNat * 10) z.list (k + 1)) ∧ w'.cell? ⟨pw, 0, none⟩ = some (refV g n) ∧ Keep (only g) w w' := by
  obtain ⟨h1, h2, h3, h4⟩ := h
  have := refwrite_ok M hp hne i (s * 10 + k) (ix z.list k) (Trap.fine_ix hz k hk)
  have hin : inR n i (s * 10 + k) := ⟨h1, h2, by omega, by omega⟩
  rw [if_pos hin, if_pos hin, show i.toNat * 32 + (s * 10 + (k : Int)).toNat = i.toNat * 32 + s.toNat * 10 + k by omega, span_succ] at this
  exact this
def PgI (w : World) (b f g pw n : Nat) (c : Nat → Int) (v : Value) (wr : World) : Prop :=
  ∃ k : Nat, v = .int .i64 k ∧ k ≤ n ∧ Both wr b f g pw n c ∧ Keep nob w wr
set_option maxHeartbeats 4000000 in
theorem walk_in (n : Nat) (i s oi os x : Int) (t u : Trap) (w : World) (n1 : 1 ≤ n) (n2 : n ≤ 10) (hx : 0 ≤ x ∧ x < 4294967296) (ft : t.fine) (fu : u.fine) :
    Calls Try.prog 18 #[.int .i64 n, .int .i64 i, .int .i64 s, .int .i64 oi, .int .i64 os, .int .u32 x, .agg t.cells, .agg u.cells] w fun e w' => e = .returned (.bool true) ∧ Keep nob w w' := by
  have a1 : decide ((n : Int) < 1) = false := by simp; omega
  have a2 : decide ((10 : Int) < n) = false := by simp; omega
  have HX := Lib.hid hx
  have FT := Lib.hid ft
  have FU := Lib.hid fu
  clear ft fu hx
  obtain ⟨W, hW⟩ : ∃ W, W = (w.alloc (.cells t.cells 76)).alloc (.cells u.cells 76) := ⟨_, rfl⟩
  have T0 : Hid (TrapIn W w.heap.size 0 t) := by rw [hW]; exact Lib.hid ((TrapIn.new w t 76).next ((Keep.refl _ _).alloc _))
  have U0 : Hid (TrapIn W (w.heap.size + 1) 0 u) := by
    rw [hW]
    have := TrapIn.new (w.alloc (.cells t.cells 76)) u 76
    rw [World.size_alloc] at this
    exact Lib.hid this
  have A0 : Hid (Keep nob w W) := by rw [hW]; exact Lib.hid (((Keep.refl _ _).alloc _).alloc _)
  have hs : Hid (W.heap.size = w.heap.size + 2) := by rw [hW]; exact Lib.hid (by rw [World.size_alloc, World.size_alloc])
  go_enter Try.func18, Try.ntmps18
  go_wp2_with fail
  rw [← hW]
  clear hW
  refine Calls.mono (new_in _ n n1 (by omega)) ?_
  rintro e w1 ⟨rfl, M1, K1⟩
  go_wp2_with fail
  refine Calls.mono (refnew_in _ n n1 (by omega)) ?_
  rintro e w2 ⟨g, rfl, R2, hg, K2⟩
  have hrv : refV g n = .slice (some ⟨g, 0, none⟩) (n * 32) (n * 32) := rfl
  rw [hrv]
  have z1 := K1.size
  have z2 := K2.size
  have KA : Keep nob w2 (w2.alloc (.cells #[.slice (some ⟨g, 0, none⟩) (n * 32) (n * 32)] 58)) := (Keep.refl _ _).alloc _
  have S2 : St2 w (w2.alloc (.cells #[.slice (some ⟨g, 0, none⟩) (n * 32) (n * 32)] 58)) (W.heap.size + 1) W.heap.size g w2.heap.size n t u (fun _ => 0) := by
    have m1 := M1.blt
    have m2 := M1.flt
    have r1 := R2.glt
    have h0 := hs.out
    refine ⟨⟨(M1.next K2).next KA, R2.next KA, new_at _ _ _ 0 _ rfl, by omega, by omega, by omega, by omega⟩, ((T0.out.next K1).next K2).next KA, ((U0.out.next K1).next K2).next KA, ((A0.out.then K1).then K2).then KA, by omega, by omega⟩
  have S2 := Lib.hid S2
  clear K1 K2 M1 R2 hg z1 z2 KA hrv T0 U0 A0
  go_wp2_with fail
  obtain ⟨C, hC⟩ : ∃ C : Int, C = (if inR n oi os then 0 else 2) := ⟨_, rfl⟩
  have WA := write_any S2.out.both.m oi os x HX.out
  rw [← hC] at WA
  have HCC := Lib.hid hC
  clear hC
  refine Calls.mono WA ?_
  clear WA
  rintro r w3 ⟨rfl, M3, K3⟩
  have S3 : Hid (MemAt w3 (W.heap.size + 1) W.heap.size n (if inR n oi os then upd (fun _ => 0) (oi.toNat * 32 + os.toNat) x else fun _ => 0) ∧ RefAt w3 g n (fun _ => 0) ∧ w3.cell? ⟨w2.heap.size, 0, none⟩ = some (refV g n) ∧ TrapIn w3 w.heap.size 0 t ∧ TrapIn w3 (w.heap.size + 1) 0 u ∧ Keep nob w w3) := by
    have h := S2.out
    have hf := h.hf
    exact Lib.hid ⟨M3, h.both.r.keep K3 (Ne.symm h.both.hfg), K3.some h.both.p h.both.hpf, h.t.keep K3 (by unfold only; omega), h.u.keep K3 (by unfold only; omega), h.k.trans K3 (fun q hq e => by have e : q = W.heap.size := e; omega)⟩
  clear M3 K3
  go_wp2_with fail
  have WA := refwrite_ok S3.out.2.1 S3.out.2.2.1 S2.out.both.hpg oi os x HX.out
  rw [← HCC.out] at WA
  refine Calls.mono WA ?_
  clear WA
  rintro r w4 ⟨rfl, R4, p4, K4⟩
  obtain ⟨c, hc⟩ : ∃ c, c = (if inR n oi os then upd (fun _ => 0) (oi.toNat * 32 + os.toNat) x else fun _ => 0) := ⟨_, rfl⟩
  have S4 : Hid (St2 w w4 (W.heap.size + 1) W.heap.size g w2.heap.size n t u c) := by
    have h := S2.out
    obtain ⟨q1, q2, q3, q4, q5, q6⟩ := S3.out
    have hg := h.hg
    have hbg : W.heap.size + 1 ≠ g := h.both.hbg
    exact Lib.hid ⟨⟨by rw [hc]; exact q1.keep K4 hbg h.both.hfg, by rw [hc]; exact R4, p4, h.both.hpf, h.both.hpg, h.both.hbg, h.both.hfg⟩, q4.keep K4 (by unfold only; omega), q5.keep K4 (by unfold only; omega), q6.trans K4 (fun q hq e => by have e : q = g := e; omega), h.hf, h.hg⟩
  clear hc S3 S2 R4 p4 K4
  go_wp2_with fail
  go_loopw [21] (fun i' wr => SvI w (W.heap.size + 1) W.heap.size g w2.heap.size n t u i' wr) (fun i' _ => (2 - intOf i').toNat)
  case atStart => exact ⟨0, c, rfl, by decide, S4.out⟩
  case round =>
    clear S4
    obtain ⟨k, c, rfl, hk, S⟩ := hrel
    by_cases hlt : k < 2
    · have X0 := Lib.hid S.t
      have X1 := Lib.hid S.u
      have hk2 : k = 0 ∨ k = 1 := by omega
      clear hlt hk
      by_cases hin : inS n i s
      · obtain ⟨i0, i1, s0, s1⟩ := hin
        have HIN := Lib.hid (show inS n i s from ⟨i0, i1, s0, s1⟩)
        have d1 : decide (0 ≤ i) = true := by simpa using i0
        have d2 : decide (i < (n : Int)) = true := by simpa using i1
        have d3 : decide (0 ≤ s) = true := by simpa using s0
        have d4 : decide (s < 3) = true := by simpa using s1
        rcases hk2 with rfl | rfl
        · go_wp2_with (first | ((with_reducible refine wpList_load_trap (.tmp 14) _ _ _ X0.out ?_ rfl rfl ?_); · rfl) | ((with_reducible refine wpList_store_trapZ (.tmp 22) (.tmp 70) t ?_ rfl rfl rfl ?_); · rfl) | ((with_reducible refine wpList_load_trap (.tmp 22) _ _ _ (TrapIn.new wr t 76) ?_ rfl rfl ?_); · rfl))
          have SA := S.next ((Keep.refl _ wr).alloc (.cells t.cells 76))
          have Y0 := TrapIn.new wr t 76
          have hfl := S.both.m.flt
          have hgl := S.both.r.glt
          clear S X0 X1
          refine Calls.mono (save_in SA.both.m i s t FT.out HIN.out) ?_
          rintro r w5 ⟨rfl, M5, K5⟩
          have hbg := SA.both.hbg
          have hfg := SA.both.hfg
          have hpf := SA.both.hpf
          have hpg := SA.both.hpg
          have hf := SA.hf
          have hg := SA.hg
          have K5s := K5.size
          rw [World.size_alloc] at K5s
          have B5 : Hid (RefAt w5 g n c ∧ w5.cell? ⟨w2.heap.size, 0, none⟩ = some (refV g n) ∧ TrapIn w5 w.heap.size 0 t ∧ TrapIn w5 (w.heap.size + 1) 0 u ∧ TrapIn w5 wr.heap.size 0 t ∧ Keep nob w w5) :=
            Lib.hid ⟨SA.both.r.keep K5 (Ne.symm hfg), K5.some SA.both.p hpf, SA.t.keep K5 (by unfold only; omega), SA.u.keep K5 (by unfold only; omega), Y0.keep K5 (by unfold only; omega), SA.k.trans K5 (fun q hq e => by have e : q = W.heap.size := e; omega)⟩
          clear SA Y0 K5
          have hb5 := Lib.hid hbg
          have hb6 := Lib.hid hfg
          have hb7 := Lib.hid hpf
          have hb8 := Lib.hid hpg
          have hb9 := Lib.hid hf
          have hb10 := Lib.hid hg
          have hb11 := Lib.hid (show g ≠ wr.heap.size ∧ g < w5.heap.size by omega)
          clear hbg hfg hpf hpg hf hg hfl hgl K5s
          have LD := Lib.hid (load_t M5 i s HIN.out t (slot_same c i s t.list t.list_len s0 s1))
          have M5 := Lib.hid M5
          go_wp2_with fail
          refine Calls.mono LD.out ?_
          rintro r w6 ⟨rfl, K6⟩
          have KK : Keep nob w5 (w6.alloc (.cells t.cells 76)) := K6.alloc _
          have z6 := KK.size
          have Y7 := TrapIn.new w6 t 76
          have Q7 := Lib.hid (B5.out.2.2.2.2.1.next KK)
          have hb12 := Lib.hid (show g ≠ w6.heap.size ∧ g < (w6.alloc (.cells t.cells 76)).heap.size by have := K6.size; have := hb11.out; rw [World.size_alloc]; omega)
          clear K6 LD
          have RW := Lib.hid (fun W => refwords_ok t W)
          go_wp2_with (first | ((with_reducible refine wpList_store_trapZ (.tmp 25) (.tmp 99) t ?_ rfl rfl rfl ?_); · rfl) | ((with_reducible refine wpList_load_trap (.tmp 22) _ _ _ Q7.out ?_ rfl rfl ?_); · rfl))
          refine Calls.mono (RW.out _) ?_
          rintro r w8 ⟨rv, rfl, R8, K8⟩
          have K58 := KK.then K8
          have MD : Mid w w8 (W.heap.size + 1) W.heap.size g w2.heap.size n (i.toNat * 32 + s.toNat * 10) t u t wr.heap.size w6.heap.size (w6.alloc (.cells t.cells 76)).heap.size rv c 0 :=
            ⟨M5.out.next K58, by rw [span_zero]; exact B5.out.1.next K58, K58.some B5.out.2.1 (fun x => x), hb7.out, hb8.out, hb5.out, hb6.out, B5.out.2.2.1.next K58, B5.out.2.2.2.1.next K58, Q7.out.next K8, Y7.next K8, R8, B5.out.2.2.2.2.2.then K58, hb9.out, hb10.out, hb11.out.1, hb12.out.1, hb12.out.2⟩
          have MD := Lib.hid MD
          obtain ⟨gr, cr, rfl⟩ := R8.form
          clear Y7 Q7 B5 M5 K58 K8 KK z6 R8
          go_wp2_with fail
          go_loopw [28] (fun i' wr' => MidI w (W.heap.size + 1) W.heap.size g w2.heap.size n (i.toNat * 32 + s.toNat * 10) t u t wr.heap.size w6.heap.size (w6.alloc (.cells t.cells 76)).heap.size (.slice (some ⟨gr, 0, none⟩) 10 cr) c i' wr') (fun i' _ => (10 - intOf i').toNat)
          case atStart => exact ⟨0, rfl, by decide, MD.out⟩
          case round =>
            clear MD
            obtain ⟨k, rfl, hk, MD⟩ := hrel
            by_cases hlt : k < 10
            · have b1 : ((k : Int) < 10) := by omega
              have g0 := (MD.row.cell k (ix t.list k) (by
                have := t.list_len
                unfold ix; rw [List.getD_eq_getElem?_getD, List.getElem?_eq_getElem (by omega)]; rfl)).1
              have RS := Lib.hid (refsave t FT.out k hlt i s HIN.out MD.r MD.p MD.hpg)
              have MD := Lib.hid MD
              go_wp2_with fail
              refine Calls.mono RS.out ?_
              rintro r w9 ⟨rfl, R9, p9, K9⟩
              have MD9 := Lib.hid (MD.out.step R9 p9 K9)
              clear MD RS R9 p9 K9 g0
              go_wp2_with fail
              go_roundw
              case rel => exact ⟨k + 1, by go_num, by omega, MD9.out⟩
              case measure => simp [intOf]; omega
            · obtain rfl : k = 10 := by omega
              clear hlt hk
              have X8 := Lib.hid MD.hx
              have Y8 := Lib.hid MD.hz
              have SD := Lib.hid MD.done
              clear MD
              have hne := neTrapS
              go_wp2_with (first | ((with_reducible refine wpList_load_trap (.tmp 25) _ _ _ Y8.out ?_ rfl rfl ?_); · rfl) | ((with_reducible refine wpList_load_trap (.tmp 22) _ _ _ X8.out ?_ rfl rfl ?_); · rfl))
              go_roundw
              case rel => exact ⟨0 + 1, _, by go_num, by decide, SD.out⟩
              case measure => simp [intOf]
        · go_wp2_with (first | ((with_reducible refine wpList_load_trap (.tmp 14) _ _ _ X0.out ?_ rfl rfl ?_); · rfl) | ((with_reducible refine wpList_store_trapZ (.tmp 22) (.tmp 70) t ?_ rfl rfl rfl ?_); · rfl) | ((with_reducible refine wpList_load_trap (.tmp 15) _ _ _ (X1.out.next ((Keep.refl _ wr).alloc _)) ?_ rfl rfl ?_); · rfl) | ((with_reducible refine wpList_store_trap (.tmp 22) (.tmp 73) u t ?_ rfl rfl rfl ?_); · rfl) | ((with_reducible refine wpList_load_trap (.tmp 22) _ _ _ (TrapIn.new wr u 76) ?_ rfl rfl ?_); · rfl))
          have SA := S.next ((Keep.refl _ wr).alloc (.cells u.cells 76))
          have Y0 := TrapIn.new wr u 76
          have hfl := S.both.m.flt
          have hgl := S.both.r.glt
          clear S X0 X1
          refine Calls.mono (save_in SA.both.m i s u FU.out HIN.out) ?_
          rintro r w5 ⟨rfl, M5, K5⟩
          have hbg := SA.both.hbg
          have hfg := SA.both.hfg
          have hpf := SA.both.hpf
          have hpg := SA.both.hpg
          have hf := SA.hf
          have hg := SA.hg
          have K5s := K5.size
          rw [World.size_alloc] at K5s
          have B5 : Hid (RefAt w5 g n c ∧ w5.cell? ⟨w2.heap.size, 0, none⟩ = some (refV g n) ∧ TrapIn w5 w.heap.size 0 t ∧ TrapIn w5 (w.heap.size + 1) 0 u ∧ TrapIn w5 wr.heap.size 0 u ∧ Keep nob w w5) :=
            Lib.hid ⟨SA.both.r.keep K5 (Ne.symm hfg), K5.some SA.both.p hpf, SA.t.keep K5 (by unfold only; omega), SA.u.keep K5 (by unfold only; omega), Y0.keep K5 (by unfold only; omega), SA.k.trans K5 (fun q hq e => by have e : q = W.heap.size := e; omega)⟩
          clear SA Y0 K5
          have hb5 := Lib.hid hbg
          have hb6 := Lib.hid hfg
          have hb7 := Lib.hid hpf
          have hb8 := Lib.hid hpg
          have hb9 := Lib.hid hf
          have hb10 := Lib.hid hg
          have hb11 := Lib.hid (show g ≠ wr.heap.size ∧ g < w5.heap.size by omega)
          clear hbg hfg hpf hpg hf hg hfl hgl K5s
          have LD := Lib.hid (load_t M5 i s HIN.out u (slot_same c i s u.list u.list_len s0 s1))
          have M5 := Lib.hid M5
          go_wp2_with fail
          refine Calls.mono LD.out ?_
          rintro r w6 ⟨rfl, K6⟩
          have KK : Keep nob w5 (w6.alloc (.cells u.cells 76)) := K6.alloc _
          have z6 := KK.size
          have Y7 := TrapIn.new w6 u 76
          have Q7 := Lib.hid (B5.out.2.2.2.2.1.next KK)
          have hb12 := Lib.hid (show g ≠ w6.heap.size ∧ g < (w6.alloc (.cells u.cells 76)).heap.size by have := K6.size; have := hb11.out; rw [World.size_alloc]; omega)
          clear K6 LD
          have RW := Lib.hid (fun W => refwords_ok u W)
          go_wp2_with (first | ((with_reducible refine wpList_store_trapZ (.tmp 25) (.tmp 99) u ?_ rfl rfl rfl ?_); · rfl) | ((with_reducible refine wpList_load_trap (.tmp 22) _ _ _ Q7.out ?_ rfl rfl ?_); · rfl))
          refine Calls.mono (RW.out _) ?_
          rintro r w8 ⟨rv, rfl, R8, K8⟩
          have K58 := KK.then K8
          have MD : Mid w w8 (W.heap.size + 1) W.heap.size g w2.heap.size n (i.toNat * 32 + s.toNat * 10) t u u wr.heap.size w6.heap.size (w6.alloc (.cells u.cells 76)).heap.size rv c 0 :=
            ⟨M5.out.next K58, by rw [span_zero]; exact B5.out.1.next K58, K58.some B5.out.2.1 (fun x => x), hb7.out, hb8.out, hb5.out, hb6.out, B5.out.2.2.1.next K58, B5.out.2.2.2.1.next K58, Q7.out.next K8, Y7.next K8, R8, B5.out.2.2.2.2.2.then K58, hb9.out, hb10.out, hb11.out.1, hb12.out.1, hb12.out.2⟩
          have MD := Lib.hid MD
          obtain ⟨gr, cr, rfl⟩ := R8.form
          clear Y7 Q7 B5 M5 K58 K8 KK z6 R8
          go_wp2_with fail
          go_loopw [28] (fun i' wr' => MidI w (W.heap.size + 1) W.heap.size g w2.heap.size n (i.toNat * 32 + s.toNat * 10) t u u wr.heap.size w6.heap.size (w6.alloc (.cells u.cells 76)).heap.size (.slice (some ⟨gr, 0, none⟩) 10 cr) c i' wr') (fun i' _ => (10 - intOf i').toNat)
          case atStart => exact ⟨0, rfl, by decide, MD.out⟩
          case round =>
            clear MD
            obtain ⟨k, rfl, hk, MD⟩ := hrel
            by_cases hlt : k < 10
            · have b1 : ((k : Int) < 10) := by omega
              have g0 := (MD.row.cell k (ix u.list k) (by
                have := u.list_len
                unfold ix; rw [List.getD_eq_getElem?_getD, List.getElem?_eq_getElem (by omega)]; rfl)).1
              have RS := Lib.hid (refsave u FU.out k hlt i s HIN.out MD.r MD.p MD.hpg)
              have MD := Lib.hid MD
              go_wp2_with fail
              refine Calls.mono RS.out ?_
              rintro r w9 ⟨rfl, R9, p9, K9⟩
              have MD9 := Lib.hid (MD.out.step R9 p9 K9)
              clear MD RS R9 p9 K9 g0
              go_wp2_with fail
              go_roundw
              case rel => exact ⟨k + 1, by go_num, by omega, MD9.out⟩
              case measure => simp [intOf]; omega
            · obtain rfl : k = 10 := by omega
              clear hlt hk
              have X8 := Lib.hid MD.hx
              have Y8 := Lib.hid MD.hz
              have SD := Lib.hid MD.done
              clear MD
              have hne := neTrapS
              go_wp2_with (first | ((with_reducible refine wpList_load_trap (.tmp 25) _ _ _ Y8.out ?_ rfl rfl ?_); · rfl) | ((with_reducible refine wpList_load_trap (.tmp 22) _ _ _ X8.out ?_ rfl rfl ?_); · rfl))
              go_roundw
              case rel => exact ⟨1 + 1, _, by go_num, by decide, SD.out⟩
              case measure => simp [intOf]
      · obtain ⟨D1, d1⟩ : ∃ D, decide (0 ≤ i) = D := ⟨_, rfl⟩
        obtain ⟨D2, d2⟩ : ∃ D, decide (i < (n : Int)) = D := ⟨_, rfl⟩
        obtain ⟨D3, d3⟩ : ∃ D, decide (0 ≤ s) = D := ⟨_, rfl⟩
        obtain ⟨D4, d4⟩ : ∃ D, decide (s < 3) = D := ⟨_, rfl⟩
        have HT : D1 = false ∨ D1 = true ∧ D2 = false ∨ D1 = true ∧ D2 = true ∧ D3 = false ∨ D1 = true ∧ D2 = true ∧ D3 = true ∧ D4 = false := by
          rw [← d1, ← d2, ← d3, ← d4]
          simp only [decide_eq_true_eq, decide_eq_false_iff_not]
          unfold inS at hin
          omega
        have hin' := Lib.hid hin
        rcases hk2 with rfl | rfl
        · rcases HT with rfl | ⟨rfl, rfl⟩ | ⟨rfl, rfl, rfl⟩ | ⟨rfl, rfl, rfl, rfl⟩
          all_goals
            clear hin
            go_wp2_with (first | ((with_reducible refine wpList_load_trap (.tmp 14) _ _ _ X0.out ?_ rfl rfl ?_); · rfl) | ((with_reducible refine wpList_store_trapZ (.tmp 22) (.tmp 70) t ?_ rfl rfl rfl ?_); · rfl) | ((with_reducible refine wpList_load_trap (.tmp 22) _ _ _ (TrapIn.new wr t 76) ?_ rfl rfl ?_); · rfl))
            have SA := S.next ((Keep.refl _ wr).alloc (.cells t.cells 76))
            clear S X0 X1
            refine Calls.mono (save_out SA.both.m i s t hin'.out) ?_
            rintro r w5 ⟨rfl, K5⟩
            have S5 := SA.next K5
            have LO := Lib.hid (load_out S5.both.m i s hin'.out)
            have S5 := Lib.hid S5
            clear SA K5
            go_wp2_with fail
            refine Calls.mono LO.out ?_
            rintro r w6 ⟨rfl, K6⟩
            have S7 := Lib.hid ((S5.out.next K6).next ((Keep.refl _ w6).alloc (.cells Trap.zero.cells 76)))
            have Y7 := Lib.hid (TrapIn.new w6 Trap.zero 76)
            have hne := neTrapZ
            clear K6 LO S5
            go_wp2_with (first | ((with_reducible refine wpList_store_trapZ (.tmp 25) (.tmp 99) Trap.zero ?_ rfl rfl rfl ?_); · rfl) | ((with_reducible refine wpList_load_trap (.tmp 25) _ _ _ Y7.out ?_ rfl rfl ?_); · rfl))
            go_roundw
            case rel => exact ⟨0 + 1, _, by go_num, by decide, S7.out⟩
            case measure => simp [intOf]
        · rcases HT with rfl | ⟨rfl, rfl⟩ | ⟨rfl, rfl, rfl⟩ | ⟨rfl, rfl, rfl, rfl⟩
          all_goals
            clear hin
            go_wp2_with (first | ((with_reducible refine wpList_load_trap (.tmp 14) _ _ _ X0.out ?_ rfl rfl ?_); · rfl) | ((with_reducible refine wpList_store_trapZ (.tmp 22) (.tmp 70) t ?_ rfl rfl rfl ?_); · rfl) | ((with_reducible refine wpList_load_trap (.tmp 15) _ _ _ (X1.out.next ((Keep.refl _ wr).alloc _)) ?_ rfl rfl ?_); · rfl) | ((with_reducible refine wpList_store_trap (.tmp 22) (.tmp 73) u t ?_ rfl rfl rfl ?_); · rfl) | ((with_reducible refine wpList_load_trap (.tmp 22) _ _ _ (TrapIn.new wr u 76) ?_ rfl rfl ?_); · rfl))
            have SA := S.next ((Keep.refl _ wr).alloc (.cells u.cells 76))
            clear S X0 X1
            refine Calls.mono (save_out SA.both.m i s u hin'.out) ?_
            rintro r w5 ⟨rfl, K5⟩
            have S5 := SA.next K5
            have LO := Lib.hid (load_out S5.both.m i s hin'.out)
            have S5 := Lib.hid S5
            clear SA K5
            go_wp2_with fail
            refine Calls.mono LO.out ?_
            rintro r w6 ⟨rfl, K6⟩
            have S7 := Lib.hid ((S5.out.next K6).next ((Keep.refl _ w6).alloc (.cells Trap.zero.cells 76)))
            have Y7 := Lib.hid (TrapIn.new w6 Trap.zero 76)
            have hne := neTrapZ
            clear K6 LO S5
            go_wp2_with (first | ((with_reducible refine wpList_store_trapZ (.tmp 25) (.tmp 99) Trap.zero ?_ rfl rfl rfl ?_); · rfl) | ((with_reducible refine wpList_load_trap (.tmp 25) _ _ _ Y7.out ?_ rfl rfl ?_); · rfl))
            go_roundw
            case rel => exact ⟨1 + 1, _, by go_num, by decide, S7.out⟩
            case measure => simp [intOf]
    · have t8 : decide (k < 2) = false := by simp; omega
      obtain rfl : k = 2 := by omega
      have B0 := Lib.hid S.both
      have A0 := Lib.hid S.k
      clear S hlt hk t8
      go_wp2_with fail
      go_loopw [29] (fun i' wr' => PgI w (W.heap.size + 1) W.heap.size g w2.heap.size n c i' wr') (fun i' _ => (n - intOf i').toNat)
      case atStart => exact ⟨0, rfl, by omega, B0.out, A0.out⟩
      case round =>
        clear B0 A0
        obtain ⟨k, rfl, hk, B, A⟩ := hrel
        by_cases hlt : k < n
        · have b1 : ((k : Int) < (n : Int)) := by omega
          have PG := Lib.hid (page_in B.m k (by omega) b1)
          have B := Lib.hid B
          have A := Lib.hid A
          go_wp2_with fail
          refine Calls.mono PG.out ?_
          rintro r w5 ⟨v5, rfl, R5, K5⟩
          have B5 := Both.next B.out K5
          have PR := Lib.hid (refpage_in B5.r k (by omega) b1)
          have p5 := B5.p
          rw [show refV g n = .slice (some ⟨g, 0, none⟩) (n * 32) (n * 32) from rfl] at p5
          have B5 := Lib.hid B5
          have A5 := Lib.hid (A.out.then K5)
          have R5 := Lib.hid R5.words
          clear PG B A K5
          go_wp2_with fail
          refine Calls.mono PR.out ?_
          rintro r w6 ⟨v6, rfl, R6, K6⟩
          have B6 := Lib.hid (Both.next B5.out K6)
          have A6 := Lib.hid (A5.out.then K6)
          have SM := same_ok (R5.out.next K6) R6.words (by rw [words_len]; decide)
          rw [decide_eq_true (rfl : words c ((k : Int).toNat) = words c ((k : Int).toNat))] at SM
          have SM := Lib.hid SM
          clear PR B5 A5 K6 R5 R6 p5
          go_wp2_with fail
          refine Calls.mono SM.out ?_
          rintro r w7 ⟨rfl, K7⟩
          have B7 := Lib.hid (Both.next B6.out K7)
          have A7 := Lib.hid (A6.out.then K7)
          clear SM B6 A6 K7
          go_wp2_with fail
          go_roundw
          case rel =>
            (repeat apply Exists.intro)
            refine ⟨?_, rfl⟩
            exact ⟨k + 1, by go_num, by omega, B7.out, A7.out⟩
          case measure => simp [intOf]; omega
        · have t8 : decide (k < n) = false := by simpa using hlt
          have A := Lib.hid A
          clear B hlt
          go_wp2_with fail
          refine Calls.mono (awake04 _) ?_
          rintro r w9 ⟨rfl, K9⟩
          go_wp2_with fail
          go_ret
          exact ⟨rfl, A.out.then K9⟩
theorem walk (n i s oi os x : Int) (v0 : Value) (t : Trap) (v1 : Value) (u : Trap) (w : World) (wn : (Lit.int .i64 n).wf = true) (wi : (Lit.int .i64 i).wf = true) (ws : (Lit.int .i64 s).wf = true) (woi : (Lit.int .i64 oi).wf = true) (wos : (Lit.int .i64 os).wf = true)
    (wx : (Lit.int .u32 x).wf = true) (w0 : TrapIs v0 t) (w1 : TrapIs v1 u) :
    Calls Try.prog 18 #[.int .i64 n, .int .i64 i, .int .i64 s, .int .i64 oi, .int .i64 os, .int .u32 x, v0, v1] w fun e w' => e = .returned (.bool true) ∧ Keep nob w w' := by
  obtain ⟨rfl, ft⟩ := w0
  obtain ⟨rfl, fu⟩ := w1
  unfold Trap.val
  by_cases h : 1 ≤ n ∧ n ≤ 10
  · obtain ⟨m, rfl⟩ : ∃ m : Nat, n = m := ⟨n.toNat, by omega⟩
    exact walk_in m i s oi os x t u w (by omega) (by omega) (u32_wf wx) ft fu
  · obtain ⟨T1, s1⟩ : ∃ T, decide (n < 1) = T := ⟨_, rfl⟩
    obtain ⟨T2, s2⟩ : ∃ T, decide (10 < n) = T := ⟨_, rfl⟩
    have HT : (T1 || T2) = true := by
      rw [← s1, ← s2]
      simp only [Bool.or_eq_true, decide_eq_true_eq]
      omega
    clear h ft fu wn wi ws woi wos wx
    go_enter Try.func18, Try.ntmps18
    go_wp2_with fail
    all_goals first
      | ((with_reducible refine Calls.mono (awake04 _) ?_); rintro e w16 ⟨rfl, K16⟩; go_wp2; go_ret; exact ⟨rfl, (((Keep.refl _ _).alloc _).alloc _).then K16⟩)
      | (exfalso; simp_all)
set_option maxRecDepth 100000 in
theorem lifted (os : Os) (started : os.Started) (H : Type) (enc : TypeId × Value → H) :
    ReturnsInHanded {} Try.checked os 18 .any (Rows.trapSaveSpec.pre6 enc Try.prog Try.f18 Rows.trapSaveRow.domain false) (Rows.trapSaveSpec.post enc Try.prog Try.f18 false true false false) := by
  refine returnsInHanded_of_change (C := Try.checked) Head.own started (by kernel_rfl) Try.func18
    (ChangeSpec.witness6 (enc := enc) (C := Try.checked) false ⟨#[], #[.int .i64 0, .int .i64 0, .int .i64 0, .int .i64 0, .int .i64 0, .int .u32 0, (.agg #[.int .u32 0, .int .u32 0, .int .u32 0, .int .u32 0, .int .u32 0, .int .u32 0, .int .u32 0, .int .u32 0, .int .u32 0, .int .u32 0]), (.agg #[.int .u32 0, .int .u32 0, .int .u32 0, .int .u32 0, .int .u32 0, .int .u32 0, .int .u32 0, .int .u32 0, .int .u32 0, .int .u32 0])], []⟩ 8 (by kernel_rfl) (by kernel_rfl) (by kernel_rfl) (by kernel_rfl)) ?_
  intro W base args ds gs before hval0 hW hcnd _
  have hval : ∀ (j : Nat) t v, Try.f18.params[j]? = some t → args[j]? = some v → Value.okWide Try.prog W .any base t v := hval0
  have hW' := hW
  obtain ⟨p, q, hA0, hV, rfl, hfz, hnd⟩ := hW
  have hA : DataW.TrodAll enc Try.prog W 0 (fun _ => true) true Try.f18.params.toList args.toList ds p := hA0
  rw [Try.params18] at hA hval
  obtain ⟨v0, vs0, d0, ds0, p0, q0, hargs, rfl, rfl, h0, r0⟩ := trodAll_cons hA
  obtain ⟨v1, vs1, d1, ds1, p1, q1, rfl, rfl, rfl, h1, r1⟩ := trodAll_cons r0
  obtain ⟨v2, vs2, d2, ds2, p2, q2, rfl, rfl, rfl, h2, r2⟩ := trodAll_cons r1
  obtain ⟨v3, vs3, d3, ds3, p3, q3, rfl, rfl, rfl, h3, r3⟩ := trodAll_cons r2
  obtain ⟨v4, vs4, d4, ds4, p4, q4, rfl, rfl, rfl, h4, r4⟩ := trodAll_cons r3
  obtain ⟨v5, vs5, d5, ds5, p5, q5, rfl, rfl, rfl, h5, r5⟩ := trodAll_cons r4
  obtain ⟨v6, vs6, d6, ds6, p6, q6, rfl, rfl, rfl, h6, r6⟩ := trodAll_cons r5
  obtain ⟨v7, vs7, d7, ds7, p7, q7, rfl, rfl, rfl, h7, r7⟩ := trodAll_cons r6
  obtain ⟨rfl, rfl, rfl⟩ := trodAll_nil r7
  obtain rfl : args = #[v0, v1, v2, v3, v4, v5, v6, v7] := by cases args; simp_all
  obtain ⟨rfl, rfl⟩ := trodVars_none hV
  have k0 := h0
  have lt0 : ∀ x ∈ p0, x.block < W.heap.size := by obtain ⟨m, hm⟩ := k0; exact DataW.trod_lt m _ _ _ hm
  obtain ⟨a0, rfl, rfl, rfl, w0⟩ := open_int Try.underlying3 (hval 0 3 v0 rfl rfl) h0
  have k1 := h1
  have lt1 : ∀ x ∈ p1, x.block < W.heap.size := by obtain ⟨m, hm⟩ := k1; exact DataW.trod_lt m _ _ _ hm
  obtain ⟨a1, rfl, rfl, rfl, w1⟩ := open_int Try.underlying3 (hval 1 3 v1 rfl rfl) h1
  have k2 := h2
  have lt2 : ∀ x ∈ p2, x.block < W.heap.size := by obtain ⟨m, hm⟩ := k2; exact DataW.trod_lt m _ _ _ hm
  obtain ⟨a2, rfl, rfl, rfl, w2⟩ := open_int Try.underlying3 (hval 2 3 v2 rfl rfl) h2
  have k3 := h3
  have lt3 : ∀ x ∈ p3, x.block < W.heap.size := by obtain ⟨m, hm⟩ := k3; exact DataW.trod_lt m _ _ _ hm
  obtain ⟨a3, rfl, rfl, rfl, w3⟩ := open_int Try.underlying3 (hval 3 3 v3 rfl rfl) h3
  have k4 := h4
  have lt4 : ∀ x ∈ p4, x.block < W.heap.size := by obtain ⟨m, hm⟩ := k4; exact DataW.trod_lt m _ _ _ hm
  obtain ⟨a4, rfl, rfl, rfl, w4⟩ := open_int Try.underlying3 (hval 4 3 v4 rfl rfl) h4
  have k5 := h5
  have lt5 : ∀ x ∈ p5, x.block < W.heap.size := by obtain ⟨m, hm⟩ := k5; exact DataW.trod_lt m _ _ _ hm
  obtain ⟨a5, rfl, rfl, rfl, w5⟩ := open_int Try.underlying23 (hval 5 23 v5 rfl rfl) h5
  have k6 := h6
  have lt6 : ∀ x ∈ p6, x.block < W.heap.size := by obtain ⟨m, hm⟩ := k6; exact DataW.trod_lt m _ _ _ hm
  obtain ⟨a6, w6⟩ := open_trap (hval 6 76 v6 rfl rfl) h6
  have k7 := h7
  have lt7 : ∀ x ∈ p7, x.block < W.heap.size := by obtain ⟨m, hm⟩ := k7; exact DataW.trod_lt m _ _ _ hm
  obtain ⟨a7, w7⟩ := open_trap (hval 7 76 v7 rfl rfl) h7
  clear hA0 hval0
  refine (walk a0 a1 a2 a3 a4 a5 v6 a6 v7 a7 W w0 w1 w2 w3 w4 w5 w6 w7).mono fun e W' ⟨he, kp⟩ => ?_
  subst he
  have bel := kp.below
  exact ⟨_, rfl, _, _, _, [], _, [], hW', trodAll_mk1 (shut_bool Try.underlying4 _), (trodAll_cons_mk (shut_int Try.underlying3 w0) (trodAll_cons_mk (shut_int Try.underlying3 w1) (trodAll_cons_mk (shut_int Try.underlying3 w2) (trodAll_cons_mk (shut_int Try.underlying3 w3) (trodAll_cons_mk (shut_int Try.underlying3 w4) (trodAll_cons_mk (shut_int Try.underlying23 w5) (trodAll_cons_mk (Below.trod Head.laidOut (by kernel_rfl) (of_decide_eq_true (by kernel_rfl)) k6 bel lt6) (trodAll_cons_mk (Below.trod Head.laidOut (by kernel_rfl) (of_decide_eq_true (by kernel_rfl)) k7 bel lt7) trodAll_mk0)))))))), rfl, bel.frame _, fun h => by cases h⟩
theorem closed : joinedFacts Try.prog 18 Try.f18 Rows.trapSaveSpec Rows.trapSaveRow = true := by
  unfold joinedFacts
  rw [Head.mayEnter, Head.liftsFinal, Head.make]
  kernel_rfl
theorem over : Rows.trapSaveRow.holds Try.pinned (OpenSpec.ofChange Rows.trapSaveSpec) :=
  OpenClaim.holds_of_wide 18 Try.f18 rfl rfl rfl rfl rfl rfl rfl ⟨rfl, rfl, rfl, rfl, rfl⟩ rfl rfl rfl rfl rfl (by kernel_rfl) Try.func18 closed
    (of_decide_eq_true (by kernel_rfl)) (by unfold Func.isWrapper; first | (rw [if_pos (by decide +kernel)]; kernel_rfl) | (rw [if_neg (by decide +kernel)]; exact ⟨rfl, rfl⟩))
    (fun os started H enc _ => lifted os started H enc)
theorem proved : Rows.TrapSaveSaid := over
end Go.Proofs.Ytkkkmaigcnpmeaa.trapSave
