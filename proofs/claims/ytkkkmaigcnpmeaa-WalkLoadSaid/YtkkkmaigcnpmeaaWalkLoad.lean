/- Words are loaded from, and stored at, any address, in any memory, as the document says, and nothing else changes. Condition: 1 to 12 frames, at most 200 words. -/
import Derived.Test.YtkkkmaigcnpmeaaWalkAwake
import Derived.Test.YtkkkmaigcnpmeaaHead
namespace Go.Proofs.Ytkkkmaigcnpmeaa.walkLoad
open Go.ChangeShapes Go.WideShapes Go.ChangeAt Go.RowKit Go.Deep
set_option linter.unusedVariables false
set_option maxRecDepth 100000
theorem Both.next {wr w' : World} {b f g pw n : Nat} {c : Nat → Int} (h : Both wr b f g pw n c) (k : Keep nob wr w') : Both w' b f g pw n c := ⟨h.m.next k, h.r.next k, k.some h.p (fun x => x), h.hpf, h.hpg, h.hbg, h.hfg⟩
def PgI (w : World) (b f g pw n : Nat) (c : Nat → Int) (v : Value) (wr : World) : Prop :=
  ∃ k : Nat, v = .int .i64 k ∧ k ≤ n ∧ Both wr b f g pw n c ∧ Keep nob w wr
theorem rr_any {w : World} {g n : Nat} {c : Nat → Int} (M : RefAt w g n c) (i j : Int) :
    Calls Try.prog 68 #[.agg #[refV g n], .int .i64 i, .int .i64 j] w
      fun r w' => (∃ C, r = .returned (.tuple #[.int .u32 (rdW n c i j), .int .i64 C])) ∧ Keep nob w w' :=
  (refread_ok M i j).mono fun _ _ q => ⟨⟨_, q.1⟩, q.2⟩
theorem rw_any {w : World} {g n pw : Nat} {c : Nat → Int} (M : RefAt w g n c) (hp : w.cell? ⟨pw, 0, none⟩ = some (refV g n)) (hne : pw ≠ g) (i j v : Int) (hv : 0 ≤ v ∧ v < 4294967296) :
    Calls Try.prog 55 #[.pointer (some ⟨pw, 0, none⟩), .int .i64 i, .int .i64 j, .int .u32 v] w
      fun r w' => (∃ C, r = .returned (.int .i64 C)) ∧ RefAt w' g n (if inR n i j then upd c (i.toNat * 32 + j.toNat) v else c) ∧ w'.cell? ⟨pw, 0, none⟩ = some (refV g n) ∧ Keep (only g) w w' :=
  (refwrite_ok M hp hne i j v hv).mono fun _ _ q => ⟨⟨_, q.1⟩, q.2⟩
set_option maxHeartbeats 4000000 in
theorem walk (n : Int) (v : Value) (l : List Cel) (root va x : Int) (w : World) (wn : (Lit.int .i64 n).wf = true) (L : CelsAt w v l) (wroot : (Lit.int .i64 root).wf = true) (wva : (Lit.int .u32 va).wf = true) (wx : (Lit.int .u32 x).wf = true) :
    Calls Try.prog 27 #[.int .i64 n, v, .int .i64 root, .int .u32 va, .int .u32 x] w fun e w' => e = .returned (.bool true) ∧ Keep nob w w' := by
  obtain ⟨h0, h1⟩ := u32_wf wva
  have hx := Lib.hid (u32_wf wx)
  have FN := fine_ok n v l w L
  have HB := Lib.hid (fineB_iff n l)
  obtain ⟨FB, hFB⟩ : ∃ FB, FB = fineB n l := ⟨_, rfl⟩
  rw [← hFB] at FN HB
  have FN := Lib.hid FN
  clear hFB wn wroot wva wx
  have HL := Lib.hid L
  cases FB with
  | false =>
    clear L HL
    go_enter Try.func27, Try.ntmps27
    go_wp2_with fail
    refine Calls.mono FN.out ?_
    rintro r w1 ⟨rfl, rfl⟩
    go_wp2_with fail
    refine Calls.mono (awake03 _) ?_
    rintro r w9 ⟨rfl, K⟩
    go_wp2_with fail
    go_ret
    exact ⟨rfl, K⟩
  | true =>
    obtain ⟨n1, n2, n3⟩ := HB.out.1 rfl
    obtain ⟨m, rfl⟩ : ∃ m : Nat, n = m := ⟨n.toNat, by omega⟩
    have BO := Lib.hid (built_ok m v l w (by omega) (by omega) HL.out)
    have hm12 : m ≤ 12 := by omega
    clear HB HL L n1 n2 n3
    go_enter Try.func27, Try.ntmps27
    go_wp2_with fail
    refine Calls.mono FN.out ?_
    rintro r w1 ⟨rfl, rfl⟩
    go_wp2_with fail
    refine Calls.mono BO.out ?_
    rintro r w1 ⟨b, f, g, rfl, B⟩
    unfold refV
    have KA : Keep nob w1 (w1.alloc (.cells #[.slice (some ⟨g, 0, none⟩) (m * 32) (m * 32)] 58)) := (Keep.refl _ _).alloc _
    obtain ⟨c, hc⟩ : ∃ c, c = memOf m l := ⟨_, rfl⟩
    rw [← hc] at B
    have hzb := B.m.blt
    have hzf := B.m.flt
    have hzg := B.r.glt
    have BB : Both (w1.alloc (.cells #[.slice (some ⟨g, 0, none⟩) (m * 32) (m * 32)] 58)) b f g w1.heap.size m c :=
      ⟨B.m.next KA, B.r.next KA, new_at _ _ _ 0 _ rfl, by omega, by omega, B.hbg, B.hfg⟩
    have LD := Lib.hid (load_ok BB.m root va h0 h1)
    have AF := Lib.hid (fun W (M : RefAt W g m c) => refat_ok (refentry_at M) root va false h0 h1)
    have AT := Lib.hid (fun W (M : RefAt W g m c) => refat_ok (refentry_at M) root va true h0 h1)
    have ST := Lib.hid (fun W (M : MemAt W b f m c) => store_ok M root va x h0 h1 hx.out)
    unfold stW at ST
    unfold ldW at LD
    unfold refV at AF AT
    obtain ⟨F, hF⟩ : ∃ F, F = atF (entE m c) (entOk m c) root va false := ⟨_, rfl⟩
    obtain ⟨X, hX⟩ : ∃ X, X = atFr (entE m c) (entOk m c) root va false := ⟨_, rfl⟩
    obtain ⟨Y, hY⟩ : ∃ Y, Y = atPl (entE m c) (entOk m c) root va false := ⟨_, rfl⟩
    obtain ⟨H, hH⟩ : ∃ H, H = atF (entE m c) (entOk m c) root va true := ⟨_, rfl⟩
    obtain ⟨S, hS⟩ : ∃ S, S = atFr (entE m c) (entOk m c) root va true := ⟨_, rfl⟩
    obtain ⟨T, hT⟩ : ∃ T, T = atPl (entE m c) (entOk m c) root va true := ⟨_, rfl⟩
    rw [← hF, ← hX, ← hY] at LD AF
    rw [← hH, ← hS, ← hT] at AT ST
    clear hF hX hY hH hS hT
    have A0 := Lib.hid (B.k.then KA)
    have hgw := Lib.hid (show w.heap.size ≤ f ∧ w.heap.size ≤ g from ⟨B.hf, B.hg⟩)
    have BB := Lib.hid BB
    clear B KA hzb hzf hzg hc
    by_cases hF : F = 0
    · subst hF
      simp only [if_true] at LD
      obtain ⟨R, hR⟩ : ∃ R, R = rdW m c X Y := ⟨_, rfl⟩
      have RR := fun W (M : RefAt W g m c) => rr_any M X Y
      rw [← hR] at LD RR
      have RR := Lib.hid RR
      clear hR
      by_cases hH : H = 0
      · subst hH
        simp only [if_true] at ST
        go_wp2_with fail
        refine Calls.mono LD.out ?_
        rintro r w2 ⟨rfl, K2⟩
        have B2 := Both.next BB.out K2
        have A2 := Lib.hid (A0.out.then K2)
        have p2 := B2.p
        rw [show refV g m = .slice (some ⟨g, 0, none⟩) (m * 32) (m * 32) from rfl] at p2
        have B2 := Lib.hid B2
        clear K2 LD A0 BB
        go_wp2_with fail
        refine Calls.mono (AF.out _ B2.out.r) ?_
        rintro r w3 ⟨rfl, K3⟩
        have B3 := Lib.hid (Both.next B2.out K3)
        have p3 := K3.some p2 (fun x => x)
        have A3 := Lib.hid (A2.out.then K3)
        clear K3 AF A2 B2 p2
        go_wp2_with fail
        refine Calls.mono (RR.out _ B3.out.r) ?_
        rintro r w4 ⟨⟨C4, rfl⟩, K4⟩
        have B4 := Lib.hid (Both.next B3.out K4)
        have p4 := K4.some p3 (fun x => x)
        have A4 := Lib.hid (A3.out.then K4)
        clear K4 A3 B3 p3
        go_wp2_with fail
        refine Calls.mono (AT.out _ B4.out.r) ?_
        rintro r w5 ⟨rfl, K5⟩
        have B5 := Lib.hid (Both.next B4.out K5)
        have A5 := Lib.hid (A4.out.then K5)
        clear K5 A4 B4 p4 AT
        go_wp2_with fail
        refine Calls.mono (ST.out _ B5.out.m) ?_
        rintro r w6 ⟨rfl, M6, K6⟩
        have S6 : Hid (MemAt w6 b f m (if inR m S T then upd c (S.toNat * 32 + T.toNat) x else c) ∧ RefAt w6 g m c ∧ w6.cell? ⟨w1.heap.size, 0, none⟩ = some (refV g m) ∧ Keep nob w w6) :=
          Lib.hid ⟨M6, B5.out.r.keep K6 (Ne.symm B5.out.hfg), K6.some B5.out.p B5.out.hpf, A5.out.trans K6 (fun q hq e => by have e : q = f := e; have := hgw.out; omega)⟩
        clear M6 K6 ST A5
        go_wp2_with fail
        refine Calls.mono (rw_any S6.out.2.1 S6.out.2.2.1 B5.out.hpg S T x hx.out) ?_
        rintro r w7 ⟨⟨C7, rfl⟩, R7, p7, K7⟩
        have B7 : Hid (Both w7 b f g w1.heap.size m (if inR m S T then upd c (S.toNat * 32 + T.toNat) x else c)) :=
          Lib.hid ⟨S6.out.1.keep K7 B5.out.hbg B5.out.hfg, R7, p7, B5.out.hpf, B5.out.hpg, B5.out.hbg, B5.out.hfg⟩
        have A7 := Lib.hid (S6.out.2.2.2.trans K7 (fun q hq e => by have e : q = g := e; have := hgw.out; omega))
        obtain ⟨d, hd⟩ : ∃ d, d = (if inR m S T then upd c (S.toNat * 32 + T.toNat) x else c) := ⟨_, rfl⟩
        rw [← hd] at B7
        clear hd R7 p7 K7 S6 B5
        go_wp2_with fail
        go_loopw [25] (fun i' wr' => PgI w b f g w1.heap.size m d i' wr') (fun i' _ => (m - intOf i').toNat)
        case atStart => exact ⟨0, rfl, Nat.zero_le _, B7.out, A7.out⟩
        case round =>
          clear B7 A7
          obtain ⟨k, rfl, hk, B, A⟩ := hrel
          by_cases hlt : k < m
          · have b1 : ((k : Int) < (m : Int)) := by omega
            have PG := Lib.hid (page_in B.m k (by omega) b1)
            have B := Lib.hid B
            have A := Lib.hid A
            go_wp2_with fail
            refine Calls.mono PG.out ?_
            rintro r w5 ⟨v5, rfl, R5, K5⟩
            have B5 := Both.next B.out K5
            have PR := Lib.hid (refpage_in B5.r k (by omega) b1)
            have p5 := B5.p
            rw [show refV g m = .slice (some ⟨g, 0, none⟩) (m * 32) (m * 32) from rfl] at p5
            have B5 := Lib.hid B5
            have A5 := Lib.hid (A.out.then K5)
            have R5 := Lib.hid R5.words
            clear PG B A K5
            go_wp2_with fail
            refine Calls.mono PR.out ?_
            rintro r w6 ⟨v6, rfl, R6, K6⟩
            have B6 := Lib.hid (Both.next B5.out K6)
            have A6 := Lib.hid (A5.out.then K6)
            have SM := same_ok (R5.out.next K6) R6.words (by rw [words_len]; decide)
            rw [decide_eq_true (rfl : words d ((k : Int).toNat) = words d ((k : Int).toNat))] at SM
            have SM := Lib.hid SM
            clear PR B5 A5 K6 R5 R6 p5
            go_wp2_with fail
            refine Calls.mono SM.out ?_
            rintro r w7 ⟨rfl, K7⟩
            have B7 := Lib.hid (Both.next B6.out K7)
            have A7 := Lib.hid (A6.out.then K7)
            clear SM B6 A6 K7
            go_wp2_with fail
            go_roundw
            case rel =>
              exact ⟨k + 1, by go_num, by omega, B7.out, A7.out⟩
            case measure => simp [intOf]; omega
          · have t8 : decide (k < m) = false := by simpa using hlt
            have A := Lib.hid A
            clear B hlt
            go_wp2_with fail
            refine Calls.mono (awake03 _) ?_
            rintro r w9 ⟨rfl, K9⟩
            go_wp2_with fail
            go_ret
            exact ⟨rfl, A.out.then K9⟩
      · have t2 : (H == 0) = false := by simpa using hH
        simp only [if_neg hH] at ST
        clear hH
        go_wp2_with fail
        refine Calls.mono LD.out ?_
        rintro r w2 ⟨rfl, K2⟩
        have B2 := Both.next BB.out K2
        have A2 := Lib.hid (A0.out.then K2)
        have p2 := B2.p
        rw [show refV g m = .slice (some ⟨g, 0, none⟩) (m * 32) (m * 32) from rfl] at p2
        have B2 := Lib.hid B2
        clear K2 LD A0 BB
        go_wp2_with fail
        refine Calls.mono (AF.out _ B2.out.r) ?_
        rintro r w3 ⟨rfl, K3⟩
        have B3 := Lib.hid (Both.next B2.out K3)
        have p3 := K3.some p2 (fun x => x)
        have A3 := Lib.hid (A2.out.then K3)
        clear K3 AF A2 B2 p2
        go_wp2_with fail
        refine Calls.mono (RR.out _ B3.out.r) ?_
        rintro r w4 ⟨⟨C4, rfl⟩, K4⟩
        have B4 := Lib.hid (Both.next B3.out K4)
        have p4 := K4.some p3 (fun x => x)
        have A4 := Lib.hid (A3.out.then K4)
        clear K4 A3 B3 p3
        go_wp2_with fail
        refine Calls.mono (AT.out _ B4.out.r) ?_
        rintro r w5 ⟨rfl, K5⟩
        have B5 := Lib.hid (Both.next B4.out K5)
        have A5 := Lib.hid (A4.out.then K5)
        clear K5 A4 B4 p4 AT
        go_wp2_with fail
        refine Calls.mono (ST.out _ B5.out.m) ?_
        rintro r w6 ⟨rfl, M6, K6⟩
        have K6' : Keep nob w w6 := A5.out.trans K6 (fun q hq e => by have e : q = f := e; have := hgw.out; omega)
        have B7 : Hid (Both w6 b f g w1.heap.size m c) :=
          Lib.hid ⟨M6, B5.out.r.keep K6 (Ne.symm B5.out.hfg), K6.some B5.out.p B5.out.hpf, B5.out.hpf, B5.out.hpg, B5.out.hbg, B5.out.hfg⟩
        have A7 := Lib.hid K6'
        obtain ⟨d, hd⟩ : ∃ d, d = c := ⟨_, rfl⟩
        rw [← hd] at B7
        clear hd M6 K6 K6' ST A5 B5
        go_wp2_with fail
        go_loopw [25] (fun i' wr' => PgI w b f g w1.heap.size m d i' wr') (fun i' _ => (m - intOf i').toNat)
        case atStart => exact ⟨0, rfl, Nat.zero_le _, B7.out, A7.out⟩
        case round =>
          clear B7 A7
          obtain ⟨k, rfl, hk, B, A⟩ := hrel
          by_cases hlt : k < m
          · have b1 : ((k : Int) < (m : Int)) := by omega
            have PG := Lib.hid (page_in B.m k (by omega) b1)
            have B := Lib.hid B
            have A := Lib.hid A
            go_wp2_with fail
            refine Calls.mono PG.out ?_
            rintro r w5 ⟨v5, rfl, R5, K5⟩
            have B5 := Both.next B.out K5
            have PR := Lib.hid (refpage_in B5.r k (by omega) b1)
            have p5 := B5.p
            rw [show refV g m = .slice (some ⟨g, 0, none⟩) (m * 32) (m * 32) from rfl] at p5
            have B5 := Lib.hid B5
            have A5 := Lib.hid (A.out.then K5)
            have R5 := Lib.hid R5.words
            clear PG B A K5
            go_wp2_with fail
            refine Calls.mono PR.out ?_
            rintro r w6 ⟨v6, rfl, R6, K6⟩
            have B6 := Lib.hid (Both.next B5.out K6)
            have A6 := Lib.hid (A5.out.then K6)
            have SM := same_ok (R5.out.next K6) R6.words (by rw [words_len]; decide)
            rw [decide_eq_true (rfl : words d ((k : Int).toNat) = words d ((k : Int).toNat))] at SM
            have SM := Lib.hid SM
            clear PR B5 A5 K6 R5 R6 p5
            go_wp2_with fail
            refine Calls.mono SM.out ?_
            rintro r w7 ⟨rfl, K7⟩
            have B7 := Lib.hid (Both.next B6.out K7)
            have A7 := Lib.hid (A6.out.then K7)
            clear SM B6 A6 K7
            go_wp2_with fail
            go_roundw
            case rel =>
              exact ⟨k + 1, by go_num, by omega, B7.out, A7.out⟩
            case measure => simp [intOf]; omega
          · have t8 : decide (k < m) = false := by simpa using hlt
            have A := Lib.hid A
            clear B hlt
            go_wp2_with fail
            refine Calls.mono (awake03 _) ?_
            rintro r w9 ⟨rfl, K9⟩
            go_wp2_with fail
            go_ret
            exact ⟨rfl, A.out.then K9⟩
    · have t1 : (F != 0) = true := by simpa using hF
      simp only [if_neg hF] at LD
      clear hF
      by_cases hH : H = 0
      · subst hH
        simp only [if_true] at ST
        go_wp2_with fail
        refine Calls.mono LD.out ?_
        rintro r w2 ⟨rfl, K2⟩
        have B2 := Both.next BB.out K2
        have A2 := Lib.hid (A0.out.then K2)
        have p2 := B2.p
        rw [show refV g m = .slice (some ⟨g, 0, none⟩) (m * 32) (m * 32) from rfl] at p2
        have B2 := Lib.hid B2
        clear K2 LD A0 BB
        go_wp2_with fail
        refine Calls.mono (AF.out _ B2.out.r) ?_
        rintro r w3 ⟨rfl, K3⟩
        have B3 := Lib.hid (Both.next B2.out K3)
        have p3 := K3.some p2 (fun x => x)
        have A3 := Lib.hid (A2.out.then K3)
        clear K3 AF A2 B2 p2
        go_wp2_with fail
        refine Calls.mono (rr_any B3.out.r X Y) ?_
        rintro r w4 ⟨⟨C4, rfl⟩, K4⟩
        have B4 := Lib.hid (Both.next B3.out K4)
        have p4 := K4.some p3 (fun x => x)
        have A4 := Lib.hid (A3.out.then K4)
        clear K4 A3 B3 p3
        go_wp2_with fail
        refine Calls.mono (AT.out _ B4.out.r) ?_
        rintro r w5 ⟨rfl, K5⟩
        have B5 := Lib.hid (Both.next B4.out K5)
        have A5 := Lib.hid (A4.out.then K5)
        clear K5 A4 B4 p4 AT
        go_wp2_with fail
        refine Calls.mono (ST.out _ B5.out.m) ?_
        rintro r w6 ⟨rfl, M6, K6⟩
        have S6 : Hid (MemAt w6 b f m (if inR m S T then upd c (S.toNat * 32 + T.toNat) x else c) ∧ RefAt w6 g m c ∧ w6.cell? ⟨w1.heap.size, 0, none⟩ = some (refV g m) ∧ Keep nob w w6) :=
          Lib.hid ⟨M6, B5.out.r.keep K6 (Ne.symm B5.out.hfg), K6.some B5.out.p B5.out.hpf, A5.out.trans K6 (fun q hq e => by have e : q = f := e; have := hgw.out; omega)⟩
        clear M6 K6 ST A5
        go_wp2_with fail
        refine Calls.mono (rw_any S6.out.2.1 S6.out.2.2.1 B5.out.hpg S T x hx.out) ?_
        rintro r w7 ⟨⟨C7, rfl⟩, R7, p7, K7⟩
        have B7 : Hid (Both w7 b f g w1.heap.size m (if inR m S T then upd c (S.toNat * 32 + T.toNat) x else c)) :=
          Lib.hid ⟨S6.out.1.keep K7 B5.out.hbg B5.out.hfg, R7, p7, B5.out.hpf, B5.out.hpg, B5.out.hbg, B5.out.hfg⟩
        have A7 := Lib.hid (S6.out.2.2.2.trans K7 (fun q hq e => by have e : q = g := e; have := hgw.out; omega))
        obtain ⟨d, hd⟩ : ∃ d, d = (if inR m S T then upd c (S.toNat * 32 + T.toNat) x else c) := ⟨_, rfl⟩
        rw [← hd] at B7
        clear hd R7 p7 K7 S6 B5
        go_wp2_with fail
        go_loopw [25] (fun i' wr' => PgI w b f g w1.heap.size m d i' wr') (fun i' _ => (m - intOf i').toNat)
        case atStart => exact ⟨0, rfl, Nat.zero_le _, B7.out, A7.out⟩
        case round =>
          clear B7 A7
          obtain ⟨k, rfl, hk, B, A⟩ := hrel
          by_cases hlt : k < m
          · have b1 : ((k : Int) < (m : Int)) := by omega
            have PG := Lib.hid (page_in B.m k (by omega) b1)
            have B := Lib.hid B
            have A := Lib.hid A
            go_wp2_with fail
            refine Calls.mono PG.out ?_
            rintro r w5 ⟨v5, rfl, R5, K5⟩
            have B5 := Both.next B.out K5
            have PR := Lib.hid (refpage_in B5.r k (by omega) b1)
            have p5 := B5.p
            rw [show refV g m = .slice (some ⟨g, 0, none⟩) (m * 32) (m * 32) from rfl] at p5
            have B5 := Lib.hid B5
            have A5 := Lib.hid (A.out.then K5)
            have R5 := Lib.hid R5.words
            clear PG B A K5
            go_wp2_with fail
            refine Calls.mono PR.out ?_
            rintro r w6 ⟨v6, rfl, R6, K6⟩
            have B6 := Lib.hid (Both.next B5.out K6)
            have A6 := Lib.hid (A5.out.then K6)
            have SM := same_ok (R5.out.next K6) R6.words (by rw [words_len]; decide)
            rw [decide_eq_true (rfl : words d ((k : Int).toNat) = words d ((k : Int).toNat))] at SM
            have SM := Lib.hid SM
            clear PR B5 A5 K6 R5 R6 p5
            go_wp2_with fail
            refine Calls.mono SM.out ?_
            rintro r w7 ⟨rfl, K7⟩
            have B7 := Lib.hid (Both.next B6.out K7)
            have A7 := Lib.hid (A6.out.then K7)
            clear SM B6 A6 K7
            go_wp2_with fail
            go_roundw
            case rel =>
              exact ⟨k + 1, by go_num, by omega, B7.out, A7.out⟩
            case measure => simp [intOf]; omega
          · have t8 : decide (k < m) = false := by simpa using hlt
            have A := Lib.hid A
            clear B hlt
            go_wp2_with fail
            refine Calls.mono (awake03 _) ?_
            rintro r w9 ⟨rfl, K9⟩
            go_wp2_with fail
            go_ret
            exact ⟨rfl, A.out.then K9⟩
      · have t2 : (H == 0) = false := by simpa using hH
        simp only [if_neg hH] at ST
        clear hH
        go_wp2_with fail
        refine Calls.mono LD.out ?_
        rintro r w2 ⟨rfl, K2⟩
        have B2 := Both.next BB.out K2
        have A2 := Lib.hid (A0.out.then K2)
        have p2 := B2.p
        rw [show refV g m = .slice (some ⟨g, 0, none⟩) (m * 32) (m * 32) from rfl] at p2
        have B2 := Lib.hid B2
        clear K2 LD A0 BB
        go_wp2_with fail
        refine Calls.mono (AF.out _ B2.out.r) ?_
        rintro r w3 ⟨rfl, K3⟩
        have B3 := Lib.hid (Both.next B2.out K3)
        have p3 := K3.some p2 (fun x => x)
        have A3 := Lib.hid (A2.out.then K3)
        clear K3 AF A2 B2 p2
        go_wp2_with fail
        refine Calls.mono (rr_any B3.out.r X Y) ?_
        rintro r w4 ⟨⟨C4, rfl⟩, K4⟩
        have B4 := Lib.hid (Both.next B3.out K4)
        have p4 := K4.some p3 (fun x => x)
        have A4 := Lib.hid (A3.out.then K4)
        clear K4 A3 B3 p3
        go_wp2_with fail
        refine Calls.mono (AT.out _ B4.out.r) ?_
        rintro r w5 ⟨rfl, K5⟩
        have B5 := Lib.hid (Both.next B4.out K5)
        have A5 := Lib.hid (A4.out.then K5)
        clear K5 A4 B4 p4 AT
        go_wp2_with fail
        refine Calls.mono (ST.out _ B5.out.m) ?_
        rintro r w6 ⟨rfl, M6, K6⟩
        have K6' : Keep nob w w6 := A5.out.trans K6 (fun q hq e => by have e : q = f := e; have := hgw.out; omega)
        have B7 : Hid (Both w6 b f g w1.heap.size m c) :=
          Lib.hid ⟨M6, B5.out.r.keep K6 (Ne.symm B5.out.hfg), K6.some B5.out.p B5.out.hpf, B5.out.hpf, B5.out.hpg, B5.out.hbg, B5.out.hfg⟩
        have A7 := Lib.hid K6'
        obtain ⟨d, hd⟩ : ∃ d, d = c := ⟨_, rfl⟩
        rw [← hd] at B7
        clear hd M6 K6 K6' ST A5 B5
        go_wp2_with fail
        go_loopw [25] (fun i' wr' => PgI w b f g w1.heap.size m d i' wr') (fun i' _ => (m - intOf i').toNat)
        case atStart => exact ⟨0, rfl, Nat.zero_le _, B7.out, A7.out⟩
        case round =>
          clear B7 A7
          obtain ⟨k, rfl, hk, B, A⟩ := hrel
          by_cases hlt : k < m
          · have b1 : ((k : Int) < (m : Int)) := by omega
            have PG := Lib.hid (page_in B.m k (by omega) b1)
            have B := Lib.hid B
            have A := Lib.hid A
            go_wp2_with fail
            refine Calls.mono PG.out ?_
            rintro r w5 ⟨v5, rfl, R5, K5⟩
            have B5 := Both.next B.out K5
            have PR := Lib.hid (refpage_in B5.r k (by omega) b1)
            have p5 := B5.p
            rw [show refV g m = .slice (some ⟨g, 0, none⟩) (m * 32) (m * 32) from rfl] at p5
            have B5 := Lib.hid B5
            have A5 := Lib.hid (A.out.then K5)
            have R5 := Lib.hid R5.words
            clear PG B A K5
            go_wp2_with fail
            refine Calls.mono PR.out ?_
            rintro r w6 ⟨v6, rfl, R6, K6⟩
            have B6 := Lib.hid (Both.next B5.out K6)
            have A6 := Lib.hid (A5.out.then K6)
            have SM := same_ok (R5.out.next K6) R6.words (by rw [words_len]; decide)
            rw [decide_eq_true (rfl : words d ((k : Int).toNat) = words d ((k : Int).toNat))] at SM
            have SM := Lib.hid SM
            clear PR B5 A5 K6 R5 R6 p5
            go_wp2_with fail
            refine Calls.mono SM.out ?_
            rintro r w7 ⟨rfl, K7⟩
            have B7 := Lib.hid (Both.next B6.out K7)
            have A7 := Lib.hid (A6.out.then K7)
            clear SM B6 A6 K7
            go_wp2_with fail
            go_roundw
            case rel =>
              exact ⟨k + 1, by go_num, by omega, B7.out, A7.out⟩
            case measure => simp [intOf]; omega
          · have t8 : decide (k < m) = false := by simpa using hlt
            have A := Lib.hid A
            clear B hlt
            go_wp2_with fail
            refine Calls.mono (awake03 _) ?_
            rintro r w9 ⟨rfl, K9⟩
            go_wp2_with fail
            go_ret
            exact ⟨rfl, A.out.then K9⟩
set_option maxRecDepth 100000 in
theorem lifted (os : Os) (started : os.Started) (H : Type) (enc : TypeId × Value → H) :
    ReturnsInHanded {} Try.checked os 27 .any (Rows.walkLoadSpec.pre6 enc Try.prog Try.f27 Rows.walkLoadRow.domain false) (Rows.walkLoadSpec.post enc Try.prog Try.f27 false true false false) := by
  refine returnsInHanded_of_change (C := Try.checked) Head.own started (by kernel_rfl) Try.func27
    (ChangeSpec.witness6 (enc := enc) (C := Try.checked) false ⟨#[], #[.int .i64 0, .slice none 0 0, .int .i64 0, .int .u32 0, .int .u32 0], []⟩ 8 (by kernel_rfl) (by kernel_rfl) (by kernel_rfl) (by kernel_rfl)) ?_
  intro W base args ds gs before hval0 hW hcnd _
  have hval : ∀ (j : Nat) t v, Try.f27.params[j]? = some t → args[j]? = some v → Value.okWide Try.prog W .any base t v := hval0
  have hW' := hW
  obtain ⟨p, q, hA0, hV, rfl, hfz, hnd⟩ := hW
  have hA : DataW.TrodAll enc Try.prog W 0 (fun _ => true) true Try.f27.params.toList args.toList ds p := hA0
  rw [Try.params27] at hA hval
  obtain ⟨v0, vs0, d0, ds0, p0, q0, hargs, rfl, rfl, h0, r0⟩ := trodAll_cons hA
  obtain ⟨v1, vs1, d1, ds1, p1, q1, rfl, rfl, rfl, h1, r1⟩ := trodAll_cons r0
  obtain ⟨v2, vs2, d2, ds2, p2, q2, rfl, rfl, rfl, h2, r2⟩ := trodAll_cons r1
  obtain ⟨v3, vs3, d3, ds3, p3, q3, rfl, rfl, rfl, h3, r3⟩ := trodAll_cons r2
  obtain ⟨v4, vs4, d4, ds4, p4, q4, rfl, rfl, rfl, h4, r4⟩ := trodAll_cons r3
  obtain ⟨rfl, rfl, rfl⟩ := trodAll_nil r4
  obtain rfl : args = #[v0, v1, v2, v3, v4] := by cases args; simp_all
  obtain ⟨rfl, rfl⟩ := trodVars_none hV
  have k0 := h0
  have lt0 : ∀ x ∈ p0, x.block < W.heap.size := by obtain ⟨m, hm⟩ := k0; exact DataW.trod_lt m _ _ _ hm
  obtain ⟨a0, rfl, rfl, rfl, w0⟩ := open_int Try.underlying3 (hval 0 3 v0 rfl rfl) h0
  have k1 := h1
  have lt1 : ∀ x ∈ p1, x.block < W.heap.size := by obtain ⟨m, hm⟩ := k1; exact DataW.trod_lt m _ _ _ hm
  obtain ⟨a1, w1⟩ := open_cels (hval 1 90 v1 rfl rfl) h1
  have k2 := h2
  have lt2 : ∀ x ∈ p2, x.block < W.heap.size := by obtain ⟨m, hm⟩ := k2; exact DataW.trod_lt m _ _ _ hm
  obtain ⟨a2, rfl, rfl, rfl, w2⟩ := open_int Try.underlying3 (hval 2 3 v2 rfl rfl) h2
  have k3 := h3
  have lt3 : ∀ x ∈ p3, x.block < W.heap.size := by obtain ⟨m, hm⟩ := k3; exact DataW.trod_lt m _ _ _ hm
  obtain ⟨a3, rfl, rfl, rfl, w3⟩ := open_int Try.underlying23 (hval 3 23 v3 rfl rfl) h3
  have k4 := h4
  have lt4 : ∀ x ∈ p4, x.block < W.heap.size := by obtain ⟨m, hm⟩ := k4; exact DataW.trod_lt m _ _ _ hm
  obtain ⟨a4, rfl, rfl, rfl, w4⟩ := open_int Try.underlying23 (hval 4 23 v4 rfl rfl) h4
  clear hA0 hval0
  refine (walk a0 v1 a1 a2 a3 a4 W w0 w1 w2 w3 w4).mono fun e W' ⟨he, kp⟩ => ?_
  subst he
  have bel := kp.below
  exact ⟨_, rfl, _, _, _, [], _, [], hW', trodAll_mk1 (shut_bool Try.underlying4 _), (trodAll_cons_mk (shut_int Try.underlying3 w0) (trodAll_cons_mk (Below.trod Head.laidOut (by kernel_rfl) (of_decide_eq_true (by kernel_rfl)) k1 bel lt1) (trodAll_cons_mk (shut_int Try.underlying3 w2) (trodAll_cons_mk (shut_int Try.underlying23 w3) (trodAll_cons_mk (shut_int Try.underlying23 w4) trodAll_mk0))))), rfl, bel.frame _, fun h => by cases h⟩
theorem closed : joinedFacts Try.prog 27 Try.f27 Rows.walkLoadSpec Rows.walkLoadRow = true := by
  unfold joinedFacts
  rw [Head.mayEnter, Head.liftsFinal, Head.make]
  kernel_rfl
theorem over : Rows.walkLoadRow.holds Try.pinned (OpenSpec.ofChange Rows.walkLoadSpec) :=
  OpenClaim.holds_of_wide 27 Try.f27 rfl rfl rfl rfl rfl rfl rfl ⟨rfl, rfl, rfl, rfl, rfl⟩ rfl rfl rfl rfl rfl (by kernel_rfl) Try.func27 closed
    (of_decide_eq_true (by kernel_rfl)) (by unfold Func.isWrapper; first | (rw [if_pos (by decide +kernel)]; kernel_rfl) | (rw [if_neg (by decide +kernel)]; exact ⟨rfl, rfl⟩))
    (fun os started H enc _ => lifted os started H enc)
theorem proved : Rows.WalkLoadSaid := over
end Go.Proofs.Ytkkkmaigcnpmeaa.walkLoad
