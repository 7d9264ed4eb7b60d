/- One call of a script, on a memory and on the reference's: both answer the same, and stay the same. -/
import Derived.Test.YtkkkmaigcnpmeaaRef3
import Derived.Test.YtkkkmaigcnpmeaaOps
import Derived.Deep.RegionHeld3
namespace Go.Proofs.Ytkkkmaigcnpmeaa
open Go.RowKit
set_option linter.unusedVariables false
set_option maxRecDepth 100000
def twof (f g : Nat) : Nat → Prop := fun k => k = f ∨ k = g
/-- The state within a call: w0 the world at its beginning; the memory has cm, the reference's cr; the call o lies in the block ob. -/
structure St (w0 w : World) (b f g pw n ob : Nat) (cm cr : Nat → Int) (o : Op) : Prop where
  m : MemAt w b f n cm
  r : RefAt w g n cr
  p : w.cell? ⟨pw, 0, none⟩ = some (refV g n)
  hpf : pw ≠ f
  hpg : pw ≠ g
  hbg : b ≠ g
  hfg : f ≠ g
  hof : ob ≠ f
  hog : ob ≠ g
  c0 : w.cell? ⟨ob, 0, none⟩ = some (.int .i64 o.do_)
  c1 : w.cell? ⟨ob, 1, none⟩ = some (.int .i64 o.a)
  c2 : w.cell? ⟨ob, 2, none⟩ = some (.int .i64 o.b)
  c3 : w.cell? ⟨ob, 3, none⟩ = some (.int .u32 o.x)
  k : Keep (twof f g) w0 w
section
variable {w0 w w' : World} {b f g pw n ob : Nat} {cm cr cm' cr' : Nat → Int} {o : Op}
theorem St.next (h : St w0 w b f g pw n ob cm cr o) (k : Keep nob w w') : St w0 w' b f g pw n ob cm cr o :=
  ⟨h.m.next k, h.r.next k, k.some h.p (fun x => x), h.hpf, h.hpg, h.hbg, h.hfg, h.hof, h.hog, k.some h.c0 (fun x => x), k.some h.c1 (fun x => x), k.some h.c2 (fun x => x), k.some h.c3 (fun x => x), h.k.then k⟩
theorem St.wrote (h : St w0 w b f g pw n ob cm cr o) (m : MemAt w' b f n cm') (k : Keep (only f) w w') : St w0 w' b f g pw n ob cm' cr o :=
  ⟨m, h.r.keep k (Ne.symm h.hfg), k.some h.p h.hpf, h.hpf, h.hpg, h.hbg, h.hfg, h.hof, h.hog, k.some h.c0 h.hof, k.some h.c1 h.hof, k.some h.c2 h.hof, k.some h.c3 h.hof, h.k.trans k (fun _ _ e => Or.inl e)⟩
theorem St.rewrote (h : St w0 w b f g pw n ob cm cr o) (r : RefAt w' g n cr') (k : Keep (only g) w w') : St w0 w' b f g pw n ob cm cr' o :=
  ⟨h.m.keep k h.hbg h.hfg, r, k.some h.p h.hpg, h.hpf, h.hpg, h.hbg, h.hfg, h.hof, h.hog, k.some h.c0 h.hog, k.some h.c1 h.hog, k.some h.c2 h.hog, k.some h.c3 h.hog, h.k.trans k (fun _ _ e => Or.inr e)⟩
def wrote (n : Nat) (c : Nat → Int) (o : Op) : Nat → Int := if inR n o.a o.b then upd c (o.a.toNat * 32 + o.b.toNat) o.x else c
def wcode (n : Nat) (o : Op) : Int := if inR n o.a o.b then 0 else 2
theorem st_write (h : St w0 w b f g pw n ob cm cr o) (hx : o.fine) :
    Calls Try.prog 30 #[.pointer (some ⟨b, 0, none⟩), .int .i64 o.a, .int .i64 o.b, .int .u32 o.x] w fun r w' => r = .returned (.int .i64 (wcode n o)) ∧ St w0 w' b f g pw n ob (wrote n cm o) cr o :=
  (write_any h.m o.a o.b o.x hx).mono (fun r w' q => ⟨q.1, h.wrote q.2.1 q.2.2⟩)
theorem st_refwrite (h : St w0 w b f g pw n ob cm cr o) (hx : o.fine) :
    Calls Try.prog 55 #[.pointer (some ⟨pw, 0, none⟩), .int .i64 o.a, .int .i64 o.b, .int .u32 o.x] w fun r w' => r = .returned (.int .i64 (wcode n o)) ∧ St w0 w' b f g pw n ob cm (wrote n cr o) o :=
  (refwrite_ok h.r h.p h.hpg o.a o.b o.x hx).mono (fun r w' q => ⟨q.1, h.rewrote q.2.1 q.2.2.2⟩)
end
end Go.Proofs.Ytkkkmaigcnpmeaa
