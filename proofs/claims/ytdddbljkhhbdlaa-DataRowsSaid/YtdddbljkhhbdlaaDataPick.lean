/-
The contract of data.Pick.
-/
import Derived.Test.YtdddbljkhhbdlaaRowBoth
import Derived.Test.YtdddbljkhhbdlaaLentSet
namespace Go.Proofs.Ytdddbljkhhbdlaa
open Go.RowKit

/-- Is a row not there? -/
def badR (r k : Int) : Bool := decide (k < 0) || decide (r ≤ k)
/-- What Pick answers. -/
def pickAns (r c wd : Int) (xs : List Int) (r2 c2 wd2 : Int) (ys rows : List Int) : MatI × MatI × Int :=
  if (dchkI r c wd xs r2 c2 wd2 ys).2 ≠ 0 then (zeroM, zeroM, (dchkI r c wd xs r2 c2 wd2 ys).2)
  else if rows = [] then (zeroM, zeroM, 41)
  else if rows.any (badR r) then (zeroM, zeroM, 40)
  else if 4096 < (rows.length : Int) * c ∨ 4096 < (rows.length : Int) * c2 then (zeroM, zeroM, 2)
  else (⟨rows.length, c, wd, rowsI c.toNat xs rows⟩, ⟨rows.length, c2, wd2, rowsI c2.toNat ys rows⟩, 0)

def setOf (a b : MatI) (u u' : Value) : Value := setV a.r a.c a.w u b.r b.c b.w u'

set_option maxRecDepth 100000 in
set_option maxHeartbeats 1000000 in
theorem dpick_err (r c wd : Int) (v : Value) (xs : List Int) (r2 c2 wd2 : Int) (v2 : Value) (ys : List Int) (al : Option Addr) (n cl : Nat) (w : World) (hv : ReadI w v xs) (hv2 : ReadI w v2 ys) (hx : xs.length ≤ 100000000) (hy : ys.length ≤ 100000000)
    (h64 : ∀ x, x ∈ xs → -9223372036854775808 ≤ x ∧ x ≤ 9223372036854775807) (h642 : ∀ x, x ∈ ys → -9223372036854775808 ≤ x ∧ x ≤ 9223372036854775807) (E : Int)
    (hE : ((dchkI r c wd xs r2 c2 wd2 ys).2 ≠ 0 ∧ E = (dchkI r c wd xs r2 c2 wd2 ys).2) ∨ ((dchkI r c wd xs r2 c2 wd2 ys).2 = 0 ∧ n = 0 ∧ E = 41)) :
    Calls Try.prog 27 #[setV r c wd v r2 c2 wd2 v2, .slice al n cl] w fun e w' => e = .returned (.tuple #[setV 0 0 0 (.slice none 0 0) 0 0 0 (.slice none 0 0), .int .i64 E]) ∧ Below w.heap.size w w' := by
  have HV := Lib.hid hv
  have HV2 := Lib.hid hv2
  have H64 := Lib.hid h64
  have H642 := Lib.hid h642
  have HX := Lib.hid hx
  have HY := Lib.hid hy
  have HE := Lib.hid hE
  obtain ⟨E0, he⟩ : ∃ E0, E0 = (dchkI r c wd xs r2 c2 wd2 ys).2 := ⟨_, rfl⟩
  rw [← he] at HE
  have HEE := Lib.hid he
  clear he hE hv hv2 h64 h642 hx hy
  unfold setV
  go_enter Try.func27, Try.ntmps27
  go_wp2_with fail
  obtain ⟨w1, hw1, hM, hZ, hb1, hs1⟩ := boxesSet w r c wd v r2 c2 wd2 v2
  rw [← hw1]
  clear hw1 hs1
  have p0 := hM.c0
  have p1 := hM.c1
  have p2 := hM.c2
  have p3 := hM.c3
  have p4 := hM.c4
  have p5 := hM.c5
  have p6 := hM.c6
  have p7 := hM.c7
  go_wp2_with fail
  refine (dcheck_any r c wd v xs r2 c2 wd2 v2 ys w1 (HV.out.below hb1) (HV2.out.below hb1) HX.out HY.out H64.out H642.out).mono ?_
  rintro e w2 ⟨rfl, hb2⟩
  rw [← HEE.out]
  have hZ2 := hZ.below hb2
  have hbw := hb1.trans (hb2.mono hb1.size)
  clear hM hZ hb1 hb2 p0 p1 p2 p3 p4 p5 p6 p7
  have z0 := hZ2.c0
  have z1 := hZ2.c1
  have z2 := hZ2.c2
  have z3 := hZ2.c3
  have z4 := hZ2.c4
  have z5 := hZ2.c5
  have z6 := hZ2.c6
  have z7 := hZ2.c7
  have f0 := hZ2.free 0
  have f1 := hZ2.free 1
  have f2 := hZ2.free 2
  have f3 := hZ2.free 3
  have f4 := hZ2.free 4
  have f5 := hZ2.free 5
  have f6 := hZ2.free 6
  have f7 := hZ2.free 7
  rcases HE.out with ⟨h1, h2⟩ | ⟨h1, h2, h3⟩
  · have q1 : (E0 != 0) = true := by simp [h1]
    have H2 := Lib.hid h2
    clear h1 h2
    go_wp2
    obtain ⟨w5, hw5, hZ5, hg5⟩ := hZ2.put8 0 0 0 (.slice none 0 0) 0 0 0 (.slice none 0 0)
    rw [← hw5]
    clear hw5 z0 z1 z2 z3 z4 z5 z6 z7 f0 f1 f2 f3 f4 f5 f6 f7
    have z0 := hZ5.c0
    have z1 := hZ5.c1
    have z2 := hZ5.c2
    have z3 := hZ5.c3
    have z4 := hZ5.c4
    have z5 := hZ5.c5
    have z6 := hZ5.c6
    have z7 := hZ5.c7
    refine bodyPost_ret (by simp [results, Try.results27, go_sem, z0, z1, z2, z3, z4, z5, z6, z7]; try rfl) rfl ?_
    exact ⟨by rw [H2.out], hbw.grown hg5 hbw.size (fun q hq => by cases hq; omega)⟩
  · subst h2 h3
    have q1 : (E0 != 0) = false := by simp [h1]
    clear h1
    go_wp2
    obtain ⟨w5, hw5, hZ5, hg5⟩ := hZ2.put8 0 0 0 (.slice none 0 0) 0 0 0 (.slice none 0 0)
    rw [← hw5]
    clear hw5 z0 z1 z2 z3 z4 z5 z6 z7 f0 f1 f2 f3 f4 f5 f6 f7
    have z0 := hZ5.c0
    have z1 := hZ5.c1
    have z2 := hZ5.c2
    have z3 := hZ5.c3
    have z4 := hZ5.c4
    have z5 := hZ5.c5
    have z6 := hZ5.c6
    have z7 := hZ5.c7
    refine bodyPost_ret (by simp [results, Try.results27, go_sem, z0, z1, z2, z3, z4, z5, z6, z7]; try rfl) rfl ?_
    exact ⟨rfl, hbw.grown hg5 hbw.size (fun q hq => by cases hq; omega)⟩
end Go.Proofs.Ytdddbljkhhbdlaa
