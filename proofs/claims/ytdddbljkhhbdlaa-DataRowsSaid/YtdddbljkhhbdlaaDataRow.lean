/-
The contract of data.Row.
-/
import Derived.Test.YtdddbljkhhbdlaaRowAns
import Derived.Deep.RegionHeld3
import Derived.RegionTactic
namespace Go.Proofs.Ytdddbljkhhbdlaa
open Go.RowKit

theorem boxesRow (w : World) (r c wd : Int) (v : Value) (r2 c2 wd2 : Int) (v2 : Value) : ∃ w1, w1 = ((w.alloc (.cells #[.int .i64 r, .int .i64 c, .int .i64 wd, v, .int .i64 r2, .int .i64 c2, .int .i64 wd2, v2] 47)).alloc (.cells #[.int .i64 0, .int .i64 0, .int .i64 0, .slice none 0 0] 45)).alloc (.cells #[.int .i64 0, .int .i64 0, .int .i64 0, .slice none 0 0] 45) ∧
    SetAt w1 w.heap.size r c wd v r2 c2 wd2 v2 ∧ MatAt w1 (w.heap.size + 1) 0 0 0 (.slice none 0 0) ∧ MatAt w1 (w.heap.size + 1 + 1) 0 0 0 (.slice none 0 0) ∧ Below w.heap.size w w1 ∧ w1.heap.size = w.heap.size + 3 := by
  obtain ⟨w1, e1, hM, hb1, hs1⟩ := boxSet w r c wd v r2 c2 wd2 v2
  rw [← e1]
  obtain ⟨w2, e2, hA, hb2, hs2⟩ := boxM w1 0 0 0 (.slice none 0 0)
  rw [← e2]
  obtain ⟨w3, e3, hB, hb3, hs3⟩ := boxM w2 0 0 0 (.slice none 0 0)
  rw [← e3]
  rw [hs2, hs1] at hB
  rw [hs1] at hA
  exact ⟨w3, rfl, (hM.below hb2).below hb3, hA.below hb3, hB, (hb1.trans (hb2.mono hb1.size)).trans (hb3.mono (by omega)), by omega⟩

set_option maxRecDepth 100000 in
set_option maxHeartbeats 1000000 in
theorem drow_err (r c wd : Int) (v : Value) (xs : List Int) (r2 c2 wd2 : Int) (v2 : Value) (ys : List Int) (k : Int) (w : World) (hv : ReadI w v xs) (hv2 : ReadI w v2 ys) (hx : xs.length ≤ 100000000) (hy : ys.length ≤ 100000000)
    (h64 : ∀ x, x ∈ xs → -9223372036854775808 ≤ x ∧ x ≤ 9223372036854775807) (h642 : ∀ x, x ∈ ys → -9223372036854775808 ≤ x ∧ x ≤ 9223372036854775807) (hE : (dchkI r c wd xs r2 c2 wd2 ys).2 ≠ 0) :
    Calls Try.prog 22 #[setV r c wd v r2 c2 wd2 v2, .int .i64 k] w fun e w' => e = .returned (.tuple #[matV 0 0 0 (.slice none 0 0), matV 0 0 0 (.slice none 0 0), .int .i64 (dchkI r c wd xs r2 c2 wd2 ys).2]) ∧ Below w.heap.size w w' := by
  have HV := Lib.hid hv
  have HV2 := Lib.hid hv2
  have H64 := Lib.hid h64
  have H642 := Lib.hid h642
  have HX := Lib.hid hx
  have HY := Lib.hid hy
  obtain ⟨E, he⟩ : ∃ E, E = (dchkI r c wd xs r2 c2 wd2 ys).2 := ⟨_, rfl⟩
  rw [← he] at hE ⊢
  have hEb : (E != 0) = true := by simp [hE]
  have HE := Lib.hid he
  clear he hE hv hv2 h64 h642 hx hy
  unfold setV
  go_enter Try.func22, Try.ntmps22
  go_wp2_with fail
  obtain ⟨w1, hw1, hM, hA, hB, hb1, hs1⟩ := boxesRow w r c wd v r2 c2 wd2 v2
  rw [← hw1]
  clear hw1 hs1
  have p0 := hM.c0
  have p1 := hM.c1
  have p2 := hM.c2
  have p3 := hM.c3
  have p4 := hM.c4
  have p5 := hM.c5
  have p6 := hM.c6
  have p7 := hM.c7
  go_wp2_with fail
  refine (dcheck_any r c wd v xs r2 c2 wd2 v2 ys w1 (HV.out.below hb1) (HV2.out.below hb1) HX.out HY.out H64.out H642.out).mono ?_
  rintro e w2 ⟨rfl, hb2⟩
  rw [← HE.out]
  have hA2 := hA.below hb2
  have hB2 := hB.below hb2
  have hbw := hb1.trans (hb2.mono hb1.size)
  clear hM hA hB hb1 hb2 p0 p1 p2 p3 p4 p5 p6 p7
  have a0 := hA2.c0
  have a1 := hA2.c1
  have a2 := hA2.c2
  have a3 := hA2.c3
  have b0 := hB2.c0
  have b1 := hB2.c1
  have b2 := hB2.c2
  have b3 := hB2.c3
  have f0 := hA2.free 0
  have f1 := hA2.free 1
  have f2 := hA2.free 2
  have f3 := hA2.free 3
  have g0 := hB2.free 0
  have g1 := hB2.free 1
  have g2 := hB2.free 2
  have g3 := hB2.free 3
  go_wp2_with fail
  obtain ⟨_, rfl, hA3, gr3⟩ := hA2.put4 0 0 0 (.slice none 0 0)
  have hB3 := hB2.grown gr3 (by simp)
  obtain ⟨_, rfl, hB4, gr4⟩ := hB3.put4 0 0 0 (.slice none 0 0)
  have hA4 := hA3.grown gr4 (by simp)
  have q0 := hA3.c0
  have q1 := hA3.c1
  have q2 := hA3.c2
  have q3 := hA3.c3
  have q4 := hB3.c0
  have q5 := hB3.c1
  have q6 := hB3.c2
  have q7 := hB3.c3
  have z0 := hA4.c0
  have z1 := hA4.c1
  have z2 := hA4.c2
  have z3 := hA4.c3
  have z4 := hB4.c0
  have z5 := hB4.c1
  have z6 := hB4.c2
  have z7 := hB4.c3
  go_region_held3 (fun w' => w'.cell? ⟨w.heap.size + 1, 0, none⟩ = some (.int .i64 0) ∧ w'.cell? ⟨w.heap.size + 1, 1, none⟩ = some (.int .i64 0) ∧ w'.cell? ⟨w.heap.size + 1, 2, none⟩ = some (.int .i64 0) ∧ w'.cell? ⟨w.heap.size + 1, 3, none⟩ = some (.slice none 0 0) ∧ w'.cell? ⟨w.heap.size + 1 + 1, 0, none⟩ = some (.int .i64 0) ∧ w'.cell? ⟨w.heap.size + 1 + 1, 1, none⟩ = some (.int .i64 0) ∧ w'.cell? ⟨w.heap.size + 1 + 1, 2, none⟩ = some (.int .i64 0) ∧ w'.cell? ⟨w.heap.size + 1 + 1, 3, none⟩ = some (.slice none 0 0)) (first | (go_keep; done) | (simp only [World.cell?_drew]; first | (with_reducible exact ⟨q0, q1, q2, q3, q4, q5, q6, q7⟩) | (with_reducible exact ⟨z0, z1, z2, z3, z4, z5, z6, z7⟩))) (fail)
  clear a0 a1 a2 a3 b0 b1 b2 b3
  go_wp2
  refine bodyPost_ret (by simp [results, Try.results22, go_sem, z0, z1, z2, z3, z4, z5, z6, z7]; try rfl) rfl ?_
  exact ⟨rfl, ((hbw.grown gr3 hbw.size (fun q hq => by cases hq; omega)).grown gr4 (by simpa [World.setCell] using hbw.size) (fun q hq => by cases hq; omega)).drew⟩
set_option maxRecDepth 100000 in
set_option maxHeartbeats 1000000 in
theorem drow_far (r c wd : Int) (v : Value) (xs : List Int) (r2 c2 wd2 : Int) (v2 : Value) (ys : List Int) (k : Int) (w : World) (hv : ReadI w v xs) (hv2 : ReadI w v2 ys) (hx : xs.length ≤ 100000000) (hy : ys.length ≤ 100000000)
    (h64 : ∀ x, x ∈ xs → -9223372036854775808 ≤ x ∧ x ≤ 9223372036854775807) (h642 : ∀ x, x ∈ ys → -9223372036854775808 ≤ x ∧ x ≤ 9223372036854775807) (hE : (dchkI r c wd xs r2 c2 wd2 ys).2 = 0) (hk : ((decide (k < 0)) = true) ∨ ((decide (k < 0)) = false ∧ (decide (r ≤ k)) = true)) :
    Calls Try.prog 22 #[setV r c wd v r2 c2 wd2 v2, .int .i64 k] w fun e w' => e = .returned (.tuple #[matV 0 0 0 (.slice none 0 0), matV 0 0 0 (.slice none 0 0), .int .i64 40]) ∧ Below w.heap.size w w' := by
  have HV := Lib.hid hv
  have HV2 := Lib.hid hv2
  have H64 := Lib.hid h64
  have H642 := Lib.hid h642
  have HX := Lib.hid hx
  have HY := Lib.hid hy
  have HE := Lib.hid hE
  have HK := Lib.hid hk
  clear hE hk hv hv2 h64 h642 hx hy
  unfold setV
  go_enter Try.func22, Try.ntmps22
  go_wp2_with fail
  obtain ⟨w1, hw1, hM, hA, hB, hb1, hs1⟩ := boxesRow w r c wd v r2 c2 wd2 v2
  rw [← hw1]
  clear hw1 hs1
  have p0 := hM.c0
  have p1 := hM.c1
  have p2 := hM.c2
  have p3 := hM.c3
  have p4 := hM.c4
  have p5 := hM.c5
  have p6 := hM.c6
  have p7 := hM.c7
  go_wp2_with fail
  refine (dcheck_any r c wd v xs r2 c2 wd2 v2 ys w1 (HV.out.below hb1) (HV2.out.below hb1) HX.out HY.out H64.out H642.out).mono ?_
  rintro e w2 ⟨rfl, hb2⟩
  rw [HE.out]
  have hM2 := hM.below hb2
  have hA2 := hA.below hb2
  have hB2 := hB.below hb2
  have hbw := hb1.trans (hb2.mono hb1.size)
  clear hM hA hB hb1 hb2 p0 p1 p2 p3 p4 p5 p6 p7
  have a0 := hA2.c0
  have a1 := hA2.c1
  have a2 := hA2.c2
  have a3 := hA2.c3
  have b0 := hB2.c0
  have b1 := hB2.c1
  have b2 := hB2.c2
  have b3 := hB2.c3
  have f0 := hA2.free 0
  have f1 := hA2.free 1
  have f2 := hA2.free 2
  have f3 := hA2.free 3
  have g0 := hB2.free 0
  have g1 := hB2.free 1
  have g2 := hB2.free 2
  have g3 := hB2.free 3
  have p0 := hM2.c0
  have HK2 := HK.out
  rcases HK2 with hk1 | ⟨hk1, hk2⟩
  · go_wp2_with fail
    obtain ⟨_, rfl, hA3, gr3⟩ := hA2.put4 0 0 0 (.slice none 0 0)
    have hB3 := hB2.grown gr3 (by simp)
    obtain ⟨_, rfl, hB4, gr4⟩ := hB3.put4 0 0 0 (.slice none 0 0)
    have hA4 := hA3.grown gr4 (by simp)
    have q0 := hA3.c0
    have q1 := hA3.c1
    have q2 := hA3.c2
    have q3 := hA3.c3
    have q4 := hB3.c0
    have q5 := hB3.c1
    have q6 := hB3.c2
    have q7 := hB3.c3
    have z0 := hA4.c0
    have z1 := hA4.c1
    have z2 := hA4.c2
    have z3 := hA4.c3
    have z4 := hB4.c0
    have z5 := hB4.c1
    have z6 := hB4.c2
    have z7 := hB4.c3
    go_region_held3 (fun w' => w'.cell? ⟨w.heap.size + 1, 0, none⟩ = some (.int .i64 0) ∧ w'.cell? ⟨w.heap.size + 1, 1, none⟩ = some (.int .i64 0) ∧ w'.cell? ⟨w.heap.size + 1, 2, none⟩ = some (.int .i64 0) ∧ w'.cell? ⟨w.heap.size + 1, 3, none⟩ = some (.slice none 0 0) ∧ w'.cell? ⟨w.heap.size + 1 + 1, 0, none⟩ = some (.int .i64 0) ∧ w'.cell? ⟨w.heap.size + 1 + 1, 1, none⟩ = some (.int .i64 0) ∧ w'.cell? ⟨w.heap.size + 1 + 1, 2, none⟩ = some (.int .i64 0) ∧ w'.cell? ⟨w.heap.size + 1 + 1, 3, none⟩ = some (.slice none 0 0)) (first | (go_keep; done) | (simp only [World.cell?_drew]; first | (with_reducible exact ⟨q0, q1, q2, q3, q4, q5, q6, q7⟩) | (with_reducible exact ⟨z0, z1, z2, z3, z4, z5, z6, z7⟩))) (fail)
    clear a0 a1 a2 a3 b0 b1 b2 b3
    go_wp2
    refine bodyPost_ret (by simp [results, Try.results22, go_sem, z0, z1, z2, z3, z4, z5, z6, z7]; try rfl) rfl ?_
    exact ⟨rfl, ((hbw.grown gr3 hbw.size (fun q hq => by cases hq; omega)).grown gr4 (by simpa [World.setCell] using hbw.size) (fun q hq => by cases hq; omega)).drew⟩
  · go_wp2_with fail
    obtain ⟨_, rfl, hA3, gr3⟩ := hA2.put4 0 0 0 (.slice none 0 0)
    have hB3 := hB2.grown gr3 (by simp)
    obtain ⟨_, rfl, hB4, gr4⟩ := hB3.put4 0 0 0 (.slice none 0 0)
    have hA4 := hA3.grown gr4 (by simp)
    have q0 := hA3.c0
    have q1 := hA3.c1
    have q2 := hA3.c2
    have q3 := hA3.c3
    have q4 := hB3.c0
    have q5 := hB3.c1
    have q6 := hB3.c2
    have q7 := hB3.c3
    have z0 := hA4.c0
    have z1 := hA4.c1
    have z2 := hA4.c2
    have z3 := hA4.c3
    have z4 := hB4.c0
    have z5 := hB4.c1
    have z6 := hB4.c2
    have z7 := hB4.c3
    go_region_held3 (fun w' => w'.cell? ⟨w.heap.size + 1, 0, none⟩ = some (.int .i64 0) ∧ w'.cell? ⟨w.heap.size + 1, 1, none⟩ = some (.int .i64 0) ∧ w'.cell? ⟨w.heap.size + 1, 2, none⟩ = some (.int .i64 0) ∧ w'.cell? ⟨w.heap.size + 1, 3, none⟩ = some (.slice none 0 0) ∧ w'.cell? ⟨w.heap.size + 1 + 1, 0, none⟩ = some (.int .i64 0) ∧ w'.cell? ⟨w.heap.size + 1 + 1, 1, none⟩ = some (.int .i64 0) ∧ w'.cell? ⟨w.heap.size + 1 + 1, 2, none⟩ = some (.int .i64 0) ∧ w'.cell? ⟨w.heap.size + 1 + 1, 3, none⟩ = some (.slice none 0 0)) (first | (go_keep; done) | (simp only [World.cell?_drew]; first | (with_reducible exact ⟨q0, q1, q2, q3, q4, q5, q6, q7⟩) | (with_reducible exact ⟨z0, z1, z2, z3, z4, z5, z6, z7⟩))) (fail)
    clear a0 a1 a2 a3 b0 b1 b2 b3
    go_wp2
    refine bodyPost_ret (by simp [results, Try.results22, go_sem, z0, z1, z2, z3, z4, z5, z6, z7]; try rfl) rfl ?_
    exact ⟨rfl, ((hbw.grown gr3 hbw.size (fun q hq => by cases hq; omega)).grown gr4 (by simpa [World.setCell] using hbw.size) (fun q hq => by cases hq; omega)).drew⟩
end Go.Proofs.Ytdddbljkhhbdlaa
