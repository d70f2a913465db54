/-
The contract of the document's own Row.
-/
import Derived.Test.YtdddbljkhhbdlaaDataRow2
namespace Go.Proofs.Ytdddbljkhhbdlaa
open Go.RowKit

set_option maxRecDepth 100000 in
set_option maxHeartbeats 1000000 in
theorem refrow_err (r c wd : Int) (v : Value) (xs : List Int) (r2 c2 wd2 : Int) (v2 : Value) (ys : List Int) (k : Int) (w : World) (hv : ReadI w v xs) (hv2 : ReadI w v2 ys) (hx : xs.length ≤ 100000000) (hy : ys.length ≤ 100000000)
    (h64 : ∀ x, x ∈ xs → -9223372036854775808 ≤ x ∧ x ≤ 9223372036854775807) (h642 : ∀ x, x ∈ ys → -9223372036854775808 ≤ x ∧ x ≤ 9223372036854775807) (hE : (dchkI r c wd xs r2 c2 wd2 ys).2 ≠ 0) :
    Calls Try.prog 23 #[setV r c wd v r2 c2 wd2 v2, .int .i64 k] w fun e w' => e = .returned (.tuple #[matV 0 0 0 (.slice none 0 0), matV 0 0 0 (.slice none 0 0), .int .i64 (dchkI r c wd xs r2 c2 wd2 ys).2]) ∧ Below w.heap.size w w' := by
  have HV := Lib.hid hv
  have HV2 := Lib.hid hv2
  have H64 := Lib.hid h64
  have H642 := Lib.hid h642
  have HX := Lib.hid hx
  have HY := Lib.hid hy
  obtain ⟨E, he⟩ : ∃ E, E = (dchkI r c wd xs r2 c2 wd2 ys).2 := ⟨_, rfl⟩
  rw [← he] at hE ⊢
  have hEb : (E != 0) = true := by simp [hE]
  have hEc : (E == 0) = false := by simp [hE]
  have HE := Lib.hid he
  clear he hE hv hv2 h64 h642 hx hy
  unfold setV
  go_enter Try.func23, Try.ntmps23
  go_wp2_with fail
  obtain ⟨w1, hw1, hM, hA, hB, hb1, hs1⟩ := boxesRow w r c wd v r2 c2 wd2 v2
  rw [← hw1]
  clear hw1 hs1
  have p0 := hM.c0
  have p1 := hM.c1
  have p2 := hM.c2
  have p3 := hM.c3
  have p4 := hM.c4
  have p5 := hM.c5
  have p6 := hM.c6
  have p7 := hM.c7
  go_wp2_with fail
  refine (refdcheck_any r c wd v xs r2 c2 wd2 v2 ys w1 (HV.out.below hb1) (HV2.out.below hb1) HX.out HY.out H64.out H642.out).mono ?_
  rintro e w2 ⟨rfl, hb2⟩
  rw [← HE.out]
  have hA2 := hA.below hb2
  have hB2 := hB.below hb2
  have hbw := hb1.trans (hb2.mono hb1.size)
  clear hM hA hB hb1 hb2 p0 p1 p2 p3 p4 p5 p6 p7
  have a0 := hA2.c0
  have a1 := hA2.c1
  have a2 := hA2.c2
  have a3 := hA2.c3
  have b0 := hB2.c0
  have b1 := hB2.c1
  have b2 := hB2.c2
  have b3 := hB2.c3
  have f0 := hA2.free 0
  have f1 := hA2.free 1
  have f2 := hA2.free 2
  have f3 := hA2.free 3
  have g0 := hB2.free 0
  have g1 := hB2.free 1
  have g2 := hB2.free 2
  have g3 := hB2.free 3
  go_wp2
  obtain ⟨_, rfl, hA3, gr3⟩ := hA2.put4 0 0 0 (.slice none 0 0)
  have hB3 := hB2.grown gr3 (by simp)
  obtain ⟨_, rfl, hB4, gr4⟩ := hB3.put4 0 0 0 (.slice none 0 0)
  have hA4 := hA3.grown gr4 (by simp)
  have z0 := hA4.c0
  have z1 := hA4.c1
  have z2 := hA4.c2
  have z3 := hA4.c3
  have z4 := hB4.c0
  have z5 := hB4.c1
  have z6 := hB4.c2
  have z7 := hB4.c3
  refine bodyPost_ret (by simp [results, Try.results23, go_sem, z0, z1, z2, z3, z4, z5, z6, z7]; try rfl) rfl ?_
  exact ⟨rfl, ((hbw.grown gr3 hbw.size (fun q hq => by cases hq; omega)).grown gr4 (by simpa [World.setCell] using hbw.size) (fun q hq => by cases hq; omega))⟩
set_option maxRecDepth 100000 in
set_option maxHeartbeats 1000000 in
theorem refrow_far (r c wd : Int) (v : Value) (xs : List Int) (r2 c2 wd2 : Int) (v2 : Value) (ys : List Int) (k : Int) (w : World) (hv : ReadI w v xs) (hv2 : ReadI w v2 ys) (hx : xs.length ≤ 100000000) (hy : ys.length ≤ 100000000)
    (h64 : ∀ x, x ∈ xs → -9223372036854775808 ≤ x ∧ x ≤ 9223372036854775807) (h642 : ∀ x, x ∈ ys → -9223372036854775808 ≤ x ∧ x ≤ 9223372036854775807) (hE : (dchkI r c wd xs r2 c2 wd2 ys).2 = 0) (hk : ((decide (k < 0)) = true) ∨ ((decide (k < 0)) = false ∧ (decide (r ≤ k)) = true)) :
    Calls Try.prog 23 #[setV r c wd v r2 c2 wd2 v2, .int .i64 k] w fun e w' => e = .returned (.tuple #[matV 0 0 0 (.slice none 0 0), matV 0 0 0 (.slice none 0 0), .int .i64 40]) ∧ Below w.heap.size w w' := by
  have HV := Lib.hid hv
  have HV2 := Lib.hid hv2
  have H64 := Lib.hid h64
  have H642 := Lib.hid h642
  have HX := Lib.hid hx
  have HY := Lib.hid hy
  have HE := Lib.hid hE
  have HK := Lib.hid hk
  clear hE hk hv hv2 h64 h642 hx hy
  unfold setV
  go_enter Try.func23, Try.ntmps23
  go_wp2_with fail
  obtain ⟨w1, hw1, hM, hA, hB, hb1, hs1⟩ := boxesRow w r c wd v r2 c2 wd2 v2
  rw [← hw1]
  clear hw1 hs1
  have p0 := hM.c0
  have p1 := hM.c1
  have p2 := hM.c2
  have p3 := hM.c3
  have p4 := hM.c4
  have p5 := hM.c5
  have p6 := hM.c6
  have p7 := hM.c7
  go_wp2_with fail
  refine (refdcheck_any r c wd v xs r2 c2 wd2 v2 ys w1 (HV.out.below hb1) (HV2.out.below hb1) HX.out HY.out H64.out H642.out).mono ?_
  rintro e w2 ⟨rfl, hb2⟩
  rw [HE.out]
  have hM2 := hM.below hb2
  have hA2 := hA.below hb2
  have hB2 := hB.below hb2
  have hbw := hb1.trans (hb2.mono hb1.size)
  clear hM hA hB hb1 hb2 p0 p1 p2 p3 p4 p5 p6 p7
  have a0 := hA2.c0
  have a1 := hA2.c1
  have a2 := hA2.c2
  have a3 := hA2.c3
  have b0 := hB2.c0
  have b1 := hB2.c1
  have b2 := hB2.c2
  have b3 := hB2.c3
  have f0 := hA2.free 0
  have f1 := hA2.free 1
  have f2 := hA2.free 2
  have f3 := hA2.free 3
  have g0 := hB2.free 0
  have g1 := hB2.free 1
  have g2 := hB2.free 2
  have g3 := hB2.free 3
  have p0 := hM2.c0
  rcases HK.out with hk1 | ⟨hk1, hk2⟩
  · go_wp2
    obtain ⟨_, rfl, hA3, gr3⟩ := hA2.put4 0 0 0 (.slice none 0 0)
    have hB3 := hB2.grown gr3 (by simp)
    obtain ⟨_, rfl, hB4, gr4⟩ := hB3.put4 0 0 0 (.slice none 0 0)
    have hA4 := hA3.grown gr4 (by simp)
    have z0 := hA4.c0
    have z1 := hA4.c1
    have z2 := hA4.c2
    have z3 := hA4.c3
    have z4 := hB4.c0
    have z5 := hB4.c1
    have z6 := hB4.c2
    have z7 := hB4.c3
    refine bodyPost_ret (by simp [results, Try.results23, go_sem, z0, z1, z2, z3, z4, z5, z6, z7]; try rfl) rfl ?_
    exact ⟨rfl, ((hbw.grown gr3 hbw.size (fun q hq => by cases hq; omega)).grown gr4 (by simpa [World.setCell] using hbw.size) (fun q hq => by cases hq; omega))⟩
  · go_wp2
    obtain ⟨_, rfl, hA3, gr3⟩ := hA2.put4 0 0 0 (.slice none 0 0)
    have hB3 := hB2.grown gr3 (by simp)
    obtain ⟨_, rfl, hB4, gr4⟩ := hB3.put4 0 0 0 (.slice none 0 0)
    have hA4 := hA3.grown gr4 (by simp)
    have z0 := hA4.c0
    have z1 := hA4.c1
    have z2 := hA4.c2
    have z3 := hA4.c3
    have z4 := hB4.c0
    have z5 := hB4.c1
    have z6 := hB4.c2
    have z7 := hB4.c3
    refine bodyPost_ret (by simp [results, Try.results23, go_sem, z0, z1, z2, z3, z4, z5, z6, z7]; try rfl) rfl ?_
    exact ⟨rfl, ((hbw.grown gr3 hbw.size (fun q hq => by cases hq; omega)).grown gr4 (by simpa [World.setCell] using hbw.size) (fun q hq => by cases hq; omega))⟩
set_option maxRecDepth 100000 in
set_option maxHeartbeats 2000000 in
theorem refrow_ok (R C C2 row : Nat) (wd : Int) (b off cp : Nat) (xs : List Int) (b2 off2 cp2 : Nat) (ys : List Int) (w : World) (hS : SetOk R C wd xs R C2 wd ys R C C2) (hrow : row < R)
    (hcp : R * C ≤ cp) (hcell : ∀ j, j < xs.length → w.cell? ⟨b, off + j, none⟩ = some (.int .i64 (xs.getD j 0))) (hcp2 : R * C2 ≤ cp2) (hcell2 : ∀ j, j < ys.length → w.cell? ⟨b2, off2 + j, none⟩ = some (.int .i64 (ys.getD j 0)))
    (h64 : ∀ x, x ∈ xs → -9223372036854775808 ≤ x ∧ x ≤ 9223372036854775807) (h642 : ∀ x, x ∈ ys → -9223372036854775808 ≤ x ∧ x ≤ 9223372036854775807) (hE : (dchkI R C wd xs R C2 wd ys).2 = 0) :
    Calls Try.prog 23 #[setV R C wd (.slice (some ⟨b, off, none⟩) (R * C) cp) R C2 wd (.slice (some ⟨b2, off2, none⟩) (R * C2) cp2), .int .i64 (row : Nat)] w fun e w' =>
      ∃ v v', e = .returned (.tuple #[matV 1 C wd v, matV 1 C2 wd v', .int .i64 0]) ∧ TwoM w' w.heap.size ⟨1, C, wd, rowI C xs row⟩ ⟨1, C2, wd, rowI C2 ys row⟩ v v' ∧ Below w.heap.size w w' := by
  have hv : ReadI w (.slice (some ⟨b, off, none⟩) (R * C) cp) xs := .inr ⟨b, off, cp, by rw [hS.l1], by rw [hS.l1]; exact hcp, hcell⟩
  have hv2 : ReadI w (.slice (some ⟨b2, off2, none⟩) (R * C2) cp2) ys := .inr ⟨b2, off2, cp2, by rw [hS.l2], by rw [hS.l2]; exact hcp2, hcell2⟩
  have HV := Lib.hid hv
  have HV2 := Lib.hid hv2
  have H64 := Lib.hid h64
  have H642 := Lib.hid h642
  have HS := Lib.hid hS
  have HE := Lib.hid hE
  have HC := Lib.hid hcell
  have HC2 := Lib.hid hcell2
  have HCP := Lib.hid hcp
  have HCP2 := Lib.hid hcp2
  have hx : xs.length ≤ 100000000 := by have := hS.l1; have := hS.RC; omega
  have hy : ys.length ≤ 100000000 := by have := hS.l2; have := hS.RC2; omega
  have HX := Lib.hid hx
  have HY := Lib.hid hy
  have hr1 : (row : Int) < (R : Int) := by omega
  have dk1 : decide ((row : Int) < 0) = false := decide_eq_false (by omega)
  have dk2 : decide ((R : Int) ≤ (row : Int)) = false := decide_eq_false (by omega)
  clear hv hv2 h64 h642 hS hE hcell hcell2 hcp hcp2 hx hy
  unfold setV
  go_enter Try.func23, Try.ntmps23
  go_wp2_with fail
  obtain ⟨w1, hw1, hM, hA, hB, hb1, hs1⟩ := boxesRow w R C wd (.slice (some ⟨b, off, none⟩) (R * C) cp) R C2 wd (.slice (some ⟨b2, off2, none⟩) (R * C2) cp2)
  rw [← hw1]
  have HS1 := Lib.hid hs1
  clear hw1 hs1
  have p0 := hM.c0
  have p1 := hM.c1
  have p2 := hM.c2
  have p3 := hM.c3
  have p4 := hM.c4
  have p5 := hM.c5
  have p6 := hM.c6
  have p7 := hM.c7
  go_wp2_with fail
  refine (refdcheck_any R C wd _ xs R C2 wd _ ys w1 (HV.out.below hb1) (HV2.out.below hb1) HX.out HY.out H64.out H642.out).mono ?_
  rintro e w2 ⟨rfl, hb2⟩
  rw [HE.out]
  have hM2 := hM.below hb2
  have hA2 := hA.below hb2
  have hB2 := hB.below hb2
  have hbw := hb1.trans (hb2.mono hb1.size)
  have HS2 : Hid (w.heap.size + 3 ≤ w2.heap.size) := by show _ ≤ _; have := hb2.size; have := HS1.out; omega
  clear hM hA hB hb1 hb2 p0 p1 p2 p3 p4 p5 p6 p7
  have p0 := hM2.c0
  have p1 := hM2.c1
  have p2 := hM2.c2
  have p3 := hM2.c3
  have p4 := hM2.c4
  have p5 := hM2.c5
  have p6 := hM2.c6
  have p7 := hM2.c7
  go_wp2_with fail
  have bA : Below w2.heap.size w2 w2.drew := (Below.refl _ w2).drew
  have ne2 : ¬ w.heap.size = w.heap.size + 1 + 1 := by omega
  have ne3 : ¬ w.heap.size + 1 + 1 = w.heap.size := by omega
  have tok1 : True := trivial
  go_region_held3 (fun w' => w'.cell? ⟨w.heap.size, 0, none⟩ = some (.int .i64 R) ∧ w'.cell? ⟨w.heap.size, 1, none⟩ = some (.int .i64 C) ∧ w'.cell? ⟨w.heap.size, 2, none⟩ = some (.int .i64 wd) ∧ w'.cell? ⟨w.heap.size, 3, none⟩ = some (.slice (some ⟨b, off, none⟩) (R * C) cp) ∧
      w'.cell? ⟨w.heap.size, 4, none⟩ = some (.int .i64 R) ∧ w'.cell? ⟨w.heap.size, 5, none⟩ = some (.int .i64 C2) ∧ w'.cell? ⟨w.heap.size, 6, none⟩ = some (.int .i64 wd) ∧ w'.cell? ⟨w.heap.size, 7, none⟩ = some (.slice (some ⟨b2, off2, none⟩) (R * C2) cp2)) (go_keep)
    (first
      | ((have _t := tok1); go_at_call 88; (refine (refcut_any R C wd _ xs row _ (HV.out.below (hbw.trans (bA.mono hbw.size))) HS.out.C0 hrow HS.out.R1 HS.out.C1 HS.out.RC HS.out.l1).mono ?_; rintro e w3 ⟨v3, rfl, o3, hb3⟩; clear tok1; (have o4 := own_mono o3 (show w2.heap.size ≤ _ by simp)); clear o3; obtain ⟨a3, c3, rfl, _, _⟩ := own_form o4; simp only [matV]; (have bw := bA.trans (hb3.mono bA.size)); (have hM3 := hM2.below bw); (have m0 := hM3.c0); (have m1 := hM3.c1); (have m2 := hM3.c2); (have m3 := hM3.c3); (have m4 := hM3.c4); (have m5 := hM3.c5); (have m6 := hM3.c6); (have m7 := hM3.c7)))
      | (go_at_call 88; (refine (refcut_any R C2 wd _ ys row w3 (HV2.out.below (hbw.trans (bw.mono hbw.size))) HS.out.C20 hrow HS.out.R1 HS.out.C21 HS.out.RC2 HS.out.l2).mono ?_; rintro e w4 ⟨v4, rfl, o6, hb4⟩; (have o7 := own_below o4 hb4 (Nat.le_refl _)); obtain ⟨a4, c4, rfl, _, _⟩ := own_form o6; (have bz := bw.trans (hb4.mono bw.size)); (have ap := row_apart o4 o6); (have hM4 := hM2.below bz); (have hA4 := hA2.below bz); (have hB4 := hB2.below bz); simp only [matV]; (have n0 := hM4.c0); (have n1 := hM4.c1); (have n2 := hM4.c2); (have n3 := hM4.c3); (have n4 := hM4.c4); (have n5 := hM4.c5); (have n6 := hM4.c6); (have n7 := hM4.c7); (have x0 := hA4.c0); (have y0 := hB4.c0); (have f0 := hA4.free 0); (have g0 := hB4.free 0); (have x1 := hA4.c1); (have y1 := hB4.c1); (have f1 := hA4.free 1); (have g1 := hB4.free 1); (have x2 := hA4.c2); (have y2 := hB4.c2); (have f2 := hA4.free 2); (have g2 := hB4.free 2); (have x3 := hA4.c3); (have y3 := hB4.c3); (have f3 := hA4.free 3); (have g3 := hB4.free 3))))
  all_goals
    obtain ⟨_, rfl, hA5, gr5⟩ := hA4.put4 1 C wd (.slice a3 C c3)
    have hB5 := hB4.grown gr5 (by simp)
    obtain ⟨_, rfl, hB6, gr6⟩ := hB5.put4 1 C2 wd (.slice a4 C2 c4)
    have hA6 := hA5.grown gr6 (by simp)
    have z0 := hA6.c0
    have z1 := hA6.c1
    have z2 := hA6.c2
    have z3 := hA6.c3
    have z4 := hB6.c0
    have z5 := hB6.c1
    have z6 := hB6.c2
    have z7 := hB6.c3
    have bzw := hbw.trans (bz.mono hbw.size)
    have hl1 := rowI_length C xs row (by rw [HS.out.l1]; exact mul_row hrow)
    have hl2 := rowI_length C2 ys row (by rw [HS.out.l2]; exact mul_row hrow)
    have HL1 := Lib.hid hl1
    have HL2 := Lib.hid hl2
    clear hl1 hl2
    go_wp2
    refine bodyPost_ret (by simp [results, Try.results23, go_sem, z0, z1, z2, z3, z4, z5, z6, z7]; try rfl) rfl ?_
    have s3 : w.heap.size + 3 ≤ w2.heap.size := HS2.out
    have s4 : w2.heap.size ≤ w3.heap.size := bw.size
    have o8 := row_kept (row_kept o7 gr5 (by omega)) gr6 (by omega)
    have o9 := row_kept (row_kept o6 gr5 (by omega)) gr6 (by omega)
    refine ⟨.slice a3 C c3, .slice a4 C2 c4, rfl, ⟨?_, ?_, ap⟩, (bzw.grown gr5 bzw.size (fun q hq => by cases hq; omega)).grown gr6 (by simpa [World.setCell] using bzw.size) (fun q hq => by cases hq; omega)⟩
    · dsimp only
      rw [HL1.out]
      exact own_mono o8 (by omega)
    · dsimp only
      rw [HL2.out]
      exact own_mono o9 (by omega)
end Go.Proofs.Ytdddbljkhhbdlaa
