/-
The contract of data.Row where the row is there.
-/
import Derived.Test.YtdddbljkhhbdlaaDataRow
namespace Go.Proofs.Ytdddbljkhhbdlaa
open Go.RowKit

theorem one_read (w : World) (k : Int) : ReadI (w.alloc (.cells #[.int .i64 k] 3)) (.slice (some ⟨w.heap.size, 0, none⟩) 1 1) [k] :=
  .inr ⟨w.heap.size, 0, 1, rfl, Nat.le_refl _, fun j hj => by
    have : j = 0 := by simpa using hj
    subst this
    exact cell_of_row _ _ 0 _ 3 (0, 0) (heap_alloc_new w _)⟩
theorem later_read {w w' : World} {b off : Nat} {xs : List Int} (hcell : ∀ j, j < xs.length → w.cell? ⟨b, off + j, none⟩ = some (.int .i64 (xs.getD j 0))) (hb : Below w.heap.size w w') : ∀ j, j < xs.length → w'.cell? ⟨b, off + j, none⟩ = some (.int .i64 (xs.getD j 0)) :=
  fun j hj => (hb.cell (p := ⟨b, off + j, none⟩) (by exact World.block_lt_of_cell? _ _ (hcell j hj))).trans (hcell j hj)

theorem row_kept {w w' : World} {b g : Nat} {e : TypeId} {s n : Nat} {v : Value} {xs : List Value} (h : w.ownsRow b e s v n xs) (hg : w.grownBy w' (some g)) (hgb : g < b) : w'.ownsRow b e s v n xs := by
  refine h.kept hg ?_
  cases hv : v.ownBlock with
  | none => exact .inl rfl
  | some q => right; intro e; cases e; have := (h.lt _ hv).1; omega
theorem row_apart {w w' : World} {b : Nat} {e : TypeId} {s n n' : Nat} {v v' : Value} {xs xs' : List Value} (h : w.ownsRow b e s v n xs) (h' : w'.ownsRow w.heap.size e s v' n' xs') : v.ownBlock = none ∨ v.ownBlock ≠ v'.ownBlock := by
  cases hv : v.ownBlock with
  | none => exact .inl rfl
  | some j =>
    right
    intro e
    have q1 := (h.lt j hv).2
    have q2 := (h'.lt j e.symm).1
    omega

set_option maxRecDepth 100000 in
set_option maxHeartbeats 2000000 in
theorem drow_ok (R C C2 row : Nat) (wd : Int) (b off cp : Nat) (xs : List Int) (b2 off2 cp2 : Nat) (ys : List Int) (w : World) (hS : SetOk R C wd xs R C2 wd ys R C C2) (hrow : row < R)
    (hcp : R * C ≤ cp) (hcell : ∀ j, j < xs.length → w.cell? ⟨b, off + j, none⟩ = some (.int .i64 (xs.getD j 0))) (hcp2 : R * C2 ≤ cp2) (hcell2 : ∀ j, j < ys.length → w.cell? ⟨b2, off2 + j, none⟩ = some (.int .i64 (ys.getD j 0)))
    (h64 : ∀ x, x ∈ xs → -9223372036854775808 ≤ x ∧ x ≤ 9223372036854775807) (h642 : ∀ x, x ∈ ys → -9223372036854775808 ≤ x ∧ x ≤ 9223372036854775807) (hE : (dchkI R C wd xs R C2 wd ys).2 = 0) :
    Calls Try.prog 22 #[setV R C wd (.slice (some ⟨b, off, none⟩) (R * C) cp) R C2 wd (.slice (some ⟨b2, off2, none⟩) (R * C2) cp2), .int .i64 (row : Nat)] w fun e w' =>
      ∃ v v', e = .returned (.tuple #[matV 1 C wd v, matV 1 C2 wd v', .int .i64 0]) ∧ TwoM w' w.heap.size ⟨1, C, wd, rowI C xs row⟩ ⟨1, C2, wd, rowI C2 ys row⟩ v v' ∧ Below w.heap.size w w' := by
  have hv : ReadI w (.slice (some ⟨b, off, none⟩) (R * C) cp) xs := .inr ⟨b, off, cp, by rw [hS.l1], by rw [hS.l1]; exact hcp, hcell⟩
  have hv2 : ReadI w (.slice (some ⟨b2, off2, none⟩) (R * C2) cp2) ys := .inr ⟨b2, off2, cp2, by rw [hS.l2], by rw [hS.l2]; exact hcp2, hcell2⟩
  have HV := Lib.hid hv
  have HV2 := Lib.hid hv2
  have H64 := Lib.hid h64
  have H642 := Lib.hid h642
  have HS := Lib.hid hS
  have HE := Lib.hid hE
  have HC := Lib.hid hcell
  have HC2 := Lib.hid hcell2
  have HCP := Lib.hid hcp
  have HCP2 := Lib.hid hcp2
  have hx : xs.length ≤ 100000000 := by have := hS.l1; have := hS.RC; omega
  have hy : ys.length ≤ 100000000 := by have := hS.l2; have := hS.RC2; omega
  have HX := Lib.hid hx
  have HY := Lib.hid hy
  have hr1 : (row : Int) < (R : Int) := by omega
  have dk1 : decide ((row : Int) < 0) = false := decide_eq_false (by omega)
  have dk2 : decide ((R : Int) ≤ (row : Int)) = false := decide_eq_false (by omega)
  clear hv hv2 h64 h642 hS hE hcell hcell2 hcp hcp2 hx hy
  unfold setV
  go_enter Try.func22, Try.ntmps22
  go_wp2_with fail
  obtain ⟨w1, hw1, hM, hA, hB, hb1, hs1⟩ := boxesRow w R C wd (.slice (some ⟨b, off, none⟩) (R * C) cp) R C2 wd (.slice (some ⟨b2, off2, none⟩) (R * C2) cp2)
  rw [← hw1]
  have HS1 := Lib.hid hs1
  clear hw1 hs1
  have p0 := hM.c0
  have p1 := hM.c1
  have p2 := hM.c2
  have p3 := hM.c3
  have p4 := hM.c4
  have p5 := hM.c5
  have p6 := hM.c6
  have p7 := hM.c7
  go_wp2_with fail
  refine (dcheck_any R C wd _ xs R C2 wd _ ys w1 (HV.out.below hb1) (HV2.out.below hb1) HX.out HY.out H64.out H642.out).mono ?_
  rintro e w2 ⟨rfl, hb2⟩
  rw [HE.out]
  have hM2 := hM.below hb2
  have hA2 := hA.below hb2
  have hB2 := hB.below hb2
  have hbw := hb1.trans (hb2.mono hb1.size)
  have HS2 : Hid (w.heap.size + 3 ≤ w2.heap.size) := by show _ ≤ _; have := hb2.size; have := HS1.out; omega
  clear hM hA hB hb1 hb2 p0 p1 p2 p3 p4 p5 p6 p7
  have p0 := hM2.c0
  have p1 := hM2.c1
  have p2 := hM2.c2
  have p3 := hM2.c3
  have p4 := hM2.c4
  have p5 := hM2.c5
  have p6 := hM2.c6
  have p7 := hM2.c7
  go_wp2_with fail
  have bA : Below w2.heap.size w2 (w2.alloc (.cells #[.int .i64 (row : Nat)] 3)).drew := ((Below.refl _ w2).alloc (Nat.le_refl _) _).drew
  have bB : Below w2.heap.size w2 ((w2.alloc (.cells #[.int .i64 (row : Nat)] 3)).alloc (.cells #[.int .i64 (row : Nat)] 3)).drew := (((Below.refl _ w2).alloc (Nat.le_refl _) _).alloc (by simp) _).drew
  have RA : ReadI (w2.alloc (.cells #[.int .i64 (row : Nat)] 3)).drew (.slice (some ⟨w2.heap.size, 0, none⟩) 1 1) [(row : Int)] := (one_read w2 row).below (Below.refl _ _).drew
  have RB : ReadI ((w2.alloc (.cells #[.int .i64 (row : Nat)] 3)).alloc (.cells #[.int .i64 (row : Nat)] 3)).drew (.slice (some ⟨w2.heap.size, 0, none⟩) 1 1) [(row : Int)] := (one_read w2 row).below ((Below.refl _ _).alloc (Nat.le_refl _) _).drew
  have RC : ReadI ((w2.alloc (.cells #[.int .i64 (row : Nat)] 3)).alloc (.cells #[.int .i64 (row : Nat)] 3)).drew (.slice (some ⟨w2.heap.size + 1, 0, none⟩) 1 1) [(row : Int)] := by
    have := (one_read (w2.alloc (.cells #[.int .i64 (row : Nat)] 3)) row).below (Below.refl _ _).drew
    simpa using this
  have KA0 := (cut_one R C wd b off cp xs row ⟨w2.heap.size, 0, none⟩ 1 _ HCP.out (later_read HC.out (hbw.trans (bA.mono hbw.size))) RA hrow HS.out.C0 HS.out.R1 HS.out.C1 HS.out.RC HS.out.l1)
  unfold matV at KA0
  have KA := Lib.hid KA0
  clear KA0
  have KB0 := (cut_one R C wd b off cp xs row ⟨w2.heap.size, 0, none⟩ 1 _ HCP.out (later_read HC.out (hbw.trans (bB.mono hbw.size))) RB hrow HS.out.C0 HS.out.R1 HS.out.C1 HS.out.RC HS.out.l1)
  unfold matV at KB0
  have KB := Lib.hid KB0
  clear KB0
  have KC0 := (cut_one R C wd b off cp xs row ⟨w2.heap.size + 1, 0, none⟩ 1 _ HCP.out (later_read HC.out (hbw.trans (bB.mono hbw.size))) RC hrow HS.out.C0 HS.out.R1 HS.out.C1 HS.out.RC HS.out.l1)
  unfold matV at KC0
  have KC := Lib.hid KC0
  clear KC0
  have HbA := Lib.hid bA
  have HbB := Lib.hid bB
  have HRB := Lib.hid RB
  have HRC := Lib.hid RC
  clear bA bB RA RB RC
  have ne2 : ¬ w.heap.size = w.heap.size + 1 + 1 := by omega
  have ne3 : ¬ w.heap.size + 1 + 1 = w.heap.size := by omega
  have tok1 : True := trivial
  go_region_held3 (fun w' => w'.cell? ⟨w.heap.size, 0, none⟩ = some (.int .i64 R) ∧ w'.cell? ⟨w.heap.size, 1, none⟩ = some (.int .i64 C) ∧ w'.cell? ⟨w.heap.size, 2, none⟩ = some (.int .i64 wd) ∧ w'.cell? ⟨w.heap.size, 3, none⟩ = some (.slice (some ⟨b, off, none⟩) (R * C) cp) ∧
      w'.cell? ⟨w.heap.size, 4, none⟩ = some (.int .i64 R) ∧ w'.cell? ⟨w.heap.size, 5, none⟩ = some (.int .i64 C2) ∧ w'.cell? ⟨w.heap.size, 6, none⟩ = some (.int .i64 wd) ∧ w'.cell? ⟨w.heap.size, 7, none⟩ = some (.slice (some ⟨b2, off2, none⟩) (R * C2) cp2)) (go_keep)
    (first
      | ((have _t := tok1); go_at_call 85; (with_reducible refine KA.out.mono ?_); rintro e w3 ⟨v3, rfl, o3, hb3⟩; clear tok1; (have tokA : True := trivial); go_must ((have o4 := own_mono o3 (show w2.heap.size ≤ _ by first | (simp; done) | (simp; omega))); clear o3; obtain ⟨a3, c3, rfl, _, _⟩ := own_form o4; (have bw := HbA.out.trans (hb3.mono HbA.out.size)); (have hM3 := hM2.below bw); (have m0 := hM3.c0); (have m1 := hM3.c1); (have m2 := hM3.c2); (have m3 := hM3.c3); (have m4 := hM3.c4); (have m5 := hM3.c5); (have m6 := hM3.c6); (have m7 := hM3.c7)))
      | ((have _t := tok1); go_at_call 85; (with_reducible refine KB.out.mono ?_); rintro e w3 ⟨v3, rfl, o3, hb3⟩; clear tok1; (have tokB : True := trivial); go_must ((have o4 := own_mono o3 (show w2.heap.size ≤ _ by first | (simp; done) | (simp; omega))); clear o3; obtain ⟨a3, c3, rfl, _, _⟩ := own_form o4; (have bw := HbB.out.trans (hb3.mono HbB.out.size)); (have hM3 := hM2.below bw); (have m0 := hM3.c0); (have m1 := hM3.c1); (have m2 := hM3.c2); (have m3 := hM3.c3); (have m4 := hM3.c4); (have m5 := hM3.c5); (have m6 := hM3.c6); (have m7 := hM3.c7)))
      | ((have _t := tok1); go_at_call 85; (with_reducible refine KC.out.mono ?_); rintro e w3 ⟨v3, rfl, o3, hb3⟩; clear tok1; (have tokC : True := trivial); go_must ((have o4 := own_mono o3 (show w2.heap.size ≤ _ by first | (simp; done) | (simp; omega))); clear o3; obtain ⟨a3, c3, rfl, _, _⟩ := own_form o4; (have bw := HbB.out.trans (hb3.mono HbB.out.size)); (have hM3 := hM2.below bw); (have m0 := hM3.c0); (have m1 := hM3.c1); (have m2 := hM3.c2); (have m3 := hM3.c3); (have m4 := hM3.c4); (have m5 := hM3.c5); (have m6 := hM3.c6); (have m7 := hM3.c7)))
      | ((have _t := tokA); go_at_call 85; (refine (cut_one R C2 wd b2 off2 cp2 ys row ⟨w3.heap.size, 0, none⟩ 1 (w3.alloc (.cells #[.int .i64 (row : Nat)] 3)) HCP2.out (later_read HC2.out ((hbw.trans (bw.mono hbw.size)).alloc (hbw.trans (bw.mono hbw.size)).size (.cells #[.int .i64 (row : Nat)] 3))) (one_read w3 row) hrow HS.out.C20 HS.out.R1 HS.out.C21 HS.out.RC2 HS.out.l2).mono ?_; rintro e w4 ⟨v4, rfl, o5, hb4⟩; (have o6 := own_mono o5 (show w3.heap.size ≤ _ by simp)); clear o5; (have o7 := own_below (o4.alloc (.cells #[.int .i64 (row : Nat)] 3)) hb4 (Nat.le_refl _)); obtain ⟨a4, c4, rfl, _, _⟩ := own_form o6; (have bz := (bw.alloc bw.size (.cells #[.int .i64 (row : Nat)] 3)).trans (hb4.mono (by have := bw.size; simp; omega))); (have ap := row_apart o4 o6); (have hM4 := hM2.below bz); (have hA4 := hA2.below bz); (have hB4 := hB2.below bz); simp only [matV]; (have n0 := hM4.c0); (have n1 := hM4.c1); (have n2 := hM4.c2); (have n3 := hM4.c3); (have n4 := hM4.c4); (have n5 := hM4.c5); (have n6 := hM4.c6); (have n7 := hM4.c7); (have x0 := hA4.c0); (have y0 := hB4.c0); (have f0 := hA4.free 0); (have g0 := hB4.free 0); (have x1 := hA4.c1); (have y1 := hB4.c1); (have f1 := hA4.free 1); (have g1 := hB4.free 1); (have x2 := hA4.c2); (have y2 := hB4.c2); (have f2 := hA4.free 2); (have g2 := hB4.free 2); (have x3 := hA4.c3); (have y3 := hB4.c3); (have f3 := hA4.free 3); (have g3 := hB4.free 3)))
      | ((have _t := tokB); go_at_call 85; (refine (cut_one R C2 wd b2 off2 cp2 ys row ⟨w2.heap.size + 1, 0, none⟩ 1 w3 HCP2.out (later_read HC2.out (hbw.trans (bw.mono hbw.size))) (HRC.out.below hb3) hrow HS.out.C20 HS.out.R1 HS.out.C21 HS.out.RC2 HS.out.l2).mono ?_; rintro e w4 ⟨v4, rfl, o5, hb4⟩; (have o6 := own_mono o5 (Nat.le_refl _)); clear o5; (have o7 := own_below o4 hb4 (Nat.le_refl _)); obtain ⟨a4, c4, rfl, _, _⟩ := own_form o6; (have bz := bw.trans (hb4.mono bw.size)); (have ap := row_apart o4 o6); (have hM4 := hM2.below bz); (have hA4 := hA2.below bz); (have hB4 := hB2.below bz); simp only [matV]; (have n0 := hM4.c0); (have n1 := hM4.c1); (have n2 := hM4.c2); (have n3 := hM4.c3); (have n4 := hM4.c4); (have n5 := hM4.c5); (have n6 := hM4.c6); (have n7 := hM4.c7); (have x0 := hA4.c0); (have y0 := hB4.c0); (have f0 := hA4.free 0); (have g0 := hB4.free 0); (have x1 := hA4.c1); (have y1 := hB4.c1); (have f1 := hA4.free 1); (have g1 := hB4.free 1); (have x2 := hA4.c2); (have y2 := hB4.c2); (have f2 := hA4.free 2); (have g2 := hB4.free 2); (have x3 := hA4.c3); (have y3 := hB4.c3); (have f3 := hA4.free 3); (have g3 := hB4.free 3)))
      | ((have _t := tokC); go_at_call 85; (refine (cut_one R C2 wd b2 off2 cp2 ys row ⟨w2.heap.size, 0, none⟩ 1 w3 HCP2.out (later_read HC2.out (hbw.trans (bw.mono hbw.size))) (HRB.out.below hb3) hrow HS.out.C20 HS.out.R1 HS.out.C21 HS.out.RC2 HS.out.l2).mono ?_; rintro e w4 ⟨v4, rfl, o5, hb4⟩; (have o6 := own_mono o5 (Nat.le_refl _)); clear o5; (have o7 := own_below o4 hb4 (Nat.le_refl _)); obtain ⟨a4, c4, rfl, _, _⟩ := own_form o6; (have bz := bw.trans (hb4.mono bw.size)); (have ap := row_apart o4 o6); (have hM4 := hM2.below bz); (have hA4 := hA2.below bz); (have hB4 := hB2.below bz); simp only [matV]; (have n0 := hM4.c0); (have n1 := hM4.c1); (have n2 := hM4.c2); (have n3 := hM4.c3); (have n4 := hM4.c4); (have n5 := hM4.c5); (have n6 := hM4.c6); (have n7 := hM4.c7); (have x0 := hA4.c0); (have y0 := hB4.c0); (have f0 := hA4.free 0); (have g0 := hB4.free 0); (have x1 := hA4.c1); (have y1 := hB4.c1); (have f1 := hA4.free 1); (have g1 := hB4.free 1); (have x2 := hA4.c2); (have y2 := hB4.c2); (have f2 := hA4.free 2); (have g2 := hB4.free 2); (have x3 := hA4.c3); (have y3 := hB4.c3); (have f3 := hA4.free 3); (have g3 := hB4.free 3))))
  all_goals
    obtain ⟨_, rfl, hA5, gr5⟩ := hA4.put4 1 C wd (.slice a3 C c3)
    have hB5 := hB4.grown gr5 (by simp)
    obtain ⟨_, rfl, hB6, gr6⟩ := hB5.put4 1 C2 wd (.slice a4 C2 c4)
    have hA6 := hA5.grown gr6 (by simp)
    have z0 := hA6.c0
    have z1 := hA6.c1
    have z2 := hA6.c2
    have z3 := hA6.c3
    have z4 := hB6.c0
    have z5 := hB6.c1
    have z6 := hB6.c2
    have z7 := hB6.c3
    have bzw := hbw.trans (bz.mono hbw.size)
    have hl1 := rowI_length C xs row (by rw [HS.out.l1]; exact mul_row hrow)
    have hl2 := rowI_length C2 ys row (by rw [HS.out.l2]; exact mul_row hrow)
    have HL1 := Lib.hid hl1
    have HL2 := Lib.hid hl2
    clear hl1 hl2
    go_wp2
    refine bodyPost_ret (by simp [results, Try.results22, go_sem, z0, z1, z2, z3, z4, z5, z6, z7]; try rfl) rfl ?_
    have s3 : w.heap.size + 3 ≤ w2.heap.size := HS2.out
    have s4 : w2.heap.size ≤ w3.heap.size := bw.size
    have o8 := row_kept (row_kept o7 gr5 (by omega)) gr6 (by omega)
    have o9 := row_kept (row_kept o6 gr5 (by omega)) gr6 (by omega)
    refine ⟨.slice a3 C c3, .slice a4 C2 c4, rfl, ⟨?_, ?_, ap⟩, (bzw.grown gr5 bzw.size (fun q hq => by cases hq; omega)).grown gr6 (by simpa [World.setCell] using bzw.size) (fun q hq => by cases hq; omega)⟩
    · dsimp only
      rw [HL1.out]
      exact own_mono o8 (by omega)
    · dsimp only
      rw [HL2.out]
      exact own_mono o9 (by omega)
end Go.Proofs.Ytdddbljkhhbdlaa
