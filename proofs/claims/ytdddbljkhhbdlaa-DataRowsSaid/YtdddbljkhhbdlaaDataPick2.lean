/-
The contract of data.Pick where the set is one and rows are asked for.
-/
import Derived.Test.YtdddbljkhhbdlaaDataPick
namespace Go.Proofs.Ytdddbljkhhbdlaa
open Go.RowKit

theorem any_of_get {f : Int → Bool} {rows : List Int} {k : Nat} (hk : k < rows.length) (h : f (rows.getD k 0) = true) : rows.any f = true := by
  rw [List.any_eq_true]
  exact ⟨rows.getD k 0, by simp [List.getD, hk], h⟩
theorem any_of_all {f : Int → Bool} {rows : List Int} (h : ∀ j, j < rows.length → f (rows.getD j 0) = false) : rows.any f = false := by
  rw [List.any_eq_false]
  intro x hx
  obtain ⟨j, hj, rfl⟩ := List.getElem_of_mem hx
  have := h j hj
  simp [List.getD, hj] at this
  simp [this]

theorem good_rows {r : Int} {rows : List Int} (h : rows.any (badR r) = false) : ∀ x, x ∈ rows → 0 ≤ x ∧ x < r := by
  intro x hx
  have := List.any_eq_false.1 h x hx
  unfold badR at this
  simp at this
  omega

set_option maxRecDepth 100000 in
set_option maxHeartbeats 2000000 in
theorem dpick_main (R C C2 n : Nat) (wd : Int) (b off cp : Nat) (xs : List Int) (b2 off2 cp2 : Nat) (ys : List Int) (bl ol cl : Nat) (rows : List Int) (w : World) (hS : SetOk R C wd xs R C2 wd ys R C C2)
    (hcp : R * C ≤ cp) (hcell : ∀ j, j < xs.length → w.cell? ⟨b, off + j, none⟩ = some (.int .i64 (xs.getD j 0))) (hcp2 : R * C2 ≤ cp2) (hcell2 : ∀ j, j < ys.length → w.cell? ⟨b2, off2 + j, none⟩ = some (.int .i64 (ys.getD j 0)))
    (h64 : ∀ x, x ∈ xs → -9223372036854775808 ≤ x ∧ x ≤ 9223372036854775807) (h642 : ∀ x, x ∈ ys → -9223372036854775808 ≤ x ∧ x ≤ 9223372036854775807) (hE : (dchkI R C wd xs R C2 wd ys).2 = 0)
    (hrl : rows.length = n) (hn0 : 0 < n) (hn : n ≤ 5000) (hcl : n ≤ cl) (hrc : ∀ j, j < rows.length → w.cell? ⟨bl, ol + j, none⟩ = some (.int .i64 (rows.getD j 0)))
    (A : MatI × MatI × Int) (hbad : rows.any (badR R) = true → A = (zeroM, zeroM, 40))
    (hlong : rows.any (badR R) = false → (4096 < (n : Int) * C ∨ 4096 < (n : Int) * C2) → A = (zeroM, zeroM, 2))
    (hok : rows.any (badR R) = false → ¬ (4096 < (n : Int) * C ∨ 4096 < (n : Int) * C2) → A = (⟨n, C, wd, rowsI C xs rows⟩, ⟨n, C2, wd, rowsI C2 ys rows⟩, 0)) :
    Calls Try.prog 27 #[setV R C wd (.slice (some ⟨b, off, none⟩) (R * C) cp) R C2 wd (.slice (some ⟨b2, off2, none⟩) (R * C2) cp2), .slice (some ⟨bl, ol, none⟩) n cl] w fun e w' =>
      ∃ u u', e = .returned (.tuple #[setOf A.1 A.2.1 u u', .int .i64 A.2.2]) ∧ TwoM w' w.heap.size A.1 A.2.1 u u' ∧ Below w.heap.size w w' := by
  have hv : ReadI w (.slice (some ⟨b, off, none⟩) (R * C) cp) xs := .inr ⟨b, off, cp, by rw [hS.l1], by rw [hS.l1]; exact hcp, hcell⟩
  have hv2 : ReadI w (.slice (some ⟨b2, off2, none⟩) (R * C2) cp2) ys := .inr ⟨b2, off2, cp2, by rw [hS.l2], by rw [hS.l2]; exact hcp2, hcell2⟩
  have HV := Lib.hid hv
  have HV2 := Lib.hid hv2
  have H64 := Lib.hid h64
  have H642 := Lib.hid h642
  have HS := Lib.hid hS
  have HE := Lib.hid hE
  have HC := Lib.hid hcell
  have HC2 := Lib.hid hcell2
  have HCP := Lib.hid hcp
  have HCP2 := Lib.hid hcp2
  have HRL := Lib.hid hrl
  have HRC := Lib.hid hrc
  have HBAD := Lib.hid hbad
  have HLONG := Lib.hid hlong
  have HOK := Lib.hid hok
  have hx : xs.length ≤ 100000000 := by have := hS.l1; have := hS.RC; omega
  have hy : ys.length ≤ 100000000 := by have := hS.l2; have := hS.RC2; omega
  have HX := Lib.hid hx
  have HY := Lib.hid hy
  have hC1 := hS.C1
  have hC21 := hS.C21
  have hR1 := hS.R1
  have hC0 := hS.C0
  have hC20 := hS.C20
  have n0 : ((n : Int) == 0) = false := by simp; omega
  clear hv hv2 h64 h642 hS hE hcell hcell2 hcp hcp2 hx hy hrl hrc hbad hlong hok
  unfold setV
  go_enter Try.func27, Try.ntmps27
  go_wp2_with fail
  obtain ⟨w1, hw1, hM, hZ, hb1, hs1⟩ := boxesSet w R C wd (.slice (some ⟨b, off, none⟩) (R * C) cp) R C2 wd (.slice (some ⟨b2, off2, none⟩) (R * C2) cp2)
  rw [← hw1]
  have HS1 := Lib.hid hs1
  clear hw1 hs1
  have p0 := hM.c0
  have p1 := hM.c1
  have p2 := hM.c2
  have p3 := hM.c3
  have p4 := hM.c4
  have p5 := hM.c5
  have p6 := hM.c6
  have p7 := hM.c7
  go_wp2_with fail
  refine (dcheck_any R C wd _ xs R C2 wd _ ys w1 (HV.out.below hb1) (HV2.out.below hb1) HX.out HY.out H64.out H642.out).mono ?_
  rintro e w2 ⟨rfl, hb2⟩
  rw [HE.out]
  have hM2 := hM.below hb2
  have hZ2 := hZ.below hb2
  have hbw := hb1.trans (hb2.mono hb1.size)
  have HS2 : Hid (w.heap.size + 2 ≤ w2.heap.size) := by show _ ≤ _; have := hb2.size; have := HS1.out; omega
  clear hM hZ hb1 hb2 p0 p1 p2 p3 p4 p5 p6 p7
  obtain ⟨i0, hi0⟩ : ∃ i0, i0 = (dchkI (R : Int) C wd xs R C2 wd ys).1 := ⟨_, rfl⟩
  rw [← hi0]
  clear hi0
  go_wp2_with fail
  go_loopw [9, 25] (fun _ i wr => ∃ k : Nat, k ≤ n ∧ i = .int .i64 k ∧ wr = w2 ∧ Hid (∀ j, j < k → badR R (rows.getD j 0) = false)) (fun _ i _ => n - (intOf i).toNat)
  case atStart => exact ⟨0, Nat.zero_le _, rfl, rfl, fun j hj => absurd hj (Nat.not_lt_zero _)⟩
  case round =>
    obtain ⟨k, hk, rfl, rfl, HK⟩ := hrel
    have p0 := hM2.c0
    have p1 := hM2.c1
    have p5 := hM2.c5
    have z0 := hZ2.c0
    have z1 := hZ2.c1
    have z2 := hZ2.c2
    have z3 := hZ2.c3
    have z4 := hZ2.c4
    have z5 := hZ2.c5
    have z6 := hZ2.c6
    have z7 := hZ2.c7
    have f0 := hZ2.free 0
    have f1 := hZ2.free 1
    have f2 := hZ2.free 2
    have f3 := hZ2.free 3
    have f4 := hZ2.free 4
    have f5 := hZ2.free 5
    have f6 := hZ2.free 6
    have f7 := hZ2.free 7
    by_cases hlt : k < n
    · have e0 : wr.cell? ⟨bl, ol + k, none⟩ = some (.int .i64 (rows.getD k 0)) := later_read HRC.out hbw k (by rw [HRL.out]; exact hlt)
      obtain ⟨y, hy⟩ : ∃ y, y = rows.getD k 0 := ⟨_, rfl⟩
      rw [← hy] at e0
      have HY := Lib.hid hy
      clear hy
      by_cases hy0 : y < 0
      · have d0 : decide (y < 0) = true := decide_eq_true hy0
        have hb : badR R y = true := by unfold badR; rw [d0]; rfl
        have HA : Hid (A = (zeroM, zeroM, 40)) := HBAD.out (any_of_get (k := k) (by rw [HRL.out]; exact hlt) (by rw [← HY.out]; exact hb))
        clear hb
        go_wp2
        obtain ⟨w5, hw5, hZ5, hg5⟩ := hZ2.put8 0 0 0 (.slice none 0 0) 0 0 0 (.slice none 0 0)
        rw [← hw5]
        clear hw5 z0 z1 z2 z3 z4 z5 z6 z7 f0 f1 f2 f3 f4 f5 f6 f7
        have z0 := hZ5.c0
        have z1 := hZ5.c1
        have z2 := hZ5.c2
        have z3 := hZ5.c3
        have z4 := hZ5.c4
        have z5 := hZ5.c5
        have z6 := hZ5.c6
        have z7 := hZ5.c7
        refine bodyPost_ret (by simp [results, Try.results27, go_sem, z0, z1, z2, z3, z4, z5, z6, z7]; try rfl) rfl ?_
        refine ⟨.slice none 0 0, .slice none 0 0, by rw [HA.out]; rfl, by rw [HA.out]; exact TwoM.zero _ _, hbw.grown hg5 hbw.size (fun q hq => by cases hq; omega)⟩
      · have d0 : decide (y < 0) = false := decide_eq_false hy0
        by_cases hy1 : (R : Int) ≤ y
        · have d1 : decide ((R : Int) ≤ y) = true := decide_eq_true hy1
          have hb : badR R y = true := by unfold badR; rw [d0, d1]; rfl
          have HA : Hid (A = (zeroM, zeroM, 40)) := HBAD.out (any_of_get (k := k) (by rw [HRL.out]; exact hlt) (by rw [← HY.out]; exact hb))
          clear hb
          go_wp2
          obtain ⟨w5, hw5, hZ5, hg5⟩ := hZ2.put8 0 0 0 (.slice none 0 0) 0 0 0 (.slice none 0 0)
          rw [← hw5]
          clear hw5 z0 z1 z2 z3 z4 z5 z6 z7 f0 f1 f2 f3 f4 f5 f6 f7
          have z0 := hZ5.c0
          have z1 := hZ5.c1
          have z2 := hZ5.c2
          have z3 := hZ5.c3
          have z4 := hZ5.c4
          have z5 := hZ5.c5
          have z6 := hZ5.c6
          have z7 := hZ5.c7
          refine bodyPost_ret (by simp [results, Try.results27, go_sem, z0, z1, z2, z3, z4, z5, z6, z7]; try rfl) rfl ?_
          refine ⟨.slice none 0 0, .slice none 0 0, by rw [HA.out]; rfl, by rw [HA.out]; exact TwoM.zero _ _, hbw.grown hg5 hbw.size (fun q hq => by cases hq; omega)⟩
        · have d1 : decide ((R : Int) ≤ y) = false := decide_eq_false hy1
          have hb : badR R y = false := by unfold badR; rw [d0, d1]; rfl
          have HB := Lib.hid hb
          clear hb
          go_wp2
          go_roundw
          case rel =>
            refine ⟨k + 1, hlt, by go_num, by trivial, fun j hj => ?_⟩
            by_cases ej : j = k
            · subst ej; rw [← HY.out]; exact HB.out
            · exact HK.out j (by omega)
          case measure => simp [intOf]; omega
    · obtain rfl : k = n := by omega
      have HG : Hid (rows.any (badR R) = false) := any_of_all fun j hj => HK.out j (by rw [← HRL.out]; exact hj)
      by_cases hn2 : 4096 < k
      · have hbig : (k : Int) ≤ (k : Int) * (C : Int) := by
          have := Int.mul_le_mul_of_nonneg_left (show (1 : Int) ≤ (C : Int) by omega) (show (0 : Int) ≤ (k : Int) by omega)
          omega
        have HA : Hid (A = (zeroM, zeroM, 2)) := HLONG.out HG.out (.inl (by omega))
        clear hbig
        have d2 : decide (4096 < k) = true := decide_eq_true hn2
        go_wp2
        obtain ⟨w5, hw5, hZ5, hg5⟩ := hZ2.put8 0 0 0 (.slice none 0 0) 0 0 0 (.slice none 0 0)
        rw [← hw5]
        clear hw5 z0 z1 z2 z3 z4 z5 z6 z7 f0 f1 f2 f3 f4 f5 f6 f7
        have z0 := hZ5.c0
        have z1 := hZ5.c1
        have z2 := hZ5.c2
        have z3 := hZ5.c3
        have z4 := hZ5.c4
        have z5 := hZ5.c5
        have z6 := hZ5.c6
        have z7 := hZ5.c7
        refine bodyPost_ret (by simp [results, Try.results27, go_sem, z0, z1, z2, z3, z4, z5, z6, z7]; try rfl) rfl ?_
        refine ⟨.slice none 0 0, .slice none 0 0, by rw [HA.out]; rfl, by rw [HA.out]; exact TwoM.zero _ _, hbw.grown hg5 hbw.size (fun q hq => by cases hq; omega)⟩
      · have d2 : decide ((4096 : Int) < (k : Int)) = false := decide_eq_false (by omega)
        by_cases hm : C < C2
        · obtain ⟨t, ht⟩ : ∃ t, t = k * C2 := ⟨_, rfl⟩
          have e1 : (k : Int) * (C2 : Int) = (t : Int) := by rw [ht]; simp
          have tb : t ≤ 16777216 := by rw [ht]; exact Nat.mul_le_mul (show k ≤ 4096 by omega) (show C2 ≤ 4096 by omega)
          have lo : k * C ≤ k * C2 := Nat.mul_le_mul_left k (by omega)
          have lo2 : (k : Int) * (C : Int) ≤ (t : Int) := by rw [ht, ← Int.natCast_mul]; omega
          have HLO := Lib.hid lo2
          clear ht lo lo2
          by_cases h3 : 4096 < t
          · have d3 : decide ((4096 : Int) < (t : Int)) = true := decide_eq_true (by omega)
            have HA : Hid (A = (zeroM, zeroM, 2)) := HLONG.out HG.out (by rw [e1]; right; omega)
            go_wp2
            obtain ⟨w5, hw5, hZ5, hg5⟩ := hZ2.put8 0 0 0 (.slice none 0 0) 0 0 0 (.slice none 0 0)
            rw [← hw5]
            clear hw5 z0 z1 z2 z3 z4 z5 z6 z7 f0 f1 f2 f3 f4 f5 f6 f7
            have z0 := hZ5.c0
            have z1 := hZ5.c1
            have z2 := hZ5.c2
            have z3 := hZ5.c3
            have z4 := hZ5.c4
            have z5 := hZ5.c5
            have z6 := hZ5.c6
            have z7 := hZ5.c7
            refine bodyPost_ret (by simp [results, Try.results27, go_sem, z0, z1, z2, z3, z4, z5, z6, z7]; try rfl) rfl ?_
            refine ⟨.slice none 0 0, .slice none 0 0, by rw [HA.out]; rfl, by rw [HA.out]; exact TwoM.zero _ _, hbw.grown hg5 hbw.size (fun q hq => by cases hq; omega)⟩
          · have d3 : decide ((4096 : Int) < (t : Int)) = false := decide_eq_false (by omega)
            have HA : Hid (A = (⟨k, C, wd, rowsI C xs rows⟩, ⟨k, C2, wd, rowsI C2 ys rows⟩, 0)) := HOK.out HG.out (by have := HLO.out; rw [e1]; omega)
            go_wp2_with fail
            have p2 := hM2.c2
            have p3 := hM2.c3
            have p4 := hM2.c4
            have p6 := hM2.c6
            have p7 := hM2.c7
            have bA : Below wr.heap.size wr wr.drew := (Below.refl _ wr).drew
            have HRS : Hid (ReadI w (.slice (some ⟨bl, ol, none⟩) k cl) rows) := .inr ⟨bl, ol, cl, by rw [HRL.out], by rw [HRL.out]; exact hcl, HRC.out⟩
            have ne2 : ¬ w.heap.size = w.heap.size + 1 := by omega
            have ne3 : ¬ w.heap.size + 1 = w.heap.size := by omega
            clear z0 z1 z2 z3 z4 z5 z6 z7 f0 f1 f2 f3 f4 f5 f6 f7
            have tok1 : True := trivial
            go_region_held3 (fun w' => w'.cell? ⟨w.heap.size, 0, none⟩ = some (.int .i64 R) ∧ w'.cell? ⟨w.heap.size, 1, none⟩ = some (.int .i64 C) ∧ w'.cell? ⟨w.heap.size, 2, none⟩ = some (.int .i64 wd) ∧ w'.cell? ⟨w.heap.size, 3, none⟩ = some (.slice (some ⟨b, off, none⟩) (R * C) cp) ∧
                w'.cell? ⟨w.heap.size, 4, none⟩ = some (.int .i64 R) ∧ w'.cell? ⟨w.heap.size, 5, none⟩ = some (.int .i64 C2) ∧ w'.cell? ⟨w.heap.size, 6, none⟩ = some (.int .i64 wd) ∧ w'.cell? ⟨w.heap.size, 7, none⟩ = some (.slice (some ⟨b2, off2, none⟩) (R * C2) cp2)) (go_keep)
              (first
                | ((have _t := tok1); go_at_call 85; (refine (cut_any R C k wd b off cp xs rows ⟨bl, ol, none⟩ cl _ HCP.out (later_read HC.out (hbw.trans (bA.mono hbw.size))) (HRS.out.below (hbw.trans (bA.mono hbw.size))) HRL.out (by omega) (good_rows HG.out) hC0 hR1 hC1 HS.out.RC HS.out.l1).mono ?_; rintro e w3 ⟨v3, rfl, o3, hb3⟩; clear tok1; (have o4 := own_mono o3 (show wr.heap.size ≤ _ by simp)); clear o3; obtain ⟨a3, c3, rfl, _, _⟩ := own_form o4; simp only [matV]; (have bw := bA.trans (hb3.mono bA.size)); (have hM3 := hM2.below bw); (have m0 := hM3.c0); (have m1 := hM3.c1); (have m2 := hM3.c2); (have m3 := hM3.c3); (have m4 := hM3.c4); (have m5 := hM3.c5); (have m6 := hM3.c6); (have m7 := hM3.c7)))
                | (go_at_call 85; (refine (cut_any R C2 k wd b2 off2 cp2 ys rows ⟨bl, ol, none⟩ cl w3 HCP2.out (later_read HC2.out (hbw.trans (bw.mono hbw.size))) (HRS.out.below (hbw.trans (bw.mono hbw.size))) HRL.out (by omega) (good_rows HG.out) hC20 hR1 hC21 HS.out.RC2 HS.out.l2).mono ?_; rintro e w4 ⟨v4, rfl, o6, hb4⟩; (have o7 := own_below o4 hb4 (Nat.le_refl _)); obtain ⟨a4, c4, rfl, _, _⟩ := own_form o6; (have bz := bw.trans (hb4.mono bw.size)); (have ap := row_apart o4 o6); (have hM4 := hM2.below bz); (have hZ4 := hZ2.below bz); simp only [matV]; (have n0 := hM4.c0); (have n1 := hM4.c1); (have n2 := hM4.c2); (have n3 := hM4.c3); (have n4 := hM4.c4); (have n5 := hM4.c5); (have n6 := hM4.c6); (have n7 := hM4.c7); (have x0 := hZ4.c0); (have g0 := hZ4.free 0); (have x1 := hZ4.c1); (have g1 := hZ4.free 1); (have x2 := hZ4.c2); (have g2 := hZ4.free 2); (have x3 := hZ4.c3); (have g3 := hZ4.free 3); (have x4 := hZ4.c4); (have g4 := hZ4.free 4); (have x5 := hZ4.c5); (have g5 := hZ4.free 5); (have x6 := hZ4.c6); (have g6 := hZ4.free 6); (have x7 := hZ4.c7); (have g7 := hZ4.free 7))))
            have hl1 := rowsI_length C xs rows R HS.out.l1 (good_rows HG.out)
            have hl2 := rowsI_length C2 ys rows R HS.out.l2 (good_rows HG.out)
            rw [HRL.out] at hl1 hl2
            have HL1 := Lib.hid hl1
            have HL2 := Lib.hid hl2
            clear hl1 hl2
            obtain ⟨_, rfl, hZ5, hg5⟩ := hZ4.put8 k C wd (.slice a3 (k * C) c3) k C2 wd (.slice a4 (k * C2) c4)
            have z0 := hZ5.c0
            have z1 := hZ5.c1
            have z2 := hZ5.c2
            have z3 := hZ5.c3
            have z4 := hZ5.c4
            have z5 := hZ5.c5
            have z6 := hZ5.c6
            have z7 := hZ5.c7
            have bzw := hbw.trans (bz.mono hbw.size)
            go_wp2
            refine bodyPost_ret (by simp [results, Try.results27, go_sem, z0, z1, z2, z3, z4, z5, z6, z7]; try rfl) rfl ?_
            have s3 : w.heap.size + 2 ≤ wr.heap.size := HS2.out
            have s4 : wr.heap.size ≤ w3.heap.size := bw.size
            have o8 := row_kept o7 hg5 (by omega)
            have o9 := row_kept o6 hg5 (by omega)
            refine ⟨.slice a3 (k * C) c3, .slice a4 (k * C2) c4, by rw [HA.out]; rfl, ?_, bzw.grown hg5 bzw.size (fun q hq => by cases hq; omega)⟩
            rw [HA.out]
            refine ⟨?_, ?_, ap⟩
            · dsimp only
              rw [HL1.out]
              exact own_mono o8 (by omega)
            · dsimp only
              rw [HL2.out]
              exact own_mono o9 (by omega)
        · obtain ⟨t, ht⟩ : ∃ t, t = k * C := ⟨_, rfl⟩
          have e1 : (k : Int) * (C : Int) = (t : Int) := by rw [ht]; simp
          have tb : t ≤ 16777216 := by rw [ht]; exact Nat.mul_le_mul (show k ≤ 4096 by omega) (show C ≤ 4096 by omega)
          have lo : k * C2 ≤ k * C := Nat.mul_le_mul_left k (by omega)
          have lo2 : (k : Int) * (C2 : Int) ≤ (t : Int) := by rw [ht, ← Int.natCast_mul]; omega
          have HLO := Lib.hid lo2
          clear ht lo lo2
          by_cases h3 : 4096 < t
          · have d3 : decide ((4096 : Int) < (t : Int)) = true := decide_eq_true (by omega)
            have HA : Hid (A = (zeroM, zeroM, 2)) := HLONG.out HG.out (by rw [e1]; left; omega)
            go_wp2
            obtain ⟨w5, hw5, hZ5, hg5⟩ := hZ2.put8 0 0 0 (.slice none 0 0) 0 0 0 (.slice none 0 0)
            rw [← hw5]
            clear hw5 z0 z1 z2 z3 z4 z5 z6 z7 f0 f1 f2 f3 f4 f5 f6 f7
            have z0 := hZ5.c0
            have z1 := hZ5.c1
            have z2 := hZ5.c2
            have z3 := hZ5.c3
            have z4 := hZ5.c4
            have z5 := hZ5.c5
            have z6 := hZ5.c6
            have z7 := hZ5.c7
            refine bodyPost_ret (by simp [results, Try.results27, go_sem, z0, z1, z2, z3, z4, z5, z6, z7]; try rfl) rfl ?_
            refine ⟨.slice none 0 0, .slice none 0 0, by rw [HA.out]; rfl, by rw [HA.out]; exact TwoM.zero _ _, hbw.grown hg5 hbw.size (fun q hq => by cases hq; omega)⟩
          · have d3 : decide ((4096 : Int) < (t : Int)) = false := decide_eq_false (by omega)
            have HA : Hid (A = (⟨k, C, wd, rowsI C xs rows⟩, ⟨k, C2, wd, rowsI C2 ys rows⟩, 0)) := HOK.out HG.out (by have := HLO.out; rw [e1]; omega)
            go_wp2_with fail
            have p2 := hM2.c2
            have p3 := hM2.c3
            have p4 := hM2.c4
            have p6 := hM2.c6
            have p7 := hM2.c7
            have bA : Below wr.heap.size wr wr.drew := (Below.refl _ wr).drew
            have HRS : Hid (ReadI w (.slice (some ⟨bl, ol, none⟩) k cl) rows) := .inr ⟨bl, ol, cl, by rw [HRL.out], by rw [HRL.out]; exact hcl, HRC.out⟩
            have ne2 : ¬ w.heap.size = w.heap.size + 1 := by omega
            have ne3 : ¬ w.heap.size + 1 = w.heap.size := by omega
            clear z0 z1 z2 z3 z4 z5 z6 z7 f0 f1 f2 f3 f4 f5 f6 f7
            have tok1 : True := trivial
            go_region_held3 (fun w' => w'.cell? ⟨w.heap.size, 0, none⟩ = some (.int .i64 R) ∧ w'.cell? ⟨w.heap.size, 1, none⟩ = some (.int .i64 C) ∧ w'.cell? ⟨w.heap.size, 2, none⟩ = some (.int .i64 wd) ∧ w'.cell? ⟨w.heap.size, 3, none⟩ = some (.slice (some ⟨b, off, none⟩) (R * C) cp) ∧
                w'.cell? ⟨w.heap.size, 4, none⟩ = some (.int .i64 R) ∧ w'.cell? ⟨w.heap.size, 5, none⟩ = some (.int .i64 C2) ∧ w'.cell? ⟨w.heap.size, 6, none⟩ = some (.int .i64 wd) ∧ w'.cell? ⟨w.heap.size, 7, none⟩ = some (.slice (some ⟨b2, off2, none⟩) (R * C2) cp2)) (go_keep)
              (first
                | ((have _t := tok1); go_at_call 85; (refine (cut_any R C k wd b off cp xs rows ⟨bl, ol, none⟩ cl _ HCP.out (later_read HC.out (hbw.trans (bA.mono hbw.size))) (HRS.out.below (hbw.trans (bA.mono hbw.size))) HRL.out (by omega) (good_rows HG.out) hC0 hR1 hC1 HS.out.RC HS.out.l1).mono ?_; rintro e w3 ⟨v3, rfl, o3, hb3⟩; clear tok1; (have o4 := own_mono o3 (show wr.heap.size ≤ _ by simp)); clear o3; obtain ⟨a3, c3, rfl, _, _⟩ := own_form o4; simp only [matV]; (have bw := bA.trans (hb3.mono bA.size)); (have hM3 := hM2.below bw); (have m0 := hM3.c0); (have m1 := hM3.c1); (have m2 := hM3.c2); (have m3 := hM3.c3); (have m4 := hM3.c4); (have m5 := hM3.c5); (have m6 := hM3.c6); (have m7 := hM3.c7)))
                | (go_at_call 85; (refine (cut_any R C2 k wd b2 off2 cp2 ys rows ⟨bl, ol, none⟩ cl w3 HCP2.out (later_read HC2.out (hbw.trans (bw.mono hbw.size))) (HRS.out.below (hbw.trans (bw.mono hbw.size))) HRL.out (by omega) (good_rows HG.out) hC20 hR1 hC21 HS.out.RC2 HS.out.l2).mono ?_; rintro e w4 ⟨v4, rfl, o6, hb4⟩; (have o7 := own_below o4 hb4 (Nat.le_refl _)); obtain ⟨a4, c4, rfl, _, _⟩ := own_form o6; (have bz := bw.trans (hb4.mono bw.size)); (have ap := row_apart o4 o6); (have hM4 := hM2.below bz); (have hZ4 := hZ2.below bz); simp only [matV]; (have n0 := hM4.c0); (have n1 := hM4.c1); (have n2 := hM4.c2); (have n3 := hM4.c3); (have n4 := hM4.c4); (have n5 := hM4.c5); (have n6 := hM4.c6); (have n7 := hM4.c7); (have x0 := hZ4.c0); (have g0 := hZ4.free 0); (have x1 := hZ4.c1); (have g1 := hZ4.free 1); (have x2 := hZ4.c2); (have g2 := hZ4.free 2); (have x3 := hZ4.c3); (have g3 := hZ4.free 3); (have x4 := hZ4.c4); (have g4 := hZ4.free 4); (have x5 := hZ4.c5); (have g5 := hZ4.free 5); (have x6 := hZ4.c6); (have g6 := hZ4.free 6); (have x7 := hZ4.c7); (have g7 := hZ4.free 7))))
            have hl1 := rowsI_length C xs rows R HS.out.l1 (good_rows HG.out)
            have hl2 := rowsI_length C2 ys rows R HS.out.l2 (good_rows HG.out)
            rw [HRL.out] at hl1 hl2
            have HL1 := Lib.hid hl1
            have HL2 := Lib.hid hl2
            clear hl1 hl2
            obtain ⟨_, rfl, hZ5, hg5⟩ := hZ4.put8 k C wd (.slice a3 (k * C) c3) k C2 wd (.slice a4 (k * C2) c4)
            have z0 := hZ5.c0
            have z1 := hZ5.c1
            have z2 := hZ5.c2
            have z3 := hZ5.c3
            have z4 := hZ5.c4
            have z5 := hZ5.c5
            have z6 := hZ5.c6
            have z7 := hZ5.c7
            have bzw := hbw.trans (bz.mono hbw.size)
            go_wp2
            refine bodyPost_ret (by simp [results, Try.results27, go_sem, z0, z1, z2, z3, z4, z5, z6, z7]; try rfl) rfl ?_
            have s3 : w.heap.size + 2 ≤ wr.heap.size := HS2.out
            have s4 : wr.heap.size ≤ w3.heap.size := bw.size
            have o8 := row_kept o7 hg5 (by omega)
            have o9 := row_kept o6 hg5 (by omega)
            refine ⟨.slice a3 (k * C) c3, .slice a4 (k * C2) c4, by rw [HA.out]; rfl, ?_, bzw.grown hg5 bzw.size (fun q hq => by cases hq; omega)⟩
            rw [HA.out]
            refine ⟨?_, ?_, ap⟩
            · dsimp only
              rw [HL1.out]
              exact own_mono o8 (by omega)
            · dsimp only
              rw [HL2.out]
              exact own_mono o9 (by omega)
end Go.Proofs.Ytdddbljkhhbdlaa
