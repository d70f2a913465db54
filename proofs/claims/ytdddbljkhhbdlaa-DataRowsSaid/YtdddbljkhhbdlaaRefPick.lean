/-
The contract of the document's own Pick.
-/
import Derived.Test.YtdddbljkhhbdlaaPickMath
import Derived.Deep.CutRange
namespace Go.Proofs.Ytdddbljkhhbdlaa
open Go.RowKit

set_option maxRecDepth 100000 in
set_option maxHeartbeats 4000000 in
theorem refpick_main (R C C2 n : Nat) (wd : Int) (b off cp : Nat) (xs : List Int) (b2 off2 cp2 : Nat) (ys : List Int) (bl ol cl : Nat) (rows : List Int) (w : World) (hS : SetOk R C wd xs R C2 wd ys R C C2)
    (hcp : R * C ≤ cp) (hcell : ∀ j, j < xs.length → w.cell? ⟨b, off + j, none⟩ = some (.int .i64 (xs.getD j 0))) (hcp2 : R * C2 ≤ cp2) (hcell2 : ∀ j, j < ys.length → w.cell? ⟨b2, off2 + j, none⟩ = some (.int .i64 (ys.getD j 0)))
    (h64 : ∀ x, x ∈ xs → -9223372036854775808 ≤ x ∧ x ≤ 9223372036854775807) (h642 : ∀ x, x ∈ ys → -9223372036854775808 ≤ x ∧ x ≤ 9223372036854775807) (hE : (dchkI R C wd xs R C2 wd ys).2 = 0)
    (hrl : rows.length = n) (hn0 : 0 < n) (hn : n ≤ 5000) (hcl : n ≤ cl) (hrc : ∀ j, j < rows.length → w.cell? ⟨bl, ol + j, none⟩ = some (.int .i64 (rows.getD j 0)))
    (A : MatI × MatI × Int) (hbad : rows.any (badR R) = true → A = (zeroM, zeroM, 40))
    (hlong : rows.any (badR R) = false → (4096 < (n : Int) * C ∨ 4096 < (n : Int) * C2) → A = (zeroM, zeroM, 2))
    (hok : rows.any (badR R) = false → ¬ (4096 < (n : Int) * C ∨ 4096 < (n : Int) * C2) → A = (⟨n, C, wd, rowsI C xs rows⟩, ⟨n, C2, wd, rowsI C2 ys rows⟩, 0)) :
    Calls Try.prog 28 #[setV R C wd (.slice (some ⟨b, off, none⟩) (R * C) cp) R C2 wd (.slice (some ⟨b2, off2, none⟩) (R * C2) cp2), .slice (some ⟨bl, ol, none⟩) n cl] w fun e w' =>
      ∃ u u', e = .returned (.tuple #[setOf A.1 A.2.1 u u', .int .i64 A.2.2]) ∧ TwoM w' w.heap.size A.1 A.2.1 u u' ∧ Below w.heap.size w w' := by
  have hv : ReadI w (.slice (some ⟨b, off, none⟩) (R * C) cp) xs := .inr ⟨b, off, cp, by rw [hS.l1], by rw [hS.l1]; exact hcp, hcell⟩
  have hv2 : ReadI w (.slice (some ⟨b2, off2, none⟩) (R * C2) cp2) ys := .inr ⟨b2, off2, cp2, by rw [hS.l2], by rw [hS.l2]; exact hcp2, hcell2⟩
  have HV := Lib.hid hv
  have HV2 := Lib.hid hv2
  have H64 := Lib.hid h64
  have H642 := Lib.hid h642
  have HS := Lib.hid hS
  have HE := Lib.hid hE
  have HC := Lib.hid hcell
  have HC2 := Lib.hid hcell2
  have HCP := Lib.hid hcp
  have HCP2 := Lib.hid hcp2
  have HRL := Lib.hid hrl
  have HRC := Lib.hid hrc
  have HBAD := Lib.hid hbad
  have HLONG := Lib.hid hlong
  have HOK := Lib.hid hok
  have hx : xs.length ≤ 100000000 := by have := hS.l1; have := hS.RC; omega
  have hy : ys.length ≤ 100000000 := by have := hS.l2; have := hS.RC2; omega
  have HX := Lib.hid hx
  have HY := Lib.hid hy
  have hC1 := hS.C1
  have hC21 := hS.C21
  have hR1 := hS.R1
  have hC0 := hS.C0
  have hC20 := hS.C20
  have n0 : ((n : Int) == 0) = false := by simp; omega
  clear hv hv2 h64 h642 hS hE hcell hcell2 hcp hcp2 hx hy hrl hrc hbad hlong hok
  unfold setV
  go_enter Try.func28, Try.ntmps28
  go_wp2_with fail
  obtain ⟨w1, hw1, hM, hZ, hb1, hs1⟩ := boxesSet w R C wd (.slice (some ⟨b, off, none⟩) (R * C) cp) R C2 wd (.slice (some ⟨b2, off2, none⟩) (R * C2) cp2)
  rw [← hw1]
  have HS1 := Lib.hid hs1
  clear hw1 hs1
  have p0 := hM.c0
  have p1 := hM.c1
  have p2 := hM.c2
  have p3 := hM.c3
  have p4 := hM.c4
  have p5 := hM.c5
  have p6 := hM.c6
  have p7 := hM.c7
  go_wp2_with fail
  refine (refdcheck_any R C wd _ xs R C2 wd _ ys w1 (HV.out.below hb1) (HV2.out.below hb1) HX.out HY.out H64.out H642.out).mono ?_
  rintro e w2 ⟨rfl, hb2⟩
  rw [HE.out]
  have hM2 := hM.below hb2
  have hZ2 := hZ.below hb2
  have hbw := hb1.trans (hb2.mono hb1.size)
  have HS2 : Hid (w.heap.size + 2 ≤ w2.heap.size) := by show _ ≤ _; have := hb2.size; have := HS1.out; omega
  clear hM hZ hb1 hb2 p0 p1 p2 p3 p4 p5 p6 p7
  obtain ⟨i0, hi0⟩ : ∃ i0, i0 = (dchkI (R : Int) C wd xs R C2 wd ys).1 := ⟨_, rfl⟩
  rw [← hi0]
  clear hi0
  go_wp2_with fail
  go_loopw [8] (fun i wr => ∃ (k q : Nat), k ≤ n ∧ i = .int .i64 k ∧ wr = w2.drewN q ∧ Hid (∀ j, j < k → badR R (rows.getD j 0) = false)) (fun i _ => n - (intOf i).toNat)
  case atStart => exact ⟨0, 0, Nat.zero_le _, rfl, rfl, fun j hj => absurd hj (Nat.not_lt_zero _)⟩
  case round =>
    obtain ⟨k, q, hk, rfl, rfl, HK⟩ := hrel
    have hZq : ∀ q', SetAt (w2.drewN q') (w.heap.size + 1) 0 0 0 (.slice none 0 0) 0 0 0 (.slice none 0 0) := fun q' => ⟨hZ2.block⟩
    have p0 := hM2.c0
    have p1 := hM2.c1
    have p5 := hM2.c5
    have z0 := hZ2.c0
    have z1 := hZ2.c1
    have z2 := hZ2.c2
    have z3 := hZ2.c3
    have z4 := hZ2.c4
    have z5 := hZ2.c5
    have z6 := hZ2.c6
    have z7 := hZ2.c7
    have f0 := hZ2.free 0
    have f1 := hZ2.free 1
    have f2 := hZ2.free 2
    have f3 := hZ2.free 3
    have f4 := hZ2.free 4
    have f5 := hZ2.free 5
    have f6 := hZ2.free 6
    have f7 := hZ2.free 7
    by_cases hlt : k < n
    · have e0 : w2.cell? ⟨bl, ol + k, none⟩ = some (.int .i64 (rows.getD k 0)) := later_read HRC.out hbw k (by rw [HRL.out]; exact hlt)
      obtain ⟨y, hy⟩ : ∃ y, y = rows.getD k 0 := ⟨_, rfl⟩
      rw [← hy] at e0
      have HY := Lib.hid hy
      clear hy
      by_cases hy0 : y < 0
      · have d0 : decide (y < 0) = true := decide_eq_true hy0
        have hb : badR R y = true := by unfold badR; rw [d0]; rfl
        have HA : Hid (A = (zeroM, zeroM, 40)) := HBAD.out (any_of_get (k := k) (by rw [HRL.out]; exact hlt) (by rw [← HY.out]; exact hb))
        clear hb
        go_wp2
        go_quiet (fail)
        go_wp2
        obtain ⟨w5, hw5, hZ5, hg5⟩ := (hZq (q + nq)).put8 0 0 0 (.slice none 0 0) 0 0 0 (.slice none 0 0)
        rw [← hw5]
        clear hw5 z0 z1 z2 z3 z4 z5 z6 z7 f0 f1 f2 f3 f4 f5 f6 f7
        have z0 := hZ5.c0
        have z1 := hZ5.c1
        have z2 := hZ5.c2
        have z3 := hZ5.c3
        have z4 := hZ5.c4
        have z5 := hZ5.c5
        have z6 := hZ5.c6
        have z7 := hZ5.c7
        refine bodyPost_ret (by simp [results, Try.results28, go_sem, z0, z1, z2, z3, z4, z5, z6, z7]; try rfl) rfl ?_
        refine ⟨.slice none 0 0, .slice none 0 0, by rw [HA.out]; rfl, by rw [HA.out]; exact TwoM.zero _ _, (below_drewN hbw (q + nq)).grown hg5 (below_drewN hbw (q + nq)).size (fun q hq => by cases hq; omega)⟩
      · have d0 : decide (y < 0) = false := decide_eq_false hy0
        by_cases hy1 : (R : Int) ≤ y
        · have d1 : decide ((R : Int) ≤ y) = true := decide_eq_true hy1
          have hb : badR R y = true := by unfold badR; rw [d0, d1]; rfl
          have HA : Hid (A = (zeroM, zeroM, 40)) := HBAD.out (any_of_get (k := k) (by rw [HRL.out]; exact hlt) (by rw [← HY.out]; exact hb))
          clear hb
          go_wp2
          go_quiet (fail)
          go_wp2
          obtain ⟨w5, hw5, hZ5, hg5⟩ := (hZq (q + nq)).put8 0 0 0 (.slice none 0 0) 0 0 0 (.slice none 0 0)
          rw [← hw5]
          clear hw5 z0 z1 z2 z3 z4 z5 z6 z7 f0 f1 f2 f3 f4 f5 f6 f7
          have z0 := hZ5.c0
          have z1 := hZ5.c1
          have z2 := hZ5.c2
          have z3 := hZ5.c3
          have z4 := hZ5.c4
          have z5 := hZ5.c5
          have z6 := hZ5.c6
          have z7 := hZ5.c7
          refine bodyPost_ret (by simp [results, Try.results28, go_sem, z0, z1, z2, z3, z4, z5, z6, z7]; try rfl) rfl ?_
          refine ⟨.slice none 0 0, .slice none 0 0, by rw [HA.out]; rfl, by rw [HA.out]; exact TwoM.zero _ _, (below_drewN hbw (q + nq)).grown hg5 (below_drewN hbw (q + nq)).size (fun q hq => by cases hq; omega)⟩
        · have d1 : decide ((R : Int) ≤ y) = false := decide_eq_false hy1
          have hb : badR R y = false := by unfold badR; rw [d0, d1]; rfl
          have HB := Lib.hid hb
          clear hb
          go_wp2
          go_quiet (fail)
          go_wp2
          go_roundw
          case rel =>
            refine ⟨k + 1, _, hlt, by go_num, rfl, fun j hj => ?_⟩
            by_cases ej : j = k
            · subst ej; rw [← HY.out]; exact HB.out
            · exact HK.out j (by omega)
          case measure => simp [intOf]; omega
    · obtain rfl : k = n := by omega
      have HG : Hid (rows.any (badR R) = false) := any_of_all fun j hj => HK.out j (by rw [← HRL.out]; exact hj)
      obtain ⟨t, ht⟩ : ∃ t, t = k * C := ⟨_, rfl⟩
      obtain ⟨t2, ht2⟩ : ∃ t2, t2 = k * C2 := ⟨_, rfl⟩
      have e1 : (k : Int) * (C : Int) = (t : Int) := by rw [ht]; simp
      have e2 : (k : Int) * (C2 : Int) = (t2 : Int) := by rw [ht2]; simp
      have tb : t ≤ 20480000 := by rw [ht]; exact Nat.mul_le_mul (show k ≤ 5000 by omega) (show C ≤ 4096 by omega)
      have tb2 : t2 ≤ 20480000 := by rw [ht2]; exact Nat.mul_le_mul (show k ≤ 5000 by omega) (show C2 ≤ 4096 by omega)
      have HT := Lib.hid ht
      have HT2 := Lib.hid ht2
      clear ht ht2
      by_cases h3 : 4096 < t
      · have d3 : decide ((4096 : Int) < (t : Int)) = true := decide_eq_true (by omega)
        have HA : Hid (A = (zeroM, zeroM, 2)) := HLONG.out HG.out (by rw [e1]; left; omega)
        go_wp2
        obtain ⟨w5, hw5, hZ5, hg5⟩ := (hZq q).put8 0 0 0 (.slice none 0 0) 0 0 0 (.slice none 0 0)
        rw [← hw5]
        clear hw5 z0 z1 z2 z3 z4 z5 z6 z7 f0 f1 f2 f3 f4 f5 f6 f7
        have z0 := hZ5.c0
        have z1 := hZ5.c1
        have z2 := hZ5.c2
        have z3 := hZ5.c3
        have z4 := hZ5.c4
        have z5 := hZ5.c5
        have z6 := hZ5.c6
        have z7 := hZ5.c7
        refine bodyPost_ret (by simp [results, Try.results28, go_sem, z0, z1, z2, z3, z4, z5, z6, z7]; try rfl) rfl ?_
        refine ⟨.slice none 0 0, .slice none 0 0, by rw [HA.out]; rfl, by rw [HA.out]; exact TwoM.zero _ _, (below_drewN hbw q).grown hg5 (below_drewN hbw q).size (fun q hq => by cases hq; omega)⟩
      · have d3 : decide ((4096 : Int) < (t : Int)) = false := decide_eq_false (by omega)
        by_cases h4 : 4096 < t2
        · have d4 : decide ((4096 : Int) < (t2 : Int)) = true := decide_eq_true (by omega)
          have HA : Hid (A = (zeroM, zeroM, 2)) := HLONG.out HG.out (by rw [e2]; right; omega)
          go_wp2
          obtain ⟨w5, hw5, hZ5, hg5⟩ := (hZq q).put8 0 0 0 (.slice none 0 0) 0 0 0 (.slice none 0 0)
          rw [← hw5]
          clear hw5 z0 z1 z2 z3 z4 z5 z6 z7 f0 f1 f2 f3 f4 f5 f6 f7
          have z0 := hZ5.c0
          have z1 := hZ5.c1
          have z2 := hZ5.c2
          have z3 := hZ5.c3
          have z4 := hZ5.c4
          have z5 := hZ5.c5
          have z6 := hZ5.c6
          have z7 := hZ5.c7
          refine bodyPost_ret (by simp [results, Try.results28, go_sem, z0, z1, z2, z3, z4, z5, z6, z7]; try rfl) rfl ?_
          refine ⟨.slice none 0 0, .slice none 0 0, by rw [HA.out]; rfl, by rw [HA.out]; exact TwoM.zero _ _, (below_drewN hbw q).grown hg5 (below_drewN hbw q).size (fun q hq => by cases hq; omega)⟩
        · have d4 : decide ((4096 : Int) < (t2 : Int)) = false := decide_eq_false (by omega)
          have HA : Hid (A = (⟨k, C, wd, rowsI C xs rows⟩, ⟨k, C2, wd, rowsI C2 ys rows⟩, 0)) := HOK.out HG.out (by rw [e1, e2]; omega)
          obtain ⟨wq, hwq⟩ : ∃ wq, wq = w2.drewN q := ⟨_, rfl⟩
          rw [← hwq]
          have hMq : SetAt wq w.heap.size R C wd (.slice (some ⟨b, off, none⟩) (R * C) cp) R C2 wd (.slice (some ⟨b2, off2, none⟩) (R * C2) cp2) := by rw [hwq]; exact ⟨hM2.block⟩
          have hZw : SetAt wq (w.heap.size + 1) 0 0 0 (.slice none 0 0) 0 0 0 (.slice none 0 0) := by rw [hwq]; exact hZq q
          have hbq : Below w.heap.size w wq := by rw [hwq]; exact below_drewN hbw q
          have HSq : Hid (w.heap.size + 2 ≤ wq.heap.size) := by rw [hwq]; exact HS2.out
          clear hwq hM2 hZ2 hbw HS2 hZq z0 z1 z2 z3 z4 z5 z6 z7 f0 f1 f2 f3 f4 f5 f6 f7 p0 p1 p5
          have p0 := hMq.c0
          have p1 := hMq.c1
          have p2 := hMq.c2
          have p5 := hMq.c5
          have p6 := hMq.c6
          go_wp2_with fail
          have hO0 : SetAt (wq.alloc (.cells #[.int .i64 (k : Nat), .int .i64 C, .int .i64 wd, .slice none 0 0, .int .i64 (k : Nat), .int .i64 C2, .int .i64 wd, .slice none 0 0] 47)) wq.heap.size k C wd (.slice none 0 0) k C2 wd (.slice none 0 0) := ⟨heap_alloc_new wq _⟩
          have hb0 : Below wq.heap.size wq (wq.alloc (.cells #[.int .i64 (k : Nat), .int .i64 C, .int .i64 wd, .slice none 0 0, .int .i64 (k : Nat), .int .i64 C2, .int .i64 wd, .slice none 0 0] 47)) := (Below.refl _ wq).alloc (Nat.le_refl _) _
          have HS0 : Hid ((wq.alloc (.cells #[.int .i64 (k : Nat), .int .i64 C, .int .i64 wd, .slice none 0 0, .int .i64 (k : Nat), .int .i64 C2, .int .i64 wd, .slice none 0 0] 47)).heap.size = wq.heap.size + 1) := by show _ = _; simp [go_sem]
          clear p0 p1 p2 p5 p6
          go_loopw [10] (fun i wr => ∃ (j : Nat) (va vb : Value), j ≤ k ∧ i = .int .i64 j ∧ PickAt wr wq k C C2 wd xs ys rows j j va vb) (fun i _ => k - (intOf i).toNat)
          case atStart => exact ⟨0, _, _, Nat.zero_le _, rfl, hO0, by rw [Nat.zero_mul]; exact World.ownsRow_nil _ _ _ _, by rw [Nat.zero_mul]; exact World.ownsRow_nil _ _ _ _, .inl rfl, by rw [HS0.out]; exact Nat.le_refl _, hb0⟩
          case round =>
            obtain ⟨j, va, vb, hj, rfl, HP⟩ := hrel
            clear hO0 hb0 HS0
            by_cases hlt : j < k
            · have hjl : j < rows.length := by rw [HRL.out]; exact hlt
              have HJL := Lib.hid hjl
              have hmem : rows.getD j 0 ∈ rows := by simp [List.getD, hjl]
              have hr9 := good_rows HG.out _ hmem
              obtain ⟨row, hrw⟩ : ∃ row : Nat, rows.getD j 0 = (row : Int) := ⟨(rows.getD j 0).toNat, by omega⟩
              have hrowR : row < R := by omega
              have HRW := Lib.hid hrw
              clear hmem hr9 hrw
              have SOF0 : Hid (∀ w', Below wq.heap.size wq w' → w'.cell? ⟨w.heap.size, 0, none⟩ = some (.int .i64 R) ∧ w'.cell? ⟨w.heap.size, 1, none⟩ = some (.int .i64 C) ∧ w'.cell? ⟨w.heap.size, 2, none⟩ = some (.int .i64 wd) ∧ w'.cell? ⟨w.heap.size, 3, none⟩ = some (.slice (some ⟨b, off, none⟩) (R * C) cp) ∧ w'.cell? ⟨bl, ol + j, none⟩ = some (.int .i64 (row : Nat))) := fun w' hb =>
                ⟨(hMq.below hb).c0, (hMq.below hb).c1, (hMq.below hb).c2, (hMq.below hb).c3, by rw [← HRW.out]; exact later_read HRC.out (hbq.trans (hb.mono hbq.size)) j hjl⟩
              have SOF1 : Hid (∀ w', Below wq.heap.size wq w' → w'.cell? ⟨w.heap.size, 4, none⟩ = some (.int .i64 R) ∧ w'.cell? ⟨w.heap.size, 5, none⟩ = some (.int .i64 C2) ∧ w'.cell? ⟨w.heap.size, 6, none⟩ = some (.int .i64 wd) ∧ w'.cell? ⟨w.heap.size, 7, none⟩ = some (.slice (some ⟨b2, off2, none⟩) (R * C2) cp2) ∧ w'.cell? ⟨bl, ol + j, none⟩ = some (.int .i64 (row : Nat))) := fun w' hb =>
                ⟨(hMq.below hb).c4, (hMq.below hb).c5, (hMq.below hb).c6, (hMq.below hb).c7, by rw [← HRW.out]; exact later_read HRC.out (hbq.trans (hb.mono hbq.size)) j hjl⟩
              clear hjl
              obtain ⟨hO, hrow0, hrow1, hap, hsz, hbr⟩ := HP
              obtain ⟨ava, cva, rfl, _, _⟩ := own_form hrow0
              obtain ⟨avb, cvb, rfl, _, _⟩ := own_form hrow1
              have kc : j * C ≤ 20480000 := Nat.mul_le_mul (show j ≤ 5000 by omega) (show C ≤ 4096 by omega)
              have kc2 : j * C2 ≤ 20480000 := Nat.mul_le_mul (show j ≤ 5000 by omega) (show C2 ≤ 4096 by omega)
              have jb : (j : Int) < (k : Int) := by omega
              have fx3 := field3
              have q0 := hO.c0
              go_upto_region 17 with fail
              go_cut [99] from 82 to 115 (fun s99 wx => ∃ vA : Value, PickAt wx wq k C C2 wd xs ys rows (j + 1) j vA (.slice avb (j * C2) cvb))
              case first =>
                have hOd : SetAt wr.drew wq.heap.size k C wd (.slice ava (j * C) cva) k C2 wd (.slice avb (j * C2) cvb) := ⟨hO.block⟩
                have hd0 : wr.drew.ownsRow (wq.heap.size + 1) 3 1 (.slice ava (j * C) cva) (j * C) (cellsI (rowsI C xs (rows.take j))) := hrow0
                have hd1 : wr.drew.ownsRow (wq.heap.size + 1) 3 1 (.slice avb (j * C2) cvb) (j * C2) (cellsI (rowsI C2 ys (rows.take j))) := hrow1
                refine wp_region_held_drew (S := fun w' => w'.cell? ⟨w.heap.size, 0, none⟩ = some (.int .i64 R) ∧ w'.cell? ⟨w.heap.size, 1, none⟩ = some (.int .i64 C) ∧ w'.cell? ⟨w.heap.size, 2, none⟩ = some (.int .i64 wd) ∧ w'.cell? ⟨w.heap.size, 3, none⟩ = some (.slice (some ⟨b, off, none⟩) (R * C) cp) ∧ w'.cell? ⟨bl, ol + j, none⟩ = some (.int .i64 (row : Nat))) (by kernel_rfl) (SOF0.out _ hbr.drew) (fun hHeld => ?_)
                refine take_at 0 (some 88) (v := ?va1) rfl rfl (by kernel_rfl) (by kernel_rfl) (by kernel_rfl) (fun _ _ _ h => h) (by rfl) ?hy1 hHeld ?re1
                case hy1 =>
                  intro w9 hSw
                  go_simp
                  try with_reducible rfl
                simp only [Act.put, List.setIfInBounds_toArray, List.set_cons_zero, List.set_cons_succ]
                refine take_at 1 (some 89) (v := ?va2) rfl rfl (by kernel_rfl) (by kernel_rfl) (by kernel_rfl) (fun _ _ _ h => h) (by rfl) ?hy2 hHeld ?re2
                case hy2 =>
                  intro w9 hSw
                  go_simp
                  try with_reducible rfl
                simp only [Act.put, List.setIfInBounds_toArray, List.set_cons_zero, List.set_cons_succ]
                refine take_at 3 (some 91) (v := ?va3) rfl rfl (by kernel_rfl) (by kernel_rfl) (by kernel_rfl) (fun _ _ _ h => h) (by rfl) ?hy3 hHeld ?re3
                case hy3 =>
                  intro w9 hSw
                  go_simp
                  try with_reducible rfl
                simp only [Act.put, List.setIfInBounds_toArray, List.set_cons_zero, List.set_cons_succ]
                refine take_at 4 (some 92) (v := ?va4) rfl rfl (by kernel_rfl) (by kernel_rfl) (by kernel_rfl) (fun _ _ _ h => h) (by rfl) ?hy4 hHeld ?re4
                case hy4 =>
                  intro w9 hSw
                  go_simp
                  try with_reducible rfl
                simp only [Act.put, List.setIfInBounds_toArray, List.set_cons_zero, List.set_cons_succ]
                refine take_at 5 (some 93) (v := ?va5) rfl rfl (by kernel_rfl) (by kernel_rfl) (by kernel_rfl) (fun _ _ _ h => h) (by rfl) ?hy5 hHeld ?re5
                case hy5 =>
                  intro w9 hSw
                  go_simp
                  try with_reducible rfl
                simp only [Act.put, List.setIfInBounds_toArray, List.set_cons_zero, List.set_cons_succ]
                refine take_at 6 (some 94) (v := ?va6) rfl rfl (by kernel_rfl) (by kernel_rfl) (by kernel_rfl) (fun _ _ _ h => h) (by rfl) ?hy6 hHeld ?re6
                case hy6 =>
                  intro w9 hSw
                  go_simp
                  try with_reducible rfl
                simp only [Act.put, List.setIfInBounds_toArray, List.set_cons_zero, List.set_cons_succ]
                refine take_at 7 (some 95) (v := ?va7) rfl rfl (by kernel_rfl) (by kernel_rfl) (by kernel_rfl) (fun _ _ _ h => h) (by rfl) ?hy7 hHeld ?re7
                case hy7 =>
                  intro w9 hSw
                  go_simp
                  try with_reducible rfl
                simp only [Act.put, List.setIfInBounds_toArray, List.set_cons_zero, List.set_cons_succ]
                refine take_at 8 (some 96) (v := ?va8) rfl rfl (by kernel_rfl) (by kernel_rfl) (by kernel_rfl) (fun _ _ _ h => h) (by rfl) ?hy8 hHeld ?re8
                case hy8 =>
                  intro w9 hSw
                  go_simp
                  try with_reducible rfl
                simp only [Act.put, List.setIfInBounds_toArray, List.set_cons_zero, List.set_cons_succ]
                refine two_at 2 9 (some 90) (some 97) rfl rfl rfl rfl (by kernel_rfl) (by rfl) (by rfl) (fun K hK => ?_) (fun K hK => ?_)
                · have y2 := hO.c3
                  go_simp
                  refine hK.out _ _ hHeld ?_
                  simp only [Act.put, List.setIfInBounds_toArray, List.set_cons_zero, List.set_cons_succ]
                  clear hK K
                  refine alone_at 9 (some 97) rfl rfl (by kernel_rfl) (by rfl) (fun K hK => ?_)
                  go_simp
                  refine (refcut_any R C wd (.slice (some ⟨b, off, none⟩) (R * C) cp) xs row _ (HV.out.below (hbq.trans (hbr.drew.mono hbq.size))) HS.out.C0 hrowR HS.out.R1 HS.out.C1 HS.out.RC HS.out.l1).mono ?_
                  rintro e w3 ⟨v3, rfl, o3, hb3⟩
                  simp only [matV]
                  have hb4 := hbr.drew.trans (hb3.mono hbr.drew.size)
                  have hO4 : SetAt w3 wq.heap.size k C wd (.slice ava (j * C) cva) k C2 wd (.slice avb (j * C2) cvb) := hOd.below hb3
                  have h40 := own_below hd0 hb3 (Nat.le_refl _)
                  have h41 := own_below hd1 hb3 (Nat.le_refl _)
                  have hsz4 : wq.heap.size + 1 ≤ w3.heap.size := Nat.le_trans hsz hb3.size
                  obtain ⟨g3, c3, rfl, hc3⟩ := own_pos o3 HS.out.C0
                  refine hK.out _ _ (SOF0.out _ hb4) ?_
                  simp only [Act.put, List.setIfInBounds_toArray, List.set_cons_zero, List.set_cons_succ]
                  clear hHeld hK K
                  have hHeld := SOF0.out _ hb4
                  refine take_at 10 (some 98) (v := ?va9) rfl rfl (by kernel_rfl) (by kernel_rfl) (by kernel_rfl) (fun _ _ _ h => h) (by rfl) ?hy9 hHeld ?re9
                  case hy9 =>
                    intro w9 hSw
                    go_simp
                    try with_reducible rfl
                  simp only [Act.put, List.setIfInBounds_toArray, List.set_cons_zero, List.set_cons_succ]
                  refine alone_at 11 (some 99) rfl rfl (by kernel_rfl) (by rfl) (fun K hK => ?_)
                  refine wp_app (.tmp 90) (.tmp 98) 43 (by rfl) (base := wq.heap.size + 1) elem43 (v := (.slice ava (j * C) cva)) (n := j * C) (xs := cellsI (rowsI C xs (rows.take j))) (by rfl) h40 ⟨g3, 0, none⟩ C c3 (cellsI (rowI C xs row)) (by rfl) o3.1 (o3.cells (g := g3) rfl) (cellsI_one _) (by unfold maxLen; omega) (by omega) hsz4 ?_
                  intro v5 w5 hA5
                  obtain ⟨a5, c5, rfl, _, _⟩ := own_form hA5.own
                  have hb5 : Below wq.heap.size wq w5 := hb4.grown hA5.grown hb4.size (fun q hq => by have := (h40.lt q hq).1; omega)
                  refine hK.out _ _ (SOF0.out _ hb5) ?_
                  simp only [Act.put, List.setIfInBounds_toArray, List.set_cons_zero, List.set_cons_succ]
                  clear hHeld hK K
                  have hHeld := SOF0.out _ hb5
                  have hO5 := hO4.grown hA5.grown (fun e => by have := (h40.lt _ e.symm).1; omega)
                  have y5 := hO5.c3
                  have f5 := hO5.free 3
                  refine take_at 12 (some 100) (v := ?va10) rfl rfl (by kernel_rfl) (by kernel_rfl) (by kernel_rfl) (fun _ _ _ h => h) (by rfl) ?hy10 hHeld ?re10
                  case hy10 =>
                    intro w9 hSw
                    go_simp
                    try with_reducible rfl
                  simp only [Act.put, List.setIfInBounds_toArray, List.set_cons_zero, List.set_cons_succ]
                  refine take_at 13 (some 101) (v := ?va11) rfl rfl (by kernel_rfl) (by kernel_rfl) (by kernel_rfl) (fun _ _ _ h => h) (by rfl) ?hy11 hHeld ?re11
                  case hy11 =>
                    intro w9 hSw
                    go_simp
                    try with_reducible rfl
                  simp only [Act.put, List.setIfInBounds_toArray, List.set_cons_zero, List.set_cons_succ]
                  refine alone_at 14 none rfl rfl (by kernel_rfl) (by rfl) (fun K hK => ?_)
                  go_simp
                  have gs := grownBy_setCell w5 wq.heap.size 3 (.slice a5 (j * C + C) c5)
                  have hb6 : Below wq.heap.size wq (w5.setCell ⟨wq.heap.size, 3, none⟩ (.slice a5 (j * C + C) c5)) := hb5.grown gs hb5.size (fun q hq => by cases hq; omega)
                  refine hK.out undef _ (SOF0.out _ hb6) ?_
                  simp only [Act.put]
                  refine wpAnyH_done (by kernel_rfl) ?_ _
                  have hP9 := pick_step0 HJL.out HRW.out hO5 hA5 h41 hap hsz4 hb6
                  clear hK K y5 f5 gs hO5 hA5 hHeld y2
                  go_wp2_with fail
                  go_meet
                  exact ⟨_, hP9⟩
                · go_simp
                  refine (refcut_any R C wd (.slice (some ⟨b, off, none⟩) (R * C) cp) xs row _ (HV.out.below (hbq.trans (hbr.drew.mono hbq.size))) HS.out.C0 hrowR HS.out.R1 HS.out.C1 HS.out.RC HS.out.l1).mono ?_
                  rintro e w3 ⟨v3, rfl, o3, hb3⟩
                  simp only [matV]
                  have hb4 := hbr.drew.trans (hb3.mono hbr.drew.size)
                  have hO4 : SetAt w3 wq.heap.size k C wd (.slice ava (j * C) cva) k C2 wd (.slice avb (j * C2) cvb) := hOd.below hb3
                  have h40 := own_below hd0 hb3 (Nat.le_refl _)
                  have h41 := own_below hd1 hb3 (Nat.le_refl _)
                  have hsz4 : wq.heap.size + 1 ≤ w3.heap.size := Nat.le_trans hsz hb3.size
                  obtain ⟨g3, c3, rfl, hc3⟩ := own_pos o3 HS.out.C0
                  refine hK.out _ _ (SOF0.out _ hb4) ?_
                  simp only [Act.put, List.setIfInBounds_toArray, List.set_cons_zero, List.set_cons_succ]
                  clear hHeld hK K
                  have hHeld := SOF0.out _ hb4
                  refine take_at 10 (some 98) (v := ?va12) rfl rfl (by kernel_rfl) (by kernel_rfl) (by kernel_rfl) (fun _ _ _ h => h) (by rfl) ?hy12 hHeld ?re12
                  case hy12 =>
                    intro w9 hSw
                    go_simp
                    try with_reducible rfl
                  simp only [Act.put, List.setIfInBounds_toArray, List.set_cons_zero, List.set_cons_succ]
                  refine alone_at 2 (some 90) rfl rfl (by kernel_rfl) (by rfl) (fun K hK => ?_)
                  have y2 := hO4.c3
                  go_simp
                  refine hK.out _ _ hHeld ?_
                  simp only [Act.put, List.setIfInBounds_toArray, List.set_cons_zero, List.set_cons_succ]
                  clear hK K
                  refine alone_at 11 (some 99) rfl rfl (by kernel_rfl) (by rfl) (fun K hK => ?_)
                  refine wp_app (.tmp 90) (.tmp 98) 43 (by rfl) (base := wq.heap.size + 1) elem43 (v := (.slice ava (j * C) cva)) (n := j * C) (xs := cellsI (rowsI C xs (rows.take j))) (by rfl) h40 ⟨g3, 0, none⟩ C c3 (cellsI (rowI C xs row)) (by rfl) o3.1 (o3.cells (g := g3) rfl) (cellsI_one _) (by unfold maxLen; omega) (by omega) hsz4 ?_
                  intro v5 w5 hA5
                  obtain ⟨a5, c5, rfl, _, _⟩ := own_form hA5.own
                  have hb5 : Below wq.heap.size wq w5 := hb4.grown hA5.grown hb4.size (fun q hq => by have := (h40.lt q hq).1; omega)
                  refine hK.out _ _ (SOF0.out _ hb5) ?_
                  simp only [Act.put, List.setIfInBounds_toArray, List.set_cons_zero, List.set_cons_succ]
                  clear hHeld hK K
                  have hHeld := SOF0.out _ hb5
                  have hO5 := hO4.grown hA5.grown (fun e => by have := (h40.lt _ e.symm).1; omega)
                  have y5 := hO5.c3
                  have f5 := hO5.free 3
                  refine take_at 12 (some 100) (v := ?va13) rfl rfl (by kernel_rfl) (by kernel_rfl) (by kernel_rfl) (fun _ _ _ h => h) (by rfl) ?hy13 hHeld ?re13
                  case hy13 =>
                    intro w9 hSw
                    go_simp
                    try with_reducible rfl
                  simp only [Act.put, List.setIfInBounds_toArray, List.set_cons_zero, List.set_cons_succ]
                  refine take_at 13 (some 101) (v := ?va14) rfl rfl (by kernel_rfl) (by kernel_rfl) (by kernel_rfl) (fun _ _ _ h => h) (by rfl) ?hy14 hHeld ?re14
                  case hy14 =>
                    intro w9 hSw
                    go_simp
                    try with_reducible rfl
                  simp only [Act.put, List.setIfInBounds_toArray, List.set_cons_zero, List.set_cons_succ]
                  refine alone_at 14 none rfl rfl (by kernel_rfl) (by rfl) (fun K hK => ?_)
                  go_simp
                  have gs := grownBy_setCell w5 wq.heap.size 3 (.slice a5 (j * C + C) c5)
                  have hb6 : Below wq.heap.size wq (w5.setCell ⟨wq.heap.size, 3, none⟩ (.slice a5 (j * C + C) c5)) := hb5.grown gs hb5.size (fun q hq => by cases hq; omega)
                  refine hK.out undef _ (SOF0.out _ hb6) ?_
                  simp only [Act.put]
                  refine wpAnyH_done (by kernel_rfl) ?_ _
                  have hP9 := pick_step0 HJL.out HRW.out hO5 hA5 h41 hap hsz4 hb6
                  clear hK K y5 f5 gs hO5 hA5 hHeld y2
                  go_wp2_with fail
                  go_meet
                  exact ⟨_, hP9⟩
              case rest =>
                obtain ⟨vA, hO9, hrow09, hrow19, hap9, hsz9, hbr9⟩ := hcut
                clear hO hrow0 hrow1 hap hsz hbr q0
                obtain ⟨hO, hrow0, hrow1, hap, hsz, hbr⟩ : SetAt wc wq.heap.size k C wd vA k C2 wd (.slice avb (j * C2) cvb) ∧ wc.ownsRow (wq.heap.size + 1) 3 1 vA ((j + 1) * C) (cellsI (rowsI C xs (rows.take (j + 1)))) ∧ wc.ownsRow (wq.heap.size + 1) 3 1 (.slice avb (j * C2) cvb) (j * C2) (cellsI (rowsI C2 ys (rows.take j))) ∧ (vA.ownBlock = none ∨ vA.ownBlock ≠ (Value.slice avb (j * C2) cvb).ownBlock) ∧ wq.heap.size + 1 ≤ wc.heap.size ∧ Below wq.heap.size wq wc := ⟨hO9, hrow09, hrow19, hap9, hsz9, hbr9⟩
                clear hO9 hrow09 hrow19 hap9 hsz9 hbr9
                go_upto_region 18 with fail
                have hOd : SetAt wc.drew wq.heap.size k C wd vA k C2 wd (.slice avb (j * C2) cvb) := ⟨hO.block⟩
                have hd0 : wc.drew.ownsRow (wq.heap.size + 1) 3 1 vA ((j + 1) * C) (cellsI (rowsI C xs (rows.take (j + 1)))) := hrow0
                have hd1 : wc.drew.ownsRow (wq.heap.size + 1) 3 1 (.slice avb (j * C2) cvb) (j * C2) (cellsI (rowsI C2 ys (rows.take j))) := hrow1
                refine wp_region_held_drew (S := fun w' => w'.cell? ⟨w.heap.size, 4, none⟩ = some (.int .i64 R) ∧ w'.cell? ⟨w.heap.size, 5, none⟩ = some (.int .i64 C2) ∧ w'.cell? ⟨w.heap.size, 6, none⟩ = some (.int .i64 wd) ∧ w'.cell? ⟨w.heap.size, 7, none⟩ = some (.slice (some ⟨b2, off2, none⟩) (R * C2) cp2) ∧ w'.cell? ⟨bl, ol + j, none⟩ = some (.int .i64 (row : Nat))) (by kernel_rfl) (SOF1.out _ hbr.drew) (fun hHeld => ?_)
                refine take_at 0 (some 102) (v := ?va15) rfl rfl (by kernel_rfl) (by kernel_rfl) (by kernel_rfl) (fun _ _ _ h => h) (by rfl) ?hy15 hHeld ?re15
                case hy15 =>
                  intro w9 hSw
                  go_simp
                  try with_reducible rfl
                simp only [Act.put, List.setIfInBounds_toArray, List.set_cons_zero, List.set_cons_succ]
                refine take_at 1 (some 103) (v := ?va16) rfl rfl (by kernel_rfl) (by kernel_rfl) (by kernel_rfl) (fun _ _ _ h => h) (by rfl) ?hy16 hHeld ?re16
                case hy16 =>
                  intro w9 hSw
                  go_simp
                  try with_reducible rfl
                simp only [Act.put, List.setIfInBounds_toArray, List.set_cons_zero, List.set_cons_succ]
                refine take_at 3 (some 105) (v := ?va17) rfl rfl (by kernel_rfl) (by kernel_rfl) (by kernel_rfl) (fun _ _ _ h => h) (by rfl) ?hy17 hHeld ?re17
                case hy17 =>
                  intro w9 hSw
                  go_simp
                  try with_reducible rfl
                simp only [Act.put, List.setIfInBounds_toArray, List.set_cons_zero, List.set_cons_succ]
                refine take_at 4 (some 106) (v := ?va18) rfl rfl (by kernel_rfl) (by kernel_rfl) (by kernel_rfl) (fun _ _ _ h => h) (by rfl) ?hy18 hHeld ?re18
                case hy18 =>
                  intro w9 hSw
                  go_simp
                  try with_reducible rfl
                simp only [Act.put, List.setIfInBounds_toArray, List.set_cons_zero, List.set_cons_succ]
                refine take_at 5 (some 107) (v := ?va19) rfl rfl (by kernel_rfl) (by kernel_rfl) (by kernel_rfl) (fun _ _ _ h => h) (by rfl) ?hy19 hHeld ?re19
                case hy19 =>
                  intro w9 hSw
                  go_simp
                  try with_reducible rfl
                simp only [Act.put, List.setIfInBounds_toArray, List.set_cons_zero, List.set_cons_succ]
                refine take_at 6 (some 108) (v := ?va20) rfl rfl (by kernel_rfl) (by kernel_rfl) (by kernel_rfl) (fun _ _ _ h => h) (by rfl) ?hy20 hHeld ?re20
                case hy20 =>
                  intro w9 hSw
                  go_simp
                  try with_reducible rfl
                simp only [Act.put, List.setIfInBounds_toArray, List.set_cons_zero, List.set_cons_succ]
                refine take_at 7 (some 109) (v := ?va21) rfl rfl (by kernel_rfl) (by kernel_rfl) (by kernel_rfl) (fun _ _ _ h => h) (by rfl) ?hy21 hHeld ?re21
                case hy21 =>
                  intro w9 hSw
                  go_simp
                  try with_reducible rfl
                simp only [Act.put, List.setIfInBounds_toArray, List.set_cons_zero, List.set_cons_succ]
                refine take_at 8 (some 110) (v := ?va22) rfl rfl (by kernel_rfl) (by kernel_rfl) (by kernel_rfl) (fun _ _ _ h => h) (by rfl) ?hy22 hHeld ?re22
                case hy22 =>
                  intro w9 hSw
                  go_simp
                  try with_reducible rfl
                simp only [Act.put, List.setIfInBounds_toArray, List.set_cons_zero, List.set_cons_succ]
                refine two_at 2 9 (some 104) (some 111) rfl rfl rfl rfl (by kernel_rfl) (by rfl) (by rfl) (fun K hK => ?_) (fun K hK => ?_)
                · have y2 := hO.c7
                  go_simp
                  refine hK.out _ _ hHeld ?_
                  simp only [Act.put, List.setIfInBounds_toArray, List.set_cons_zero, List.set_cons_succ]
                  clear hK K
                  refine alone_at 9 (some 111) rfl rfl (by kernel_rfl) (by rfl) (fun K hK => ?_)
                  go_simp
                  refine (refcut_any R C2 wd (.slice (some ⟨b2, off2, none⟩) (R * C2) cp2) ys row _ (HV2.out.below (hbq.trans (hbr.drew.mono hbq.size))) HS.out.C20 hrowR HS.out.R1 HS.out.C21 HS.out.RC2 HS.out.l2).mono ?_
                  rintro e w3 ⟨v3, rfl, o3, hb3⟩
                  simp only [matV]
                  have hb4 := hbr.drew.trans (hb3.mono hbr.drew.size)
                  have hO4 : SetAt w3 wq.heap.size k C wd vA k C2 wd (.slice avb (j * C2) cvb) := hOd.below hb3
                  have h40 := own_below hd0 hb3 (Nat.le_refl _)
                  have h41 := own_below hd1 hb3 (Nat.le_refl _)
                  have hsz4 : wq.heap.size + 1 ≤ w3.heap.size := Nat.le_trans hsz hb3.size
                  obtain ⟨g3, c3, rfl, hc3⟩ := own_pos o3 HS.out.C20
                  refine hK.out _ _ (SOF1.out _ hb4) ?_
                  simp only [Act.put, List.setIfInBounds_toArray, List.set_cons_zero, List.set_cons_succ]
                  clear hHeld hK K
                  have hHeld := SOF1.out _ hb4
                  refine take_at 10 (some 112) (v := ?va23) rfl rfl (by kernel_rfl) (by kernel_rfl) (by kernel_rfl) (fun _ _ _ h => h) (by rfl) ?hy23 hHeld ?re23
                  case hy23 =>
                    intro w9 hSw
                    go_simp
                    try with_reducible rfl
                  simp only [Act.put, List.setIfInBounds_toArray, List.set_cons_zero, List.set_cons_succ]
                  refine alone_at 11 (some 113) rfl rfl (by kernel_rfl) (by rfl) (fun K hK => ?_)
                  refine wp_app (.tmp 104) (.tmp 112) 43 (by rfl) (base := wq.heap.size + 1) elem43 (v := (.slice avb (j * C2) cvb)) (n := j * C2) (xs := cellsI (rowsI C2 ys (rows.take j))) (by rfl) h41 ⟨g3, 0, none⟩ C2 c3 (cellsI (rowI C2 ys row)) (by rfl) o3.1 (o3.cells (g := g3) rfl) (cellsI_one _) (by unfold maxLen; omega) (by omega) hsz4 ?_
                  intro v5 w5 hA5
                  obtain ⟨a5, c5, rfl, _, _⟩ := own_form hA5.own
                  have hb5 : Below wq.heap.size wq w5 := hb4.grown hA5.grown hb4.size (fun q hq => by have := (h41.lt q hq).1; omega)
                  refine hK.out _ _ (SOF1.out _ hb5) ?_
                  simp only [Act.put, List.setIfInBounds_toArray, List.set_cons_zero, List.set_cons_succ]
                  clear hHeld hK K
                  have hHeld := SOF1.out _ hb5
                  have hO5 := hO4.grown hA5.grown (fun e => by have := (h41.lt _ e.symm).1; omega)
                  have y5 := hO5.c7
                  have f5 := hO5.free 7
                  refine take_at 12 (some 114) (v := ?va24) rfl rfl (by kernel_rfl) (by kernel_rfl) (by kernel_rfl) (fun _ _ _ h => h) (by rfl) ?hy24 hHeld ?re24
                  case hy24 =>
                    intro w9 hSw
                    go_simp
                    try with_reducible rfl
                  simp only [Act.put, List.setIfInBounds_toArray, List.set_cons_zero, List.set_cons_succ]
                  refine take_at 13 (some 115) (v := ?va25) rfl rfl (by kernel_rfl) (by kernel_rfl) (by kernel_rfl) (fun _ _ _ h => h) (by rfl) ?hy25 hHeld ?re25
                  case hy25 =>
                    intro w9 hSw
                    go_simp
                    try with_reducible rfl
                  simp only [Act.put, List.setIfInBounds_toArray, List.set_cons_zero, List.set_cons_succ]
                  refine alone_at 14 none rfl rfl (by kernel_rfl) (by rfl) (fun K hK => ?_)
                  go_simp
                  have gs := grownBy_setCell w5 wq.heap.size 7 (.slice a5 (j * C2 + C2) c5)
                  have hb6 : Below wq.heap.size wq (w5.setCell ⟨wq.heap.size, 7, none⟩ (.slice a5 (j * C2 + C2) c5)) := hb5.grown gs hb5.size (fun q hq => by cases hq; omega)
                  refine hK.out undef _ (SOF1.out _ hb6) ?_
                  simp only [Act.put]
                  refine wpAnyH_done (by kernel_rfl) ?_ _
                  have hP9 := pick_step1 HJL.out HRW.out hO5 hA5 h40 hap hsz4 hb6
                  clear hK K y5 f5 gs hO5 hA5 hHeld y2
                  simp only [Exit.then, Exit.inBlock]
                  go_wp2
                  go_roundw
                  case rel => exact ⟨j + 1, _, _, by omega, by go_num, hP9⟩
                  case measure => simp [intOf]; omega
                · go_simp
                  refine (refcut_any R C2 wd (.slice (some ⟨b2, off2, none⟩) (R * C2) cp2) ys row _ (HV2.out.below (hbq.trans (hbr.drew.mono hbq.size))) HS.out.C20 hrowR HS.out.R1 HS.out.C21 HS.out.RC2 HS.out.l2).mono ?_
                  rintro e w3 ⟨v3, rfl, o3, hb3⟩
                  simp only [matV]
                  have hb4 := hbr.drew.trans (hb3.mono hbr.drew.size)
                  have hO4 : SetAt w3 wq.heap.size k C wd vA k C2 wd (.slice avb (j * C2) cvb) := hOd.below hb3
                  have h40 := own_below hd0 hb3 (Nat.le_refl _)
                  have h41 := own_below hd1 hb3 (Nat.le_refl _)
                  have hsz4 : wq.heap.size + 1 ≤ w3.heap.size := Nat.le_trans hsz hb3.size
                  obtain ⟨g3, c3, rfl, hc3⟩ := own_pos o3 HS.out.C20
                  refine hK.out _ _ (SOF1.out _ hb4) ?_
                  simp only [Act.put, List.setIfInBounds_toArray, List.set_cons_zero, List.set_cons_succ]
                  clear hHeld hK K
                  have hHeld := SOF1.out _ hb4
                  refine take_at 10 (some 112) (v := ?va26) rfl rfl (by kernel_rfl) (by kernel_rfl) (by kernel_rfl) (fun _ _ _ h => h) (by rfl) ?hy26 hHeld ?re26
                  case hy26 =>
                    intro w9 hSw
                    go_simp
                    try with_reducible rfl
                  simp only [Act.put, List.setIfInBounds_toArray, List.set_cons_zero, List.set_cons_succ]
                  refine alone_at 2 (some 104) rfl rfl (by kernel_rfl) (by rfl) (fun K hK => ?_)
                  have y2 := hO4.c7
                  go_simp
                  refine hK.out _ _ hHeld ?_
                  simp only [Act.put, List.setIfInBounds_toArray, List.set_cons_zero, List.set_cons_succ]
                  clear hK K
                  refine alone_at 11 (some 113) rfl rfl (by kernel_rfl) (by rfl) (fun K hK => ?_)
                  refine wp_app (.tmp 104) (.tmp 112) 43 (by rfl) (base := wq.heap.size + 1) elem43 (v := (.slice avb (j * C2) cvb)) (n := j * C2) (xs := cellsI (rowsI C2 ys (rows.take j))) (by rfl) h41 ⟨g3, 0, none⟩ C2 c3 (cellsI (rowI C2 ys row)) (by rfl) o3.1 (o3.cells (g := g3) rfl) (cellsI_one _) (by unfold maxLen; omega) (by omega) hsz4 ?_
                  intro v5 w5 hA5
                  obtain ⟨a5, c5, rfl, _, _⟩ := own_form hA5.own
                  have hb5 : Below wq.heap.size wq w5 := hb4.grown hA5.grown hb4.size (fun q hq => by have := (h41.lt q hq).1; omega)
                  refine hK.out _ _ (SOF1.out _ hb5) ?_
                  simp only [Act.put, List.setIfInBounds_toArray, List.set_cons_zero, List.set_cons_succ]
                  clear hHeld hK K
                  have hHeld := SOF1.out _ hb5
                  have hO5 := hO4.grown hA5.grown (fun e => by have := (h41.lt _ e.symm).1; omega)
                  have y5 := hO5.c7
                  have f5 := hO5.free 7
                  refine take_at 12 (some 114) (v := ?va27) rfl rfl (by kernel_rfl) (by kernel_rfl) (by kernel_rfl) (fun _ _ _ h => h) (by rfl) ?hy27 hHeld ?re27
                  case hy27 =>
                    intro w9 hSw
                    go_simp
                    try with_reducible rfl
                  simp only [Act.put, List.setIfInBounds_toArray, List.set_cons_zero, List.set_cons_succ]
                  refine take_at 13 (some 115) (v := ?va28) rfl rfl (by kernel_rfl) (by kernel_rfl) (by kernel_rfl) (fun _ _ _ h => h) (by rfl) ?hy28 hHeld ?re28
                  case hy28 =>
                    intro w9 hSw
                    go_simp
                    try with_reducible rfl
                  simp only [Act.put, List.setIfInBounds_toArray, List.set_cons_zero, List.set_cons_succ]
                  refine alone_at 14 none rfl rfl (by kernel_rfl) (by rfl) (fun K hK => ?_)
                  go_simp
                  have gs := grownBy_setCell w5 wq.heap.size 7 (.slice a5 (j * C2 + C2) c5)
                  have hb6 : Below wq.heap.size wq (w5.setCell ⟨wq.heap.size, 7, none⟩ (.slice a5 (j * C2 + C2) c5)) := hb5.grown gs hb5.size (fun q hq => by cases hq; omega)
                  refine hK.out undef _ (SOF1.out _ hb6) ?_
                  simp only [Act.put]
                  refine wpAnyH_done (by kernel_rfl) ?_ _
                  have hP9 := pick_step1 HJL.out HRW.out hO5 hA5 h40 hap hsz4 hb6
                  clear hK K y5 f5 gs hO5 hA5 hHeld y2
                  simp only [Exit.then, Exit.inBlock]
                  go_wp2
                  go_roundw
                  case rel => exact ⟨j + 1, _, _, by omega, by go_num, hP9⟩
                  case measure => simp [intOf]; omega
            · obtain rfl : j = k := by omega
              obtain ⟨hO, hrow0, hrow1, hap, hsz, hbr⟩ := HP
              obtain ⟨ava, cva, rfl, _, _⟩ := own_form hrow0
              obtain ⟨avb, cvb, rfl, _, _⟩ := own_form hrow1
              have htake : rows.take j = rows := List.take_of_length_le (by rw [HRL.out]; exact Nat.le_refl _)
              rw [htake] at hrow0 hrow1
              have hl1 := rowsI_length C xs rows R HS.out.l1 (good_rows HG.out)
              have hl2 := rowsI_length C2 ys rows R HS.out.l2 (good_rows HG.out)
              rw [HRL.out] at hl1 hl2
              have HL1 := Lib.hid hl1
              have HL2 := Lib.hid hl2
              clear htake hl1 hl2
              have hZr := hZw.below hbr
              have hbz := hbq.trans (hbr.mono hbq.size)
              have o0 := hO.c0
              have x0 := hZr.c0
              have f0 := hZr.free 0
              have o1 := hO.c1
              have x1 := hZr.c1
              have f1 := hZr.free 1
              have o2 := hO.c2
              have x2 := hZr.c2
              have f2 := hZr.free 2
              have o3 := hO.c3
              have x3 := hZr.c3
              have f3 := hZr.free 3
              have o4 := hO.c4
              have x4 := hZr.c4
              have f4 := hZr.free 4
              have o5 := hO.c5
              have x5 := hZr.c5
              have f5 := hZr.free 5
              have o6 := hO.c6
              have x6 := hZr.c6
              have f6 := hZr.free 6
              have o7 := hO.c7
              have x7 := hZr.c7
              have f7 := hZr.free 7
              go_wp2
              obtain ⟨w7, hw7, hZ7, hg7⟩ := hZr.put8 j C wd (.slice ava (j * C) cva) j C2 wd (.slice avb (j * C2) cvb)
              rw [← hw7]
              clear hw7
              have z0 := hZ7.c0
              have z1 := hZ7.c1
              have z2 := hZ7.c2
              have z3 := hZ7.c3
              have z4 := hZ7.c4
              have z5 := hZ7.c5
              have z6 := hZ7.c6
              have z7 := hZ7.c7
              refine bodyPost_ret (by simp [results, Try.results28, go_sem, z0, z1, z2, z3, z4, z5, z6, z7]; try rfl) rfl ?_
              have s3 : w.heap.size + 2 ≤ wq.heap.size := HSq.out
              have o8 := row_kept hrow0 hg7 (by omega)
              have o9 := row_kept hrow1 hg7 (by omega)
              refine ⟨.slice ava (j * C) cva, .slice avb (j * C2) cvb, by rw [HA.out]; rfl, ?_, hbz.grown hg7 hbz.size (fun q hq => by cases hq; omega)⟩
              rw [HA.out]
              refine ⟨?_, ?_, hap⟩
              · dsimp only
                rw [HL1.out]
                exact own_mono o8 (by omega)
              · dsimp only
                rw [HL2.out]
                exact own_mono o9 (by omega)
end Go.Proofs.Ytdddbljkhhbdlaa
