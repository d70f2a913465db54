/-
DataChecks: the walk of the law.
-/
import Derived.Test.YtdddbljkhhbdlaaDataCheck
import Derived.Test.YtdddbljkhhbdlaaStaysSet
import Derived.Test.YtdddbljkhhbdlaaAlive
namespace Go.Proofs.Ytdddbljkhhbdlaa
open Go.RowKit

theorem LentAt.read {w : World} {B : Nat} {v : Value} {xs : List Int} (h : LentAt w B v xs) : ReadI w v xs := by
  obtain ⟨g, cap, rfl, hr⟩ := h
  have hc : xs.length + 2 ≤ cap := by
    obtain ⟨g2, c2, e1, h2⟩ := own_pos hr (by omega)
    cases e1
    exact h2
  refine .inr ⟨g, 0, cap, rfl, by omega, fun j hj => ?_⟩
  rw [Nat.zero_add, own_cellI hr j (by omega)]
  congr 2
  rw [List.getD, List.getD, List.getElem?_append_left hj]
theorem ReadI.form {w : World} {v : Value} {xs : List Int} (h : ReadI w v xs) : ∃ a c, v = .slice a xs.length c := by
  rcases h with ⟨rfl, rfl⟩ | ⟨b, off, c, rfl, _⟩
  · exact ⟨_, _, rfl⟩
  · exact ⟨_, _, rfl⟩

set_option maxRecDepth 100000 in
set_option maxHeartbeats 2000000 in
theorem light_big (r c wd : Int) (a : Option Addr) (n cp : Nat) (r2 c2 wd2 : Int) (a2 : Option Addr) (n2 cp2 : Nat) (w : World) (h : n ≤ 1000000000000000) (h2 : n2 ≤ 1000000000000000) :
    Calls Try.prog 17 #[setV r c wd (.slice a n cp) r2 c2 wd2 (.slice a2 n2 cp2)] w fun e w' => e = .returned (.bool (decide ((n : Int) + (n2 : Int) ≤ 600))) ∧ Below w.heap.size w w' := by
  unfold setV
  go_enter Try.func17, Try.ntmps17
  go_wp2
  go_ret
  exact ⟨rfl, (Below.refl _ w).alloc (Nat.le_refl _) _⟩

set_option maxRecDepth 100000 in
set_option maxHeartbeats 1000000 in
theorem checks_heavy (r c wd : Int) (a : Option Addr) (n cp : Nat) (r2 c2 wd2 : Int) (a2 : Option Addr) (n2 cp2 : Nat) (w : World) (h : n ≤ 1000000000000000) (h2 : n2 ≤ 1000000000000000) (hl : ¬ (n : Int) + (n2 : Int) ≤ 600) :
    Calls Try.prog 5 #[setV r c wd (.slice a n cp) r2 c2 wd2 (.slice a2 n2 cp2)] w fun e w' => e = .returned (.bool true) ∧ Below w.heap.size w w' := by
  have hld : decide ((n : Int) + (n2 : Int) ≤ 600) = false := decide_eq_false hl
  have HL := Lib.hid hld
  clear hl hld
  unfold setV
  go_enter Try.func5, Try.ntmps5
  go_wp2_with fail
  obtain ⟨w1, hw1, hM, hb1, hs1⟩ := boxSet w r c wd (.slice a n cp) r2 c2 wd2 (.slice a2 n2 cp2)
  rw [← hw1]
  clear hw1 hs1
  refine (alive_any w1).mono ?_
  rintro e w2 ⟨rfl, hb2⟩
  have hM2 := hM.below hb2
  have hbA := hb1.trans (hb2.mono hb1.size)
  clear hM hb1 hb2
  have p0 := hM2.c0
  have p1 := hM2.c1
  have p2 := hM2.c2
  have p3 := hM2.c3
  have p4 := hM2.c4
  have p5 := hM2.c5
  have p6 := hM2.c6
  have p7 := hM2.c7
  go_wp2_with fail
  refine (light_big r c wd a n cp r2 c2 wd2 a2 n2 cp2 w2 h h2).mono ?_
  rintro e w3 ⟨rfl, hb3⟩
  rw [HL.out]
  have hbB := hbA.trans (hb3.mono hbA.size)
  clear hM2 hbA hb3 p0 p1 p2 p3 p4 p5 p6 p7
  go_wp2_with fail
  refine (alive_any w3).mono ?_
  rintro e w4 ⟨rfl, hb4⟩
  go_wp2
  go_ret
  exact ⟨rfl, hbB.trans (hb4.mono hbB.size)⟩

set_option maxRecDepth 100000 in
set_option maxHeartbeats 2000000 in
theorem checks_light (r c wd : Int) (v : Value) (xs : List Int) (r2 c2 wd2 : Int) (v2 : Value) (ys : List Int) (w : World) (hv : ReadI w v xs) (hv2 : ReadI w v2 ys) (hl : (xs.length : Int) + (ys.length : Int) ≤ 600)
    (h64 : ∀ x, x ∈ xs → -9223372036854775808 ≤ x ∧ x ≤ 9223372036854775807) (h642 : ∀ x, x ∈ ys → -9223372036854775808 ≤ x ∧ x ≤ 9223372036854775807) :
    Calls Try.prog 5 #[setV r c wd v r2 c2 wd2 v2] w fun e w' => e = .returned (.bool true) ∧ Below w.heap.size w w' := by
  obtain ⟨a, cp, rfl⟩ := hv.form
  obtain ⟨a2, cp2, rfl⟩ := hv2.form
  have hld : decide ((xs.length : Int) + (ys.length : Int) ≤ 600) = true := decide_eq_true hl
  have HL := Lib.hid hld
  obtain ⟨n, hn⟩ : ∃ n, n = xs.length := ⟨_, rfl⟩
  obtain ⟨n2, hn2⟩ : ∃ n2, n2 = ys.length := ⟨_, rfl⟩
  rw [← hn, ← hn2] at HL
  rw [← hn] at hv
  rw [← hn2] at hv2
  rw [← hn, ← hn2] at hl
  rw [← hn, ← hn2]
  have HN := Lib.hid hn
  have HN2 := Lib.hid hn2
  have HV := Lib.hid hv
  have HV2 := Lib.hid hv2
  have H64 := Lib.hid h64
  have H642 := Lib.hid h642
  clear hld hn hn2 hv hv2 h64 h642
  unfold setV
  go_enter Try.func5, Try.ntmps5
  go_wp2_with fail
  obtain ⟨w1, hw1, hM, hb1, hs1⟩ := boxSet w r c wd (.slice a n cp) r2 c2 wd2 (.slice a2 n2 cp2)
  rw [← hw1]
  clear hw1 hs1
  refine (alive_any w1).mono ?_
  rintro e w2 ⟨rfl, hb2⟩
  have hM2 := hM.below hb2
  have hbA := hb1.trans (hb2.mono hb1.size)
  clear hM hb1 hb2
  have p0 := hM2.c0
  have p1 := hM2.c1
  have p2 := hM2.c2
  have p3 := hM2.c3
  have p4 := hM2.c4
  have p5 := hM2.c5
  have p6 := hM2.c6
  have p7 := hM2.c7
  go_wp2_with fail
  refine (light_any r c wd a n cp r2 c2 wd2 a2 n2 cp2 w2 (by omega) (by omega)).mono ?_
  rintro e w3 ⟨rfl, hb3⟩
  rw [HL.out]
  have hM3 := hM2.below hb3
  have hbB := hbA.trans (hb3.mono hbA.size)
  clear hM2 hbA hb3 p0 p1 p2 p3 p4 p5 p6 p7
  have p0 := hM3.c0
  have p1 := hM3.c1
  have p2 := hM3.c2
  have p3 := hM3.c3
  have p4 := hM3.c4
  have p5 := hM3.c5
  have p6 := hM3.c6
  have p7 := hM3.c7
  go_wp2_with fail
  refine (lentSet_any r c wd (.slice a n cp) xs r2 c2 wd2 (.slice a2 n2 cp2) ys w3 (HV.out.below hbB) (by rw [← HN.out]; omega) (HV2.out.below hbB) (by rw [← HN2.out]; omega)).mono ?_
  rintro e w4 ⟨u, u2, rfl, hu, hu2, hb4⟩
  have hM4 := hM3.below hb4
  have hbC := hbB.trans (hb4.mono hbB.size)
  obtain ⟨b1, k1, rfl⟩ := hu.read.form
  obtain ⟨b2, k2, rfl⟩ := hu2.read.form
  have HU := Lib.hid hu
  have HU2 := Lib.hid hu2
  clear hM3 hbB hb4 p0 p1 p2 p3 p4 p5 p6 p7 hu hu2
  rw [← HN.out] at HU ⊢
  rw [← HN2.out] at HU2 ⊢
  simp only [setV]
  go_wp2_with fail
  obtain ⟨w5, hw5, hX, hb5, hs5⟩ := boxSet w4 r c wd (.slice b1 n k1) r2 c2 wd2 (.slice b2 n2 k2)
  rw [← hw5]
  clear hw5 hs5
  have hM5 := hM4.below hb5
  have hbD := hbC.trans (hb5.mono hbC.size)
  have HU5 : Hid (LentAt w5 w3.heap.size (.slice b1 n k1) xs) := LentAt.below HU.out hb5
  have HU25 : Hid (LentAt w5 w3.heap.size (.slice b2 n2 k2) ys) := LentAt.below HU2.out hb5
  clear hM4 hbC hb5 HU HU2
  refine (dcheck_any r c wd (.slice b1 n k1) xs r2 c2 wd2 (.slice b2 n2 k2) ys w5 HU5.out.read HU25.out.read (by rw [← HN.out]; omega) (by rw [← HN2.out]; omega) H64.out H642.out).mono ?_
  rintro e w6 ⟨rfl, hb6⟩
  obtain ⟨A, hA⟩ : ∃ A, A = (dchkI r c wd xs r2 c2 wd2 ys).1 := ⟨_, rfl⟩
  obtain ⟨E, hE⟩ : ∃ E, E = (dchkI r c wd xs r2 c2 wd2 ys).2 := ⟨_, rfl⟩
  rw [← hA, ← hE]
  have HA := Lib.hid hA
  have HE := Lib.hid hE
  clear hA hE
  have hM6 := hM5.below hb6
  have hX6 := hX.below hb6
  have hbE := hbD.trans (hb6.mono hbD.size)
  have HU6 : Hid (LentAt w6 w3.heap.size (.slice b1 n k1) xs) := LentAt.below HU5.out hb6
  have HU26 : Hid (LentAt w6 w3.heap.size (.slice b2 n2 k2) ys) := LentAt.below HU25.out hb6
  clear hM5 hX hbD hb6 HU5 HU25
  have p0 := hM6.c0
  have p1 := hM6.c1
  have p2 := hM6.c2
  have p3 := hM6.c3
  have p4 := hM6.c4
  have p5 := hM6.c5
  have p6 := hM6.c6
  have p7 := hM6.c7
  go_wp2_with fail
  refine (refdcheck_any r c wd (.slice a n cp) xs r2 c2 wd2 (.slice a2 n2 cp2) ys w6 (HV.out.below hbE) (HV2.out.below hbE) (by rw [← HN.out]; omega) (by rw [← HN2.out]; omega) H64.out H642.out).mono ?_
  rintro e w7 ⟨rfl, hb7⟩
  rw [← HA.out, ← HE.out]
  have hM7 := hM6.below hb7
  have hX7 := hX6.below hb7
  have hbF := hbE.trans (hb7.mono hbE.size)
  have HU7 : Hid (LentAt w7 w3.heap.size (.slice b1 n k1) xs) := LentAt.below HU6.out hb7
  have HU27 : Hid (LentAt w7 w3.heap.size (.slice b2 n2 k2) ys) := LentAt.below HU26.out hb7
  clear hM6 hX6 hbE hb7 HU6 HU26 p0 p1 p2 p3 p4 p5 p6 p7
  have p0 := hM7.c0
  have p1 := hM7.c1
  have p2 := hM7.c2
  have p3 := hM7.c3
  have p4 := hM7.c4
  have p5 := hM7.c5
  have p6 := hM7.c6
  have p7 := hM7.c7
  have o0 := hX7.c0
  have o1 := hX7.c1
  have o2 := hX7.c2
  have o3 := hX7.c3
  have o4 := hX7.c4
  have o5 := hX7.c5
  have o6 := hX7.c6
  have o7 := hX7.c7
  have eA : (A == A) = true := by simp
  have eE : (E == E) = true := by simp
  go_wp2_with fail
  refine (staysSet_any w3.heap.size r c wd (.slice b1 n k1) (.slice a n cp) xs r2 c2 wd2 (.slice b2 n2 k2) (.slice a2 n2 cp2) ys w7 HU7.out (HV.out.below hbF) HU27.out (HV2.out.below hbF) (by rw [← HN.out]; omega) (by rw [← HN2.out]; omega)).mono ?_
  rintro e w8 ⟨rfl, hb8⟩
  go_wp2
  go_ret
  exact ⟨rfl, hbF.trans (hb8.mono hbF.size)⟩

theorem checks_any (r c wd : Int) (v : Value) (xs : List Int) (r2 c2 wd2 : Int) (v2 : Value) (ys : List Int) (w : World) (hv : ReadI w v xs) (hv2 : ReadI w v2 ys) (hx : xs.length ≤ 1000000000000000) (hy : ys.length ≤ 1000000000000000)
    (h64 : ∀ x, x ∈ xs → -9223372036854775808 ≤ x ∧ x ≤ 9223372036854775807) (h642 : ∀ x, x ∈ ys → -9223372036854775808 ≤ x ∧ x ≤ 9223372036854775807) :
    Calls Try.prog 5 #[setV r c wd v r2 c2 wd2 v2] w fun e w' => e = .returned (.bool true) ∧ Below w.heap.size w w' := by
  by_cases hl : (xs.length : Int) + (ys.length : Int) ≤ 600
  · exact checks_light r c wd v xs r2 c2 wd2 v2 ys w hv hv2 hl h64 h642
  · obtain ⟨a, cp, rfl⟩ := hv.form
    obtain ⟨a2, cp2, rfl⟩ := hv2.form
    exact checks_heavy r c wd a xs.length cp r2 c2 wd2 a2 ys.length cp2 w (by omega) (by omega) hl
end Go.Proofs.Ytdddbljkhhbdlaa
