/-
The contract of the document's own Check of a set.
-/
import Derived.Test.YtdddbljkhhbdlaaSetMath
import Derived.Test.YtdddbljkhhbdlaaDataCheck1
import Derived.Test.YtdddbljkhhbdlaaRefCheck
namespace Go.Proofs.Ytdddbljkhhbdlaa
open Go.RowKit

set_option maxRecDepth 100000 in
set_option maxHeartbeats 1000000 in
/-- Where it does not come to the rows. -/
theorem refdcheck_bad (r c wd : Int) (v : Value) (xs : List Int) (r2 c2 wd2 : Int) (v2 : Value) (ys : List Int) (w : World) (hv : ReadI w v xs) (hx : xs.length ≤ 100000000)
    (hv2 : ReadI w v2 ys) (hy : ys.length ≤ 100000000) (E1 E2 E : Int) (h1 : matE r c wd xs = E1) (h2 : matE r2 c2 wd2 ys = E2)
    (hE : ((E1 == 0) = false ∧ (E1 != 0) = true ∧ E = E1) ∨ ((E1 == 0) = true ∧ (E1 != 0) = false ∧ (E2 != 0) = true ∧ E = E2) ∨ ((E1 == 0) = true ∧ (E2 != 0) = false ∧ (wd != wd2) = true ∧ E = 3) ∨ ((E1 == 0) = true ∧ (E2 != 0) = false ∧ (wd != wd2) = false ∧ (r != r2) = true ∧ E = 4)) :
    Calls Try.prog 20 #[setV r c wd v r2 c2 wd2 v2] w fun e w' => e = .returned (.tuple #[.int .i64 0, .int .i64 E]) ∧ Below w.heap.size w w' := by
  have HV := Lib.hid hv
  have HV2 := Lib.hid hv2
  have H1 := Lib.hid h1
  have H2 := Lib.hid h2
  have HE := Lib.hid hE
  clear hE hv hv2 h1 h2
  unfold setV
  go_enter Try.func20, Try.ntmps20
  go_wp2_with fail
  obtain ⟨w1, hw1, hM, hb1, hs1⟩ := boxSet w r c wd v r2 c2 wd2 v2
  rw [← hw1]
  clear hw1 hs1
  have p0 := hM.c0
  have p1 := hM.c1
  have p2 := hM.c2
  have p3 := hM.c3
  refine (refcheck_any r c wd v xs w1 (HV.out.below hb1) hx).mono ?_
  rintro e w2 ⟨rfl, hb2⟩
  rw [H1.out]
  have hM2 := hM.below hb2
  have hbw := hb1.trans (hb2.mono hb1.size)
  clear hM hb1 hb2 p0 p1 p2 p3
  have p0 := hM2.c0
  have p2 := hM2.c2
  have p4 := hM2.c4
  have p5 := hM2.c5
  have p6 := hM2.c6
  have p7 := hM2.c7
  rcases HE.out with ⟨e1, e2, e3⟩ | ⟨e1, e2, e3, e4⟩ | ⟨e1, e2, e3, e4⟩ | ⟨e1, e2, e3, e4, e5⟩
  · have E3 := Lib.hid e3
    clear e3
    go_wp2
    go_ret2
    exact ⟨by rw [E3.out]; rfl, hbw⟩
  · have E4 := Lib.hid e4
    clear e4
    go_wp2_with fail
    refine (refcheck_any r2 c2 wd2 v2 ys w2 (HV2.out.below hbw) hy).mono ?_
    rintro e w3 ⟨rfl, hb3⟩
    rw [H2.out]
    go_wp2
    go_ret2
    exact ⟨by rw [E4.out]; rfl, hbw.trans (hb3.mono hbw.size)⟩
  · subst e4
    go_wp2_with fail
    refine (refcheck_any r2 c2 wd2 v2 ys w2 (HV2.out.below hbw) hy).mono ?_
    rintro e w3 ⟨rfl, hb3⟩
    rw [H2.out]
    have hM3 := hM2.below hb3
    clear p0 p2 p4 p5 p6 p7
    have p0 := hM3.c0
    have p2 := hM3.c2
    have p4 := hM3.c4
    have p6 := hM3.c6
    go_wp2
    go_ret2
    exact ⟨rfl, hbw.trans (hb3.mono hbw.size)⟩
  · subst e5
    go_wp2_with fail
    refine (refcheck_any r2 c2 wd2 v2 ys w2 (HV2.out.below hbw) hy).mono ?_
    rintro e w3 ⟨rfl, hb3⟩
    rw [H2.out]
    have hM3 := hM2.below hb3
    clear p0 p2 p4 p5 p6 p7
    have p0 := hM3.c0
    have p2 := hM3.c2
    have p4 := hM3.c4
    have p6 := hM3.c6
    go_wp2
    go_ret2
    exact ⟨rfl, hbw.trans (hb3.mono hbw.size)⟩

set_option maxRecDepth 100000 in
set_option maxHeartbeats 1000000 in
theorem refdcheck_rows (R C C2 : Nat) (wd : Int) (v : Value) (xs : List Int) (v2 : Value) (ys : List Int) (w : World) (hv : ReadI w v xs) (hv2 : ReadI w v2 ys)
    (h1 : matE R C wd xs = 0) (h2 : matE R C2 wd ys = 0) (hC0 : 0 < C) (hC20 : 0 < C2) (hR1 : R ≤ 4096) (hC1 : C ≤ 4096) (hC21 : C2 ≤ 4096) (hRC : R * C ≤ 4096) (hRC2 : R * C2 ≤ 4096) (hl : xs.length = R * C) (hl2 : ys.length = R * C2)
    (hok : ∀ x, x ∈ xs → okB wd x) (hok2 : ∀ x, x ∈ ys → okB wd x) :
    Calls Try.prog 20 #[setV R C wd v R C2 wd v2] w fun e w' => e = .returned (.tuple #[.int .i64 (rowsFrom (rowE wd C xs C2 ys) 0 R).1, .int .i64 (rowsFrom (rowE wd C xs C2 ys) 0 R).2]) ∧ Below w.heap.size w w' := by
  have HV := Lib.hid hv
  have HV2 := Lib.hid hv2
  have H1 := Lib.hid h1
  have H2 := Lib.hid h2
  have HL := Lib.hid hl
  have HL2 := Lib.hid hl2
  have HO := Lib.hid hok
  have HO2 := Lib.hid hok2
  clear hv hv2 h1 h2 hl hl2 hok hok2
  unfold setV
  go_enter Try.func20, Try.ntmps20
  go_wp2_with fail
  obtain ⟨w1, hw1, hM, hb1, hs1⟩ := boxSet w R C wd v R C2 wd v2
  rw [← hw1]
  clear hw1 hs1
  have p0 := hM.c0
  have p1 := hM.c1
  have p2 := hM.c2
  have p3 := hM.c3
  refine (refcheck_any R C wd v xs w1 (HV.out.below hb1) (by rw [HL.out]; omega)).mono ?_
  rintro e w2 ⟨rfl, hb2⟩
  rw [H1.out]
  have hM2 := hM.below hb2
  have hbw := hb1.trans (hb2.mono hb1.size)
  clear hM hb1 hb2 p0 p1 p2 p3
  have p4 := hM2.c4
  have p5 := hM2.c5
  have p6 := hM2.c6
  have p7 := hM2.c7
  go_wp2_with fail
  refine (refcheck_any R C2 wd v2 ys w2 (HV2.out.below hbw) (by rw [HL2.out]; omega)).mono ?_
  rintro e w3 ⟨rfl, hb3⟩
  rw [H2.out]
  have hM3 := hM2.below hb3
  have hb4 := hbw.trans (hb3.mono hbw.size)
  clear hM2 hbw hb3 p4 p5 p6 p7
  have p0 := hM3.c0
  have p2 := hM3.c2
  have p4 := hM3.c4
  have p6 := hM3.c6
  go_wp2_with fail
  clear p0 p2 p4 p6
  go_loopw [5, 6, 7] (fun i _ _ wr => ∃ k : Nat, k ≤ R ∧ i = .int .i64 k ∧ Below w3.heap.size w3 wr ∧ Hid (∀ j, j < k → rowE wd C xs C2 ys j = 0)) (fun i _ _ _ => R - (intOf i).toNat)
  case atStart => exact ⟨0, Nat.zero_le _, rfl, Below.refl _ _, fun j hj => absurd hj (Nat.not_lt_zero _)⟩
  case round =>
    obtain ⟨k, hk, rfl, hbr, HK⟩ := hrel
    have hMr := hM3.below hbr
    have hbwr : Below w.heap.size w wr := hb4.trans (hbr.mono hb4.size)
    by_cases hlt : k < R
    · have hr1 := mul_row (C := C) hlt
      have hr2 := mul_row (C := C2) hlt
      have p0 := hMr.c0
      have p1 := hMr.c1
      have p2 := hMr.c2
      have p3 := hMr.c3
      go_wp2_with fail
      refine (refcut_any R C wd v xs k wr (HV.out.below hbwr) hC0 hlt hR1 hC1 hRC HL.out).mono ?_
      rintro e w5 ⟨v5, rfl, hr5, hb5⟩
      simp only [matV]
      have hread := rowI_read hr5 (by rw [HL.out]; exact hr1)
      have hMs := hMr.below hb5
      have hbs := hbwr.trans (hb5.mono hbwr.size)
      have hbt := hbr.trans (hb5.mono hbr.size)
      clear hMr hbwr hbr hb5 p0 p1 p2 p3
      go_wp2_with fail
      refine (refstop_any 1 C wd v5 (rowI C xs k) w5 hread (by rw [rowI_length C xs k (by rw [HL.out]; exact hr1)]; omega) (fun x hx => HO.out x (rowI_mem hx))).mono ?_
      rintro e w6 ⟨rfl, hb6⟩
      have hMt := hMs.below hb6
      have hbu := hbs.trans (hb6.mono hbs.size)
      have hbv := hbt.trans (hb6.mono hbt.size)
      clear hMs hbs hbt hread hr5 hb6
      obtain ⟨i5, hi5⟩ : ∃ i5, i5 = (stopI wd (rowI C xs k)).1 := ⟨_, rfl⟩
      obtain ⟨s5, hs5⟩ : ∃ s5, s5 = (stopI wd (rowI C xs k)).2 := ⟨_, rfl⟩
      rw [← hs5, ← hi5]
      have HS5 := Lib.hid hs5
      clear hs5 hi5
      by_cases hz : s5 = 0
      · have z0 : (s5 == 0) = true := by simp [hz]
        have HZ := Lib.hid hz
        clear hz
        have p4 := hMt.c4
        have p5 := hMt.c5
        have p6 := hMt.c6
        have p7 := hMt.c7
        go_wp2_with fail
        refine (refcut_any R C2 wd v2 ys k w6 (HV2.out.below hbu) hC20 hlt hR1 hC21 hRC2 HL2.out).mono ?_
        rintro e w7 ⟨v7, rfl, hr7, hb7⟩
        simp only [matV]
        have hread := rowI_read hr7 (by rw [HL2.out]; exact hr2)
        have hMs := hMt.below hb7
        have hbs := hbu.trans (hb7.mono hbu.size)
        have hbt := hbv.trans (hb7.mono hbv.size)
        clear hMt hbu hbv hb7 p4 p5 p6 p7
        go_wp2_with fail
        refine (refstop_any 1 C2 wd v7 (rowI C2 ys k) w7 hread (by rw [rowI_length C2 ys k (by rw [HL2.out]; exact hr2)]; omega) (fun x hx => HO2.out x (rowI_mem hx))).mono ?_
        rintro e w8 ⟨rfl, hb8⟩
        have hMu := hMs.below hb8
        have hbu := hbs.trans (hb8.mono hbs.size)
        have hbv := hbt.trans (hb8.mono hbt.size)
        clear hMs hbs hbt hread hr7 hb8
        obtain ⟨i7, hi7⟩ : ∃ i7, i7 = (stopI wd (rowI C2 ys k)).1 := ⟨_, rfl⟩
        obtain ⟨s7, hs7⟩ : ∃ s7, s7 = (stopI wd (rowI C2 ys k)).2 := ⟨_, rfl⟩
        rw [← hs7, ← hi7]
        have HE : Hid (rowE wd C xs C2 ys k = s7) := by
          show _ = _
          unfold rowE
          rw [← HS5.out, HZ.out, if_neg (by simp), hs7]
        clear hs7 hi7
        by_cases hz7 : s7 = 0
        · have z7 : (s7 != 0) = false := by simp [hz7]
          have HZ7 := Lib.hid hz7
          clear hz7
          go_wp2
          go_roundw
          case rel =>
            refine ⟨k + 1, hlt, by go_num, hbv, fun j hj => ?_⟩
            by_cases ej : j = k
            · subst ej; rw [HE.out]; exact HZ7.out
            · exact HK.out j (by omega)
          case measure => simp [intOf]; omega
        · have z7 : (s7 != 0) = true := by simp [hz7]
          have HZ7 := Lib.hid hz7
          clear hz7
          go_wp2
          go_ret2
          have hfin := rowsFrom_first (rowE wd C xs C2 ys) R 0 k hlt (fun j hj => by rw [Nat.zero_add]; exact HK.out j hj) (by rw [Nat.zero_add, HE.out]; exact HZ7.out)
          rw [Nat.zero_add, HE.out] at hfin
          rw [hfin]
          exact ⟨rfl, hbu⟩
      · have z0 : (s5 == 0) = false := by simp [hz]
        have z1 : (s5 != 0) = true := by simp [hz]
        have HE : Hid (rowE wd C xs C2 ys k = s5) := by
          show _ = _
          unfold rowE
          rw [← HS5.out, if_pos hz]
        have HZ := Lib.hid hz
        clear hz
        go_wp2
        go_ret2
        have hfin := rowsFrom_first (rowE wd C xs C2 ys) R 0 k hlt (fun j hj => by rw [Nat.zero_add]; exact HK.out j hj) (by rw [Nat.zero_add, HE.out]; exact HZ.out)
        rw [Nat.zero_add, HE.out] at hfin
        rw [hfin]
        exact ⟨rfl, hbu⟩
    · obtain rfl : k = R := by omega
      have p0 := hMr.c0
      go_wp2
      go_ret2
      have hfin := rowsFrom_none (rowE wd C xs C2 ys) k 0 (fun j hj => by rw [Nat.zero_add]; exact HK.out j hj)
      rw [hfin]
      exact ⟨rfl, hbwr⟩

/-- data.Check and the document's own answer with dchkI wherever they answer in these five cases. -/
theorem dchk_cases {r c wd : Int} {v : Value} {xs : List Int} {r2 c2 wd2 : Int} {v2 : Value} {ys : List Int} {w : World} {f : FuncId} {K : World → Prop}
    (hx : matE r c wd xs ≠ 0 → Calls Try.prog f #[setV r c wd v r2 c2 wd2 v2] w fun e w' => e = .returned (.tuple #[.int .i64 0, .int .i64 (matE r c wd xs)]) ∧ K w')
    (hy : matE r c wd xs = 0 → matE r2 c2 wd2 ys ≠ 0 → Calls Try.prog f #[setV r c wd v r2 c2 wd2 v2] w fun e w' => e = .returned (.tuple #[.int .i64 0, .int .i64 (matE r2 c2 wd2 ys)]) ∧ K w')
    (hw : matE r c wd xs = 0 → matE r2 c2 wd2 ys = 0 → wd ≠ wd2 → Calls Try.prog f #[setV r c wd v r2 c2 wd2 v2] w fun e w' => e = .returned (.tuple #[.int .i64 0, .int .i64 3]) ∧ K w')
    (hr : matE r c wd xs = 0 → matE r2 c2 wd2 ys = 0 → wd = wd2 → r ≠ r2 → Calls Try.prog f #[setV r c wd v r2 c2 wd2 v2] w fun e w' => e = .returned (.tuple #[.int .i64 0, .int .i64 4]) ∧ K w')
    (hm : ∀ R C C2 : Nat, r = R → c = C → r2 = R → c2 = C2 → wd2 = wd → matE R C wd xs = 0 → matE R C2 wd ys = 0 → 0 < R → 0 < C → 0 < C2 → R ≤ 4096 → C ≤ 4096 → C2 ≤ 4096 → R * C ≤ 4096 → R * C2 ≤ 4096 → xs.length = R * C → ys.length = R * C2 →
      (wd = 32 ∨ wd = 64) → fitI wd xs = true → fitI wd ys = true →
      Calls Try.prog f #[setV R C wd v R C2 wd v2] w fun e w' => e = .returned (.tuple #[.int .i64 (rowsFrom (rowE wd C xs C2 ys) 0 R).1, .int .i64 (rowsFrom (rowE wd C xs C2 ys) 0 R).2]) ∧ K w') :
    Calls Try.prog f #[setV r c wd v r2 c2 wd2 v2] w fun e w' => e = .returned (.tuple #[.int .i64 (dchkI r c wd xs r2 c2 wd2 ys).1, .int .i64 (dchkI r c wd xs r2 c2 wd2 ys).2]) ∧ K w' := by
  by_cases h1 : matE r c wd xs = 0
  · by_cases h2 : matE r2 c2 wd2 ys = 0
    · by_cases h3 : wd = wd2
      · by_cases h4 : r = r2
        · obtain ⟨R, C, e1, e2, a1, a2, a3, a4, a5, a6, a7, a8⟩ := mat_nat h1
          obtain ⟨R', C2, e3, e4, b1, b2, b3, b4, b5, b6, b7, b8⟩ := mat_nat h2
          subst h3 h4
          have hR : R' = R := by omega
          subst hR
          subst e1 e2 e4
          have := hm R' C C2 rfl rfl rfl rfl rfl h1 h2 a1 a2 b2 a3 a4 b4 a5 b5 a6 b6 a7 a8 b8
          have e : dchkI R' C wd xs R' C2 wd ys = rowsFrom (rowE wd C xs C2 ys) 0 R' := by
            unfold dchkI
            rw [if_neg (by simp [h1]), if_neg (by simp [h2]), if_neg (by simp), if_neg (by simp)]
            simp
          rw [e]
          exact this
        · have e : dchkI r c wd xs r2 c2 wd2 ys = (0, 4) := by
            unfold dchkI
            rw [if_neg (by simp [h1]), if_neg (by simp [h2]), if_neg (by simp [h3]), if_pos h4]
          rw [e]
          exact hr h1 h2 h3 h4
      · have e : dchkI r c wd xs r2 c2 wd2 ys = (0, 3) := by
          unfold dchkI
          rw [if_neg (by simp [h1]), if_neg (by simp [h2]), if_pos h3]
        rw [e]
        exact hw h1 h2 h3
    · have e : dchkI r c wd xs r2 c2 wd2 ys = (0, matE r2 c2 wd2 ys) := by
        unfold dchkI
        rw [if_neg (by simp [h1]), if_pos h2]
      rw [e]
      exact hy h1 h2
  · have e : dchkI r c wd xs r2 c2 wd2 ys = (0, matE r c wd xs) := by
      unfold dchkI
      rw [if_pos h1]
    rw [e]
    exact hx h1

theorem refdcheck_any (r c wd : Int) (v : Value) (xs : List Int) (r2 c2 wd2 : Int) (v2 : Value) (ys : List Int) (w : World) (hv : ReadI w v xs) (hv2 : ReadI w v2 ys) (hx : xs.length ≤ 100000000) (hy : ys.length ≤ 100000000)
    (h64 : ∀ x, x ∈ xs → -9223372036854775808 ≤ x ∧ x ≤ 9223372036854775807) (h642 : ∀ x, x ∈ ys → -9223372036854775808 ≤ x ∧ x ≤ 9223372036854775807) :
    Calls Try.prog 20 #[setV r c wd v r2 c2 wd2 v2] w fun e w' => e = .returned (.tuple #[.int .i64 (dchkI r c wd xs r2 c2 wd2 ys).1, .int .i64 (dchkI r c wd xs r2 c2 wd2 ys).2]) ∧ Below w.heap.size w w' := by
  refine dchk_cases ?_ ?_ ?_ ?_ ?_
  · intro h1
    exact refdcheck_bad r c wd v xs r2 c2 wd2 v2 ys w hv hx hv2 hy _ _ _ rfl rfl (.inl ⟨by simp [h1], by simp [h1], rfl⟩)
  · intro h1 h2
    exact refdcheck_bad r c wd v xs r2 c2 wd2 v2 ys w hv hx hv2 hy _ _ _ rfl rfl (.inr (.inl ⟨by simp [h1], by simp [h1], by simp [h2], rfl⟩))
  · intro h1 h2 h3
    exact refdcheck_bad r c wd v xs r2 c2 wd2 v2 ys w hv hx hv2 hy _ _ _ rfl rfl (.inr (.inr (.inl ⟨by simp [h1], by simp [h2], by simp [h3], rfl⟩)))
  · intro h1 h2 h3 h4
    exact refdcheck_bad r c wd v xs r2 c2 wd2 v2 ys w hv hx hv2 hy _ _ _ rfl rfl (.inr (.inr (.inr ⟨by simp [h1], by simp [h2], by simp [h3], by simp [h4], rfl⟩)))
  · intro R C C2 e1 e2 e3 e4 e5 h1 h2 hR0 hC0 hC20 hR hC hC2 hRC hRC2 hl hl2 hw hf hf2
    exact refdcheck_rows R C C2 wd v xs v2 ys w hv hv2 h1 h2 hC0 hC20 hR hC hC2 hRC hRC2 hl hl2 (okB_of hw hf h64) (okB_of hw hf2 h642)
end Go.Proofs.Ytdddbljkhhbdlaa
