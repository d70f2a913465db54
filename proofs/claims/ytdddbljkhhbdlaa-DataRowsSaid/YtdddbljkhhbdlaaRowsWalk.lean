/-
DataRows: the walk of the law.
-/
import Derived.Test.YtdddbljkhhbdlaaRowsParts
import Derived.Deep.CutRange
namespace Go.Proofs.Ytdddbljkhhbdlaa
open Go.RowKit

set_option maxRecDepth 100000 in
set_option maxHeartbeats 1000000 in
theorem rows_heavy (r c wd : Int) (a : Option Addr) (n cp : Nat) (r2 c2 wd2 : Int) (a2 : Option Addr) (n2 cp2 : Nat) (al : Option Addr) (m cl : Nat) (w : World) (h : n ≤ 1000000000000000) (h2 : n2 ≤ 1000000000000000) (lb : Bool)
    (hl : decide ((n : Int) + (n2 : Int) ≤ 600) = lb) (hm : lb = false ∨ decide ((5000 : Int) < (m : Int)) = true) :
    Calls Try.prog 6 #[setV r c wd (.slice a n cp) r2 c2 wd2 (.slice a2 n2 cp2), .slice al m cl] w fun e w' => e = .returned (.bool true) ∧ Below w.heap.size w w' := by
  have HL := Lib.hid hl
  have HM := Lib.hid hm
  clear hl hm
  unfold setV
  go_enter Try.func6, Try.ntmps6
  go_wp2_with fail
  obtain ⟨w1, hw1, hM, hb1, hs1⟩ := boxSet w r c wd (.slice a n cp) r2 c2 wd2 (.slice a2 n2 cp2)
  rw [← hw1]
  clear hw1 hs1
  refine (alive_any w1).mono ?_
  rintro e w2 ⟨rfl, hb2⟩
  have hM2 := hM.below hb2
  have hbA := hb1.trans (hb2.mono hb1.size)
  clear hM hb1 hb2
  have p0 := hM2.c0
  have p1 := hM2.c1
  have p2 := hM2.c2
  have p3 := hM2.c3
  have p4 := hM2.c4
  have p5 := hM2.c5
  have p6 := hM2.c6
  have p7 := hM2.c7
  go_wp2_with fail
  refine (light_big r c wd a n cp r2 c2 wd2 a2 n2 cp2 w2 h h2).mono ?_
  rintro e w3 ⟨rfl, hb3⟩
  rw [HL.out]
  have hbB := hbA.trans (hb3.mono hbA.size)
  clear hM2 hbA hb3 p0 p1 p2 p3 p4 p5 p6 p7
  have HM2 := HM.out
  cases lb with
  | false =>
    go_wp2_with fail
    refine (alive_any w3).mono ?_
    rintro e w4 ⟨rfl, hb4⟩
    go_wp2
    go_ret
    exact ⟨rfl, hbB.trans (hb4.mono hbB.size)⟩
  | true =>
    have hm5 : decide ((5000 : Int) < (m : Int)) = true := by simpa using HM2
    clear HM2
    go_wp2_with fail
    refine (alive_any w3).mono ?_
    rintro e w4 ⟨rfl, hb4⟩
    go_wp2
    go_ret
    exact ⟨rfl, hbB.trans (hb4.mono hbB.size)⟩

/-- What the book holds after k lists. -/
structure RowsAt (w w5 : World) (B k : Nat) : Prop where
  book : ∃ V W X, BooksI w B B k V W X ∧ ∀ i, i < k → (X i).length ≤ 4096
  below : Below w5.heap.size w5 w
theorem rowsAt_start (w5 : World) (B : Nat) (hB : w5.heap.size = B) : RowsAt (w5.alloc (.cells (bookCells (.slice none 0 0) (.slice none 0 0) (.slice none 0 0) (.slice none 0 0)) 40)) w5 B 0 := by
  subst hB
  exact ⟨⟨fun _ => .slice none 0 0, fun _ => .slice none 0 0, fun _ => [], ⟨⟨.slice none 0 0, .slice none 0 0, ⟨heap_alloc_new w5 _⟩, World.ownsRow_nil _ _ _ _, World.ownsRow_nil _ _ _ _, .inl rfl⟩, ⟨fun _ hi => absurd hi (Nat.not_lt_zero _), fun _ _ hi => absurd hi (Nat.not_lt_zero _)⟩,
    ⟨fun _ hi => absurd hi (Nat.not_lt_zero _), fun _ _ hi => absurd hi (Nat.not_lt_zero _)⟩, Nat.le_refl _⟩, fun _ hi => absurd hi (Nat.not_lt_zero _)⟩, (Below.refl _ w5).alloc (Nat.le_refl _) _⟩
/-- A row has come, in two boxes. -/
def GotRow (w w0 : World) (A : MatI × MatI × Int) (s8 s9 s10 : Value) : Prop :=
  ∃ g8 g9 u u', s8 = .pointer (some ⟨g8, 0, none⟩) ∧ s9 = .pointer (some ⟨g9, 0, none⟩) ∧ s10 = .int .i64 A.2.2 ∧ MatAt w g8 A.1.r A.1.c A.1.w u ∧ MatAt w g9 A.2.1.r A.2.1.c A.2.1.w u' ∧ TwoM w w0.heap.size A.1 A.2.1 u u' ∧ Below w0.heap.size w0 w

/-- A list that has come since has no block of the book's lists. -/
theorem book_apart {w w' : World} {B bb n : Nat} {V W : Nat → Value} {X : Nat → List Int} (h : BooksI w B bb n V W X) {v : Value} {m : Nat} {xs : List Value} (hv : w'.ownsRow w.heap.size 3 1 v m xs) : ∀ i, i < n → (V i).ownBlock = none ∨ (V i).ownBlock ≠ v.ownBlock := by
  intro i hi
  obtain ⟨a, c, ha, hn, ho⟩ := own_form (h.lists.row i hi)
  rw [ha]
  cases a with
  | none => exact .inl rfl
  | some d =>
    obtain ⟨g, rfl, _, hg⟩ := ho d rfl
    right
    obtain ⟨a2, c2, ha2, hn2, ho2⟩ := own_form hv
    rw [ha2]
    cases a2 with
    | none => simp [Value.ownBlock]
    | some d2 =>
      obtain ⟨g2, rfl, hg2, _⟩ := ho2 d2 rfl
      simp only [Value.ownBlock, ne_eq, Option.some.injEq]
      omega

set_option maxRecDepth 100000 in
set_option maxHeartbeats 4000000 in
theorem rows_light (r c wd : Int) (v : Value) (xs : List Int) (r2 c2 wd2 : Int) (v2 : Value) (ys : List Int) (vl : Value) (rows : List Int) (w : World) (hv : ReadI w v xs) (hv2 : ReadI w v2 ys) (hvl : ReadI w vl rows) (hl : (xs.length : Int) + (ys.length : Int) ≤ 600) (hrl : rows.length ≤ 5000)
    (h64 : ∀ x, x ∈ xs → -9223372036854775808 ≤ x ∧ x ≤ 9223372036854775807) (h642 : ∀ x, x ∈ ys → -9223372036854775808 ≤ x ∧ x ≤ 9223372036854775807) :
    Calls Try.prog 6 #[setV r c wd v r2 c2 wd2 v2, vl] w fun e w' => e = .returned (.bool true) ∧ Below w.heap.size w w' := by
  obtain ⟨a, cp, rfl⟩ := hv.form
  obtain ⟨a2, cp2, rfl⟩ := hv2.form
  obtain ⟨al, cl, rfl⟩ := hvl.form
  have hld : decide ((xs.length : Int) + (ys.length : Int) ≤ 600) = true := decide_eq_true hl
  have HL := Lib.hid hld
  obtain ⟨n, hn⟩ : ∃ n, n = xs.length := ⟨_, rfl⟩
  obtain ⟨n2, hn2⟩ : ∃ n2, n2 = ys.length := ⟨_, rfl⟩
  obtain ⟨m, hm⟩ : ∃ m, m = rows.length := ⟨_, rfl⟩
  rw [← hn, ← hn2] at HL
  rw [← hn] at hv
  rw [← hn2] at hv2
  rw [← hm] at hvl hrl
  rw [← hn, ← hn2] at hl
  rw [← hn, ← hn2, ← hm]
  have HN := Lib.hid hn
  have HN2 := Lib.hid hn2
  have HM := Lib.hid hm
  have HV := Lib.hid hv
  have HV2 := Lib.hid hv2
  have HVL := Lib.hid hvl
  have H64 := Lib.hid h64
  have H642 := Lib.hid h642
  have hm5 : decide ((5000 : Int) < (m : Int)) = false := decide_eq_false (by omega)
  clear hld hn hn2 hm hv hv2 hvl h64 h642
  unfold setV
  go_enter Try.func6, Try.ntmps6
  go_wp2_with fail
  obtain ⟨w1, hw1, hM, hb1, hs1⟩ := boxSet w r c wd (.slice a n cp) r2 c2 wd2 (.slice a2 n2 cp2)
  rw [← hw1]
  clear hw1 hs1
  refine (alive_any w1).mono ?_
  rintro e w2 ⟨rfl, hb2⟩
  have hM2 := hM.below hb2
  have hbA := hb1.trans (hb2.mono hb1.size)
  clear hM hb1 hb2
  have p0 := hM2.c0
  have p1 := hM2.c1
  have p2 := hM2.c2
  have p3 := hM2.c3
  have p4 := hM2.c4
  have p5 := hM2.c5
  have p6 := hM2.c6
  have p7 := hM2.c7
  go_wp2_with fail
  refine (light_any r c wd a n cp r2 c2 wd2 a2 n2 cp2 w2 (by omega) (by omega)).mono ?_
  rintro e w3 ⟨rfl, hb3⟩
  rw [HL.out]
  have hM3 := hM2.below hb3
  have hbB := hbA.trans (hb3.mono hbA.size)
  clear hM2 hbA hb3 p0 p1 p2 p3 p4 p5 p6 p7
  have p0 := hM3.c0
  have p1 := hM3.c1
  have p2 := hM3.c2
  have p3 := hM3.c3
  have p4 := hM3.c4
  have p5 := hM3.c5
  have p6 := hM3.c6
  have p7 := hM3.c7
  go_wp2_with fail
  refine (lentSet_any r c wd (.slice a n cp) xs r2 c2 wd2 (.slice a2 n2 cp2) ys w3 (HV.out.below hbB) (by rw [← HN.out]; omega) (HV2.out.below hbB) (by rw [← HN2.out]; omega)).mono ?_
  rintro e w4 ⟨u, u2, rfl, hu, hu2, hb4⟩
  have hM4 := hM3.below hb4
  have hbC := hbB.trans (hb4.mono hbB.size)
  obtain ⟨b1, k1, rfl⟩ := hu.read.form
  obtain ⟨b2, k2, rfl⟩ := hu2.read.form
  have HU := Lib.hid hu
  have HU2 := Lib.hid hu2
  clear hM3 hbB hb4 p0 p1 p2 p3 p4 p5 p6 p7 hu hu2
  rw [← HN.out] at HU ⊢
  rw [← HN2.out] at HU2 ⊢
  simp only [setV]
  go_wp2_with fail
  obtain ⟨w5, hw5, hX, hb5, hs5⟩ := boxSet w4 r c wd (.slice b1 n k1) r2 c2 wd2 (.slice b2 n2 k2)
  rw [← hw5]
  have hM5 := hM4.below hb5
  have hbD := hbC.trans (hb5.mono hbC.size)
  have HU5 : Hid (LentAt w5 w3.heap.size (.slice b1 n k1) xs) := LentAt.below HU.out hb5
  have HU25 : Hid (LentAt w5 w3.heap.size (.slice b2 n2 k2) ys) := LentAt.below HU2.out hb5
  have HST : Hid (RowsAt (w5.alloc (.cells (bookCells (.slice none 0 0) (.slice none 0 0) (.slice none 0 0) (.slice none 0 0)) 40)) w5 (w4.heap.size + 1) 0) := rowsAt_start w5 _ hs5
  have HS5 := Lib.hid hs5
  clear hw5 hM4 hbC hb5 HU HU2 hs5
  go_loopw [7, 8, 9, 10, 11, 12, 13] (fun i _ _ _ _ _ _ wr => ∃ k : Nat, k ≤ m ∧ k ≤ 60 ∧ i = .int .i64 k ∧ RowsAt wr w5 (w4.heap.size + 1) (2 * k)) (fun i _ _ _ _ _ _ _ => 60 - (intOf i).toNat)
  case atStart => exact ⟨0, Nat.zero_le _, Nat.zero_le _, rfl, HST.out⟩
  case round =>
    obtain ⟨k, hkm, hk60, rfl, HR⟩ := hrel
    clear HST
    have hbr := HR.below
    by_cases hlt : k < m ∧ k < 60
    · obtain ⟨hlt, hlt2⟩ := hlt
      have hkl : k < rows.length := by rw [← HM.out]; exact hlt
      obtain ⟨bl, ol, rfl⟩ : ∃ bl ol, al = some ⟨bl, ol, none⟩ := by
        rcases HVL.out with ⟨h, h2⟩ | ⟨b, off, c0, h, _⟩
        · rw [h2] at hkl; simp at hkl
        · simp only [Value.slice.injEq] at h
          exact ⟨b, off, h.1⟩
      have HRC : Hid (∀ j, j < rows.length → w.cell? ⟨bl, ol + j, none⟩ = some (.int .i64 (rows.getD j 0))) := by
        rcases HVL.out with ⟨h, h2⟩ | ⟨b, off, c0, h, _, h3⟩
        · cases h
        · simp only [Value.slice.injEq, Option.some.injEq, Addr.mk.injEq] at h
          obtain ⟨⟨rfl, rfl, _⟩, _⟩ := h
          exact h3
      obtain ⟨y, hy⟩ : ∃ y, y = rows.getD k 0 := ⟨_, rfl⟩
      have HY := Lib.hid hy
      have e0 : wr.cell? ⟨bl, ol + k, none⟩ = some (.int .i64 y) := by rw [hy]; exact later_read HRC.out (hbD.trans (hbr.mono hbD.size)) k hkl
      obtain ⟨A, hA⟩ : ∃ A, A = rowAns r c wd xs r2 c2 wd2 ys y := ⟨_, rfl⟩
      have HA := Lib.hid hA
      have hXr := hX.below hbr
      have hMr := hM5.below hbr
      have HKL := Lib.hid hkl
      clear hkl hy hA
      have jb : (k : Int) < (m : Int) := by omega
      have jb2 : (k : Int) < 60 := by omega
      go_upto_region 8 with fail
      go_cut [8, 9, 10] from 37 to 87 (fun s8 s9 s10 wx => GotRow wx wr A s8 s9 s10)
      case first =>
        have KR8 : Hid (∀ W', Below wr.heap.size wr W' → Calls Try.prog 22 #[.agg #[.int .i64 r, .int .i64 c, .int .i64 wd, .slice b1 n k1, .int .i64 r2, .int .i64 c2, .int .i64 wd2, .slice b2 n2 k2], .int .i64 y] W' fun e w' => ∃ u u', e = .returned (.tuple #[matV A.1.r A.1.c A.1.w u, matV A.2.1.r A.2.1.c A.2.1.w u', .int .i64 A.2.2]) ∧ TwoM w' W'.heap.size A.1 A.2.1 u u' ∧ Below W'.heap.size W' w') := by
          intro W' hb'
          rw [HA.out]
          exact drow_any r c wd (.slice b1 n k1) xs r2 c2 wd2 (.slice b2 n2 k2) ys y W' (LentAt.below (LentAt.below HU5.out hbr) hb').read (LentAt.below (LentAt.below HU25.out hbr) hb').read (by rw [← HN.out]; omega) (by rw [← HN2.out]; omega) H64.out H642.out
        have SX8 : Hid (∀ w', Below wr.heap.size wr w' → w'.cell? ⟨w4.heap.size, 0, none⟩ = some (.int .i64 r) ∧ w'.cell? ⟨w4.heap.size, 1, none⟩ = some (.int .i64 c) ∧ w'.cell? ⟨w4.heap.size, 2, none⟩ = some (.int .i64 wd) ∧ w'.cell? ⟨w4.heap.size, 3, none⟩ = some (.slice b1 n k1) ∧ w'.cell? ⟨w4.heap.size, 4, none⟩ = some (.int .i64 r2) ∧ w'.cell? ⟨w4.heap.size, 5, none⟩ = some (.int .i64 c2) ∧ w'.cell? ⟨w4.heap.size, 6, none⟩ = some (.int .i64 wd2) ∧ w'.cell? ⟨w4.heap.size, 7, none⟩ = some (.slice b2 n2 k2) ∧ w'.cell? ⟨bl, ol + k, none⟩ = some (.int .i64 y)) := fun w' hb => ⟨(hXr.below hb).c0, (hXr.below hb).c1, (hXr.below hb).c2, (hXr.below hb).c3, (hXr.below hb).c4, (hXr.below hb).c5, (hXr.below hb).c6, (hXr.below hb).c7, by rw [HY.out]; exact later_read HRC.out ((hbD.trans (hbr.mono hbD.size)).trans (hb.mono (Nat.le_trans hbD.size hbr.size))) k HKL.out⟩
        refine wp_region_held_drew (S := fun w' => w'.cell? ⟨w4.heap.size, 0, none⟩ = some (.int .i64 r) ∧ w'.cell? ⟨w4.heap.size, 1, none⟩ = some (.int .i64 c) ∧ w'.cell? ⟨w4.heap.size, 2, none⟩ = some (.int .i64 wd) ∧ w'.cell? ⟨w4.heap.size, 3, none⟩ = some (.slice b1 n k1) ∧ w'.cell? ⟨w4.heap.size, 4, none⟩ = some (.int .i64 r2) ∧ w'.cell? ⟨w4.heap.size, 5, none⟩ = some (.int .i64 c2) ∧ w'.cell? ⟨w4.heap.size, 6, none⟩ = some (.int .i64 wd2) ∧ w'.cell? ⟨w4.heap.size, 7, none⟩ = some (.slice b2 n2 k2) ∧ w'.cell? ⟨bl, ol + k, none⟩ = some (.int .i64 y)) (by kernel_rfl) (SX8.out _ (Below.refl wr.heap.size wr).drew) (fun hHeld => ?_)
        refine take_at 0 (some 48) (v := ?va1) rfl rfl (by kernel_rfl) (by kernel_rfl) (by kernel_rfl) (fun _ _ _ h => h) (by rfl) ?hy1 hHeld ?re1
        case hy1 =>
          intro w9 hSw
          go_simp
          try with_reducible rfl
        simp only [Act.put, List.setIfInBounds_toArray, List.set_cons_zero, List.set_cons_succ]
        refine take_at 1 (some 49) (v := ?va2) rfl rfl (by kernel_rfl) (by kernel_rfl) (by kernel_rfl) (fun _ _ _ h => h) (by rfl) ?hy2 hHeld ?re2
        case hy2 =>
          intro w9 hSw
          go_simp
          try with_reducible rfl
        simp only [Act.put, List.setIfInBounds_toArray, List.set_cons_zero, List.set_cons_succ]
        refine take_at 2 (some 50) (v := ?va3) rfl rfl (by kernel_rfl) (by kernel_rfl) (by kernel_rfl) (fun _ _ _ h => h) (by rfl) ?hy3 hHeld ?re3
        case hy3 =>
          intro w9 hSw
          go_simp
          try with_reducible rfl
        simp only [Act.put, List.setIfInBounds_toArray, List.set_cons_zero, List.set_cons_succ]
        refine take_at 3 (some 51) (v := ?va4) rfl rfl (by kernel_rfl) (by kernel_rfl) (by kernel_rfl) (fun _ _ _ h => h) (by rfl) ?hy4 hHeld ?re4
        case hy4 =>
          intro w9 hSw
          go_simp
          try with_reducible rfl
        simp only [Act.put, List.setIfInBounds_toArray, List.set_cons_zero, List.set_cons_succ]
        refine take_at 4 (some 52) (v := ?va5) rfl rfl (by kernel_rfl) (by kernel_rfl) (by kernel_rfl) (fun _ _ _ h => h) (by rfl) ?hy5 hHeld ?re5
        case hy5 =>
          intro w9 hSw
          go_simp
          try with_reducible rfl
        simp only [Act.put, List.setIfInBounds_toArray, List.set_cons_zero, List.set_cons_succ]
        obtain ⟨v0, hv0, hbv0⟩ : ∃ v0, v0 = wr.drew ∧ Below wr.heap.size wr v0 := ⟨_, rfl, (Below.refl wr.heap.size wr).drew⟩
        rw [← hv0] at hHeld ⊢
        clear hv0
        refine three_at 5 10 11 (some 53) (some 8) (some 9) rfl rfl rfl rfl rfl rfl (by kernel_rfl) (by rfl) (by rfl) (by rfl) (fun K hK => ?_) (fun K hK => ?_) (fun K hK => ?_)
        · go_simp
          refine (KR8.out _ hbv0).mono ?_
          rintro e v0c ⟨u8, u9, rfl, hT, hsv0c⟩
          have hbv0c := hbv0.trans (hsv0c.mono hbv0.size)
          have hT := hT.mono hbv0.size
          obtain ⟨a8, c8, rfl, _, _⟩ := own_form hT.one
          obtain ⟨a9, c9, rfl, _, _⟩ := own_form hT.two
          simp only [matV]
          refine hK.out _ _ (SX8.out _ hbv0c) ?_
          simp only [Act.put, List.setIfInBounds_toArray, List.set_cons_zero, List.set_cons_succ]
          clear hK K hHeld
          have hHeld := SX8.out _ hbv0c
          refine take_at 6 (some 47) (v := ?va6) rfl rfl (by kernel_rfl) (by kernel_rfl) (by kernel_rfl) (fun _ _ _ h => h) (by rfl) ?hy6 hHeld ?re6
          case hy6 =>
            intro w9 hSw
            go_simp
            try with_reducible rfl
          simp only [Act.put, List.setIfInBounds_toArray, List.set_cons_zero, List.set_cons_succ]
          refine take_at 7 (some 54) (v := ?va7) rfl rfl (by kernel_rfl) (by kernel_rfl) (by kernel_rfl) (fun _ _ _ h => h) (by rfl) ?hy7 hHeld ?re7
          case hy7 =>
            intro w9 hSw
            go_simp
            try with_reducible rfl
          simp only [Act.put, List.setIfInBounds_toArray, List.set_cons_zero, List.set_cons_succ]
          refine take_at 8 (some 55) (v := ?va8) rfl rfl (by kernel_rfl) (by kernel_rfl) (by kernel_rfl) (fun _ _ _ h => h) (by rfl) ?hy8 hHeld ?re8
          case hy8 =>
            intro w9 hSw
            go_simp
            try with_reducible rfl
          simp only [Act.put, List.setIfInBounds_toArray, List.set_cons_zero, List.set_cons_succ]
          refine take_at 9 (some 56) (v := ?va9) rfl rfl (by kernel_rfl) (by kernel_rfl) (by kernel_rfl) (fun _ _ _ h => h) (by rfl) ?hy9 hHeld ?re9
          case hy9 =>
            intro w9 hSw
            go_simp
            try with_reducible rfl
          simp only [Act.put, List.setIfInBounds_toArray, List.set_cons_zero, List.set_cons_succ]
          refine two_at 10 11 (some 8) (some 9) rfl rfl rfl rfl (by kernel_rfl) (by rfl) (by rfl) (fun K hK => ?_) (fun K hK => ?_)
          · go_simp
            obtain ⟨v0c8, hv0c8, m8, hsv0c8, hzv0c8⟩ := boxM v0c 0 0 0 (.slice none 0 0)
            rw [← hv0c8]
            have hbv0c8 := hbv0c.trans (hsv0c8.mono hbv0c.size)
            have l8 : wr.heap.size ≤ v0c.heap.size := hbv0c.size
            have LT8 : Hid (v0c.heap.size < v0c8.heap.size) := by show _ < _; omega
            clear hzv0c8
            have hT := hT.below hsv0c8
            refine hK.out _ _ (SX8.out _ hbv0c8) ?_
            simp only [Act.put, List.setIfInBounds_toArray, List.set_cons_zero, List.set_cons_succ]
            clear hK K hHeld hv0c8
            have hHeld := SX8.out _ hbv0c8
            refine alone_at 11 (some 9) rfl rfl (by kernel_rfl) (by rfl) (fun K hK => ?_)
            go_simp
            obtain ⟨v0c89, hv0c89, m9, hsv0c89, hzv0c89⟩ := boxM v0c8 0 0 0 (.slice none 0 0)
            rw [← hv0c89]
            have hbv0c89 := hbv0c8.trans (hsv0c89.mono hbv0c8.size)
            have l9 : wr.heap.size ≤ v0c8.heap.size := hbv0c8.size
            have m8 := m8.below hsv0c89
            have h89 : v0c.heap.size ≠ v0c8.heap.size := by have := LT8.out; omega
            have LT8 : Hid (v0c.heap.size < v0c89.heap.size) := by show _ < _; have := LT8.out; omega
            have LT9 : Hid (v0c8.heap.size < v0c89.heap.size) := by show _ < _; omega
            clear hzv0c89
            have hT := hT.below hsv0c89
            refine hK.out _ _ (SX8.out _ hbv0c89) ?_
            simp only [Act.put, List.setIfInBounds_toArray, List.set_cons_zero, List.set_cons_succ]
            clear hK K hHeld hv0c89
            have hHeld := SX8.out _ hbv0c89
            have q0 := m8.c0
            have f0 := m8.free 0
            have q1 := m8.c1
            have f1 := m8.free 1
            have q2 := m8.c2
            have f2 := m8.free 2
            have q3 := m8.c3
            have f3 := m8.free 3
            refine alone_at 12 none rfl rfl (by kernel_rfl) (by rfl) (fun K hK => ?_)
            go_simp
            obtain ⟨t1, ht1, m8', gr8⟩ := m8.put4 A.1.r A.1.c A.1.w (.slice a8 A.1.bits.length c8)
            rw [← ht1]
            have hbt1 : Below wr.heap.size wr t1 := hbv0c89.grown gr8 hbv0c89.size (fun q hq => by rw [← Option.some.inj hq]; exact l8)
            have m9' := m9.grown gr8 (fun e => h89 (Option.some.inj e).symm)
            have hT1 := hT.grown m8 gr8
            clear q0 q1 q2 q3 f0 f1 f2 f3
            refine hK.out undef _ (SX8.out _ hbt1) ?_
            simp only [Act.put]
            clear hK K hHeld ht1
            have hHeld := SX8.out _ hbt1
            have q0 := m9'.c0
            have f0 := m9'.free 0
            have q1 := m9'.c1
            have f1 := m9'.free 1
            have q2 := m9'.c2
            have f2 := m9'.free 2
            have q3 := m9'.c3
            have f3 := m9'.free 3
            refine alone_at 13 none rfl rfl (by kernel_rfl) (by rfl) (fun K hK => ?_)
            go_simp
            obtain ⟨t2, ht2, m9'', gr9⟩ := m9'.put4 A.2.1.r A.2.1.c A.2.1.w (.slice a9 A.2.1.bits.length c9)
            rw [← ht2]
            have hbt2 : Below wr.heap.size wr t2 := hbt1.grown gr9 hbt1.size (fun q hq => by rw [← Option.some.inj hq]; exact l9)
            have m8'' := m8'.grown gr9 (fun e => h89 (Option.some.inj e))
            have hT2 := hT1.grown m9' gr9
            clear q0 q1 q2 q3 f0 f1 f2 f3
            refine hK.out undef _ (SX8.out _ hbt2) ?_
            simp only [Act.put]
            clear hK K hHeld ht2
            have hHeld := SX8.out _ hbt2
            refine take_at 14 (some 10) (v := ?va10) rfl rfl (by kernel_rfl) (by kernel_rfl) (by kernel_rfl) (fun _ _ _ h => h) (by rfl) ?hy10 hHeld ?re10
            case hy10 =>
              intro w9 hSw
              go_simp
              try with_reducible rfl
            simp only [Act.put, List.setIfInBounds_toArray, List.set_cons_zero, List.set_cons_succ]
            refine wpAnyH_done (by kernel_rfl) ?_ _
            go_wp2_with fail
            go_meet
            exact ⟨_, _, _, _, rfl, rfl, rfl, m8'', m9'', hT2, hbt2⟩
          · go_simp
            obtain ⟨v0c9, hv0c9, m9, hsv0c9, hzv0c9⟩ := boxM v0c 0 0 0 (.slice none 0 0)
            rw [← hv0c9]
            have hbv0c9 := hbv0c.trans (hsv0c9.mono hbv0c.size)
            have l9 : wr.heap.size ≤ v0c.heap.size := hbv0c.size
            have LT9 : Hid (v0c.heap.size < v0c9.heap.size) := by show _ < _; omega
            clear hzv0c9
            have hT := hT.below hsv0c9
            refine hK.out _ _ (SX8.out _ hbv0c9) ?_
            simp only [Act.put, List.setIfInBounds_toArray, List.set_cons_zero, List.set_cons_succ]
            clear hK K hHeld hv0c9
            have hHeld := SX8.out _ hbv0c9
            refine alone_at 10 (some 8) rfl rfl (by kernel_rfl) (by rfl) (fun K hK => ?_)
            go_simp
            obtain ⟨v0c98, hv0c98, m8, hsv0c98, hzv0c98⟩ := boxM v0c9 0 0 0 (.slice none 0 0)
            rw [← hv0c98]
            have hbv0c98 := hbv0c9.trans (hsv0c98.mono hbv0c9.size)
            have l8 : wr.heap.size ≤ v0c9.heap.size := hbv0c9.size
            have m9 := m9.below hsv0c98
            have h89 : v0c9.heap.size ≠ v0c.heap.size := by have := LT9.out; omega
            have LT9 : Hid (v0c.heap.size < v0c98.heap.size) := by show _ < _; have := LT9.out; omega
            have LT8 : Hid (v0c9.heap.size < v0c98.heap.size) := by show _ < _; omega
            clear hzv0c98
            have hT := hT.below hsv0c98
            refine hK.out _ _ (SX8.out _ hbv0c98) ?_
            simp only [Act.put, List.setIfInBounds_toArray, List.set_cons_zero, List.set_cons_succ]
            clear hK K hHeld hv0c98
            have hHeld := SX8.out _ hbv0c98
            have q0 := m8.c0
            have f0 := m8.free 0
            have q1 := m8.c1
            have f1 := m8.free 1
            have q2 := m8.c2
            have f2 := m8.free 2
            have q3 := m8.c3
            have f3 := m8.free 3
            refine alone_at 12 none rfl rfl (by kernel_rfl) (by rfl) (fun K hK => ?_)
            go_simp
            obtain ⟨t1, ht1, m8', gr8⟩ := m8.put4 A.1.r A.1.c A.1.w (.slice a8 A.1.bits.length c8)
            rw [← ht1]
            have hbt1 : Below wr.heap.size wr t1 := hbv0c98.grown gr8 hbv0c98.size (fun q hq => by rw [← Option.some.inj hq]; exact l8)
            have m9' := m9.grown gr8 (fun e => h89 (Option.some.inj e).symm)
            have hT1 := hT.grown m8 gr8
            clear q0 q1 q2 q3 f0 f1 f2 f3
            refine hK.out undef _ (SX8.out _ hbt1) ?_
            simp only [Act.put]
            clear hK K hHeld ht1
            have hHeld := SX8.out _ hbt1
            have q0 := m9'.c0
            have f0 := m9'.free 0
            have q1 := m9'.c1
            have f1 := m9'.free 1
            have q2 := m9'.c2
            have f2 := m9'.free 2
            have q3 := m9'.c3
            have f3 := m9'.free 3
            refine alone_at 13 none rfl rfl (by kernel_rfl) (by rfl) (fun K hK => ?_)
            go_simp
            obtain ⟨t2, ht2, m9'', gr9⟩ := m9'.put4 A.2.1.r A.2.1.c A.2.1.w (.slice a9 A.2.1.bits.length c9)
            rw [← ht2]
            have hbt2 : Below wr.heap.size wr t2 := hbt1.grown gr9 hbt1.size (fun q hq => by rw [← Option.some.inj hq]; exact l9)
            have m8'' := m8'.grown gr9 (fun e => h89 (Option.some.inj e))
            have hT2 := hT1.grown m9' gr9
            clear q0 q1 q2 q3 f0 f1 f2 f3
            refine hK.out undef _ (SX8.out _ hbt2) ?_
            simp only [Act.put]
            clear hK K hHeld ht2
            have hHeld := SX8.out _ hbt2
            refine take_at 14 (some 10) (v := ?va11) rfl rfl (by kernel_rfl) (by kernel_rfl) (by kernel_rfl) (fun _ _ _ h => h) (by rfl) ?hy11 hHeld ?re11
            case hy11 =>
              intro w9 hSw
              go_simp
              try with_reducible rfl
            simp only [Act.put, List.setIfInBounds_toArray, List.set_cons_zero, List.set_cons_succ]
            refine wpAnyH_done (by kernel_rfl) ?_ _
            go_wp2_with fail
            go_meet
            exact ⟨_, _, _, _, rfl, rfl, rfl, m8'', m9'', hT2, hbt2⟩
        · go_simp
          obtain ⟨v08, hv08, m8, hsv08, hzv08⟩ := boxM v0 0 0 0 (.slice none 0 0)
          rw [← hv08]
          have hbv08 := hbv0.trans (hsv08.mono hbv0.size)
          have l8 : wr.heap.size ≤ v0.heap.size := hbv0.size
          have LT8 : Hid (v0.heap.size < v08.heap.size) := by show _ < _; omega
          clear hzv08
          refine hK.out _ _ (SX8.out _ hbv08) ?_
          simp only [Act.put, List.setIfInBounds_toArray, List.set_cons_zero, List.set_cons_succ]
          clear hK K hHeld hv08
          have hHeld := SX8.out _ hbv08
          refine two_at 5 11 (some 53) (some 9) rfl rfl rfl rfl (by kernel_rfl) (by rfl) (by rfl) (fun K hK => ?_) (fun K hK => ?_)
          · go_simp
            refine (KR8.out _ hbv08).mono ?_
            rintro e v08c ⟨u8, u9, rfl, hT, hsv08c⟩
            have hbv08c := hbv08.trans (hsv08c.mono hbv08.size)
            have hT := hT.mono hbv08.size
            obtain ⟨a8, c8, rfl, _, _⟩ := own_form hT.one
            obtain ⟨a9, c9, rfl, _, _⟩ := own_form hT.two
            have m8 := m8.below hsv08c
            have LT8 : Hid (v0.heap.size < v08c.heap.size) := by show _ < _; have := LT8.out; have := hsv08c.size; omega
            simp only [matV]
            refine hK.out _ _ (SX8.out _ hbv08c) ?_
            simp only [Act.put, List.setIfInBounds_toArray, List.set_cons_zero, List.set_cons_succ]
            clear hK K hHeld
            have hHeld := SX8.out _ hbv08c
            refine take_at 6 (some 47) (v := ?va12) rfl rfl (by kernel_rfl) (by kernel_rfl) (by kernel_rfl) (fun _ _ _ h => h) (by rfl) ?hy12 hHeld ?re12
            case hy12 =>
              intro w9 hSw
              go_simp
              try with_reducible rfl
            simp only [Act.put, List.setIfInBounds_toArray, List.set_cons_zero, List.set_cons_succ]
            refine take_at 7 (some 54) (v := ?va13) rfl rfl (by kernel_rfl) (by kernel_rfl) (by kernel_rfl) (fun _ _ _ h => h) (by rfl) ?hy13 hHeld ?re13
            case hy13 =>
              intro w9 hSw
              go_simp
              try with_reducible rfl
            simp only [Act.put, List.setIfInBounds_toArray, List.set_cons_zero, List.set_cons_succ]
            refine take_at 8 (some 55) (v := ?va14) rfl rfl (by kernel_rfl) (by kernel_rfl) (by kernel_rfl) (fun _ _ _ h => h) (by rfl) ?hy14 hHeld ?re14
            case hy14 =>
              intro w9 hSw
              go_simp
              try with_reducible rfl
            simp only [Act.put, List.setIfInBounds_toArray, List.set_cons_zero, List.set_cons_succ]
            refine take_at 9 (some 56) (v := ?va15) rfl rfl (by kernel_rfl) (by kernel_rfl) (by kernel_rfl) (fun _ _ _ h => h) (by rfl) ?hy15 hHeld ?re15
            case hy15 =>
              intro w9 hSw
              go_simp
              try with_reducible rfl
            simp only [Act.put, List.setIfInBounds_toArray, List.set_cons_zero, List.set_cons_succ]
            refine alone_at 11 (some 9) rfl rfl (by kernel_rfl) (by rfl) (fun K hK => ?_)
            go_simp
            obtain ⟨v08c9, hv08c9, m9, hsv08c9, hzv08c9⟩ := boxM v08c 0 0 0 (.slice none 0 0)
            rw [← hv08c9]
            have hbv08c9 := hbv08c.trans (hsv08c9.mono hbv08c.size)
            have l9 : wr.heap.size ≤ v08c.heap.size := hbv08c.size
            have m8 := m8.below hsv08c9
            have h89 : v0.heap.size ≠ v08c.heap.size := by have := LT8.out; omega
            have LT8 : Hid (v0.heap.size < v08c9.heap.size) := by show _ < _; have := LT8.out; omega
            have LT9 : Hid (v08c.heap.size < v08c9.heap.size) := by show _ < _; omega
            clear hzv08c9
            have hT := hT.below hsv08c9
            refine hK.out _ _ (SX8.out _ hbv08c9) ?_
            simp only [Act.put, List.setIfInBounds_toArray, List.set_cons_zero, List.set_cons_succ]
            clear hK K hHeld hv08c9
            have hHeld := SX8.out _ hbv08c9
            have q0 := m8.c0
            have f0 := m8.free 0
            have q1 := m8.c1
            have f1 := m8.free 1
            have q2 := m8.c2
            have f2 := m8.free 2
            have q3 := m8.c3
            have f3 := m8.free 3
            refine alone_at 12 none rfl rfl (by kernel_rfl) (by rfl) (fun K hK => ?_)
            go_simp
            obtain ⟨t1, ht1, m8', gr8⟩ := m8.put4 A.1.r A.1.c A.1.w (.slice a8 A.1.bits.length c8)
            rw [← ht1]
            have hbt1 : Below wr.heap.size wr t1 := hbv08c9.grown gr8 hbv08c9.size (fun q hq => by rw [← Option.some.inj hq]; exact l8)
            have m9' := m9.grown gr8 (fun e => h89 (Option.some.inj e).symm)
            have hT1 := hT.grown m8 gr8
            clear q0 q1 q2 q3 f0 f1 f2 f3
            refine hK.out undef _ (SX8.out _ hbt1) ?_
            simp only [Act.put]
            clear hK K hHeld ht1
            have hHeld := SX8.out _ hbt1
            have q0 := m9'.c0
            have f0 := m9'.free 0
            have q1 := m9'.c1
            have f1 := m9'.free 1
            have q2 := m9'.c2
            have f2 := m9'.free 2
            have q3 := m9'.c3
            have f3 := m9'.free 3
            refine alone_at 13 none rfl rfl (by kernel_rfl) (by rfl) (fun K hK => ?_)
            go_simp
            obtain ⟨t2, ht2, m9'', gr9⟩ := m9'.put4 A.2.1.r A.2.1.c A.2.1.w (.slice a9 A.2.1.bits.length c9)
            rw [← ht2]
            have hbt2 : Below wr.heap.size wr t2 := hbt1.grown gr9 hbt1.size (fun q hq => by rw [← Option.some.inj hq]; exact l9)
            have m8'' := m8'.grown gr9 (fun e => h89 (Option.some.inj e))
            have hT2 := hT1.grown m9' gr9
            clear q0 q1 q2 q3 f0 f1 f2 f3
            refine hK.out undef _ (SX8.out _ hbt2) ?_
            simp only [Act.put]
            clear hK K hHeld ht2
            have hHeld := SX8.out _ hbt2
            refine take_at 14 (some 10) (v := ?va16) rfl rfl (by kernel_rfl) (by kernel_rfl) (by kernel_rfl) (fun _ _ _ h => h) (by rfl) ?hy16 hHeld ?re16
            case hy16 =>
              intro w9 hSw
              go_simp
              try with_reducible rfl
            simp only [Act.put, List.setIfInBounds_toArray, List.set_cons_zero, List.set_cons_succ]
            refine wpAnyH_done (by kernel_rfl) ?_ _
            go_wp2_with fail
            go_meet
            exact ⟨_, _, _, _, rfl, rfl, rfl, m8'', m9'', hT2, hbt2⟩
          · go_simp
            obtain ⟨v089, hv089, m9, hsv089, hzv089⟩ := boxM v08 0 0 0 (.slice none 0 0)
            rw [← hv089]
            have hbv089 := hbv08.trans (hsv089.mono hbv08.size)
            have l9 : wr.heap.size ≤ v08.heap.size := hbv08.size
            have m8 := m8.below hsv089
            have h89 : v0.heap.size ≠ v08.heap.size := by have := LT8.out; omega
            have LT8 : Hid (v0.heap.size < v089.heap.size) := by show _ < _; have := LT8.out; omega
            have LT9 : Hid (v08.heap.size < v089.heap.size) := by show _ < _; omega
            clear hzv089
            refine hK.out _ _ (SX8.out _ hbv089) ?_
            simp only [Act.put, List.setIfInBounds_toArray, List.set_cons_zero, List.set_cons_succ]
            clear hK K hHeld hv089
            have hHeld := SX8.out _ hbv089
            refine alone_at 5 (some 53) rfl rfl (by kernel_rfl) (by rfl) (fun K hK => ?_)
            go_simp
            refine (KR8.out _ hbv089).mono ?_
            rintro e v089c ⟨u8, u9, rfl, hT, hsv089c⟩
            have hbv089c := hbv089.trans (hsv089c.mono hbv089.size)
            have hT := hT.mono hbv089.size
            obtain ⟨a8, c8, rfl, _, _⟩ := own_form hT.one
            obtain ⟨a9, c9, rfl, _, _⟩ := own_form hT.two
            have m8 := m8.below hsv089c
            have LT8 : Hid (v0.heap.size < v089c.heap.size) := by show _ < _; have := LT8.out; have := hsv089c.size; omega
            have m9 := m9.below hsv089c
            have LT9 : Hid (v08.heap.size < v089c.heap.size) := by show _ < _; have := LT9.out; have := hsv089c.size; omega
            simp only [matV]
            refine hK.out _ _ (SX8.out _ hbv089c) ?_
            simp only [Act.put, List.setIfInBounds_toArray, List.set_cons_zero, List.set_cons_succ]
            clear hK K hHeld
            have hHeld := SX8.out _ hbv089c
            refine take_at 6 (some 47) (v := ?va17) rfl rfl (by kernel_rfl) (by kernel_rfl) (by kernel_rfl) (fun _ _ _ h => h) (by rfl) ?hy17 hHeld ?re17
            case hy17 =>
              intro w9 hSw
              go_simp
              try with_reducible rfl
            simp only [Act.put, List.setIfInBounds_toArray, List.set_cons_zero, List.set_cons_succ]
            refine take_at 7 (some 54) (v := ?va18) rfl rfl (by kernel_rfl) (by kernel_rfl) (by kernel_rfl) (fun _ _ _ h => h) (by rfl) ?hy18 hHeld ?re18
            case hy18 =>
              intro w9 hSw
              go_simp
              try with_reducible rfl
            simp only [Act.put, List.setIfInBounds_toArray, List.set_cons_zero, List.set_cons_succ]
            refine take_at 8 (some 55) (v := ?va19) rfl rfl (by kernel_rfl) (by kernel_rfl) (by kernel_rfl) (fun _ _ _ h => h) (by rfl) ?hy19 hHeld ?re19
            case hy19 =>
              intro w9 hSw
              go_simp
              try with_reducible rfl
            simp only [Act.put, List.setIfInBounds_toArray, List.set_cons_zero, List.set_cons_succ]
            refine take_at 9 (some 56) (v := ?va20) rfl rfl (by kernel_rfl) (by kernel_rfl) (by kernel_rfl) (fun _ _ _ h => h) (by rfl) ?hy20 hHeld ?re20
            case hy20 =>
              intro w9 hSw
              go_simp
              try with_reducible rfl
            simp only [Act.put, List.setIfInBounds_toArray, List.set_cons_zero, List.set_cons_succ]
            have q0 := m8.c0
            have f0 := m8.free 0
            have q1 := m8.c1
            have f1 := m8.free 1
            have q2 := m8.c2
            have f2 := m8.free 2
            have q3 := m8.c3
            have f3 := m8.free 3
            refine alone_at 12 none rfl rfl (by kernel_rfl) (by rfl) (fun K hK => ?_)
            go_simp
            obtain ⟨t1, ht1, m8', gr8⟩ := m8.put4 A.1.r A.1.c A.1.w (.slice a8 A.1.bits.length c8)
            rw [← ht1]
            have hbt1 : Below wr.heap.size wr t1 := hbv089c.grown gr8 hbv089c.size (fun q hq => by rw [← Option.some.inj hq]; exact l8)
            have m9' := m9.grown gr8 (fun e => h89 (Option.some.inj e).symm)
            have hT1 := hT.grown m8 gr8
            clear q0 q1 q2 q3 f0 f1 f2 f3
            refine hK.out undef _ (SX8.out _ hbt1) ?_
            simp only [Act.put]
            clear hK K hHeld ht1
            have hHeld := SX8.out _ hbt1
            have q0 := m9'.c0
            have f0 := m9'.free 0
            have q1 := m9'.c1
            have f1 := m9'.free 1
            have q2 := m9'.c2
            have f2 := m9'.free 2
            have q3 := m9'.c3
            have f3 := m9'.free 3
            refine alone_at 13 none rfl rfl (by kernel_rfl) (by rfl) (fun K hK => ?_)
            go_simp
            obtain ⟨t2, ht2, m9'', gr9⟩ := m9'.put4 A.2.1.r A.2.1.c A.2.1.w (.slice a9 A.2.1.bits.length c9)
            rw [← ht2]
            have hbt2 : Below wr.heap.size wr t2 := hbt1.grown gr9 hbt1.size (fun q hq => by rw [← Option.some.inj hq]; exact l9)
            have m8'' := m8'.grown gr9 (fun e => h89 (Option.some.inj e))
            have hT2 := hT1.grown m9' gr9
            clear q0 q1 q2 q3 f0 f1 f2 f3
            refine hK.out undef _ (SX8.out _ hbt2) ?_
            simp only [Act.put]
            clear hK K hHeld ht2
            have hHeld := SX8.out _ hbt2
            refine take_at 14 (some 10) (v := ?va21) rfl rfl (by kernel_rfl) (by kernel_rfl) (by kernel_rfl) (fun _ _ _ h => h) (by rfl) ?hy21 hHeld ?re21
            case hy21 =>
              intro w9 hSw
              go_simp
              try with_reducible rfl
            simp only [Act.put, List.setIfInBounds_toArray, List.set_cons_zero, List.set_cons_succ]
            refine wpAnyH_done (by kernel_rfl) ?_ _
            go_wp2_with fail
            go_meet
            exact ⟨_, _, _, _, rfl, rfl, rfl, m8'', m9'', hT2, hbt2⟩
        · go_simp
          obtain ⟨v09, hv09, m9, hsv09, hzv09⟩ := boxM v0 0 0 0 (.slice none 0 0)
          rw [← hv09]
          have hbv09 := hbv0.trans (hsv09.mono hbv0.size)
          have l9 : wr.heap.size ≤ v0.heap.size := hbv0.size
          have LT9 : Hid (v0.heap.size < v09.heap.size) := by show _ < _; omega
          clear hzv09
          refine hK.out _ _ (SX8.out _ hbv09) ?_
          simp only [Act.put, List.setIfInBounds_toArray, List.set_cons_zero, List.set_cons_succ]
          clear hK K hHeld hv09
          have hHeld := SX8.out _ hbv09
          refine two_at 5 10 (some 53) (some 8) rfl rfl rfl rfl (by kernel_rfl) (by rfl) (by rfl) (fun K hK => ?_) (fun K hK => ?_)
          · go_simp
            refine (KR8.out _ hbv09).mono ?_
            rintro e v09c ⟨u8, u9, rfl, hT, hsv09c⟩
            have hbv09c := hbv09.trans (hsv09c.mono hbv09.size)
            have hT := hT.mono hbv09.size
            obtain ⟨a8, c8, rfl, _, _⟩ := own_form hT.one
            obtain ⟨a9, c9, rfl, _, _⟩ := own_form hT.two
            have m9 := m9.below hsv09c
            have LT9 : Hid (v0.heap.size < v09c.heap.size) := by show _ < _; have := LT9.out; have := hsv09c.size; omega
            simp only [matV]
            refine hK.out _ _ (SX8.out _ hbv09c) ?_
            simp only [Act.put, List.setIfInBounds_toArray, List.set_cons_zero, List.set_cons_succ]
            clear hK K hHeld
            have hHeld := SX8.out _ hbv09c
            refine take_at 6 (some 47) (v := ?va22) rfl rfl (by kernel_rfl) (by kernel_rfl) (by kernel_rfl) (fun _ _ _ h => h) (by rfl) ?hy22 hHeld ?re22
            case hy22 =>
              intro w9 hSw
              go_simp
              try with_reducible rfl
            simp only [Act.put, List.setIfInBounds_toArray, List.set_cons_zero, List.set_cons_succ]
            refine take_at 7 (some 54) (v := ?va23) rfl rfl (by kernel_rfl) (by kernel_rfl) (by kernel_rfl) (fun _ _ _ h => h) (by rfl) ?hy23 hHeld ?re23
            case hy23 =>
              intro w9 hSw
              go_simp
              try with_reducible rfl
            simp only [Act.put, List.setIfInBounds_toArray, List.set_cons_zero, List.set_cons_succ]
            refine take_at 8 (some 55) (v := ?va24) rfl rfl (by kernel_rfl) (by kernel_rfl) (by kernel_rfl) (fun _ _ _ h => h) (by rfl) ?hy24 hHeld ?re24
            case hy24 =>
              intro w9 hSw
              go_simp
              try with_reducible rfl
            simp only [Act.put, List.setIfInBounds_toArray, List.set_cons_zero, List.set_cons_succ]
            refine take_at 9 (some 56) (v := ?va25) rfl rfl (by kernel_rfl) (by kernel_rfl) (by kernel_rfl) (fun _ _ _ h => h) (by rfl) ?hy25 hHeld ?re25
            case hy25 =>
              intro w9 hSw
              go_simp
              try with_reducible rfl
            simp only [Act.put, List.setIfInBounds_toArray, List.set_cons_zero, List.set_cons_succ]
            refine alone_at 10 (some 8) rfl rfl (by kernel_rfl) (by rfl) (fun K hK => ?_)
            go_simp
            obtain ⟨v09c8, hv09c8, m8, hsv09c8, hzv09c8⟩ := boxM v09c 0 0 0 (.slice none 0 0)
            rw [← hv09c8]
            have hbv09c8 := hbv09c.trans (hsv09c8.mono hbv09c.size)
            have l8 : wr.heap.size ≤ v09c.heap.size := hbv09c.size
            have m9 := m9.below hsv09c8
            have h89 : v09c.heap.size ≠ v0.heap.size := by have := LT9.out; omega
            have LT9 : Hid (v0.heap.size < v09c8.heap.size) := by show _ < _; have := LT9.out; omega
            have LT8 : Hid (v09c.heap.size < v09c8.heap.size) := by show _ < _; omega
            clear hzv09c8
            have hT := hT.below hsv09c8
            refine hK.out _ _ (SX8.out _ hbv09c8) ?_
            simp only [Act.put, List.setIfInBounds_toArray, List.set_cons_zero, List.set_cons_succ]
            clear hK K hHeld hv09c8
            have hHeld := SX8.out _ hbv09c8
            have q0 := m8.c0
            have f0 := m8.free 0
            have q1 := m8.c1
            have f1 := m8.free 1
            have q2 := m8.c2
            have f2 := m8.free 2
            have q3 := m8.c3
            have f3 := m8.free 3
            refine alone_at 12 none rfl rfl (by kernel_rfl) (by rfl) (fun K hK => ?_)
            go_simp
            obtain ⟨t1, ht1, m8', gr8⟩ := m8.put4 A.1.r A.1.c A.1.w (.slice a8 A.1.bits.length c8)
            rw [← ht1]
            have hbt1 : Below wr.heap.size wr t1 := hbv09c8.grown gr8 hbv09c8.size (fun q hq => by rw [← Option.some.inj hq]; exact l8)
            have m9' := m9.grown gr8 (fun e => h89 (Option.some.inj e).symm)
            have hT1 := hT.grown m8 gr8
            clear q0 q1 q2 q3 f0 f1 f2 f3
            refine hK.out undef _ (SX8.out _ hbt1) ?_
            simp only [Act.put]
            clear hK K hHeld ht1
            have hHeld := SX8.out _ hbt1
            have q0 := m9'.c0
            have f0 := m9'.free 0
            have q1 := m9'.c1
            have f1 := m9'.free 1
            have q2 := m9'.c2
            have f2 := m9'.free 2
            have q3 := m9'.c3
            have f3 := m9'.free 3
            refine alone_at 13 none rfl rfl (by kernel_rfl) (by rfl) (fun K hK => ?_)
            go_simp
            obtain ⟨t2, ht2, m9'', gr9⟩ := m9'.put4 A.2.1.r A.2.1.c A.2.1.w (.slice a9 A.2.1.bits.length c9)
            rw [← ht2]
            have hbt2 : Below wr.heap.size wr t2 := hbt1.grown gr9 hbt1.size (fun q hq => by rw [← Option.some.inj hq]; exact l9)
            have m8'' := m8'.grown gr9 (fun e => h89 (Option.some.inj e))
            have hT2 := hT1.grown m9' gr9
            clear q0 q1 q2 q3 f0 f1 f2 f3
            refine hK.out undef _ (SX8.out _ hbt2) ?_
            simp only [Act.put]
            clear hK K hHeld ht2
            have hHeld := SX8.out _ hbt2
            refine take_at 14 (some 10) (v := ?va26) rfl rfl (by kernel_rfl) (by kernel_rfl) (by kernel_rfl) (fun _ _ _ h => h) (by rfl) ?hy26 hHeld ?re26
            case hy26 =>
              intro w9 hSw
              go_simp
              try with_reducible rfl
            simp only [Act.put, List.setIfInBounds_toArray, List.set_cons_zero, List.set_cons_succ]
            refine wpAnyH_done (by kernel_rfl) ?_ _
            go_wp2_with fail
            go_meet
            exact ⟨_, _, _, _, rfl, rfl, rfl, m8'', m9'', hT2, hbt2⟩
          · go_simp
            obtain ⟨v098, hv098, m8, hsv098, hzv098⟩ := boxM v09 0 0 0 (.slice none 0 0)
            rw [← hv098]
            have hbv098 := hbv09.trans (hsv098.mono hbv09.size)
            have l8 : wr.heap.size ≤ v09.heap.size := hbv09.size
            have m9 := m9.below hsv098
            have h89 : v09.heap.size ≠ v0.heap.size := by have := LT9.out; omega
            have LT9 : Hid (v0.heap.size < v098.heap.size) := by show _ < _; have := LT9.out; omega
            have LT8 : Hid (v09.heap.size < v098.heap.size) := by show _ < _; omega
            clear hzv098
            refine hK.out _ _ (SX8.out _ hbv098) ?_
            simp only [Act.put, List.setIfInBounds_toArray, List.set_cons_zero, List.set_cons_succ]
            clear hK K hHeld hv098
            have hHeld := SX8.out _ hbv098
            refine alone_at 5 (some 53) rfl rfl (by kernel_rfl) (by rfl) (fun K hK => ?_)
            go_simp
            refine (KR8.out _ hbv098).mono ?_
            rintro e v098c ⟨u8, u9, rfl, hT, hsv098c⟩
            have hbv098c := hbv098.trans (hsv098c.mono hbv098.size)
            have hT := hT.mono hbv098.size
            obtain ⟨a8, c8, rfl, _, _⟩ := own_form hT.one
            obtain ⟨a9, c9, rfl, _, _⟩ := own_form hT.two
            have m8 := m8.below hsv098c
            have LT8 : Hid (v09.heap.size < v098c.heap.size) := by show _ < _; have := LT8.out; have := hsv098c.size; omega
            have m9 := m9.below hsv098c
            have LT9 : Hid (v0.heap.size < v098c.heap.size) := by show _ < _; have := LT9.out; have := hsv098c.size; omega
            simp only [matV]
            refine hK.out _ _ (SX8.out _ hbv098c) ?_
            simp only [Act.put, List.setIfInBounds_toArray, List.set_cons_zero, List.set_cons_succ]
            clear hK K hHeld
            have hHeld := SX8.out _ hbv098c
            refine take_at 6 (some 47) (v := ?va27) rfl rfl (by kernel_rfl) (by kernel_rfl) (by kernel_rfl) (fun _ _ _ h => h) (by rfl) ?hy27 hHeld ?re27
            case hy27 =>
              intro w9 hSw
              go_simp
              try with_reducible rfl
            simp only [Act.put, List.setIfInBounds_toArray, List.set_cons_zero, List.set_cons_succ]
            refine take_at 7 (some 54) (v := ?va28) rfl rfl (by kernel_rfl) (by kernel_rfl) (by kernel_rfl) (fun _ _ _ h => h) (by rfl) ?hy28 hHeld ?re28
            case hy28 =>
              intro w9 hSw
              go_simp
              try with_reducible rfl
            simp only [Act.put, List.setIfInBounds_toArray, List.set_cons_zero, List.set_cons_succ]
            refine take_at 8 (some 55) (v := ?va29) rfl rfl (by kernel_rfl) (by kernel_rfl) (by kernel_rfl) (fun _ _ _ h => h) (by rfl) ?hy29 hHeld ?re29
            case hy29 =>
              intro w9 hSw
              go_simp
              try with_reducible rfl
            simp only [Act.put, List.setIfInBounds_toArray, List.set_cons_zero, List.set_cons_succ]
            refine take_at 9 (some 56) (v := ?va30) rfl rfl (by kernel_rfl) (by kernel_rfl) (by kernel_rfl) (fun _ _ _ h => h) (by rfl) ?hy30 hHeld ?re30
            case hy30 =>
              intro w9 hSw
              go_simp
              try with_reducible rfl
            simp only [Act.put, List.setIfInBounds_toArray, List.set_cons_zero, List.set_cons_succ]
            have q0 := m8.c0
            have f0 := m8.free 0
            have q1 := m8.c1
            have f1 := m8.free 1
            have q2 := m8.c2
            have f2 := m8.free 2
            have q3 := m8.c3
            have f3 := m8.free 3
            refine alone_at 12 none rfl rfl (by kernel_rfl) (by rfl) (fun K hK => ?_)
            go_simp
            obtain ⟨t1, ht1, m8', gr8⟩ := m8.put4 A.1.r A.1.c A.1.w (.slice a8 A.1.bits.length c8)
            rw [← ht1]
            have hbt1 : Below wr.heap.size wr t1 := hbv098c.grown gr8 hbv098c.size (fun q hq => by rw [← Option.some.inj hq]; exact l8)
            have m9' := m9.grown gr8 (fun e => h89 (Option.some.inj e).symm)
            have hT1 := hT.grown m8 gr8
            clear q0 q1 q2 q3 f0 f1 f2 f3
            refine hK.out undef _ (SX8.out _ hbt1) ?_
            simp only [Act.put]
            clear hK K hHeld ht1
            have hHeld := SX8.out _ hbt1
            have q0 := m9'.c0
            have f0 := m9'.free 0
            have q1 := m9'.c1
            have f1 := m9'.free 1
            have q2 := m9'.c2
            have f2 := m9'.free 2
            have q3 := m9'.c3
            have f3 := m9'.free 3
            refine alone_at 13 none rfl rfl (by kernel_rfl) (by rfl) (fun K hK => ?_)
            go_simp
            obtain ⟨t2, ht2, m9'', gr9⟩ := m9'.put4 A.2.1.r A.2.1.c A.2.1.w (.slice a9 A.2.1.bits.length c9)
            rw [← ht2]
            have hbt2 : Below wr.heap.size wr t2 := hbt1.grown gr9 hbt1.size (fun q hq => by rw [← Option.some.inj hq]; exact l9)
            have m8'' := m8'.grown gr9 (fun e => h89 (Option.some.inj e))
            have hT2 := hT1.grown m9' gr9
            clear q0 q1 q2 q3 f0 f1 f2 f3
            refine hK.out undef _ (SX8.out _ hbt2) ?_
            simp only [Act.put]
            clear hK K hHeld ht2
            have hHeld := SX8.out _ hbt2
            refine take_at 14 (some 10) (v := ?va31) rfl rfl (by kernel_rfl) (by kernel_rfl) (by kernel_rfl) (fun _ _ _ h => h) (by rfl) ?hy31 hHeld ?re31
            case hy31 =>
              intro w9 hSw
              go_simp
              try with_reducible rfl
            simp only [Act.put, List.setIfInBounds_toArray, List.set_cons_zero, List.set_cons_succ]
            refine wpAnyH_done (by kernel_rfl) ?_ _
            go_wp2_with fail
            go_meet
            exact ⟨_, _, _, _, rfl, rfl, rfl, m8'', m9'', hT2, hbt2⟩
      case rest =>
        obtain ⟨g8, g9, u8, u9, rfl, rfl, rfl, m8, m9, hT, hbc⟩ := hcut
        have hMc := hMr.below hbc
        have hbE := (hbD.trans (hbr.mono hbD.size)).trans (hbc.mono (Nat.le_trans hbD.size hbr.size))
        have e1 : wc.cell? ⟨bl, ol + k, none⟩ = some (.int .i64 y) := by rw [HY.out]; exact later_read HRC.out hbE k HKL.out
        clear e0
        have p0 := hMc.c0
        have p1 := hMc.c1
        have p2 := hMc.c2
        have p3 := hMc.c3
        have p4 := hMc.c4
        have p5 := hMc.c5
        have p6 := hMc.c6
        have p7 := hMc.c7
        have x0 := (hXr.below hbc).c0
        have x1 := (hXr.below hbc).c1
        have x2 := (hXr.below hbc).c2
        have x3 := (hXr.below hbc).c3
        have x4 := (hXr.below hbc).c4
        have x5 := (hXr.below hbc).c5
        have x6 := (hXr.below hbc).c6
        have x7 := (hXr.below hbc).c7
        go_upto_region 9 with fail
        go_cut [11, 12, 13] from 37 to 87 (fun s8 s9 s10 wx => GotRow wx wc A s8 s9 s10)
        case first =>
          have KR9 : Hid (∀ W', Below wc.heap.size wc W' → Calls Try.prog 23 #[.agg #[.int .i64 r, .int .i64 c, .int .i64 wd, .slice a n cp, .int .i64 r2, .int .i64 c2, .int .i64 wd2, .slice a2 n2 cp2], .int .i64 y] W' fun e w' => ∃ u u', e = .returned (.tuple #[matV A.1.r A.1.c A.1.w u, matV A.2.1.r A.2.1.c A.2.1.w u', .int .i64 A.2.2]) ∧ TwoM w' W'.heap.size A.1 A.2.1 u u' ∧ Below W'.heap.size W' w') := by
            intro W' hb'
            rw [HA.out]
            exact refrow_any r c wd (.slice a n cp) xs r2 c2 wd2 (.slice a2 n2 cp2) ys y W' (HV.out.below (hbE.trans (hb'.mono hbE.size))) (HV2.out.below (hbE.trans (hb'.mono hbE.size))) (by rw [← HN.out]; omega) (by rw [← HN2.out]; omega) H64.out H642.out
          have SX9 : Hid (∀ w', Below wc.heap.size wc w' → w'.cell? ⟨w.heap.size, 0, none⟩ = some (.int .i64 r) ∧ w'.cell? ⟨w.heap.size, 1, none⟩ = some (.int .i64 c) ∧ w'.cell? ⟨w.heap.size, 2, none⟩ = some (.int .i64 wd) ∧ w'.cell? ⟨w.heap.size, 3, none⟩ = some (.slice a n cp) ∧ w'.cell? ⟨w.heap.size, 4, none⟩ = some (.int .i64 r2) ∧ w'.cell? ⟨w.heap.size, 5, none⟩ = some (.int .i64 c2) ∧ w'.cell? ⟨w.heap.size, 6, none⟩ = some (.int .i64 wd2) ∧ w'.cell? ⟨w.heap.size, 7, none⟩ = some (.slice a2 n2 cp2) ∧ w'.cell? ⟨bl, ol + k, none⟩ = some (.int .i64 y)) := fun w' hb => ⟨(hMc.below hb).c0, (hMc.below hb).c1, (hMc.below hb).c2, (hMc.below hb).c3, (hMc.below hb).c4, (hMc.below hb).c5, (hMc.below hb).c6, (hMc.below hb).c7, by rw [HY.out]; exact later_read HRC.out (hbE.trans (hb.mono hbE.size)) k HKL.out⟩
          refine wp_region_held_drew (S := fun w' => w'.cell? ⟨w.heap.size, 0, none⟩ = some (.int .i64 r) ∧ w'.cell? ⟨w.heap.size, 1, none⟩ = some (.int .i64 c) ∧ w'.cell? ⟨w.heap.size, 2, none⟩ = some (.int .i64 wd) ∧ w'.cell? ⟨w.heap.size, 3, none⟩ = some (.slice a n cp) ∧ w'.cell? ⟨w.heap.size, 4, none⟩ = some (.int .i64 r2) ∧ w'.cell? ⟨w.heap.size, 5, none⟩ = some (.int .i64 c2) ∧ w'.cell? ⟨w.heap.size, 6, none⟩ = some (.int .i64 wd2) ∧ w'.cell? ⟨w.heap.size, 7, none⟩ = some (.slice a2 n2 cp2) ∧ w'.cell? ⟨bl, ol + k, none⟩ = some (.int .i64 y)) (by kernel_rfl) (SX9.out _ (Below.refl wc.heap.size wc).drew) (fun hHeld => ?_)
          refine take_at 0 (some 58) (v := ?va32) rfl rfl (by kernel_rfl) (by kernel_rfl) (by kernel_rfl) (fun _ _ _ h => h) (by rfl) ?hy32 hHeld ?re32
          case hy32 =>
            intro w9 hSw
            go_simp
            try with_reducible rfl
          simp only [Act.put, List.setIfInBounds_toArray, List.set_cons_zero, List.set_cons_succ]
          refine take_at 1 (some 59) (v := ?va33) rfl rfl (by kernel_rfl) (by kernel_rfl) (by kernel_rfl) (fun _ _ _ h => h) (by rfl) ?hy33 hHeld ?re33
          case hy33 =>
            intro w9 hSw
            go_simp
            try with_reducible rfl
          simp only [Act.put, List.setIfInBounds_toArray, List.set_cons_zero, List.set_cons_succ]
          refine take_at 2 (some 60) (v := ?va34) rfl rfl (by kernel_rfl) (by kernel_rfl) (by kernel_rfl) (fun _ _ _ h => h) (by rfl) ?hy34 hHeld ?re34
          case hy34 =>
            intro w9 hSw
            go_simp
            try with_reducible rfl
          simp only [Act.put, List.setIfInBounds_toArray, List.set_cons_zero, List.set_cons_succ]
          refine take_at 3 (some 61) (v := ?va35) rfl rfl (by kernel_rfl) (by kernel_rfl) (by kernel_rfl) (fun _ _ _ h => h) (by rfl) ?hy35 hHeld ?re35
          case hy35 =>
            intro w9 hSw
            go_simp
            try with_reducible rfl
          simp only [Act.put, List.setIfInBounds_toArray, List.set_cons_zero, List.set_cons_succ]
          refine take_at 4 (some 62) (v := ?va36) rfl rfl (by kernel_rfl) (by kernel_rfl) (by kernel_rfl) (fun _ _ _ h => h) (by rfl) ?hy36 hHeld ?re36
          case hy36 =>
            intro w9 hSw
            go_simp
            try with_reducible rfl
          simp only [Act.put, List.setIfInBounds_toArray, List.set_cons_zero, List.set_cons_succ]
          obtain ⟨v0, hv0, hbv0⟩ : ∃ v0, v0 = wc.drew ∧ Below wc.heap.size wc v0 := ⟨_, rfl, (Below.refl wc.heap.size wc).drew⟩
          rw [← hv0] at hHeld ⊢
          clear hv0
          refine three_at 5 10 11 (some 63) (some 11) (some 12) rfl rfl rfl rfl rfl rfl (by kernel_rfl) (by rfl) (by rfl) (by rfl) (fun K hK => ?_) (fun K hK => ?_) (fun K hK => ?_)
          · go_simp
            refine (KR9.out _ hbv0).mono ?_
            rintro e v0c ⟨u8, u9, rfl, hT, hsv0c⟩
            have hbv0c := hbv0.trans (hsv0c.mono hbv0.size)
            have hT := hT.mono hbv0.size
            obtain ⟨a8, c8, rfl, _, _⟩ := own_form hT.one
            obtain ⟨a9, c9, rfl, _, _⟩ := own_form hT.two
            simp only [matV]
            refine hK.out _ _ (SX9.out _ hbv0c) ?_
            simp only [Act.put, List.setIfInBounds_toArray, List.set_cons_zero, List.set_cons_succ]
            clear hK K hHeld
            have hHeld := SX9.out _ hbv0c
            refine take_at 6 (some 57) (v := ?va37) rfl rfl (by kernel_rfl) (by kernel_rfl) (by kernel_rfl) (fun _ _ _ h => h) (by rfl) ?hy37 hHeld ?re37
            case hy37 =>
              intro w9 hSw
              go_simp
              try with_reducible rfl
            simp only [Act.put, List.setIfInBounds_toArray, List.set_cons_zero, List.set_cons_succ]
            refine take_at 7 (some 64) (v := ?va38) rfl rfl (by kernel_rfl) (by kernel_rfl) (by kernel_rfl) (fun _ _ _ h => h) (by rfl) ?hy38 hHeld ?re38
            case hy38 =>
              intro w9 hSw
              go_simp
              try with_reducible rfl
            simp only [Act.put, List.setIfInBounds_toArray, List.set_cons_zero, List.set_cons_succ]
            refine take_at 8 (some 65) (v := ?va39) rfl rfl (by kernel_rfl) (by kernel_rfl) (by kernel_rfl) (fun _ _ _ h => h) (by rfl) ?hy39 hHeld ?re39
            case hy39 =>
              intro w9 hSw
              go_simp
              try with_reducible rfl
            simp only [Act.put, List.setIfInBounds_toArray, List.set_cons_zero, List.set_cons_succ]
            refine take_at 9 (some 66) (v := ?va40) rfl rfl (by kernel_rfl) (by kernel_rfl) (by kernel_rfl) (fun _ _ _ h => h) (by rfl) ?hy40 hHeld ?re40
            case hy40 =>
              intro w9 hSw
              go_simp
              try with_reducible rfl
            simp only [Act.put, List.setIfInBounds_toArray, List.set_cons_zero, List.set_cons_succ]
            refine two_at 10 11 (some 11) (some 12) rfl rfl rfl rfl (by kernel_rfl) (by rfl) (by rfl) (fun K hK => ?_) (fun K hK => ?_)
            · go_simp
              obtain ⟨v0c8, hv0c8, m8, hsv0c8, hzv0c8⟩ := boxM v0c 0 0 0 (.slice none 0 0)
              rw [← hv0c8]
              have hbv0c8 := hbv0c.trans (hsv0c8.mono hbv0c.size)
              have l8 : wc.heap.size ≤ v0c.heap.size := hbv0c.size
              have LT8 : Hid (v0c.heap.size < v0c8.heap.size) := by show _ < _; omega
              clear hzv0c8
              have hT := hT.below hsv0c8
              refine hK.out _ _ (SX9.out _ hbv0c8) ?_
              simp only [Act.put, List.setIfInBounds_toArray, List.set_cons_zero, List.set_cons_succ]
              clear hK K hHeld hv0c8
              have hHeld := SX9.out _ hbv0c8
              refine alone_at 11 (some 12) rfl rfl (by kernel_rfl) (by rfl) (fun K hK => ?_)
              go_simp
              obtain ⟨v0c89, hv0c89, m9, hsv0c89, hzv0c89⟩ := boxM v0c8 0 0 0 (.slice none 0 0)
              rw [← hv0c89]
              have hbv0c89 := hbv0c8.trans (hsv0c89.mono hbv0c8.size)
              have l9 : wc.heap.size ≤ v0c8.heap.size := hbv0c8.size
              have m8 := m8.below hsv0c89
              have h89 : v0c.heap.size ≠ v0c8.heap.size := by have := LT8.out; omega
              have LT8 : Hid (v0c.heap.size < v0c89.heap.size) := by show _ < _; have := LT8.out; omega
              have LT9 : Hid (v0c8.heap.size < v0c89.heap.size) := by show _ < _; omega
              clear hzv0c89
              have hT := hT.below hsv0c89
              refine hK.out _ _ (SX9.out _ hbv0c89) ?_
              simp only [Act.put, List.setIfInBounds_toArray, List.set_cons_zero, List.set_cons_succ]
              clear hK K hHeld hv0c89
              have hHeld := SX9.out _ hbv0c89
              have q0 := m8.c0
              have f0 := m8.free 0
              have q1 := m8.c1
              have f1 := m8.free 1
              have q2 := m8.c2
              have f2 := m8.free 2
              have q3 := m8.c3
              have f3 := m8.free 3
              refine alone_at 12 none rfl rfl (by kernel_rfl) (by rfl) (fun K hK => ?_)
              go_simp
              obtain ⟨t1, ht1, m8', gr8⟩ := m8.put4 A.1.r A.1.c A.1.w (.slice a8 A.1.bits.length c8)
              rw [← ht1]
              have hbt1 : Below wc.heap.size wc t1 := hbv0c89.grown gr8 hbv0c89.size (fun q hq => by rw [← Option.some.inj hq]; exact l8)
              have m9' := m9.grown gr8 (fun e => h89 (Option.some.inj e).symm)
              have hT1 := hT.grown m8 gr8
              clear q0 q1 q2 q3 f0 f1 f2 f3
              refine hK.out undef _ (SX9.out _ hbt1) ?_
              simp only [Act.put]
              clear hK K hHeld ht1
              have hHeld := SX9.out _ hbt1
              have q0 := m9'.c0
              have f0 := m9'.free 0
              have q1 := m9'.c1
              have f1 := m9'.free 1
              have q2 := m9'.c2
              have f2 := m9'.free 2
              have q3 := m9'.c3
              have f3 := m9'.free 3
              refine alone_at 13 none rfl rfl (by kernel_rfl) (by rfl) (fun K hK => ?_)
              go_simp
              obtain ⟨t2, ht2, m9'', gr9⟩ := m9'.put4 A.2.1.r A.2.1.c A.2.1.w (.slice a9 A.2.1.bits.length c9)
              rw [← ht2]
              have hbt2 : Below wc.heap.size wc t2 := hbt1.grown gr9 hbt1.size (fun q hq => by rw [← Option.some.inj hq]; exact l9)
              have m8'' := m8'.grown gr9 (fun e => h89 (Option.some.inj e))
              have hT2 := hT1.grown m9' gr9
              clear q0 q1 q2 q3 f0 f1 f2 f3
              refine hK.out undef _ (SX9.out _ hbt2) ?_
              simp only [Act.put]
              clear hK K hHeld ht2
              have hHeld := SX9.out _ hbt2
              refine take_at 14 (some 13) (v := ?va41) rfl rfl (by kernel_rfl) (by kernel_rfl) (by kernel_rfl) (fun _ _ _ h => h) (by rfl) ?hy41 hHeld ?re41
              case hy41 =>
                intro w9 hSw
                go_simp
                try with_reducible rfl
              simp only [Act.put, List.setIfInBounds_toArray, List.set_cons_zero, List.set_cons_succ]
              refine wpAnyH_done (by kernel_rfl) ?_ _
              go_wp2_with fail
              go_meet
              exact ⟨_, _, _, _, rfl, rfl, rfl, m8'', m9'', hT2, hbt2⟩
            · go_simp
              obtain ⟨v0c9, hv0c9, m9, hsv0c9, hzv0c9⟩ := boxM v0c 0 0 0 (.slice none 0 0)
              rw [← hv0c9]
              have hbv0c9 := hbv0c.trans (hsv0c9.mono hbv0c.size)
              have l9 : wc.heap.size ≤ v0c.heap.size := hbv0c.size
              have LT9 : Hid (v0c.heap.size < v0c9.heap.size) := by show _ < _; omega
              clear hzv0c9
              have hT := hT.below hsv0c9
              refine hK.out _ _ (SX9.out _ hbv0c9) ?_
              simp only [Act.put, List.setIfInBounds_toArray, List.set_cons_zero, List.set_cons_succ]
              clear hK K hHeld hv0c9
              have hHeld := SX9.out _ hbv0c9
              refine alone_at 10 (some 11) rfl rfl (by kernel_rfl) (by rfl) (fun K hK => ?_)
              go_simp
              obtain ⟨v0c98, hv0c98, m8, hsv0c98, hzv0c98⟩ := boxM v0c9 0 0 0 (.slice none 0 0)
              rw [← hv0c98]
              have hbv0c98 := hbv0c9.trans (hsv0c98.mono hbv0c9.size)
              have l8 : wc.heap.size ≤ v0c9.heap.size := hbv0c9.size
              have m9 := m9.below hsv0c98
              have h89 : v0c9.heap.size ≠ v0c.heap.size := by have := LT9.out; omega
              have LT9 : Hid (v0c.heap.size < v0c98.heap.size) := by show _ < _; have := LT9.out; omega
              have LT8 : Hid (v0c9.heap.size < v0c98.heap.size) := by show _ < _; omega
              clear hzv0c98
              have hT := hT.below hsv0c98
              refine hK.out _ _ (SX9.out _ hbv0c98) ?_
              simp only [Act.put, List.setIfInBounds_toArray, List.set_cons_zero, List.set_cons_succ]
              clear hK K hHeld hv0c98
              have hHeld := SX9.out _ hbv0c98
              have q0 := m8.c0
              have f0 := m8.free 0
              have q1 := m8.c1
              have f1 := m8.free 1
              have q2 := m8.c2
              have f2 := m8.free 2
              have q3 := m8.c3
              have f3 := m8.free 3
              refine alone_at 12 none rfl rfl (by kernel_rfl) (by rfl) (fun K hK => ?_)
              go_simp
              obtain ⟨t1, ht1, m8', gr8⟩ := m8.put4 A.1.r A.1.c A.1.w (.slice a8 A.1.bits.length c8)
              rw [← ht1]
              have hbt1 : Below wc.heap.size wc t1 := hbv0c98.grown gr8 hbv0c98.size (fun q hq => by rw [← Option.some.inj hq]; exact l8)
              have m9' := m9.grown gr8 (fun e => h89 (Option.some.inj e).symm)
              have hT1 := hT.grown m8 gr8
              clear q0 q1 q2 q3 f0 f1 f2 f3
              refine hK.out undef _ (SX9.out _ hbt1) ?_
              simp only [Act.put]
              clear hK K hHeld ht1
              have hHeld := SX9.out _ hbt1
              have q0 := m9'.c0
              have f0 := m9'.free 0
              have q1 := m9'.c1
              have f1 := m9'.free 1
              have q2 := m9'.c2
              have f2 := m9'.free 2
              have q3 := m9'.c3
              have f3 := m9'.free 3
              refine alone_at 13 none rfl rfl (by kernel_rfl) (by rfl) (fun K hK => ?_)
              go_simp
              obtain ⟨t2, ht2, m9'', gr9⟩ := m9'.put4 A.2.1.r A.2.1.c A.2.1.w (.slice a9 A.2.1.bits.length c9)
              rw [← ht2]
              have hbt2 : Below wc.heap.size wc t2 := hbt1.grown gr9 hbt1.size (fun q hq => by rw [← Option.some.inj hq]; exact l9)
              have m8'' := m8'.grown gr9 (fun e => h89 (Option.some.inj e))
              have hT2 := hT1.grown m9' gr9
              clear q0 q1 q2 q3 f0 f1 f2 f3
              refine hK.out undef _ (SX9.out _ hbt2) ?_
              simp only [Act.put]
              clear hK K hHeld ht2
              have hHeld := SX9.out _ hbt2
              refine take_at 14 (some 13) (v := ?va42) rfl rfl (by kernel_rfl) (by kernel_rfl) (by kernel_rfl) (fun _ _ _ h => h) (by rfl) ?hy42 hHeld ?re42
              case hy42 =>
                intro w9 hSw
                go_simp
                try with_reducible rfl
              simp only [Act.put, List.setIfInBounds_toArray, List.set_cons_zero, List.set_cons_succ]
              refine wpAnyH_done (by kernel_rfl) ?_ _
              go_wp2_with fail
              go_meet
              exact ⟨_, _, _, _, rfl, rfl, rfl, m8'', m9'', hT2, hbt2⟩
          · go_simp
            obtain ⟨v08, hv08, m8, hsv08, hzv08⟩ := boxM v0 0 0 0 (.slice none 0 0)
            rw [← hv08]
            have hbv08 := hbv0.trans (hsv08.mono hbv0.size)
            have l8 : wc.heap.size ≤ v0.heap.size := hbv0.size
            have LT8 : Hid (v0.heap.size < v08.heap.size) := by show _ < _; omega
            clear hzv08
            refine hK.out _ _ (SX9.out _ hbv08) ?_
            simp only [Act.put, List.setIfInBounds_toArray, List.set_cons_zero, List.set_cons_succ]
            clear hK K hHeld hv08
            have hHeld := SX9.out _ hbv08
            refine two_at 5 11 (some 63) (some 12) rfl rfl rfl rfl (by kernel_rfl) (by rfl) (by rfl) (fun K hK => ?_) (fun K hK => ?_)
            · go_simp
              refine (KR9.out _ hbv08).mono ?_
              rintro e v08c ⟨u8, u9, rfl, hT, hsv08c⟩
              have hbv08c := hbv08.trans (hsv08c.mono hbv08.size)
              have hT := hT.mono hbv08.size
              obtain ⟨a8, c8, rfl, _, _⟩ := own_form hT.one
              obtain ⟨a9, c9, rfl, _, _⟩ := own_form hT.two
              have m8 := m8.below hsv08c
              have LT8 : Hid (v0.heap.size < v08c.heap.size) := by show _ < _; have := LT8.out; have := hsv08c.size; omega
              simp only [matV]
              refine hK.out _ _ (SX9.out _ hbv08c) ?_
              simp only [Act.put, List.setIfInBounds_toArray, List.set_cons_zero, List.set_cons_succ]
              clear hK K hHeld
              have hHeld := SX9.out _ hbv08c
              refine take_at 6 (some 57) (v := ?va43) rfl rfl (by kernel_rfl) (by kernel_rfl) (by kernel_rfl) (fun _ _ _ h => h) (by rfl) ?hy43 hHeld ?re43
              case hy43 =>
                intro w9 hSw
                go_simp
                try with_reducible rfl
              simp only [Act.put, List.setIfInBounds_toArray, List.set_cons_zero, List.set_cons_succ]
              refine take_at 7 (some 64) (v := ?va44) rfl rfl (by kernel_rfl) (by kernel_rfl) (by kernel_rfl) (fun _ _ _ h => h) (by rfl) ?hy44 hHeld ?re44
              case hy44 =>
                intro w9 hSw
                go_simp
                try with_reducible rfl
              simp only [Act.put, List.setIfInBounds_toArray, List.set_cons_zero, List.set_cons_succ]
              refine take_at 8 (some 65) (v := ?va45) rfl rfl (by kernel_rfl) (by kernel_rfl) (by kernel_rfl) (fun _ _ _ h => h) (by rfl) ?hy45 hHeld ?re45
              case hy45 =>
                intro w9 hSw
                go_simp
                try with_reducible rfl
              simp only [Act.put, List.setIfInBounds_toArray, List.set_cons_zero, List.set_cons_succ]
              refine take_at 9 (some 66) (v := ?va46) rfl rfl (by kernel_rfl) (by kernel_rfl) (by kernel_rfl) (fun _ _ _ h => h) (by rfl) ?hy46 hHeld ?re46
              case hy46 =>
                intro w9 hSw
                go_simp
                try with_reducible rfl
              simp only [Act.put, List.setIfInBounds_toArray, List.set_cons_zero, List.set_cons_succ]
              refine alone_at 11 (some 12) rfl rfl (by kernel_rfl) (by rfl) (fun K hK => ?_)
              go_simp
              obtain ⟨v08c9, hv08c9, m9, hsv08c9, hzv08c9⟩ := boxM v08c 0 0 0 (.slice none 0 0)
              rw [← hv08c9]
              have hbv08c9 := hbv08c.trans (hsv08c9.mono hbv08c.size)
              have l9 : wc.heap.size ≤ v08c.heap.size := hbv08c.size
              have m8 := m8.below hsv08c9
              have h89 : v0.heap.size ≠ v08c.heap.size := by have := LT8.out; omega
              have LT8 : Hid (v0.heap.size < v08c9.heap.size) := by show _ < _; have := LT8.out; omega
              have LT9 : Hid (v08c.heap.size < v08c9.heap.size) := by show _ < _; omega
              clear hzv08c9
              have hT := hT.below hsv08c9
              refine hK.out _ _ (SX9.out _ hbv08c9) ?_
              simp only [Act.put, List.setIfInBounds_toArray, List.set_cons_zero, List.set_cons_succ]
              clear hK K hHeld hv08c9
              have hHeld := SX9.out _ hbv08c9
              have q0 := m8.c0
              have f0 := m8.free 0
              have q1 := m8.c1
              have f1 := m8.free 1
              have q2 := m8.c2
              have f2 := m8.free 2
              have q3 := m8.c3
              have f3 := m8.free 3
              refine alone_at 12 none rfl rfl (by kernel_rfl) (by rfl) (fun K hK => ?_)
              go_simp
              obtain ⟨t1, ht1, m8', gr8⟩ := m8.put4 A.1.r A.1.c A.1.w (.slice a8 A.1.bits.length c8)
              rw [← ht1]
              have hbt1 : Below wc.heap.size wc t1 := hbv08c9.grown gr8 hbv08c9.size (fun q hq => by rw [← Option.some.inj hq]; exact l8)
              have m9' := m9.grown gr8 (fun e => h89 (Option.some.inj e).symm)
              have hT1 := hT.grown m8 gr8
              clear q0 q1 q2 q3 f0 f1 f2 f3
              refine hK.out undef _ (SX9.out _ hbt1) ?_
              simp only [Act.put]
              clear hK K hHeld ht1
              have hHeld := SX9.out _ hbt1
              have q0 := m9'.c0
              have f0 := m9'.free 0
              have q1 := m9'.c1
              have f1 := m9'.free 1
              have q2 := m9'.c2
              have f2 := m9'.free 2
              have q3 := m9'.c3
              have f3 := m9'.free 3
              refine alone_at 13 none rfl rfl (by kernel_rfl) (by rfl) (fun K hK => ?_)
              go_simp
              obtain ⟨t2, ht2, m9'', gr9⟩ := m9'.put4 A.2.1.r A.2.1.c A.2.1.w (.slice a9 A.2.1.bits.length c9)
              rw [← ht2]
              have hbt2 : Below wc.heap.size wc t2 := hbt1.grown gr9 hbt1.size (fun q hq => by rw [← Option.some.inj hq]; exact l9)
              have m8'' := m8'.grown gr9 (fun e => h89 (Option.some.inj e))
              have hT2 := hT1.grown m9' gr9
              clear q0 q1 q2 q3 f0 f1 f2 f3
              refine hK.out undef _ (SX9.out _ hbt2) ?_
              simp only [Act.put]
              clear hK K hHeld ht2
              have hHeld := SX9.out _ hbt2
              refine take_at 14 (some 13) (v := ?va47) rfl rfl (by kernel_rfl) (by kernel_rfl) (by kernel_rfl) (fun _ _ _ h => h) (by rfl) ?hy47 hHeld ?re47
              case hy47 =>
                intro w9 hSw
                go_simp
                try with_reducible rfl
              simp only [Act.put, List.setIfInBounds_toArray, List.set_cons_zero, List.set_cons_succ]
              refine wpAnyH_done (by kernel_rfl) ?_ _
              go_wp2_with fail
              go_meet
              exact ⟨_, _, _, _, rfl, rfl, rfl, m8'', m9'', hT2, hbt2⟩
            · go_simp
              obtain ⟨v089, hv089, m9, hsv089, hzv089⟩ := boxM v08 0 0 0 (.slice none 0 0)
              rw [← hv089]
              have hbv089 := hbv08.trans (hsv089.mono hbv08.size)
              have l9 : wc.heap.size ≤ v08.heap.size := hbv08.size
              have m8 := m8.below hsv089
              have h89 : v0.heap.size ≠ v08.heap.size := by have := LT8.out; omega
              have LT8 : Hid (v0.heap.size < v089.heap.size) := by show _ < _; have := LT8.out; omega
              have LT9 : Hid (v08.heap.size < v089.heap.size) := by show _ < _; omega
              clear hzv089
              refine hK.out _ _ (SX9.out _ hbv089) ?_
              simp only [Act.put, List.setIfInBounds_toArray, List.set_cons_zero, List.set_cons_succ]
              clear hK K hHeld hv089
              have hHeld := SX9.out _ hbv089
              refine alone_at 5 (some 63) rfl rfl (by kernel_rfl) (by rfl) (fun K hK => ?_)
              go_simp
              refine (KR9.out _ hbv089).mono ?_
              rintro e v089c ⟨u8, u9, rfl, hT, hsv089c⟩
              have hbv089c := hbv089.trans (hsv089c.mono hbv089.size)
              have hT := hT.mono hbv089.size
              obtain ⟨a8, c8, rfl, _, _⟩ := own_form hT.one
              obtain ⟨a9, c9, rfl, _, _⟩ := own_form hT.two
              have m8 := m8.below hsv089c
              have LT8 : Hid (v0.heap.size < v089c.heap.size) := by show _ < _; have := LT8.out; have := hsv089c.size; omega
              have m9 := m9.below hsv089c
              have LT9 : Hid (v08.heap.size < v089c.heap.size) := by show _ < _; have := LT9.out; have := hsv089c.size; omega
              simp only [matV]
              refine hK.out _ _ (SX9.out _ hbv089c) ?_
              simp only [Act.put, List.setIfInBounds_toArray, List.set_cons_zero, List.set_cons_succ]
              clear hK K hHeld
              have hHeld := SX9.out _ hbv089c
              refine take_at 6 (some 57) (v := ?va48) rfl rfl (by kernel_rfl) (by kernel_rfl) (by kernel_rfl) (fun _ _ _ h => h) (by rfl) ?hy48 hHeld ?re48
              case hy48 =>
                intro w9 hSw
                go_simp
                try with_reducible rfl
              simp only [Act.put, List.setIfInBounds_toArray, List.set_cons_zero, List.set_cons_succ]
              refine take_at 7 (some 64) (v := ?va49) rfl rfl (by kernel_rfl) (by kernel_rfl) (by kernel_rfl) (fun _ _ _ h => h) (by rfl) ?hy49 hHeld ?re49
              case hy49 =>
                intro w9 hSw
                go_simp
                try with_reducible rfl
              simp only [Act.put, List.setIfInBounds_toArray, List.set_cons_zero, List.set_cons_succ]
              refine take_at 8 (some 65) (v := ?va50) rfl rfl (by kernel_rfl) (by kernel_rfl) (by kernel_rfl) (fun _ _ _ h => h) (by rfl) ?hy50 hHeld ?re50
              case hy50 =>
                intro w9 hSw
                go_simp
                try with_reducible rfl
              simp only [Act.put, List.setIfInBounds_toArray, List.set_cons_zero, List.set_cons_succ]
              refine take_at 9 (some 66) (v := ?va51) rfl rfl (by kernel_rfl) (by kernel_rfl) (by kernel_rfl) (fun _ _ _ h => h) (by rfl) ?hy51 hHeld ?re51
              case hy51 =>
                intro w9 hSw
                go_simp
                try with_reducible rfl
              simp only [Act.put, List.setIfInBounds_toArray, List.set_cons_zero, List.set_cons_succ]
              have q0 := m8.c0
              have f0 := m8.free 0
              have q1 := m8.c1
              have f1 := m8.free 1
              have q2 := m8.c2
              have f2 := m8.free 2
              have q3 := m8.c3
              have f3 := m8.free 3
              refine alone_at 12 none rfl rfl (by kernel_rfl) (by rfl) (fun K hK => ?_)
              go_simp
              obtain ⟨t1, ht1, m8', gr8⟩ := m8.put4 A.1.r A.1.c A.1.w (.slice a8 A.1.bits.length c8)
              rw [← ht1]
              have hbt1 : Below wc.heap.size wc t1 := hbv089c.grown gr8 hbv089c.size (fun q hq => by rw [← Option.some.inj hq]; exact l8)
              have m9' := m9.grown gr8 (fun e => h89 (Option.some.inj e).symm)
              have hT1 := hT.grown m8 gr8
              clear q0 q1 q2 q3 f0 f1 f2 f3
              refine hK.out undef _ (SX9.out _ hbt1) ?_
              simp only [Act.put]
              clear hK K hHeld ht1
              have hHeld := SX9.out _ hbt1
              have q0 := m9'.c0
              have f0 := m9'.free 0
              have q1 := m9'.c1
              have f1 := m9'.free 1
              have q2 := m9'.c2
              have f2 := m9'.free 2
              have q3 := m9'.c3
              have f3 := m9'.free 3
              refine alone_at 13 none rfl rfl (by kernel_rfl) (by rfl) (fun K hK => ?_)
              go_simp
              obtain ⟨t2, ht2, m9'', gr9⟩ := m9'.put4 A.2.1.r A.2.1.c A.2.1.w (.slice a9 A.2.1.bits.length c9)
              rw [← ht2]
              have hbt2 : Below wc.heap.size wc t2 := hbt1.grown gr9 hbt1.size (fun q hq => by rw [← Option.some.inj hq]; exact l9)
              have m8'' := m8'.grown gr9 (fun e => h89 (Option.some.inj e))
              have hT2 := hT1.grown m9' gr9
              clear q0 q1 q2 q3 f0 f1 f2 f3
              refine hK.out undef _ (SX9.out _ hbt2) ?_
              simp only [Act.put]
              clear hK K hHeld ht2
              have hHeld := SX9.out _ hbt2
              refine take_at 14 (some 13) (v := ?va52) rfl rfl (by kernel_rfl) (by kernel_rfl) (by kernel_rfl) (fun _ _ _ h => h) (by rfl) ?hy52 hHeld ?re52
              case hy52 =>
                intro w9 hSw
                go_simp
                try with_reducible rfl
              simp only [Act.put, List.setIfInBounds_toArray, List.set_cons_zero, List.set_cons_succ]
              refine wpAnyH_done (by kernel_rfl) ?_ _
              go_wp2_with fail
              go_meet
              exact ⟨_, _, _, _, rfl, rfl, rfl, m8'', m9'', hT2, hbt2⟩
          · go_simp
            obtain ⟨v09, hv09, m9, hsv09, hzv09⟩ := boxM v0 0 0 0 (.slice none 0 0)
            rw [← hv09]
            have hbv09 := hbv0.trans (hsv09.mono hbv0.size)
            have l9 : wc.heap.size ≤ v0.heap.size := hbv0.size
            have LT9 : Hid (v0.heap.size < v09.heap.size) := by show _ < _; omega
            clear hzv09
            refine hK.out _ _ (SX9.out _ hbv09) ?_
            simp only [Act.put, List.setIfInBounds_toArray, List.set_cons_zero, List.set_cons_succ]
            clear hK K hHeld hv09
            have hHeld := SX9.out _ hbv09
            refine two_at 5 10 (some 63) (some 11) rfl rfl rfl rfl (by kernel_rfl) (by rfl) (by rfl) (fun K hK => ?_) (fun K hK => ?_)
            · go_simp
              refine (KR9.out _ hbv09).mono ?_
              rintro e v09c ⟨u8, u9, rfl, hT, hsv09c⟩
              have hbv09c := hbv09.trans (hsv09c.mono hbv09.size)
              have hT := hT.mono hbv09.size
              obtain ⟨a8, c8, rfl, _, _⟩ := own_form hT.one
              obtain ⟨a9, c9, rfl, _, _⟩ := own_form hT.two
              have m9 := m9.below hsv09c
              have LT9 : Hid (v0.heap.size < v09c.heap.size) := by show _ < _; have := LT9.out; have := hsv09c.size; omega
              simp only [matV]
              refine hK.out _ _ (SX9.out _ hbv09c) ?_
              simp only [Act.put, List.setIfInBounds_toArray, List.set_cons_zero, List.set_cons_succ]
              clear hK K hHeld
              have hHeld := SX9.out _ hbv09c
              refine take_at 6 (some 57) (v := ?va53) rfl rfl (by kernel_rfl) (by kernel_rfl) (by kernel_rfl) (fun _ _ _ h => h) (by rfl) ?hy53 hHeld ?re53
              case hy53 =>
                intro w9 hSw
                go_simp
                try with_reducible rfl
              simp only [Act.put, List.setIfInBounds_toArray, List.set_cons_zero, List.set_cons_succ]
              refine take_at 7 (some 64) (v := ?va54) rfl rfl (by kernel_rfl) (by kernel_rfl) (by kernel_rfl) (fun _ _ _ h => h) (by rfl) ?hy54 hHeld ?re54
              case hy54 =>
                intro w9 hSw
                go_simp
                try with_reducible rfl
              simp only [Act.put, List.setIfInBounds_toArray, List.set_cons_zero, List.set_cons_succ]
              refine take_at 8 (some 65) (v := ?va55) rfl rfl (by kernel_rfl) (by kernel_rfl) (by kernel_rfl) (fun _ _ _ h => h) (by rfl) ?hy55 hHeld ?re55
              case hy55 =>
                intro w9 hSw
                go_simp
                try with_reducible rfl
              simp only [Act.put, List.setIfInBounds_toArray, List.set_cons_zero, List.set_cons_succ]
              refine take_at 9 (some 66) (v := ?va56) rfl rfl (by kernel_rfl) (by kernel_rfl) (by kernel_rfl) (fun _ _ _ h => h) (by rfl) ?hy56 hHeld ?re56
              case hy56 =>
                intro w9 hSw
                go_simp
                try with_reducible rfl
              simp only [Act.put, List.setIfInBounds_toArray, List.set_cons_zero, List.set_cons_succ]
              refine alone_at 10 (some 11) rfl rfl (by kernel_rfl) (by rfl) (fun K hK => ?_)
              go_simp
              obtain ⟨v09c8, hv09c8, m8, hsv09c8, hzv09c8⟩ := boxM v09c 0 0 0 (.slice none 0 0)
              rw [← hv09c8]
              have hbv09c8 := hbv09c.trans (hsv09c8.mono hbv09c.size)
              have l8 : wc.heap.size ≤ v09c.heap.size := hbv09c.size
              have m9 := m9.below hsv09c8
              have h89 : v09c.heap.size ≠ v0.heap.size := by have := LT9.out; omega
              have LT9 : Hid (v0.heap.size < v09c8.heap.size) := by show _ < _; have := LT9.out; omega
              have LT8 : Hid (v09c.heap.size < v09c8.heap.size) := by show _ < _; omega
              clear hzv09c8
              have hT := hT.below hsv09c8
              refine hK.out _ _ (SX9.out _ hbv09c8) ?_
              simp only [Act.put, List.setIfInBounds_toArray, List.set_cons_zero, List.set_cons_succ]
              clear hK K hHeld hv09c8
              have hHeld := SX9.out _ hbv09c8
              have q0 := m8.c0
              have f0 := m8.free 0
              have q1 := m8.c1
              have f1 := m8.free 1
              have q2 := m8.c2
              have f2 := m8.free 2
              have q3 := m8.c3
              have f3 := m8.free 3
              refine alone_at 12 none rfl rfl (by kernel_rfl) (by rfl) (fun K hK => ?_)
              go_simp
              obtain ⟨t1, ht1, m8', gr8⟩ := m8.put4 A.1.r A.1.c A.1.w (.slice a8 A.1.bits.length c8)
              rw [← ht1]
              have hbt1 : Below wc.heap.size wc t1 := hbv09c8.grown gr8 hbv09c8.size (fun q hq => by rw [← Option.some.inj hq]; exact l8)
              have m9' := m9.grown gr8 (fun e => h89 (Option.some.inj e).symm)
              have hT1 := hT.grown m8 gr8
              clear q0 q1 q2 q3 f0 f1 f2 f3
              refine hK.out undef _ (SX9.out _ hbt1) ?_
              simp only [Act.put]
              clear hK K hHeld ht1
              have hHeld := SX9.out _ hbt1
              have q0 := m9'.c0
              have f0 := m9'.free 0
              have q1 := m9'.c1
              have f1 := m9'.free 1
              have q2 := m9'.c2
              have f2 := m9'.free 2
              have q3 := m9'.c3
              have f3 := m9'.free 3
              refine alone_at 13 none rfl rfl (by kernel_rfl) (by rfl) (fun K hK => ?_)
              go_simp
              obtain ⟨t2, ht2, m9'', gr9⟩ := m9'.put4 A.2.1.r A.2.1.c A.2.1.w (.slice a9 A.2.1.bits.length c9)
              rw [← ht2]
              have hbt2 : Below wc.heap.size wc t2 := hbt1.grown gr9 hbt1.size (fun q hq => by rw [← Option.some.inj hq]; exact l9)
              have m8'' := m8'.grown gr9 (fun e => h89 (Option.some.inj e))
              have hT2 := hT1.grown m9' gr9
              clear q0 q1 q2 q3 f0 f1 f2 f3
              refine hK.out undef _ (SX9.out _ hbt2) ?_
              simp only [Act.put]
              clear hK K hHeld ht2
              have hHeld := SX9.out _ hbt2
              refine take_at 14 (some 13) (v := ?va57) rfl rfl (by kernel_rfl) (by kernel_rfl) (by kernel_rfl) (fun _ _ _ h => h) (by rfl) ?hy57 hHeld ?re57
              case hy57 =>
                intro w9 hSw
                go_simp
                try with_reducible rfl
              simp only [Act.put, List.setIfInBounds_toArray, List.set_cons_zero, List.set_cons_succ]
              refine wpAnyH_done (by kernel_rfl) ?_ _
              go_wp2_with fail
              go_meet
              exact ⟨_, _, _, _, rfl, rfl, rfl, m8'', m9'', hT2, hbt2⟩
            · go_simp
              obtain ⟨v098, hv098, m8, hsv098, hzv098⟩ := boxM v09 0 0 0 (.slice none 0 0)
              rw [← hv098]
              have hbv098 := hbv09.trans (hsv098.mono hbv09.size)
              have l8 : wc.heap.size ≤ v09.heap.size := hbv09.size
              have m9 := m9.below hsv098
              have h89 : v09.heap.size ≠ v0.heap.size := by have := LT9.out; omega
              have LT9 : Hid (v0.heap.size < v098.heap.size) := by show _ < _; have := LT9.out; omega
              have LT8 : Hid (v09.heap.size < v098.heap.size) := by show _ < _; omega
              clear hzv098
              refine hK.out _ _ (SX9.out _ hbv098) ?_
              simp only [Act.put, List.setIfInBounds_toArray, List.set_cons_zero, List.set_cons_succ]
              clear hK K hHeld hv098
              have hHeld := SX9.out _ hbv098
              refine alone_at 5 (some 63) rfl rfl (by kernel_rfl) (by rfl) (fun K hK => ?_)
              go_simp
              refine (KR9.out _ hbv098).mono ?_
              rintro e v098c ⟨u8, u9, rfl, hT, hsv098c⟩
              have hbv098c := hbv098.trans (hsv098c.mono hbv098.size)
              have hT := hT.mono hbv098.size
              obtain ⟨a8, c8, rfl, _, _⟩ := own_form hT.one
              obtain ⟨a9, c9, rfl, _, _⟩ := own_form hT.two
              have m8 := m8.below hsv098c
              have LT8 : Hid (v09.heap.size < v098c.heap.size) := by show _ < _; have := LT8.out; have := hsv098c.size; omega
              have m9 := m9.below hsv098c
              have LT9 : Hid (v0.heap.size < v098c.heap.size) := by show _ < _; have := LT9.out; have := hsv098c.size; omega
              simp only [matV]
              refine hK.out _ _ (SX9.out _ hbv098c) ?_
              simp only [Act.put, List.setIfInBounds_toArray, List.set_cons_zero, List.set_cons_succ]
              clear hK K hHeld
              have hHeld := SX9.out _ hbv098c
              refine take_at 6 (some 57) (v := ?va58) rfl rfl (by kernel_rfl) (by kernel_rfl) (by kernel_rfl) (fun _ _ _ h => h) (by rfl) ?hy58 hHeld ?re58
              case hy58 =>
                intro w9 hSw
                go_simp
                try with_reducible rfl
              simp only [Act.put, List.setIfInBounds_toArray, List.set_cons_zero, List.set_cons_succ]
              refine take_at 7 (some 64) (v := ?va59) rfl rfl (by kernel_rfl) (by kernel_rfl) (by kernel_rfl) (fun _ _ _ h => h) (by rfl) ?hy59 hHeld ?re59
              case hy59 =>
                intro w9 hSw
                go_simp
                try with_reducible rfl
              simp only [Act.put, List.setIfInBounds_toArray, List.set_cons_zero, List.set_cons_succ]
              refine take_at 8 (some 65) (v := ?va60) rfl rfl (by kernel_rfl) (by kernel_rfl) (by kernel_rfl) (fun _ _ _ h => h) (by rfl) ?hy60 hHeld ?re60
              case hy60 =>
                intro w9 hSw
                go_simp
                try with_reducible rfl
              simp only [Act.put, List.setIfInBounds_toArray, List.set_cons_zero, List.set_cons_succ]
              refine take_at 9 (some 66) (v := ?va61) rfl rfl (by kernel_rfl) (by kernel_rfl) (by kernel_rfl) (fun _ _ _ h => h) (by rfl) ?hy61 hHeld ?re61
              case hy61 =>
                intro w9 hSw
                go_simp
                try with_reducible rfl
              simp only [Act.put, List.setIfInBounds_toArray, List.set_cons_zero, List.set_cons_succ]
              have q0 := m8.c0
              have f0 := m8.free 0
              have q1 := m8.c1
              have f1 := m8.free 1
              have q2 := m8.c2
              have f2 := m8.free 2
              have q3 := m8.c3
              have f3 := m8.free 3
              refine alone_at 12 none rfl rfl (by kernel_rfl) (by rfl) (fun K hK => ?_)
              go_simp
              obtain ⟨t1, ht1, m8', gr8⟩ := m8.put4 A.1.r A.1.c A.1.w (.slice a8 A.1.bits.length c8)
              rw [← ht1]
              have hbt1 : Below wc.heap.size wc t1 := hbv098c.grown gr8 hbv098c.size (fun q hq => by rw [← Option.some.inj hq]; exact l8)
              have m9' := m9.grown gr8 (fun e => h89 (Option.some.inj e).symm)
              have hT1 := hT.grown m8 gr8
              clear q0 q1 q2 q3 f0 f1 f2 f3
              refine hK.out undef _ (SX9.out _ hbt1) ?_
              simp only [Act.put]
              clear hK K hHeld ht1
              have hHeld := SX9.out _ hbt1
              have q0 := m9'.c0
              have f0 := m9'.free 0
              have q1 := m9'.c1
              have f1 := m9'.free 1
              have q2 := m9'.c2
              have f2 := m9'.free 2
              have q3 := m9'.c3
              have f3 := m9'.free 3
              refine alone_at 13 none rfl rfl (by kernel_rfl) (by rfl) (fun K hK => ?_)
              go_simp
              obtain ⟨t2, ht2, m9'', gr9⟩ := m9'.put4 A.2.1.r A.2.1.c A.2.1.w (.slice a9 A.2.1.bits.length c9)
              rw [← ht2]
              have hbt2 : Below wc.heap.size wc t2 := hbt1.grown gr9 hbt1.size (fun q hq => by rw [← Option.some.inj hq]; exact l9)
              have m8'' := m8'.grown gr9 (fun e => h89 (Option.some.inj e))
              have hT2 := hT1.grown m9' gr9
              clear q0 q1 q2 q3 f0 f1 f2 f3
              refine hK.out undef _ (SX9.out _ hbt2) ?_
              simp only [Act.put]
              clear hK K hHeld ht2
              have hHeld := SX9.out _ hbt2
              refine take_at 14 (some 13) (v := ?va62) rfl rfl (by kernel_rfl) (by kernel_rfl) (by kernel_rfl) (fun _ _ _ h => h) (by rfl) ?hy62 hHeld ?re62
              case hy62 =>
                intro w9 hSw
                go_simp
                try with_reducible rfl
              simp only [Act.put, List.setIfInBounds_toArray, List.set_cons_zero, List.set_cons_succ]
              refine wpAnyH_done (by kernel_rfl) ?_ _
              go_wp2_with fail
              go_meet
              exact ⟨_, _, _, _, rfl, rfl, rfl, m8'', m9'', hT2, hbt2⟩
        case rest =>
          obtain ⟨g11, g12, u11, u12, rfl, rfl, rfl, m11, m12, hT2, hbc2⟩ := hcut
          clear x0 x1 x2 x3 x4 x5 x6 x7 p0 p1 p2 p3 p4 p5 p6 p7 e1
          have m8 := m8.below hbc2
          have m9 := m9.below hbc2
          have hT := hT.below hbc2
          obtain ⟨V, W, X, hB, hXl⟩ := HR.book
          have HB := Lib.hid hB
          have HX := Lib.hid hXl
          have hbF := hbc.trans (hbc2.mono hbc.size)
          have hS5 : w4.heap.size + 1 ≤ wr.heap.size := by rw [← HS5.out]; exact hbr.size
          clear hB hXl
          have q0 := m8.c0
          have q1 := m8.c1
          have q2 := m8.c2
          have q3 := m8.c3
          go_wp2_with fail
          refine (matrix_add _ (w4.heap.size + 1) (w4.heap.size + 1) (2 * k) V W X (HB.out.later hbF) (by omega) A.1.r A.1.c A.1.w u8 A.1.bits (own_mono hT.one hS5) (by rw [HA.out]; have := (rowAns_len r c wd xs r2 c2 wd2 ys y).1; omega) (book_apart HB.out hT.one)).mono ?_
          rintro e wd1 ⟨rfl, cc1, hB1, hbd1, hk1⟩
          have m8 := m8.keepsI hk1
          have m9 := m9.keepsI hk1
          have m11 := m11.keepsI hk1
          have m12 := m12.keepsI hk1
          have hT := hT.keepsI hk1
          have hT2 := hT2.keepsI hk1
          clear q0 q1 q2 q3
          have q0 := m9.c0
          have q1 := m9.c1
          have q2 := m9.c2
          have q3 := m9.c3
          go_wp2_with fail
          refine (matrix_add _ (w4.heap.size + 1) (w4.heap.size + 1) (2 * k + 1) _ _ _ hB1 (by omega) A.2.1.r A.2.1.c A.2.1.w u9 A.2.1.bits (own_mono hT.two hS5) (by rw [HA.out]; have := (rowAns_len r c wd xs r2 c2 wd2 ys y).2; omega) ?_).mono ?_
          · intro i hi
            by_cases hi2 : i = 2 * k
            · subst hi2
              simp only [if_pos]
              exact hT.apart
            · simp only [if_neg hi2]
              exact book_apart HB.out hT.two i (by omega)
          rintro e wd2' ⟨rfl, cc2, hB2, hbd2, hk2⟩
          have m8 := m8.keepsI hk2
          have m9 := m9.keepsI hk2
          have m11 := m11.keepsI hk2
          have m12 := m12.keepsI hk2
          have hT := hT.keepsI hk2
          have hT2 := hT2.keepsI hk2
          clear q0 q1 q2 q3
          have q0 := m8.c0
          have q1 := m8.c1
          have q2 := m8.c2
          have q3 := m8.c3
          have t0 := m11.c0
          have t1 := m11.c1
          have t2 := m11.c2
          have t3 := m11.c3
          have hne : (A.2.2 != A.2.2) = false := by simp
          go_wp2_with fail
          refine (sameM_any A.1.r A.1.c A.1.w A.1.bits (by rw [HA.out]; have := (rowAns_len r c wd xs r2 c2 wd2 ys y).1; omega) u8 u11 _ _ _ hT.one hT2.one).mono ?_
          rintro e wd3 ⟨rfl, hbd3⟩
          have m9 := m9.below hbd3
          have m12 := m12.below hbd3
          have hT := hT.below hbd3
          have hT2 := hT2.below hbd3
          clear q0 q1 q2 q3 t0 t1 t2 t3
          have q0 := m9.c0
          have q1 := m9.c1
          have q2 := m9.c2
          have q3 := m9.c3
          have t0 := m12.c0
          have t1 := m12.c1
          have t2 := m12.c2
          have t3 := m12.c3
          go_wp2_with fail
          refine (sameM_any A.2.1.r A.2.1.c A.2.1.w A.2.1.bits (by rw [HA.out]; have := (rowAns_len r c wd xs r2 c2 wd2 ys y).2; omega) u9 u12 _ _ _ hT.two hT2.two).mono ?_
          rintro e wd4 ⟨rfl, hbd4⟩
          go_wp2_with fail
          go_roundw
          case rel =>
            have hbd1' := hbd1
            have hbd2' := hbd2
            rw [← HS5.out] at hbd1' hbd2'
            have hb0 := hbr.trans (hbF.mono hbr.size)
            have hb1 := hb0.trans hbd1'
            have hb2 := hb1.trans hbd2'
            have hb3 := hb2.trans (hbd3.mono hb2.size)
            refine ⟨k + 1, by omega, by omega, rfl, ⟨_, _, _, (hB2.later hbd3).later hbd4, ?_⟩, hb3.trans (hbd4.mono hb3.size)⟩
            intro i hi
            have l1 := (rowAns_len r c wd xs r2 c2 wd2 ys y).1
            have l2 := (rowAns_len r c wd xs r2 c2 wd2 ys y).2
            rw [← HA.out] at l1 l2
            by_cases h1 : i = 2 * k + 1
            · simp only [if_pos h1]; exact l2
            · by_cases h2 : i = 2 * k
              · simp only [if_neg h1, if_pos h2]; exact l1
              · simp only [if_neg h1, if_neg h2]; exact HX.out i (by omega)
          case measure =>
            show 60 - ((k : Int) + 1).toNat < 60 - (k : Int).toNat
            omega
    · by_cases hkm2 : k < m
      · have hXr := hX.below hbr
        have hMr := hM5.below hbr
        have hbG := hbD.trans (hbr.mono hbD.size)
        have hU := LentAt.below HU5.out hbr
        have hU2 := LentAt.below HU25.out hbr
        clear HU5 HU25
        have HU := Lib.hid hU
        have HU2 := Lib.hid hU2
        clear hU hU2
        obtain ⟨V, W, X, hB, hXl⟩ := HR.book
        have HB := Lib.hid hB
        have HX := Lib.hid hXl
        have hS5 : w4.heap.size + 1 ≤ wr.heap.size := by rw [← HS5.out]; exact hbr.size
        clear hB hXl HR
        have jb : (k : Int) < (m : Int) := by omega
        have jb2 : ¬ (k : Int) < 60 := by omega
        go_wp2_with fail
        refine (lentInts_any (.slice al m cl) rows wr (HVL.out.below hbG) (by rw [← HM.out]; omega)).mono ?_
        rintro e w6 ⟨l, rfl, hL6, hb6⟩
        obtain ⟨bl, kl, rfl⟩ := hL6.read.form
        rw [← HM.out] at hL6 ⊢
        have HL6 := Lib.hid hL6
        have hX6 := hXr.below hb6
        have hM6 := hMr.below hb6
        have HU6 := Lib.hid (LentAt.below HU.out hb6)
        have HU26 := Lib.hid (LentAt.below HU2.out hb6)
        have hbH := hbG.trans (hb6.mono hbG.size)
        clear hL6 hXr hMr HU HU2
        have x0 := hX6.c0
        have x1 := hX6.c1
        have x2 := hX6.c2
        have x3 := hX6.c3
        have x4 := hX6.c4
        have x5 := hX6.c5
        have x6 := hX6.c6
        have x7 := hX6.c7
        go_wp2_with fail
        have DP := dpick_any r c wd (.slice b1 n k1) xs r2 c2 wd2 (.slice b2 n2 k2) ys (.slice bl m kl) rows w6 HU6.out.read HU26.out.read HL6.out.read (by rw [← HM.out]; omega) (by rw [← HN.out]; omega) (by rw [← HN2.out]; omega) H64.out H642.out
        unfold AnsPick at DP
        obtain ⟨A, hA⟩ : ∃ A, A = pickAns r c wd xs r2 c2 wd2 ys rows := ⟨_, rfl⟩
        have HA := Lib.hid hA
        rw [← hA] at DP
        clear hA
        refine DP.mono ?_
        rintro e w7 ⟨u1, u2, rfl, hT, hb7⟩
        obtain ⟨ua1, uc1, rfl, _, _⟩ := own_form hT.one
        obtain ⟨ua2, uc2, rfl, _, _⟩ := own_form hT.two
        clear DP x0 x1 x2 x3 x4 x5 x6 x7
        have hX7 := hX6.below hb7
        have hM7 := hM6.below hb7
        have HU7 := Lib.hid (LentAt.below HU6.out hb7)
        have HU27 := Lib.hid (LentAt.below HU26.out hb7)
        have HL7 := Lib.hid (LentAt.below HL6.out hb7)
        have hbI := hbH.trans (hb7.mono hbH.size)
        clear hX6 hM6 HU6 HU26 HL6
        simp only [setOf, setV]
        go_upto_region 16 with fail
        obtain ⟨w8, hw8, hP, hb8, hs8⟩ := boxSet w7 A.1.r A.1.c A.1.w (.slice ua1 A.1.bits.length uc1) A.2.1.r A.2.1.c A.2.1.w (.slice ua2 A.2.1.bits.length uc2)
        rw [← hw8]
        clear hw8 hs8
        have hX8 := hX7.below hb8
        have hM8 := hM7.below hb8
        have HU8 := Lib.hid (LentAt.below HU7.out hb8)
        have HU28 := Lib.hid (LentAt.below HU27.out hb8)
        have HL8 := Lib.hid (LentAt.below HL7.out hb8)
        have hT := hT.below hb8
        have hbJ := hbI.trans (hb8.mono hbI.size)
        clear hX7 hM7 HU7 HU27 HL7
        have p0 := hM8.c0
        have p1 := hM8.c1
        have p2 := hM8.c2
        have p3 := hM8.c3
        have p4 := hM8.c4
        have p5 := hM8.c5
        have p6 := hM8.c6
        have p7 := hM8.c7
        go_wp2_with fail
        have RP := refpick_any r c wd (.slice a n cp) xs r2 c2 wd2 (.slice a2 n2 cp2) ys (.slice al m cl) rows w8 (HV.out.below hbJ) (HV2.out.below hbJ) (HVL.out.below hbJ) (by rw [← HM.out]; omega) (by rw [← HN.out]; omega) (by rw [← HN2.out]; omega) H64.out H642.out
        unfold AnsPick at RP
        rw [← HA.out] at RP
        refine RP.mono ?_
        rintro e w9 ⟨v1, v2, rfl, hT2, hb9⟩
        obtain ⟨va1, vc1, rfl, _, _⟩ := own_form hT2.one
        obtain ⟨va2, vc2, rfl, _, _⟩ := own_form hT2.two
        clear RP p0 p1 p2 p3 p4 p5 p6 p7
        have hX9 := hX8.below hb9
        have hM9 := hM8.below hb9
        have hP9 := hP.below hb9
        have HU9 := Lib.hid (LentAt.below HU8.out hb9)
        have HU29 := Lib.hid (LentAt.below HU28.out hb9)
        have HL9 := Lib.hid (LentAt.below HL8.out hb9)
        have hT := hT.below hb9
        have hbK := hbJ.trans (hb9.mono hbJ.size)
        clear hX8 hM8 hP HU8 HU28 HL8
        simp only [setOf, setV]
        go_upto_region 17 with fail
        obtain ⟨w10, hw10, hQ, hb10, hs10⟩ := boxSet w9 A.1.r A.1.c A.1.w (.slice va1 A.1.bits.length vc1) A.2.1.r A.2.1.c A.2.1.w (.slice va2 A.2.1.bits.length vc2)
        rw [← hw10]
        clear hw10 hs10
        have hX10 := hX9.below hb10
        have hM10 := hM9.below hb10
        have hP10 := hP9.below hb10
        have HU10 := Lib.hid (LentAt.below HU9.out hb10)
        have HU210 := Lib.hid (LentAt.below HU29.out hb10)
        have HL10 := Lib.hid (LentAt.below HL9.out hb10)
        have hT := hT.below hb10
        have hT2 := hT2.below hb10
        have hbL := hbK.trans (hb10.mono hbK.size)
        clear hX9 hM9 hP9 HU9 HU29 HL9
        have hbr6 := hb6.trans (hb7.mono hb6.size)
        have hbr8 := hbr6.trans (hb8.mono hbr6.size)
        have hbr9 := hbr8.trans (hb9.mono hbr8.size)
        have hbr10 := hbr9.trans (hb10.mono hbr9.size)
        have hT := hT.mono hb6.size
        have hS7 : w4.heap.size + 1 ≤ w6.heap.size := Nat.le_trans hS5 hb6.size
        clear hb6 hb7 hb8 hb9 hb10 hbr6 hbr8 hbr9
        have p0 := hP10.c0
        have p1 := hP10.c1
        have p2 := hP10.c2
        have p3 := hP10.c3
        have p4 := hP10.c4
        have p5 := hP10.c5
        have p6 := hP10.c6
        have p7 := hP10.c7
        go_wp2_with fail
        refine (matrix_add _ (w4.heap.size + 1) (w4.heap.size + 1) (2 * k) V W X (HB.out.later hbr10) (by omega) A.1.r A.1.c A.1.w _ A.1.bits (own_mono hT.one hS5) (by rw [HA.out]; have := (pickAns_len r c wd xs r2 c2 wd2 ys rows).1; omega) (book_apart HB.out hT.one)).mono ?_
        rintro e w11 ⟨rfl, cc1, hB1, hbd1, hk1⟩
        have hX11 := hX10.keepsI hk1
        have hM11 := hM10.keepsI hk1
        have hP11 := hP10.keepsI hk1
        have hQ11 := hQ.keepsI hk1
        have HU11 := Lib.hid (HU10.out.keepsI hk1)
        have HU211 := Lib.hid (HU210.out.keepsI hk1)
        have HL11 := Lib.hid (HL10.out.keepsI hk1)
        have hT := hT.keepsI hk1
        have hT2 := hT2.keepsI hk1
        clear p0 p1 p2 p3 p4 p5 p6 p7 hX10 hM10 hP10 hQ HU10 HU210 HL10
        have p0 := hP11.c0
        have p1 := hP11.c1
        have p2 := hP11.c2
        have p3 := hP11.c3
        have p4 := hP11.c4
        have p5 := hP11.c5
        have p6 := hP11.c6
        have p7 := hP11.c7
        go_wp2_with fail
        refine (matrix_add _ (w4.heap.size + 1) (w4.heap.size + 1) (2 * k + 1) _ _ _ hB1 (by omega) A.2.1.r A.2.1.c A.2.1.w _ A.2.1.bits (own_mono hT.two hS5) (by rw [HA.out]; have := (pickAns_len r c wd xs r2 c2 wd2 ys rows).2; omega) ?_).mono ?_
        · intro i hi
          by_cases hi2 : i = 2 * k
          · subst hi2
            simp only [if_pos]
            exact hT.apart
          · simp only [if_neg hi2]
            exact book_apart HB.out hT.two i (by omega)
        rintro e w12 ⟨rfl, cc2, hB2, hbd2, hk2⟩
        have hX12 := hX11.keepsI hk2
        have hM12 := hM11.keepsI hk2
        have hP12 := hP11.keepsI hk2
        have hQ12 := hQ11.keepsI hk2
        have HU12 := Lib.hid (HU11.out.keepsI hk2)
        have HU212 := Lib.hid (HU211.out.keepsI hk2)
        have HL12 := Lib.hid (HL11.out.keepsI hk2)
        have hT := hT.keepsI hk2
        have hT2 := hT2.keepsI hk2
        have hbd1' : Below w.heap.size _ w11 := hbd1.mono (by rw [← HS5.out]; exact hbD.size)
        have hbd2' : Below w.heap.size _ w12 := hbd2.mono (by rw [← HS5.out]; exact hbD.size)
        have hbM := (hbL.trans hbd1').trans hbd2'
        clear p0 p1 p2 p3 p4 p5 p6 p7 hX11 hM11 hP11 hQ11 HU11 HU211 HL11
        have p0 := hP12.c0
        have p1 := hP12.c1
        have p2 := hP12.c2
        have p3 := hP12.c3
        have p4 := hP12.c4
        have p5 := hP12.c5
        have p6 := hP12.c6
        have p7 := hP12.c7
        have q0 := hQ12.c0
        have q1 := hQ12.c1
        have q2 := hQ12.c2
        have q3 := hQ12.c3
        have q4 := hQ12.c4
        have q5 := hQ12.c5
        have q6 := hQ12.c6
        have q7 := hQ12.c7
        have heq : (A.2.2 == A.2.2) = true := by simp
        go_wp2_with fail
        refine (sameM_any A.1.r A.1.c A.1.w A.1.bits (by rw [HA.out]; have := (pickAns_len r c wd xs r2 c2 wd2 ys rows).1; omega) _ _ _ _ _ hT.one hT2.one).mono ?_
        rintro e w13 ⟨rfl, hb13⟩
        have hT := hT.below hb13
        have hT2 := hT2.below hb13
        have hP13 := hP12.below hb13
        have hQ13 := hQ12.below hb13
        clear p0 p1 p2 p3 p4 p5 p6 p7 q0 q1 q2 q3 q4 q5 q6 q7 hP12 hQ12
        have p0 := hP13.c0
        have p1 := hP13.c1
        have p2 := hP13.c2
        have p3 := hP13.c3
        have p4 := hP13.c4
        have p5 := hP13.c5
        have p6 := hP13.c6
        have p7 := hP13.c7
        have q0 := hQ13.c0
        have q1 := hQ13.c1
        have q2 := hQ13.c2
        have q3 := hQ13.c3
        have q4 := hQ13.c4
        have q5 := hQ13.c5
        have q6 := hQ13.c6
        have q7 := hQ13.c7
        go_wp2_with fail
        refine (sameM_any A.2.1.r A.2.1.c A.2.1.w A.2.1.bits (by rw [HA.out]; have := (pickAns_len r c wd xs r2 c2 wd2 ys rows).2; omega) _ _ _ _ _ hT.two hT2.two).mono ?_
        rintro e w14 ⟨rfl, hb14⟩
        have hbN := hb13.trans (hb14.mono hb13.size)
        have hX14 := hX12.below hbN
        have hM14 := hM12.below hbN
        have HU14 := Lib.hid (HU12.out.below hbN)
        have HU214 := Lib.hid (HU212.out.below hbN)
        have HL14 := Lib.hid (HL12.out.below hbN)
        have hbO := hbM.trans (hbN.mono hbM.size)
        clear p0 p1 p2 p3 p4 p5 p6 p7 q0 q1 q2 q3 q4 q5 q6 q7 hX12 hM12 HU12 HU212 HL12
        have x0 := hX14.c0
        have x1 := hX14.c1
        have x2 := hX14.c2
        have x3 := hX14.c3
        have x4 := hX14.c4
        have x5 := hX14.c5
        have x6 := hX14.c6
        have x7 := hX14.c7
        have p0 := hM14.c0
        have p1 := hM14.c1
        have p2 := hM14.c2
        have p3 := hM14.c3
        have p4 := hM14.c4
        have p5 := hM14.c5
        have p6 := hM14.c6
        have p7 := hM14.c7
        go_wp2_with fail
        refine (staysSet_any _ r c wd (.slice b1 n k1) (.slice a n cp) xs r2 c2 wd2 (.slice b2 n2 k2) (.slice a2 n2 cp2) ys w14 HU14.out (HV.out.below hbO) HU214.out (HV2.out.below hbO) (by rw [← HN.out]; omega) (by rw [← HN2.out]; omega)).mono ?_
        rintro e w15 ⟨rfl, hb15⟩
        have hbP := hbO.trans (hb15.mono hbO.size)
        have hbN2 := hbN.trans (hb15.mono hbN.size)
        have HL15 := Lib.hid (HL14.out.below hb15)
        clear p0 p1 p2 p3 p4 p5 p6 p7 x0 x1 x2 x3 x4 x5 x6 x7
        go_wp2_with fail
        refine (stays_any _ (.slice bl m kl) (.slice al m cl) rows w15 HL15.out (HVL.out.below hbP) (by rw [← HM.out]; omega)).mono ?_
        rintro e w16 ⟨rfl, hb16⟩
        have hbQ := hbP.trans (hb16.mono hbP.size)
        have hbN3 := hbN2.trans (hb16.mono hbN2.size)
        go_wp2_with fail
        obtain ⟨⟨v0, w0, hk, hv, hw, _⟩, hV, hW, _⟩ := hB2.later hbN3
        refine (apartInts_any w16 (w4.heap.size + 1) v0 w0 hk (w4.heap.size + 1) (2 * k + 1 + 1) (by omega) ?_ _ _ _ hv hw hV hW ?_).mono ?_
        · have h0 := hbr10.size
          have h1 := hbd1.size
          have h2 := hbd2.size
          have h3 := hbN3.size
          omega
        · intro i hi
          have l1 := (pickAns_len r c wd xs r2 c2 wd2 ys rows).1
          have l2 := (pickAns_len r c wd xs r2 c2 wd2 ys rows).2
          rw [← HA.out] at l1 l2
          by_cases h1 : i = 2 * k + 1
          · simp only [if_pos h1]; omega
          · by_cases h2 : i = 2 * k
            · simp only [if_neg h1, if_pos h2]; omega
            · simp only [if_neg h1, if_neg h2]
              have := HX.out i (by omega)
              omega
        rintro e w17 ⟨rfl, hb17⟩
        go_wp2
        go_ret
        exact ⟨rfl, hbQ.trans (hb17.mono (by rw [← HS5.out]; exact hbD.size))⟩
      · have hXr := hX.below hbr
        have hMr := hM5.below hbr
        have hbG := hbD.trans (hbr.mono hbD.size)
        have hU := LentAt.below HU5.out hbr
        have hU2 := LentAt.below HU25.out hbr
        clear HU5 HU25
        have HU := Lib.hid hU
        have HU2 := Lib.hid hU2
        clear hU hU2
        obtain ⟨V, W, X, hB, hXl⟩ := HR.book
        have HB := Lib.hid hB
        have HX := Lib.hid hXl
        have hS5 : w4.heap.size + 1 ≤ wr.heap.size := by rw [← HS5.out]; exact hbr.size
        clear hB hXl HR
        have jb : ¬ (k : Int) < (m : Int) := by omega
        go_wp2_with fail
        refine (lentInts_any (.slice al m cl) rows wr (HVL.out.below hbG) (by rw [← HM.out]; omega)).mono ?_
        rintro e w6 ⟨l, rfl, hL6, hb6⟩
        obtain ⟨bl, kl, rfl⟩ := hL6.read.form
        rw [← HM.out] at hL6 ⊢
        have HL6 := Lib.hid hL6
        have hX6 := hXr.below hb6
        have hM6 := hMr.below hb6
        have HU6 := Lib.hid (LentAt.below HU.out hb6)
        have HU26 := Lib.hid (LentAt.below HU2.out hb6)
        have hbH := hbG.trans (hb6.mono hbG.size)
        clear hL6 hXr hMr HU HU2
        have x0 := hX6.c0
        have x1 := hX6.c1
        have x2 := hX6.c2
        have x3 := hX6.c3
        have x4 := hX6.c4
        have x5 := hX6.c5
        have x6 := hX6.c6
        have x7 := hX6.c7
        go_wp2_with fail
        have DP := dpick_any r c wd (.slice b1 n k1) xs r2 c2 wd2 (.slice b2 n2 k2) ys (.slice bl m kl) rows w6 HU6.out.read HU26.out.read HL6.out.read (by rw [← HM.out]; omega) (by rw [← HN.out]; omega) (by rw [← HN2.out]; omega) H64.out H642.out
        unfold AnsPick at DP
        obtain ⟨A, hA⟩ : ∃ A, A = pickAns r c wd xs r2 c2 wd2 ys rows := ⟨_, rfl⟩
        have HA := Lib.hid hA
        rw [← hA] at DP
        clear hA
        refine DP.mono ?_
        rintro e w7 ⟨u1, u2, rfl, hT, hb7⟩
        obtain ⟨ua1, uc1, rfl, _, _⟩ := own_form hT.one
        obtain ⟨ua2, uc2, rfl, _, _⟩ := own_form hT.two
        clear DP x0 x1 x2 x3 x4 x5 x6 x7
        have hX7 := hX6.below hb7
        have hM7 := hM6.below hb7
        have HU7 := Lib.hid (LentAt.below HU6.out hb7)
        have HU27 := Lib.hid (LentAt.below HU26.out hb7)
        have HL7 := Lib.hid (LentAt.below HL6.out hb7)
        have hbI := hbH.trans (hb7.mono hbH.size)
        clear hX6 hM6 HU6 HU26 HL6
        simp only [setOf, setV]
        go_upto_region 16 with fail
        obtain ⟨w8, hw8, hP, hb8, hs8⟩ := boxSet w7 A.1.r A.1.c A.1.w (.slice ua1 A.1.bits.length uc1) A.2.1.r A.2.1.c A.2.1.w (.slice ua2 A.2.1.bits.length uc2)
        rw [← hw8]
        clear hw8 hs8
        have hX8 := hX7.below hb8
        have hM8 := hM7.below hb8
        have HU8 := Lib.hid (LentAt.below HU7.out hb8)
        have HU28 := Lib.hid (LentAt.below HU27.out hb8)
        have HL8 := Lib.hid (LentAt.below HL7.out hb8)
        have hT := hT.below hb8
        have hbJ := hbI.trans (hb8.mono hbI.size)
        clear hX7 hM7 HU7 HU27 HL7
        have p0 := hM8.c0
        have p1 := hM8.c1
        have p2 := hM8.c2
        have p3 := hM8.c3
        have p4 := hM8.c4
        have p5 := hM8.c5
        have p6 := hM8.c6
        have p7 := hM8.c7
        go_wp2_with fail
        have RP := refpick_any r c wd (.slice a n cp) xs r2 c2 wd2 (.slice a2 n2 cp2) ys (.slice al m cl) rows w8 (HV.out.below hbJ) (HV2.out.below hbJ) (HVL.out.below hbJ) (by rw [← HM.out]; omega) (by rw [← HN.out]; omega) (by rw [← HN2.out]; omega) H64.out H642.out
        unfold AnsPick at RP
        rw [← HA.out] at RP
        refine RP.mono ?_
        rintro e w9 ⟨v1, v2, rfl, hT2, hb9⟩
        obtain ⟨va1, vc1, rfl, _, _⟩ := own_form hT2.one
        obtain ⟨va2, vc2, rfl, _, _⟩ := own_form hT2.two
        clear RP p0 p1 p2 p3 p4 p5 p6 p7
        have hX9 := hX8.below hb9
        have hM9 := hM8.below hb9
        have hP9 := hP.below hb9
        have HU9 := Lib.hid (LentAt.below HU8.out hb9)
        have HU29 := Lib.hid (LentAt.below HU28.out hb9)
        have HL9 := Lib.hid (LentAt.below HL8.out hb9)
        have hT := hT.below hb9
        have hbK := hbJ.trans (hb9.mono hbJ.size)
        clear hX8 hM8 hP HU8 HU28 HL8
        simp only [setOf, setV]
        go_upto_region 17 with fail
        obtain ⟨w10, hw10, hQ, hb10, hs10⟩ := boxSet w9 A.1.r A.1.c A.1.w (.slice va1 A.1.bits.length vc1) A.2.1.r A.2.1.c A.2.1.w (.slice va2 A.2.1.bits.length vc2)
        rw [← hw10]
        clear hw10 hs10
        have hX10 := hX9.below hb10
        have hM10 := hM9.below hb10
        have hP10 := hP9.below hb10
        have HU10 := Lib.hid (LentAt.below HU9.out hb10)
        have HU210 := Lib.hid (LentAt.below HU29.out hb10)
        have HL10 := Lib.hid (LentAt.below HL9.out hb10)
        have hT := hT.below hb10
        have hT2 := hT2.below hb10
        have hbL := hbK.trans (hb10.mono hbK.size)
        clear hX9 hM9 hP9 HU9 HU29 HL9
        have hbr6 := hb6.trans (hb7.mono hb6.size)
        have hbr8 := hbr6.trans (hb8.mono hbr6.size)
        have hbr9 := hbr8.trans (hb9.mono hbr8.size)
        have hbr10 := hbr9.trans (hb10.mono hbr9.size)
        have hT := hT.mono hb6.size
        have hS7 : w4.heap.size + 1 ≤ w6.heap.size := Nat.le_trans hS5 hb6.size
        clear hb6 hb7 hb8 hb9 hb10 hbr6 hbr8 hbr9
        have p0 := hP10.c0
        have p1 := hP10.c1
        have p2 := hP10.c2
        have p3 := hP10.c3
        have p4 := hP10.c4
        have p5 := hP10.c5
        have p6 := hP10.c6
        have p7 := hP10.c7
        go_wp2_with fail
        refine (matrix_add _ (w4.heap.size + 1) (w4.heap.size + 1) (2 * k) V W X (HB.out.later hbr10) (by omega) A.1.r A.1.c A.1.w _ A.1.bits (own_mono hT.one hS5) (by rw [HA.out]; have := (pickAns_len r c wd xs r2 c2 wd2 ys rows).1; omega) (book_apart HB.out hT.one)).mono ?_
        rintro e w11 ⟨rfl, cc1, hB1, hbd1, hk1⟩
        have hX11 := hX10.keepsI hk1
        have hM11 := hM10.keepsI hk1
        have hP11 := hP10.keepsI hk1
        have hQ11 := hQ.keepsI hk1
        have HU11 := Lib.hid (HU10.out.keepsI hk1)
        have HU211 := Lib.hid (HU210.out.keepsI hk1)
        have HL11 := Lib.hid (HL10.out.keepsI hk1)
        have hT := hT.keepsI hk1
        have hT2 := hT2.keepsI hk1
        clear p0 p1 p2 p3 p4 p5 p6 p7 hX10 hM10 hP10 hQ HU10 HU210 HL10
        have p0 := hP11.c0
        have p1 := hP11.c1
        have p2 := hP11.c2
        have p3 := hP11.c3
        have p4 := hP11.c4
        have p5 := hP11.c5
        have p6 := hP11.c6
        have p7 := hP11.c7
        go_wp2_with fail
        refine (matrix_add _ (w4.heap.size + 1) (w4.heap.size + 1) (2 * k + 1) _ _ _ hB1 (by omega) A.2.1.r A.2.1.c A.2.1.w _ A.2.1.bits (own_mono hT.two hS5) (by rw [HA.out]; have := (pickAns_len r c wd xs r2 c2 wd2 ys rows).2; omega) ?_).mono ?_
        · intro i hi
          by_cases hi2 : i = 2 * k
          · subst hi2
            simp only [if_pos]
            exact hT.apart
          · simp only [if_neg hi2]
            exact book_apart HB.out hT.two i (by omega)
        rintro e w12 ⟨rfl, cc2, hB2, hbd2, hk2⟩
        have hX12 := hX11.keepsI hk2
        have hM12 := hM11.keepsI hk2
        have hP12 := hP11.keepsI hk2
        have hQ12 := hQ11.keepsI hk2
        have HU12 := Lib.hid (HU11.out.keepsI hk2)
        have HU212 := Lib.hid (HU211.out.keepsI hk2)
        have HL12 := Lib.hid (HL11.out.keepsI hk2)
        have hT := hT.keepsI hk2
        have hT2 := hT2.keepsI hk2
        have hbd1' : Below w.heap.size _ w11 := hbd1.mono (by rw [← HS5.out]; exact hbD.size)
        have hbd2' : Below w.heap.size _ w12 := hbd2.mono (by rw [← HS5.out]; exact hbD.size)
        have hbM := (hbL.trans hbd1').trans hbd2'
        clear p0 p1 p2 p3 p4 p5 p6 p7 hX11 hM11 hP11 hQ11 HU11 HU211 HL11
        have p0 := hP12.c0
        have p1 := hP12.c1
        have p2 := hP12.c2
        have p3 := hP12.c3
        have p4 := hP12.c4
        have p5 := hP12.c5
        have p6 := hP12.c6
        have p7 := hP12.c7
        have q0 := hQ12.c0
        have q1 := hQ12.c1
        have q2 := hQ12.c2
        have q3 := hQ12.c3
        have q4 := hQ12.c4
        have q5 := hQ12.c5
        have q6 := hQ12.c6
        have q7 := hQ12.c7
        have heq : (A.2.2 == A.2.2) = true := by simp
        go_wp2_with fail
        refine (sameM_any A.1.r A.1.c A.1.w A.1.bits (by rw [HA.out]; have := (pickAns_len r c wd xs r2 c2 wd2 ys rows).1; omega) _ _ _ _ _ hT.one hT2.one).mono ?_
        rintro e w13 ⟨rfl, hb13⟩
        have hT := hT.below hb13
        have hT2 := hT2.below hb13
        have hP13 := hP12.below hb13
        have hQ13 := hQ12.below hb13
        clear p0 p1 p2 p3 p4 p5 p6 p7 q0 q1 q2 q3 q4 q5 q6 q7 hP12 hQ12
        have p0 := hP13.c0
        have p1 := hP13.c1
        have p2 := hP13.c2
        have p3 := hP13.c3
        have p4 := hP13.c4
        have p5 := hP13.c5
        have p6 := hP13.c6
        have p7 := hP13.c7
        have q0 := hQ13.c0
        have q1 := hQ13.c1
        have q2 := hQ13.c2
        have q3 := hQ13.c3
        have q4 := hQ13.c4
        have q5 := hQ13.c5
        have q6 := hQ13.c6
        have q7 := hQ13.c7
        go_wp2_with fail
        refine (sameM_any A.2.1.r A.2.1.c A.2.1.w A.2.1.bits (by rw [HA.out]; have := (pickAns_len r c wd xs r2 c2 wd2 ys rows).2; omega) _ _ _ _ _ hT.two hT2.two).mono ?_
        rintro e w14 ⟨rfl, hb14⟩
        have hbN := hb13.trans (hb14.mono hb13.size)
        have hX14 := hX12.below hbN
        have hM14 := hM12.below hbN
        have HU14 := Lib.hid (HU12.out.below hbN)
        have HU214 := Lib.hid (HU212.out.below hbN)
        have HL14 := Lib.hid (HL12.out.below hbN)
        have hbO := hbM.trans (hbN.mono hbM.size)
        clear p0 p1 p2 p3 p4 p5 p6 p7 q0 q1 q2 q3 q4 q5 q6 q7 hX12 hM12 HU12 HU212 HL12
        have x0 := hX14.c0
        have x1 := hX14.c1
        have x2 := hX14.c2
        have x3 := hX14.c3
        have x4 := hX14.c4
        have x5 := hX14.c5
        have x6 := hX14.c6
        have x7 := hX14.c7
        have p0 := hM14.c0
        have p1 := hM14.c1
        have p2 := hM14.c2
        have p3 := hM14.c3
        have p4 := hM14.c4
        have p5 := hM14.c5
        have p6 := hM14.c6
        have p7 := hM14.c7
        go_wp2_with fail
        refine (staysSet_any _ r c wd (.slice b1 n k1) (.slice a n cp) xs r2 c2 wd2 (.slice b2 n2 k2) (.slice a2 n2 cp2) ys w14 HU14.out (HV.out.below hbO) HU214.out (HV2.out.below hbO) (by rw [← HN.out]; omega) (by rw [← HN2.out]; omega)).mono ?_
        rintro e w15 ⟨rfl, hb15⟩
        have hbP := hbO.trans (hb15.mono hbO.size)
        have hbN2 := hbN.trans (hb15.mono hbN.size)
        have HL15 := Lib.hid (HL14.out.below hb15)
        clear p0 p1 p2 p3 p4 p5 p6 p7 x0 x1 x2 x3 x4 x5 x6 x7
        go_wp2_with fail
        refine (stays_any _ (.slice bl m kl) (.slice al m cl) rows w15 HL15.out (HVL.out.below hbP) (by rw [← HM.out]; omega)).mono ?_
        rintro e w16 ⟨rfl, hb16⟩
        have hbQ := hbP.trans (hb16.mono hbP.size)
        have hbN3 := hbN2.trans (hb16.mono hbN2.size)
        go_wp2_with fail
        obtain ⟨⟨v0, w0, hk, hv, hw, _⟩, hV, hW, _⟩ := hB2.later hbN3
        refine (apartInts_any w16 (w4.heap.size + 1) v0 w0 hk (w4.heap.size + 1) (2 * k + 1 + 1) (by omega) ?_ _ _ _ hv hw hV hW ?_).mono ?_
        · have h0 := hbr10.size
          have h1 := hbd1.size
          have h2 := hbd2.size
          have h3 := hbN3.size
          omega
        · intro i hi
          have l1 := (pickAns_len r c wd xs r2 c2 wd2 ys rows).1
          have l2 := (pickAns_len r c wd xs r2 c2 wd2 ys rows).2
          rw [← HA.out] at l1 l2
          by_cases h1 : i = 2 * k + 1
          · simp only [if_pos h1]; omega
          · by_cases h2 : i = 2 * k
            · simp only [if_neg h1, if_pos h2]; omega
            · simp only [if_neg h1, if_neg h2]
              have := HX.out i (by omega)
              omega
        rintro e w17 ⟨rfl, hb17⟩
        go_wp2
        go_ret
        exact ⟨rfl, hbQ.trans (hb17.mono (by rw [← HS5.out]; exact hbD.size))⟩

theorem rows_any (r c wd : Int) (v : Value) (xs : List Int) (r2 c2 wd2 : Int) (v2 : Value) (ys : List Int) (vl : Value) (rows : List Int) (w : World) (hv : ReadI w v xs) (hv2 : ReadI w v2 ys) (hvl : ReadI w vl rows) (hx : xs.length ≤ 1000000000000000) (hy : ys.length ≤ 1000000000000000)
    (h64 : ∀ x, x ∈ xs → -9223372036854775808 ≤ x ∧ x ≤ 9223372036854775807) (h642 : ∀ x, x ∈ ys → -9223372036854775808 ≤ x ∧ x ≤ 9223372036854775807) :
    Calls Try.prog 6 #[setV r c wd v r2 c2 wd2 v2, vl] w fun e w' => e = .returned (.bool true) ∧ Below w.heap.size w w' := by
  by_cases hl : (xs.length : Int) + (ys.length : Int) ≤ 600
  · by_cases hm : rows.length ≤ 5000
    · exact rows_light r c wd v xs r2 c2 wd2 v2 ys vl rows w hv hv2 hvl hl hm h64 h642
    · obtain ⟨a, cp, rfl⟩ := hv.form
      obtain ⟨a2, cp2, rfl⟩ := hv2.form
      obtain ⟨al, cl, rfl⟩ := hvl.form
      exact rows_heavy r c wd a xs.length cp r2 c2 wd2 a2 ys.length cp2 al rows.length cl w (by omega) (by omega) _ rfl (.inr (decide_eq_true (by omega)))
  · obtain ⟨a, cp, rfl⟩ := hv.form
    obtain ⟨a2, cp2, rfl⟩ := hv2.form
    obtain ⟨al, cl, rfl⟩ := hvl.form
    exact rows_heavy r c wd a xs.length cp r2 c2 wd2 a2 ys.length cp2 al rows.length cl w (by omega) (by omega) false (decide_eq_false hl) (.inl rfl)
end Go.Proofs.Ytdddbljkhhbdlaa
