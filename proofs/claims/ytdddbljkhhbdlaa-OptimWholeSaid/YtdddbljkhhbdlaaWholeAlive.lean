/-
pupillaw17.alive: true, whatever the world.
-/
import Derived.Test.YtdddbljkhhbdlaaWholeTop
namespace Go.Proofs.Ytdddbljkhhbdlaa
open Go.RowKit

theorem stopFrom_ok (wd : Int) : ∀ (xs : List Int) (i : Nat), (∀ x, x ∈ xs → clsI wd x < 3) → stopFrom wd i xs = (0, 0)
  | [], _, _ => rfl
  | x :: r, i, h => by
    unfold stopFrom
    rw [if_pos (h x (by simp))]
    exact stopFrom_ok wd r (i + 1) (fun y hy => h y (by simp [hy]))
theorem finI_pats (n : Nat) (hn1 : 1 ≤ n) (hn : n ≤ 60) (wd : Int) (hw : wd = 32 ∨ wd = 64) (N : Nat → Int) (hN : ∀ k, k < n → SmallN (N k)) : finI 1 n wd (rangeI n fun k => patI wd (N k)) = (0, 0) := by
  have hs : szE 1 n wd = 0 := by
    unfold szE
    rw [if_neg (by omega), if_neg (by omega), if_neg (by omega)]
  have hf : fitI wd (rangeI n fun k => patI wd (N k)) = true := by
    unfold fitI
    rcases hw with rfl | rfl
    · rw [Bool.or_eq_true]
      right
      rw [List.all_eq_true]
      refine rangeI_all n _ _ (fun k hk => decide_eq_true ?_)
      have := (pat_fits (N k) 32 (.inl rfl)).1
      omega
    · rfl
  have hm : matE 1 n wd (rangeI n fun k => patI wd (N k)) = 0 := by
    unfold matE
    rw [if_neg (by rw [hs]; simp), if_neg (by rw [rangeI_length]; omega), if_pos hf]
  unfold finI
  rw [if_pos hm]
  exact stopFrom_ok wd _ 0 (rangeI_all n _ _ fun k hk => cls_int (N k) wd (hN k hk) hw)

set_option maxRecDepth 100000 in
set_option maxHeartbeats 1000000 in
theorem number_any (b : Int) (w : World) : Calls Try.prog 90 #[.int .i64 b] w fun e w' => ∃ g, e = .returned (matV 1 1 64 (.slice (some ⟨g, 0, none⟩) 1 1)) ∧ w.heap.size ≤ g ∧ TBox w' g 3 #[.int .i64 b] ∧ Below w.heap.size w w' := by
  unfold matV
  go_enter Try.func90, Try.ntmps90
  go_wp2
  obtain ⟨w1, e1, hO, hb1, hs1⟩ := boxM w 1 1 64 (.slice (some ⟨w.heap.size + 1, 0, none⟩) 1 1)
  rw [← e1]
  obtain ⟨w2, e2, hB, hb2, hs2⟩ := tbox w1 3 #[.int .i64 b]
  rw [← e2]
  rw [hs1] at hB
  replace hO := hO.below hb2
  have z0 := hO.c0
  have z1 := hO.c1
  have z2 := hO.c2
  have z3 := hO.c3
  refine bodyPost_ret (by simp [results, Try.results90, go_sem, z0, z1, z2, z3]; try rfl) rfl ?_
  exact ⟨_, rfl, by omega, hB, hb1.trans (hb2.mono hb1.size)⟩

/-- A step at small whole numbers, of either width. -/
def WholeOk (n : Nat) (wd : Int) (X G : Nat → Int) (w : World) (e : Ending) (w' : World) : Prop :=
  ∃ gB, e = .returned (.tuple #[matV 1 n wd (.slice (some ⟨gB, 0, none⟩) n n), .slice none 0 0, .int .i64 0, .int .i64 0]) ∧ w.heap.size ≤ gB ∧ TBox w' gB 3 (outC n n fun k => patI wd (X k - G k)) ∧ Below w.heap.size w w'
theorem whole_step (n : Nat) (hn1 : 1 ≤ n) (hn : n ≤ 60) (wd : Int) (hw : wd = 32 ∨ wd = 64) (bw ow cw bg og cg : Nat) (X G : Nat → Int) (s : Nat) (hs : s ≤ 8) (w : World)
    (hX : ∀ k, k < n → SmallN (X k)) (hG : ∀ k, k < n → SmallN (G k * 2 ^ s)) (hD : ∀ k, k < n → SmallN (X k - G k))
    (hcW : ∀ k, k < n → w.cell? ⟨bw, ow + k, none⟩ = some (.int .i64 (patI wd (X k)))) (hcG : ∀ k, k < n → w.cell? ⟨bg, og + k, none⟩ = some (.int .i64 (patI wd (G k * 2 ^ s)))) (hcw : n ≤ cw) (hcg : n ≤ cg) :
    Calls Try.prog 32 #[rule0, .int .i64 (rateI s), matV 1 n wd (.slice (some ⟨bw, ow, none⟩) n cw), matV 1 n wd (.slice (some ⟨bg, og, none⟩) n cg), .slice none 0 0] w (WholeOk n wd X G w) := by
  have f1 := finI_pats n hn1 hn wd hw X hX
  have f2 := finI_pats n hn1 hn wd hw (fun k => G k * 2 ^ s) hG
  have r1 : ∀ k, k < n → -9223372036854775808 ≤ patI wd (X k) ∧ patI wd (X k) ≤ 9223372036854775807 := fun k _ => (pat_fits (X k) wd hw).2
  have r2 : ∀ k, k < n → -9223372036854775808 ≤ patI wd (G k * 2 ^ s) ∧ patI wd (G k * 2 ^ s) ≤ 9223372036854775807 := fun k _ => (pat_fits (G k * 2 ^ s) wd hw).2
  rcases hw with rfl | rfl
  · exact top32 n hn1 hn bw ow cw bg og cg (fun k => patI 32 (X k)) (fun k => patI 32 (G k * 2 ^ s)) (fun k => patI 32 (X k - G k)) s hs w (fun k hk => elem32 s hs (X k) (G k) (hX k hk) (hG k hk) (hD k hk)) hcW hcG hcw hcg f1 f2 r1 r2
  · exact top64 n hn1 hn bw ow cw bg og cg (fun k => patI 64 (X k)) (fun k => patI 64 (G k * 2 ^ s)) (fun k => patI 64 (X k - G k)) s hs w (fun k hk => elem64 s hs (X k) (G k) (hX k hk) (hG k hk) (hD k hk)) hcW hcG hcw hcg f1 f2 r1 r2

theorem pat_zero : patI 64 0 = 0 := by rw [patI64]; decide +kernel
theorem pat_one : patI 64 1 = 4607182418800017408 := by rw [patI64]; decide +kernel
theorem pat_two : patI 64 (1 * 2 ^ 1) = 4611686018427387904 := by rw [patI64]; decide +kernel

set_option maxRecDepth 100000 in
set_option maxHeartbeats 1000000 in
theorem alive17 (w : World) : Calls Try.prog 30 #[] w fun e w' => e = .returned (.bool true) ∧ Below w.heap.size w w' := by
  have HS : Hid (∀ W b1 b2, TBox W b1 3 #[.int .i64 4607182418800017408] → TBox W b2 3 #[.int .i64 4611686018427387904] → Calls Try.prog 32 #[rule0, .int .i64 4602678819172646912, matV 1 1 64 (.slice (some ⟨b1, 0, none⟩) 1 1), matV 1 1 64 (.slice (some ⟨b2, 0, none⟩) 1 1), .slice none 0 0] W fun e w' =>
      ∃ gB, e = .returned (.tuple #[matV 1 1 64 (.slice (some ⟨gB, 0, none⟩) 1 1), .slice none 0 0, .int .i64 0, .int .i64 0]) ∧ w'.cell? ⟨gB, 0, none⟩ = some (.int .i64 0) ∧ Below W.heap.size W w') := by
    refine Lib.hid (fun W b1 b2 h1 h2 => ?_)
    refine (whole_step 1 (by decide) (by decide) 64 (.inr rfl) b1 0 1 b2 0 1 (fun _ => 1) (fun _ => 1) 1 (by decide) W (fun _ _ => by unfold SmallN; decide) (fun _ _ => by unfold SmallN; decide) (fun _ _ => by unfold SmallN; decide) ?_ ?_ (by decide) (by decide)).mono ?_
    · intro k hk
      obtain rfl : k = 0 := by omega
      rw [pat_one]
      exact h1.cell 0 _ rfl
    · intro k hk
      obtain rfl : k = 0 := by omega
      rw [pat_two]
      exact h2.cell 0 _ rfl
    · rintro e w' ⟨gB, rfl, _, hB, hb⟩
      refine ⟨gB, rfl, ?_, hb⟩
      have := hB.cell 0 _ (outC_at _ _ _ 0 (by decide))
      rw [if_pos (by decide), show (1 : Int) - 1 = 0 from rfl, pat_zero] at this
      exact this
  unfold rule0 matV at HS
  have hn := number_any
  unfold matV at hn
  go_enter Try.func30, Try.ntmps30
  go_wp2_with fail
  refine (hn _ _).mono ?_
  rintro e w1 ⟨b1, rfl, _, h1, hb1⟩
  go_wp2_with fail
  refine (hn _ _).mono ?_
  rintro e w2 ⟨b2, rfl, _, h2, hb2⟩
  replace h1 := h1.below hb2
  have hb := hb1.trans (hb2.mono hb1.size)
  clear hb1 hb2 hn
  go_wp2_with fail
  refine (HS.out _ _ _ h1 h2).mono ?_
  rintro e w3 ⟨gB, rfl, c0, hb3⟩
  replace hb := hb.trans (hb3.mono hb.size)
  have hz := World.block_lt_of_cell? _ _ c0
  simp only at hz
  clear hb3 h1 h2 HS
  go_wp2_with fail
  go_ret
  exact ⟨rfl, hb.alloc hb.size _⟩
end Go.Proofs.Ytdddbljkhhbdlaa
