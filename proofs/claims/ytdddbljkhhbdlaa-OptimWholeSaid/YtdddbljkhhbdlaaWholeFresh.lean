/-
optim.Fresh and optim.kept at the rule whose numbers are all 0: nothing is kept.
-/
import Derived.Test.YtdddbljkhhbdlaaWholeChk
import Derived.Test.YtdddbljkhhbdlaaBoxAt
import Derived.Test.YtdddbljkhhbdlaaFiniteAll
namespace Go.Proofs.Ytdddbljkhhbdlaa
open Go.RowKit

theorem chk_any (wd : Int) (hw : wd = 32 ∨ wd = 64) (w : World) : Calls Try.prog 93 #[rule0, .int .i64 wd] w fun e w' => e = .returned (.int .i64 0) ∧ Below w.heap.size w w' := by
  rcases hw with rfl | rfl
  · exact chk32 w
  · exact chk64 w

theorem finite_ok (r c wd : Int) (v : Value) (xs : List Int) (w : World) (hv : ReadI w v xs) (hx : xs.length ≤ 100000000) (h64 : ∀ x, x ∈ xs → -9223372036854775808 ≤ x ∧ x ≤ 9223372036854775807) (hf : finI r c wd xs = (0, 0)) :
    Calls Try.prog 33 #[matV r c wd v] w fun e w' => e = .returned (.tuple #[.int .i64 0, .int .i64 0]) ∧ Below w.heap.size w w' := by
  have h := finite_any r c wd v xs w hv hx h64
  rw [hf] at h
  exact h

theorem six_kind (w : World) : (Instr.index 182 (.agg #[.int .i64 0, .int .i64 1, .int .i64 1, .int .i64 1, .int .i64 1, .int .i64 2]) (.int .i64 0)).run Try.prog w = .ok (.int .i64 0) w := by kernel_rfl

set_option maxRecDepth 100000 in
set_option maxHeartbeats 2000000 in
theorem fresh_any (r c wd : Int) (v : Value) (xs : List Int) (w : World) (hw : wd = 32 ∨ wd = 64) (hv : ReadI w v xs) (hx : xs.length ≤ 100000000) (h64 : ∀ x, x ∈ xs → -9223372036854775808 ≤ x ∧ x ≤ 9223372036854775807) (hf : finI r c wd xs = (0, 0)) :
    Calls Try.prog 140 #[rule0, matV r c wd v] w fun e w' => e = .returned (.tuple #[.slice none 0 0, .int .i64 0]) ∧ Below w.heap.size w w' := by
  have HF : Hid (∀ w1, Below w.heap.size w w1 → Calls Try.prog 33 #[matV r c wd v] w1 fun e w' => e = .returned (.tuple #[.int .i64 0, .int .i64 0]) ∧ Below w1.heap.size w1 w') :=
    Lib.hid (fun w1 hb => finite_ok r c wd v xs w1 (hv.below hb) hx h64 hf)
  have HW := Lib.hid hw
  have hk := six_kind
  clear hv hx h64 hf hw
  unfold rule0 matV
  go_enter Try.func140, Try.ntmps140
  go_wp2_with fail
  obtain ⟨w1, e1, hR, hb1, hs1⟩ := tbox w 69 #[.int .i64 0, .int .i64 0, .int .i64 0, .int .i64 0, .int .i64 0, .int .i64 0, .int .i64 0]
  rw [← e1]
  obtain ⟨w2, e2, hM, hb2, hs2⟩ := boxM w1 r c wd v
  rw [← e2]
  rw [hs1] at hM
  have hR := hR.below hb2
  have hb := hb1.trans (hb2.mono hb1.size)
  clear e1 e2 hs1 hs2 hb1 hb2
  refine (HF.out _ hb).mono ?_
  rintro e w3 ⟨rfl, hb3⟩
  have hR := hR.below hb3
  have hM := hM.below hb3
  have hb := hb.trans (hb3.mono hb.size)
  clear hb3
  have r0 := hR.cell 0 (.int .i64 0) rfl
  have r1 := hR.cell 1 (.int .i64 0) rfl
  have r2 := hR.cell 2 (.int .i64 0) rfl
  have r3 := hR.cell 3 (.int .i64 0) rfl
  have r4 := hR.cell 4 (.int .i64 0) rfl
  have r5 := hR.cell 5 (.int .i64 0) rfl
  have r6 := hR.cell 6 (.int .i64 0) rfl
  have m2 := hM.c2
  go_wp2_with fail
  refine (chk_any _ HW.out _).mono ?_
  rintro e w4 ⟨rfl, hb4⟩
  have hR := hR.below hb4
  have hb := hb.trans (hb4.mono hb.size)
  clear hM hb4 r0 r1 r2 r3 r4 r5 r6 m2
  have r0 := hR.cell 0 (.int .i64 0) rfl
  go_wp2_with (rw [hk])
  go_loop [10, 34] (fun o i => o = .slice none 0 0 ∧ i = .int .i64 0) (fun _ _ => 0)
  case atStart => exact ⟨rfl, rfl⟩
  case round =>
    obtain ⟨rfl, rfl⟩ := hrel
    go_wp2_with fail
    go_ret2
    exact ⟨rfl, hb⟩

set_option maxRecDepth 100000 in
set_option maxHeartbeats 2000000 in
theorem kept_any (r c wd : Int) (v : Value) (xs : List Int) (w : World) (hw : wd = 32 ∨ wd = 64) (hv : ReadI w v xs) (hx : xs.length ≤ 100000000) (h64 : ∀ x, x ∈ xs → -9223372036854775808 ≤ x ∧ x ≤ 9223372036854775807) (hf : finI r c wd xs = (0, 0)) :
    Calls Try.prog 97 #[rule0, matV r c wd v, .slice none 0 0] w fun e w' => e = .returned (.bool true) ∧ Below w.heap.size w w' := by
  have HF : Hid (∀ w1, Below w.heap.size w w1 → Calls Try.prog 140 #[rule0, matV r c wd v] w1 fun e w' => e = .returned (.tuple #[.slice none 0 0, .int .i64 0]) ∧ Below w1.heap.size w1 w') :=
    Lib.hid (fun w1 hb => fresh_any r c wd v xs w1 hw (hv.below hb) hx h64 hf)
  clear hv hx h64 hf hw
  unfold rule0 matV at HF ⊢
  go_enter Try.func97, Try.ntmps97
  go_wp2_with fail
  refine (HF.out _ (((Below.refl _ w).alloc (Nat.le_refl _) _).alloc (by simp) _)).mono ?_
  rintro e w3 ⟨rfl, hb3⟩
  have hb : Below w.heap.size w w3 := (((Below.refl _ w).alloc (Nat.le_refl _) _).alloc (by simp) _).trans (hb3.mono (by simp; omega))
  clear hb3 HF
  go_wp2_with fail
  go_loop [26] (fun i => i = .int .i64 0) (fun _ => 0)
  case atStart => rfl
  case round =>
    obtain rfl := hrel
    go_wp2_with fail
    go_ret
    exact ⟨rfl, hb⟩
end Go.Proofs.Ytdddbljkhhbdlaa
