/-
tensor.Finite, of whatever matrix.
-/
import Derived.Test.YtdddbljkhhbdlaaFinite
namespace Go.Proofs.Ytdddbljkhhbdlaa
open Go.RowKit

theorem matE_ok {r c wd : Int} {xs : List Int} (h : matE r c wd xs = 0) : szE r c wd = 0 ∧ (xs.length : Int) = r * c ∧ fitI wd xs = true := by
  unfold matE at h
  by_cases h1 : szE r c wd = 0
  · rw [if_neg (by simp [h1])] at h
    by_cases h2 : (xs.length : Int) = r * c
    · rw [if_neg (by simp [h2])] at h
      by_cases h3 : fitI wd xs = true
      · exact ⟨h1, h2, h3⟩
      · rw [if_neg h3] at h; omega
    · rw [if_pos h2] at h; omega
  · rw [if_pos h1] at h; exact absurd h h1

set_option maxRecDepth 100000 in
set_option maxHeartbeats 2000000 in
theorem finite_bad (r c wd : Int) (v : Value) (xs : List Int) (w : World) (hv : ReadI w v xs) (hx : xs.length ≤ 100000000) (hE : matE r c wd xs ≠ 0) :
    Calls Try.prog 33 #[matV r c wd v] w fun e w' => e = .returned (.tuple #[.int .i64 0, .int .i64 (matE r c wd xs)]) ∧ Below w.heap.size w w' := by
  have HV := Lib.hid hv
  obtain ⟨E, he⟩ : ∃ E, E = matE r c wd xs := ⟨_, rfl⟩
  rw [← he] at hE ⊢
  have hEb : (E != 0) = true := by simp [hE]
  have HE := Lib.hid he
  clear he hE hv
  unfold matV
  go_enter Try.func33, Try.ntmps33
  go_wp2_with fail
  obtain ⟨w1, hw1, hM, hA, hB, hb1, hs1⟩ := boxes3 w r c wd v
  rw [← hw1]
  clear hw1
  have c0 := hM.c0
  have c1 := hM.c1
  have c2 := hM.c2
  have c3 := hM.c3
  refine (check_any r c wd v xs w1 (HV.out.below (hb1.mono (Nat.le_refl _))) hx).mono ?_
  rintro e w2 ⟨rfl, hb2⟩
  rw [← HE.out]
  have hA2 := hA.below hb2
  have hB2 := hB.below hb2
  have hb3 := hb1.trans (hb2.mono hb1.size)
  clear hM hA hB hb1 hb2 c0 c1 c2 c3
  have a0 := hA2.cell
  have a1 := hA2.free
  have b0 := hB2.cell
  have b1 := hB2.free
  go_wp2
  have g1 := grownBy_setCell w2 (w.heap.size + 1) 0 (.int .i64 0)
  have g2 := grownBy_setCell (w2.setCell ⟨w.heap.size + 1, 0, none⟩ (.int .i64 0)) (w.heap.size + 1 + 1) 0 (.int .i64 E)
  have e0 := ((hA2.set (.int .i64 0)).grown g2 (by simp)).cell
  have e1 := ((hB2.grown g1 (by simp)).set (.int .i64 E)).cell
  refine bodyPost_ret (by simp [results, Try.results33, go_sem, e0, e1]; try rfl) rfl ?_
  exact ⟨rfl, (hb3.grown g1 hb3.size (fun r e => by cases e; omega)).grown g2 (by simpa [World.setCell] using hb3.size) (fun r e => by cases e; omega)⟩

/-- What Finite answers. -/
def finI (r c wd : Int) (xs : List Int) : Int × Int := if matE r c wd xs = 0 then stopI wd xs else (0, matE r c wd xs)

theorem okB_of {wd : Int} {xs : List Int} (hw : wd = 32 ∨ wd = 64) (hf : fitI wd xs = true) (h64 : ∀ x, x ∈ xs → -9223372036854775808 ≤ x ∧ x ≤ 9223372036854775807) : ∀ x, x ∈ xs → okB wd x := by
  intro x hx
  rcases hw with rfl | rfl
  · right
    have h0 : ((32 : Int) == 64) = false := by decide
    unfold fitI at hf
    rw [h0, Bool.false_or] at hf
    exact ⟨rfl, of_decide_eq_true (List.all_eq_true.1 hf x hx)⟩
  · exact .inl ⟨rfl, h64 x hx⟩

theorem finite_any (r c wd : Int) (v : Value) (xs : List Int) (w : World) (hv : ReadI w v xs) (hx : xs.length ≤ 100000000) (h64 : ∀ x, x ∈ xs → -9223372036854775808 ≤ x ∧ x ≤ 9223372036854775807) :
    Calls Try.prog 33 #[matV r c wd v] w fun e w' => e = .returned (.tuple #[.int .i64 (finI r c wd xs).1, .int .i64 (finI r c wd xs).2]) ∧ Below w.heap.size w w' := by
  by_cases hE : matE r c wd xs = 0
  · have hf : finI r c wd xs = stopI wd xs := by unfold finI; rw [if_pos hE]
    rw [hf]
    obtain ⟨hs, hl, hfit⟩ := matE_ok hE
    obtain ⟨hw, hr1, hc1, hr2, hc2, hm⟩ := szE_ok hs
    have hok := okB_of hw hfit h64
    obtain ⟨R, rfl⟩ := Int.eq_ofNat_of_zero_le (show 0 ≤ r by omega)
    obtain ⟨C, rfl⟩ := Int.eq_ofNat_of_zero_le (show 0 ≤ c by omega)
    have hl' : xs.length = R * C := by rw [← Int.natCast_mul] at hl; exact Int.ofNat.inj hl
    have hm' : R * C ≤ 4096 := by rw [← Int.natCast_mul] at hm; omega
    rcases hv with ⟨_, rfl⟩ | ⟨b, off, cp, rfl, hcp, hcell⟩
    · exfalso
      have : 1 ≤ R * C := Nat.mul_pos (by omega) (by omega)
      simp at hl'
      omega
    · have := finite_in R C wd b off cp xs w (by omega) (by omega) (by omega) (by omega) hm' hl' hE hcp hcell hok
      rw [← hl'] at this
      exact this
  · have hf : finI r c wd xs = (0, matE r c wd xs) := by unfold finI; rw [if_neg hE]
    rw [hf]
    exact finite_bad r c wd v xs w hv hx hE
end Go.Proofs.Ytdddbljkhhbdlaa
