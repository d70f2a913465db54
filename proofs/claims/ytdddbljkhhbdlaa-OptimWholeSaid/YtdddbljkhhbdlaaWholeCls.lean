/-
The class of a small whole number's pattern: finite, and of its width.
-/
import Derived.Test.YtdddbljkhhbdlaaWholeBits2
namespace Go.Proofs.Ytdddbljkhhbdlaa
open Go.RowKit

theorem rung_lt (f : Ieee.Format) (x : Nat) (neg : Bool) (m : Nat) (e : Int) (hb : f.binade ≤ f.infRung) (h : f.read x = .number neg m e) : x % f.signWeight < f.infRung := by
  unfold Ieee.Format.read at h
  simp only at h
  split at h
  · omega
  · split at h
    · assumption
    · split at h <;> cases h
theorem rung64 (n : Int) (h : SmallN n) : floatOfInt .f64 n % 9223372036854775808 < 9218868437227405312 := by
  obtain ⟨T, _, h1⟩ := read_int .f64 n h
  exact rung_lt Ieee.double _ _ _ _ (by decide) h1
theorem rung32 (n : Int) (h : SmallN n) : floatOfInt .f32 n % 2147483648 < 2139095040 := by
  obtain ⟨T, _, h1⟩ := read_int .f32 n h
  exact rung_lt Ieee.single _ _ _ _ (by decide) h1

theorem cls_word64 (x : Nat) (hr : x % 9223372036854775808 < 9218868437227405312) : clsI 64 (wrap64 x) < 3 := by
  have hf : (wrap64 (x : Int) / 4503599627370496) % 2048 ≠ 2047 := by
    simp only [wrap64]
    omega
  unfold clsI clsE mstI fldI
  rw [if_pos rfl, if_pos rfl, if_neg hf]
  split
  · split <;> omega
  · omega
theorem cls_word32 (x : Nat) (hr : x % 2147483648 < 2139095040) : clsI 32 (x : Int) < 3 := by
  have hf : ((x : Int) / 8388608) % 256 ≠ 255 := by omega
  have n1 : ¬ (32 : Int) = 64 := by decide
  unfold clsI clsE mstI fldI
  rw [if_neg n1, if_neg n1, if_neg hf]
  split
  · split <;> omega
  · omega
theorem cls_int (n wd : Int) (h : SmallN n) (hw : wd = 32 ∨ wd = 64) : clsI wd (patI wd n) < 3 := by
  rcases hw with rfl | rfl
  · rw [patI32, back32 _ (word32 n)]
    exact cls_word32 _ (rung32 n h)
  · rw [patI64]
    exact cls_word64 _ (rung64 n h)
theorem pat_fits (n wd : Int) (hw : wd = 32 ∨ wd = 64) : (wd = 64 ∨ 0 ≤ patI wd n ∧ patI wd n ≤ 4294967295) ∧ -9223372036854775808 ≤ patI wd n ∧ patI wd n ≤ 9223372036854775807 := by
  rcases hw with rfl | rfl
  · rw [patI32, back32 _ (word32 n)]
    have := word32 n
    omega
  · rw [patI64]
    refine ⟨.inl rfl, ?_⟩
    simp only [wrap64]
    omega
end Go.Proofs.Ytdddbljkhhbdlaa
