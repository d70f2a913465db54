/-
The contracts of bits.Valid, bits.Class and of the document's own Class, Finite, NaN.
-/
import Derived.Test.YtdddbljkhhbdlaaMath
import Derived.Test.YtdddbljkhhbdlaaProg
import Derived.Handy
namespace Go.Proofs.Ytdddbljkhhbdlaa
open Go.RowKit

theorem and_low (x : Int) (k : Nat) (hk : k ≤ 59) : bits .and .i64 x (2 ^ k - 1) = x % 2 ^ k := by
  have hp : (2 : Int) ^ k ≤ 576460752303423488 := by
    have h : (2 : Nat) ^ k ≤ 2 ^ 59 := Nat.pow_le_pow_right (by omega) hk
    have h2 : ((2 ^ k : Nat) : Int) ≤ ((2 ^ 59 : Nat) : Int) := Int.ofNat_le.2 h
    simpa using h2
  have hp0 : (0 : Int) < 2 ^ k := Int.pow_pos (by omega)
  have hc : ((2 ^ k : Nat) : Int) = (2 : Int) ^ k := by simp
  have e : (BitVec.ofInt 64 x &&& BitVec.ofInt 64 (2 ^ k - 1)).toNat = (x % 2 ^ k).toNat := by
    rw [BitVec.toNat_and, BitVec.toNat_ofInt, BitVec.toNat_ofInt]
    have e1 : (((2 : Int) ^ k - 1) % ((2 ^ 64 : Nat) : Int)).toNat = 2 ^ k - 1 := by
      rw [Int.emod_eq_of_lt (by omega) (by have : ((2 ^ 64 : Nat) : Int) = 18446744073709551616 := by decide
                                           rw [this]; omega)]
      omega
    rw [e1, Nat.and_two_pow_sub_one_eq_mod]
    have h2 : ((2 ^ 64 : Nat) : Int) = 2 ^ k * 2 ^ (64 - k) := by
      rw [← Int.pow_add, show k + (64 - k) = 64 by omega]; simp
    have h3 : (x % ((2 ^ 64 : Nat) : Int)) % 2 ^ k = x % 2 ^ k := Int.emod_emod_of_dvd x ⟨2 ^ (64 - k), h2⟩
    have h4 : 0 ≤ x % ((2 ^ 64 : Nat) : Int) := Int.emod_nonneg _ (by decide)
    have h5 : (((x % ((2 ^ 64 : Nat) : Int)).toNat % 2 ^ k : Nat) : Int) = (x % 2 ^ k) := by
      rw [Int.natCast_emod, Int.toNat_of_nonneg h4, hc, h3]
    omega
  show IntKind.i64.wrap ((BitVec.ofInt 64 x &&& BitVec.ofInt 64 (2 ^ k - 1)).toNat : Int) = _
  rw [e]
  have h6 := Int.emod_nonneg x (b := 2 ^ k) (by omega)
  have h7 := Int.emod_lt_of_pos x hp0
  rw [Int.toNat_of_nonneg h6, i64_small _ h6 (by omega)]

/-- The class of a pattern, by its field and fraction. -/
def clsE (most f t : Int) : Int := if f = most then (if t = 0 then 3 else 4) else if f = 0 then (if t = 0 then 0 else 1) else 2
def fldI (w b : Int) : Int := if w = 64 then (b / 4503599627370496) % 2048 else (b / 8388608) % 256
def frcI (w b : Int) : Int := if w = 64 then b % 4503599627370496 else b % 8388608
def mstI (w : Int) : Int := if w = 64 then 2047 else 255
def clsI (w b : Int) : Int := clsE (mstI w) (fldI w b) (frcI w b)
/-- A pattern of that width. -/
def okB (w b : Int) : Prop := (w = 64 ∧ -9223372036854775808 ≤ b ∧ b ≤ 9223372036854775807) ∨ (w = 32 ∧ 0 ≤ b ∧ b ≤ 4294967295)

set_option maxHeartbeats 1000000 in
theorem valid_any (b w : Int) (h : okB w b) (W : World) : Calls Try.prog 131 #[.int .i64 b, .int .i64 w] W fun e W' => e = .returned (.bool true) ∧ W' = W := by
  rcases h with ⟨rfl, h0, h1⟩ | ⟨rfl, h0, h1⟩
  · go_enter Try.func131, Try.ntmps131
    go_wp2
    go_ret
    exact ⟨rfl, rfl⟩
  · go_enter Try.func131, Try.ntmps131
    go_wp2
    go_ret
    exact ⟨by simp, rfl⟩
set_option maxRecDepth 100000 in
set_option maxHeartbeats 2000000 in
theorem class64 (b : Int) (W : World) : Calls Try.prog 101 #[.int .i64 b, .int .i64 64] W fun e W' => e = .returned (.int .i64 (clsI 64 b)) ∧ Below W.heap.size W W' := by
  have ef : bits BinOp.and IntKind.i64 (b / 4503599627370496) 2047 = fldI 64 b := by
    have := and_low (b / 4503599627370496) 11 (by omega)
    exact this
  have et : bits BinOp.and IntKind.i64 b 4503599627370495 = frcI 64 b := by
    have := and_low b 52 (by omega)
    exact this
  have hF : 0 ≤ fldI 64 b ∧ fldI 64 b ≤ 2047 := by unfold fldI; simp; omega
  have hT : 0 ≤ frcI 64 b ∧ frcI 64 b ≤ 4503599627370495 := by unfold frcI; simp; omega
  have hE : clsI 64 b = clsE 2047 (fldI 64 b) (frcI 64 b) := rfl
  rw [hE]
  obtain ⟨F, hf⟩ : ∃ F, F = fldI 64 b := ⟨_, rfl⟩
  obtain ⟨T, ht⟩ : ∃ T, T = frcI 64 b := ⟨_, rfl⟩
  rw [← hf] at ef hF ⊢
  rw [← ht] at et hT ⊢
  obtain ⟨hF0, hF1⟩ := hF
  obtain ⟨hT0, hT1⟩ := hT
  have EF := Lib.hid ef
  have ET := Lib.hid et
  clear hf ht ef et hE
  have hb0 := (Below.refl W.heap.size W).alloc (Nat.le_refl _) (.cells #[.int .i64 52, .int .i64 2047, .int .i64 (-1074), .int .i64 (-9223372036854775808)] 216)
  have hb1 := hb0.alloc (by simp [go_sem]) (.cells #[.int .i64 52, .int .i64 2047, .int .i64 (-1074), .int .i64 (-9223372036854775808)] 216)
  have HB := Lib.hid hb1
  clear hb0 hb1
  have hc : ((F = 2047 ∧ T = 0) ∨ (F = 2047 ∧ T ≠ 0) ∨ (F = 0 ∧ T = 0) ∨ (F = 0 ∧ T ≠ 0) ∨ (F ≠ 2047 ∧ F ≠ 0)) := by omega
  rcases hc with ⟨hf, ht⟩ | ⟨hf, ht⟩ | ⟨hf, ht⟩ | ⟨hf, ht⟩ | ⟨hf, ht⟩
  · have hR : clsE 2047 F T = 3 := by unfold clsE; simp [hf, ht]
    rw [hR]
    have q1 : (F == 2047) = true := by simp [hf]
    have q2 : (F != 0) = true := by simp [hf]
    have q3 : (T != 0) = false := by simp [ht]
    clear hf ht hR
    go_enter Try.func101, Try.ntmps101
    go_wp2
    go_quiet (fail)
    rw [EF.out, ET.out]
    go_wp2
    go_ret
    exact ⟨rfl, below_drewN HB.out _⟩
  · have hR : clsE 2047 F T = 4 := by unfold clsE; simp [hf, ht]
    rw [hR]
    have q1 : (F == 2047) = true := by simp [hf]
    have q2 : (F != 0) = true := by simp [hf]
    have q3 : (T != 0) = true := by simp [ht]
    clear hf ht hR
    go_enter Try.func101, Try.ntmps101
    go_wp2
    go_quiet (fail)
    rw [EF.out, ET.out]
    go_wp2
    go_ret
    exact ⟨rfl, below_drewN HB.out _⟩
  · have hR : clsE 2047 F T = 0 := by unfold clsE; simp [hf, ht]
    rw [hR]
    have q1 : (F == 2047) = false := by simp [hf]
    have q2 : (F != 0) = false := by simp [hf]
    have q3 : (T != 0) = false := by simp [ht]
    clear hf ht hR
    go_enter Try.func101, Try.ntmps101
    go_wp2
    go_quiet (fail)
    rw [EF.out, ET.out]
    go_wp2
    go_ret
    exact ⟨rfl, below_drewN HB.out _⟩
  · have hR : clsE 2047 F T = 1 := by unfold clsE; simp [hf, ht]
    rw [hR]
    have q1 : (F == 2047) = false := by simp [hf]
    have q2 : (F != 0) = false := by simp [hf]
    have q3 : (T != 0) = true := by simp [ht]
    clear hf ht hR
    go_enter Try.func101, Try.ntmps101
    go_wp2
    go_quiet (fail)
    rw [EF.out, ET.out]
    go_wp2
    go_ret
    exact ⟨rfl, below_drewN HB.out _⟩
  · have hR : clsE 2047 F T = 2 := by unfold clsE; simp [hf, ht]
    rw [hR]
    have q1 : (F == 2047) = false := by simp [hf]
    have q2 : (F != 0) = true := by simp [ht]
    clear hf ht hR
    go_enter Try.func101, Try.ntmps101
    go_wp2
    go_quiet (fail)
    rw [EF.out, ET.out]
    go_wp2
    go_ret
    exact ⟨rfl, below_drewN HB.out _⟩
set_option maxRecDepth 100000 in
set_option maxHeartbeats 2000000 in
theorem class32 (b : Int) (h0 : 0 ≤ b) (h1 : b ≤ 4294967295) (W : World) : Calls Try.prog 101 #[.int .i64 b, .int .i64 32] W fun e W' => e = .returned (.int .i64 (clsI 32 b)) ∧ Below W.heap.size W W' := by
  have ef : bits BinOp.and IntKind.i64 (b / 8388608) 255 = fldI 32 b := by
    have := and_low (b / 8388608) 8 (by omega)
    exact this
  have et : bits BinOp.and IntKind.i64 b 8388607 = frcI 32 b := by
    have := and_low b 23 (by omega)
    exact this
  have hF : 0 ≤ fldI 32 b ∧ fldI 32 b ≤ 255 := by unfold fldI; simp; omega
  have hT : 0 ≤ frcI 32 b ∧ frcI 32 b ≤ 8388607 := by unfold frcI; simp; omega
  have hE : clsI 32 b = clsE 255 (fldI 32 b) (frcI 32 b) := rfl
  rw [hE]
  obtain ⟨F, hf⟩ : ∃ F, F = fldI 32 b := ⟨_, rfl⟩
  obtain ⟨T, ht⟩ : ∃ T, T = frcI 32 b := ⟨_, rfl⟩
  rw [← hf] at ef hF ⊢
  rw [← ht] at et hT ⊢
  obtain ⟨hF0, hF1⟩ := hF
  obtain ⟨hT0, hT1⟩ := hT
  have EF := Lib.hid ef
  have ET := Lib.hid et
  clear hf ht ef et hE
  have hb0 := (Below.refl W.heap.size W).alloc (Nat.le_refl _) (.cells #[.int .i64 23, .int .i64 255, .int .i64 (-149), .int .i64 (2147483648)] 216)
  have hb1 := hb0.alloc (by simp [go_sem]) (.cells #[.int .i64 23, .int .i64 255, .int .i64 (-149), .int .i64 (2147483648)] 216)
  have HB := Lib.hid hb1
  clear hb0 hb1
  have hc : ((F = 255 ∧ T = 0) ∨ (F = 255 ∧ T ≠ 0) ∨ (F = 0 ∧ T = 0) ∨ (F = 0 ∧ T ≠ 0) ∨ (F ≠ 255 ∧ F ≠ 0)) := by omega
  rcases hc with ⟨hf, ht⟩ | ⟨hf, ht⟩ | ⟨hf, ht⟩ | ⟨hf, ht⟩ | ⟨hf, ht⟩
  · have hR : clsE 255 F T = 3 := by unfold clsE; simp [hf, ht]
    rw [hR]
    have q1 : (F == 255) = true := by simp [hf]
    have q2 : (F != 0) = true := by simp [hf]
    have q3 : (T != 0) = false := by simp [ht]
    clear hf ht hR
    go_enter Try.func101, Try.ntmps101
    go_wp2
    go_quiet (fail)
    rw [EF.out, ET.out]
    go_wp2
    go_ret
    exact ⟨rfl, below_drewN HB.out _⟩
  · have hR : clsE 255 F T = 4 := by unfold clsE; simp [hf, ht]
    rw [hR]
    have q1 : (F == 255) = true := by simp [hf]
    have q2 : (F != 0) = true := by simp [hf]
    have q3 : (T != 0) = true := by simp [ht]
    clear hf ht hR
    go_enter Try.func101, Try.ntmps101
    go_wp2
    go_quiet (fail)
    rw [EF.out, ET.out]
    go_wp2
    go_ret
    exact ⟨rfl, below_drewN HB.out _⟩
  · have hR : clsE 255 F T = 0 := by unfold clsE; simp [hf, ht]
    rw [hR]
    have q1 : (F == 255) = false := by simp [hf]
    have q2 : (F != 0) = false := by simp [hf]
    have q3 : (T != 0) = false := by simp [ht]
    clear hf ht hR
    go_enter Try.func101, Try.ntmps101
    go_wp2
    go_quiet (fail)
    rw [EF.out, ET.out]
    go_wp2
    go_ret
    exact ⟨rfl, below_drewN HB.out _⟩
  · have hR : clsE 255 F T = 1 := by unfold clsE; simp [hf, ht]
    rw [hR]
    have q1 : (F == 255) = false := by simp [hf]
    have q2 : (F != 0) = false := by simp [hf]
    have q3 : (T != 0) = true := by simp [ht]
    clear hf ht hR
    go_enter Try.func101, Try.ntmps101
    go_wp2
    go_quiet (fail)
    rw [EF.out, ET.out]
    go_wp2
    go_ret
    exact ⟨rfl, below_drewN HB.out _⟩
  · have hR : clsE 255 F T = 2 := by unfold clsE; simp [hf, ht]
    rw [hR]
    have q1 : (F == 255) = false := by simp [hf]
    have q2 : (F != 0) = true := by simp [ht]
    clear hf ht hR
    go_enter Try.func101, Try.ntmps101
    go_wp2
    go_quiet (fail)
    rw [EF.out, ET.out]
    go_wp2
    go_ret
    exact ⟨rfl, below_drewN HB.out _⟩
end Go.Proofs.Ytdddbljkhhbdlaa
