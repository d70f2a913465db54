/-
Whole numbers as floats: exact, where they are small.
-/
import Derived.Laws.FloatArith
namespace Go.Proofs.Ytdddbljkhhbdlaa
open Go

/-- The word of 2 to the minus s. -/
def rateW : FloatKind → Nat → Nat
  | .f64, s => (1023 - s) * 4503599627370496
  | .f32, s => (127 - s) * 8388608

theorem cut_zero (neg : Bool) (n : Nat) : Ieee.Toward.even.cut neg n 0 = n := by
  unfold Ieee.Toward.cut
  simp [Nat.mod_one]

theorem cut_even_exact (neg : Bool) (m t d : Nat) (h : d ≤ t) (h0 : 0 < m) : Ieee.Toward.even.cut neg (m * 2 ^ t) d = m * 2 ^ (t - d) := by
  have hp : 0 < m * 2 ^ t := Nat.mul_pos h0 (Nat.two_pow_pos _)
  have h2 : d ≤ (m * 2 ^ t).log2 + 2 := by
    have : t ≤ (m * 2 ^ t).log2 := (Nat.le_log2 (by omega)).2 (Nat.le_mul_of_pos_left _ h0)
    omega
  have he : m * 2 ^ t = m * 2 ^ (t - d) * 2 ^ d := by rw [Nat.mul_assoc, ← Nat.pow_add, Nat.sub_add_cancel h]
  have hd : 0 < 2 ^ d := Nat.two_pow_pos d
  unfold Ieee.Toward.cut
  rw [Nat.min_eq_left h2, Nat.one_shiftLeft]
  simp only [he, Nat.mul_div_cancel _ hd, Nat.mul_mod_left]
  have h3 : ¬ 2 ^ d < 2 * 0 := by omega
  have h4 : (2 ^ d == 2 * 0) = false := by simp
  simp [h4]

theorem log2_mul_pow (m t : Nat) (h0 : 0 < m) : (m * 2 ^ t).log2 = m.log2 + t := by
  have hp : m * 2 ^ t ≠ 0 := Nat.ne_of_gt (Nat.mul_pos h0 (Nat.two_pow_pos _))
  apply Nat.le_antisymm
  · apply Nat.lt_succ_iff.1
    rw [Nat.log2_lt hp, Nat.succ_eq_add_one, Nat.add_right_comm, Nat.pow_add]
    exact Nat.mul_lt_mul_of_pos_right (Nat.lt_log2_self) (Nat.two_pow_pos _)
  · rw [Nat.le_log2 hp, Nat.pow_add]
    exact Nat.mul_le_mul_right _ (Nat.log2_self_le (by omega))

/-- A number that fits its format: the place at which it is written doesn't tell. -/
theorem nearest_scaled (f : Ieee.Format) (neg : Bool) (m t : Nat) (e : Int) (h0 : 0 < m) (hm : m.log2 ≤ f.fractionBits) (he : f.leastPlace ≤ e) :
    f.nearest neg (m * 2 ^ t) (e - t) = f.nearest neg m e := by
  have h1 : m * 2 ^ t ≠ 0 := Nat.ne_of_gt (Nat.mul_pos h0 (Nat.two_pow_pos _))
  have h2 : m ≠ 0 := by omega
  unfold Ieee.Format.nearest
  rw [if_neg h1, if_neg h2, log2_mul_pow m t h0]
  have hl : e - (t : Int) + ((m.log2 + t : Nat) : Int) - (f.fractionBits : Int) = e + (m.log2 : Int) - (f.fractionBits : Int) := by omega
  rw [hl]
  obtain ⟨last, hlast⟩ : ∃ last, last = max (e + (m.log2 : Int) - (f.fractionBits : Int)) f.leastPlace := ⟨_, rfl⟩
  simp only [← hlast]
  have h3 : last ≤ e := by omega
  obtain ⟨A, hA⟩ : ∃ A : Nat, e = last + A := ⟨(e - last).toNat, by omega⟩
  have e1 : (last - e).toNat = 0 := by omega
  have e2 : (e - last).toNat = A := by omega
  rw [e1, e2, cut_zero]
  have key : Ieee.Toward.even.cut neg ((m * 2 ^ t) <<< (e - (t : Int) - last).toNat) (last - (e - (t : Int))).toNat = m <<< A := by
    rw [Nat.shiftLeft_eq, Nat.shiftLeft_eq]
    by_cases hAt : t ≤ A
    · have e3 : (e - (t : Int) - last).toNat = A - t := by omega
      have e4 : (last - (e - (t : Int))).toNat = 0 := by omega
      rw [e3, e4, cut_zero, Nat.mul_assoc, ← Nat.pow_add]
      congr 2
      omega
    · have e3 : (e - (t : Int) - last).toNat = 0 := by omega
      have e4 : (last - (e - (t : Int))).toNat = t - A := by omega
      rw [e3, e4, Nat.pow_zero, Nat.mul_one, cut_even_exact neg m t (t - A) (by omega) h0]
      congr 2
      omega
  rw [key]

theorem read_nearest (f : Ieee.Format) (neg : Bool) (m : Nat) (h0 : 0 < m) (hm : m.log2 ≤ f.fractionBits) (hL : f.leastPlace ≤ (m.log2 : Int) - f.fractionBits) (hinf : ((-f.leastPlace).toNat + 2) * f.binade ≤ f.infRung) :
    f.read (f.nearest neg m 0) = .number neg (m * 2 ^ (f.fractionBits - m.log2)) ((m.log2 : Int) - f.fractionBits) := by
  have hl1 : 2 ^ m.log2 ≤ m := Nat.log2_self_le (by omega)
  have hl2 : m < 2 ^ (m.log2 + 1) := Nat.lt_log2_self
  obtain ⟨a, ha⟩ : ∃ a : Nat, (m.log2 : Int) - f.fractionBits = f.leastPlace + a := ⟨((m.log2 : Int) - f.fractionBits - f.leastPlace).toNat, by omega⟩
  obtain ⟨d, hd⟩ : ∃ d : Nat, f.fractionBits = m.log2 + d := ⟨f.fractionBits - m.log2, by omega⟩
  have hB : 0 < f.binade := Nat.two_pow_pos _
  have hM1 : f.binade ≤ m * 2 ^ d := by
    unfold Ieee.Format.binade
    rw [hd, Nat.pow_add]
    exact Nat.mul_le_mul_right _ hl1
  have hM2 : m * 2 ^ d < 2 * f.binade := by
    unfold Ieee.Format.binade
    have : m * 2 ^ d < 2 ^ (m.log2 + 1) * 2 ^ d := Nat.mul_lt_mul_of_pos_right hl2 (Nat.two_pow_pos _)
    rw [hd, Nat.pow_add]
    rw [Nat.pow_succ] at this
    have e : 2 ^ m.log2 * 2 * 2 ^ d = 2 * (2 ^ m.log2 * 2 ^ d) := by rw [Nat.mul_comm (2 ^ m.log2) 2, Nat.mul_assoc]
    omega
  obtain ⟨fr, hfr⟩ : ∃ fr, m * 2 ^ d = f.binade + fr := ⟨m * 2 ^ d - f.binade, by omega⟩
  have hfr2 : fr < f.binade := by omega
  have hR : f.nearest neg m 0 = f.word neg (a * f.binade + (f.binade + fr)) := by
    unfold Ieee.Format.nearest
    rw [if_neg (by omega)]
    have e0 : max (0 + (m.log2 : Int) - (f.fractionBits : Int)) f.leastPlace = f.leastPlace + a := by omega
    simp only [e0]
    have e1 : (f.leastPlace + (a : Int) - 0).toNat = 0 := by omega
    have e2 : (0 - (f.leastPlace + (a : Int))).toNat = d := by omega
    have e3 : (f.leastPlace + (a : Int) - f.leastPlace).toNat = a := by omega
    rw [e1, e2, e3, cut_zero, Nat.shiftLeft_eq, hfr, Nat.min_eq_left]
    have h1 : a + 2 ≤ (-f.leastPlace).toNat + 2 := by omega
    have h2 : (a + 2) * f.binade ≤ ((-f.leastPlace).toNat + 2) * f.binade := Nat.mul_le_mul_right _ h1
    rw [Nat.add_mul] at h2
    omega
  have hlt : a * f.binade + (f.binade + fr) < f.infRung := by
    have h1 : a + 2 ≤ (-f.leastPlace).toNat + 2 := by omega
    have h2 : (a + 2) * f.binade ≤ ((-f.leastPlace).toNat + 2) * f.binade := Nat.mul_le_mul_right _ h1
    rw [Nat.add_mul] at h2
    omega
  have hsg := f.infRung_lt
  obtain ⟨R, hRR⟩ : ∃ R, R = a * f.binade + (f.binade + fr) := ⟨_, rfl⟩
  rw [hR, ← hRR]
  have hRm : R % f.binade = fr := by
    rw [hRR, ← Nat.add_assoc, ← Nat.succ_mul, Nat.mul_comm, Nat.mul_add_mod, Nat.mod_eq_of_lt hfr2]
  have hRd : R / f.binade = a + 1 := by
    rw [hRR, ← Nat.add_assoc, ← Nat.succ_mul, Nat.mul_comm, Nat.mul_add_div hB, Nat.div_eq_of_lt hfr2]
  have hsp : 0 < f.signWeight := Nat.two_pow_pos _
  have hw1 : f.word neg R / f.signWeight % 2 = if neg then 1 else 0 := by
    unfold Ieee.Format.word
    cases neg
    · simp only [Bool.false_eq_true, if_false]
      rw [Nat.div_eq_of_lt (by omega)]
    · simp only [if_true]
      rw [Nat.add_div_left _ hsp, Nat.div_eq_of_lt (by omega)]
  have hw2 : f.word neg R % f.signWeight = R := by
    unfold Ieee.Format.word
    cases neg
    · simp only [Bool.false_eq_true, if_false]
      exact Nat.mod_eq_of_lt (by omega)
    · simp only [if_true]
      rw [Nat.add_mod_left]
      exact Nat.mod_eq_of_lt (by omega)
  unfold Ieee.Format.read
  simp only [hw1, hw2]
  rw [if_neg (by omega), if_pos (by omega), hRm, hRd]
  have e5 : f.fractionBits - m.log2 = d := by omega
  rw [e5, hfr]
  congr 1
  · cases neg <;> rfl
  · omega

/-- A whole number, small. -/
def SmallN (n : Int) : Prop := n.natAbs < 16777216

theorem small_log {m : Nat} (h : m < 16777216) : m.log2 ≤ 23 := by
  by_cases h0 : m = 0
  · subst h0; decide
  · have := (Nat.log2_lt (k := 24) h0).2 h
    omega

theorem frac_ge (k : FloatKind) : 23 ≤ k.format.fractionBits := by cases k <;> decide
theorem least_le (k : FloatKind) : k.format.leastPlace ≤ -(k.format.fractionBits : Int) := by cases k <;> decide
theorem inf_ok (k : FloatKind) : ((-k.format.leastPlace).toNat + 2) * k.format.binade ≤ k.format.infRung := by cases k <;> decide +kernel

theorem ofInt_eq (k : FloatKind) (n : Int) : floatOfInt k n = k.format.nearest (decide (n < 0)) n.natAbs 0 := rfl

theorem read_int (k : FloatKind) (n : Int) (h : SmallN n) : ∃ T : Nat, (T : Int) ≤ -k.format.leastPlace ∧ k.decode (floatOfInt k n) = .number (decide (n < 0)) (n.natAbs * 2 ^ T) (-(T : Int)) := by
  by_cases h0 : n = 0
  · subst h0
    cases k
    · exact ⟨149, by decide, by decide +kernel⟩
    · exact ⟨1074, by decide, by decide +kernel⟩
  · have hl := small_log h
    have hf := frac_ge k
    have hle := least_le k
    refine ⟨k.format.fractionBits - n.natAbs.log2, by omega, ?_⟩
    rw [ofInt_eq]
    show k.format.read _ = _
    rw [read_nearest k.format _ n.natAbs (by omega) (by omega) (by omega) (inf_ok k)]
    congr 1
    omega

/-- What stands for a small whole number is written as that number. -/
theorem write_int (k : FloatKind) (neg : Bool) (m t : Nat) (h0 : 0 < m) (h : m < 16777216) : k.format.nearest neg (m * 2 ^ t) (-(t : Int)) = k.format.nearest neg m 0 := by
  have hl := small_log h
  have hf := frac_ge k
  have hle := least_le k
  have := nearest_scaled k.format neg m t 0 h0 (by omega) (by omega)
  rwa [Int.zero_sub] at this

theorem signed_val (n : Int) (T B : Nat) (h : T ≤ B) : Ieee.signed (decide (n < 0)) (n.natAbs * 2 ^ T) (B - T) = n * 2 ^ B := by
  unfold Ieee.signed
  rw [Nat.shiftLeft_eq, Nat.mul_assoc, ← Nat.pow_add, Nat.add_sub_cancel' h]
  by_cases hn : n < 0
  · rw [decide_eq_true hn, if_pos rfl, Int.natCast_mul, Int.natCast_pow, Int.ofNat_natAbs_of_nonpos (by omega), Int.neg_mul, Int.neg_neg]
    rfl
  · rw [decide_eq_false hn, if_neg (by simp), Int.natCast_mul, Int.natCast_pow, Int.natAbs_of_nonneg (by omega)]
    rfl
theorem signed_opp (n : Int) (T B : Nat) (h : T ≤ B) : Ieee.signed (!decide (n < 0)) (n.natAbs * 2 ^ T) (B - T) = -(n * 2 ^ B) := by
  rw [← signed_val n T B h]
  unfold Ieee.signed
  by_cases hn : n < 0
  · rw [decide_eq_true hn]
    simp
  · rw [decide_eq_false hn]
    simp

theorem zero_word (k : FloatKind) : floatOfInt k 0 = 0 := by cases k <;> decide +kernel

theorem sub_ok (k : FloatKind) (x g : Int) (hx : SmallN x) (hg : SmallN g) (hd : SmallN (x - g)) : floatBits .sub k (floatOfInt k x) (floatOfInt k g) = some (floatOfInt k (x - g)) := by
  obtain ⟨T1, _, h1⟩ := read_int k x hx
  obtain ⟨T2, _, h2⟩ := read_int k g hg
  show ((k.decode (floatOfInt k x)).sum (k.decode (floatOfInt k g)).opposite).map k.format.write = _
  rw [h1, h2]
  obtain ⟨B, hB⟩ : ∃ B, B = max T1 T2 := ⟨_, rfl⟩
  have hb : min (-(T1 : Int)) (-(T2 : Int)) = -(B : Int) := by omega
  simp only [Ieee.Datum.opposite, Ieee.Datum.sum, Option.map_some, hb]
  have e1 : (-(T1 : Int) - -(B : Int)).toNat = B - T1 := by omega
  have e2 : (-(T2 : Int) - -(B : Int)).toNat = B - T2 := by omega
  rw [e1, e2, signed_val x T1 B (by omega), signed_opp g T2 B (by omega)]
  have e3 : x * 2 ^ B + -(g * 2 ^ B) = (x - g) * 2 ^ B := by rw [Int.sub_mul]; rfl
  rw [e3]
  have hpos : (0 : Int) < 2 ^ B := Int.pow_pos (by decide)
  congr 1
  by_cases h0 : x - g = 0
  · have hxg : x = g := by omega
    rw [h0, Int.zero_mul, if_pos rfl, zero_word]
    show k.format.nearest _ 0 _ = 0
    unfold Ieee.Format.nearest
    rw [if_pos rfl, hxg]
    cases decide (g < 0) <;> rfl
  · have hne : (x - g) * 2 ^ B ≠ 0 := Int.mul_ne_zero h0 (by omega)
    rw [if_neg hne]
    show k.format.nearest _ _ _ = _
    have e4 : ((x - g) * 2 ^ B).natAbs = (x - g).natAbs * 2 ^ B := by rw [Int.natAbs_mul, Int.natAbs_pow]; rfl
    have e5 : decide ((x - g) * 2 ^ B < 0) = decide (x - g < 0) := by
      by_cases hn : x - g < 0
      · rw [decide_eq_true hn, decide_eq_true (Int.mul_neg_of_neg_of_pos hn hpos)]
      · rw [decide_eq_false hn, decide_eq_false (by have := Int.mul_nonneg (show 0 ≤ x - g by omega) (Int.le_of_lt hpos); omega)]
    rw [e4, e5, write_int k _ _ B (by omega) hd]
    rfl

theorem rate_read (k : FloatKind) (s : Nat) (h : s ≤ 8) : k.decode (rateW k s) = .number false (2 ^ k.format.fractionBits) (-((k.format.fractionBits + s : Nat) : Int)) := by
  have h9 : s = 0 ∨ s = 1 ∨ s = 2 ∨ s = 3 ∨ s = 4 ∨ s = 5 ∨ s = 6 ∨ s = 7 ∨ s = 8 := by omega
  rcases h9 with rfl | rfl | rfl | rfl | rfl | rfl | rfl | rfl | rfl <;> cases k <;> decide +kernel

theorem mul_ok (k : FloatKind) (s : Nat) (hs : s ≤ 8) (g : Int) (hg : SmallN (g * 2 ^ s)) : floatBits .mul k (rateW k s) (floatOfInt k (g * 2 ^ s)) = some (floatOfInt k g) := by
  obtain ⟨T, _, h1⟩ := read_int k (g * 2 ^ s) hg
  show ((k.decode (rateW k s)).product (k.decode (floatOfInt k (g * 2 ^ s)))).map k.format.write = _
  rw [h1, rate_read k s hs]
  simp only [Ieee.Datum.product, Option.map_some]
  have hpos : (0 : Int) < 2 ^ s := Int.pow_pos (by decide)
  have e5 : decide (g * 2 ^ s < 0) = decide (g < 0) := by
    by_cases hn : g < 0
    · rw [decide_eq_true hn, decide_eq_true (Int.mul_neg_of_neg_of_pos hn hpos)]
    · rw [decide_eq_false hn, decide_eq_false (by have := Int.mul_nonneg (show 0 ≤ g by omega) (Int.le_of_lt hpos); omega)]
  have e4 : (g * 2 ^ s).natAbs = g.natAbs * 2 ^ s := by rw [Int.natAbs_mul, Int.natAbs_pow]; rfl
  rw [e5, e4]
  congr 1
  show k.format.nearest _ _ _ = _
  rw [ofInt_eq]
  have e6 : 2 ^ k.format.fractionBits * (g.natAbs * 2 ^ s * 2 ^ T) = g.natAbs * 2 ^ (k.format.fractionBits + s + T) := by
    rw [Nat.pow_add, Nat.pow_add]
    ac_rfl
  have e7 : -((k.format.fractionBits + s : Nat) : Int) + -(T : Int) = -((k.format.fractionBits + s + T : Nat) : Int) := by omega
  rw [e6, e7, Bool.false_xor]
  by_cases h0 : g = 0
  · subst h0
    unfold Ieee.Format.nearest
    simp
  · refine write_int k _ _ _ (by omega) ?_
    have : g.natAbs * 2 ^ s < 16777216 := by rw [← e4]; exact hg
    have h2 : 0 < 2 ^ s := Nat.two_pow_pos _
    exact Nat.lt_of_le_of_lt (Nat.le_mul_of_pos_right _ h2) this

theorem order_int (k : FloatKind) (x y : Int) (hx : SmallN x) (hy : SmallN y) : k.format.order (floatOfInt k x) (floatOfInt k y) = some (compare x y) := by
  obtain ⟨T1, _, h1⟩ := read_int k x hx
  obtain ⟨T2, _, h2⟩ := read_int k y hy
  show (k.decode (floatOfInt k x)).order (k.decode (floatOfInt k y)) = _
  rw [h1, h2]
  obtain ⟨B, hB⟩ : ∃ B, B = max T1 T2 := ⟨_, rfl⟩
  have hb : min (-(T1 : Int)) (-(T2 : Int)) = -(B : Int) := by omega
  simp only [Ieee.Datum.order, hb]
  have e1 : (-(T1 : Int) - -(B : Int)).toNat = B - T1 := by omega
  have e2 : (-(T2 : Int) - -(B : Int)).toNat = B - T2 := by omega
  rw [e1, e2, signed_val x T1 B (by omega), signed_val y T2 B (by omega)]
  have hpos : (0 : Int) < 2 ^ B := Int.pow_pos (by decide)
  congr 1
  rcases Int.lt_trichotomy x y with h | h | h
  · rw [Int.compare_eq_lt.2 h, Int.compare_eq_lt.2 (Int.mul_lt_mul_of_pos_right h hpos)]
  · subst h
    rw [Int.compare_eq_eq.2 rfl, Int.compare_eq_eq.2 rfl]
  · rw [Int.compare_eq_gt.2 h, Int.compare_eq_gt.2 (Int.mul_lt_mul_of_pos_right h hpos)]

theorem order_self (k : FloatKind) (x : Int) (hx : SmallN x) : (k.format.order (floatOfInt k x) (floatOfInt k x) != some .eq) = false := by
  rw [order_int k x x hx hx, Int.compare_eq_eq.2 rfl]
  rfl

/-- A float of the narrow kind, made wide. -/
theorem widen_int (n : Int) (h : SmallN n) : floatToFloatBits .f32 (floatOfInt .f32 n) .f64 = some (floatOfInt .f64 n) := by
  obtain ⟨T, _, h1⟩ := read_int .f32 n h
  obtain ⟨T2, _, h2⟩ := read_int .f64 n h
  have hw : FloatKind.f64.encode (.number (decide (n < 0)) (n.natAbs * 2 ^ T) (-(T : Int))) = floatOfInt .f64 n := by
    show FloatKind.f64.format.nearest _ _ _ = _
    by_cases h0 : n = 0
    · subst h0
      unfold Ieee.Format.nearest
      rw [if_pos (by simp), zero_word]
      rfl
    · rw [write_int .f64 _ _ T (by omega) h]
      rfl
  unfold floatToFloatBits
  rw [if_neg (by decide), h1]
  simp only [hw, h2]
  rfl

theorem cut_whole (way : Ieee.Toward) (neg : Bool) (m T : Nat) : way.cut neg (m * 2 ^ T) T = m := by
  have hd : 0 < 2 ^ T := Nat.two_pow_pos T
  by_cases h0 : m = 0
  · subst h0
    unfold Ieee.Toward.cut
    cases way <;> simp
  · have h2 : T ≤ (m * 2 ^ T).log2 + 2 := by
      have : T ≤ (m * 2 ^ T).log2 := (Nat.le_log2 (Nat.ne_of_gt (Nat.mul_pos (by omega) hd))).2 (Nat.le_mul_of_pos_left _ (by omega))
      omega
    unfold Ieee.Toward.cut
    rw [Nat.min_eq_left h2, Nat.one_shiftLeft]
    simp only [Nat.mul_div_cancel _ hd, Nat.mul_mod_left]
    cases way <;> simp

theorem integral_int (k : FloatKind) (way : Ieee.Toward) (n : Int) (h : SmallN n) : (k.decode (floatOfInt k n)).integral way = .number (decide (n < 0)) n.natAbs 0 := by
  obtain ⟨T, _, h1⟩ := read_int k n h
  rw [h1]
  simp only [Ieee.Datum.integral]
  have e1 : (-(T : Int)).toNat = 0 := by omega
  have e2 : (- -(T : Int)).toNat = T := by omega
  rw [e1, e2, Nat.shiftLeft_eq, Nat.pow_zero, Nat.mul_one, cut_whole]

theorem round_int (n : Int) (h : SmallN n) : FloatKind.f64.encode ((FloatKind.f64.decode (floatOfInt .f64 n)).integral .even) = floatOfInt .f64 n := by
  rw [integral_int .f64 .even n h]
  rfl

theorem toInt_int (n : Int) (h : SmallN n) : floatToIntVal .f64 (floatOfInt .f64 n) .i64 = some n := by
  have h1 : (FloatKind.f64.decode (floatOfInt .f64 n)).toInt .zero = some n := by
    unfold Ieee.Datum.toInt
    rw [integral_int .f64 .zero n h]
    have := signed_val n 0 0 (Nat.le_refl 0)
    simp only [Nat.pow_zero, Nat.mul_one, Nat.sub_self] at this
    show some (Ieee.signed (decide (n < 0)) n.natAbs 0) = some n
    rw [this]
    simp
  unfold floatToIntVal
  rw [h1]
  have hb : n.natAbs < 16777216 := h
  have h2 : IntKind.i64.min ≤ n ∧ n ≤ IntKind.i64.max := by
    simp [IntKind.min, IntKind.max, IntKind.signed, IntKind.bits]
    omega
  simp only [h2, and_self, if_true]
end Go.Proofs.Ytdddbljkhhbdlaa
