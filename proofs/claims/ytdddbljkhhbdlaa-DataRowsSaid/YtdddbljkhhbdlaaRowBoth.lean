/-
Row and the document's own Row answer the same.
-/
import Derived.Test.YtdddbljkhhbdlaaRefRow
namespace Go.Proofs.Ytdddbljkhhbdlaa
open Go.RowKit

/-- The function answers Row's question. -/
def AnsRow (f : FuncId) (r c wd : Int) (v : Value) (xs : List Int) (r2 c2 wd2 : Int) (v2 : Value) (ys : List Int) (k : Int) (w : World) : Prop :=
  Calls Try.prog f #[setV r c wd v r2 c2 wd2 v2, .int .i64 k] w fun e w' =>
    ∃ u u', e = .returned (.tuple #[(rowAns r c wd xs r2 c2 wd2 ys k).1.val u, (rowAns r c wd xs r2 c2 wd2 ys k).2.1.val u', .int .i64 (rowAns r c wd xs r2 c2 wd2 ys k).2.2]) ∧
      TwoM w' w.heap.size (rowAns r c wd xs r2 c2 wd2 ys k).1 (rowAns r c wd xs r2 c2 wd2 ys k).2.1 u u' ∧ Below w.heap.size w w'

theorem row_cases {f : FuncId} {r c wd : Int} {v : Value} {xs : List Int} {r2 c2 wd2 : Int} {v2 : Value} {ys : List Int} {k : Int} {w : World}
    (herr : (dchkI r c wd xs r2 c2 wd2 ys).2 ≠ 0 → Calls Try.prog f #[setV r c wd v r2 c2 wd2 v2, .int .i64 k] w fun e w' => e = .returned (.tuple #[matV 0 0 0 (.slice none 0 0), matV 0 0 0 (.slice none 0 0), .int .i64 (dchkI r c wd xs r2 c2 wd2 ys).2]) ∧ Below w.heap.size w w')
    (hfar : (dchkI r c wd xs r2 c2 wd2 ys).2 = 0 → ((decide (k < 0)) = true) ∨ ((decide (k < 0)) = false ∧ (decide (r ≤ k)) = true) → Calls Try.prog f #[setV r c wd v r2 c2 wd2 v2, .int .i64 k] w fun e w' => e = .returned (.tuple #[matV 0 0 0 (.slice none 0 0), matV 0 0 0 (.slice none 0 0), .int .i64 40]) ∧ Below w.heap.size w w')
    (hok : ∀ R C C2 row : Nat, SetOk r c wd xs r2 c2 wd2 ys R C C2 → (dchkI R C wd xs R C2 wd ys).2 = 0 → row < R →
      Calls Try.prog f #[setV R C wd v R C2 wd v2, .int .i64 (row : Nat)] w fun e w' => ∃ u u', e = .returned (.tuple #[matV 1 C wd u, matV 1 C2 wd u', .int .i64 0]) ∧ TwoM w' w.heap.size ⟨1, C, wd, rowI C xs row⟩ ⟨1, C2, wd, rowI C2 ys row⟩ u u' ∧ Below w.heap.size w w') :
    AnsRow f r c wd v xs r2 c2 wd2 v2 ys k w := by
  unfold AnsRow
  by_cases hE : (dchkI r c wd xs r2 c2 wd2 ys).2 = 0
  · by_cases hk : k < 0 ∨ r ≤ k
    · have e : rowAns r c wd xs r2 c2 wd2 ys k = (zeroM, zeroM, 40) := by
        unfold rowAns
        rw [if_neg (by simp [hE]), if_pos hk]
      rw [e]
      refine (hfar hE ?_).mono ?_
      · by_cases h0 : k < 0
        · exact .inl (decide_eq_true h0)
        · exact .inr ⟨decide_eq_false h0, decide_eq_true (by omega)⟩
      · rintro e w' ⟨rfl, hb⟩
        exact ⟨_, _, rfl, TwoM.zero _ _, hb⟩
    · obtain ⟨R, C, C2, hS⟩ := dchk_ok hE
      have hr := hS.eR
      obtain ⟨row, rfl⟩ := Int.eq_ofNat_of_zero_le (show 0 ≤ k by omega)
      have e : rowAns r c wd xs r2 c2 wd2 ys (row : Int) = (⟨1, C, wd, rowI C xs row⟩, ⟨1, C2, wd, rowI C2 ys row⟩, 0) := by
        unfold rowAns
        rw [if_neg (by simp [hE]), if_neg hk, hS.eC, hS.eC2, hS.eW]
        simp
      rw [e]
      have h1 := hok R C C2 row hS (by have h := hE; rw [hS.eR, hS.eC, hS.eR2, hS.eC2, hS.eW] at h; exact h) (by omega)
      rw [hS.eR, hS.eC, hS.eR2, hS.eC2, hS.eW]
      exact h1
  · have e : rowAns r c wd xs r2 c2 wd2 ys k = (zeroM, zeroM, (dchkI r c wd xs r2 c2 wd2 ys).2) := by
      unfold rowAns
      rw [if_pos hE]
    rw [e]
    refine (herr hE).mono ?_
    rintro e w' ⟨rfl, hb⟩
    exact ⟨_, _, rfl, TwoM.zero _ _, hb⟩

theorem SetOk.self {r c wd : Int} {xs : List Int} {r2 c2 wd2 : Int} {ys : List Int} {R C C2 : Nat} (h : SetOk r c wd xs r2 c2 wd2 ys R C C2) : SetOk R C wd xs R C2 wd ys R C C2 :=
  ⟨rfl, rfl, rfl, rfl, rfl, h.e1, h.e2, h.R0, h.C0, h.C20, h.R1, h.C1, h.C21, h.RC, h.RC2, h.l1, h.l2⟩

/-- A list that is not empty lies somewhere. -/
theorem ReadI.some {w : World} {v : Value} {xs : List Int} {n : Nat} (h : ReadI w v xs) (hl : xs.length = n) (h0 : 0 < n) :
    ∃ b off cp, v = .slice (some ⟨b, off, none⟩) n cp ∧ n ≤ cp ∧ ∀ j, j < xs.length → w.cell? ⟨b, off + j, none⟩ = some (.int .i64 (xs.getD j 0)) := by
  rcases h with ⟨_, rfl⟩ | ⟨b, off, cp, rfl, h1, h2⟩
  · simp at hl; omega
  · exact ⟨b, off, cp, by rw [hl], by omega, h2⟩

theorem drow_any (r c wd : Int) (v : Value) (xs : List Int) (r2 c2 wd2 : Int) (v2 : Value) (ys : List Int) (k : Int) (w : World) (hv : ReadI w v xs) (hv2 : ReadI w v2 ys) (hx : xs.length ≤ 100000000) (hy : ys.length ≤ 100000000)
    (h64 : ∀ x, x ∈ xs → -9223372036854775808 ≤ x ∧ x ≤ 9223372036854775807) (h642 : ∀ x, x ∈ ys → -9223372036854775808 ≤ x ∧ x ≤ 9223372036854775807) : AnsRow 22 r c wd v xs r2 c2 wd2 v2 ys k w := by
  refine row_cases ?_ ?_ ?_
  · exact drow_err r c wd v xs r2 c2 wd2 v2 ys k w hv hv2 hx hy h64 h642
  · exact drow_far r c wd v xs r2 c2 wd2 v2 ys k w hv hv2 hx hy h64 h642
  · intro R C C2 row hS hE hrow
    obtain ⟨b, off, cp, rfl, h1, h2⟩ := hv.some hS.l1 (Nat.mul_pos hS.R0 hS.C0)
    obtain ⟨b2, off2, cp2, rfl, h3, h4⟩ := hv2.some hS.l2 (Nat.mul_pos hS.R0 hS.C20)
    exact drow_ok R C C2 row wd b off cp xs b2 off2 cp2 ys w hS.self hrow h1 h2 h3 h4 h64 h642 hE
theorem refrow_any (r c wd : Int) (v : Value) (xs : List Int) (r2 c2 wd2 : Int) (v2 : Value) (ys : List Int) (k : Int) (w : World) (hv : ReadI w v xs) (hv2 : ReadI w v2 ys) (hx : xs.length ≤ 100000000) (hy : ys.length ≤ 100000000)
    (h64 : ∀ x, x ∈ xs → -9223372036854775808 ≤ x ∧ x ≤ 9223372036854775807) (h642 : ∀ x, x ∈ ys → -9223372036854775808 ≤ x ∧ x ≤ 9223372036854775807) : AnsRow 23 r c wd v xs r2 c2 wd2 v2 ys k w := by
  refine row_cases ?_ ?_ ?_
  · exact refrow_err r c wd v xs r2 c2 wd2 v2 ys k w hv hv2 hx hy h64 h642
  · exact refrow_far r c wd v xs r2 c2 wd2 v2 ys k w hv hv2 hx hy h64 h642
  · intro R C C2 row hS hE hrow
    obtain ⟨b, off, cp, rfl, h1, h2⟩ := hv.some hS.l1 (Nat.mul_pos hS.R0 hS.C0)
    obtain ⟨b2, off2, cp2, rfl, h3, h4⟩ := hv2.some hS.l2 (Nat.mul_pos hS.R0 hS.C20)
    exact refrow_ok R C C2 row wd b off cp xs b2 off2 cp2 ys w hS.self hrow h1 h2 h3 h4 h64 h642 hE
/-- What Row answers is not long. -/
theorem rowAns_len (r c wd : Int) (xs : List Int) (r2 c2 wd2 : Int) (ys : List Int) (k : Int) : (rowAns r c wd xs r2 c2 wd2 ys k).1.bits.length ≤ 4096 ∧ (rowAns r c wd xs r2 c2 wd2 ys k).2.1.bits.length ≤ 4096 := by
  unfold rowAns
  split
  · exact ⟨by simp [zeroM], by simp [zeroM]⟩
  · rename_i hE
    split
    · exact ⟨by simp [zeroM], by simp [zeroM]⟩
    · obtain ⟨R, C, C2, hS⟩ := dchk_ok (by simpa using hE)
      rw [hS.eC, hS.eC2]
      have h1 := hS.C1
      have h2 := hS.C21
      constructor
      · simp [rowI]; omega
      · simp [rowI]; omega
end Go.Proofs.Ytdddbljkhhbdlaa
