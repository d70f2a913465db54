/-
What Row answers, as plain numbers; matrices that own their lists.
-/
import Derived.Test.YtdddbljkhhbdlaaDataCheck
namespace Go.Proofs.Ytdddbljkhhbdlaa
open Go.RowKit

/-- A matrix, its elements a list. -/
structure MatI where
  r : Int
  c : Int
  w : Int
  bits : List Int
def zeroM : MatI := ⟨0, 0, 0, []⟩
def MatI.val (m : MatI) (v : Value) : Value := matV m.r m.c m.w v

/-- What Row answers. -/
def rowAns (r c wd : Int) (xs : List Int) (r2 c2 wd2 : Int) (ys : List Int) (k : Int) : MatI × MatI × Int :=
  if (dchkI r c wd xs r2 c2 wd2 ys).2 ≠ 0 then (zeroM, zeroM, (dchkI r c wd xs r2 c2 wd2 ys).2)
  else if k < 0 ∨ r ≤ k then (zeroM, zeroM, 40)
  else (⟨1, c, wd, rowI c.toNat xs k.toNat⟩, ⟨1, c2, wd2, rowI c2.toNat ys k.toNat⟩, 0)

theorem rowsFrom_snd (f : Nat → Int) : ∀ n k, (rowsFrom f k n).2 = 0 → rowsFrom f k n = (0, 0) := by
  intro n
  induction n with
  | zero => intro k _; rfl
  | succ n ih =>
    intro k h
    unfold rowsFrom at h ⊢
    by_cases hf : f k ≠ 0
    · rw [if_pos hf] at h
      exact absurd h hf
    · rw [if_neg hf] at h ⊢
      exact ih (k + 1) h

/-- What Check lets pass. -/
structure SetOk (r c wd : Int) (xs : List Int) (r2 c2 wd2 : Int) (ys : List Int) (R C C2 : Nat) : Prop where
  eR : r = R
  eC : c = C
  eR2 : r2 = R
  eC2 : c2 = C2
  eW : wd2 = wd
  e1 : matE R C wd xs = 0
  e2 : matE R C2 wd ys = 0
  R0 : 0 < R
  C0 : 0 < C
  C20 : 0 < C2
  R1 : R ≤ 4096
  C1 : C ≤ 4096
  C21 : C2 ≤ 4096
  RC : R * C ≤ 4096
  RC2 : R * C2 ≤ 4096
  l1 : xs.length = R * C
  l2 : ys.length = R * C2
theorem dchk_ok {r c wd : Int} {xs : List Int} {r2 c2 wd2 : Int} {ys : List Int} (h : (dchkI r c wd xs r2 c2 wd2 ys).2 = 0) : ∃ R C C2, SetOk r c wd xs r2 c2 wd2 ys R C C2 := by
  unfold dchkI at h
  by_cases h1 : matE r c wd xs = 0
  · rw [if_neg (by simp [h1])] at h
    by_cases h2 : matE r2 c2 wd2 ys = 0
    · rw [if_neg (by simp [h2])] at h
      by_cases h3 : wd = wd2
      · rw [if_neg (by simp [h3])] at h
        by_cases h4 : r = r2
        · obtain ⟨R, C, e1, e2, a1, a2, a3, a4, a5, a6, a7, a8⟩ := mat_nat h1
          obtain ⟨R', C2, e3, e4, b1, b2, b3, b4, b5, b6, b7, b8⟩ := mat_nat h2
          have hR : R' = R := by omega
          subst hR
          exact ⟨R', C, C2, e1, e2, e3, e4, h3.symm, by rw [← e1, ← e2]; exact h1, by rw [← e3, ← e4, h3]; exact h2, a1, a2, b2, a3, a4, b4, a5, b5, a6, b6⟩
        · rw [if_pos h4] at h
          cases h
      · rw [if_pos h3] at h
        cases h
    · rw [if_pos h2] at h
      exact absurd h h2
  · rw [if_pos h1] at h
    exact absurd h h1

theorem ownsNil (w : World) (B : Nat) : w.ownsRow B 3 1 (.slice none 0 0) ([] : List Int).length (cellsI []) := World.ownsRow_nil _ _ _ _

/-- Two matrices of a call's own, apart. -/
structure TwoM (w : World) (B : Nat) (a b : MatI) (v v' : Value) : Prop where
  one : w.ownsRow B 3 1 v a.bits.length (cellsI a.bits)
  two : w.ownsRow B 3 1 v' b.bits.length (cellsI b.bits)
  apart : v.ownBlock = none ∨ v.ownBlock ≠ v'.ownBlock
theorem TwoM.zero (w : World) (B : Nat) : TwoM w B zeroM zeroM (.slice none 0 0) (.slice none 0 0) := ⟨ownsNil w B, ownsNil w B, .inl rfl⟩
end Go.Proofs.Ytdddbljkhhbdlaa
