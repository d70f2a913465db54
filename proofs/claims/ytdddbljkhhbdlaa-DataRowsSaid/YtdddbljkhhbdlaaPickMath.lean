/-
A set that is filled row by row: what a round does.
-/
import Derived.Test.YtdddbljkhhbdlaaRefPick0
namespace Go.Proofs.Ytdddbljkhhbdlaa
open Go.RowKit

theorem field3 (a b c d : Value) (w : World) : (Instr.field 45 (.agg #[a, b, c, d]) 3).run Try.prog w = .ok d w := by kernel_rfl
/-- The set that is filled: i rows of the one matrix, j of the other. -/
structure PickAt (w wq : World) (k C C2 : Nat) (wd : Int) (xs ys rows : List Int) (i j : Nat) (va vb : Value) : Prop where
  set : SetAt w wq.heap.size k C wd va k C2 wd vb
  one : w.ownsRow (wq.heap.size + 1) 3 1 va (i * C) (cellsI (rowsI C xs (rows.take i)))
  two : w.ownsRow (wq.heap.size + 1) 3 1 vb (j * C2) (cellsI (rowsI C2 ys (rows.take j)))
  apart : va.ownBlock = none ∨ va.ownBlock ≠ vb.ownBlock
  size : wq.heap.size + 1 ≤ w.heap.size
  below : Below wq.heap.size wq w
theorem take_row {rows : List Int} {j row : Nat} (hj : j < rows.length) (hrw : rows.getD j 0 = (row : Int)) : rows.take (j + 1) = rows.take j ++ [(row : Int)] := by
  rw [List.take_add_one, ← hrw]
  simp [List.getD, hj]
theorem app_rows {w4 w5 : World} {B C j row : Nat} {xs rows : List Int} {v v5 : Value} (hj : j < rows.length) (hrw : rows.getD j 0 = (row : Int))
    (hA : Appended w4 w5 B 3 1 v (j * C) (cellsI (rowsI C xs (rows.take j))) (cellsI (rowI C xs row)) C v5) : w5.ownsRow B 3 1 v5 ((j + 1) * C) (cellsI (rowsI C xs (rows.take (j + 1)))) := by
  have := hA.own
  rw [← cellsI_append] at this
  rw [take_row hj hrw, rowsI_snoc, Int.toNat_natCast, Nat.add_mul, Nat.one_mul]
  exact this
theorem apart_app {w4 w5 : World} {B b n m k : Nat} {v u v5 : Value} {xs news ys : List Value} (hA : Appended w4 w5 B 3 1 v n xs news m v5) (hu : w4.ownsRow b 3 1 u k ys) (hap : v.ownBlock = none ∨ v.ownBlock ≠ u.ownBlock) : v5.ownBlock = none ∨ v5.ownBlock ≠ u.ownBlock := by
  rcases hA.lies with e | e
  · rw [e]; exact hap
  · right
    rw [e]
    intro h
    have := (hu.lt _ h.symm).2
    omega
theorem apart_sym {u v : Value} (h : u.ownBlock = none ∨ u.ownBlock ≠ v.ownBlock) : v.ownBlock = none ∨ v.ownBlock ≠ u.ownBlock := by
  rcases h with h | h
  · cases hv : v.ownBlock with
    | none => exact .inl rfl
    | some q => right; rw [h]; simp
  · exact .inr fun e => h e.symm
theorem pick_step0 {w4 w5 wq : World} {k C C2 : Nat} {wd : Int} {xs ys rows : List Int} {j row : Nat} {va vb v5 : Value} (hj : j < rows.length) (hrw : rows.getD j 0 = (row : Int))
    (hO5 : SetAt w5 wq.heap.size k C wd va k C2 wd vb) (hA : Appended w4 w5 (wq.heap.size + 1) 3 1 va (j * C) (cellsI (rowsI C xs (rows.take j))) (cellsI (rowI C xs row)) C v5)
    (h2 : w4.ownsRow (wq.heap.size + 1) 3 1 vb (j * C2) (cellsI (rowsI C2 ys (rows.take j)))) (hap : va.ownBlock = none ∨ va.ownBlock ≠ vb.ownBlock) (hsz : wq.heap.size + 1 ≤ w4.heap.size)
    (hb : Below wq.heap.size wq (w5.setCell ⟨wq.heap.size, 3, none⟩ v5)) : PickAt (w5.setCell ⟨wq.heap.size, 3, none⟩ v5) wq k C C2 wd xs ys rows (j + 1) j v5 vb :=
  ⟨hO5.s3 v5, row_kept (app_rows hj hrw hA) (grownBy_setCell w5 wq.heap.size 3 v5) (by omega), row_kept (h2.kept hA.grown (apart_sym hap)) (grownBy_setCell w5 wq.heap.size 3 v5) (by omega), apart_app hA h2 hap,
    by have := hA.grown.size; show wq.heap.size + 1 ≤ (w5.setCell _ _).heap.size; simp [World.setCell]; omega, hb⟩
theorem pick_step1 {w4 w5 wq : World} {k C C2 : Nat} {wd : Int} {xs ys rows : List Int} {j row : Nat} {va vb v5 : Value} (hj : j < rows.length) (hrw : rows.getD j 0 = (row : Int))
    (hO5 : SetAt w5 wq.heap.size k C wd va k C2 wd vb) (hA : Appended w4 w5 (wq.heap.size + 1) 3 1 vb (j * C2) (cellsI (rowsI C2 ys (rows.take j))) (cellsI (rowI C2 ys row)) C2 v5)
    (h2 : w4.ownsRow (wq.heap.size + 1) 3 1 va ((j + 1) * C) (cellsI (rowsI C xs (rows.take (j + 1))))) (hap : va.ownBlock = none ∨ va.ownBlock ≠ vb.ownBlock) (hsz : wq.heap.size + 1 ≤ w4.heap.size)
    (hb : Below wq.heap.size wq (w5.setCell ⟨wq.heap.size, 7, none⟩ v5)) : PickAt (w5.setCell ⟨wq.heap.size, 7, none⟩ v5) wq k C C2 wd xs ys rows (j + 1) (j + 1) va v5 :=
  ⟨hO5.s7 v5, row_kept (h2.kept hA.grown hap) (grownBy_setCell w5 wq.heap.size 7 v5) (by omega), row_kept (app_rows hj hrw hA) (grownBy_setCell w5 wq.heap.size 7 v5) (by omega), apart_sym (apart_app hA h2 (apart_sym hap)),
    by have := hA.grown.size; show wq.heap.size + 1 ≤ (w5.setCell _ _).heap.size; simp [World.setCell]; omega, hb⟩

end Go.Proofs.Ytdddbljkhhbdlaa
