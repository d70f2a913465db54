/-
The contract of the document's own Cut: a row, as a matrix.
-/
import Derived.Test.YtdddbljkhhbdlaaFiniteAll
import Derived.Deep.DeepMust
import Derived.Deep.RegionLaw
import Derived.Deep.RegionHeld3
import Derived.Handy
namespace Go.Proofs.Ytdddbljkhhbdlaa
open Go.RowKit

theorem boxesM (w : World) (r c wd : Int) (v : Value) (r2 c2 wd2 : Int) (v2 : Value) : ∃ w1, w1 = (w.alloc (.cells #[.int .i64 r, .int .i64 c, .int .i64 wd, v] 45)).alloc (.cells #[.int .i64 r2, .int .i64 c2, .int .i64 wd2, v2] 45) ∧
    MatAt w1 w.heap.size r c wd v ∧ MatAt w1 (w.heap.size + 1) r2 c2 wd2 v2 ∧ Below w.heap.size w w1 ∧ w1.heap.size = w.heap.size + 2 := by
  obtain ⟨w1, e1, hM, hb1, hs1⟩ := boxM w r c wd v
  rw [← e1]
  obtain ⟨w2, e2, hM2, hb2, hs2⟩ := boxM w1 r2 c2 wd2 v2
  rw [← e2]
  rw [hs1] at hM2
  exact ⟨w2, rfl, hM.below hb2, hM2, hb1.trans (hb2.mono (by omega)), by omega⟩

theorem MatAt.put4 {w : World} {g : Nat} {r c wd : Int} {v : Value} (h : MatAt w g r c wd v) (r2 c2 wd2 : Int) (v2 : Value) :
    ∃ w1, w1 = (((w.setCell ⟨g, 0, none⟩ (.int .i64 r2)).setCell ⟨g, 1, none⟩ (.int .i64 c2)).setCell ⟨g, 2, none⟩ (.int .i64 wd2)).setCell ⟨g, 3, none⟩ v2 ∧ MatAt w1 g r2 c2 wd2 v2 ∧ w.grownBy w1 (some g) := by
  refine ⟨_, rfl, ⟨?_⟩, ?_⟩
  · simp only [World.setCell, Array.getElem?_modify, if_true, h.block, Option.map_some]
    rfl
  · exact grownBy_trans (grownBy_trans (grownBy_trans (grownBy_setCell w g 0 (.int .i64 r2)) (grownBy_setCell _ g 1 (.int .i64 c2))) (grownBy_setCell _ g 2 (.int .i64 wd2))) (grownBy_setCell _ g 3 v2)

/-- The numbers of a row. -/
def rowI (c : Nat) (xs : List Int) (row : Nat) : List Int := (xs.drop (row * c)).take c
theorem rowI_length (c : Nat) (xs : List Int) (row : Nat) (h : row * c + c ≤ xs.length) : (rowI c xs row).length = c := by
  unfold rowI; simp; omega
theorem rowI_getD (c : Nat) (xs : List Int) (row j : Nat) (hj : j < c) : (rowI c xs row).getD j 0 = xs.getD (row * c + j) 0 := by
  unfold rowI
  simp only [List.getD, List.getElem?_take, List.getElem?_drop]
  rw [if_pos hj]

set_option maxRecDepth 100000 in
set_option maxHeartbeats 4000000 in
theorem refcut_any (R C : Nat) (wd : Int) (v : Value) (xs : List Int) (row : Nat) (w : World) (hv : ReadI w v xs) (hC0 : 0 < C) (hrow : row < R) (hR1 : R ≤ 4096) (hC1 : C ≤ 4096) (hRC : R * C ≤ 4096) (hl : xs.length = R * C) :
    Calls Try.prog 88 #[matV R C wd v, .int .i64 row] w fun e w' => ∃ v', e = .returned (matV 1 C wd v') ∧ w'.ownsRow w.heap.size 3 1 v' C (cellsI (rowI C xs row)) ∧ Below w.heap.size w w' := by
  obtain ⟨fr, hfr⟩ : ∃ fr, fr = row * C := ⟨_, rfl⟩
  have hfr1 : fr + C ≤ R * C := by
    have : (row + 1) * C ≤ R * C := Nat.mul_le_mul_right C hrow
    rw [Nat.add_mul] at this
    omega
  have q1 : (row : Int) * (C : Int) = (fr : Int) := by rw [hfr]; simp
  have q2 : ((row : Int) + 1) * (C : Int) = (fr : Int) + (C : Int) := by rw [Int.add_mul, q1]; simp
  have q3 : IntKind.i64.wrap (fr : Int) = (fr : Int) := i64_small _ (by omega) (by omega)
  have q4 : IntKind.i64.wrap ((row : Int) + 1) = (row : Int) + 1 := i64_small _ (by omega) (by omega)
  have q5 : IntKind.i64.wrap ((fr : Int) + (C : Int)) = (fr : Int) + (C : Int) := i64_small _ (by omega) (by omega)
  rcases hv with ⟨_, rfl⟩ | ⟨b, off, cp, rfl, hcp, hcell⟩
  · simp at hl
    have : 0 < R * C := Nat.mul_pos (by omega) hC0
    omega
  · have hlen := rowI_length C xs row (by rw [← hfr]; omega)
    have hrc : ∀ j u, (cellsI (rowI C xs row))[j]? = some u → w.cell? ⟨b, off + fr + j, none⟩ = some u := by
      intro j u hu
      have hj : j < C := by
        have := (List.getElem?_eq_some_iff.1 hu).1
        rw [cellsI_length, hlen] at this
        omega
      rw [cellsI_at _ _ (by rw [hlen]; exact hj), rowI_getD C xs row j hj, ← hfr] at hu
      rw [Nat.add_assoc, hcell (fr + j) (by omega)]
      exact hu
    rw [hl] at hcp ⊢
    obtain ⟨len, hlen9⟩ : ∃ len, len = R * C := ⟨_, rfl⟩
    rw [← hlen9] at hcp hfr1 hRC ⊢
    have hlc : (cellsI (rowI C xs row)).length = C * 1 := by rw [cellsI_length, hlen]
    obtain ⟨ys, hys⟩ : ∃ ys, ys = rowI C xs row := ⟨_, rfl⟩
    rw [← hys] at hrc hlc ⊢
    have HRC := Lib.hid hrc
    have HLC := Lib.hid hlc
    clear hrc hlc hlen hys hcell hl hlen9 hfr
    have hne : ¬ fr + C = fr := by omega
    have r1 : 0 ≤ (fr : Int) + (C : Int) := by omega
    have r2 : (fr : Int) + (C : Int) ≤ (cp : Int) := by omega
    have r3 : ((fr : Int) + (C : Int)).toNat = fr + C := by omega
    have r4 : fr ≤ fr + C := by omega
    have r5 : ¬ cp = fr := by omega
    have r6 : fr + C - fr = C := by omega
    unfold matV
    go_enter Try.func88, Try.ntmps88
    go_wp2_with fail
    obtain ⟨w1, hw1, hM, hZ, hb1, hs1⟩ := boxesM w R C wd (.slice (some ⟨b, off, none⟩) len cp) 0 0 0 (.slice none 0 0)
    rw [← hw1]
    clear hw1
    have c1 := hM.c1
    have c2 := hM.c2
    have c3 := hM.c3
    have hmem : ∀ j u, (cellsI ys)[j]? = some u → w1.drew.cell? ((⟨b, off + fr, none⟩ : Addr).add j) = some u := by
      intro j u hu
      have h := (hb1.cell (p := ⟨b, off + fr + j, none⟩) (by exact World.block_lt_of_cell? _ _ (HRC.out j u hu))).trans (HRC.out j u hu)
      show w1.cell? (if j = 0 then _ else _) = some u
      by_cases j0 : j = 0
      · subst j0; exact h
      · rw [if_neg j0]; exact h
    have HMEM := Lib.hid hmem
    clear hmem
    have hMd : MatAt w1.drew w.heap.size R C wd (.slice (some ⟨b, off, none⟩) len cp) := ⟨hM.block⟩
    have hZd : MatAt w1.drew (w.heap.size + 1) 0 0 0 (.slice none 0 0) := ⟨hZ.block⟩
    go_region_held3 (fun w' => w'.cell? ⟨w.heap.size, 1, none⟩ = some (.int .i64 C) ∧ w'.cell? ⟨w.heap.size, 2, none⟩ = some (.int .i64 wd) ∧ w'.cell? ⟨w.heap.size, 3, none⟩ = some (.slice (some ⟨b, off, none⟩) len cp)) (first | exact ⟨c1, c2, c3⟩ | exact ⟨d1, d2, d3⟩ | go_keep)
      (first | ((refine step_app (by rfl) (.const (.slice none 0 0)) (.tmp 20) 43 (by rfl) (base := w1.heap.size) elem43 (v := .slice none 0 0) (n := 0) (xs := []) (by rfl) (World.ownsRow_nil _ _ _ _) ⟨b, off + fr, none⟩ C _ (cellsI ys) (by rfl) (by exact HLC.out) (by exact HMEM.out) (cellsI_one _) (by unfold maxLen; omega) (by omega) (by exact Nat.le_refl _) ?_; intro v' w3 hA3; go_must (have hc5 := hA3.own; rw [Nat.zero_add, List.nil_append] at hc5; obtain ⟨a5, c5, f5, _, _⟩ := own_form hc5; subst f5; have hM3 := hMd.grown hA3.grown (by simp [Value.ownBlock]); have hZ3 := hZd.grown hA3.grown (by simp [Value.ownBlock]); have d1 := hM3.c1; have d2 := hM3.c2; have d3 := hM3.c3; have z0 := hZ3.c0; have z1 := hZ3.c1; have z2 := hZ3.c2; have z3 := hZ3.c3; have y0 := hZ3.free 0; have y1 := hZ3.free 1; have y2 := hZ3.free 2; have y3 := hZ3.free 3))))
    go_wp2
    obtain ⟨w4, hw4, hM4, hg4⟩ := hZ3.put4 1 C wd (.slice a5 C c5)
    rw [← hw4]
    clear hw4 z0 z1 z2 z3 y0 y1 y2 y3 d1 d2 d3 c1 c2 c3
    have z0 := hM4.c0
    have z1 := hM4.c1
    have z2 := hM4.c2
    have z3 := hM4.c3
    refine bodyPost_ret (by simp [results, Try.results88, go_sem, z0, z1, z2, z3]; try rfl) rfl ?_
    have hb3 : Below w.heap.size w w3 := (hb1.drew).grown hA3.grown (by show w.heap.size ≤ w1.heap.size; omega) (fun q hq => by simp [Value.ownBlock] at hq)
    have hne4 : (Value.slice a5 C c5).ownBlock = none ∨ (Value.slice a5 C c5).ownBlock ≠ some (w.heap.size + 1) := by
      cases h : (Value.slice a5 C c5).ownBlock with
      | none => exact .inl rfl
      | some q => right; intro e; cases e; have := (hc5.lt _ h).1; omega
    exact ⟨_, rfl, own_mono (hc5.kept hg4 hne4) (by omega), hb3.grown hg4 hb3.size (fun q hq => by cases hq; omega)⟩
end Go.Proofs.Ytdddbljkhhbdlaa
