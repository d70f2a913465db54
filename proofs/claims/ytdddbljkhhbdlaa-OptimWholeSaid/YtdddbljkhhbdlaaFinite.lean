/-
The contract of tensor.Finite.
-/
import Derived.Test.YtdddbljkhhbdlaaRowsIt
import Derived.Test.YtdddbljkhhbdlaaMatCheck
import Derived.Test.YtdddbljkhhbdlaaBelow
namespace Go.Proofs.Ytdddbljkhhbdlaa
open Go.RowKit Go.Shelf
attribute [local go_sem] Oper.semAt_some

theorem stopFrom_first (wd : Int) : ∀ (xs : List Int) (k i : Nat), i < xs.length → (∀ j, j < i → clsI wd (xs.getD j 0) < 3) → ¬ clsI wd (xs.getD i 0) < 3 →
    stopFrom wd k xs = (((k + i : Nat) : Int), if clsI wd (xs.getD i 0) = 4 then 30 else 31) := by
  intro xs
  induction xs with
  | nil => intro k i h; simp at h
  | cons x r ih =>
    intro k i h h1 h2
    cases i with
    | zero =>
      unfold stopFrom
      have h2' : ¬ clsI wd x < 3 := by simpa using h2
      rw [if_neg h2']
      simp
    | succ i =>
      have h0 : clsI wd x < 3 := by simpa using h1 0 (by omega)
      unfold stopFrom
      rw [if_pos h0, ih (k + 1) i (by simpa using h) (fun j hj => by simpa using h1 (j + 1) (by omega)) (by simpa using h2)]
      simp
      omega
theorem stopFrom_none (wd : Int) : ∀ (xs : List Int) (k : Nat), (∀ j, j < xs.length → clsI wd (xs.getD j 0) < 3) → stopFrom wd k xs = (0, 0) := by
  intro xs
  induction xs with
  | nil => intro k _; rfl
  | cons x r ih =>
    intro k h
    have h0 : clsI wd x < 3 := by simpa using h 0 (by simp)
    unfold stopFrom
    rw [if_pos h0]
    exact ih (k + 1) fun j hj => by simpa using h (j + 1) (by simpa using hj)

/-- One cell in a block of its own. -/
structure BoxAt (w : World) (g : Nat) (t : TypeId) (u : Value) : Prop where
  block : w.heap[g]? = some (.cells #[u] t (0, 0))
theorem BoxAt.cell {w : World} {g : Nat} {t : TypeId} {u : Value} (h : BoxAt w g t u) : w.cell? ⟨g, 0, none⟩ = some u := by
  rw [cell_of_row w g 0 _ t (0, 0) h.block]; rfl
theorem BoxAt.free {w : World} {g : Nat} {t : TypeId} {u : Value} (h : BoxAt w g t u) : w.frozen? ⟨g, 0, none⟩ = false := by
  simp [World.frozen?, h.block]
theorem BoxAt.lt {w : World} {g : Nat} {t : TypeId} {u : Value} (h : BoxAt w g t u) : g < w.heap.size := (Array.getElem?_eq_some_iff.1 h.block).1
theorem BoxAt.below {w w' : World} {g : Nat} {t : TypeId} {u : Value} (h : BoxAt w g t u) (hb : Below w.heap.size w w') : BoxAt w' g t u :=
  ⟨(hb.block g h.lt).trans h.block⟩
theorem BoxAt.grown {w w' : World} {g : Nat} {t : TypeId} {u : Value} {q : Option Nat} (h : BoxAt w g t u) (hg : w.grownBy w' q) (hne : some g ≠ q) : BoxAt w' g t u :=
  ⟨(hg.block g h.lt hne).trans h.block⟩
theorem BoxAt.set {w : World} {g : Nat} {t : TypeId} {u : Value} (h : BoxAt w g t u) (y : Value) : BoxAt (w.setCell ⟨g, 0, none⟩ y) g t y := by
  refine ⟨?_⟩
  simp only [World.setCell, Array.getElem?_modify, if_true, h.block, Option.map_some]
  rfl
/-- A block of cells is no block that turns. -/
theorem cells_ne {w : World} {g : Nat} {cs : Array Value} {t : TypeId} {fr : Nat × Nat} {row : Option Nat} {B : Nat} (h : w.heap[g]? = some (.cells cs t fr)) (hr : ∀ r, row = some r → B ≤ r ∧ ∃ o : Obj, w.heap[r]? = some o ∧ o.isCells = false) : some g ≠ row := by
  intro e
  obtain ⟨_, o, ho, hc⟩ := hr g e.symm
  rw [h] at ho
  cases ho
  simp [Obj.isCells] at hc

theorem boxes3 (w : World) (r c wd : Int) (v : Value) : ∃ w1, w1 = ((w.alloc (.cells #[.int .i64 r, .int .i64 c, .int .i64 wd, v] 45)).alloc (.cells #[.int .i64 0] 3)).alloc (.cells #[.int .i64 0] 24) ∧
    MatAt w1 w.heap.size r c wd v ∧ BoxAt w1 (w.heap.size + 1) 3 (.int .i64 0) ∧ BoxAt w1 (w.heap.size + 1 + 1) 24 (.int .i64 0) ∧ Below w.heap.size w w1 ∧ w1.heap.size = w.heap.size + 3 := by
  obtain ⟨w1, e1, hM, hb1, hs1⟩ := boxM w r c wd v
  rw [← e1]
  have hA : BoxAt (w1.alloc (.cells #[.int .i64 0] 3)) w1.heap.size 3 (.int .i64 0) := ⟨heap_alloc_new w1 _⟩
  have hbA := (Below.refl w1.heap.size w1).alloc (Nat.le_refl _) (.cells #[.int .i64 0] 3)
  have hsA : (w1.alloc (.cells #[.int .i64 0] 3)).heap.size = w1.heap.size + 1 := by simp [go_sem]
  have hB : BoxAt ((w1.alloc (.cells #[.int .i64 0] 3)).alloc (.cells #[.int .i64 0] 24)) (w1.alloc (.cells #[.int .i64 0] 3)).heap.size 24 (.int .i64 0) := ⟨heap_alloc_new _ _⟩
  have hbB := (Below.refl (w1.alloc (.cells #[.int .i64 0] 3)).heap.size (w1.alloc (.cells #[.int .i64 0] 3))).alloc (Nat.le_refl _) (.cells #[.int .i64 0] 24)
  refine ⟨_, rfl, (hM.below hbA).below hbB, ?_, ?_, (hb1.trans (hbA.mono (by omega))).trans (hbB.mono (by omega)), ?_⟩
  · have := hA.below hbB; rw [hs1] at this; exact this
  · rw [hsA, hs1] at hB; exact hB
  · have : ((w1.alloc (.cells #[.int .i64 0] 3)).alloc (.cells #[.int .i64 0] 24)).heap.size = w1.heap.size + 2 := by simp [go_sem]
    omega

def FinI (R C : Nat) (wd : Int) (xs : List Int) (w4 : World) (pre : List (Fin R)) (W : World) : Prop :=
  Hid (∀ y : Fin R, y ∈ pre → ∀ j, j < C → clsI wd (xs.getD (y.val * C + j) 0) < 3) ∧ Below w4.heap.size w4 W
def FinX (R C : Nat) (wd : Int) (xs : List Int) (w : World) (cd : Code) (pre : List (Fin R)) (W : World) : Prop :=
  (Hid (cd = .ret ∧ ∃ (pre0 : List (Fin R)) (y : Fin R) (j : Nat), pre = pre0 ++ [y] ∧ (∀ y : Fin R, y ∈ pre0 → ∀ j, j < C → clsI wd (xs.getD (y.val * C + j) 0) < 3) ∧ j < C ∧ (∀ i, i < j → clsI wd (xs.getD (y.val * C + i) 0) < 3) ∧
      ¬ clsI wd (xs.getD (y.val * C + j) 0) < 3 ∧ BoxAt W (w.heap.size + 1) 3 (.int .i64 ((y.val * C + j : Nat) : Int)) ∧ BoxAt W (w.heap.size + 1 + 1) 24 (.int .i64 (if clsI wd (xs.getD (y.val * C + j) 0) = 4 then 30 else 31)))) ∧ Below w.heap.size w W

theorem clsI_le (wd b : Int) : clsI wd b < 3 ∨ clsI wd b = 3 ∨ clsI wd b = 4 := by
  unfold clsI clsE
  repeat' split
  all_goals omega

theorem finite_leave {w W : World} {D : Nat} {tmps : Array Value} {p q : Int} (hb : Below w.heap.size w W) (hA : BoxAt W (w.heap.size + 1) 3 (.int .i64 p)) (hB : BoxAt W (w.heap.size + 1 + 1) 24 (.int .i64 q))
    (hK : W.heap[D]? = some (.deferred (some []))) (hD : w.heap.size + 3 ≤ D) (h2 : tmps[2]?.getD undef = .pointer (some ⟨w.heap.size + 1, 0, none⟩)) (h3 : tmps[3]?.getD undef = .pointer (some ⟨w.heap.size + 1 + 1, 0, none⟩)) :
    bodyPostM Fence.wide 6 Try.prog Try.f33 (fun e w' => e = .returned (.tuple #[.int .i64 p, .int .i64 q]) ∧ Below w.heap.size w w') Exit.ret { tmps := tmps, defers := [{ target := Target.collected D, args := #[] }] } W := by
  refine ⟨by simp, .inl ⟨_, _, rfl, run_takeDeferred hK, ?_⟩⟩
  have hg := grownBy_putObj' W D (.deferred none)
  have hA2 := (hA.grown hg (by simp; omega)).cell
  have hB2 := (hB.grown hg (by simp; omega)).cell
  refine ⟨.tuple #[.int .i64 p, .int .i64 q], ?_, rfl, hb.grown hg hb.size (fun r e => by cases e; omega)⟩
  simp [results, Try.results33, go_sem, h2, h3, hA2, hB2]
theorem finite_end {w W : World} {D : Nat} {tmps : Array Value} {p q : Int} {u0 u1 : Value} (hb : Below w.heap.size w W) (hD0 : w.heap.size + 3 ≤ D) (hA : BoxAt W (w.heap.size + 1) 3 u0) (hB : BoxAt W (w.heap.size + 1 + 1) 24 u1)
    (hK : W.heap[D]? = some (.deferred (some []))) (h2 : tmps[2]?.getD undef = .pointer (some ⟨w.heap.size + 1, 0, none⟩)) (h3 : tmps[3]?.getD undef = .pointer (some ⟨w.heap.size + 1 + 1, 0, none⟩)) :
    bodyPostM Fence.wide 6 Try.prog Try.f33 (fun e w' => e = .returned (.tuple #[.int .i64 p, .int .i64 q]) ∧ Below w.heap.size w w') Exit.ret { tmps := tmps, defers := [{ target := Target.collected D, args := #[] }] }
      ((W.setCell ⟨w.heap.size + 1, 0, none⟩ (.int .i64 p)).setCell ⟨w.heap.size + 1 + 1, 0, none⟩ (.int .i64 q)) := by
  have g1 := grownBy_setCell W (w.heap.size + 1) 0 (.int .i64 p)
  have g2 := grownBy_setCell (W.setCell ⟨w.heap.size + 1, 0, none⟩ (.int .i64 p)) (w.heap.size + 1 + 1) 0 (.int .i64 q)
  refine finite_leave ((hb.grown g1 hb.size (fun r e => by cases e; omega)).grown g2 (by simpa [World.setCell] using hb.size) (fun r e => by cases e; omega)) ((hA.set _).grown g2 (by simp)) ((hB.grown g1 (by simp)).set _) ?_ hD0 h2 h3
  rw [heap_setCell _ _ _ _ D (by omega), heap_setCell _ _ _ _ D (by omega)]
  exact hK

set_option maxRecDepth 100000 in
set_option maxHeartbeats 4000000 in
theorem finite_in (R C : Nat) (wd : Int) (b off cp : Nat) (xs : List Int) (w : World) (hR0 : 0 < R) (hC0 : 0 < C) (hR1 : R ≤ 4096) (hC1 : C ≤ 4096) (hRC : R * C ≤ 4096) (hl : xs.length = R * C) (hE : matE R C wd xs = 0)
    (hcp : xs.length ≤ cp) (hcell : ∀ j, j < xs.length → w.cell? ⟨b, off + j, none⟩ = some (.int .i64 (xs.getD j 0))) (hok : ∀ x, x ∈ xs → okB wd x) :
    Calls Try.prog 33 #[matV R C wd (.slice (some ⟨b, off, none⟩) (R * C) cp)] w fun e w' => e = .returned (.tuple #[.int .i64 (stopI wd xs).1, .int .i64 (stopI wd xs).2]) ∧ Below w.heap.size w w' := by
  have hv : ReadI w (.slice (some ⟨b, off, none⟩) (R * C) cp) xs := .inr ⟨b, off, cp, by rw [hl], hcp, hcell⟩
  have HV := Lib.hid hv
  have HC := Lib.hid hcell
  have HO := Lib.hid hok
  have HE := Lib.hid hE
  have HL := Lib.hid hl
  rw [hl] at hcp
  clear hv hcell hok hE hl
  unfold matV
  refine (callsIn_wide (n := 6)).1 ?_
  refine callsIn_of_wp_marks Try.func33 rfl trivial ?_ rfl
  simp only [Try.ntmps33, List.size_toArray, List.length_cons, List.length_nil, Nat.reduceAdd, Nat.reduceSub, Array.replicate_succ, Array.replicate_zero, List.push_toArray, List.append_toArray, List.nil_append, List.cons_append]
  gi_wp2_with fail
  obtain ⟨w1, hw1, hM, hA, hB, hb1, hs1⟩ := boxes3 w R C wd (.slice (some ⟨b, off, none⟩) (R * C) cp)
  rw [← hw1]
  clear hw1
  refine ⟨trivial, ?_⟩
  refine (callsIn_wide.2 (check_any R C wd _ xs w1 (HV.out.below (hb1.mono (Nat.le_refl _))) (by rw [HL.out]; omega))).mono ?_
  rintro e w2 ⟨rfl, hb2⟩
  rw [HE.out]
  have hM2 := hM.below hb2
  have hA2 := hA.below hb2
  have hB2 := hB.below hb2
  have hb3 := hb1.trans (hb2.mono hb1.size)
  have hs2 : w.heap.size + 3 ≤ w2.heap.size := by have := hb2.size; omega
  clear hM hA hB hb1 hb2 hs1
  have c0 := hM2.c0
  have c1 := hM2.c1
  have c2 := hM2.c2
  have c3 := hM2.c3
  gi_wp2_with fail
  refine ⟨trivial, ?_⟩
  refine (rows_in Fence.wide 5 trivial rfl R C wd _ _).mono ?_
  rintro e w3 ⟨rfl, rfl⟩
  gi_wp2_with fail
  obtain ⟨w4, hw4, hM4, hb4, hs4⟩ := boxM w2 R C wd (.slice (some ⟨b, off, none⟩) (R * C) cp)
  rw [← hw4]
  clear hw4
  have hMg := hM2.below hb4
  have hAg := hA2.below hb4
  have hBg := hB2.below hb4
  have hbw := hb3.trans (hb4.mono (by omega))
  clear hM2 hA2 hB2 hb3 hb4 c0 c1 c2 c3
  refine wpIn_rangeFunc_ownF (F := Fence.wide) rfl (by omega) (gf := 151) (lb := #[.pointer (some ⟨w2.heap.size, 0, none⟩)]) rfl trivial (enters_of Try.func151 (by kernel_rfl) rfl)
    (rows_stops Fence.wide 5 trivial rfl (by omega) w2.heap.size w4.heap.size b off cp R C wd hR1 hC0 hC1 hRC hcp (by omega) w4 hM4) belowK_t (belowK_b (Nat.le_refl _)) (Below.refl _ _) (fun _ => rfl)
    (FinI R C wd xs w4) (FinX R C wd xs w)
    (OwnFrom.and (ownFrom_pure _ _) (ownFrom_below (Nat.le_refl _) (Nat.le_refl _)))
    (fun cd => OwnFrom.and (fun s A B row hs hg hr => ⟨hs.1, by
      obtain ⟨pre0, y, j, h1, h2, h3, h4, h5, h6, h7⟩ := hs.2
      exact ⟨pre0, y, j, h1, h2, h3, h4, h5, h6.grown hg (cells_ne h6.block hr), h7.grown hg (cells_ne h7.block hr)⟩⟩) (ownFrom_below (Nat.le_refl _) hbw.size))
    ⟨fun y hy => absurd hy (List.not_mem_nil), Below.refl _ _⟩
    (fun x => { tmps := #[.agg #[.int .i64 R, .int .i64 C, .int .i64 wd, .slice (some ⟨b, off, none⟩) (R * C) cp], .pointer (some ⟨w.heap.size, 0, none⟩), .pointer (some ⟨w.heap.size + 1, 0, none⟩), .pointer (some ⟨w.heap.size + 1 + 1, 0, none⟩), .int .i64 0,
      .int .i64 (x.val : Nat), .slice (some ⟨b, off + x.val * C, none⟩) C C, undef, undef, .agg #[.int .i64 R, .int .i64 C, .int .i64 wd, .slice (some ⟨b, off, none⟩) (R * C) cp], .int .i64 0, .int .i64 0, .bool false, undef,
      .agg #[.int .i64 R, .int .i64 C, .int .i64 wd, .slice (some ⟨b, off, none⟩) (R * C) cp], .func (.func 151) #[] #[.pointer (some ⟨w2.heap.size, 0, none⟩)], .int .i64 (x.val : Nat), .slice (some ⟨b, off + x.val * C, none⟩) C C, undef, undef, undef, undef, undef, undef, undef, undef, undef, undef, undef, undef, undef, undef, undef, undef, undef, undef, undef, undef, undef, undef, undef, undef, undef, undef, undef, undef], defers := [] }) ?assign ?body ?done ?stop
  case assign =>
    intro l x W K hK
    gi_wp2
    exact hK
  case body =>
    rintro l pre x W ⟨HI, hbW⟩ _
    have hMW := hMg.below hbW
    have hAW := hAg.below hbW
    have hBW := hBg.below hbW
    obtain ⟨fr, hfr⟩ : ∃ fr, fr = x.val * C := ⟨_, rfl⟩
    have hfr1 : fr + C ≤ R * C := by
      have : (x.val + 1) * C ≤ R * C := Nat.mul_le_mul_right C x.isLt
      rw [Nat.add_mul] at this
      omega
    have e1 : ((x.val : Nat) : Int) * (C : Int) = (fr : Int) := by rw [hfr]; simp
    have hxR : ((x.val : Nat) : Int) ≤ 4096 := by have := x.isLt; omega
    dsimp only
    rw [← hfr]
    have HF := Lib.hid hfr
    clear hfr
    gi_wp2_with fail
    gi_loopw [7, 8, 20] (fun _ _ i wr => ∃ j : Nat, j ≤ C ∧ i = .int .i64 j ∧ KeepsOthers W wr ∧ Below W.heap.size W wr ∧ Hid (∀ i, i < j → clsI wd (xs.getD (fr + i) 0) < 3)) (fun _ _ i _ => C - (intOf i).toNat)
    case atStart => exact ⟨0, Nat.zero_le _, rfl, KeepsOthers.refl _, Below.refl _ _, fun i hi => absurd hi (Nat.not_lt_zero _)⟩
    case round =>
      obtain ⟨j, hj, rfl, hKO, hbr, HJ⟩ := hrel
      by_cases hlt : j < C
      · have hidx : fr + j < xs.length := by rw [HL.out]; omega
        have hbwr : Below w.heap.size w wr := (hbw.trans (hbW.mono hbw.size)).trans (hbr.mono (Nat.le_trans hbw.size hbW.size))
        have e0 : wr.cell? ⟨b, off + fr + j, none⟩ = some (.int .i64 (xs.getD (fr + j) 0)) := by
          have h := HC.out (fr + j) hidx
          rw [← Nat.add_assoc] at h
          exact (hbwr.cell (p := ⟨b, off + fr + j, none⟩) (by exact World.block_lt_of_cell? _ _ h)).trans h
        have hoky : okB wd (xs.getD (fr + j) 0) := HO.out _ (by simp [List.getD, hidx])
        obtain ⟨y, hy⟩ : ∃ y, y = xs.getD (fr + j) 0 := ⟨_, rfl⟩
        rw [← hy] at e0 hoky
        have HY := Lib.hid hy
        clear hy hidx
        have hMr := hMW.below hbr
        have hAr := hAW.below hbr
        have hBr := hBW.below hbr
        have c2 := hMr.c2
        have c1 := hMr.c1
        have a0 := hAr.cell
        have a1 := hAr.free
        have b0 := hBr.cell
        have b1 := hBr.free
        gi_wp2_with fail
        refine ⟨trivial, ?_⟩
        refine (CallsIn.inRound l (callsIn_wide.2 (class_any y wd hoky _))).mono ?_
        rintro e w5 ⟨rfl, hb5⟩
        have hKO5 : KeepsOthers W w5 := hKO.trans (KeepsOthers.of_grownBy (grownBy_of_below hb5 none) (fun _ _ h => by cases h))
        have hbr5 : Below W.heap.size W w5 := hbr.trans (hb5.mono hbr.size)
        have hMr5 := hMr.below hb5
        have hAr5 := hAr.below hb5
        have hBr5 := hBr.below hb5
        clear c1 c2 a0 a1 b0 b1 e0 hoky hKO hbr hMr hAr hBr hb5 hbwr
        have c1 := hMr5.c1
        have a0 := hAr5.cell
        have a1 := hAr5.free
        have b0 := hBr5.cell
        have b1 := hBr5.free
        by_cases h3 : clsI wd y < 3
        · have q4 : (clsI wd y == 4) = false := by simp; omega
          have q3 : (clsI wd y == 3) = false := by simp; omega
          have H3 := Lib.hid h3
          clear h3
          gi_wp2
          go_roundw
          case rel =>
            refine ⟨j + 1, hlt, by go_num, hKO5, hbr5, fun i hi => ?_⟩
            by_cases ei : i = j
            · subst ei; rw [← HY.out]; exact H3.out
            · exact HJ.out i (by omega)
          case measure => simp [intOf]; omega
        · have hle := clsI_le wd y
          by_cases h4 : clsI wd y = 4
          · have q4 : (clsI wd y == 4) = true := by simp [h4]
            have H3 := Lib.hid h3
            have H4 := Lib.hid h4
            clear h3 h4 hle
            gi_wp2
            have g1 := grownBy_setCell w5 (w.heap.size + 1) 0 (.int .i64 ((fr : Int) + (j : Int)))
            have g2 := grownBy_setCell (w5.setCell ⟨w.heap.size + 1, 0, none⟩ (.int .i64 ((fr : Int) + (j : Int)))) (w.heap.size + 1 + 1) 0 (.int .i64 30)
            refine ⟨(hKO5.trans (KeepsOthers.setCell _ _ _)).trans (KeepsOthers.setCell _ _ _), ⟨rfl, pre, x, j, rfl, HI.out, hlt, by rw [← HF.out]; exact HJ.out, by rw [← HF.out, ← HY.out]; exact Int.not_lt.2 H3.out, ?_, ?_⟩, ?_⟩
            · rw [← HF.out]
              exact (hAr5.set _).grown g2 (by simp)
            · rw [← HF.out, ← HY.out, if_pos H4.out]
              exact (hBr5.grown g1 (by simp)).set _
            · have hb9 : Below w.heap.size w w5 := (hbw.trans (hbW.mono hbw.size)).trans (hbr5.mono (Nat.le_trans hbw.size hbW.size))
              exact (hb9.grown g1 hb9.size (fun r e => by cases e; omega)).grown g2 (by simpa [World.setCell] using hb9.size) (fun r e => by cases e; omega)
          · have q4 : (clsI wd y == 4) = false := by simp [h4]
            have q3 : (clsI wd y == 3) = true := by simp; omega
            have H3 := Lib.hid h3
            have H4 := Lib.hid h4
            clear h3 h4 hle
            gi_wp2
            have g1 := grownBy_setCell w5 (w.heap.size + 1) 0 (.int .i64 ((fr : Int) + (j : Int)))
            have g2 := grownBy_setCell (w5.setCell ⟨w.heap.size + 1, 0, none⟩ (.int .i64 ((fr : Int) + (j : Int)))) (w.heap.size + 1 + 1) 0 (.int .i64 31)
            refine ⟨(hKO5.trans (KeepsOthers.setCell _ _ _)).trans (KeepsOthers.setCell _ _ _), ⟨rfl, pre, x, j, rfl, HI.out, hlt, by rw [← HF.out]; exact HJ.out, by rw [← HF.out, ← HY.out]; exact Int.not_lt.2 H3.out, ?_, ?_⟩, ?_⟩
            · rw [← HF.out]
              exact (hAr5.set _).grown g2 (by simp)
            · rw [← HF.out, ← HY.out, if_neg H4.out]
              exact (hBr5.grown g1 (by simp)).set _
            · have hb9 : Below w.heap.size w w5 := (hbw.trans (hbW.mono hbw.size)).trans (hbr5.mono (Nat.le_trans hbw.size hbW.size))
              exact (hb9.grown g1 hb9.size (fun r e => by cases e; omega)).grown g2 (by simpa [World.setCell] using hb9.size) (fun r e => by cases e; omega)
      · obtain rfl : j = C := by omega
        gi_wp2
        refine ⟨hKO, (hbr.mono hbW.size), ?_, hbW.trans (hbr.mono hbW.size)⟩
        intro y hy i hi
        rcases List.mem_append.1 hy with h | h
        · exact HI.out y h i hi
        · have : y = x := by simpa using h
          subst this
          rw [← HF.out]
          exact HJ.out i hi
  case done =>
    rintro D ys W hD rfl ⟨HI, hbW⟩ hK
    have hAW := hAg.below hbW
    have hBW := hBg.below hbW
    have a0 := hAW.cell
    have a1 := hAW.free
    have b0 := hBW.cell
    have b1 := hBW.free
    gi_wp2
    have hst : stopI wd xs = (0, 0) := stopFrom_none wd xs 0 fun q hq => by
      rw [HL.out] at hq
      have hx : q / C < R := Nat.div_lt_of_lt_mul (by rw [Nat.mul_comm]; exact hq)
      have := HI.out ⟨q / C, hx⟩ (List.mem_finRange _) (q % C) (Nat.mod_lt _ hC0)
      rw [Nat.mul_comm, Nat.div_add_mod] at this
      exact this
    rw [hst]
    exact finite_end (hbw.trans (hbW.mono hbw.size)) (by omega) hAW hBW hK rfl rfl
  case stop =>
    rintro D cd pre W hD ⟨k, hk, rfl⟩ ⟨HI, hbW⟩ hK
    obtain ⟨rfl, pre0, y, j, h1, h2, h3, h4, h5, h6, h7⟩ := HI.out
    have hst : stopI wd xs = (((y.val * C + j : Nat) : Int), if clsI wd (xs.getD (y.val * C + j) 0) = 4 then 30 else 31) := by
      have hlen := congrArg List.length h1
      rw [List.length_take, List.length_finRange, List.length_append, Nat.min_eq_left hk] at hlen
      have hk1 : pre0.length + 1 = k := by simpa using hlen.symm
      have hk2 : pre0.length < R := by omega
      rw [← hk1, take_finRange R pre0.length hk2] at h1
      have h8 := List.append_inj' h1 rfl
      have hy : y.val = pre0.length := by
        have := h8.2
        simp at this
        rw [← this]
      have hidx : y.val * C + j < xs.length := by
        rw [HL.out]
        have : (y.val + 1) * C ≤ R * C := Nat.mul_le_mul_right C y.isLt
        rw [Nat.add_mul] at this
        omega
      have := stopFrom_first wd xs 0 (y.val * C + j) hidx (fun q hq => by
        by_cases hqy : q / C = y.val
        · have e := Nat.div_add_mod q C
          rw [hqy, Nat.mul_comm] at e
          rw [← e]
          exact h4 (q % C) (by rw [← e] at hq; omega)
        · have hlt2 : q / C < y.val := by
            rcases Nat.lt_or_gt_of_ne hqy with h | h
            · exact h
            · exfalso
              have h9 : (y.val + 1) * C ≤ q / C * C := Nat.mul_le_mul_right C h
              have h10 := Nat.div_mul_le_self q C
              rw [Nat.add_mul] at h9
              omega
          have e := Nat.div_add_mod q C
          have hm : (⟨q / C, by omega⟩ : Fin R) ∈ pre0 := by
            have hin : (⟨q / C, by omega⟩ : Fin R) ∈ List.take pre0.length (List.finRange R) := by
              rw [List.mem_take_iff_getElem]
              exact ⟨q / C, by simp; omega, by simp⟩
            rw [h8.1] at hin
            exact hin
          have := h2 _ hm (q % C) (Nat.mod_lt _ hC0)
          rw [Nat.mul_comm] at this
          dsimp only at this
          rw [e] at this
          exact this) h5
      rw [Nat.zero_add] at this
      exact this
    have HST := Lib.hid hst
    clear hst h1 h2 h3 h4 h5
    gi_wp2
    rw [HST.out]
    exact finite_leave hbW h6 h7 hK (by omega) rfl rfl
end Go.Proofs.Ytdddbljkhhbdlaa
