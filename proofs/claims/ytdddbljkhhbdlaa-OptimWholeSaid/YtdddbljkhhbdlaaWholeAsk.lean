/-
Three lists that grow side by side, and what stands in the two matrices.
-/
import Derived.Test.YtdddbljkhhbdlaaWholeAlive
namespace Go.Proofs.Ytdddbljkhhbdlaa
open Go.RowKit

theorem Lists.app {w w1 w' : World} {B n k : Nat} {V V' : Nat → Value} {X X' : Nat → List Int} {y : Int} {v' : Value} (h : Lists cellsI 3 1 w B n V X) (hb : Below w.heap.size w w1) (hk : k < n)
    (hA : Appended w1 w' B 3 1 (V k) (X k).length (cellsI (X k)) [.int .i64 y] 1 v') (hV : V' k = v') (hVo : ∀ i, i < n → i ≠ k → V' i = V i) (hX : X' k = X k ++ [y]) (hXo : ∀ i, i < n → i ≠ k → X' i = X i) : Lists cellsI 3 1 w' B n V' X' := by
  have h1 := h.below hb
  have hfar : ∀ i, i < n → i ≠ k → (V i).ownBlock = none ∨ (V i).ownBlock ≠ v'.ownBlock := by
    intro i hi hik
    rcases h.apart i k hi hk hik with h0 | h0
    · exact .inl h0
    · rcases hA.lies with e | e
      · exact .inr (by rw [e]; exact h0)
      · cases ho : (V i).ownBlock with
        | none => exact .inl rfl
        | some g =>
          right
          rw [e]
          intro e2
          have := (h1.lt hi ho).2
          have := Option.some.inj e2
          omega
  refine ⟨fun i hi => ?_, fun i j hi hj hij => ?_⟩
  · by_cases e : i = k
    · subst e
      rw [hV, hX, cellsI_append, List.length_append]
      exact hA.own
    · rw [hVo i hi e, hXo i hi e]
      exact (h1.row i hi).kept hA.grown (h.apart i k hi hk e)
  · by_cases ei : i = k
    · subst ei
      rw [hV, hVo j hj (fun e => hij e.symm)]
      rcases hfar j hj (fun e => hij e.symm) with h0 | h0
      · cases hv : v'.ownBlock with
        | none => exact .inl rfl
        | some g => exact .inr (by rw [h0]; simp)
      · exact .inr (fun e => h0 e.symm)
    · rw [hVo i hi ei]
      by_cases ej : j = k
      · subst ej
        rw [hV]
        exact hfar i hi ei
      · rw [hVo j hj ej]
        exact h.apart i j hi hj hij

theorem grownBy_below {w w' : World} (h : w.grownBy w' none) : Below w.heap.size w w' := ⟨h.os, h.tape, h.output, h.size, fun k hk => h.block k hk (by simp)⟩
theorem step_done {P : Program} {w : World} {ops : Array Oper} {o : Oper} {a : Act} {K : Act → World → Prop} {Q : Exit → Act → World → Prop} {E : Prop} (hgd : o.guard = none) (s x : Operand) (t : TypeId)
    (ho : o.op = .call { callee := .builtin .append, args := #[s, x], argTypes := #[t, t] }) {v u v' : Value} {w' : World} (hs : a.eval s = v) (hx : a.eval x = u)
    (h : (Builtin.append_ #[t, t] o.type #[v, u]).run P w = .ok v' w') (hK : K (a.put o.dst v') w') : if Region.wanted o (yielded ops a.tmps) = true then Oper.wp P o a w K Q else E := by
  have hw : Region.wanted o (yielded ops a.tmps) = true := by simp [Region.wanted, hgd]
  rw [if_pos hw]
  unfold Oper.wp execOp
  simp only [ho, resolve, invoke, builtin, Sem.run_bind, Sem.run_pure, Result.andThen_ok, List.map_toArray, List.map_cons, List.map_nil, hs, hx, h]
  exact hK
theorem step_call {P : Program} {w : World} {ops : Array Oper} {o : Oper} {a : Act} {K : Act → World → Prop} {Q : Exit → Act → World → Prop} {E : Prop} (hgd : o.guard = none) (f : Nat) (vals : Array Value) (v : Value)
    (hrun : (execOp a.eval o).run P w = .ok (.enter f vals) w) (hc : Calls P f vals w fun e w' => e = .returned v ∧ w' = w) (hK : K (a.put o.dst v) w) : if Region.wanted o (yielded ops a.tmps) = true then Oper.wp P o a w K Q else E := by
  have hw : Region.wanted o (yielded ops a.tmps) = true := by simp [Region.wanted, hgd]
  rw [if_pos hw]
  unfold Oper.wp
  rw [hrun]
  exact hc.mono fun e w'' ⟨he, hw⟩ => by subst he; subst hw; exact hK
/-- The remainder by a thousand, as Go has it. -/
def remI (xs : List Int) (j : Nat) : Int := (xs.getD j 0).tmod 1000
theorem remI_lt (xs : List Int) (j : Nat) : -999 ≤ remI xs j ∧ remI xs j ≤ 999 := by
  unfold remI
  have h := Int.natAbs_tmod (xs.getD j 0) 1000
  have h2 : (xs.getD j 0).natAbs % (1000 : Int).natAbs < 1000 := Nat.mod_lt _ (by decide)
  omega
theorem tmod_lt (x : Int) : -999 ≤ x.tmod 1000 ∧ x.tmod 1000 ≤ 999 := by
  have h := Int.natAbs_tmod x 1000
  have h2 : x.natAbs % (1000 : Int).natAbs < 1000 := Nat.mod_lt _ (by decide)
  omega
theorem wrap_ask (y : Int) (s : Nat) (hs : s ≤ 8) : wrap64 (y.tmod 1000 * wrap64 (2 ^ s)) = y.tmod 1000 * 2 ^ s := by
  have h := tmod_lt y
  generalize y.tmod 1000 = z at h ⊢
  unfold wrap64
  rcases nine hs with rfl | rfl | rfl | rfl | rfl | rfl | rfl | rfl | rfl <;> simp <;> omega
theorem small_rem (xs : List Int) (j : Nat) : SmallN (remI xs j) := by
  have := remI_lt xs j
  unfold SmallN
  omega
theorem small_mul (xs : List Int) (j s : Nat) (hs : s ≤ 8) : SmallN (remI xs j * 2 ^ s) := by
  have := remI_lt xs j
  unfold SmallN
  rcases nine hs with rfl | rfl | rfl | rfl | rfl | rfl | rfl | rfl | rfl <;> simp <;> omega
theorem small_sub (xs ys : List Int) (j : Nat) : SmallN (remI xs j - remI ys j) := by
  have := remI_lt xs j
  have := remI_lt ys j
  unfold SmallN
  omega
theorem rangeI_succ (n : Nat) (f : Nat → Int) : rangeI (n + 1) f = rangeI n f ++ [f n] := by simp [rangeI, List.range_succ]
/-- One of three. -/
def tri {α : Type} (a b c : α) : Nat → α := fun i => if i = 0 then a else if i = 1 then b else c
theorem tri_a {α : Type} (a a' b c : α) (i : Nat) (h : i ≠ 0) : tri a' b c i = tri a b c i := by simp [tri, h]
theorem tri_b {α : Type} (a b b' c : α) (i : Nat) (h : i ≠ 1) : tri a b' c i = tri a b c i := by simp [tri, h]
theorem tri_c {α : Type} (a b c c' : α) (i : Nat) (h : i < 3) (h2 : i ≠ 2) : tri a b c' i = tri a b c i := by
  have : i = 0 ∨ i = 1 := by omega
  rcases this with rfl | rfl <;> rfl

/-- What stands in the two matrices and in the third list. -/
structure Asked (w0 w : World) (l : Nat) (wd : Int) (va vb vc : Value) (xa xb xc : List Int) : Prop where
  A : MatAt w w0.heap.size 1 l wd va
  B : MatAt w (w0.heap.size + 1) 1 l wd vb
  lists : Lists cellsI 3 1 w (w0.heap.size + 2) 3 (tri va vb vc) (tri xa xb xc)
  below : Below w0.heap.size w0 w
  size : w0.heap.size + 2 ≤ w.heap.size

theorem set3 {w : World} {g : Nat} {r c wd : Int} {v : Value} (h : MatAt w g r c wd v) (u : Value) : MatAt (w.setCell ⟨g, 3, none⟩ u) g r c wd u := by
  refine ⟨?_⟩
  simp only [World.setCell, Array.getElem?_modify, if_true, h.block, Option.map_some]
  rfl
theorem Asked.far {w0 w : World} {l : Nat} {wd : Int} {va vb vc : Value} {xa xb xc : List Int} (h : Asked w0 w l wd va vb vc xa xb xc) (g : Nat) (hg : g < w0.heap.size + 2) (i : Nat) (hi : i < 3) :
    some g ≠ (tri va vb vc i).ownBlock := by
  intro e
  have := (h.lists.lt hi e.symm).1
  omega
theorem Asked.kept {w0 w w' : World} {l : Nat} {wd : Int} {va vb vc : Value} {xa xb xc : List Int} (h : Asked w0 w l wd va vb vc xa xb xc) (hb : Below w.heap.size w w') : Asked w0 w' l wd va vb vc xa xb xc :=
  ⟨h.A.below hb, h.B.below hb, h.lists.below hb, h.below.trans (hb.mono h.below.size), Nat.le_trans h.size hb.size⟩
theorem Asked.putA {w0 w w1 w2 : World} {l : Nat} {wd : Int} {va vb vc v' : Value} {xa xb xc : List Int} {y : Int} (h : Asked w0 w l wd va vb vc xa xb xc) (hb : Below w.heap.size w w1)
    (hA : Appended w1 w2 (w0.heap.size + 2) 3 1 va xa.length (cellsI xa) [.int .i64 y] 1 v') :
    MatAt w2 w0.heap.size 1 l wd va ∧ Asked w0 (w2.setCell ⟨w0.heap.size, 3, none⟩ v') l wd v' vb vc (xa ++ [y]) xb xc := by
  have h1 := h.kept hb
  have hM := h1.A.grown hA.grown (h1.far w0.heap.size (by omega) 0 (by omega))
  have hN := h1.B.grown hA.grown (h1.far (w0.heap.size + 1) (by omega) 0 (by omega))
  have hl := h.lists.app (k := 0) hb (by omega) hA (V' := tri v' vb vc) (X' := tri (xa ++ [y]) xb xc) rfl (fun i _ hi => tri_a va v' vb vc i hi) rfl (fun i _ hi => tri_a xa (xa ++ [y]) xb xc i hi)
  have g3 := grownBy_setCell w2 w0.heap.size 3 v'
  refine ⟨hM, set3 hM v', hN.grown g3 (by simp), hl.kept g3 (fun i hi => ?_), ?_, ?_⟩
  · cases ho : (tri v' vb vc i).ownBlock with
    | none => exact .inl rfl
    | some g => right; intro e; have := (hl.lt hi ho).1; have := Option.some.inj e; omega
  · exact (h1.below.grown hA.grown h1.below.size (fun r e => by have := (h1.lists.lt (i := 0) (by omega) e).1; omega)).grown g3 (Nat.le_trans h1.below.size hA.grown.size) (fun r e => by cases e; omega)
  · exact Nat.le_trans h1.size (Nat.le_trans hA.grown.size g3.size)
theorem Asked.putB {w0 w w1 w2 : World} {l : Nat} {wd : Int} {va vb vc v' : Value} {xa xb xc : List Int} {y : Int} (h : Asked w0 w l wd va vb vc xa xb xc) (hb : Below w.heap.size w w1)
    (hA : Appended w1 w2 (w0.heap.size + 2) 3 1 vb xb.length (cellsI xb) [.int .i64 y] 1 v') :
    MatAt w2 (w0.heap.size + 1) 1 l wd vb ∧ Asked w0 (w2.setCell ⟨w0.heap.size + 1, 3, none⟩ v') l wd va v' vc xa (xb ++ [y]) xc := by
  have h1 := h.kept hb
  have hM := h1.A.grown hA.grown (h1.far w0.heap.size (by omega) 1 (by omega))
  have hN := h1.B.grown hA.grown (h1.far (w0.heap.size + 1) (by omega) 1 (by omega))
  have hl := h.lists.app (k := 1) hb (by omega) hA (V' := tri va v' vc) (X' := tri xa (xb ++ [y]) xc) rfl (fun i _ hi => tri_b va vb v' vc i hi) rfl (fun i _ hi => tri_b xa xb (xb ++ [y]) xc i hi)
  have g3 := grownBy_setCell w2 (w0.heap.size + 1) 3 v'
  refine ⟨hN, hM.grown g3 (by simp), set3 hN v', hl.kept g3 (fun i hi => ?_), ?_, ?_⟩
  · cases ho : (tri va v' vc i).ownBlock with
    | none => exact .inl rfl
    | some g => right; intro e; have := (hl.lt hi ho).1; have := Option.some.inj e; omega
  · exact (h1.below.grown hA.grown h1.below.size (fun r e => by have := (h1.lists.lt (i := 1) (by omega) e).1; omega)).grown g3 (Nat.le_trans h1.below.size hA.grown.size) (fun r e => by cases e; omega)
  · exact Nat.le_trans h1.size (Nat.le_trans hA.grown.size g3.size)
theorem Asked.putC {w0 w w1 w2 : World} {l : Nat} {wd : Int} {va vb vc v' : Value} {xa xb xc : List Int} {y : Int} (h : Asked w0 w l wd va vb vc xa xb xc) (hb : Below w.heap.size w w1)
    (hA : Appended w1 w2 (w0.heap.size + 2) 3 1 vc xc.length (cellsI xc) [.int .i64 y] 1 v') : Asked w0 w2 l wd va vb v' xa xb (xc ++ [y]) := by
  have h1 := h.kept hb
  have hM := h1.A.grown hA.grown (h1.far w0.heap.size (by omega) 2 (by omega))
  have hN := h1.B.grown hA.grown (h1.far (w0.heap.size + 1) (by omega) 2 (by omega))
  have hl := h.lists.app (k := 2) hb (by omega) hA (V' := tri va vb v') (X' := tri xa xb (xc ++ [y])) rfl (fun i h3 hi => tri_c va vb vc v' i h3 hi) rfl (fun i h3 hi => tri_c xa xb xc (xc ++ [y]) i h3 hi)
  exact ⟨hM, hN, hl, h1.below.grown hA.grown h1.below.size (fun r e => by have := (h1.lists.lt (i := 2) (by omega) e).1; omega), Nat.le_trans h1.size hA.grown.size⟩
theorem Asked.readyA {w0 w : World} {l : Nat} {wd : Int} {va vb vc : Value} {xa xb xc : List Int} (h : Asked w0 w l wd va vb vc xa xb xc) (hn : xa.length ≤ 60) (y : Int) :
    ∃ v' w6, (Builtin.append_ #[43, 43] 43 #[va, .slice (some ⟨w.heap.size, 0, none⟩) 1 1]).run Try.prog (w.drew.alloc (.cells #[.int .i64 y] 3)) = .ok v' w6 ∧ MatAt w6 (w0.heap.size) 1 l wd va ∧ Asked w0 (w6.setCell ⟨w0.heap.size, 3, none⟩ v') l wd v' vb vc (xa ++ [y]) xb xc := by
  obtain ⟨w5, e5, hC, hb5, hs5⟩ := tbox w.drew 3 #[.int .i64 y]
  rw [← e5]
  have hb : Below w.heap.size w w5 := (Below.refl _ w).drew.trans hb5
  have hnew : ∀ (j : Nat) (u : Value), [Value.int .i64 y][j]? = some u → w5.cell? ((⟨w.heap.size, 0, none⟩ : Addr).add j) = some u := by
    intro j u hu
    have hj : j = 0 := by have := (List.getElem?_eq_some_iff.1 hu).1; simp at this; omega
    subst hj
    exact hC.cell 0 u hu
  have hrow : w5.ownsRow (w0.heap.size + 2) 3 1 va xa.length (cellsI xa) := own_below (h.lists.row 0 (by omega)) hb (Nat.le_refl _)
  obtain ⟨v', w6, happ, hA⟩ := run_append_mine (P := Try.prog) w5 (w0.heap.size + 2) 43 43 3 (.int .i64 0) 1 8 elem43 va xa.length (cellsI xa) hrow ⟨w.heap.size, 0, none⟩ 1 1 [.int .i64 y] rfl hnew (fun u hu => by simp at hu; subst hu; rfl) (by unfold maxLen; omega) (by omega) (Nat.le_trans h.size hb.size)
  obtain ⟨h1, h2⟩ := h.putA hb hA
  exact ⟨v', w6, happ, h1, h2⟩
theorem Asked.readyB {w0 w : World} {l : Nat} {wd : Int} {va vb vc : Value} {xa xb xc : List Int} (h : Asked w0 w l wd va vb vc xa xb xc) (hn : xb.length ≤ 60) (y : Int) :
    ∃ v' w6, (Builtin.append_ #[43, 43] 43 #[vb, .slice (some ⟨w.heap.size, 0, none⟩) 1 1]).run Try.prog (w.drew.alloc (.cells #[.int .i64 y] 3)) = .ok v' w6 ∧ MatAt w6 (w0.heap.size + 1) 1 l wd vb ∧ Asked w0 (w6.setCell ⟨w0.heap.size + 1, 3, none⟩ v') l wd va v' vc xa (xb ++ [y]) xc := by
  obtain ⟨w5, e5, hC, hb5, hs5⟩ := tbox w.drew 3 #[.int .i64 y]
  rw [← e5]
  have hb : Below w.heap.size w w5 := (Below.refl _ w).drew.trans hb5
  have hnew : ∀ (j : Nat) (u : Value), [Value.int .i64 y][j]? = some u → w5.cell? ((⟨w.heap.size, 0, none⟩ : Addr).add j) = some u := by
    intro j u hu
    have hj : j = 0 := by have := (List.getElem?_eq_some_iff.1 hu).1; simp at this; omega
    subst hj
    exact hC.cell 0 u hu
  have hrow : w5.ownsRow (w0.heap.size + 2) 3 1 vb xb.length (cellsI xb) := own_below (h.lists.row 1 (by omega)) hb (Nat.le_refl _)
  obtain ⟨v', w6, happ, hA⟩ := run_append_mine (P := Try.prog) w5 (w0.heap.size + 2) 43 43 3 (.int .i64 0) 1 8 elem43 vb xb.length (cellsI xb) hrow ⟨w.heap.size, 0, none⟩ 1 1 [.int .i64 y] rfl hnew (fun u hu => by simp at hu; subst hu; rfl) (by unfold maxLen; omega) (by omega) (Nat.le_trans h.size hb.size)
  obtain ⟨h1, h2⟩ := h.putB hb hA
  exact ⟨v', w6, happ, h1, h2⟩
theorem rowForm {w : World} {B n : Nat} {v : Value} {f : Nat → Int} (h : w.ownsRow B 3 1 v (rangeI n f).length (cellsI (rangeI n f))) (hn : 1 ≤ n) :
    ∃ g c, v = .slice (some ⟨g, 0, none⟩) n c ∧ n ≤ c ∧ ∀ k, k < n → w.cell? ⟨g, 0 + k, none⟩ = some (.int .i64 (f k)) := by
  rcases h.2 with ⟨_, h0⟩ | ⟨g, cap, cur, hv, _, _, hc, _⟩
  · rw [rangeI_length] at h0; omega
  · rw [rangeI_length] at hv hc
    refine ⟨g, cap, hv, hc, fun k hk => ?_⟩
    subst hv
    rw [rangeI_length] at h
    have e := own_cellI h k hk
    rw [rangeI_at n f k hk] at e
    rw [Nat.zero_add]
    exact e
end Go.Proofs.Ytdddbljkhhbdlaa
