/-
Book.Ints: one list more is put into the book, and a copy of it.
-/
import Derived.Test.YtdddbljkhhbdlaaGrow
import Derived.Test.YtdddbljkhhbdlaaOwn2
import Derived.Deep.RegionHeld3
import Derived.Deep.DeepMust
import Derived.Deep.RegionLaw
namespace Go.Proofs.Ytdddbljkhhbdlaa
open Go.RowKit

/-- A book of lists of numbers: n lists, and a copy of each. -/
structure BooksI (w : World) (B bb n : Nat) (V W : Nat → Value) (X : Nat → List Int) : Prop where
  tops : ∃ v0 w0, BookAt w bb v0 w0 (.slice none 0 0) (.slice none 0 0) ∧ w.ownsRow B 43 1 v0 n ((List.range n).map V) ∧ w.ownsRow B 43 1 w0 n ((List.range n).map W) ∧ (v0.ownBlock = none ∨ v0.ownBlock ≠ w0.ownBlock)
  lists : Lists cellsI 3 1 w B n V X
  copies : Lists cellsI 3 1 w B n W X
  above : B ≤ bb

/-- Rows of other types than the book's own are kept. -/
def KeepsI (w w' : World) : Prop := ∀ (b : Nat) (e : TypeId) (s : Nat) (u : Value) (m : Nat) (xs : List Value), e ≠ 43 → e ≠ 40 → w.ownsRow b e s u m xs → w'.ownsRow b e s u m xs

theorem BookAt.set0 {w : World} {bb : Nat} {v0 w0 v1 w1 : Value} (h : BookAt w bb v0 w0 v1 w1) (u : Value) : BookAt (w.setCell ⟨bb, 0, none⟩ u) bb u w0 v1 w1 := ⟨heap_setCell_same w bb 0 _ 40 u h.block⟩
theorem BookAt.set1 {w : World} {bb : Nat} {v0 w0 v1 w1 : Value} (h : BookAt w bb v0 w0 v1 w1) (u : Value) : BookAt (w.setCell ⟨bb, 1, none⟩ u) bb v0 u v1 w1 := ⟨heap_setCell_same w bb 1 _ 40 u h.block⟩
theorem BookAt.set2 {w : World} {bb : Nat} {v0 w0 v1 w1 : Value} (h : BookAt w bb v0 w0 v1 w1) (u : Value) : BookAt (w.setCell ⟨bb, 2, none⟩ u) bb v0 w0 u w1 := ⟨heap_setCell_same w bb 2 _ 40 u h.block⟩
theorem BookAt.set3 {w : World} {bb : Nat} {v0 w0 v1 w1 : Value} (h : BookAt w bb v0 w0 v1 w1) (u : Value) : BookAt (w.setCell ⟨bb, 3, none⟩ u) bb v0 w0 v1 u := ⟨heap_setCell_same w bb 3 _ 40 u h.block⟩
theorem grownBy_set (w : World) (bb j : Nat) (u : Value) : w.grownBy (w.setCell ⟨bb, j, none⟩ u) (some bb) :=
  ⟨rfl, rfl, rfl, by simp, fun k _ hk => heap_setCell_other w ⟨bb, j, none⟩ k u (fun e => hk (by rw [e]))⟩

theorem KeepsI.refl (w : World) : KeepsI w w := fun _ _ _ _ _ _ _ _ h => h
theorem KeepsI.trans {a b c : World} (h : KeepsI a b) (k : KeepsI b c) : KeepsI a c := fun b e s u m xs h1 h2 hr => k b e s u m xs h1 h2 (h b e s u m xs h1 h2 hr)
theorem KeepsI.of_below {w w' : World} (h : Below w.heap.size w w') : KeepsI w w' := fun _ _ _ _ _ _ _ _ hr => own_below hr h (Nat.le_refl _)
theorem KeepsI.lists {α : Type} {cells : List α → List Value} {e : TypeId} {sz : Nat} {w w' : World} {B n : Nat} {V : Nat → Value} {X : Nat → List α} (hk : KeepsI w w') (h1 : e ≠ 43) (h2 : e ≠ 40) (h : Lists cells e sz w B n V X) : Lists cells e sz w' B n V X :=
  ⟨fun i hi => hk _ _ _ _ _ _ h1 h2 (h.row i hi), h.apart⟩

/-- A value is put behind one of the book's two lists of lists, and the book holds it. -/
theorem keeps_top {w w1 : World} {bb B j n m : Nat} {v0 w0 v1 w1' v v' u : Value} {xs news : List Value} {o : Obj} (hk : BookAt w bb v0 w0 v1 w1') (hrow : w.ownsRow B 43 1 v n xs)
    (hA : Appended (w.alloc o) w1 B 43 1 v n xs news m v') : KeepsI w (w1.setCell ⟨bb, j, none⟩ u) := by
  intro b e s y k ys h1 h2 hr
  have hr1 := (hr.alloc o).kept hA.grown (own_other (hr.alloc o) (hrow.alloc o) h1)
  have hk1 := (hk.below ((Below.refl _ w).alloc (Nat.le_refl _) o)).grown hA.grown (hk.ne hrow (by decide))
  refine hr1.kept (grownBy_set w1 bb j u) ?_
  have := hk1.ne hr1 h2
  right
  exact fun e => this e.symm

theorem Lists.snoc {α : Type} {cells : List α → List Value} {e : TypeId} {sz : Nat} {w : World} {B n : Nat} {V : Nat → Value} {X : Nat → List α} {u : Value} {x : List α} (h : Lists cells e sz w B n V X)
    (hr : w.ownsRow B e sz u x.length (cells x)) (hap : ∀ i, i < n → (V i).ownBlock = none ∨ (V i).ownBlock ≠ u.ownBlock) : Lists cells e sz w B (n + 1) (fun i => if i = n then u else V i) (fun i => if i = n then x else X i) := by
  refine ⟨fun i hi => ?_, fun i j hi hj hne => ?_⟩
  · by_cases e : i = n
    · simp only [e, if_true]; exact hr
    · simp only [e, if_false]; exact h.row i (by omega)
  · by_cases ei : i = n
    · have ej : j ≠ n := fun e => hne (ei.trans e.symm)
      simp only [ei, ej, if_true, if_false]
      exact ne_symm (hap j (by omega))
    · by_cases ej : j = n
      · simp only [ei, ej, if_true, if_false]
        exact hap i (by omega)
      · simp only [ei, ej, if_false]
        exact h.apart i j (by omega) (by omega) hne
theorem map_snoc {V : Nat → Value} {n : Nat} {u : Value} : (List.range (n + 1)).map (fun i => if i = n then u else V i) = (List.range n).map V ++ [u] := by
  rw [List.range_succ, List.map_append]
  congr 1
  · apply List.map_congr_left
    intro j hj
    rw [if_neg (by have := List.mem_range.1 hj; omega)]
  · simp

theorem add_done {w w2 w3 w4 : World} {B bb n len : Nat} {V W : Nat → Value} {X : Nat → List Int} {l c v0 w0 w0' : Value} {x : List Int} (hBb : B ≤ bb) (hlen : len = x.length) (hb2 : Below B w w2) (hB2 : B ≤ w2.heap.size) (K1 : KeepsI w w2)
    (hk2 : BookAt w2 bb v0 w0 (.slice none 0 0) (.slice none 0 0)) (hv2 : w2.ownsRow B 43 1 v0 (n + 1) ((List.range n).map V ++ [l])) (hw2 : w2.ownsRow B 43 1 w0 n ((List.range n).map W))
    (hvw : v0.ownBlock = none ∨ v0.ownBlock ≠ w0.ownBlock) (hV2 : Lists cellsI 3 1 w2 B n V X) (hW2 : Lists cellsI 3 1 w2 B n W X) (hl2 : w2.ownsRow B 3 1 l len (cellsI x))
    (hap : ∀ i, i < n → (V i).ownBlock = none ∨ (V i).ownBlock ≠ l.ownBlock)
    (hA3 : Appended w2.drew w3 B 3 1 (.slice none 0 0) 0 [] (cellsI x) len c) (hA4 : Appended (w3.alloc (.cells #[c] 43)) w4 B 43 1 w0 n ((List.range n).map W) [c] 1 w0') :
    ∃ c', BooksI (w4.setCell ⟨bb, 1, none⟩ w0') B bb (n + 1) (fun i => if i = n then l else V i) (fun i => if i = n then c' else W i) (fun i => if i = n then x else X i) ∧
      Below B w (w4.setCell ⟨bb, 1, none⟩ w0') ∧ KeepsI w (w4.setCell ⟨bb, 1, none⟩ w0') := by
  subst hlen
  have nn : ∀ u : Value, u.ownBlock = none ∨ u.ownBlock ≠ (Value.slice none 0 0).ownBlock := fun u => by cases u.ownBlock <;> simp [Value.ownBlock]
  have hgn : w2.grownBy w3 (Value.slice none 0 0).ownBlock := ⟨hA3.grown.os, hA3.grown.tape, hA3.grown.output, hA3.grown.size, hA3.grown.block⟩
  have K2 : KeepsI w2 w3 := fun b e s u m xs _ _ hr => hr.kept hgn (nn u)
  have hk3 : BookAt w3 bb v0 w0 (.slice none 0 0) (.slice none 0 0) := hk2.grown hgn (by simp [Value.ownBlock])
  have hw3 := hw2.kept hgn (nn _)
  have hv3 := hv2.kept hgn (nn _)
  have K3 : KeepsI w3 (w4.setCell ⟨bb, 1, none⟩ w0') := keeps_top hk3 hw3 hA4
  have hal := (Below.refl w3.heap.size w3).alloc (Nat.le_refl _) (.cells #[c] 43)
  have hk4 := (hk3.below hal).grown hA4.grown (hk3.ne hw3 (by decide))
  have hv4 := (hv3.alloc (.cells #[c] 43)).kept hA4.grown hvw
  have hB3 : B ≤ w3.heap.size := Nat.le_trans hB2 hgn.size
  have hb4 : Below B w (w4.setCell ⟨bb, 1, none⟩ w0') := (((hb2.grown hgn hB2 (fun k hk => by simp [Value.ownBlock] at hk)).alloc hB3 _).grown hA4.grown (by simp; omega) (fun q hq => (hw3.lt q hq).1)).setCell hBb _
  have cown : w3.ownsRow B 3 1 c x.length (cellsI x) := by
    have := hA3.own
    rw [Nat.zero_add, List.nil_append] at this
    exact this
  refine ⟨c, ⟨⟨v0, w0', hk4.set1 _, ?_, ?_, ?_⟩, ?_, ?_, hBb⟩, hb4, K1.trans (K2.trans K3)⟩
  · rw [map_snoc]
    exact hv4.kept (grownBy_set w4 bb 1 w0') (.inr fun e => hk4.ne hv4 (by decide) e.symm)
  · rw [map_snoc]
    exact hA4.own.kept (grownBy_set w4 bb 1 w0') (.inr fun e => hk4.ne hA4.own (by decide) e.symm)
  · rcases hA4.lies with e | e
    · rw [e]; exact hvw
    · have hh : v0.ownBlock ≠ w0'.ownBlock := by
        rw [e]
        intro hh
        have := (hv3.lt _ hh).2
        simp at this
        omega
      exact .inr hh
  · exact ((K2.trans K3).lists (by decide) (by decide) hV2).snoc ((K2.trans K3) _ _ _ _ _ _ (by decide) (by decide) hl2) hap
  · refine ((K2.trans K3).lists (by decide) (by decide) hW2).snoc (K3 _ _ _ _ _ _ (by decide) (by decide) cown) (fun i hi => ?_)
    rcases hA3.lies with e | e
    · rw [e]; exact nn _
    · right
      rw [e]
      intro hh
      have := (hW2.lt hi hh).2
      change w2.heap.size < w2.heap.size at this
      omega

set_option maxRecDepth 100000 in
set_option maxHeartbeats 2000000 in
theorem ints_add (w : World) (B bb n : Nat) (V W : Nat → Value) (X : Nat → List Int) (hS : BooksI w B bb n V W X) (hn : n < 400) (l : Value) (x : List Int)
    (hl : w.ownsRow B 3 1 l x.length (cellsI x)) (hx : x.length ≤ 90000) (hap : ∀ i, i < n → (V i).ownBlock = none ∨ (V i).ownBlock ≠ l.ownBlock) :
    Calls Try.prog 48 #[.pointer (some ⟨bb, 0, none⟩), l] w fun e w' => e = .returned (.tuple #[]) ∧ ∃ c, BooksI w' B bb (n + 1) (fun i => if i = n then l else V i) (fun i => if i = n then c else W i) (fun i => if i = n then x else X i) ∧
      Below B w w' ∧ KeepsI w w' := by
  obtain ⟨⟨v0, w0, hk, hv, hw, hvw⟩, hV, hW, hBb⟩ := hS
  have hB : B ≤ w.heap.size := Nat.le_trans hBb (Nat.le_of_lt hk.lt)
  obtain ⟨a0, c0, rfl, _, _⟩ := own_form hv
  obtain ⟨a1, c1, rfl, _, _⟩ := own_form hw
  obtain ⟨len, hlen⟩ : ∃ len, len = x.length := ⟨_, rfl⟩
  rw [← hlen] at hl hx
  have HL := Lib.hid hlen
  clear hlen
  obtain ⟨al, cl, rfl, _, _⟩ := own_form hl
  have d0 := hk.c0
  have hap' := Lib.hid hap
  clear hap
  go_enter Try.func48, Try.ntmps48
  go_wp2_with (at_builtin; refine wpList_app rfl (.tmp 14) (.tmp 16) _ rfl elem31 rfl (hv.alloc _) ⟨w.heap.size, 0, none⟩ 1 1 [.slice al len cl] rfl rfl (cell_one_new _ _ _) (fun x hx => by simp at hx; subst hx; rfl) (by unfold maxLen; omega) (by omega) (by simp; omega) ?_; intro v' w1 hA; obtain ⟨a2, c2, f2, _, _⟩ := own_form hA.own; subst f2; have hk1 := (hk.below ((Below.refl _ w).alloc (Nat.le_refl _) _)).grown hA.grown (hk.ne hv (by decide)); have e0 := hk1.c0; have e0f := hk1.free 0)
  have K1 : KeepsI w (w1.setCell ⟨bb, 0, none⟩ (.slice a2 (n + 1) c2)) := keeps_top hk hv hA
  have hk2 := hk1.set0 (.slice a2 (n + 1) c2)
  have hv2 := hA.own.kept (grownBy_set w1 bb 0 (.slice a2 (n + 1) c2)) (.inr fun e => hk1.ne hA.own (by decide) e.symm)
  have hw1 := (hw.alloc (.cells #[.slice al len cl] 43)).kept hA.grown (ne_symm hvw)
  have hw2 := hw1.kept (grownBy_set w1 bb 0 (.slice a2 (n + 1) c2)) (.inr fun e => hk1.ne hw1 (by decide) e.symm)
  have hvw2 : (Value.slice a2 (n + 1) c2).ownBlock = none ∨ (Value.slice a2 (n + 1) c2).ownBlock ≠ (Value.slice a1 n c1).ownBlock := by
    rcases hA.lies with e | e
    · rw [e]; exact hvw
    · right
      rw [e]
      intro hh
      have := (hw.lt _ hh.symm).2
      simp at this
      omega
  have hb2 : Below B w (w1.setCell ⟨bb, 0, none⟩ (.slice a2 (n + 1) c2)) := (((Below.refl B w).alloc hB _).grown hA.grown (by simp; omega) (fun q hq => (hv.lt q hq).1)).setCell hBb _
  have hl2 := K1 _ _ _ _ _ _ (by decide) (by decide) hl
  obtain ⟨w2, hw2'⟩ : ∃ w2, w2 = w1.setCell ⟨bb, 0, none⟩ (.slice a2 (n + 1) c2) := ⟨_, rfl⟩
  rw [← hw2'] at K1 hk2 hv2 hw2 hb2 hl2
  have hV2 := K1.lists (by decide) (by decide) hV
  have hW2 := K1.lists (by decide) (by decide) hW
  have f1 := hk2.c1
  have f1f := hk2.free 1
  have hB2 : B ≤ w2.heap.size := Nat.le_trans hB hb2.size
  rw [← hw2']
  clear hw2' hA hk1 e0 e0f hw1 hv hw hvw hk hl d0 hV hW
  have hk2d : BookAt w2.drew bb (.slice a2 (n + 1) c2) (.slice a1 n c1) (.slice none 0 0) (.slice none 0 0) := ⟨hk2.block⟩
  have hw2d : w2.drew.ownsRow B 43 1 (.slice a1 n c1) n ((List.range n).map W) := hw2
  have hne : (Value.slice a1 n c1).ownBlock = none ∨ (Value.slice a1 n c1).ownBlock ≠ (Value.slice none 0 0).ownBlock := by
    cases a1 with
    | none => exact .inl rfl
    | some d => right; simp [Value.ownBlock]
  go_region_law
    (first
      | ((refine step_app_row (by rfl) (.const (.slice none 0 0)) (.tmp 25) 43 (by rfl) (base := B) elem43 (v := .slice none 0 0) (n := 0) (xs := []) (by rfl) (World.ownsRow_nil _ _ _ _) (base' := B) (u := .slice al len cl) (m := len) (news := cellsI x) (by rfl) (by exact hl2) (cellsI_one _) (by unfold maxLen; omega) (by omega) (by exact hB2) ?_; intro v' w3 hA3; go_must (have hc5 := hA3.own; rw [Nat.zero_add, List.nil_append] at hc5; obtain ⟨a5, c5, f5, _, _⟩ := own_form hc5; subst f5; have hk3 := hk2d.grown hA3.grown (by simp [Value.ownBlock]); have hw3 := hw2d.kept hA3.grown hne; have g1 := hk3.c1; have g1f := hk3.free 1; have hB3 : B ≤ w3.heap.size := Nat.le_trans hB2 hA3.grown.size; have hk3a := fun o => hk3.below ((Below.refl _ w3).alloc (Nat.le_refl _) o); have i1 := fun o => (hk3a o).c1; have i1f := fun o => (hk3a o).free 1)))
      | ((go_must (refine step_app (by rfl) (.tmp 24) (.tmp 27) 31 (by rfl) (base := B) elem31 (v := .slice a1 n c1) (n := n) (xs := (List.range n).map W) (by rfl) (by exact hw3.alloc _) ⟨w3.heap.size, 0, none⟩ 1 1 [.slice a5 len c5] (by rfl) (by rfl) (cell_one_new _ _ _) (by simp [Value.oneCell']) (by unfold maxLen; omega) (by omega) (by simp; omega) ?_; intro v4 w4 hA4; obtain ⟨a6, c6, f6, _, _⟩ := own_form hA4.own; subst f6; have hk4 := (hk3a _).grown hA4.grown (hk3.ne hw3 (by decide)); have h1 := hk4.c1; have h1f := hk4.free 1))))
  all_goals
    go_end0
    exact ⟨rfl, add_done hBb HL.out hb2 hB2 K1 hk2 hv2 hw2 hvw2 hV2 hW2 hl2 hap'.out hA3 hA4⟩
end Go.Proofs.Ytdddbljkhhbdlaa
