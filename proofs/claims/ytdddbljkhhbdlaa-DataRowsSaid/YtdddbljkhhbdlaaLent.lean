/-
The contract of LentInts: a copy, with two marks behind it.
-/
import Derived.Test.YtdddbljkhhbdlaaMat
namespace Go.Proofs.Ytdddbljkhhbdlaa
open Go.RowKit

theorem own_pos {w : World} {b : Nat} {e : TypeId} {s : Nat} {v : Value} {n : Nat} {xs : List Value} (h : w.ownsRow b e s v n xs) (hn : 0 < n) : ∃ g c, v = .slice (some ⟨g, 0, none⟩) n c ∧ n ≤ c := by
  rcases h.2 with ⟨rfl, rfl⟩ | ⟨g, cap, cur, rfl, _, _, h2, _⟩
  · omega
  · exact ⟨g, cap, rfl, h2⟩

set_option maxRecDepth 100000 in
set_option maxHeartbeats 2000000 in
theorem lent_some (b off n cp : Nat) (xs : List Int) (w : World) (hn : xs.length = n) (hn1 : n ≤ 1000000) (hcell : ∀ j, j < n → w.cell? ⟨b, off + j, none⟩ = some (.int .i64 (xs.getD j 0))) :
    Calls Try.prog 26 #[.slice (some ⟨b, off, none⟩) n cp] w fun e w' => ∃ g cap, e = .returned (.slice (some ⟨g, 0, none⟩) n cap) ∧ w'.ownsRow w.heap.size 3 1 (.slice (some ⟨g, 0, none⟩) (n + 2) cap) (n + 2) (cellsI (xs ++ [-77, -78])) ∧ Below w.heap.size w w' := by
  have hl : (cellsI xs).length = n * 1 := by rw [cellsI_length, hn]
  have hm : ∀ j u, (cellsI xs)[j]? = some u → w.cell? ((⟨b, off, none⟩ : Addr).add j) = some u := by
    intro j u hu
    have hj : j < n := by
      have := (List.getElem?_eq_some_iff.1 hu).1
      omega
    rw [cellsI_at _ _ (by omega)] at hu
    have h := (hcell j hj).trans hu
    show w.cell? (if j = 0 then _ else _) = some u
    by_cases j0 : j = 0
    · subst j0; exact h
    · rw [if_neg j0]; exact h
  have HL := Lib.hid hl
  have HM := Lib.hid hm
  clear hl hm hcell hn
  have tok1 : True := trivial
  go_enter Try.func26, Try.ntmps26
  go_wp2_with (first
    | (at_builtin; (have _t := tok1); refine wpList_app rfl (.const (.slice none 0 0)) (.tmp 3) 43 rfl elem43 (base := w.heap.size) (v := .slice none 0 0) (n := 0) (xs := []) rfl (World.ownsRow_nil _ _ _ _) ⟨b, off, none⟩ n cp (cellsI xs) rfl HL.out HM.out (cellsI_one _) (by unfold maxLen; omega) (by omega) (Nat.le_refl _) ?_; intro v1 w1 hA1; (have h1 := hA1.own); rw [Nat.zero_add, List.nil_append] at h1; obtain ⟨a1, c1, f1, _, _⟩ := own_form h1; subst f1; clear tok1)
    | (at_builtin; refine wpList_app rfl (.tmp 4) (.tmp 5) 43 rfl elem43 (base := w.heap.size) (v := .slice a1 n c1) (n := n) (xs := cellsI xs) rfl (h1.alloc _) ⟨w1.heap.size, 0, none⟩ 2 2 [.int .i64 (-77), .int .i64 (-78)] rfl rfl (cell_two_new _ _ _ _) (by simp [Value.oneCell']) (by unfold maxLen; omega) (by omega) (by have := hA1.grown.size; simp; omega) ?_; intro v2 w2 hA2; (have h2 := hA2.own); obtain ⟨g2, c2, f2, hc2⟩ := own_pos h2 (by omega); subst f2; (have hc3 : (n : Int) ≤ (c2 : Int) := by omega)))
  go_ret
  have hb1 : Below w.heap.size w w1 := (Below.refl _ w).grown hA1.grown (Nat.le_refl _) (fun q hq => by simp [Value.ownBlock] at hq)
  refine ⟨g2, c2, rfl, ?_, (hb1.alloc hb1.size _).grown hA2.grown (by have := hb1.size; simp; omega) (fun q hq => (h1.lt q hq).1)⟩
  have e : cellsI (xs ++ [-77, -78]) = cellsI xs ++ [.int .i64 (-77), .int .i64 (-78)] := by simp [cellsI]
  rw [e]
  exact h2
set_option maxRecDepth 100000 in
set_option maxHeartbeats 2000000 in
theorem lent_nil (w : World) :
    Calls Try.prog 26 #[.slice none 0 0] w fun e w' => ∃ g cap, e = .returned (.slice (some ⟨g, 0, none⟩) 0 cap) ∧ w'.ownsRow w.heap.size 3 1 (.slice (some ⟨g, 0, none⟩) (0 + 2) cap) (0 + 2) (cellsI ([] ++ [-77, -78])) ∧ Below w.heap.size w w' := by
  obtain ⟨i0, hi, hz, hsz, hby⟩ := info_parts elem43.info
  have tok1 : True := trivial
  go_enter Try.func26, Try.ntmps26
  go_wp2_with (first
    | (at_builtin; (have _t := tok1); refine wpList_append_own_none rfl (.const (.slice none 0 0)) (.tmp 3) 43 rfl w.heap.size 3 i0 1 elem43.under hi (.slice none 0 0) 0 [] rfl (World.ownsRow_nil _ _ _ _) rfl ?_; clear tok1)
    | (at_builtin; refine wpList_app rfl (.tmp 4) (.tmp 5) 43 rfl elem43 (base := w.heap.size) (v := .slice none 0 0) (n := 0) (xs := []) rfl (World.ownsRow_nil _ _ _ _) ⟨w.heap.size, 0, none⟩ 2 2 [.int .i64 (-77), .int .i64 (-78)] rfl rfl (cell_two_new _ _ _ _) (by simp [Value.oneCell']) (by unfold maxLen; omega) (by omega) (by simp) ?_; intro v2 w2 hA2; (have h2 := hA2.own); obtain ⟨g2, c2, f2, hc2⟩ := own_pos h2 (by omega); subst f2; (have hc3 : (0 : Int) ≤ (c2 : Int) := by omega)))
  go_ret
  refine ⟨g2, c2, rfl, ?_, ((Below.refl _ w).alloc (Nat.le_refl _) _).grown hA2.grown (by simp) (fun q hq => by simp [Value.ownBlock] at hq)⟩
  exact h2
end Go.Proofs.Ytdddbljkhhbdlaa
