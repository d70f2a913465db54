/-
The contract of StaysInts: a lent list that is what it was.
-/
import Derived.Test.YtdddbljkhhbdlaaLent
import Derived.Deep.RegionHeld3
namespace Go.Proofs.Ytdddbljkhhbdlaa
open Go.RowKit

/-- The cells of a list can be read. -/
def MemI (w : World) (ad : Addr) (xs : List Int) : Prop := ∀ j u, (cellsI xs)[j]? = some u → w.cell? (ad.add j) = some u
theorem MemI.later {w w' : World} {ad : Addr} {xs : List Int} (h : MemI w ad xs) (hb : Below w.heap.size w w') : MemI w' ad xs :=
  fun j u hu => (hb.cell (p := ad.add j) (by have := World.block_lt_of_cell? _ _ (h j u hu); exact this)).trans (h j u hu)
theorem memI_of {w : World} {b off : Nat} {xs : List Int} (hcell : ∀ j, j < xs.length → w.cell? ⟨b, off + j, none⟩ = some (.int .i64 (xs.getD j 0))) : MemI w ⟨b, off, none⟩ xs := by
  intro j u hu
  have hj : j < xs.length := by
    have := (List.getElem?_eq_some_iff.1 hu).1
    rw [cellsI_length] at this
    omega
  rw [cellsI_at _ _ (by omega)] at hu
  have h := (hcell j hj).trans hu
  show w.cell? (if j = 0 then _ else _) = some u
  by_cases j0 : j = 0
  · subst j0; exact h
  · rw [if_neg j0]; exact h

/-- At a guarded step of a region that draws its order. -/
theorem step_app_w {P : Program} {w : World} {ops : Array Oper} {o : Oper} {a : Act} {K : Act → World → Prop} {Q : Exit → Act → World → Prop} {E : Prop} (hw : Region.wanted o (yielded ops a.tmps) = true) (s x : Operand) (t : TypeId)
    (ho : o.op = .call { callee := .builtin .append, args := #[s, x], argTypes := #[t, t] })
    {base : Nat} {e : TypeId} {z : Value} {size bytes : Nat} (T : ElemT P t e z size bytes)
    {v : Value} {n : Nat} {xs : List Value} (hs : a.eval s = v) (hown : w.ownsRow base e size v n xs)
    (ad : Addr) (m c : Nat) (news : List Value) (hx : a.eval x = .slice (some ad) m c) (hl : news.length = m * size) (hnews : ∀ j u, news[j]? = some u → w.cell? (ad.add j) = some u) (h1 : ∀ u ∈ news, u.oneCell' = true)
    (h63 : n + m ≤ maxLen) (hbytes : (n + m) * bytes ≤ 140737488355328) (hbase : base ≤ w.heap.size)
    (h : ∀ v' w', Appended w w' base e size v n xs news m v' → K (a.put o.dst v') w') : if Region.wanted o (yielded ops a.tmps) = true then Oper.wp P o a w K Q else E := by
  rw [if_pos hw]
  exact wp_app s x t ho T hs hown ad m c news hx hl hnews h1 h63 hbytes hbase h

theorem step_app_none_w {P : Program} {w : World} {ops : Array Oper} {o : Oper} {a : Act} {K : Act → World → Prop} {Q : Exit → Act → World → Prop} {E : Prop} (hw : Region.wanted o (yielded ops a.tmps) = true) (s x : Operand) (t : TypeId)
    (ho : o.op = .call { callee := .builtin .append, args := #[s, x], argTypes := #[t, t] })
    {base : Nat} {e : TypeId} {z : Value} {size bytes : Nat} (T : ElemT P t e z size bytes)
    {v : Value} {n : Nat} {xs : List Value} (hs : a.eval s = v) (hown : w.ownsRow base e size v n xs) (hx : a.eval x = .slice none 0 0)
    (h : K (a.put o.dst v) w) : if Region.wanted o (yielded ops a.tmps) = true then Oper.wp P o a w K Q else E := by
  obtain ⟨i, hi, _, hsz, _⟩ := info_parts T.info
  rw [if_pos hw]
  have hrun := run_append_owned_none (P := P) (w := w) base t o.type e i size T.under hi v n xs hown
  unfold Oper.wp
  simp [execOp, ho, resolve, invoke, builtin, hs, hx, hrun, Result.andThen]
  exact h

theorem sameIntsN_any (n : Nat) (xs : List Int) (hl : xs.length = n) (hx : n ≤ 1000000) (va vb : Value) (Ba Bb : Nat) (w : World) (ha : w.ownsRow Ba 3 1 va n (cellsI xs)) (hb : w.ownsRow Bb 3 1 vb n (cellsI xs)) :
    Calls Try.prog 89 #[va, vb] w fun e w' => e = .returned (.bool true) ∧ ∃ q, w' = w.drewN q := by
  subst hl
  exact sameInts_any xs hx va vb Ba Bb w ha hb

theorem cells_two (xs : List Int) : cellsI xs ++ [.int .i64 (-77), .int .i64 (-78)] = cellsI (xs ++ [-77, -78]) := by simp [cellsI]
theorem two_later (w w0 w1 : World) (b : Nat) (ty : TypeId) (x y : Value) (v v1 : Value) (n m sz : Nat) (e : TypeId) (xs news : List Value) (hA : Appended w0 w1 b e sz v n xs news m v1) (hv : v.ownBlock = none) (hs : w.heap.size < w0.heap.size) (hc : w0.heap[w.heap.size]? = (w.alloc (.cells #[x, y] ty)).heap[w.heap.size]?) :
    ∀ j u, [x, y][j]? = some u → w1.cell? ((⟨w.heap.size, 0, none⟩ : Addr).add j) = some u := by
  intro j u hj
  refine (World.grownBy.cell_far hA.grown _ ?_ ?_).trans ((World.cell?_of_block ?_).trans (cell_two_new w x y ty j u hj))
  · cases j <;> exact hs
  · rw [hv]; simp
  · cases j <;> exact hc

set_option maxRecDepth 100000 in
set_option maxHeartbeats 600000 in
theorem stays_some (B g cap b off n cp : Nat) (xs : List Int) (w : World) (hn : xs.length = n) (hn1 : n ≤ 100000) (hcell : ∀ j, j < n → w.cell? ⟨b, off + j, none⟩ = some (.int .i64 (xs.getD j 0)))
    (hx : w.ownsRow B 3 1 (.slice (some ⟨g, 0, none⟩) (n + 2) cap) (n + 2) (cellsI (xs ++ [-77, -78]))) :
    Calls Try.prog 29 #[.slice (some ⟨g, 0, none⟩) n cap, .slice (some ⟨b, off, none⟩) n cp] w fun e w' => e = .returned (.bool true) ∧ Below w.heap.size w w' := by
  have hcap : n + 2 ≤ cap := by
    obtain ⟨a, c, h1, h2⟩ := own_pos hx (by omega)
    cases h1
    exact h2
  have hl : (cellsI xs).length = n * 1 := by rw [cellsI_length, hn]
  have hm : MemI w ⟨b, off, none⟩ xs := memI_of (by rw [hn]; exact hcell)
  have HL := Lib.hid hl
  have HM := Lib.hid hm
  have HX := Lib.hid hx
  clear hl hm hcell hn hx
  have q1 : IntKind.i64.wrap ((n : Int) + 2) = (n : Int) + 2 := IntWalk.i64_in _ (by omega)
  have q2 : (0 : Int) ≤ (n : Int) + 2 := by omega
  have q3 : (n : Int) + 2 ≤ (cap : Int) := by omega
  have q4 : ((n : Int) + 2).toNat = n + 2 := by omega
  have b0 : ((n : Int) == (n : Int)) = true := by simp
  go_enter Try.func29, Try.ntmps29
  go_wp2_with fail
  have hbd : Below w.heap.size w w.drew := (Below.refl _ w).drew
  have tok1 : True := trivial
  have HL2 : Hid ((xs ++ [-77, -78]).length = n + 2) := by show _ = _; simp; have := HL.out; simp [cellsI] at this; omega
  go_region_held3 (fun _ => True) (trivial)
    (first
      | ((have _t := tok1); refine step_app_w (by rfl) (.const (.slice none 0 0)) (.tmp 16) 43 (by rfl) (base := w.heap.size) elem43 (v := .slice none 0 0) (n := 0) (xs := []) (by rfl) (World.ownsRow_nil _ _ _ _) ⟨b, off, none⟩ n cp (cellsI xs) (by rfl) (by exact HL.out) (by exact HM.out.later (by first | exact hbd | exact hbd.alloc (Nat.le_refl _) _)) (cellsI_one _) (by unfold maxLen; omega) (by omega) (by first | exact Nat.le_refl _ | (simp; done)) ?_; intro v1 w1 hA1; clear tok1; go_must ((have h1 := hA1.own); rw [Nat.zero_add, List.nil_append] at h1; obtain ⟨a1, c1, f1, _, _⟩ := own_form h1; subst f1; (have hb1 : Below w.heap.size w w1 := by first | exact hbd.grown hA1.grown (Nat.le_refl _) (fun q hq => by simp [Value.ownBlock] at hq) | exact (hbd.alloc (Nat.le_refl _) _).grown hA1.grown (by simp) (fun q hq => by simp [Value.ownBlock] at hq)); first | (have hT := two_later w _ _ _ 3 (.int .i64 (-77)) (.int .i64 (-78)) _ _ _ _ _ _ _ _ hA1 rfl (by simp) (by rfl)) | (have tokA : True := trivial)))
      | ((have _t := tokA); refine step_app_w (by rfl) (.tmp 17) (.tmp 18) 43 (by rfl) (base := w.heap.size) elem43 (v := .slice a1 n c1) (n := n) (xs := cellsI xs) (by rfl) (by exact h1.alloc _) ⟨_, 0, none⟩ 2 2 [.int .i64 (-77), .int .i64 (-78)] (by rfl) (by rfl) (by exact cell_two_new _ _ _ _) (by simp [Value.oneCell']) (by unfold maxLen; omega) (by omega) (by have := hb1.size; simp; omega) ?_; clear tokA; intro v2 w2 hA2; go_must ((have h2 := hA2.own); rw [cells_two] at h2; obtain ⟨g2, c2, f2, hc2⟩ := own_pos h2 (by omega); subst f2; (have hb2 : Below w.heap.size w w2 := (hb1.alloc hb1.size _).grown hA2.grown (by have := hb1.size; simp; omega) (fun q hq => (h1.lt q hq).1))))
      | ((have _t := hT); refine step_app_w (by rfl) (.tmp 17) (.tmp 18) 43 (by rfl) (base := w.heap.size) elem43 (v := .slice a1 n c1) (n := n) (xs := cellsI xs) (by rfl) (by exact h1) ⟨w.heap.size, 0, none⟩ 2 2 [.int .i64 (-77), .int .i64 (-78)] (by rfl) (by rfl) (by exact hT) (by simp [Value.oneCell']) (by unfold maxLen; omega) (by omega) (by exact hb1.size) ?_; clear hT; intro v2 w2 hA2; go_must ((have h2 := hA2.own); rw [cells_two] at h2; obtain ⟨g2, c2, f2, hc2⟩ := own_pos h2 (by omega); subst f2; (have hb2 : Below w.heap.size w w2 := hb1.grown hA2.grown hb1.size (fun q hq => (h1.lt q hq).1))))
      | (go_at_call 89; refine (sameIntsN_any (n + 2) (xs ++ [-77, -78]) HL2.out (by omega) _ _ B w.heap.size _ (own_below HX.out hb2 (Nat.le_refl _)) h2).mono ?_; rintro e w3 ⟨rfl, q3, rfl⟩))
  all_goals
    go_wp2
    go_ret
    exact ⟨rfl, below_drewN hb2 q3⟩

set_option maxRecDepth 100000 in
set_option maxHeartbeats 600000 in
theorem stays_nil (B g cap : Nat) (w : World) (hx : w.ownsRow B 3 1 (.slice (some ⟨g, 0, none⟩) (0 + 2) cap) (0 + 2) (cellsI ([] ++ [-77, -78]))) :
    Calls Try.prog 29 #[.slice (some ⟨g, 0, none⟩) 0 cap, .slice none 0 0] w fun e w' => e = .returned (.bool true) ∧ Below w.heap.size w w' := by
  have hcap : 2 ≤ cap := by
    obtain ⟨a, c, h1, h2⟩ := own_pos hx (by omega)
    cases h1
    exact h2
  have HX := Lib.hid hx
  clear hx
  have q3 : (2 : Int) ≤ (cap : Int) := by omega
  have q5 : ¬ cap = 0 := by omega
  have q6 : IntKind.i64.wrap 2 = 2 := by decide
  go_enter Try.func29, Try.ntmps29
  go_wp2_with fail
  have hbd : Below w.heap.size w w.drew := (Below.refl _ w).drew
  have tok1 : True := trivial
  go_region_held3 (fun _ => True) (trivial)
    (first
      | ((have _t := tok1); refine step_app_none_w (by rfl) (.const (.slice none 0 0)) (.tmp 16) 43 (by rfl) (base := w.heap.size) elem43 (v := .slice none 0 0) (n := 0) (xs := []) (by rfl) (World.ownsRow_nil _ _ _ _) (by rfl) ?_; clear tok1)
      | (refine step_app_w (by rfl) (.tmp 17) (.tmp 18) 43 (by rfl) (base := w.heap.size) elem43 (v := .slice none 0 0) (n := 0) (xs := []) (by rfl) (World.ownsRow_nil _ _ _ _) ⟨w.heap.size, 0, none⟩ 2 2 [.int .i64 (-77), .int .i64 (-78)] (by rfl) (by rfl) (by exact cell_two_new _ _ _ _) (by simp [Value.oneCell']) (by unfold maxLen; omega) (by omega) (by simp) ?_; intro v2 w2 hA2; go_must ((have h2 := hA2.own); obtain ⟨g2, c2, f2, hc2⟩ := own_pos h2 (by omega); subst f2; (have hb2 : Below w.heap.size w w2 := (hbd.alloc (Nat.le_refl _) _).grown hA2.grown (by simp) (fun q hq => by simp [Value.ownBlock] at hq))))
      | (go_at_call 89; refine (sameIntsN_any 2 [-77, -78] rfl (by omega) _ _ B w.heap.size _ (own_below HX.out hb2 (Nat.le_refl _)) h2).mono ?_; rintro e w3 ⟨rfl, q3, rfl⟩))
  all_goals
    go_wp2
    go_ret
    exact ⟨rfl, below_drewN hb2 q3⟩
end Go.Proofs.Ytdddbljkhhbdlaa
