/-
The contract of the document's own Batch.
-/
import Derived.Test.YtdddbljkhhbdlaaRefOrder
import Derived.Test.YtdddbljkhhbdlaaOnceMath
namespace Go.Proofs.Ytdddbljkhhbdlaa
open Go.RowKit

/-- Which of the numbers below n stand in a list. -/
def maskB (A : List Int) (n : Nat) : List Bool := (List.range n).map fun (x : Nat) => decide ((x : Int) ∈ A)
def cellsB (l : List Bool) : List Value := l.map Value.bool
theorem maskB_length (A : List Int) (n : Nat) : (maskB A n).length = n := by simp [maskB]
theorem cellsB_at (l : List Bool) (k : Nat) (h : k < l.length) : (cellsB l)[k]? = some (.bool (l.getD k false)) := by
  simp [cellsB, h]
theorem cellsB_set (l : List Bool) (k : Nat) (b : Bool) : (cellsB l).set k (.bool b) = cellsB (l.set k b) := by simp [cellsB, List.map_set]
theorem maskB_nil (n : Nat) : maskB [] n = List.replicate n false := by
  apply List.ext_getElem (by simp [maskB])
  intro i h1 h2
  simp [maskB]
theorem maskB_getD (A : List Int) (n x : Nat) (h : x < n) : (maskB A n).getD x false = decide ((x : Int) ∈ A) := by
  simp [maskB, List.getD, h]
theorem maskB_snoc (A : List Int) (n y : Nat) : (maskB A n).set y true = maskB (A ++ [(y : Int)]) n := by
  apply List.ext_getElem (by simp [maskB])
  intro i h1 h2
  have hi : i < n := by simpa [maskB] using h2
  rw [List.getElem_set]
  by_cases e : y = i
  · subst e
    simp [maskB]
  · rw [if_neg e]
    have : ¬ ((i : Int) = (y : Int)) := by omega
    simp [maskB, this]
theorem made_bools (n : Nat) : (madeCells (Value.bool false).cells (n * 1)).toList = cellsB (List.replicate n false) := by
  rw [Nat.mul_one]
  have e : (Value.bool false).cells = #[.bool false] := rfl
  rw [e, toList_madeCells_one]
  simp [cellsB]
/-- Those of the numbers below k that stand in a list. -/
def pickB (A : List Int) (k : Nat) : List Int := (idL k).filter fun x => decide (x ∈ A)
theorem pickB_succ (A : List Int) (k : Nat) : pickB A (k + 1) = pickB A k ++ if (k : Int) ∈ A then [(k : Int)] else [] := by
  unfold pickB
  have : idL (k + 1) = idL k ++ [(k : Int)] := by simp [idL, List.range_succ]
  rw [this, List.filter_append]
  congr 1
  by_cases h : (k : Int) ∈ A <;> simp [h]
theorem info4 : (Try.prog.info? 4).map (fun i => (i.zero, i.size, i.bytes)) = some (some (.bool false), 1, 1) := by kernel_rfl
theorem pickB_rows (l : List Int) (n lo m : Nat) (hp : l.Perm (idL n)) : pickB ((l.drop lo).take m) n = rowsOf l lo m := by
  have hnd : l.Nodup := hp.nodup_iff.2 (idL_nodup n)
  obtain ⟨A, hA⟩ : ∃ A, A = (l.drop lo).take m := ⟨_, rfl⟩
  have hA1 : A.Nodup := by rw [hA]; exact (hnd.sublist (List.drop_sublist _ _)).sublist (List.take_sublist _ _)
  have hA2 : ∀ x, x ∈ A → x ∈ idL n := fun x hx => hp.mem_iff.1 (List.mem_of_mem_drop (List.mem_of_mem_take (by rw [hA] at hx; exact hx)))
  unfold rowsOf
  rw [← hA]
  refine List.Perm.eq_of_pairwise (le := fun x y => x ≤ y) (fun a b _ _ h1 h2 => by omega) ?_ ?_ ?_
  · refine List.Pairwise.filter _ ?_
    unfold idL
    rw [List.pairwise_map]
    exact List.pairwise_lt_range.imp fun h => by omega
  · have := List.pairwise_mergeSort (le := fun (x y : Int) => decide (x ≤ y)) (fun a b c h1 h2 => by simp at *; omega) (fun a b => by simp; omega) A
    exact this.imp fun h => by simpa using h
  · refine List.Perm.trans ?_ (sortI_perm A).symm
    refine (List.perm_ext_iff_of_nodup ((idL_nodup n).filter _) hA1).2 fun x => ?_
    simp only [List.mem_filter, decide_eq_true_eq]
    exact ⟨fun h => h.2, fun h => ⟨hA2 x h, h⟩⟩

set_option maxRecDepth 100000 in
set_option maxHeartbeats 4000000 in
theorem refbatch_ok (n k bi : Nat) (s ep : Int) (w : World) (h0 : 0 < n) (h1 : n ≤ 4096) (he0 : 0 ≤ ep) (he1 : ep ≤ 9223372036854775807) (hk0 : 0 < k) (hk1 : k ≤ 256) (hbi : bi < (n + k - 1) / k) :
    Calls Try.prog 47 #[.int .i64 n, .int .i64 k, .int .i64 s, .int .i64 ep, .int .i64 bi] w fun e w' => ∃ v b l, e = .returned (.tuple #[v, .int .i64 0]) ∧ Mixed s (-1 - ep) n 0 (n - 1) b l ∧
      w'.ownsRow w.heap.size 3 1 v (min ((bi + 1) * k) n - bi * k) (cellsI (rowsOf l (bi * k) (min ((bi + 1) * k) n - bi * k))) ∧ Below w.heap.size w w' := by
  have hup : (bi + 1) * k ≤ n + k - 1 := (Nat.le_div_iff_mul_le hk0).1 hbi
  have hlo : bi * k < n := by rw [Nat.add_mul] at hup; omega
  obtain ⟨lo, hlo1⟩ : ∃ lo, lo = bi * k := ⟨_, rfl⟩
  obtain ⟨up, hup1⟩ : ∃ up, up = (bi + 1) * k := ⟨_, rfl⟩
  have hle : lo < up := by rw [hlo1, hup1, Nat.add_mul]; omega
  have hbn : bi ≤ lo := by rw [hlo1]; exact Nat.le_mul_of_pos_right _ hk0
  have e1 : (bi : Int) * k = (lo : Int) := by rw [hlo1]; simp
  have e2 : ((bi : Int) + 1) * k = (up : Int) := by rw [hup1]; simp
  rw [← hlo1, ← hup1]
  rw [← hlo1] at hlo
  rw [← hup1] at hup
  have hq : (bi : Int) < (((n + k - 1) / k : Nat) : Int) := by exact_mod_cast hbi
  have hq9 : (n + k - 1) / k ≤ n + k - 1 := Nat.div_le_self _ _
  obtain ⟨all, hall⟩ : ∃ all, all = (n + k - 1) / k := ⟨_, rfl⟩
  rw [← hall] at hq hq9
  have HA := Lib.hid hall
  clear hall hlo1 hup1 hbi
  obtain ⟨m, hm⟩ : ∃ m, m = min up n - lo := ⟨_, rfl⟩
  rw [← hm]
  have hm0 : 0 < m := by omega
  have hm1 : lo + m ≤ n := by omega
  have HM := Lib.hid hm
  clear hm
  obtain ⟨i0, hi, hz0, hz1, hz2⟩ := info_parts info4
  go_enter Try.func47, Try.ntmps47
  go_wp2_with fail
  refine (refbatches_ok n k _ h0 hk0 h1 hk1).mono ?_
  rintro e w1 ⟨rfl, rfl⟩
  rw [← HA.out]
  go_wp2_with fail
  refine (reforder_ok n s ep _ h0 h1 he0 he1).mono ?_
  rintro e w2 ⟨v, b, l, rfl, hM, hr, hb⟩
  obtain ⟨aa, ca, rfl, na, fa⟩ := own_form hr
  cases aa with
  | none => exact absurd (na rfl).1 (by omega)
  | some da =>
  obtain ⟨g, rfl, hg0, hg1⟩ := fa da rfl
  clear na fa
  go_wp2_with (refine wpList_make_full w2 rfl _ _ _ rfl w2.heap.size 4 i0 _ 1 (by kernel_rfl) hi hz0 hz1 .i64 .i64 (n : Int) (n : Int) n rfl rfl rfl rfl (by rw [hz2]; omega) (by unfold maxLen; omega) (Nat.le_refl _) ?_; intro w3 hown hgr)
  rw [made_bools, ← maskB_nil] at hown
  have hr3 := hr.kept hgr (.inr (by simp [Value.ownBlock]))
  have hb3 := hb.grown hgr hb.size (fun q hq => by cases hq)
  have hll := hM.length
  have hGw := hb.size
  obtain ⟨G, hG⟩ : ∃ G, G = w2.heap.size := ⟨_, rfl⟩
  rw [← hG] at hown hg1 hGw ⊢
  have hGs : G < w3.heap.size := by
    rcases hown.2 with ⟨e0, _⟩ | ⟨g', cap', cur, hv, _, hgg, _⟩
    · simp at e0
    · simp only [Value.slice.injEq, Option.some.injEq, Addr.mk.injEq] at hv
      obtain ⟨⟨rfl, _⟩, _⟩ := hv
      exact (Array.getElem?_eq_some_iff.1 hgg).1
  clear hG hgr hr hb
  go_loopw [16] (fun x wr => ∃ i : Nat, lo ≤ i ∧ i ≤ lo + m ∧ x = .int .i64 i ∧ wr.ownsRow w.heap.size 3 1 (.slice (some ⟨g, 0, none⟩) n ca) n (cellsI l) ∧
    wr.ownsRow G 4 1 (.slice (some ⟨G, 0, none⟩) n n) n (cellsB (maskB ((l.drop lo).take (i - lo)) n)) ∧ G < wr.heap.size ∧ Below w.heap.size w wr) (fun x _ => lo + m - (intOf x).toNat)
  case atStart => exact ⟨lo, Nat.le_refl _, by omega, rfl, hr3, by simpa using hown, hGs, hb3⟩
  case round =>
    obtain ⟨i, hi0, hi1, rfl, hr4', hmk, hGs, hb4⟩ := hrel
    have hb3' := hb3
    clear hown hr3 hb3
    by_cases hlt : i < lo + m
    · have hin : i < n := by omega
      have hiu : i < up := by have := HM.out; omega
      obtain ⟨x, hx⟩ : ∃ x : Nat, l.getD i 0 = (x : Int) ∧ x < n := by
        have hmem : l.getD i 0 ∈ l := by simp [List.getD, show i < l.length by omega]
        have := hM.range hmem
        exact ⟨(l.getD i 0).toNat, by omega, by omega⟩
      have hxn := hx.2
      have hxn' : (x : Int) < (n : Int) := by omega
      have c0 := hr4'.cellAt i (by omega)
      rw [cellsI_at _ _ (by omega), hx.1] at c0
      have d0 := hmk.cellAt x (by omega)
      rw [cellsB_at _ _ (by rw [maskB_length]; exact hxn)] at d0
      have df := hmk.frozenAt x
      have hst : (l.drop lo).take (i + 1 - lo) = (l.drop lo).take (i - lo) ++ [(x : Int)] := by
        rw [show i + 1 - lo = i - lo + 1 by omega, List.take_add_one, ← hx.1]
        simp [List.getElem?_drop, show lo + (i - lo) = i by omega, List.getD, show i < l.length by omega]
      have HST := Lib.hid hst
      clear hst hx
      go_wp2
      go_roundw
      case rel =>
        have hS := hmk.stored x (.bool true)
        rw [cellsB_set, maskB_snoc, ← HST.out] at hS
        exact ⟨i + 1, by omega, by omega, by go_num, hr4'.kept hS.2 (.inr (by simp [Value.ownBlock]; omega)), hS.1, by simpa [World.setCell] using hGs, hb4.grown hS.2 hb4.size (fun q hq => by cases hq; exact hGw)⟩
      case measure => simp [intOf]; omega
    · by_cases hend : i < n
      · have hup2 : up ≤ i := by have := HM.out; omega
        obtain rfl : i = lo + m := by omega
        rw [show lo + m - lo = m by omega] at hmk
        have hgw := hb4.size
        clear hr4' hb3'
        obtain ⟨A, hA⟩ : ∃ A, A = (l.drop lo).take m := ⟨_, rfl⟩
        rw [← hA] at hmk
        go_wp2_with fail
        go_loopw [17, 18, 81] (fun o x _ wr => ∃ j : Nat, j ≤ n ∧ x = .int .i64 j ∧ wr.ownsRow G 4 1 (.slice (some ⟨G, 0, none⟩) n n) n (cellsB (maskB A n)) ∧
          wr.ownsRow (G + 1) 3 1 o (pickB A j).length (cellsI (pickB A j)) ∧ G < wr.heap.size ∧ Below w.heap.size w wr) (fun _ x _ _ => n - (intOf x).toNat)
        case atStart => exact ⟨0, Nat.zero_le _, rfl, hmk, World.ownsRow_nil _ _ _ _, hGs, hb4⟩
        case round =>
          obtain ⟨j, hj, rfl, hmj, ho, hGj, hb5⟩ := hrel
          clear hmk hb4 hGs hgw
          have hpl : (pickB A j).length ≤ j := by
            have := List.length_filter_le (fun x => decide (x ∈ A)) (idL j)
            rw [idL_length] at this
            exact this
          by_cases hjn : j < n
          · have d0 := hmj.cellAt j (by omega)
            rw [cellsB_at _ _ (by rw [maskB_length]; exact hjn), maskB_getD _ _ _ hjn] at d0
            by_cases hin : (j : Int) ∈ A
            · have hps := pickB_succ A j
              rw [if_pos hin] at hps
              rw [decide_eq_true hin] at d0
              have HP := Lib.hid hps
              have HIN := Lib.hid hin
              clear hps hin
              obtain ⟨q, hq8⟩ : ∃ q, q = (pickB A j).length := ⟨_, rfl⟩
              rw [← hq8] at ho hpl
              have HQ := Lib.hid hq8
              clear hq8
              go_wp2_with (at_builtin; refine wpList_app rfl _ _ _ rfl elem43 rfl (ho.alloc _) ⟨wr.heap.size, 0, none⟩ 1 1 [.int .i64 (j : Int)] rfl rfl (cell_one_new _ _ _) (fun x hx => by simp at hx; subst hx; rfl) (by unfold maxLen; omega) (by omega) (by simp; omega) ?_; intro v' w5 hA2)
              have hown' : w5.ownsRow (G + 1) 3 1 v' (q + 1) (cellsI (pickB A (j + 1))) := by
                have := hA2.own
                rw [HP.out, cellsI_append]
                exact this
              have hlen : (pickB A (j + 1)).length = q + 1 := by rw [HP.out, List.length_append, HQ.out]; rfl
              have hgr5 := hA2.grown
              have hmj2 := (own_below hmj ((Below.refl _ wr).alloc (Nat.le_refl _) _) (Nat.le_refl _)).kept hgr5 (.inr (fun e => by have h9 : G + 1 ≤ G := (ho.lt G e.symm).1; omega))
              have hb6 : Below w.heap.size w w5 := (hb5.alloc hb5.size _).grown hgr5 (by have := hb5.size; simp; omega) (fun j e => by have := (ho.lt j e).1; omega)
              have hG6 : G < w5.heap.size := by have := hgr5.size; simp at this; omega
              clear hA2 ho hb5 hmj hgr5 hGj
              go_wp2
              go_roundw
              case rel => exact ⟨j + 1, hjn, by go_num, hmj2, by rw [hlen]; exact hown', hG6, hb6⟩
              case measure => simp [intOf]; omega
            · have hps := pickB_succ A j
              rw [if_neg hin, List.append_nil] at hps
              rw [decide_eq_false hin] at d0
              clear hin
              go_wp2
              go_roundw
              case rel => exact ⟨j + 1, hjn, by go_num, hmj, by rw [hps]; exact ho, hGj, hb5⟩
              case measure => simp [intOf]; omega
          · obtain rfl : j = n := by omega
            rw [hA, pickB_rows l j lo m hM.perm, rowsOf_length l lo m (by omega)] at ho
            obtain ⟨ao, co, rfl, _, _⟩ := own_form ho
            go_wp2
            go_ret2
            exact ⟨_, b, l, rfl, hM, own_mono ho (by omega), hb5⟩
      · have hup2 : n ≤ i := by omega
        clear hend
        obtain rfl : i = lo + m := by omega
        rw [show lo + m - lo = m by omega] at hmk
        have hgw := hb4.size
        clear hr4' hb3'
        obtain ⟨A, hA⟩ : ∃ A, A = (l.drop lo).take m := ⟨_, rfl⟩
        rw [← hA] at hmk
        go_wp2_with fail
        go_loopw [17, 18, 81] (fun o x _ wr => ∃ j : Nat, j ≤ n ∧ x = .int .i64 j ∧ wr.ownsRow G 4 1 (.slice (some ⟨G, 0, none⟩) n n) n (cellsB (maskB A n)) ∧
          wr.ownsRow (G + 1) 3 1 o (pickB A j).length (cellsI (pickB A j)) ∧ G < wr.heap.size ∧ Below w.heap.size w wr) (fun _ x _ _ => n - (intOf x).toNat)
        case atStart => exact ⟨0, Nat.zero_le _, rfl, hmk, World.ownsRow_nil _ _ _ _, hGs, hb4⟩
        case round =>
          obtain ⟨j, hj, rfl, hmj, ho, hGj, hb5⟩ := hrel
          clear hmk hb4 hGs hgw
          have hpl : (pickB A j).length ≤ j := by
            have := List.length_filter_le (fun x => decide (x ∈ A)) (idL j)
            rw [idL_length] at this
            exact this
          by_cases hjn : j < n
          · have d0 := hmj.cellAt j (by omega)
            rw [cellsB_at _ _ (by rw [maskB_length]; exact hjn), maskB_getD _ _ _ hjn] at d0
            by_cases hin : (j : Int) ∈ A
            · have hps := pickB_succ A j
              rw [if_pos hin] at hps
              rw [decide_eq_true hin] at d0
              have HP := Lib.hid hps
              have HIN := Lib.hid hin
              clear hps hin
              obtain ⟨q, hq8⟩ : ∃ q, q = (pickB A j).length := ⟨_, rfl⟩
              rw [← hq8] at ho hpl
              have HQ := Lib.hid hq8
              clear hq8
              go_wp2_with (at_builtin; refine wpList_app rfl _ _ _ rfl elem43 rfl (ho.alloc _) ⟨wr.heap.size, 0, none⟩ 1 1 [.int .i64 (j : Int)] rfl rfl (cell_one_new _ _ _) (fun x hx => by simp at hx; subst hx; rfl) (by unfold maxLen; omega) (by omega) (by simp; omega) ?_; intro v' w5 hA2)
              have hown' : w5.ownsRow (G + 1) 3 1 v' (q + 1) (cellsI (pickB A (j + 1))) := by
                have := hA2.own
                rw [HP.out, cellsI_append]
                exact this
              have hlen : (pickB A (j + 1)).length = q + 1 := by rw [HP.out, List.length_append, HQ.out]; rfl
              have hgr5 := hA2.grown
              have hmj2 := (own_below hmj ((Below.refl _ wr).alloc (Nat.le_refl _) _) (Nat.le_refl _)).kept hgr5 (.inr (fun e => by have h9 : G + 1 ≤ G := (ho.lt G e.symm).1; omega))
              have hb6 : Below w.heap.size w w5 := (hb5.alloc hb5.size _).grown hgr5 (by have := hb5.size; simp; omega) (fun j e => by have := (ho.lt j e).1; omega)
              have hG6 : G < w5.heap.size := by have := hgr5.size; simp at this; omega
              clear hA2 ho hb5 hmj hgr5 hGj
              go_wp2
              go_roundw
              case rel => exact ⟨j + 1, hjn, by go_num, hmj2, by rw [hlen]; exact hown', hG6, hb6⟩
              case measure => simp [intOf]; omega
            · have hps := pickB_succ A j
              rw [if_neg hin, List.append_nil] at hps
              rw [decide_eq_false hin] at d0
              clear hin
              go_wp2
              go_roundw
              case rel => exact ⟨j + 1, hjn, by go_num, hmj, by rw [hps]; exact ho, hGj, hb5⟩
              case measure => simp [intOf]; omega
          · obtain rfl : j = n := by omega
            rw [hA, pickB_rows l j lo m hM.perm, rowsOf_length l lo m (by omega)] at ho
            obtain ⟨ao, co, rfl, _, _⟩ := own_form ho
            go_wp2
            go_ret2
            exact ⟨_, b, l, rfl, hM, own_mono ho (by omega), hb5⟩
end Go.Proofs.Ytdddbljkhhbdlaa
