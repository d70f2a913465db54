/-
The walk of DataOnce: whatever the arguments are, the call returns true.
-/
import Derived.Test.YtdddbljkhhbdlaaAlive
import Derived.Test.YtdddbljkhhbdlaaOnceMath
namespace Go.Proofs.Ytdddbljkhhbdlaa
open Go.RowKit

/-- A batch, of an order that is known. -/
theorem batch_known (n k bi : Nat) (s ep : Int) (w : World) (h0 : 0 < n) (h1 : n ≤ 4096) (he0 : 0 ≤ ep) (he1 : ep ≤ 9223372036854775807) (hk0 : 0 < k) (hk1 : k ≤ 256) (hbi : bi < (n + k - 1) / k)
    (b0 : Int) (l0 : List Int) (hM : Mixed s (-1 - ep) n 0 (n - 1) b0 l0) :
    Calls Try.prog 46 #[.int .i64 n, .int .i64 k, .int .i64 s, .int .i64 ep, .int .i64 bi] w fun e w' => ∃ v, e = .returned (.tuple #[v, .int .i64 0]) ∧
      w'.ownsRow w.heap.size 3 1 v (min ((bi + 1) * k) n - bi * k) (cellsI (rowsOf l0 (bi * k) (min ((bi + 1) * k) n - bi * k))) ∧ Below w.heap.size w w' := by
  refine (batch_ok n k bi s ep w h0 h1 he0 he1 hk0 hk1 hbi).mono ?_
  rintro e w' ⟨v, b, l, rfl, hM', hr, hb⟩
  obtain ⟨rfl, rfl⟩ := hM.one hM'
  exact ⟨v, rfl, hr, hb⟩

theorem lo_all (n k bi : Nat) (hk : 0 < k) (h : bi < (n + k - 1) / k) : bi * k < n ∧ n ≤ (n + k - 1) / k * k := by
  have hup : (bi + 1) * k ≤ n + k - 1 := (Nat.le_div_iff_mul_le hk).1 h
  rw [Nat.add_mul] at hup
  have h1 := Nat.div_add_mod (n + k - 1) k
  have h2 := Nat.mod_lt (n + k - 1) hk
  rw [Nat.mul_comm] at h1
  omega

set_option maxRecDepth 100000 in
set_option maxHeartbeats 4000000 in
theorem once_ok (n k : Nat) (s ep : Int) (w : World) (h0 : 0 < n) (h1 : n ≤ 600) (hk0 : 0 < k) (hk1 : k ≤ 256) (he0 : 0 ≤ ep) (he1 : ep ≤ 9223372036854775807) :
    Calls Try.prog 11 #[.int .i64 n, .int .i64 k, .int .i64 s, .int .i64 ep] w fun e w' => e = .returned (.bool true) ∧ Below w.heap.size w w' := by
  obtain ⟨b0, l0, hM⟩ := Mixed.found s (-1 - ep) n 0 (by omega) (n - 1) (by omega)
  have hll := hM.length
  have hnd := hM.nodup
  obtain ⟨i0, hi, hz0, hz1, hz2⟩ := info_parts info3
  go_enter Try.func11, Try.ntmps11
  go_wp2_with fail
  refine (alive_any _).mono ?_
  rintro e w1 ⟨rfl, hb1⟩
  go_wp2_with fail
  refine (batches_ok n k _ h0 hk0 (by omega) hk1).mono ?_
  rintro e w2 ⟨rfl, rfl⟩
  obtain ⟨all, hall⟩ : ∃ all, all = (n + k - 1) / k := ⟨_, rfl⟩
  have hq9 : (n + k - 1) / k ≤ n + k - 1 := Nat.div_le_self _ _
  have hq8 : 0 < (n + k - 1) / k := Nat.div_pos (by omega) hk0
  rw [← hall] at hq9 hq8 ⊢
  have HA := Lib.hid hall
  clear hall
  go_wp2_with (refine wpList_make_full w1 rfl _ _ _ rfl w1.heap.size 3 i0 _ 1 (by kernel_rfl) hi hz0 hz1 .i64 .i64 (n : Int) (n : Int) n rfl rfl rfl rfl (by rw [hz2]; omega) (by unfold maxLen; omega) (Nat.le_refl _) ?_; intro w2 hown hg1)
  rw [made_ints, ← tally_nil] at hown
  have hb2 := hb1.grown hg1 hb1.size (fun q hq => by cases hq)
  clear hg1
  have hGw := hb1.size
  clear hb1
  obtain ⟨G, hG⟩ : ∃ G, G = w1.heap.size := ⟨_, rfl⟩
  rw [← hG] at hown hGw ⊢
  clear hG
  go_loopw [12, 13, 14, 15] (fun b _ _ _ wr => ∃ q : Nat, q ≤ all ∧ b = .int .i64 q ∧ wr.ownsRow G 3 1 (.slice (some ⟨G, 0, none⟩) n n) n (cellsI (tally (l0.take (q * k)) n)) ∧ Below w.heap.size w wr) (fun b _ _ _ _ => all - (intOf b).toNat)
  case atStart => exact ⟨0, Nat.zero_le _, rfl, by simpa using hown, hb2⟩
  case round =>
    obtain ⟨q, hq, rfl, hr, hb⟩ := hrel
    clear hown hb2
    by_cases hlt : q < all
    · obtain ⟨lo, hlo⟩ : ∃ lo, lo = q * k := ⟨_, rfl⟩
      obtain ⟨m, hm⟩ : ∃ m, m = min ((q + 1) * k) n - q * k := ⟨_, rfl⟩
      have hln : lo < n := by rw [hlo]; exact (lo_all n k q hk0 (by rw [← HA.out]; exact hlt)).1
      have hup : (q + 1) * k = lo + k := by rw [Nat.add_mul, hlo]; omega
      have hm0 : 0 < m := by rw [hm, ← hlo, hup]; omega
      have hm1 : lo + m ≤ n := by rw [hm, ← hlo, hup]; omega
      have hmk : m ≤ k := by rw [hm, ← hlo, hup]; omega
      have hnext : l0.take ((q + 1) * k) = l0.take (lo + m) := by
        rw [hup]
        by_cases h : lo + k ≤ n
        · rw [show m = k by rw [hm, ← hlo, hup]; omega]
        · rw [show lo + m = n by rw [hm, ← hlo, hup]; omega, List.take_of_length_le (by omega), List.take_of_length_le (by omega)]
      have hlast : q + 1 < all → m = k := by
        intro h
        have := (lo_all n k (q + 1) hk0 (by rw [← HA.out]; exact h)).1
        rw [hm, ← hlo, hup]
        rw [hup] at this
        omega
      have HN := Lib.hid hnext
      have HL := Lib.hid hlast
      clear hnext hlast
      go_wp2_with fail
      refine (batch_known n k q s ep _ h0 (by omega) he0 he1 hk0 hk1 (by rw [← HA.out]; exact hlt) b0 l0 hM).mono ?_
      rintro e w3 ⟨v, rfl, hs, hb3⟩
      rw [← hm, ← hlo] at hs
      rw [← hlo] at hr
      have hr3 := own_below hr hb3 (Nat.le_refl _)
      have hb4 := hb.trans (hb3.mono hb.size)
      have hGs : G < wr.heap.size := by
        rcases hr.2 with ⟨e0, _⟩ | ⟨g', cap', cur, hv, _, hg, _⟩
        · simp at e0
        · simp only [Value.slice.injEq, Option.some.injEq, Addr.mk.injEq] at hv
          obtain ⟨⟨rfl, _⟩, _⟩ := hv
          exact (Array.getElem?_eq_some_iff.1 hg).1
      obtain ⟨Bs, hBs⟩ : ∃ Bs, Bs = wr.heap.size := ⟨_, rfl⟩
      rw [← hBs] at hs hGs
      have hwr := hb.size
      rw [← hBs] at hwr
      obtain ⟨va, cs, rfl, ns, fs⟩ := own_form hs
      cases va with
      | none => exact absurd (ns rfl).1 (by omega)
      | some ds =>
      obtain ⟨gs, rfl, hgs0, hgs1⟩ := fs ds rfl
      obtain ⟨S, hS⟩ : ∃ S, S = rowsOf l0 lo m := ⟨_, rfl⟩
      rw [← hS] at hs
      have hSl : S.length = m := by rw [hS]; exact rowsOf_length _ _ _ (by omega)
      have hSx : ∀ i, i < m → 0 ≤ S.getD i 0 ∧ S.getD i 0 < n := by
        intro i hi
        have hmem : S.getD i 0 ∈ l0 := by
          apply rowsOf_mem (lo := lo) (m := m)
          rw [← hS]
          simp [List.getD, hSl, hi]
        exact hM.range hmem
      have hSr : ∀ i, i + 1 < m → S.getD i 0 < S.getD (i + 1) 0 := by
        intro i hi
        rw [hS]
        exact rowsOf_rising l0 lo m hnd i (by rw [← hS, hSl]; exact hi)
      have HT := Lib.hid (tally_batch l0 lo m n)
      rw [← hS] at HT
      have HLO := Lib.hid hlo
      clear hS hlo hm hup ns fs hb3 hr hb hBs
      by_cases hq1 : q + 1 < all
      · obtain rfl : m = k := HL.out hq1
        have hq2 : (q : Int) < (all : Int) - 1 := by omega
        have hmn : (m : Int) ≤ 600 := by omega
        have hmp : (0 : Int) < (m : Int) := by omega
        go_wp2_with fail
        go_loopw [15] (fun i wr => ∃ (j : Nat) (x : Int), j ≤ m ∧ Hid (x = (j : Int)) ∧ i = .int .i64 x ∧ wr.ownsRow G 3 1 (.slice (some ⟨G, 0, none⟩) n n) n (cellsI (tally (l0.take lo ++ S.take j) n)) ∧
          wr.ownsRow Bs 3 1 (.slice (some ⟨gs, 0, none⟩) m cs) m (cellsI S) ∧ Below w.heap.size w wr) (fun i _ => m - (intOf i).toNat)
        case atStart => exact ⟨0, 0, Nat.zero_le _, rfl, rfl, by simpa using hr3, hs, hb4⟩
        case round =>
          obtain ⟨j, xj, hj, hxj, rfl, hr4, hs4, hb5⟩ := hrel
          clear hr3 hs hb4
          by_cases hjm : j < m
          · obtain ⟨x, hx⟩ : ∃ x : Nat, S.getD j 0 = (x : Int) := ⟨(S.getD j 0).toNat, by have := (hSx j hjm).1; omega⟩
            have hxn : x < n := by have := (hSx j hjm).2; omega
            have hxn' : (x : Int) < (n : Int) := by omega
            have d0 := hs4.cellAt j (by omega)
            rw [cellsI_at _ _ (by omega), hx] at d0
            obtain ⟨c, hc⟩ : ∃ c, c = (tally (l0.take lo ++ S.take j) n).getD x 0 := ⟨_, rfl⟩
            have hc0 : 0 ≤ c := by rw [hc, tally_getD _ _ _ hxn]; exact Int.natCast_nonneg _
            have hc1 : c ≤ 4096 := by
              have := tally_le (l0.take lo ++ S.take j) n x hxn
              rw [← hc] at this
              simp at this
              omega
            have e0 := hr4.cellAt x (by omega)
            rw [cellsI_at _ _ (by rw [tally_length]; exact hxn), ← hc] at e0
            have ef := hr4.frozenAt x
            have hA : decide ((x : Int) < 0) = false := decide_eq_false (by omega)
            have hB : decide (n ≤ x) = false := decide_eq_false (by omega)
            have hst : S.take (j + 1) = S.take j ++ [(x : Int)] := by
              rw [List.take_add_one, ← hx]
              simp [List.getD, show j < S.length by omega]
            have HST := Lib.hid hst
            have HC := Lib.hid hc
            have HX := Lib.hid hx
            clear hst hc hx
            by_cases j0 : j = 0
            · subst j0
              obtain rfl : xj = 0 := hxj.out
              go_wp2
              go_big_quiet (fail)
              go_wp2
              go_roundw
              case rel =>
                have hS2 := hr4.stored x (.int .i64 (c + 1))
                rw [cellsI_set, HC.out, tally_snoc, List.append_assoc, ← HST.out] at hS2
                have hk4 := hs4.kept hS2.2 (.inr (by simp [Value.ownBlock]; omega))
                rw [HC.out]
                refine ⟨1, 1, by omega, rfl, rfl, hS2.1, by exact hk4, ?_⟩
                have hb6 := hb5.grown hS2.2 hb5.size (fun q hq => by cases hq; omega)
                exact ⟨hb6.os, hb6.tape, hb6.output, hb6.size, hb6.block⟩
              case measure => simp [intOf]; omega
            · have y0 := hSr (j - 1) (by omega)
              rw [show j - 1 + 1 = j by omega, HX.out] at y0
              obtain ⟨y, hy⟩ : ∃ y, y = S.getD (j - 1) 0 := ⟨_, rfl⟩
              have d1 := hs4.cellAt (j - 1) (by omega)
              rw [cellsI_at _ _ (by omega), ← hy] at d1
              rw [← hy] at y0
              clear hy
              have hj0 : (0 : Int) < (j : Int) := by omega
              have hj1 : (0 : Int) ≤ (j : Int) - 1 := by omega
              have hj2 : (j : Int) - 1 < (m : Int) := by omega
              have hC : decide (0 < j) = true := decide_eq_true (by omega)
              have hD : decide ((x : Int) ≤ y) = false := decide_eq_false (by omega)
              obtain rfl : xj = (j : Int) := hxj.out
              go_wp2
              go_big_quiet (fail)
              go_wp2
              go_roundw
              case rel =>
                have hS2 := hr4.stored x (.int .i64 (c + 1))
                rw [cellsI_set, HC.out, tally_snoc, List.append_assoc, ← HST.out] at hS2
                have hk4 := hs4.kept hS2.2 (.inr (by simp [Value.ownBlock]; omega))
                rw [HC.out]
                refine ⟨j + 1, (j : Int) + 1, by omega, by show (j : Int) + 1 = ((j + 1 : Nat) : Int); omega, rfl, hS2.1, by exact hk4, ?_⟩
                have hb6 := hb5.grown hS2.2 hb5.size (fun q hq => by cases hq; omega)
                exact ⟨hb6.os, hb6.tape, hb6.output, hb6.size, hb6.block⟩
              case measure => simp [intOf]; omega
          · obtain rfl : j = m := by omega
            obtain rfl : xj = (j : Int) := hxj.out
            go_wp2
            go_roundw
            case rel =>
              refine ⟨q + 1, hlt, by go_num, ?_, hb5⟩
              rw [HN.out, ← HT.out]
              rw [show S.take j = S from List.take_of_length_le (by omega)] at hr4
              exact hr4
            case measure => simp [intOf]; omega
      · have hq2 : (all : Int) - 1 ≤ (q : Int) := by omega
        clear hq1
        have hmn : (m : Int) ≤ 600 := by omega
        have hmp : (0 : Int) < (m : Int) := by omega
        go_wp2_with fail
        go_loopw [15] (fun i wr => ∃ (j : Nat) (x : Int), j ≤ m ∧ Hid (x = (j : Int)) ∧ i = .int .i64 x ∧ wr.ownsRow G 3 1 (.slice (some ⟨G, 0, none⟩) n n) n (cellsI (tally (l0.take lo ++ S.take j) n)) ∧
          wr.ownsRow Bs 3 1 (.slice (some ⟨gs, 0, none⟩) m cs) m (cellsI S) ∧ Below w.heap.size w wr) (fun i _ => m - (intOf i).toNat)
        case atStart => exact ⟨0, 0, Nat.zero_le _, rfl, rfl, by simpa using hr3, hs, hb4⟩
        case round =>
          obtain ⟨j, xj, hj, hxj, rfl, hr4, hs4, hb5⟩ := hrel
          clear hr3 hs hb4
          by_cases hjm : j < m
          · obtain ⟨x, hx⟩ : ∃ x : Nat, S.getD j 0 = (x : Int) := ⟨(S.getD j 0).toNat, by have := (hSx j hjm).1; omega⟩
            have hxn : x < n := by have := (hSx j hjm).2; omega
            have hxn' : (x : Int) < (n : Int) := by omega
            have d0 := hs4.cellAt j (by omega)
            rw [cellsI_at _ _ (by omega), hx] at d0
            obtain ⟨c, hc⟩ : ∃ c, c = (tally (l0.take lo ++ S.take j) n).getD x 0 := ⟨_, rfl⟩
            have hc0 : 0 ≤ c := by rw [hc, tally_getD _ _ _ hxn]; exact Int.natCast_nonneg _
            have hc1 : c ≤ 4096 := by
              have := tally_le (l0.take lo ++ S.take j) n x hxn
              rw [← hc] at this
              simp at this
              omega
            have e0 := hr4.cellAt x (by omega)
            rw [cellsI_at _ _ (by rw [tally_length]; exact hxn), ← hc] at e0
            have ef := hr4.frozenAt x
            have hA : decide ((x : Int) < 0) = false := decide_eq_false (by omega)
            have hB : decide (n ≤ x) = false := decide_eq_false (by omega)
            have hst : S.take (j + 1) = S.take j ++ [(x : Int)] := by
              rw [List.take_add_one, ← hx]
              simp [List.getD, show j < S.length by omega]
            have HST := Lib.hid hst
            have HC := Lib.hid hc
            have HX := Lib.hid hx
            clear hst hc hx
            by_cases j0 : j = 0
            · subst j0
              obtain rfl : xj = 0 := hxj.out
              go_wp2
              go_big_quiet (fail)
              go_wp2
              go_roundw
              case rel =>
                have hS2 := hr4.stored x (.int .i64 (c + 1))
                rw [cellsI_set, HC.out, tally_snoc, List.append_assoc, ← HST.out] at hS2
                have hk4 := hs4.kept hS2.2 (.inr (by simp [Value.ownBlock]; omega))
                rw [HC.out]
                refine ⟨1, 1, by omega, rfl, rfl, hS2.1, by exact hk4, ?_⟩
                have hb6 := hb5.grown hS2.2 hb5.size (fun q hq => by cases hq; omega)
                exact ⟨hb6.os, hb6.tape, hb6.output, hb6.size, hb6.block⟩
              case measure => simp [intOf]; omega
            · have y0 := hSr (j - 1) (by omega)
              rw [show j - 1 + 1 = j by omega, HX.out] at y0
              obtain ⟨y, hy⟩ : ∃ y, y = S.getD (j - 1) 0 := ⟨_, rfl⟩
              have d1 := hs4.cellAt (j - 1) (by omega)
              rw [cellsI_at _ _ (by omega), ← hy] at d1
              rw [← hy] at y0
              clear hy
              have hj0 : (0 : Int) < (j : Int) := by omega
              have hj1 : (0 : Int) ≤ (j : Int) - 1 := by omega
              have hj2 : (j : Int) - 1 < (m : Int) := by omega
              have hC : decide (0 < j) = true := decide_eq_true (by omega)
              have hD : decide ((x : Int) ≤ y) = false := decide_eq_false (by omega)
              obtain rfl : xj = (j : Int) := hxj.out
              go_wp2
              go_big_quiet (fail)
              go_wp2
              go_roundw
              case rel =>
                have hS2 := hr4.stored x (.int .i64 (c + 1))
                rw [cellsI_set, HC.out, tally_snoc, List.append_assoc, ← HST.out] at hS2
                have hk4 := hs4.kept hS2.2 (.inr (by simp [Value.ownBlock]; omega))
                rw [HC.out]
                refine ⟨j + 1, (j : Int) + 1, by omega, by show (j : Int) + 1 = ((j + 1 : Nat) : Int); omega, rfl, hS2.1, by exact hk4, ?_⟩
                have hb6 := hb5.grown hS2.2 hb5.size (fun q hq => by cases hq; omega)
                exact ⟨hb6.os, hb6.tape, hb6.output, hb6.size, hb6.block⟩
              case measure => simp [intOf]; omega
          · obtain rfl : j = m := by omega
            obtain rfl : xj = (j : Int) := hxj.out
            go_wp2
            go_roundw
            case rel =>
              refine ⟨q + 1, hlt, by go_num, ?_, hb5⟩
              rw [HN.out, ← HT.out]
              rw [show S.take j = S from List.take_of_length_le (by omega)] at hr4
              exact hr4
            case measure => simp [intOf]; omega
    · obtain rfl : q = all := by omega
      have hend : l0.take (q * k) = l0 := by
        have h1 := (lo_all n k 0 hk0 (by rw [← HA.out]; exact hq8)).2
        rw [← HA.out] at h1
        exact List.take_of_length_le (by omega)
      rw [hend, tally_id n hM.perm] at hr
      clear hend
      go_wp2_with fail
      go_loopw [16] (fun i wr => ∃ j : Nat, j ≤ n ∧ i = .int .i64 j ∧ wr.ownsRow G 3 1 (.slice (some ⟨G, 0, none⟩) n n) n (cellsI (List.replicate n 1)) ∧ Below w.heap.size w wr) (fun i _ => n - (intOf i).toNat)
      case atStart => exact ⟨0, Nat.zero_le _, rfl, hr, hb⟩
      case round =>
        obtain ⟨j, hj, rfl, hr4, hb4⟩ := hrel
        clear hr hb
        by_cases hjn : j < n
        · have d0 := hr4.cellAt j (by omega)
          have d1 : (cellsI (List.replicate n 1))[j]? = some (.int .i64 1) := by simp [cellsI, hjn]
          rw [d1] at d0
          clear d1
          go_wp2
          go_roundw
          case rel => exact ⟨j + 1, hjn, by go_num, hr4, hb4⟩
          case measure => simp [intOf]; omega
        · obtain rfl : j = n := by omega
          go_wp2_with fail
          refine (batch_index j k _ s ep _ h0 (by omega) he0 he1 hk0 hk1 (.inr (by rw [← HA.out]; exact Int.le_refl _))).mono ?_
          rintro e w5 ⟨rfl, hb5⟩
          go_wp2
          go_ret
          exact ⟨rfl, hb4.trans (hb5.mono hb4.size)⟩

set_option maxRecDepth 100000 in
set_option maxHeartbeats 4000000 in
theorem once_out (n k s ep : Int) (w : World) (h : n < 1 ∨ 600 < n ∨ k < 1 ∨ 256 < k ∨ ep < 0) :
    Calls Try.prog 11 #[.int .i64 n, .int .i64 k, .int .i64 s, .int .i64 ep] w fun e w' => e = .returned (.bool true) ∧ Below w.heap.size w w' := by
  have h2 : n < 1 ∨ (1 ≤ n ∧ 600 < n) ∨ ((1 ≤ n ∧ n ≤ 600) ∧ k < 1) ∨ ((1 ≤ n ∧ n ≤ 600) ∧ 1 ≤ k ∧ 256 < k) ∨ ((1 ≤ n ∧ n ≤ 600) ∧ (1 ≤ k ∧ k ≤ 256) ∧ ep < 0) := by omega
  clear h
  rcases h2 with h | ⟨g1, h⟩ | ⟨⟨g1, g2⟩, h⟩ | ⟨⟨g1, g2⟩, g3, h⟩ | ⟨⟨g1, g2⟩, ⟨g3, g4⟩, h⟩
  all_goals
    go_enter Try.func11, Try.ntmps11
    go_wp2_with fail
    refine (alive_any _).mono ?_
    rintro e w1 ⟨rfl, hb⟩
    go_wp2_with fail
    refine (alive_any _).mono ?_
    rintro e w2 ⟨rfl, hb2⟩
    go_wp2
    go_ret
    exact ⟨rfl, hb.trans (hb2.mono hb.size)⟩

theorem once_any (n k s ep : Int) (he : ep ≤ 9223372036854775807) (w : World) :
    Calls Try.prog 11 #[.int .i64 n, .int .i64 k, .int .i64 s, .int .i64 ep] w fun e w' => e = .returned (.bool true) ∧ Below w.heap.size w w' := by
  by_cases h : n < 1 ∨ 600 < n ∨ k < 1 ∨ 256 < k ∨ ep < 0
  · exact once_out n k s ep w h
  · obtain ⟨n', rfl⟩ : ∃ n' : Nat, n = n' := ⟨n.toNat, by omega⟩
    obtain ⟨k', rfl⟩ : ∃ k' : Nat, k = k' := ⟨k.toNat, by omega⟩
    exact once_ok n' k' s ep w (by omega) (by omega) (by omega) (by omega) (by omega) he
end Go.Proofs.Ytdddbljkhhbdlaa
