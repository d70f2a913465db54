/-
growInts: each list of the book is grown, one element at a time and then by many.
-/
import Derived.Test.YtdddbljkhhbdlaaGrowParts
namespace Go.Proofs.Ytdddbljkhhbdlaa
open Go.RowKit

theorem elem31 : ElemT Try.prog 31 43 (.slice none 0 0) 1 24 := ⟨Try.underlying31, by kernel_rfl, rfl, by decide⟩

/-- What growInts leaves. -/
def GrownI (w : World) (bb B n : Nat) (v0 w0 v1 w1 : Value) (V : Nat → Value) (N : Nat → Nat) (e : Ending) (w' : World) : Prop :=
  ∃ (O : Value) (V' : Nat → Value), e = .returned O ∧ GrowI w' B n n O v0 V V' N ∧ BookAt w' bb v0 w0 v1 w1 ∧ Below B w w'

set_option maxRecDepth 100000 in
set_option maxHeartbeats 2000000 in
theorem growInts_any (w : World) (bb : Nat) (v0 w0 v1 w1 : Value) (hk : BookAt w bb v0 w0 v1 w1) (B n : Nat) (hn : n ≤ 400) (hB : B ≤ w.heap.size) (V : Nat → Value) (N : Nat → Nat)
    (hv : w.ownsRow B 43 1 v0 n ((List.range n).map V))
    (hV : Lists cellsI 3 1 w B n V (fun i => marksI i 0 (N i))) (hN : ∀ i, i < n → N i ≤ 100000) :
    Calls Try.prog 66 #[.pointer (some ⟨bb, 0, none⟩)] w (GrownI w bb B n v0 w0 v1 w1 V N) := by
  have HN := Lib.hid hN
  clear hN
  obtain ⟨aa, ca, rfl, na, fa⟩ := own_form hv
  by_cases h0 : n = 0
  · subst h0
    have d0 := hk.c0
    clear na fa HN
    go_enter Try.func66, Try.ntmps66
    go_wp2
    refine wp_loop_rounds 1 ?_
    rw [rounds_succ]
    go_wp2
    go_ret
    exact ⟨_, V, rfl, ⟨World.ownsRow_nil _ _ _ _, fun j hj => absurd hj (Nat.not_lt_zero _), fun j _ hj => absurd hj (Nat.not_lt_zero _), hv, .inl rfl, hV⟩, hk, Below.refl _ _⟩
  · cases aa with
    | none => exact absurd (na rfl).1 h0
    | some da =>
    obtain ⟨ga, rfl, _, _⟩ := fa da rfl
    clear fa na
    have G0 : GrowI w B n 0 (.slice none 0 0) (.slice (some ⟨ga, 0, none⟩) n ca) V V N := ⟨World.ownsRow_nil _ _ _ _, fun j hj => absurd hj (Nat.not_lt_zero _), fun j _ hj => absurd hj (Nat.not_lt_zero _), hv, .inl rfl, hV⟩
    clear hv hV
    go_enter Try.func66, Try.ntmps66
    go_wp2
    go_loopw [3, 4] (fun O i wr => ∃ (k : Nat) (V' : Nat → Value), k ≤ n ∧ i = .int .i64 k ∧ GrowI wr B n k O (.slice (some ⟨ga, 0, none⟩) n ca) V V' N ∧ BookAt wr bb (.slice (some ⟨ga, 0, none⟩) n ca) w0 v1 w1 ∧ Below B w wr) (fun _ i _ => n - (intOf i).toNat)
    case atStart => exact ⟨0, V, Nat.zero_le _, rfl, G0, hk, Below.refl _ _⟩
    case round =>
      obtain ⟨k, V', hkn, rfl, G, hk1, hb1⟩ := hrel
      clear hk G0
      have d0 := hk1.c0
      by_cases hlt : k < n
      · have e0 := own_cellV G.top k hlt
        have L0 := LineI.start G hlt
        have hx := HN.out k hlt
        obtain ⟨a1, c1, f1, _, _⟩ := own_form L0.own
        obtain ⟨len, hlen⟩ : ∃ len, len = N k := ⟨_, rfl⟩
        rw [Nat.add_zero, ← hlen] at f1
        rw [f1] at e0 L0
        rw [← hlen] at hx
        have HL := Lib.hid hlen
        clear f1 hlen
        go_wp2
        go_loopw [5, 6] (fun l c wi => ∃ j : Nat, j ≤ 16 ∧ c = .int .i64 j ∧ LineI wi B n k V V' N l j ∧ GrowI wi B n k u3 (.slice (some ⟨ga, 0, none⟩) n ca) V V' N ∧ BookAt wi bb (.slice (some ⟨ga, 0, none⟩) n ca) w0 v1 w1 ∧ Below B w wi) (fun _ c _ => 16 - (intOf c).toNat)
        case atStart => exact ⟨0, Nat.zero_le _, rfl, L0, G, hk1, hb1⟩
        case round =>
          obtain ⟨j, hj, rfl, L1, G1, hk2, hb2⟩ := hrel
          clear L0 G hk1 hb1 d0 e0
          obtain ⟨a5, c5, f5, _, _⟩ := own_form L1.own
          rw [← HL.out] at f5
          subst f5
          by_cases hj16 : j < 16
          · go_wp2_with fail
            refine (markInts_any _ _ 1 _ (by omega) (by omega) (by omega) (by omega) (by omega) (by omega)).mono ?_
            rintro e w2 ⟨m, rfl, hm, hb3⟩
            have L2 := L1.below hb3
            have G2 := G1.below hb3
            have hk3 := hk2.below hb3
            have hb4 : Below B w w2 := hb2.trans (hb3.mono (Nat.le_trans hB hb2.size))
            have hBw : B ≤ w2.heap.size := Nat.le_trans hB hb4.size
            clear L1 G1 hk2 hb2 hb3
            have own2 : w2.ownsRow B 3 1 (.slice a5 (len + j) c5) (len + j) (cellsI (marksI k 0 (len + j))) := by
              have := L2.own
              rw [← HL.out] at this
              exact this
            simp only [Int.toNat_natCast] at hm
            rw [show ((len : Int) + (j : Int)).toNat = len + j by omega, show (1 : Int).toNat = 1 from rfl] at hm
            go_wp2_with (at_builtin; refine wpList_app_row rfl _ _ _ rfl elem43 rfl own2 rfl hm (cellsI_one _) (by unfold maxLen; omega) (by omega) hBw ?_; intro v' w3 hA)
            have hst : Hid (GrowI w3 B n k u3 (.slice (some ⟨ga, 0, none⟩) n ca) V V' N ∧ LineI w3 B n k V V' N v' (j + 1)) := by
              rw [HL.out] at hA L2
              exact grow_line G2 L2 hlt hA
            have hb5 : Below B w w3 := hb4.grown hA.grown hBw (fun q hq => (own2.lt q hq).1)
            have hk4 := hk3.grown hA.grown (hk3.ne own2 (by decide))
            clear hA L2 G2 hk3 hb4 hm
            go_roundw
            case rel => exact ⟨j + 1, hj16, by go_num, hst.out.2, hst.out.1, hk4, hb5⟩
            case measure => simp [intOf]; omega
          · obtain rfl : j = 16 := by omega
            go_wp2_with fail
            refine (markInts_any _ _ 80 _ (by omega) (by omega) (by omega) (by omega) (by omega) (by omega)).mono ?_
            rintro e w2 ⟨m, rfl, hm, hb3⟩
            have L2 := L1.below hb3
            have G2 := G1.below hb3
            have hk3 := hk2.below hb3
            have hb4 : Below B w w2 := hb2.trans (hb3.mono (Nat.le_trans hB hb2.size))
            have hBw : B ≤ w2.heap.size := Nat.le_trans hB hb4.size
            clear L1 G1 hk2 hb2 hb3
            have own2 : w2.ownsRow B 3 1 (.slice a5 (len + 16) c5) (len + 16) (cellsI (marksI k 0 (len + 16))) := by
              have := L2.own
              rw [← HL.out] at this
              exact this
            simp only [Int.toNat_natCast] at hm
            rw [show ((len : Int) + 16).toNat = len + 16 by omega, show (80 : Int).toNat = 80 from rfl] at hm
            have tok1 : True := trivial
            go_wp2_with (first
              | (at_builtin; have _t := tok1; refine wpList_app_row rfl (.tmp 34) (.tmp 38) _ rfl elem43 rfl own2 rfl hm (cellsI_one _) (by unfold maxLen; omega) (by omega) hBw ?_; intro v' w3 hA; clear tok1; obtain ⟨a6, c6, f6, _, _⟩ := own_form hA.own; subst f6; have hst := Lib.hid (grow_line G2 L2 hlt (appended_cast HL.out hA)); have hb5 : Below B w w3 := hb4.grown hA.grown hBw (fun q hq => (own2.lt q hq).1); have hk4 := hk3.grown hA.grown (hk3.ne own2 (by decide)); have hB3 : B ≤ w3.heap.size := Nat.le_trans hB hb5.size; have hO := hst.out.1.out; clear hA L2 G2 hk3 hb4 hm own2)
              | (at_builtin; refine wpList_app rfl (.tmp 33) (.tmp 40) _ rfl elem31 rfl (hO.alloc _) ⟨w3.heap.size, 0, none⟩ 1 1 [.slice a6 (len + 16 + 80) c6] rfl rfl (cell_one_new _ _ _) (fun x hx => by simp at hx; subst hx; rfl) (by unfold maxLen; omega) (by omega) (by simp; omega) ?_; intro O' w4 hA2))
            have hal := fun o => (Below.refl w3.heap.size w3).alloc (Nat.le_refl _) o
            have hfin := Lib.hid (grow_out (hst.out.1.below (hal _)) (hst.out.2.below (hal _)) hlt hA2)
            have hb6 : Below B w w4 := (hb5.alloc hB3 _).grown hA2.grown (by simp; omega) (fun q hq => (hO.lt q hq).1)
            have hk5 := (hk4.below (hal _)).grown hA2.grown (hk4.ne hO (by decide))
            clear hal hA2 hst hO hb5 hk4
            go_roundw
            case rel => exact ⟨k + 1, _, hlt, by go_num, hfin.out, hk5, hb6⟩
            case measure => simp [intOf]; omega
      · obtain rfl : k = n := by omega
        go_wp2
        go_ret
        exact ⟨_, V', rfl, G, hk1, hb1⟩
end Go.Proofs.Ytdddbljkhhbdlaa
