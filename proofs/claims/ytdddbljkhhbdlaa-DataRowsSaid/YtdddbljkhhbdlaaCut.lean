/-
The contract of data.cut: some rows, as a matrix.
-/
import Derived.Test.YtdddbljkhhbdlaaRefCut
import Derived.BigRegion
namespace Go.Proofs.Ytdddbljkhhbdlaa
open Go.RowKit

theorem step_ran {P : Program} {w : World} {ops : Array Oper} {o : Oper} {a : Act} {K : Act → World → Prop} {Q : Exit → Act → World → Prop} {E : Prop} (hgd : o.guard = none) (s x : Operand) (t : TypeId)
    (ho : o.op = .call { callee := .builtin .append, args := #[s, x], argTypes := #[t, t] }) {v u v' : Value} {w' : World} (hs : a.eval s = v) (hx : a.eval x = u)
    (h : (Builtin.append_ #[t, t] o.type #[v, u]).run P w = .ok v' w') (hK : K (a.put o.dst v') w') : if Region.wanted o (yielded ops a.tmps) = true then Oper.wp P o a w K Q else E := by
  have hw : Region.wanted o (yielded ops a.tmps) = true := by simp [Region.wanted, hgd]
  rw [if_pos hw]
  unfold Oper.wp execOp
  simp only [ho, resolve, invoke, builtin, Sem.run_bind, Sem.run_pure, Result.andThen_ok, List.map_toArray, List.map_cons, List.map_nil, hs, hx, h]
  exact hK

/-- The numbers of some rows. -/
def rowsI (c : Nat) (xs : List Int) (rs : List Int) : List Int := rs.flatMap fun r => rowI c xs r.toNat
theorem rowsI_snoc (c : Nat) (xs rs : List Int) (r : Int) : rowsI c xs (rs ++ [r]) = rowsI c xs rs ++ rowI c xs r.toNat := by simp [rowsI]
theorem rowsI_length (c : Nat) (xs rs : List Int) (R : Nat) (hl : xs.length = R * c) (h : ∀ r, r ∈ rs → 0 ≤ r ∧ r < R) : (rowsI c xs rs).length = rs.length * c := by
  induction rs with
  | nil => simp [rowsI]
  | cons r rs ih =>
    have hr := h r (by simp)
    have h1 : (rowI c xs r.toNat).length = c := by
      refine rowI_length c xs _ ?_
      have : (r.toNat + 1) * c ≤ R * c := Nat.mul_le_mul_right c (by omega)
      rw [Nat.add_mul] at this
      omega
    have h2 := ih fun q hq => h q (by simp [hq])
    have e : rowsI c xs (r :: rs) = rowI c xs r.toNat ++ rowsI c xs rs := by simp [rowsI]
    rw [e, List.length_append, h1, h2, List.length_cons, Nat.add_mul]
    omega

theorem boxesM3 (w : World) (r c wd : Int) (v : Value) (r2 c2 wd2 : Int) (v2 : Value) (r3 c3 wd3 : Int) (v3 : Value) : ∃ w1, w1 = ((w.alloc (.cells #[.int .i64 r, .int .i64 c, .int .i64 wd, v] 45)).alloc (.cells #[.int .i64 r2, .int .i64 c2, .int .i64 wd2, v2] 45)).alloc (.cells #[.int .i64 r3, .int .i64 c3, .int .i64 wd3, v3] 45) ∧
    MatAt w1 w.heap.size r c wd v ∧ MatAt w1 (w.heap.size + 1) r2 c2 wd2 v2 ∧ MatAt w1 (w.heap.size + 1 + 1) r3 c3 wd3 v3 ∧ Below w.heap.size w w1 ∧ w1.heap.size = w.heap.size + 3 := by
  obtain ⟨w1, e1, hM, hM2, hb1, hs1⟩ := boxesM w r c wd v r2 c2 wd2 v2
  rw [← e1]
  obtain ⟨w2, e2, hM3, hb2, hs2⟩ := boxM w1 r3 c3 wd3 v3
  rw [← e2]
  rw [hs1] at hM3
  exact ⟨w2, rfl, hM.below hb2, hM2.below hb2, hM3, hb1.trans (hb2.mono (by omega)), by omega⟩
theorem MatAt.set3 {w : World} {g : Nat} {r c wd : Int} {v : Value} (h : MatAt w g r c wd v) (u : Value) : MatAt (w.setCell ⟨g, 3, none⟩ u) g r c wd u := by
  refine ⟨?_⟩
  simp only [World.setCell, Array.getElem?_modify, if_true, h.block, Option.map_some]
  rfl

set_option maxRecDepth 100000 in
set_option maxHeartbeats 4000000 in
theorem cut_any (R C n : Nat) (wd : Int) (b off cp : Nat) (xs rs : List Int) (ar : Addr) (cr : Nat) (w : World) (hcp : R * C ≤ cp) (hcell : ∀ j, j < xs.length → w.cell? ⟨b, off + j, none⟩ = some (.int .i64 (xs.getD j 0)))
    (hrs : ReadI w (.slice (some ar) n cr) rs) (hn : rs.length = n) (hn1 : n ≤ 5000)
    (hr : ∀ r, r ∈ rs → 0 ≤ r ∧ r < R) (hC0 : 0 < C) (hR1 : R ≤ 4096) (hC1 : C ≤ 4096) (hRC : R * C ≤ 4096) (hl : xs.length = R * C) :
    Calls Try.prog 85 #[matV R C wd (.slice (some ⟨b, off, none⟩) (R * C) cp), .slice (some ar) n cr] w fun e w' => ∃ v', e = .returned (matV n C wd v') ∧ w'.ownsRow w.heap.size 3 1 v' (n * C) (cellsI (rowsI C xs rs)) ∧ Below w.heap.size w w' := by
  have HCELL := Lib.hid hcell
  have HRS := Lib.hid hrs
  have HN := Lib.hid hn
  have HR := Lib.hid hr
  have HL := Lib.hid hl
  obtain ⟨len, hlen9⟩ : ∃ len, len = R * C := ⟨_, rfl⟩
  rw [← hlen9] at hcp hRC ⊢
  have HLEN := Lib.hid hlen9
  clear hcell hrs hn hr hl hlen9
  unfold matV
  go_enter Try.func85, Try.ntmps85
  rcases HRS.out with ⟨h, _⟩ | ⟨lb, lo, lc, hval, _, hcr⟩
  · simp at h
  simp only [Value.slice.injEq, Option.some.injEq] at hval
  obtain ⟨rfl, hv1, hv2⟩ := hval
  clear hv1 hv2
  have HCR := Lib.hid hcr
  clear hcr
  go_wp2_with fail
  obtain ⟨w1, hw1, hM, hZ, hO, hb1, hs1⟩ := boxesM3 w R C wd (.slice (some ⟨b, off, none⟩) len cp) 0 0 0 (.slice none 0 0) n C wd (.slice none 0 0)
  rw [← hw1]
  clear hw1
  go_loopw [7, 17] (fun _ i wr => ∃ (k : Nat) (vk : Value), k ≤ n ∧ i = .int .i64 k ∧ MatAt wr w.heap.size R C wd (.slice (some ⟨b, off, none⟩) len cp) ∧ MatAt wr (w.heap.size + 1) 0 0 0 (.slice none 0 0) ∧ MatAt wr (w.heap.size + 1 + 1) n C wd vk ∧
    wr.ownsRow (w.heap.size + 3) 3 1 vk (k * C) (cellsI (rowsI C xs (rs.take k))) ∧ w.heap.size + 3 ≤ wr.heap.size ∧ Below w.heap.size w wr) (fun _ i _ => n - (intOf i).toNat)
  case atStart => exact ⟨0, _, Nat.zero_le _, rfl, hM, hZ, hO, by rw [Nat.zero_mul]; exact World.ownsRow_nil _ _ _ _, by omega, hb1⟩
  case round =>
    obtain ⟨k, vk, hk, rfl, hM2, hZ2, hO2, hrow, hsz, hb2⟩ := hrel
    clear hM hZ hO hb1 hs1
    by_cases hlt : k < n
    · have hkl : k < rs.length := by rw [HN.out]; exact hlt
      have hmem : rs.getD k 0 ∈ rs := by simp [List.getD, hkl]
      have hr9 := HR.out _ hmem
      have e0 : wr.cell? ⟨lb, lo + k, none⟩ = some (.int .i64 (rs.getD k 0)) := (hb2.cell (p := ⟨lb, lo + k, none⟩) (by exact World.block_lt_of_cell? _ _ (HCR.out k hkl))).trans (HCR.out k hkl)
      obtain ⟨row, hrw⟩ : ∃ row : Nat, rs.getD k 0 = (row : Int) := ⟨(rs.getD k 0).toNat, by omega⟩
      have hrowR : row < R := by omega
      rw [hrw] at e0
      have htk : rs.take (k + 1) = rs.take k ++ [(row : Int)] := by
        rw [List.take_add_one, ← hrw]
        simp [List.getD, hkl]
      have HTK := Lib.hid htk
      clear htk hmem hr9 hrw hkl
      obtain ⟨fr, hfr⟩ : ∃ fr, fr = row * C := ⟨_, rfl⟩
      have hfr1 : fr + C ≤ len := by
        rw [HLEN.out]
        have : (row + 1) * C ≤ R * C := Nat.mul_le_mul_right C hrowR
        rw [Nat.add_mul] at this
        omega
      have q1 : (row : Int) * (C : Int) = (fr : Int) := by rw [hfr]; simp
      have q2 : ((row : Int) + 1) * (C : Int) = (fr : Int) + (C : Int) := by rw [Int.add_mul, q1]; simp
      have q3 : IntKind.i64.wrap (fr : Int) = (fr : Int) := i64_small _ (by omega) (by omega)
      have q4 : IntKind.i64.wrap ((row : Int) + 1) = (row : Int) + 1 := i64_small _ (by omega) (by omega)
      have q5 : IntKind.i64.wrap ((fr : Int) + (C : Int)) = (fr : Int) + (C : Int) := i64_small _ (by omega) (by omega)
      have hlen := rowI_length C xs row (by rw [← hfr, HL.out, ← HLEN.out]; exact hfr1)
      have hlc : (cellsI (rowI C xs row)).length = C * 1 := by rw [cellsI_length, hlen]
      have hmem : ∀ j u, (cellsI (rowI C xs row))[j]? = some u → wr.drew.cell? ((⟨b, off + fr, none⟩ : Addr).add j) = some u := by
        intro j u hu
        have hj : j < C := by
          have := (List.getElem?_eq_some_iff.1 hu).1
          rw [hlc] at this
          omega
        rw [cellsI_at _ _ (by rw [hlen]; exact hj), rowI_getD C xs row j hj, ← hfr] at hu
        have hx := HCELL.out (fr + j) (by rw [HL.out, ← HLEN.out]; omega)
        rw [← Nat.add_assoc] at hx
        have h := ((hb2.cell (p := ⟨b, off + fr + j, none⟩) (by exact World.block_lt_of_cell? _ _ hx)).trans hx).trans hu
        show wr.cell? (if j = 0 then _ else _) = some u
        by_cases j0 : j = 0
        · subst j0; exact h
        · rw [if_neg j0]; exact h
      obtain ⟨ys, hys⟩ : ∃ ys, ys = rowI C xs row := ⟨_, rfl⟩
      rw [← hys] at hmem hlc
      have HMEM := Lib.hid hmem
      have HLC := Lib.hid hlc
      have HYS := Lib.hid hys
      clear hmem hlc hys hlen hfr
      have hne : ¬ fr + C = fr := by omega
      have r1 : 0 ≤ (fr : Int) + (C : Int) := by omega
      have r2 : (fr : Int) + (C : Int) ≤ (cp : Int) := by omega
      have r3 : ((fr : Int) + (C : Int)).toNat = fr + C := by omega
      have r4 : fr ≤ fr + C := by omega
      have r5 : ¬ cp = fr := by omega
      have r6 : fr + C - fr = C := by omega
      have hkc : k * C ≤ 20480000 := by
        have := Nat.mul_le_mul (show k ≤ 5000 by omega) hC1
        omega
      obtain ⟨kc, hkc9⟩ : ∃ kc, kc = k * C := ⟨_, rfl⟩
      rw [← hkc9] at hrow hkc
      have HKC := Lib.hid hkc9
      clear hkc9
      obtain ⟨ak, ck, rfl, _, _⟩ := own_form hrow
      have c1 := hM2.c1
      have c3 := hM2.c3
      have o3 := hO2.c3
      have hMd : MatAt wr.drew w.heap.size R C wd (.slice (some ⟨b, off, none⟩) len cp) := ⟨hM2.block⟩
      have hZd : MatAt wr.drew (w.heap.size + 1) 0 0 0 (.slice none 0 0) := ⟨hZ2.block⟩
      have hOd : MatAt wr.drew (w.heap.size + 1 + 1) n C wd (.slice ak kc ck) := ⟨hO2.block⟩
      have hgo : ∀ g, g < w.heap.size + 3 → some g ≠ (Value.slice ak kc ck).ownBlock := fun g hg e => by have := (hrow.lt g e.symm).1; omega
      have HGO := Lib.hid hgo
      clear hgo
      have hrd : wr.drew.ownsRow (w.heap.size + 3) 3 1 (.slice ak kc ck) kc (cellsI (rowsI C xs (rs.take k))) := hrow
      go_wp2_with fail
      obtain ⟨v', w3, happ, hA3⟩ := run_append_mine (P := Try.prog) wr.drew (w.heap.size + 3) 43 43 3 (.int .i64 0) 1 8 elem43 (.slice ak kc ck) kc (cellsI (rowsI C xs (rs.take k))) hrd ⟨b, off + fr, none⟩ C (cp - fr) (cellsI ys) HLC.out HMEM.out (cellsI_one _) (by unfold maxLen; omega) (by omega) (by exact hsz)
      have hc5 := hA3.own
      rw [← cellsI_append] at hc5
      obtain ⟨a5, c5, f5, _, _⟩ := own_form hc5
      subst f5
      have hM3 := hMd.grown hA3.grown (HGO.out _ (by omega))
      have hZ3 := hZd.grown hA3.grown (HGO.out _ (by omega))
      have hO3 := hOd.grown hA3.grown (HGO.out _ (by omega))
      have d1 := hM3.c1
      have d3 := hM3.c3
      have p3 := hO3.c3
      have y3 := hO3.free 3
      have g5 := grownBy_setCell w3 (w.heap.size + 1 + 1) 3 (.slice a5 (kc + C) c5)
      have hM5 := hM3.grown g5 (by simp; omega)
      have hZ5 := hZ3.grown g5 (by simp)
      have hO5 := hO3.set3 (.slice a5 (kc + C) c5)
      have hne5 : (Value.slice a5 (kc + C) c5).ownBlock = none ∨ (Value.slice a5 (kc + C) c5).ownBlock ≠ some (w.heap.size + 1 + 1) := by
        cases h : (Value.slice a5 (kc + C) c5).ownBlock with
        | none => exact .inl rfl
        | some q => right; intro e; cases e; have := (hc5.lt _ h).1; omega
      have hc9 := hc5.kept g5 hne5
      rw [HYS.out] at hc9
      have e9 : kc + C = (k + 1) * C := by rw [HKC.out, Nat.add_mul]; omega
      have hx9 : rowsI C xs (rs.take k) ++ rowI C xs row = rowsI C xs (rs.take (k + 1)) := by rw [HTK.out, rowsI_snoc]; simp
      rw [hx9] at hc9
      have hb9 : Below w.heap.size w w3 := (hb2.drew).grown hA3.grown (by exact hb2.size) (fun q hq => by have := (hrow.lt q hq).1; omega)
      have hb10 := hb9.grown g5 hb9.size (fun q hq => by cases hq; omega)
      have hs9 : w.heap.size + 3 ≤ w3.heap.size := Nat.le_trans hsz hA3.grown.size
      have hend : ∃ (k' : Nat) (vk : Value), k' ≤ n ∧ Value.int IntKind.i64 ((k : Int) + 1) = .int .i64 (k' : Nat) ∧ MatAt (w3.setCell ⟨w.heap.size + 1 + 1, 3, none⟩ (.slice a5 (kc + C) c5)) w.heap.size R C wd (.slice (some ⟨b, off, none⟩) len cp) ∧
          MatAt (w3.setCell ⟨w.heap.size + 1 + 1, 3, none⟩ (.slice a5 (kc + C) c5)) (w.heap.size + 1) 0 0 0 (.slice none 0 0) ∧ MatAt (w3.setCell ⟨w.heap.size + 1 + 1, 3, none⟩ (.slice a5 (kc + C) c5)) (w.heap.size + 1 + 1) n C wd vk ∧
          (w3.setCell ⟨w.heap.size + 1 + 1, 3, none⟩ (.slice a5 (kc + C) c5)).ownsRow (w.heap.size + 3) 3 1 vk (k' * C) (cellsI (rowsI C xs (rs.take k'))) ∧ w.heap.size + 3 ≤ (w3.setCell ⟨w.heap.size + 1 + 1, 3, none⟩ (.slice a5 (kc + C) c5)).heap.size ∧
          Below w.heap.size w (w3.setCell ⟨w.heap.size + 1 + 1, 3, none⟩ (.slice a5 (kc + C) c5)) :=
        ⟨k + 1, .slice a5 (kc + C) c5, hlt, by simp, hM5, hZ5, hO5, by rw [← e9]; exact hc9, by simpa [World.setCell] using hs9, hb10⟩
      have HEND := Lib.hid hend
      clear hend hM5 hZ5 hO5 hne5 hc9 e9 hx9 hb9 hb10 hs9 g5 hM3 hZ3 hO3 hc5
      go_region_law
        (first | ((refine step_ran (by rfl) (.tmp 22) (.tmp 34) 43 (by rfl) (by rfl) (by rfl) happ ?_)))
      all_goals
        go_wp2
        go_roundw
        case rel => exact HEND.out
        case measure => simp [intOf]; omega
    · obtain rfl : k = n := by omega
      have hall : rs.take k = rs := List.take_of_length_le (by rw [HN.out]; exact Nat.le_refl _)
      rw [hall] at hrow
      have o0 := hO2.c0
      have o1 := hO2.c1
      have o2 := hO2.c2
      have o3 := hO2.c3
      have z0 := hZ2.c0
      have z1 := hZ2.c1
      have z2 := hZ2.c2
      have z3 := hZ2.c3
      have y0 := hZ2.free 0
      have y1 := hZ2.free 1
      have y2 := hZ2.free 2
      have y3 := hZ2.free 3
      obtain ⟨av, cv, rfl, _, _⟩ := own_form hrow
      go_wp2
      obtain ⟨w4, hw4, hM4, hg4⟩ := hZ2.put4 k C wd (.slice av (k * C) cv)
      rw [← hw4]
      clear hw4 z0 z1 z2 z3 y0 y1 y2 y3 o0 o1 o2 o3
      have z0 := hM4.c0
      have z1 := hM4.c1
      have z2 := hM4.c2
      have z3 := hM4.c3
      refine bodyPost_ret (by simp [results, Try.results85, go_sem, z0, z1, z2, z3]; try rfl) rfl ?_
      have hne4 : (Value.slice av (k * C) cv).ownBlock = none ∨ (Value.slice av (k * C) cv).ownBlock ≠ some (w.heap.size + 1) := by
        cases h : (Value.slice av (k * C) cv).ownBlock with
        | none => exact .inl rfl
        | some q => right; intro e; cases e; have := (hrow.lt _ h).1; omega
      exact ⟨_, rfl, own_mono (hrow.kept hg4 hne4) (by omega), hb2.grown hg4 hb2.size (fun q hq => by cases hq; omega)⟩
end Go.Proofs.Ytdddbljkhhbdlaa
