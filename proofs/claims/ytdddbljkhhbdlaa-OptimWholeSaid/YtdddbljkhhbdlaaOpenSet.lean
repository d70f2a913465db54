/-
A set that came in: its cells, its lists of numbers.
-/
import Derived.Test.YtdddbljkhhbdlaaRows
import Derived.Test.YtdddbljkhhbdlaaSet
import Derived.ProofKit
import Derived.OpenShut
import Derived.SizedLaws
import Derived.ChangeSlices
import Derived.ChangeArms
import Derived.Carry
namespace Go.Proofs.Ytdddbljkhhbdlaa
open Go.ChangeShapes Go.WideShapes Go.ChangeAt Go.RowKit

theorem cells47 : Try.prog.cellsOf 47 = 8 := by kernel_rfl
theorem cells45 : Try.prog.cellsOf 45 = 4 := by kernel_rfl
theorem cells43 : Try.prog.cellsOf 43 = 1 := by kernel_rfl
theorem cells3 : Try.prog.cellsOf 3 = 1 := by kernel_rfl
theorem bytes3 : Try.prog.bytesOf 3 = 8 := by kernel_rfl
theorem laidOut : laidOutB Try.prog = true := by kernel_rfl

theorem wf_i64 {x : Int} (h : (Lit.int .i64 x).wf = true) : -9223372036854775808 ≤ x ∧ x ≤ 9223372036854775807 := by
  simp [Lit.wf, IntKind.min, IntKind.max, IntKind.signed, IntKind.bits] at h
  omega

/-- What is known of a list of numbers that came in. -/
structure ListIn (w : World) (v : Value) (xs : List Int) : Prop where
  read : ReadI w v xs
  len : xs.length ≤ 17592186044416
  range : ∀ x, x ∈ xs → -9223372036854775808 ≤ x ∧ x ≤ 9223372036854775807

section
variable {H : Type} {enc : TypeId × Value → H} {w : World} {base : Nat} {spare : Nat → Bool} {held : Bool}

set_option maxRecDepth 100000 in
theorem spot_none {r : Reach} {b0 : Nat} {a : Addr} {len cap : Nat} (h : Cell.okWide Try.prog w r b0 43 (.slice (some a) len cap)) : a.spot = none := by
  simp only [Cell.okWide, Try.underlying43, Cell.ok] at h
  exact h.2.2.2.1

set_option maxRecDepth 100000 in
theorem open_list {fuel : Nat} {v : Value} {x : DataW H × List MemPlace} {r : Reach} {b0 : Nat} (h : DataW.trod enc Try.prog w base spare held fuel 43 [v] = some x) (hw : ∀ n ∈ x.1.weights Try.prog 43, n ≤ reachBytes)
    (hok : Cell.okWide Try.prog w r b0 43 v) : ∃ xs : List Int, ListIn w v xs := by
  rcases open_ints Try.underlying43 Try.underlying3 cells3 h with ⟨hv, rfl⟩ | ⟨a, len, cap, zs, hv, hb, hl, hm, hzs, rfl, hcell, hwf⟩
  · cases hv
    exact ⟨[], .inl ⟨rfl, rfl⟩, by simp, fun x hx => by simp at hx⟩
  · cases hv
    have hlz : len ≤ zs.length := by
      rw [hzs]
      split <;> omega
    have hwt : zs.length * 8 ≤ reachBytes := by
      have := hw (((lits (H := H) .i64 (zs.take len)).length + (lits (H := H) .i64 (zs.drop len)).length) * Try.prog.bytesOf 3) (by simp [DataW.weights, Try.underlying43])
      rw [bytes3] at this
      simp [lits] at this
      omega
    have hrb := reachBytes_lt
    have hlen : (zs.take len).length = len := by simp; omega
    have hspot := spot_none hok
    obtain ⟨b, off, sp⟩ := a
    dsimp only at hspot
    subst hspot
    refine ⟨zs.take len, .inr ⟨b, off, cap, by rw [hlen], by rw [hlen]; exact hl, fun j hj => ?_⟩, ?_, ?_⟩
    · rw [hlen] at hj
      have hc := hcell j (by omega)
      have he : (⟨b, off + j, none⟩ : Addr) = (⟨b, off, none⟩ : Addr).add j := by
        unfold Addr.add
        by_cases j0 : j = 0
        · subst j0; rfl
        · rw [if_neg j0]
      rw [he, hc]
      congr 2
      simp [List.getD, hj]
    · rw [hlen]; omega
    · exact fun x hx => wf_i64 (hwf x (List.mem_of_mem_take hx))

set_option maxRecDepth 100000 in
theorem open_mat {fuel : Nat} {c0 c1 c2 c3 : Value} {x : DataW H × List MemPlace} {r : Reach} {b0 : Nat} (h : DataW.trod enc Try.prog w base spare held fuel 45 [c0, c1, c2, c3] = some x) (hw : ∀ n ∈ x.1.weights Try.prog 45, n ≤ reachBytes)
    (hok : Cell.okWide Try.prog w r b0 43 c3) : ∃ (R C W : Int) (xs : List Int), c0 = .int .i64 R ∧ c1 = .int .i64 C ∧ c2 = .int .i64 W ∧ ListIn w c3 xs := by
  obtain ⟨ys, n, _, rfl, _, hlen, hg⟩ := DataW.trod_struct Try.underlying45 h
  match ys, hlen with
  | [y0, y1, y2, y3], _ =>
    have g0 : DataW.trod enc Try.prog w base spare held n 3 (([c0, c1, c2, c3].drop 0).take (Try.prog.cellsOf 3)) = [y0, y1, y2, y3][0]? := hg 0 _ rfl
    have g1 : DataW.trod enc Try.prog w base spare held n 3 (([c0, c1, c2, c3].drop 1).take (Try.prog.cellsOf 3)) = [y0, y1, y2, y3][1]? := hg 1 _ rfl
    have g2 : DataW.trod enc Try.prog w base spare held n 3 (([c0, c1, c2, c3].drop 2).take (Try.prog.cellsOf 3)) = [y0, y1, y2, y3][2]? := hg 2 _ rfl
    have g3 : DataW.trod enc Try.prog w base spare held n 43 (([c0, c1, c2, c3].drop 3).take (Try.prog.cellsOf 43)) = [y0, y1, y2, y3][3]? := hg 3 _ rfl
    rw [cells3] at g0 g1 g2
    rw [cells43] at g3
    simp only [List.drop_zero, List.drop_succ_cons, List.take_succ_cons, List.take_zero, List.getElem?_cons_zero, List.getElem?_cons_succ] at g0 g1 g2 g3
    obtain ⟨R, hR, _, _⟩ := DataW.trod_int Try.underlying3 g0
    obtain ⟨C, hC, _, _⟩ := DataW.trod_int Try.underlying3 g1
    obtain ⟨W, hW, _, _⟩ := DataW.trod_int Try.underlying3 g2
    cases hR
    cases hC
    cases hW
    obtain ⟨xs, hx⟩ := open_list g3 (fun m hm => hw m (by simp [DataW.weights, Try.underlying45, DataW.weightsEach, hm])) hok
    exact ⟨R, C, W, xs, rfl, rfl, rfl, hx⟩

set_option maxRecDepth 100000 in
theorem open_set {r : Reach} {b0 : Nat} {v : Value} {d : DataW H} {p : List MemPlace} (hv : Value.okWide Try.prog w r b0 47 v) (h : DataW.Trod enc Try.prog w base spare held 47 v d p) (hw : ∀ n ∈ d.weights Try.prog 47, n ≤ reachBytes) :
    ∃ (R C W : Int) (u : Value) (xs : List Int) (R2 C2 W2 : Int) (u2 : Value) (ys : List Int), v = setV R C W u R2 C2 W2 u2 ∧ ListIn w u xs ∧ ListIn w u2 ys := by
  have hv0 := hv
  simp only [Value.okWide, Try.underlying47] at hv0
  obtain ⟨cs, rfl, hsz, ts, hts, _, hcell⟩ := hv0
  have hts2 : Try.prog.cellTypes Try.prog.depth 47 = some [3, 3, 3, 43, 3, 3, 3, 43] := by kernel_rfl
  rw [hts2] at hts
  cases hts
  rw [cells47] at hsz
  obtain ⟨l⟩ := cs
  match l, hsz with
  | [c0, c1, c2, c3, c4, c5, c6, c7], _ =>
    obtain ⟨u3, e3, o3⟩ := hcell 3 c3 rfl
    obtain ⟨u7, e7, o7⟩ := hcell 7 c7 rfl
    cases e3
    cases e7
    obtain ⟨fuel, hf⟩ := h
    obtain ⟨ys, n, _, hx, _, hlen, hg⟩ := DataW.trod_struct Try.underlying47 hf
    match ys, hlen with
    | [y0, y1], _ =>
      have g0 : DataW.trod enc Try.prog w base spare held n 45 (((Value.agg #[c0, c1, c2, c3, c4, c5, c6, c7]).cells.toList.drop 0).take (Try.prog.cellsOf 45)) = [y0, y1][0]? := hg 0 _ rfl
      have g1 : DataW.trod enc Try.prog w base spare held n 45 (((Value.agg #[c0, c1, c2, c3, c4, c5, c6, c7]).cells.toList.drop 4).take (Try.prog.cellsOf 45)) = [y0, y1][1]? := hg 1 _ rfl
      rw [cells45] at g0 g1
      simp only [Value.cells, List.drop_zero, List.drop_succ_cons, List.take_succ_cons, List.take_zero, List.getElem?_cons_zero, List.getElem?_cons_succ] at g0 g1
      simp only [Prod.mk.injEq] at hx
      obtain ⟨rfl, _⟩ := hx
      obtain ⟨R, C, W, xs, rfl, rfl, rfl, h1⟩ := open_mat g0 (fun m hm => hw m (by simp [DataW.weights, Try.underlying47, DataW.weightsEach, hm])) o3
      obtain ⟨R2, C2, W2, ys, rfl, rfl, rfl, h2⟩ := open_mat g1 (fun m hm => hw m (by simp [DataW.weights, Try.underlying47, DataW.weightsEach, hm])) o7
      exact ⟨R, C, W, c3, xs, R2, C2, W2, c7, ys, rfl, h1, h2⟩
end
end Go.Proofs.Ytdddbljkhhbdlaa
