/-
Proved: DataRows returns true for every set and every list of numbers, and leaves its arguments as they were.
Conditions: none beyond those that the given row states.
-/
import Derived.Below
import Derived.ChangeSame
import Derived.ProofKit
import Derived.Test.YtdddbljkhhbdlaaRows
import Derived.Test.YtdddbljkhhbdlaaSet
import Derived.OpenShut
import Derived.SizedLaws
import Derived.ChangeSlices
import Derived.ChangeArms
import Derived.Carry
import Derived.Test.YtdddbljkhhbdlaaRowsWalk
import Derived.WalkKit
namespace Go.Proofs.Ytdddbljkhhbdlaa
open Go.RowKit Go.WideShapes Go.ChangeShapes
section
variable {H : Type} {enc : TypeId × Value → H} {P : Program}
theorem post_of_below {f : Func} {s : ChangeSpec} {apart fresh handsOn again : Bool} {W W' : World} {args : Array Value} {v : Value} {ds gs : List (DataW H)} {before pa pv : List MemPlace}
    (hW : DataW.Whole enc P f.params.toList s.vars apart W args.toList ds gs before)
    (hres : ∀ (b : Nat) (sp : Nat → Bool) (hd : Bool), DataW.TrodAll enc P W' b sp hd f.resultTypes.toList (v.resultList f.resultTypes.size) (s.fn H (ds ++ gs)).results [])
    (hargs : ∀ sp : Nat → Bool, (∀ p ∈ before, sp p.block = true) → DataW.TrodAll enc P W' 0 sp true f.params.toList args.toList (s.fn H (ds ++ gs)).args pa)
    (hvars : ∀ sp : Nat → Bool, (∀ p ∈ before, sp p.block = true) → DataW.TrodVars enc P W' sp s.vars (s.fn H (ds ++ gs)).vars pv)
    (hps : before = pa ++ pv) (hb : Below W.heap.size W W')
    (hok : ∀ (j : Nat) (t : TypeId) (r : Value), f.resultTypes[j]? = some t → (v.resultList f.resultTypes.size)[j]? = some r → Value.okWide P W' .any 0 t r) :
    s.post enc P f apart fresh handsOn again W args v W' := by
  have hlt : ∀ p ∈ before, p.block < W.heap.size := fun p hp => hW.lt p hp
  have hold : ∀ p ∈ before, (fun b => decide (b < W.heap.size)) p.block = true := fun p hp => by simpa using hlt p hp
  refine ⟨ds, gs, before, [], pa, pv, hW, hres _ _ _, hargs _ hold, hvars _ hold, World.keptBut_mono (fun p hp => ⟨hp, ?_⟩) (hb.frame (· ∈ before)), fun _ => ?_⟩
  · rw [hps, List.mem_append] at hp
    exact Or.inr hp
  · obtain ⟨_, _, _, _, _, hz, hn⟩ := hW
    refine ⟨hok, _, _, ([] ++ pa) ++ pv, ⟨[] ++ pa, pv, trodAll_append (hargs _ (fun _ _ => rfl)) (hres _ _ _), hvars _ (fun _ _ => rfl), rfl, ?_, ?_⟩, ?_⟩
    · intro b off hp
      have hin : MemPlace.cell b off ∈ before := by rw [hps]; simpa using hp
      rw [hb.frozen (hlt _ hin)]
      exact hz b off hin
    · intro ha
      have := hn ha
      rw [hps] at this
      simpa using this
    · intro p hp _
      rw [hps]
      simpa using hp
end
end Go.Proofs.Ytdddbljkhhbdlaa
namespace Go.Proofs.Ytdddbljkhhbdlaa
open Go.ChangeShapes Go.WideShapes Go.ChangeAt Go.RowKit

theorem cells47 : Try.prog.cellsOf 47 = 8 := by kernel_rfl
theorem cells45 : Try.prog.cellsOf 45 = 4 := by kernel_rfl
theorem cells43 : Try.prog.cellsOf 43 = 1 := by kernel_rfl
theorem cells3 : Try.prog.cellsOf 3 = 1 := by kernel_rfl
theorem bytes3 : Try.prog.bytesOf 3 = 8 := by kernel_rfl
theorem laidOut : laidOutB Try.prog = true := by kernel_rfl

theorem wf_i64 {x : Int} (h : (Lit.int .i64 x).wf = true) : -9223372036854775808 ≤ x ∧ x ≤ 9223372036854775807 := by
  simp [Lit.wf, IntKind.min, IntKind.max, IntKind.signed, IntKind.bits] at h
  omega

/-- What is known of a list of numbers that came in. -/
structure ListIn (w : World) (v : Value) (xs : List Int) : Prop where
  read : ReadI w v xs
  len : xs.length ≤ 17592186044416
  range : ∀ x, x ∈ xs → -9223372036854775808 ≤ x ∧ x ≤ 9223372036854775807

section
variable {H : Type} {enc : TypeId × Value → H} {w : World} {base : Nat} {spare : Nat → Bool} {held : Bool}

set_option maxRecDepth 100000 in
theorem spot_none {r : Reach} {b0 : Nat} {a : Addr} {len cap : Nat} (h : Cell.okWide Try.prog w r b0 43 (.slice (some a) len cap)) : a.spot = none := by
  simp only [Cell.okWide, Try.underlying43, Cell.ok] at h
  exact h.2.2.2.1

set_option maxRecDepth 100000 in
theorem open_list {fuel : Nat} {v : Value} {x : DataW H × List MemPlace} {r : Reach} {b0 : Nat} (h : DataW.trod enc Try.prog w base spare held fuel 43 [v] = some x) (hw : ∀ n ∈ x.1.weights Try.prog 43, n ≤ reachBytes)
    (hok : Cell.okWide Try.prog w r b0 43 v) : ∃ xs : List Int, ListIn w v xs := by
  rcases open_ints Try.underlying43 Try.underlying3 cells3 h with ⟨hv, rfl⟩ | ⟨a, len, cap, zs, hv, hb, hl, hm, hzs, rfl, hcell, hwf⟩
  · cases hv
    exact ⟨[], .inl ⟨rfl, rfl⟩, by simp, fun x hx => by simp at hx⟩
  · cases hv
    have hlz : len ≤ zs.length := by
      rw [hzs]
      split <;> omega
    have hwt : zs.length * 8 ≤ reachBytes := by
      have := hw (((lits (H := H) .i64 (zs.take len)).length + (lits (H := H) .i64 (zs.drop len)).length) * Try.prog.bytesOf 3) (by simp [DataW.weights, Try.underlying43])
      rw [bytes3] at this
      simp [lits] at this
      omega
    have hrb := reachBytes_lt
    have hlen : (zs.take len).length = len := by simp; omega
    have hspot := spot_none hok
    obtain ⟨b, off, sp⟩ := a
    dsimp only at hspot
    subst hspot
    refine ⟨zs.take len, .inr ⟨b, off, cap, by rw [hlen], by rw [hlen]; exact hl, fun j hj => ?_⟩, ?_, ?_⟩
    · rw [hlen] at hj
      have hc := hcell j (by omega)
      have he : (⟨b, off + j, none⟩ : Addr) = (⟨b, off, none⟩ : Addr).add j := by
        unfold Addr.add
        by_cases j0 : j = 0
        · subst j0; rfl
        · rw [if_neg j0]
      rw [he, hc]
      congr 2
      simp [List.getD, hj]
    · rw [hlen]; omega
    · exact fun x hx => wf_i64 (hwf x (List.mem_of_mem_take hx))

set_option maxRecDepth 100000 in
theorem open_mat {fuel : Nat} {c0 c1 c2 c3 : Value} {x : DataW H × List MemPlace} {r : Reach} {b0 : Nat} (h : DataW.trod enc Try.prog w base spare held fuel 45 [c0, c1, c2, c3] = some x) (hw : ∀ n ∈ x.1.weights Try.prog 45, n ≤ reachBytes)
    (hok : Cell.okWide Try.prog w r b0 43 c3) : ∃ (R C W : Int) (xs : List Int), c0 = .int .i64 R ∧ c1 = .int .i64 C ∧ c2 = .int .i64 W ∧ ListIn w c3 xs := by
  obtain ⟨ys, n, _, rfl, _, hlen, hg⟩ := DataW.trod_struct Try.underlying45 h
  match ys, hlen with
  | [y0, y1, y2, y3], _ =>
    have g0 : DataW.trod enc Try.prog w base spare held n 3 (([c0, c1, c2, c3].drop 0).take (Try.prog.cellsOf 3)) = [y0, y1, y2, y3][0]? := hg 0 _ rfl
    have g1 : DataW.trod enc Try.prog w base spare held n 3 (([c0, c1, c2, c3].drop 1).take (Try.prog.cellsOf 3)) = [y0, y1, y2, y3][1]? := hg 1 _ rfl
    have g2 : DataW.trod enc Try.prog w base spare held n 3 (([c0, c1, c2, c3].drop 2).take (Try.prog.cellsOf 3)) = [y0, y1, y2, y3][2]? := hg 2 _ rfl
    have g3 : DataW.trod enc Try.prog w base spare held n 43 (([c0, c1, c2, c3].drop 3).take (Try.prog.cellsOf 43)) = [y0, y1, y2, y3][3]? := hg 3 _ rfl
    rw [cells3] at g0 g1 g2
    rw [cells43] at g3
    simp only [List.drop_zero, List.drop_succ_cons, List.take_succ_cons, List.take_zero, List.getElem?_cons_zero, List.getElem?_cons_succ] at g0 g1 g2 g3
    obtain ⟨R, hR, _, _⟩ := DataW.trod_int Try.underlying3 g0
    obtain ⟨C, hC, _, _⟩ := DataW.trod_int Try.underlying3 g1
    obtain ⟨W, hW, _, _⟩ := DataW.trod_int Try.underlying3 g2
    cases hR
    cases hC
    cases hW
    obtain ⟨xs, hx⟩ := open_list g3 (fun m hm => hw m (by simp [DataW.weights, Try.underlying45, DataW.weightsEach, hm])) hok
    exact ⟨R, C, W, xs, rfl, rfl, rfl, hx⟩

set_option maxRecDepth 100000 in
theorem open_set {r : Reach} {b0 : Nat} {v : Value} {d : DataW H} {p : List MemPlace} (hv : Value.okWide Try.prog w r b0 47 v) (h : DataW.Trod enc Try.prog w base spare held 47 v d p) (hw : ∀ n ∈ d.weights Try.prog 47, n ≤ reachBytes) :
    ∃ (R C W : Int) (u : Value) (xs : List Int) (R2 C2 W2 : Int) (u2 : Value) (ys : List Int), v = setV R C W u R2 C2 W2 u2 ∧ ListIn w u xs ∧ ListIn w u2 ys := by
  have hv0 := hv
  simp only [Value.okWide, Try.underlying47] at hv0
  obtain ⟨cs, rfl, hsz, ts, hts, _, hcell⟩ := hv0
  have hts2 : Try.prog.cellTypes Try.prog.depth 47 = some [3, 3, 3, 43, 3, 3, 3, 43] := by kernel_rfl
  rw [hts2] at hts
  cases hts
  rw [cells47] at hsz
  obtain ⟨l⟩ := cs
  match l, hsz with
  | [c0, c1, c2, c3, c4, c5, c6, c7], _ =>
    obtain ⟨u3, e3, o3⟩ := hcell 3 c3 rfl
    obtain ⟨u7, e7, o7⟩ := hcell 7 c7 rfl
    cases e3
    cases e7
    obtain ⟨fuel, hf⟩ := h
    obtain ⟨ys, n, _, hx, _, hlen, hg⟩ := DataW.trod_struct Try.underlying47 hf
    match ys, hlen with
    | [y0, y1], _ =>
      have g0 : DataW.trod enc Try.prog w base spare held n 45 (((Value.agg #[c0, c1, c2, c3, c4, c5, c6, c7]).cells.toList.drop 0).take (Try.prog.cellsOf 45)) = [y0, y1][0]? := hg 0 _ rfl
      have g1 : DataW.trod enc Try.prog w base spare held n 45 (((Value.agg #[c0, c1, c2, c3, c4, c5, c6, c7]).cells.toList.drop 4).take (Try.prog.cellsOf 45)) = [y0, y1][1]? := hg 1 _ rfl
      rw [cells45] at g0 g1
      simp only [Value.cells, List.drop_zero, List.drop_succ_cons, List.take_succ_cons, List.take_zero, List.getElem?_cons_zero, List.getElem?_cons_succ] at g0 g1
      simp only [Prod.mk.injEq] at hx
      obtain ⟨rfl, _⟩ := hx
      obtain ⟨R, C, W, xs, rfl, rfl, rfl, h1⟩ := open_mat g0 (fun m hm => hw m (by simp [DataW.weights, Try.underlying47, DataW.weightsEach, hm])) o3
      obtain ⟨R2, C2, W2, ys, rfl, rfl, rfl, h2⟩ := open_mat g1 (fun m hm => hw m (by simp [DataW.weights, Try.underlying47, DataW.weightsEach, hm])) o7
      exact ⟨R, C, W, c3, xs, R2, C2, W2, c7, ys, rfl, h1, h2⟩
end
end Go.Proofs.Ytdddbljkhhbdlaa
namespace Go.Proofs.Ytdddbljkhhbdlaa.dataRows
open Go.ChangeShapes Go.WideShapes Go.ChangeAt Go.RowKit

theorem own : ownKnob Try.prog.godebug = none := by kernel_rfl

set_option maxRecDepth 100000 in
theorem lifted (os : Os) (started : os.Started) (H : Type) (enc : TypeId × Value → H) :
    ReturnsInHanded {} Try.checked os 6 .any (Rows.dataRowsSpec.pre6 enc Try.prog Try.f6 Rows.dataRowsRow.domain false) (Rows.dataRowsSpec.post enc Try.prog Try.f6 false true false false) := by
  refine returnsInHanded_of_change_sized (C := Try.checked) own started (by kernel_rfl) Try.func6
    (ChangeSpec.witness6 (enc := enc) (C := Try.checked) false ⟨#[], #[.agg #[.int .i64 0, .int .i64 0, .int .i64 0, .slice none 0 0, .int .i64 0, .int .i64 0, .int .i64 0, .slice none 0 0], .slice none 0 0], []⟩ 8 (by kernel_rfl) (by kernel_rfl) (by kernel_rfl) (by kernel_rfl)) ?_
  intro W base args ds gs before hval0 hW hcnd hsz0 _
  have hval : ∀ (j : Nat) t v, Try.f6.params[j]? = some t → args[j]? = some v → Value.okWide Try.prog W .any base t v := hval0
  have hsz : (DataW.weightsEach Try.prog (Try.f6.params.toList ++ Rows.dataRowsSpec.plain.varTypes Try.prog) (ds ++ gs)).all (· ≤ reachBytes) = true := hsz0
  have hW' := hW
  obtain ⟨p, q, hA0, hV, rfl, hfz, hnd⟩ := hW
  have hA : DataW.TrodAll enc Try.prog W 0 (fun _ => true) true Try.f6.params.toList args.toList ds p := hA0
  rw [Try.params6] at hA hval hsz
  obtain ⟨v0, vs0, d0, ds0, p0, q0, hargs, rfl, rfl, h0, r0⟩ := trodAll_cons hA
  obtain ⟨v1, vs1, d1, ds1, p1, q1, hvs, rfl, rfl, h1, r1⟩ := trodAll_cons r0
  obtain ⟨rfl, rfl, rfl⟩ := trodAll_nil r1
  subst hvs
  obtain rfl : args = #[v0, v1] := by cases args; simp_all
  obtain ⟨rfl, rfl⟩ := trodVars_none hV
  have h0k := h0
  have h1k := h1
  have hlt : ∀ x ∈ p0, x.block < W.heap.size := fun x hx => by simpa using hW'.lt x (by simp [hx])
  have hlt1 : ∀ x ∈ p1, x.block < W.heap.size := fun x hx => by simpa using hW'.lt x (by simp [hx])
  obtain ⟨R, C, wd, u, xs, R2, C2, wd2, u2, ys, rfl, g1, g2⟩ := open_set (hval 0 47 v0 rfl rfl) h0 (fun n hn => by
    have := List.all_eq_true.1 hsz n (DataW.weights_mem_each (j := 0) (t := 47) (d := d0) rfl rfl n hn)
    simpa using this)
  obtain ⟨rows, g3⟩ : ∃ rows : List Int, ListIn W v1 rows := by
    obtain ⟨fuel, hf⟩ := h1
    have hok := hval 1 43 v1 rfl rfl
    simp only [Value.okWide, Try.underlying43] at hok
    obtain ⟨a, n, c, rfl⟩ : ∃ a n c, v1 = .slice a n c := by
      cases v1 <;> simp [Cell.okWide, Try.underlying43, Cell.ok] at hok ⊢
    refine open_list hf (fun n hn => ?_) (r := .any) (b0 := base) ?_
    · have := List.all_eq_true.1 hsz n (DataW.weights_mem_each (j := 1) (t := 43) (d := d1) rfl rfl n hn)
      simpa using this
    · exact hok
  clear hA0 hval0
  simp only [List.append_nil] at hW'
  have e1 := g1.len
  have e2 := g2.len
  refine (rows_any R C wd u xs R2 C2 wd2 u2 ys v1 rows W g1.read g2.read g3.read (by omega) (by omega) g1.range g2.range).mono fun e W' ⟨he, hg⟩ => ?_
  subst he
  exact ⟨_, rfl, post_of_below (pa := p0 ++ p1) (pv := []) hW' (fun _ _ _ => (trodAll_cons_mk (shut_bool Try.underlying4 _) trodAll_mk0)) (fun sp hsp => by
    have hk := trodAll_cons_mk (WideElems.Trod_stays laidOut (by kernel_rfl) (of_decide_eq_true (by kernel_rfl)) h0k (fun x hx => hg.same (hlt x hx)) (fun x hx => hsp x (by simp [hx])))
      (trodAll_cons_mk (WideElems.Trod_stays laidOut (by kernel_rfl) (of_decide_eq_true (by kernel_rfl)) h1k (fun x hx => hg.same (hlt1 x hx)) (fun x hx => hsp x (by simp [hx]))) (trodAll_mk0 (enc := enc) (P := Try.prog) (w := W') (base := 0) (spare := sp) (held := true)))
    rw [List.append_nil] at hk
    exact hk) (fun _ _ => rfl) (by simp)
    hg (ok_one (by kernel_rfl) rfl (okWide_bool_mk Try.underlying4 _))⟩

theorem over : Rows.dataRowsRow.holds Try.pinned (OpenSpec.ofChange Rows.dataRowsSpec) :=
  OpenClaim.holds_of_wide 6 Try.f6 rfl rfl rfl rfl rfl rfl rfl ⟨rfl, rfl, rfl, rfl, rfl⟩ rfl rfl rfl rfl rfl (by kernel_rfl) Try.func6 (by kernel_rfl)
    (of_decide_eq_true (by kernel_rfl)) (by unfold Func.isWrapper; first | (rw [if_pos (by decide +kernel)]; kernel_rfl) | (rw [if_neg (by decide +kernel)]; exact ⟨rfl, rfl⟩))
    (fun os started H enc _ => lifted os started H enc)

/-- ████ THE STATEMENT ████ -/
theorem proved : Rows.DataRowsSaid :=
  over
#print axioms proved
end Go.Proofs.Ytdddbljkhhbdlaa.dataRows
