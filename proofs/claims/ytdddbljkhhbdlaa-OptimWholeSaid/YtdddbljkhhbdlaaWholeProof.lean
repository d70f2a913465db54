/-
Proved: OptimWhole returns true for every two lists, shift and width, and leaves its arguments as they were.
Conditions: none beyond those that the given row states.
-/
import Derived.Test.YtdddbljkhhbdlaaWholeWalkA
import Derived.Test.YtdddbljkhhbdlaaWholeWalkB
import Derived.Test.YtdddbljkhhbdlaaOpenSet
import Derived.Test.YtdddbljkhhbdlaaPost
import Derived.WalkKit
import Derived.ProofKit
import Derived.OpenShut
namespace Go.Proofs.Ytdddbljkhhbdlaa
open Go.RowKit

theorem whole_any (v0 v1 : Value) (xs ys : List Int) (sh wd : Int) (w : World) (h0 : ReadI w v0 xs) (h1 : ReadI w v1 ys) :
    Calls Try.prog 9 #[v0, v1, .int .i64 sh, .int .i64 wd] w fun e w' => e = .returned (.bool true) ∧ Below w.heap.size w w' := by
  have form : ∀ (v : Value) (zs : List Int), ReadI w v zs → ∃ a c, v = .slice a zs.length c := by
    intro v zs h
    rcases h with ⟨rfl, rfl⟩ | ⟨b, off, c, rfl, _⟩
    · exact ⟨none, 0, rfl⟩
    · exact ⟨_, c, rfl⟩
  by_cases h : AskW xs.length ys.length sh wd
  · obtain ⟨a1, a2, a3, a4, a5, a6⟩ := h
    rcases h0 with ⟨_, rfl⟩ | ⟨b, o, c, rfl, hc, hx⟩
    · simp at a1
    rcases h1 with ⟨_, rfl⟩ | ⟨b2, o2, c2, rfl, hc2, hy⟩
    · simp at a3; omega
    obtain ⟨s, rfl⟩ := Int.eq_ofNat_of_zero_le a4
    rw [a3] at hy hc2 ⊢
    rcases a6 with rfl | rfl
    · exact whole_yes32 b o c b2 o2 c2 xs.length s xs ys w a1 a2 (by omega) hc hc2 hx hy
    · exact whole_yes64 b o c b2 o2 c2 xs.length s xs ys w a1 a2 (by omega) hc hc2 hx hy
  · obtain ⟨p, c, rfl⟩ := form v0 xs h0
    obtain ⟨p2, c2, rfl⟩ := form v1 ys h1
    exact whole_no p p2 xs.length ys.length c c2 sh wd w h
end Go.Proofs.Ytdddbljkhhbdlaa
namespace Go.Proofs.Ytdddbljkhhbdlaa.optimWhole
open Go.ChangeShapes Go.WideShapes Go.ChangeAt Go.RowKit

theorem own : ownKnob Try.prog.godebug = none := by kernel_rfl

set_option maxRecDepth 100000 in
theorem list_in {H : Type} {enc : TypeId × Value → H} {W : World} {base : Nat} {v : Value} {d : DataW H} {p : List MemPlace} {b0 : Nat} {spare : Nat → Bool} {held : Bool} (hok : Value.okWide Try.prog W .any b0 43 v)
    (h : ∃ fuel, DataW.trod enc Try.prog W base spare held fuel 43 v.cells.toList = some (d, p)) (hw : ∀ n ∈ DataW.weights Try.prog 43 d, n ≤ reachBytes) : ∃ xs : List Int, ListIn W v xs := by
  obtain ⟨fuel, hf⟩ := h
  simp only [Value.okWide, Try.underlying43] at hok
  obtain ⟨a, n, c, rfl⟩ : ∃ a n c, v = .slice a n c := by
    cases v <;> simp [Cell.okWide, Try.underlying43, Cell.ok] at hok ⊢
  exact open_list hf hw (r := .any) (b0 := b0) hok

set_option maxRecDepth 100000 in
theorem lifted (os : Os) (started : os.Started) (H : Type) (enc : TypeId × Value → H) :
    ReturnsInHanded {} Try.checked os 9 .any (Rows.optimWholeSpec.pre6 enc Try.prog Try.f9 Rows.optimWholeRow.domain false) (Rows.optimWholeSpec.post enc Try.prog Try.f9 false true false false) := by
  refine returnsInHanded_of_change_sized (C := Try.checked) own started (by kernel_rfl) Try.func9
    (ChangeSpec.witness6 (enc := enc) (C := Try.checked) false ⟨#[], #[.slice none 0 0, .slice none 0 0, .int .i64 0, .int .i64 0], []⟩ 8 (by kernel_rfl) (by kernel_rfl) (by kernel_rfl) (by kernel_rfl)) ?_
  intro W base args ds gs before hval0 hW hcnd hsz0 _
  have hval : ∀ (j : Nat) t v, Try.f9.params[j]? = some t → args[j]? = some v → Value.okWide Try.prog W .any base t v := hval0
  have hsz : (DataW.weightsEach Try.prog (Try.f9.params.toList ++ Rows.optimWholeSpec.plain.varTypes Try.prog) (ds ++ gs)).all (· ≤ reachBytes) = true := hsz0
  have hW' := hW
  obtain ⟨p, q, hA0, hV, rfl, hfz, hnd⟩ := hW
  have hA : DataW.TrodAll enc Try.prog W 0 (fun _ => true) true Try.f9.params.toList args.toList ds p := hA0
  rw [Try.params9] at hA hval hsz
  obtain ⟨v0, vs0, d0, ds0, p0, q0, hargs, rfl, rfl, h0, r0⟩ := trodAll_cons hA
  obtain ⟨v1, vs1, d1, ds1, p1, q1, hvs, rfl, rfl, h1, r1⟩ := trodAll_cons r0
  obtain ⟨v2, vs2, d2, ds2, p2, q2, hvs2, rfl, rfl, h2, r2⟩ := trodAll_cons r1
  obtain ⟨v3, vs3, d3, ds3, p3, q3, hvs3, rfl, rfl, h3, r3⟩ := trodAll_cons r2
  obtain ⟨rfl, rfl, rfl⟩ := trodAll_nil r3
  subst hvs3 hvs2 hvs
  obtain rfl : args = #[v0, v1, v2, v3] := by cases args; simp_all
  obtain ⟨rfl, rfl⟩ := trodVars_none hV
  have h0k := h0
  have h1k := h1
  have hlt : ∀ x ∈ p0, x.block < W.heap.size := fun x hx => by simpa using hW'.lt x (by simp [hx])
  have hlt1 : ∀ x ∈ p1, x.block < W.heap.size := fun x hx => by simpa using hW'.lt x (by simp [hx])
  obtain ⟨a2, rfl, rfl, rfl, w2⟩ := open_int Try.underlying3 (hval 2 3 v2 rfl rfl) h2
  obtain ⟨a3, rfl, rfl, rfl, w3⟩ := open_int Try.underlying3 (hval 3 3 v3 rfl rfl) h3
  obtain ⟨xs, g1⟩ := list_in (hval 0 43 v0 rfl rfl) h0 (fun n hn => by
    have := List.all_eq_true.1 hsz n (DataW.weights_mem_each (j := 0) (t := 43) (d := d0) rfl rfl n hn)
    simpa using this)
  obtain ⟨ys, g2⟩ := list_in (hval 1 43 v1 rfl rfl) h1 (fun n hn => by
    have := List.all_eq_true.1 hsz n (DataW.weights_mem_each (j := 1) (t := 43) (d := d1) rfl rfl n hn)
    simpa using this)
  clear hA0 hval0
  simp only [List.append_nil] at hW'
  refine (whole_any v0 v1 xs ys a2 a3 W g1.read g2.read).mono fun e W' ⟨he, hg⟩ => ?_
  subst he
  exact ⟨_, rfl, post_of_below (pa := p0 ++ p1) (pv := []) hW' (fun _ _ _ => (trodAll_cons_mk (shut_bool Try.underlying4 _) trodAll_mk0)) (fun sp hsp => by
    have hk := trodAll_cons_mk (WideElems.Trod_stays laidOut (by kernel_rfl) (of_decide_eq_true (by kernel_rfl)) h0k (fun x hx => hg.same (hlt x hx)) (fun x hx => hsp x (by simp [hx])))
      (trodAll_cons_mk (WideElems.Trod_stays laidOut (by kernel_rfl) (of_decide_eq_true (by kernel_rfl)) h1k (fun x hx => hg.same (hlt1 x hx)) (fun x hx => hsp x (by simp [hx])))
        (trodAll_cons_mk (shut_int Try.underlying3 w2) (trodAll_cons_mk (shut_int Try.underlying3 w3) (trodAll_mk0 (enc := enc) (P := Try.prog) (w := W') (base := 0) (spare := sp) (held := true)))))
    simp only [List.append_nil] at hk
    exact hk) (fun _ _ => rfl) (by simp)
    hg (ok_one (by kernel_rfl) rfl (okWide_bool_mk Try.underlying4 _))⟩

theorem over : Rows.optimWholeRow.holds Try.pinned (OpenSpec.ofChange Rows.optimWholeSpec) :=
  OpenClaim.holds_of_wide 9 Try.f9 rfl rfl rfl rfl rfl rfl rfl ⟨rfl, rfl, rfl, rfl, rfl⟩ rfl rfl rfl rfl rfl (by kernel_rfl) Try.func9 (by kernel_rfl)
    (of_decide_eq_true (by kernel_rfl)) (by unfold Func.isWrapper; first | (rw [if_pos (by decide +kernel)]; kernel_rfl) | (rw [if_neg (by decide +kernel)]; exact ⟨rfl, rfl⟩))
    (fun os started H enc _ => lifted os started H enc)

/-- ████ THE STATEMENT ████ -/
theorem proved : Rows.OptimWholeSaid :=
  over
#print axioms proved
end Go.Proofs.Ytdddbljkhhbdlaa.optimWhole
