/-
A region that draws its order inside a round of a range over a function: what is shown of it outside a round holds inside.
-/
import Derived.OrdersHeld
import Derived.RangeFuncCalls
import Derived.Deep.RegionHeld3
import Derived.Test.YtdddbljkhhbdlaaProg
namespace Go.Proofs.Ytdddbljkhhbdlaa
open Go.RowKit

/-- What holds behind a normal end; no other end is let. -/
def OnN (K : Act → World → Prop) : Exit → Act → World → Prop
  | .normal, a, w => K a w
  | _, _, _ => False

theorem rows_round {n l : Nat} {P : Program} {row : String} {args : Array Value} {w : World} {R : Value → World → Prop} (h : Rows P row args w R) : RowsIn (Fence.wide.inRound l) n P row args w R :=
  fun c cs _ => let ⟨v, w', r, s⟩ := h c cs; ⟨v, w', r, stepsIn_wide.2 s⟩

theorem upon_round {n l : Nat} {P : Program} {o : Oper} {a : Act} {K : Act → World → Prop} {Q : Exit → Act → World → Prop} {r : Result Next} (h : o.upon P a K Q r) : o.uponIn (Fence.wide.inRound l) n P a K Q r := by
  cases r with
  | ok x w' =>
    cases x <;> simp only [Oper.upon, Oper.uponIn] at h ⊢
    case value => exact h
    case skip => exact h
    case defer => exact h
    case enter f args => exact ⟨fun h => by simp [Fence.wide] at h, CallsIn.inRound l (callsIn_wide.2 h)⟩
    case row row args => exact ⟨fun h => by simp [Fence.wide] at h, rows_round h⟩
  | halt x w' =>
    cases x <;> simp only [Oper.upon, Oper.uponIn] at h ⊢
    exact h

theorem wpOps_round {n l : Nat} {P : Program} {ops : Array Oper} {K : Act → World → Prop} (hd : ∀ (i : Nat) (o : Oper) c, ops[i]? = some o → o.op ≠ .defer c) :
    ∀ (s : List Nat) (a : Act) (w : World), wpOps P ops (OnN K) s a w → wpOpsIn (Fence.wide.inRound l) n P ops (OnN K) s a w := by
  intro s
  induction s with
  | nil => exact fun a w h => h
  | cons i rest ih =>
    intro a w h
    simp only [wpOps, wpOpsIn] at h ⊢
    cases ho : ops[i]? with
    | none =>
      simp only [ho] at h ⊢
      exact ih a w h
    | some o =>
      simp only [ho] at h ⊢
      by_cases hw : Region.wanted o (yielded ops a.tmps) = true
      · rw [if_pos hw] at h ⊢
        rcases h with h | ⟨_, a', w', hq⟩
        · refine ⟨fun _ _ => trivial, ?_⟩
          have h2 : o.upon P a (wpOpsIn (Fence.wide.inRound l) n P ops (OnN K) rest) (OnN K) ((execOp a.eval o).run P w) := by
            have hh : o.upon P a (wpOps P ops (OnN K) rest) (OnN K) ((execOp a.eval o).run P w) := h
            generalize (execOp a.eval o).run P w = r at hh ⊢
            cases r with
            | ok x w' =>
              cases x <;> simp only [Oper.upon] at hh ⊢
              case value => exact ih _ _ hh
              case skip => exact ih _ _ hh
              case defer => exact ih _ _ hh
              case enter =>
                refine Calls.mono hh fun e w'' he => ?_
                cases e
                · exact ih _ _ he
                · exact he
                · exact he
              case row => exact Rows.mono hh fun v w'' he => ih _ _ he
            | halt x w' =>
              cases x <;> simp only [Oper.upon] at hh ⊢
              exact hh
          have h3 := upon_round (n := n) (l := l) h2
          rw [← Oper.semAt_eq (some l) a.eval o (fun c => hd i o c ho)] at h3
          exact h3
        · exact hq.elim
      · rw [if_neg hw] at h ⊢
        exact ⟨fun _ _ => trivial, ih _ _ h⟩

def noDefer (ops : Array Oper) : Bool := ops.all fun o => match o.op with
  | .defer _ => false
  | _ => true
theorem noDefer_spec {ops : Array Oper} (h : noDefer ops = true) (i : Nat) (o : Oper) (c : Call) (hi : ops[i]? = some o) : o.op ≠ .defer c := by
  intro e
  have := Array.all_eq_true.1 h i (Array.getElem?_eq_some_iff.1 hi).1
  rw [(Array.getElem?_eq_some_iff.1 hi).2, e] at this
  cases this

/-- Take number i first: its slot is named. -/
theorem take_at {P : Program} {ops : Array Oper} {Q : Exit → Act → World → Prop} {md : Region.Mode} {S : World → Prop} (i : Nat) (d : Option Tmp) {v : Value} {oi : Oper} {fuel : Nat} {listed : Array Bool} {a : Act} {w : World} (hi : ops[i]? = some oi) (hd : oi.dst = d)
    (hs : Region.noSelect ops = true) (hf : Region.free md ops listed i = true) (hr : (Region.ready md ops listed).contains i = true)
    (hQ : ∀ c a w, Q (.panic c) (a.put oi.dst v) w → Q (.panic c) a w) (hw : Region.wanted oi (yielded ops a.tmps) = true) (hy : ∀ w, S w → (execOp a.eval oi).run P w = .ok (.value v) w) (hS : S w)
    (h : wpAnyH P md ops Q S fuel (listed.setIfInBounds i true) (a.put d v) w) : wpAnyH P md ops Q S (fuel + 1) listed a w := by
  subst hd
  exact wpAnyH_take hi hs hf hr hQ (.inl ⟨hw, hy⟩) hS h
/-- Number i alone may come up. -/
theorem alone_at {P : Program} {ops : Array Oper} {Q : Exit → Act → World → Prop} {md : Region.Mode} {S : World → Prop} (i : Nat) (d : Option Tmp) {oi : Oper} {fuel : Nat} {listed : Array Bool} {a : Act} {w : World} (hi : ops[i]? = some oi) (hd : oi.dst = d)
    (hr : Region.ready md ops listed = [i]) (hw : Region.wanted oi (yielded ops a.tmps) = true)
    (h : ∀ K : Act → World → Prop, Shut (∀ v w, S w → wpAnyH P md ops Q S fuel (listed.setIfInBounds i true) (a.put d v) w → K (a.put oi.dst v) w) → Oper.wp P oi a w K Q) : wpAnyH P md ops Q S (fuel + 1) listed a w := by
  subst hd
  refine wpAnyH_ready hr (by simp) (AllReadyH.cons hi (fun K hK => ?_) AllReadyH.nil)
  rw [if_pos hw]
  exact h K fun v w hS hW => hK.out _ _ hS fun _ => hW

theorem wpIn_region_round {n l : Nat} {P : Program} {id : Nat} {ops : Array Oper} {S : World → Prop} {Q : Exit → Act → World → Prop} {a : Act} {w : World} (hm : P.follows .mixedOrders = true)
    (hd : noDefer ops = true) (hS : S w.drew)
    (h : S w.drew → wpAnyH P .any ops (OnN fun a w => Q .normal a w) S ops.size (Array.replicate ops.size false) a w.drew) : (Code.region id ops true).wpIn (Fence.wide.inRound l) n P Q a w := by
  refine wpIn_mono (Q := OnN fun a w => Q .normal a w) (wpIn_region_draw fun t => ?_) (fun e a w he => ?_)
  · simp only [Region.schedule, hm, Bool.true_or, if_true]
    exact wpOps_round (fun i o c hi => noDefer_spec hd i o c hi) _ _ _ (wpAny_sound ops.size t _ a _ (wpAny_of_held _ _ _ _ (h hS)))
  · cases e <;> first | exact he | exact False.elim he
end Go.Proofs.Ytdddbljkhhbdlaa
