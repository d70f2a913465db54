/-
Lists that a call owns: what an append does to the list and to the others; several lists of one element type that lie apart.
-/
import Derived.Test.YtdddbljkhhbdlaaMath
import Derived.Deep.AppendLies
import Derived.Laws.AppendOwnNone
namespace Go.Proofs.Ytdddbljkhhbdlaa
open Go.RowKit

/-- What is asked of a slice's element type. -/
structure ElemT (P : Program) (t e : TypeId) (z : Value) (size bytes : Nat) : Prop where
  under : P.underlying t = some (.slice e)
  info : (P.info? e).map (fun i => (i.zero, i.size, i.bytes)) = some (some z, size, bytes)
  cells : z.cells.size = size
  pos : 0 < size

/-- What an append has done: the new value owns all; nothing but the old row and new blocks has turned; where the new value lies; what owned no more than was there still owns it. -/
structure Appended (w w' : World) (base : Nat) (e : TypeId) (size : Nat) (v : Value) (n : Nat) (xs news : List Value) (m : Nat) (v' : Value) : Prop where
  own : w'.ownsRow base e size v' (n + m) (xs ++ news)
  grown : w.grownBy w' v.ownBlock
  lies : v'.ownBlock = v.ownBlock ∨ v'.ownBlock = some w.heap.size
  keep : ∀ b u n' xs', w.ownsRow b e size u n' xs' → n' ≤ n → w'.ownsRow b e size u n' xs'

theorem grownBy_refl (w : World) (r : Option Nat) : w.grownBy w r := ⟨rfl, rfl, rfl, Nat.le_refl _, fun _ _ _ => rfl⟩
theorem grownBy_of_below {a w : World} (h : Below a.heap.size a w) (r : Option Nat) : a.grownBy w r := ⟨h.os, h.tape, h.output, h.size, fun i hi _ => h.block i hi⟩

theorem run_append_mine {P : Program} (w : World) (base : Nat) (t ty e : TypeId) (z : Value) (size bytes : Nat) (T : ElemT P t e z size bytes)
    (v : Value) (n : Nat) (xs : List Value) (hown : w.ownsRow base e size v n xs)
    (a : Addr) (m c : Nat) (news : List Value) (hl : news.length = m * size) (hnews : ∀ j u, news[j]? = some u → w.cell? (a.add j) = some u) (h1 : ∀ u ∈ news, u.oneCell' = true)
    (h63 : n + m ≤ maxLen) (hbytes : (n + m) * bytes ≤ 140737488355328) (hbase : base ≤ w.heap.size) :
    ∃ v' w', (Builtin.append_ #[t, t] ty #[v, .slice (some a) m c]).run P w = .ok v' w' ∧ Appended w w' base e size v n xs news m v' := by
  obtain ⟨i, hi, hz, rfl, hby⟩ := info_parts T.info
  subst hby
  have ht := T.under
  have hzs := T.cells
  have hsz := T.pos
  have hsmall : n + m ≤ 9223372036854775807 := by simp only [maxLen] at h63; omega
  have hlen : (xs ++ news).length = (n + m) * i.size := by rw [List.length_append, hown.1, hl, Nat.add_mul]
  have grown : ∀ (old : Nat), old < n + m → ∀ (row : Option Nat),
      (w.drew.alloc (.cells (xs.toArray ++ news.toArray ++ Builtin.zeroCells z.cells (grownCap w (n + m) old e - (n + m))) e)).ownsRow base e i.size
        (.slice (some ⟨w.heap.size, 0, none⟩) (n + m) (grownCap w (n + m) old e)) (n + m) (xs ++ news) ∧
      w.grownBy (w.drew.alloc (.cells (xs.toArray ++ news.toArray ++ Builtin.zeroCells z.cells (grownCap w (n + m) old e - (n + m))) e)) row ∧
      ∀ b u n' xs', w.ownsRow b e i.size u n' xs' → (w.drew.alloc (.cells (xs.toArray ++ news.toArray ++ Builtin.zeroCells z.cells (grownCap w (n + m) old e - (n + m))) e)).ownsRow b e i.size u n' xs' := by
    intro old ho row
    have hge := grownCap_ge w (n + m) old e
    have hcm : grownCap w (n + m) old e ≤ maxLen := grownCap_le_maxLen w (n + m) old e h63
    refine ⟨⟨hlen, .inr ⟨w.heap.size, _, _, rfl, hbase, heap_alloc_new w.drew _, hge, hcm, ?_, ?_⟩⟩, ⟨rfl, rfl, rfl, by simp, fun k hk _ => heap_alloc_old w.drew _ hk⟩, ?_⟩
    · simp only [Array.size_append, List.size_toArray, size_zeroCells, hzs, hown.1, hl, ← Nat.add_mul]
      congr 1
      omega
    · simp only [Array.toList_append, List.append_assoc]
      rw [← List.append_assoc, ← hlen]
      exact List.take_left
    · intro b u n' xs' hu
      exact hu.kept (row := none) ⟨rfl, rfl, rfl, by simp, fun k hk _ => heap_alloc_old w.drew _ hk⟩ (by cases u.ownBlock <;> simp)
  rcases hown.2 with ⟨rfl, rfl⟩ | ⟨g, cap, cur, rfl, hbg, hg, hnc, hcm, hcs, htake⟩
  · have hx : xs = [] := List.eq_nil_of_length_eq_zero (by simpa using hown.1)
    subst hx
    by_cases hm : m = 0
    · subst hm
      have hn : news = [] := List.eq_nil_of_length_eq_zero (by simpa using hl)
      subst hn
      refine ⟨.slice none 0 0, w, ?_, World.ownsRow_nil w base e i.size, grownBy_refl _ _, Or.inl rfl, fun _ _ _ _ h _ => h⟩
      simp [Builtin.append_, run_underlying ht, sizeOf, typeInfo, hi, Builtin.lenOf, Builtin.firstCells, loadCells, loadCellsFrom]
    · have hr := run_append_nil (P := P) w t ty e i z ht hi hz a m c news hl hnews (by omega) (by omega) (by have hb := hbytes; simp only [Nat.zero_add] at hb; omega)
      have hgr := grown 0 (by omega) (Value.ownBlock (.slice none 0 0))
      simp only [Nat.zero_add, List.nil_append, Array.empty_append] at hgr
      exact ⟨_, _, hr, ⟨by simpa only [Nat.zero_add, List.nil_append] using hgr.1, hgr.2.1, Or.inr rfl, fun b u n' xs' h _ => hgr.2.2 b u n' xs' h⟩⟩
  · by_cases hroom : n + m ≤ cap
    · have hfit : n * i.size + news.length ≤ cur.size := by rw [hl, hcs, ← Nat.add_mul]; exact Nat.mul_le_mul_right _ hroom
      have hr := run_append_room (P := P) w t ty e i ht hi g n cap cur hg a m c news hl hnews h1 hroom hfit
      have hgrow : w.grownBy (w.setRow g (cur.toList.take (n * i.size) ++ news ++ cur.toList.drop (n * i.size + news.length)).toArray) (Value.ownBlock (.slice (some ⟨g, 0, none⟩) n cap)) :=
        ⟨rfl, rfl, rfl, by simp, fun k _ hk => setRow_other w g k _ (fun e => hk (by simp [Value.ownBlock, e]))⟩
      have hsz' : (cur.toList.take (n * i.size) ++ news ++ cur.toList.drop (n * i.size + news.length)).toArray.size = cap * i.size := by
        simp only [List.size_toArray, List.length_append, List.length_take, List.length_drop, Array.length_toList]
        omega
      refine ⟨_, _, hr, ⟨⟨hlen, .inr ⟨g, cap, _, rfl, hbg, setRow_heap w g cur _ e _ hg, hroom, hcm, hsz', ?_⟩⟩, hgrow, Or.inl rfl, ?_⟩⟩
      · rw [htake, ← hlen]
        exact List.take_left
      · intro b u n' xs' hu hle
        refine ⟨hu.1, ?_⟩
        rcases hu.2 with h0 | ⟨g', cap', cur', rfl, hb', hg', hn', hc', hs', ht'⟩
        · exact .inl h0
        · by_cases hgg : g' = g
          · subst hgg
            rw [hg] at hg'
            simp only [Option.some.injEq, Obj.cells.injEq, and_true] at hg'
            obtain rfl := hg'
            refine .inr ⟨g', cap', _, rfl, hb', setRow_heap w g' cur _ e _ hg, hn', hc', hsz'.trans (hcs.symm.trans hs'), ?_⟩
            rw [← ht']
            have hle' : n' * i.size ≤ n * i.size := Nat.mul_le_mul_right _ hle
            have hl0 : n' * i.size ≤ (List.take (n * i.size) cur.toList).length := by
              rw [htake, hown.1]; exact hle'
            show List.take (n' * i.size) (List.take (n * i.size) cur.toList ++ news ++ List.drop (n * i.size + news.length) cur.toList) = _
            rw [List.append_assoc, List.take_append_of_le_length hl0, List.take_take, Nat.min_eq_left hle']
          · exact .inr ⟨g', cap', cur', rfl, hb', (setRow_other w g g' _ hgg).trans hg', hn', hc', hs', ht'⟩
    · have holds : ∀ j u, xs[j]? = some u → w.cell? ((⟨g, 0, none⟩ : Addr).add j) = some u := hown.cells (g := g) rfl
      have hr := run_append_grow (P := P) w t ty e i z ht hi hz ⟨g, 0, none⟩ n cap xs hown.1 holds a m c news hl hnews (by omega) (by omega) (growslice_fits (by omega) hbytes)
      have hgr := grown cap (by omega) (Value.ownBlock (.slice (some ⟨g, 0, none⟩) n cap))
      exact ⟨_, _, hr, ⟨hgr.1, hgr.2.1, Or.inr rfl, fun b u n' xs' h _ => hgr.2.2 b u n' xs' h⟩⟩

/-- append(v, elements..) at the walk: the source has an address. -/
theorem wpList_app {P : Program} {w : World} {ops : Array Oper} {rest : List Oper} {o : Oper} {a : Act} {Q : Exit → Act → World → Prop} (hgd : o.guard = none) (s x : Operand) (t : TypeId)
    (ho : o.op = .call { callee := .builtin .append, args := #[s, x], argTypes := #[t, t] })
    {base : Nat} {e : TypeId} {z : Value} {size bytes : Nat} (T : ElemT P t e z size bytes)
    {v : Value} {n : Nat} {xs : List Value} (hs : a.eval s = v) (hown : w.ownsRow base e size v n xs)
    (ad : Addr) (m c : Nat) (news : List Value) (hx : a.eval x = .slice (some ad) m c) (hl : news.length = m * size) (hnews : ∀ j u, news[j]? = some u → w.cell? (ad.add j) = some u) (h1 : ∀ u ∈ news, u.oneCell' = true)
    (h63 : n + m ≤ maxLen) (hbytes : (n + m) * bytes ≤ 140737488355328) (hbase : base ≤ w.heap.size)
    (h : ∀ v' w', Appended w w' base e size v n xs news m v' → wpList P ops Q rest (a.put o.dst v') w') : wpList P ops Q (o :: rest) a w := by
  refine wpList_plain hgd fun K hK => ?_
  obtain ⟨v', w', hr, hA⟩ := run_append_mine w base t o.type e z size bytes T v n xs hown ad m c news hl hnews h1 h63 hbytes hbase
  unfold Oper.wp execOp
  simp only [ho, resolve, invoke, builtin, Sem.run_bind, Sem.run_pure, Result.andThen_ok, List.map_toArray, List.map_cons, List.map_nil, hs, hx, hr]
  exact hK _ _ (h v' w' hA)

/-- append(v, list...) at the walk: the source is a list that is owned, nil or not. -/
theorem wpList_app_row {P : Program} {w : World} {ops : Array Oper} {rest : List Oper} {o : Oper} {a : Act} {Q : Exit → Act → World → Prop} (hgd : o.guard = none) (s x : Operand) (t : TypeId)
    (ho : o.op = .call { callee := .builtin .append, args := #[s, x], argTypes := #[t, t] })
    {base : Nat} {e : TypeId} {z : Value} {size bytes : Nat} (T : ElemT P t e z size bytes)
    {v : Value} {n : Nat} {xs : List Value} (hs : a.eval s = v) (hown : w.ownsRow base e size v n xs)
    {base' : Nat} {u : Value} {m : Nat} {news : List Value} (hx : a.eval x = u) (hsrc : w.ownsRow base' e size u m news) (h1 : ∀ u ∈ news, u.oneCell' = true)
    (h63 : n + m ≤ maxLen) (hbytes : (n + m) * bytes ≤ 140737488355328) (hbase : base ≤ w.heap.size)
    (h : ∀ v' w', Appended w w' base e size v n xs news m v' → wpList P ops Q rest (a.put o.dst v') w') : wpList P ops Q (o :: rest) a w := by
  rcases hsrc.2 with ⟨hu, hm⟩ | ⟨g, cap, cur, hu, _⟩
  · subst hm
    have hn : news = [] := List.eq_nil_of_length_eq_zero (by simpa using hsrc.1)
    subst hn
    obtain ⟨i, hi, _, _, _⟩ := info_parts T.info
    refine wpList_append_own_none hgd s x t ho base e i size T.under hi v n xs hs hown (hx.trans hu) (h v w ⟨by simpa using hown, grownBy_refl _ _, Or.inl rfl, fun _ _ _ _ h _ => h⟩)
  · exact wpList_app hgd s x t ho T hs hown ⟨g, 0, none⟩ m cap news (hx.trans hu) hsrc.1 (hsrc.cells (g := g) (by rw [hu]; rfl)) h1 h63 hbytes hbase h

/-- Rows of two element types do not lie in one block. -/
theorem own_other {w : World} {b1 b2 : Nat} {e1 e2 : TypeId} {s1 s2 : Nat} {v1 v2 : Value} {n1 n2 : Nat} {x1 x2 : List Value}
    (h1 : w.ownsRow b1 e1 s1 v1 n1 x1) (h2 : w.ownsRow b2 e2 s2 v2 n2 x2) (he : e1 ≠ e2) : v1.ownBlock = none ∨ v1.ownBlock ≠ v2.ownBlock := by
  rcases h1.2 with ⟨rfl, _⟩ | ⟨g, cap, cur, rfl, _, hg, _⟩
  · exact .inl rfl
  · right
    rcases h2.2 with ⟨rfl, _⟩ | ⟨g', cap', cur', rfl, _, hg', _⟩
    · simp [Value.ownBlock]
    · intro hh
      simp only [Value.ownBlock, Option.some.injEq] at hh
      subst hh
      rw [hg] at hg'
      simp only [Option.some.injEq, Obj.cells.injEq] at hg'
      exact he hg'.2.1

theorem own_below {w w' : World} {B b : Nat} {e : TypeId} {s : Nat} {v : Value} {n : Nat} {xs : List Value} (h : w.ownsRow b e s v n xs) (hb : Below B w w') (hB : w.heap.size ≤ B) : w'.ownsRow b e s v n xs :=
  h.kept (row := none) ⟨hb.os, hb.tape, hb.output, hb.size, fun k hk _ => hb.block k (by omega)⟩ (by cases v.ownBlock <;> simp)

theorem own_mono {w : World} {b b' : Nat} {e : TypeId} {s : Nat} {v : Value} {n : Nat} {xs : List Value} (h : w.ownsRow b e s v n xs) (hb : b' ≤ b) : w.ownsRow b' e s v n xs := by
  refine ⟨h.1, ?_⟩
  rcases h.2 with h0 | ⟨g, cap, cur, r1, r2, r3⟩
  · exact .inl h0
  · exact .inr ⟨g, cap, cur, r1, by omega, r3⟩

theorem own_form {w : World} {b : Nat} {e : TypeId} {s : Nat} {v : Value} {n : Nat} {xs : List Value} (h : w.ownsRow b e s v n xs) :
    ∃ a c, v = .slice a n c ∧ (a = none → n = 0 ∧ c = 0) ∧ ∀ d, a = some d → ∃ g, d = ⟨g, 0, none⟩ ∧ b ≤ g ∧ g < w.heap.size := by
  rcases h.2 with ⟨rfl, rfl⟩ | ⟨g, cap, cur, rfl, h1, h2, _⟩
  · exact ⟨none, 0, rfl, fun _ => ⟨rfl, rfl⟩, fun _ h => by cases h⟩
  · exact ⟨some ⟨g, 0, none⟩, cap, rfl, (fun h => by cases h), (fun d hd => by cases hd; exact ⟨g, rfl, h1, (Array.getElem?_eq_some_iff.1 h2).1⟩)⟩

/-- Several lists of one element type, no two of which lie in one block. 'cells' tells the cells of a list. -/
structure Lists {α : Type} (cells : List α → List Value) (e : TypeId) (sz : Nat) (w : World) (B n : Nat) (V : Nat → Value) (X : Nat → List α) : Prop where
  row : ∀ i, i < n → w.ownsRow B e sz (V i) (X i).length (cells (X i))
  apart : ∀ i j, i < n → j < n → i ≠ j → (V i).ownBlock = none ∨ (V i).ownBlock ≠ (V j).ownBlock

theorem Lists.kept {α : Type} {cells : List α → List Value} {e : TypeId} {sz : Nat} {w w' : World} {B n : Nat} {V : Nat → Value} {X : Nat → List α} {r : Option Nat}
    (h : Lists cells e sz w B n V X) (hg : w.grownBy w' r) (hne : ∀ i, i < n → (V i).ownBlock = none ∨ (V i).ownBlock ≠ r) : Lists cells e sz w' B n V X :=
  ⟨fun i hi => (h.row i hi).kept hg (hne i hi), h.apart⟩

theorem Lists.below {α : Type} {cells : List α → List Value} {e : TypeId} {sz : Nat} {w w' : World} {B n : Nat} {V : Nat → Value} {X : Nat → List α}
    (h : Lists cells e sz w B n V X) (hb : Below w.heap.size w w') : Lists cells e sz w' B n V X :=
  h.kept (grownBy_of_below hb none) (fun i _ => by cases (V i).ownBlock <;> simp)

theorem Lists.lt {α : Type} {cells : List α → List Value} {e : TypeId} {sz : Nat} {w : World} {B n : Nat} {V : Nat → Value} {X : Nat → List α}
    (h : Lists cells e sz w B n V X) {i : Nat} (hi : i < n) {g : Nat} (hg : (V i).ownBlock = some g) : B ≤ g ∧ g < w.heap.size := (h.row i hi).lt g hg

/-- One list is written: the others stay. -/
theorem Lists.update {α : Type} {cells : List α → List Value} {e : TypeId} {sz : Nat} {w w' : World} {B n : Nat} {V : Nat → Value} {X : Nat → List α} {k g : Nat} {len cap : Nat} {x : List α}
    (h : Lists cells e sz w B n V X) (hk : k < n) (hV : V k = .slice (some ⟨g, 0, none⟩) len cap) (hlen : x.length = (X k).length)
    (hg : w.grownBy w' (some g)) (hrow : w'.ownsRow B e sz (V k) (X k).length (cells x)) : Lists cells e sz w' B n V (fun i => if i = k then x else X i) := by
  refine ⟨fun i hi => ?_, h.apart⟩
  by_cases e : i = k
  · subst e
    simp only [if_true]
    rw [hlen]
    exact hrow
  · simp only [if_neg e]
    refine (h.row i hi).kept hg ?_
    rcases h.apart i k hi hk e with h0 | h0
    · exact .inl h0
    · right
      rw [hV] at h0
      exact h0

theorem Lists.congr {α : Type} {cells : List α → List Value} {e : TypeId} {sz : Nat} {w : World} {B n : Nat} {V : Nat → Value} {X Y : Nat → List α}
    (h : Lists cells e sz w B n V X) (hXY : ∀ i, i < n → X i = Y i) : Lists cells e sz w B n V Y :=
  ⟨fun i hi => by rw [← hXY i hi]; exact h.row i hi, h.apart⟩

theorem grownBy_drew (w : World) (r : Option Nat) : w.grownBy w.drew r := ⟨rfl, rfl, rfl, Nat.le_refl _, fun _ _ _ => rfl⟩
theorem grownBy_drewN (w : World) (q : Nat) (r : Option Nat) : w.grownBy (w.drewN q) r := ⟨rfl, rfl, rfl, Nat.le_refl _, fun _ _ _ => rfl⟩
theorem set_step {α : Type} (m : Nat → α) (l : List α) (j : Nat) (h : j < l.length) : ((List.range j).map m ++ l.drop j).set j (m j) = (List.range (j + 1)).map m ++ l.drop (j + 1) := by
  rw [List.set_append_right _ _ (by simp)]
  simp only [List.length_map, List.length_range, Nat.sub_self, List.range_succ, List.map_append, List.map_cons, List.map_nil, List.append_assoc, List.cons_append, List.nil_append]
  rw [List.drop_eq_getElem_cons h]
  rfl
end Go.Proofs.Ytdddbljkhhbdlaa
